/- Rules for walking through compact code, step by step. Conditions: none (a library text). -/
import Derived.Test.YtnbmngpdbnkhaaaC7Call
set_option linter.unusedVariables false
set_option linter.unusedSimpArgs false
namespace Go.Sk
open Go.RowKit

mutual
theorem renV_none (f : Nat → Nat) : ∀ x : AV, idsV x = [] → renV f x = x
  | .int .., _ | .bool _, _ | .str _, _ | .flt _, _ | .nil _, _ | .fz .., _ | .pz .., _ | .nilp, _ | .un, _ => rfl
  | .sref .., h | .ptr .., h | .ptrA .., h | .ptrE .., h => by simp [idsV] at h
  | .arr l, h => by simp only [idsV] at h; simp [renV, renL_none f l h]
  | .agg l, h => by simp only [idsV] at h; simp [renV, renL_none f l h]
  | .tup l, h => by simp only [idsV] at h; simp [renV, renL_none f l h]
theorem renL_none (f : Nat → Nat) : ∀ l : List AV, idsL l = [] → renL f l = l
  | [], _ => rfl
  | x :: xs, h => by simp [idsL] at h; simp [renL, renV_none f x h.1, renL_none f xs h.2]
end

section
variable {P : Program} {kf : Nat} {env : Env} {rows rows' : List Row} {os : List MOper} {ds : List DOp} {op : MOp} {d t : Nat} {b c : Bool} {v : AV} {K : Env → List Row → Prop} {KC : Ex → Env → List Row → Prop}

/-! ### Operations in the text's order -/
theorem wpOp_of (h : stepOp (Opd.get env) rows op = some (v, rows')) {KO : AV → List Row → Prop} (k : KO v rows') : Sk.wpOp P op env rows KO := by
  cases op <;> first | exact ⟨v, rows', h, k⟩ | (simp [stepOp] at h)

theorem op_step (h : stepOp (Opd.get env) rows op = some (v, rows')) (k : Sk.wpOps P os ((d, v) :: env) rows' K) : Sk.wpOps P (⟨some d, op, none⟩ :: os) env rows K := wpOp_of h k
theorem op_step0 (h : stepOp (Opd.get env) rows op = some (v, rows')) (k : Sk.wpOps P os env rows' K) : Sk.wpOps P (⟨none, op, none⟩ :: os) env rows K := wpOp_of h k
theorem op_bool (h : stepOp (Opd.get env) rows op = some (.bool c, rows')) (k : ∀ c', c = c' → Sk.wpOps P os ((d, .bool c') :: env) rows' K) : Sk.wpOps P (⟨some d, op, none⟩ :: os) env rows K := wpOp_of h (k c rfl)
theorem op_fcall {f : Nat} {args : List Opd} (h : FCall P f (args.map (Opd.get env)) v) (k : Sk.wpOps P os ((d, v) :: env) rows K) : Sk.wpOps P (⟨some d, .call f args, none⟩ :: os) env rows K := h.cw k
theorem op_fcallb {f : Nat} {args : List Opd} (h : FCall P f (args.map (Opd.get env)) (.bool c)) (k : ∀ c', c = c' → Sk.wpOps P os ((d, .bool c') :: env) rows K) : Sk.wpOps P (⟨some d, .call f args, none⟩ :: os) env rows K := h.cw (k c rfl)
theorem op_ecall {f : Nat} {args : List Opd} {S : AV → Prop} (h : FCallE P f (args.map (Opd.get env)) S) (k : ∀ v, S v → Sk.wpOps P os ((d, v) :: env) rows K) : Sk.wpOps P (⟨some d, .call f args, none⟩ :: os) env rows K := h.cw k
/-- A call that answers yes or no. -/
def IsBool (v : AV) : Prop := ∃ b, v = .bool b
theorem op_bcall {f : Nat} {args : List Opd} (h : FCallE P f (args.map (Opd.get env)) IsBool) (k : ∀ b, Sk.wpOps P os ((d, .bool b) :: env) rows K) : Sk.wpOps P (⟨some d, .call f args, none⟩ :: os) env rows K := h.cw (by rintro v ⟨b, rfl⟩; exact k b)
theorem op_guardT (h : look env t = .bool c) (k1 : c = true → Sk.wpOps P (⟨some d, op, none⟩ :: os) env rows K) (k2 : c = false → Sk.wpOps P os ((d, .tup []) :: env) rows K) : Sk.wpOps P (⟨some d, op, some (t, true)⟩ :: os) env rows K := by
  unfold Sk.wpOps
  simp only [h, gdV, List.isEmpty_nil, if_true]
  exact ⟨fun e => k1 e, fun e => k2 (by simpa using e)⟩
theorem op_guardF (h : look env t = .bool c) (k1 : c = true → Sk.wpOps P os ((d, .tup []) :: env) rows K) (k2 : c = false → Sk.wpOps P (⟨some d, op, none⟩ :: os) env rows K) : Sk.wpOps P (⟨some d, op, some (t, false)⟩ :: os) env rows K := by
  unfold Sk.wpOps
  simp only [h, gdV, List.isEmpty_nil, if_true]
  exact ⟨fun e => k2 e, fun e => k1 (by simpa using e)⟩
theorem op_guardU {bb : Bool} (h : look env t = .tup []) (k : Sk.wpOps P os ((d, .tup []) :: env) rows K) : Sk.wpOps P (⟨some d, op, some (t, bb)⟩ :: os) env rows K := by
  unfold Sk.wpOps
  simp only [h, gdV, List.isEmpty_nil, if_true]
  exact k
/-- Operations whose value is a truth value. -/
def isB : MOp → Bool
  | .bin .eql _ _ | .bin .neq _ _ | .bin .lss _ _ | .bin .leq _ _ | .bin .gtr _ _ | .bin .geq _ _ | .not _ | .eqB .. | .eqI .. => true
  | _ => false
theorem op_isB (hb : isB op = true) (h : stepOp (Opd.get env) rows op = some (.bool c, rows')) (k : ∀ c', c = c' → Sk.wpOps P os ((d, .bool c') :: env) rows' K) : Sk.wpOps P (⟨some d, op, none⟩ :: os) env rows K := op_bool h k
theorem ops_nil (k : K env rows) : Sk.wpOps P [] env rows K := k

/-! ### Operations in a drawn order -/
theorem d_step {w nx av sep} {bb : Nat} (h : outc P bb ⟨⟨some d, op, none⟩, w, nx, av, sep⟩ (Opd.get env) rows v rows') (k : wpD P bb ds ((d, v) :: env) rows' K) : wpD P bb (⟨⟨some d, op, none⟩, w, nx, av, sep⟩ :: ds) env rows K := ⟨v, rows', h, k⟩
theorem d_step0 {w nx av sep} {bb : Nat} (h : outc P bb ⟨⟨none, op, none⟩, w, nx, av, sep⟩ (Opd.get env) rows v rows') (k : wpD P bb ds env rows' K) : wpD P bb (⟨⟨none, op, none⟩, w, nx, av, sep⟩ :: ds) env rows K := ⟨v, rows', h, k⟩
theorem d_bool {w nx av sep} {bb : Nat} (h : outc P bb ⟨⟨some d, op, none⟩, w, nx, av, sep⟩ (Opd.get env) rows (.bool c) rows') (k : ∀ c', c = c' → wpD P bb ds ((d, .bool c') :: env) rows' K) : wpD P bb (⟨⟨some d, op, none⟩, w, nx, av, sep⟩ :: ds) env rows K := ⟨.bool c, rows', h, k c rfl⟩
theorem d_isB {w nx av sep} {bb : Nat} (hb : isB op = true) (h : outc P bb ⟨⟨some d, op, none⟩, w, nx, av, sep⟩ (Opd.get env) rows (.bool c) rows') (k : ∀ c', c = c' → wpD P bb ds ((d, .bool c') :: env) rows' K) : wpD P bb (⟨⟨some d, op, none⟩, w, nx, av, sep⟩ :: ds) env rows K := d_bool h k
theorem d_guardT {w nx av sep} {bb : Nat} (h : look env t = .bool c) (k1 : c = true → wpD P bb (⟨⟨some d, op, none⟩, w, nx, av, sep⟩ :: ds) env rows K) (k2 : c = false → wpD P bb ds ((d, .tup []) :: env) rows K) : wpD P bb (⟨⟨some d, op, some (t, true)⟩, w, nx, av, sep⟩ :: ds) env rows K := by
  unfold wpD
  simp only [h, gdV, List.isEmpty_nil, if_true]
  exact ⟨fun e => k1 e, fun e => k2 (by simpa using e)⟩
theorem d_guardF {w nx av sep} {bb : Nat} (h : look env t = .bool c) (k1 : c = true → wpD P bb ds ((d, .tup []) :: env) rows K) (k2 : c = false → wpD P bb (⟨⟨some d, op, none⟩, w, nx, av, sep⟩ :: ds) env rows K) : wpD P bb (⟨⟨some d, op, some (t, false)⟩, w, nx, av, sep⟩ :: ds) env rows K := by
  unfold wpD
  simp only [h, gdV, List.isEmpty_nil, if_true]
  exact ⟨fun e => k2 e, fun e => k1 (by simpa using e)⟩
theorem d_guardU {w nx av sep} {bb : Nat} {cc : Bool} (h : look env t = .tup []) (k : wpD P bb ds ((d, .tup []) :: env) rows K) : wpD P bb (⟨⟨some d, op, some (t, cc)⟩, w, nx, av, sep⟩ :: ds) env rows K := by
  unfold wpD
  simp only [h, gdV, List.isEmpty_nil, if_true]
  exact k
theorem d_nil {bb : Nat} (k : K env rows) : wpD P bb [] env rows K := k

/-- What a drawn operation does, by its kind. -/
theorem o_v {g : Opd → AV} {bb : Nat} {dst gd w nx av sep} {r : List Row} (hk : (DOp.mk ⟨dst, op, gd⟩ w nx av sep).kd = .v) (h : stepOp g [] op = some (v, r)) : outc P bb ⟨⟨dst, op, gd⟩, w, nx, av, sep⟩ g rows v rows := by
  unfold outc; rw [hk]; exact ⟨rfl, r, h⟩
theorem o_l {g : Opd → AV} {bb : Nat} {dst gd w} {agg : Bool} {n : Nat} {x : Opd} (h : stepOp g rows (.load agg n x) = some (v, rows)) : outc P bb ⟨⟨dst, .load agg n x, gd⟩, w, 0, [], []⟩ g rows v rows := by
  unfold outc DOp.kd; exact ⟨rfl, h, by simp, by simp, .inl rfl⟩
theorem o_l' {g : Opd → AV} {bb : Nat} {dst gd w nx av sep} {agg : Bool} {n : Nat} {x : Opd} (h : stepOp g rows (.load agg n x) = some (v, rows)) (h1 : ∀ k ∈ av, rowId (g x) ≠ some (bb + k)) (h2 : ∀ p ∈ sep, sepB (g (.t p)) (g x) = true) (h3 : Und bb nx (g x)) : outc P bb ⟨⟨dst, .load agg n x, gd⟩, w, nx, av, sep⟩ g rows v rows := by
  unfold outc DOp.kd; exact ⟨rfl, h, h1, h2, h3⟩
theorem o_c {g : Opd → AV} {bb : Nat} {dst gd w nx av sep} {f : Nat} {args : List Opd} (h : FCall P f (args.map g) v) (h1 : bb + nx ≤ rows.length) : outc P bb ⟨⟨dst, .call f args, gd⟩, w, nx, av, sep⟩ g rows v rows := by
  unfold outc DOp.kd; exact ⟨f, args, [], rfl, by simp, h1, h.toN _⟩
theorem o_cn {g : Opd → AV} {bb : Nat} {dst gd w nx av sep} {f : Nat} {args : List Opd} {new : List Row} (h : FCallN P f (args.map g) rows.length v new) (h1 : bb + nx ≤ rows.length) : outc P bb ⟨⟨dst, .call f args, gd⟩, w, nx, av, sep⟩ g rows v (rows ++ new) := by
  unfold outc DOp.kd; exact ⟨f, args, new, rfl, rfl, h1, h⟩
theorem o_a {g : Opd → AV} {bb : Nat} {dst gd w nx av sep} {u : AV} {r : Row} (hk : (DOp.mk ⟨dst, op, gd⟩ w nx av sep).kd = .a) (h : stepOp g [] op = some (u, [r])) (h1 : newAt (bb + nx) u = some v) (h2 : rows[bb + nx]? = some .dead) : outc P bb ⟨⟨dst, op, gd⟩, w, nx, av, sep⟩ g rows v (rows.set (bb + nx) r) := by
  unfold outc; rw [hk]; exact ⟨u, r, h, h1, h2, rfl⟩
theorem o_w {g : Opd → AV} {bb : Nat} {dst gd w av} (hk : (DOp.mk ⟨dst, op, gd⟩ w 0 av []).kd = .w) (h : stepOp g rows op = some (v, rows')) : outc P bb ⟨⟨dst, op, gd⟩, w, 0, av, []⟩ g rows v rows' := by
  unfold outc; rw [hk]; exact ⟨h, by simp, .inl rfl⟩
theorem o_w' {g : Opd → AV} {bb : Nat} {dst gd w nx av sep} {n : Nat} {x y : Opd} (h : stepOp g rows (.store n x y) = some (v, rows')) (h2 : ∀ p ∈ sep, sepB (g x) (g (.t p)) = true) (h3 : UndB bb nx (g x)) : outc P bb ⟨⟨dst, .store n x y, gd⟩, w, nx, av, sep⟩ g rows v rows' := by
  unfold outc DOp.kd; exact ⟨h, h2, h3⟩

/-! ### Control -/
def seqK (P : Program) (kf : Nat) (y : MC) (K : Ex → Env → List Row → Prop) : Ex → Env → List Row → Prop
  | .n, env, rows => wpC P kf y env rows K
  | .x i, env, rows => K (.x i) env rows
  | .r, env, rows => K .r env rows

def blockK (id : Nat) (K : Ex → Env → List Row → Prop) : Ex → Env → List Row → Prop
  | .n, env, rows => K .n env rows
  | .x i, env, rows => if i = id then K .n env rows else K (.x i) env rows
  | .r, env, rows => K .r env rows

def loopK (kf : Nat) (T : List Nat) (I : Nat → Env → List Row → Prop) (n : Nat) (K : Ex → Env → List Row → Prop) : Ex → Env → List Row → Prop
  | .n, env, rows => ∃ m, m < n ∧ Back kf T (I m) env rows
  | .x i, env, rows => K (.x i) env rows
  | .r, env, rows => K .r env rows

def endK (kf : Nat) (res : List MRes) (Q : AV → List Row → Prop) : Ex → Env → List Row → Prop
  | .n, env, rows => RetW kf res Q env rows
  | .x _, _, _ => False
  | .r, env, rows => RetW kf res Q env rows

theorem wpC_congr {c : MC} {K' : Ex → Env → List Row → Prop} (h : ∀ e env rows, KC e env rows = K' e env rows) (k : wpC P kf c env rows KC) : wpC P kf c env rows K' := by
  have : KC = K' := by funext e env rows; exact h e env rows
  rwa [← this]

theorem c_skip (k : KC .n env rows) : wpC P kf .skip env rows KC := k
theorem c_ret (k : KC .r env rows) : wpC P kf .ret env rows KC := k
theorem c_exit {id : Nat} (k : KC (.x id) env rows) : wpC P kf (.exit id) env rows KC := k
theorem c_reg (k : Sk.wpOps P os env rows (fun env rows => KC .n env rows)) : wpC P kf (.reg os) env rows KC := k
theorem c_dreg0 (k : wpD P rows.length ds env rows (fun env rows => KC .n env rows)) : wpC P kf (.dreg 0 ds) env rows KC := by
  unfold wpC; simpa using k
theorem c_dreg {m : Nat} (k : wpD P rows.length ds env (rows ++ List.replicate m .dead) (fun env rows => KC .n env rows)) : wpC P kf (.dreg m ds) env rows KC := k
theorem c_seq {x y : MC} (k : wpC P kf x env rows (seqK P kf y KC)) : wpC P kf (.seq x y) env rows KC := by
  unfold wpC
  exact wpC_congr (fun e env rows => by cases e <;> rfl) k
theorem c_block {id : Nat} {x : MC} (k : wpC P kf x env rows (blockK id KC)) : wpC P kf (.block id x) env rows KC := by
  unfold wpC
  exact wpC_congr (fun e env rows => by cases e <;> rfl) k
theorem c_cond {o : Opd} {x y : MC} (h : o.get env = .bool c) (k1 : c = true → wpC P kf x env rows KC) (k2 : c = false → wpC P kf y env rows KC) : wpC P kf (.cond o x y) env rows KC := by
  unfold wpC
  rw [h]; exact ⟨k1, k2⟩
theorem c_loop {x : MC} (T : List Nat) (I : Nat → Env → List Row → Prop) (n : Nat) (h : Back kf T (I n) env rows) (k : ∀ n env rows, I n env rows → wpC P kf x env rows (loopK kf T I n KC)) : wpC P kf (.loop x) env rows KC := by
  unfold wpC
  refine ⟨T, I, n, h, fun n env rows hI => wpC_congr (fun e env rows => by cases e <;> rfl) (k n env rows hI)⟩

theorem k_seq_n {y : MC} (k : wpC P kf y env rows KC) : seqK P kf y KC .n env rows := k
theorem k_seq_r {y : MC} (k : KC .r env rows) : seqK P kf y KC .r env rows := k
theorem k_seq_x {y : MC} {i : Nat} (k : KC (.x i) env rows) : seqK P kf y KC (.x i) env rows := k
theorem k_blk_n {id : Nat} (k : KC .n env rows) : blockK id KC .n env rows := k
theorem k_blk_r {id : Nat} (k : KC .r env rows) : blockK id KC .r env rows := k
theorem k_blk_x {id : Nat} (k : KC .n env rows) : blockK id KC (.x id) env rows := by simp [blockK, k]
theorem k_blk_y {id i : Nat} (h : i ≠ id) (k : KC (.x i) env rows) : blockK id KC (.x i) env rows := by simp [blockK, h, k]
theorem k_loop_x {T : List Nat} {I : Nat → Env → List Row → Prop} {n i : Nat} (k : KC (.x i) env rows) : loopK kf T I n KC (.x i) env rows := k
theorem k_loop_r {T : List Nat} {I : Nat → Env → List Row → Prop} {n : Nat} (k : KC .r env rows) : loopK kf T I n KC .r env rows := k
theorem k_end_n {res : List MRes} {Q : AV → List Row → Prop} (k : RetW kf res Q env rows) : endK kf res Q .n env rows := k
theorem k_end_r {res : List MRes} {Q : AV → List Row → Prop} (k : RetW kf res Q env rows) : endK kf res Q .r env rows := k

theorem f_body {f : MF} {args : List AV} {Q : AV → List Row → Prop} (k : wpC P rows.length f.body (argEnv 0 args) rows (endK rows.length f.res Q)) : wpF P f args rows Q := by
  unfold wpF
  exact wpC_congr (fun e env rows => by cases e <;> rfl) k

/-! ### Ends -/
/-- A result that leads to no rows. -/
theorem ret_plain {res : List MRes} {Q : AV → List Row → Prop} {vs : List AV} (h : resVs env rows res = some vs) (hi : idsV (resV vs) = []) (k : Q (resV vs) []) : RetW 0 res Q env rows := by
  refine ⟨vs, h, [], ⟨Nat.le_refl _, fun i hi => absurd hi (Nat.not_lt_zero _), List.nodup_nil, by rw [hi]; simp, by simp⟩, ?_⟩
  rw [renV_none _ _ hi]
  exact k
end
end Go.Sk
