/- The machine does what the compact code's statement says. Conditions: none (a library text). -/
import Derived.Test.YtnbmngpdbnkhaaaC6OpAll
set_option linter.unusedVariables false
set_option linter.unusedSimpArgs false
namespace Go.Sk
open Go.RowKit

/-! ### The rows that a value leads to; other numbers for them -/
mutual
def idsV : AV → List Nat
  | .sref id _ | .ptr id _ | .ptrA id _ _ | .ptrE id _ _ _ => [id]
  | .arr l | .agg l | .tup l => idsL l
  | _ => []
def idsL : List AV → List Nat
  | [] => []
  | x :: xs => idsV x ++ idsL xs
end

mutual
def renV (f : Nat → Nat) : AV → AV
  | .sref id n => .sref (f id) n
  | .ptr id c => .ptr (f id) c
  | .ptrA id c j => .ptrA (f id) c j
  | .ptrE id e i c => .ptrE (f id) e i c
  | .arr l => .arr (renL f l)
  | .agg l => .agg (renL f l)
  | .tup l => .tup (renL f l)
  | x => x
def renL (f : Nat → Nat) : List AV → List AV
  | [] => []
  | x :: xs => renV f x :: renL f xs
end

def idsR : Row → List Nat
  | .box _ v => idsL v
  | _ => []

def renR (f : Nat → Nat) : Row → Row
  | .box t v => .box t (renL f v)
  | r => r

theorem renL_length (f : Nat → Nat) : ∀ l, (renL f l).length = l.length
  | [] => rfl
  | x :: xs => by simp [renL, renL_length f xs]

theorem renV_one (f : Nat → Nat) (x : AV) : (renV f x).one = x.one := by cases x <;> simp [renV, AV.one]

theorem renL_ones (f : Nat → Nat) : ∀ l, (∀ x ∈ l, AV.one x = true) → ∀ x ∈ renL f l, AV.one x = true
  | [], _, x, hx => by simp [renL] at hx
  | y :: ys, h, x, hx => by
    simp only [renL, List.mem_cons] at hx
    rcases hx with rfl | hx
    · rw [renV_one]; exact h y (by simp)
    · exact renL_ones f ys (fun z hz => h z (List.mem_cons_of_mem _ hz)) x hx

section ren
variable {P : Program} {im : Nat → Prop} {w : World} {ρ ρ' : Nat → Loc} {f : Nat → Nat}

mutual
/-- The values under other numbers. -/
theorem RepV.ren {ρ ρ' : Nat → Loc} : ∀ {v : Value} {x : AV}, RepV P im w ρ v x → (∀ id, id ∈ idsV x → ρ' (f id) = ρ id) → RepV P im w ρ' v (renV f x)
  | _, _, .int k n, _ => .int k n
  | _, _, .bool b, _ => .bool b
  | _, _, .str s, _ => .str s
  | _, _, .flt b, _ => .flt b
  | _, _, .nil e, _ => .nil e
  | _, _, .fz e A cap l us hA hl hm ha hr, _ => .fz e A cap l us hA hl hm ha hr
  | _, _, .sref id g cap n hh hn, h => .sref _ g cap n (by rw [h id (by simp [idsV])]; exact hh) hn
  | _, _, .ptr id g cap c hh, h => .ptr _ g cap c (by rw [h id (by simp [idsV])]; exact hh)
  | _, _, .ptrA id g cap c j hh, h => .ptrA _ g cap c j (by rw [h id (by simp [idsV])]; exact hh)
  | _, _, .ptrE id g cap e i c hh, h => .ptrE _ g cap e i c (by rw [h id (by simp [idsV])]; exact hh)
  | _, _, .pz ad us items c hb hu hr, _ => .pz ad us items c hb hu hr
  | _, _, .nilp, _ => .nilp
  | _, _, .agg vs l hh, h => .agg vs _ (RepL.ren hh (fun id hid => h id (by simpa [idsV] using hid)))
  | _, _, .tup vs l hh, h => .tup vs _ (RepT.ren hh (fun id hid => h id (by simpa [idsV] using hid)))
  | _, _, .un v, _ => .un v
theorem RepL.ren {ρ ρ' : Nat → Loc} : ∀ {vs : List Value} {xs : List AV}, RepL P im w ρ vs xs → (∀ id, id ∈ idsL xs → ρ' (f id) = ρ id) → RepL P im w ρ' vs (renL f xs)
  | _, _, .nil, _ => .nil
  | _, _, .cons v x vs xs h1 h hs, hh => .cons v _ vs _ (by rw [renV_one]; exact h1) (RepV.ren h (fun id hid => hh id (by simp [idsL, hid]))) (RepL.ren hs (fun id hid => hh id (by simp [idsL, hid])))
  | _, _, .arr us l vs xs h1 h hs, hh => .arr us _ vs _ (renL_ones f l h1) (RepL.ren h (fun id hid => hh id (by simp [idsL, idsV, hid]))) (RepL.ren hs (fun id hid => hh id (by simp [idsL, hid])))
theorem RepT.ren {ρ ρ' : Nat → Loc} : ∀ {vs : List Value} {xs : List AV}, RepT P im w ρ vs xs → (∀ id, id ∈ idsL xs → ρ' (f id) = ρ id) → RepT P im w ρ' vs (renL f xs)
  | _, _, .nil, _ => .nil
  | _, _, .cons v x vs xs h hs, hh => .cons v _ vs _ (RepV.ren h (fun id hid => hh id (by simp [idsL, hid]))) (RepT.ren hs (fun id hid => hh id (by simp [idsL, hid])))
end

theorem RowOK.ren {id id' : Nat} {r : Row} (h : RowOK P im w ρ id r) (hid : ρ' id' = ρ id) (hf : ∀ j, j ∈ idsR r → ρ' (f j) = ρ j) : RowOK P im w ρ' id' (renR f r) := by
  cases r with
  | box t v =>
    obtain ⟨g, cap, cur, h1, h2, h3, h4⟩ := h
    exact ⟨g, cap, cur, hid.trans h1, h2, h3, h4.ren hf⟩
  | vec e l =>
    rcases h with ⟨h1, h2⟩ | ⟨g, cap, h1, h3, h4⟩
    · exact .inl ⟨hid.trans h1, h2⟩
    · exact .inr ⟨g, cap, hid.trans h1, h3, h4⟩
  | frz e l =>
    rcases h with ⟨h1, h2⟩ | ⟨g, cap, h1, h3, h4⟩
    · exact .inl ⟨hid.trans h1, h2⟩
    · exact .inr ⟨g, cap, hid.trans h1, h3, h4⟩
  | dead => trivial
end ren

/-! ### Rows that nobody names any more are forgotten, the others numbered anew -/
/-- 'L': the rows that stay, in their new order; the first k0 keep their numbers. -/
def gcOK (k0 : Nat) (L : List Nat) (ids : List Nat) (rows : List Row) : Prop :=
  k0 ≤ L.length ∧ (∀ i, i < k0 → L[i]? = some i) ∧ L.Nodup ∧ (∀ id ∈ ids, id ∈ L) ∧ ∀ id ∈ L, ∃ r, rows[id]? = some r ∧ ∀ j ∈ idsR r, j ∈ L

def gcF (L : List Nat) (id : Nat) : Nat := L.idxOf id
def gcRows (L : List Nat) (rows : List Row) : List Row := L.map fun id => renR (gcF L) (rows.getD id .dead)

theorem gcF_get {L : List Nat} {id : Nat} (h : id ∈ L) : L[gcF L id]? = some id := by
  unfold gcF
  have hlt := List.idxOf_lt_length_of_mem h
  rw [List.getElem?_eq_getElem hlt, List.getElem_idxOf]

def gcLoc (L : List Nat) (ρ : Nat → Loc) (i : Nat) : Loc := match L[i]? with
  | some id => ρ id
  | none => .no

section gc
variable {P : Program} {im : Nat → Prop} {w : World} {ρ : Nat → Loc} {rows : List Row} {k0 : Nat} {L ids : List Nat}

theorem renR_live (f : Nat → Nat) (r : Row) : (renR f r).live = r.live := by cases r <;> rfl

theorem gc_ok (hW : WF P im w ρ rows) (h : gcOK k0 L ids rows) :
    WF P im w (gcLoc L ρ) (gcRows L rows) ∧ (∀ b, Own (gcLoc L ρ) (gcRows L rows) b → Own ρ rows b) ∧ (∀ i, i < k0 → gcLoc L ρ i = ρ i) ∧ (∀ id ∈ ids, gcLoc L ρ (gcF L id) = ρ id) := by
  obtain ⟨h0, h1, h2, h3, h4⟩ := h
  have hL : ∀ id, id ∈ L → gcLoc L ρ (gcF L id) = ρ id := fun id hid => by simp [gcLoc, gcF_get hid]
  have hrow : ∀ (i : Nat) (r : Row), (gcRows L rows)[i]? = some r → ∃ (id : Nat) (r0 : Row), L[i]? = some id ∧ rows[id]? = some r0 ∧ r = renR (gcF L) r0 ∧ ∀ j ∈ idsR r0, j ∈ L := fun i r hi => by
    simp only [gcRows, List.getElem?_map, Option.map_eq_some_iff] at hi
    obtain ⟨id, a1, rfl⟩ := hi
    obtain ⟨r0, b1, b2⟩ := h4 id (List.mem_of_getElem? a1)
    exact ⟨id, r0, a1, b1, by simp [List.getD_eq_getElem?_getD, b1], b2⟩
  refine ⟨⟨fun i r hi => ?_, fun i i' r r' b c c' e1 e2 l1 l2 g1 g2 => ?_, fun i hi => ?_, hW.im⟩, ?_, fun i hi => by simp [gcLoc, h1 i hi], fun id hid => hL id (h3 id hid)⟩
  · obtain ⟨id, r0, a1, a2, rfl, a3⟩ := hrow i r hi
    exact (hW.row id r0 a2).ren (by simp [gcLoc, a1]) (fun j hj => hL j (a3 j hj))
  · obtain ⟨id, r0, a1, a2, rfl, _⟩ := hrow i r e1
    obtain ⟨id', r0', b1, b2, rfl, _⟩ := hrow i' r' e2
    rw [renR_live] at l1 l2
    have g1' : ρ id = .blk b c := by simpa [gcLoc, a1] using g1
    have g2' : ρ id' = .blk b c' := by simpa [gcLoc, b1] using g2
    have := hW.inj id id' r0 r0' b c c' a2 b2 l1 l2 g1' g2'
    subst this
    obtain ⟨p1, p2⟩ := List.getElem?_eq_some_iff.1 a1
    obtain ⟨q1, q2⟩ := List.getElem?_eq_some_iff.1 b1
    exact (List.getElem_inj h2).1 (p2.trans q2.symm)
  · simp [gcRows] at hi
    simp [gcLoc, hi]
  · rintro b ⟨i, r, c, a1, a2, a3⟩
    obtain ⟨id, r0, b1, b2, rfl, _⟩ := hrow i r a1
    rw [renR_live] at a2
    exact ⟨id, r0, c, b2, a2, by simpa [gcLoc, b1] using a3⟩
end gc

/-! ### Calls -/
/-- What a call of f does, whatever the world: it returns, and what it returns, and the rows behind it, are as K says. -/
def CW (P : Program) (f : Nat) (args : List AV) (rows : List Row) (K : AV → List Row → Prop) : Prop :=
  ∀ (w : World) (im : Nat → Prop) (ρ : Nat → Loc) (vs : List Value), WF P im w ρ rows → RepT P im w ρ vs args →
    Calls P f vs.toArray w fun e w' => ∃ v r rows' im' ρ', e = .returned v ∧ K r rows' ∧ RepV P im' w' ρ' v r ∧ WF P im' w' ρ' rows' ∧ Ext w im ρ rows w' im' ρ' rows'

theorem CW.mono {P : Program} {f : Nat} {args : List AV} {rows : List Row} {K K' : AV → List Row → Prop} (h : CW P f args rows K) (hk : ∀ r rs, K r rs → K' r rs) : CW P f args rows K' :=
  fun w im ρ vs hW hv => (h w im ρ vs hW hv).mono fun e w' ⟨v, r, rows', im', ρ', a, b, c⟩ => ⟨v, r, rows', im', ρ', a, hk _ _ b, c⟩

/-! ### Code -/
inductive Ex where
  | n
  | x (id : Nat)
  | r

def putE (dst : Option Nat) (v : AV) (env : Env) : Env :=
  match dst with
  | some d => (d, v) :: env
  | none => env

/-- Is a slice nil? -/
def wpNil (neg : Bool) (rows : List Row) (K : AV → List Row → Prop) : AV → Prop
  | .nil _ => K (.bool (!neg)) rows
  | .fz _ _ | .sref _ _ => K (.bool neg) rows
  | _ => False

/-- One operation. -/
def wpOp (P : Program) (op : MOp) (env : Env) (rows : List Row) (K : AV → List Row → Prop) : Prop :=
  match op with
  | .call f args => CW P f (args.map (Opd.get env)) rows K
  | .isnil neg x => wpNil neg rows K (x.get env)
  | op => ∃ v rows', stepOp (Opd.get env) rows op = some (v, rows') ∧ K v rows'

/-- What a guard's slot tells. -/
inductive Gd where
  | yes (c : Bool)
  | no
  | bad

def gdV : AV → Gd
  | .bool c => .yes c
  | .tup l => if l.isEmpty then .no else .bad
  | _ => .bad

theorem gdV_yes {x : AV} {c : Bool} (h : gdV x = .yes c) : x = .bool c := by
  cases x <;> simp [gdV] at h
  · exact congrArg AV.bool h
  · split at h <;> cases h
theorem gdV_no {x : AV} (h : gdV x = .no) : x = .tup [] := by
  cases x <;> simp [gdV] at h
  exact congrArg AV.tup (h)

/-- Operations, one behind the other. -/
def wpOps (P : Program) : List MOper → Env → List Row → (Env → List Row → Prop) → Prop
  | [], env, rows, K => K env rows
  | o :: os, env, rows, K => match o.g with
    | none => wpOp P o.op env rows fun v rows' => wpOps P os (putE o.dst v env) rows' K
    | some (t, b) => match gdV (look env t) with
      | .yes c => (c = b → wpOp P o.op env rows fun v rows' => wpOps P os (putE o.dst v env) rows' K) ∧ (c ≠ b → wpOps P os (putE o.dst (.tup []) env) rows K)
      | .no => wpOps P os (putE o.dst (.tup []) env) rows K
      | .bad => False

/-- A call that leaves the rows as they are, and whose value is told. -/
def FCall (P : Program) (f : Nat) (args : List AV) (v : AV) : Prop := ∀ rows, CW P f args rows (fun r rs => r = v ∧ rs = rows)

theorem FCall.cw {P : Program} {f : Nat} {args : List AV} {v : AV} {rows : List Row} {K : AV → List Row → Prop} (h : FCall P f args v) (hK : K v rows) : CW P f args rows K :=
  (h rows).mono (by rintro r rs ⟨rfl, rfl⟩; exact hK)

/-- A call that leaves the rows as they are and makes new ones behind them; there are n before. -/
def FCallN (P : Program) (f : Nat) (args : List AV) (n : Nat) (v : AV) (new : List Row) : Prop := ∀ rows : List Row, rows.length = n → CW P f args rows (fun r rs => r = v ∧ rs = rows ++ new)

theorem FCall.toN {P : Program} {f : Nat} {args : List AV} {v : AV} (h : FCall P f args v) (n : Nat) : FCallN P f args n v [] := fun rows _ => (h rows).mono (by rintro r rs ⟨rfl, rfl⟩; exact ⟨rfl, by simp⟩)

/-! ### Operations whose order the machine draws -/
inductive Kd where
  | v
  | c
  | l
  | a
  | w
  deriving DecidableEq

def DOp.kd (d : DOp) : Kd :=
  match d.o.op with
  | .call .. | .isnil .. => .c
  | .load .. => .l
  | .store .. => .w
  | .new .. | .box .. | .bslice .. => .a
  | .app .. => if d.w then .w else .a
  | _ => .v

def rowId : AV → Option Nat
  | .ptr id _ | .ptrA id _ _ | .ptrE id _ _ _ => some id
  | _ => none

/-- What is stored there changes nothing that is read here. -/
def sepB (st ld : AV) : Bool :=
  match st with
  | .ptr id _ | .ptrA id _ _ => rowId ld != some id
  | _ => false

def ptrOf : MOp → Opd
  | .load _ _ x => x
  | .store _ a _ => a
  | _ => .k .un

def boxP : AV → Bool
  | .ptr .. | .ptrA .. => true
  | _ => false

/-- What was there before the region. -/
def Und (b nx : Nat) (x : AV) : Prop := nx = 0 ∨ ∀ id, rowId x = some id → id + 1 < b + nx
def UndB (b nx : Nat) (x : AV) : Prop := nx = 0 ∨ (boxP x = true ∧ ∀ id, rowId x = some id → id + 1 < b + nx)

def newAt (id : Nat) : AV → Option AV
  | .ptr 0 0 => some (.ptr id 0)
  | .sref 0 n => some (.sref id n)
  | .nil e => some (.nil e)
  | _ => none

/-- What such an operation does, once it may. -/
def outc (P : Program) (b : Nat) (d : DOp) (g : Opd → AV) (rows : List Row) (v : AV) (rows' : List Row) : Prop :=
  match d.kd with
  | .v => rows' = rows ∧ ∃ r, stepOp g [] d.o.op = some (v, r)
  | .c => ∃ f args new, d.o.op = .call f args ∧ rows' = rows ++ new ∧ b + d.nx ≤ rows.length ∧ FCallN P f (args.map g) rows.length v new
  | .l => rows' = rows ∧ stepOp g rows d.o.op = some (v, rows) ∧ (∀ k ∈ d.av, rowId (g (ptrOf d.o.op)) ≠ some (b + k)) ∧ (∀ p ∈ d.sep, sepB (g (.t p)) (g (ptrOf d.o.op)) = true) ∧ Und b d.nx (g (ptrOf d.o.op))
  | .a => ∃ u r, stepOp g [] d.o.op = some (u, [r]) ∧ newAt (b + d.nx) u = some v ∧ rows[b + d.nx]? = some .dead ∧ rows' = rows.set (b + d.nx) r
  | .w => stepOp g rows d.o.op = some (v, rows') ∧ (∀ p ∈ d.sep, sepB (g (ptrOf d.o.op)) (g (.t p)) = true) ∧ UndB b d.nx (g (ptrOf d.o.op))

def wpD (P : Program) (b : Nat) : List DOp → Env → List Row → (Env → List Row → Prop) → Prop
  | [], env, rows, K => K env rows
  | d :: ds, env, rows, K => match d.o.g with
    | none => ∃ v rows', outc P b d (Opd.get env) rows v rows' ∧ wpD P b ds (putE d.o.dst v env) rows' K
    | some (t, c) => match gdV (look env t) with
      | .yes x => (x = c → ∃ v rows', outc P b d (Opd.get env) rows v rows' ∧ wpD P b ds (putE d.o.dst v env) rows' K) ∧ (x ≠ c → wpD P b ds (putE d.o.dst (.tup []) env) rows K)
      | .no => wpD P b ds (putE d.o.dst (.tup []) env) rows K
      | .bad => False

/-- Rows that nobody names are forgotten; of the slots the named ones stay. -/
def Back (kf : Nat) (T : List Nat) (J : Env → List Row → Prop) (env : Env) (rows : List Row) : Prop :=
  ∃ L, gcOK kf L (idsL (T.map (look env))) rows ∧ J (T.map fun t => (t, renV (gcF L) (look env t))) (gcRows L rows)

/-- The code: 'kf': the rows that the call was lent. -/
def wpC (P : Program) (kf : Nat) : MC → Env → List Row → (Ex → Env → List Row → Prop) → Prop
  | .skip, env, rows, K => K .n env rows
  | .reg ops, env, rows, K => wpOps P ops env rows fun env rows => K .n env rows
  | .dreg m ds, env, rows, K => wpD P rows.length ds env (rows ++ List.replicate m .dead) fun env rows => K .n env rows
  | .seq a b, env, rows, K => wpC P kf a env rows fun e env rows => match e with
    | .n => wpC P kf b env rows K
    | e => K e env rows
  | .cond c a b, env, rows, K => match c.get env with
    | .bool t => (t = true → wpC P kf a env rows K) ∧ (t = false → wpC P kf b env rows K)
    | _ => False
  | .block id c, env, rows, K => wpC P kf c env rows fun e env rows => match e with
    | .x j => if j = id then K .n env rows else K (.x j) env rows
    | e => K e env rows
  | .loop c, env, rows, K => ∃ (T : List Nat) (I : Nat → Env → List Row → Prop) (n : Nat), Back kf T (I n) env rows ∧
      ∀ n env' rows', I n env' rows' → wpC P kf c env' rows' fun e env'' rows'' => match e with
        | .n => ∃ m, m < n ∧ Back kf T (I m) env'' rows''
        | e => K e env'' rows''
  | .exit id, env, rows, K => K (.x id) env rows
  | .ret, env, rows, K => K .r env rows

inductive MRes where
  | tmp (t : Nat)
  | cell (t : Nat) (agg : Bool) (n : Nat)

def resV1 (env : Env) (rows : List Row) : MRes → Option AV
  | .tmp t => some (look env t)
  | .cell t agg n => (behind rows (look env t)).bind fun l => (firsts l n).bind fun m => loadR agg m

def resVs (env : Env) (rows : List Row) : List MRes → Option (List AV)
  | [] => some []
  | r :: rs => (resV1 env rows r).bind fun v => (resVs env rows rs).map fun vs => v :: vs

def resV : List AV → AV
  | [v] => v
  | vs => .tup vs

/-- A function's end: what it returns, and the rows that this leads to. -/
def RetW (kf : Nat) (res : List MRes) (Q : AV → List Row → Prop) (env : Env) (rows : List Row) : Prop :=
  ∃ vs, resVs env rows res = some vs ∧ ∃ L, gcOK kf L (idsV (resV vs)) rows ∧ Q (renV (gcF L) (resV vs)) (gcRows L rows)

/-- A function's compact form. -/
structure MF where
  ntmps : Nat
  res : List MRes
  body : MC

def argEnv : Nat → List AV → Env
  | _, [] => []
  | n, v :: vs => (n, v) :: argEnv (n + 1) vs

/-- The whole function. -/
def wpF (P : Program) (f : MF) (args : List AV) (rows : List Row) (Q : AV → List Row → Prop) : Prop :=
  wpC P rows.length f.body (argEnv 0 args) rows fun e env rows' => match e with
    | .x _ => False
    | _ => RetW rows.length f.res Q env rows'
end Go.Sk
set_option linter.unusedVariables false
set_option linter.unusedSimpArgs false
namespace Go.Sk
open Go.RowKit

def trDst (N : Nat) : Option Tmp → Option (Option Nat)
  | none => some none
  | some d => if d < N then some (some d) else none

def trGuard (ops : Array Oper) : Option (Nat × Bool) → Option (Option (Nat × Bool))
  | none => some none
  | some (j, b) => match (ops[j]?).bind (·.dst) with
    | some t => some (some (t, b))
    | none => none

def callOf : Op → Option (FuncId × List Operand × List TypeId)
  | .call c => match c.callee with
    | .value (.func f) => some (f, c.args.toList, c.argTypes.toList)
    | _ => none
  | _ => none

/-- A slice that is compared with nil. -/
def nilOf (P : Program) : Op → Option (Bool × Operand)
  | .binOp .eql t x (.const (.slice none 0 0)) _ => match P.underlying t with
    | some (.slice _) => some (false, x)
    | _ => none
  | .binOp .neq t x (.const (.slice none 0 0)) _ => match P.underlying t with
    | some (.slice _) => some (true, x)
    | _ => none
  | _ => none

def MOp.isCall : MOp → Bool
  | .call .. | .isnil .. => true
  | _ => false

def trX (P : Program) (o : Oper) : Option MOp :=
  match callOf o.op with
  | some (f, args, ts) => trFunc P f args ts
  | none => match nilOf P o.op with
    | some (neg, x) => (trOpd P none x).map (.isnil neg)
    | none => match trOp P o with
      | some m => if m.isCall then none else some m
      | none => none

theorem callOf_some {op : Op} {f : FuncId} {args : List Operand} {ts : List TypeId} (h : callOf op = some (f, args, ts)) : ∃ c : Call, op = .call c ∧ c.callee = .value (.func f) ∧ c.args.toList = args ∧ c.argTypes.toList = ts := by
  cases op with
  | call c =>
    simp only [callOf] at h
    split at h
    · rename_i g hg
      cases h
      exact ⟨c, rfl, hg, rfl, rfl⟩
    · cases h
  | _ => simp [callOf] at h

theorem trX_op {P : Program} {o : Oper} {m : MOp} (h : trX P o = some m) (hm : m.isCall = false) : trOp P o = some m := by
  unfold trX at h
  split at h
  · rename_i f args ts hc
    obtain ⟨c, h1, h2, rfl, rfl⟩ := callOf_some hc
    obtain ⟨dst, op, ty, pos, aft, gd⟩ := o
    simp only at h1
    subst h1
    simp only [trOp, trCall, h2]
    exact h
  · split at h
    · simp only [Option.map_eq_some_iff] at h
      obtain ⟨y, _, rfl⟩ := h
      simp [MOp.isCall] at hm
    · split at h
      · split at h
        · cases h
        · rename_i hq _; cases h; exact hq
      · cases h

def trOper (P : Program) (N : Nat) (ops : Array Oper) (o : Oper) : Option MOper :=
  (trDst N o.dst).bind fun d => (trX P o).bind fun m => (trGuard ops o.guard).map fun g => ⟨d, m, g⟩

def trOpers (P : Program) (N : Nat) (ops : Array Oper) : List Oper → Option (List MOper)
  | [] => some []
  | o :: os => (trOper P N ops o).bind fun m => (trOpers P N ops os).map fun ms => m :: ms

theorem idsL_of {l : List AV} {x : AV} (h : x ∈ l) {id : Nat} (hid : id ∈ idsV x) : id ∈ idsL l := by
  induction l with
  | nil => simp at h
  | cons y ys ih =>
    simp only [idsL, List.mem_append]
    rcases List.mem_cons.1 h with rfl | h
    · exact .inl hid
    · exact .inr (ih h)

/-- A call with its world, from the call's begin on. -/
structure St (P : Program) (N : Nat) (w0 : World) (im0 : Nat → Prop) (ρ0 : Nat → Loc) (rows0 : List Row) (env : Env) (rows : List Row) (a : Act) (w : World) (im : Nat → Prop) (ρ : Nat → Loc) : Prop where
  wf : WF P im w ρ rows
  env : EnvOK P im w ρ a env
  ext : Ext w0 im0 ρ0 rows0 w im ρ rows
  size : a.tmps.size = N
  defers : a.defers = []

section
variable {P : Program} {N : Nat} {w0 : World} {im0 : Nat → Prop} {ρ0 : Nat → Loc} {rows0 : List Row} {env : Env} {rows : List Row} {a : Act} {w : World} {im : Nat → Prop} {ρ : Nat → Loc}

theorem put_eval {d : Nat} {a : Act} (hd : d < a.tmps.size) (v : Value) (t : Nat) : (a.put (some d) v).eval (.tmp t) = if d = t then v else a.eval (.tmp t) := by
  simp only [Act.put, Act.eval]
  by_cases h : d = t
  · subst h; simp [Array.getElem?_setIfInBounds, hd]
  · simp [Array.getElem?_setIfInBounds, h]

/-- Behind an operation. -/
theorem St.step (h : St P N w0 im0 ρ0 rows0 env rows a w im ρ) {d d' : Option Nat} (hd : trDst N d = some d') {v : Value} {r : AV} {w' : World} {im' : Nat → Prop} {ρ' : Nat → Loc} {rows' : List Row}
    (hW : WF P im' w' ρ' rows') (hE : Ext w im ρ rows w' im' ρ' rows') (hr : RepV P im' w' ρ' v r) : St P N w0 im0 ρ0 rows0 (putE d' r env) rows' (a.put d v) w' im' ρ' := by
  have henv : EnvOK P im' w' ρ' a env := fun t => hE.repV h.wf (h.env t)
  cases d with
  | none =>
    simp [trDst] at hd; subst hd
    exact ⟨hW, henv, h.ext.trans hE, h.size, h.defers⟩
  | some d =>
    simp only [trDst] at hd
    split at hd
    · rename_i hlt
      cases hd
      refine ⟨hW, fun t => ?_, h.ext.trans hE, by simp [Act.put, h.size], by simp [Act.put, h.defers]⟩
      rw [put_eval (by rw [h.size]; exact hlt)]
      simp only [putE, look]
      split
      · exact hr
      · exact henv t
    · cases hd

def Wants (env : Env) (x : Bool) : Option (Nat × Bool) → Prop
  | none => x = true
  | some (t, b) => (∀ c, look env t = .bool c → x = (c == b)) ∧ (look env t = .tup [] → x = false)

theorem wanted_of {ops : Array Oper} {o : Oper} {g : Option (Nat × Bool)} (hg : trGuard ops o.guard = some g) (he : EnvOK P im w ρ a env) : Wants env (Region.wanted o (yielded ops a.tmps)) g := by
  unfold Region.wanted
  generalize o.guard = og at hg ⊢
  cases og with
  | none => simp [trGuard] at hg; subst hg; rfl
  | some jb =>
    obtain ⟨j, b⟩ := jb
    simp only [trGuard] at hg
    split at hg
    · rename_i t ht
      cases hg
      have hy : ∀ v, a.eval (.tmp t) = v → (∀ c, v = .bool c → yielded ops a.tmps j = some c) ∧ ((∀ c, v ≠ .bool c) → yielded ops a.tmps j = none) := by
        intro v hv
        simp only [Act.eval] at hv
        unfold yielded
        rw [ht]
        simp only [Option.bind_some]
        cases hq : a.tmps[t]? with
        | none =>
          rw [Array.getD_eq_getD_getElem?, hq] at hv
          simp [undef] at hv
          subst hv
          exact ⟨(fun c e => by cases e), (fun _ => rfl)⟩
        | some q =>
          rw [Array.getD_eq_getD_getElem?, hq] at hv
          simp at hv; subst hv
          refine ⟨(fun c e => by rw [e]), fun hn => ?_⟩
          cases q <;> first | rfl | exact absurd rfl (hn _)
      obtain ⟨y1, y2⟩ := hy _ rfl
      have hr := he t
      refine ⟨fun c hc => ?_, fun hc => ?_⟩
      · rw [hc] at hr
        simp [y1 c (rep_bool hr)]
      · rw [hc] at hr
        have hn : ∀ c, a.eval (.tmp t) ≠ .bool c := by
          generalize a.eval (.tmp t) = v at hr
          cases hr
          intro c e; cases e
        simp [y2 hn]
    · cases hg

/-- A call's operation. -/
theorem exec_call {o : Oper} {f : Nat} {args : List Opd} (he : EnvOK P im w ρ a env) (ht : trX P o = some (.call f args)) :
    ∃ vs : List Value, (execOp a.eval o).run P w = .ok (.enter f vs.toArray) w ∧ RepT P im w ρ vs (args.map (Opd.get env)) := by
  unfold trX at ht
  split at ht
  · rename_i f' xs ts hc
    obtain ⟨c, h1, h2, rfl, rfl⟩ := callOf_some hc
    obtain ⟨dst, op, ty, pos, aft, gd⟩ := o
    simp only at h1
    subst h1
    unfold trFunc at ht
    split at ht
    · rename_i fn hfn
      split at ht
      · cases ht
      · rename_i hng
        split at ht
        · rename_i hb
          rw [Option.map_eq_some_iff] at ht
          obtain ⟨as, h3, h4⟩ := ht
          cases h4
          refine ⟨c.args.toList.map a.eval, ?_, trArgs_sound he h3⟩
          obtain ⟨callee, cargs, cts⟩ := c
          simp only at h2
          subst h2
          have hb' : fn.body ≠ none := by intro e; simp [e] at hb
          have hnm : ¬ fn.name = "runtime.NumGoroutine" := by simpa using hng
          simp [execOp, resolve, Deferred.ofValue, Act.eval, invoke, callFunc, hfn, hnm, hb']
          rw [← Array.toList_map, Array.toArray_toList]
        · split at ht
          · split at ht
            · simp [Option.map_eq_some_iff] at ht
            · split at ht
              · simp [Option.map_eq_some_iff] at ht
              · cases ht
          · cases ht
    · cases ht
  · split at ht
    · simp [Option.map_eq_some_iff] at ht
    · split at ht
      · split at ht
        · cases ht
        · rename_i hq; cases ht; simp [MOp.isCall] at hq
      · cases ht

theorem nil_run {t e : TypeId} (hu : P.underlying t = some (.slice e)) (A : Option Addr) (n c : Nat) : (Op.equal t (.slice A n c) (.slice none 0 0)).run P w = .ok A.isNone w := by
  have : ∀ d, (Op.equalIn (d + 1) t (.slice A n c) (.slice none 0 0)).run P w = .ok A.isNone w := fun d => by
    cases A <;> simp [Op.equalIn, run_underlying hu]
  exact this 9999

theorem exec_nil {o : Oper} {neg : Bool} {x : Opd} (ht : trX P o = some (.isnil neg x)) :
    ∃ y, trOpd P none y = some x ∧ ∀ A n c, a.eval y = .slice A n c → (execOp a.eval o).run P w = .ok (.value (.bool (A.isNone != neg))) w := by
  unfold trX at ht
  split at ht
  · rename_i f' xs ts hc
    unfold trFunc at ht
    split at ht
    · split at ht
      · cases ht
      · split at ht
        · simp [Option.map_eq_some_iff] at ht
        · split at ht
          · split at ht
            · simp [Option.map_eq_some_iff] at ht
            · split at ht
              · simp [Option.map_eq_some_iff] at ht
              · cases ht
          · cases ht
    · cases ht
  · split at ht
    · rename_i ng y hn
      simp only [Option.map_eq_some_iff] at ht
      obtain ⟨z, h1, h2⟩ := ht
      cases h2
      obtain ⟨dst, op, ty, pos, aft, gd⟩ := o
      simp only at hn
      unfold nilOf at hn
      split at hn
      · split at hn
        · rename_i hu
          cases hn
          refine ⟨_, h1, fun A n c e => ?_⟩
          have hk : a.eval (.const (.slice none 0 0)) = .slice none 0 0 := rfl
          simp [execOp, e, hk, eqGuard, binOp, nil_run hu]
        · cases hn
      · split at hn
        · rename_i hu
          cases hn
          refine ⟨_, h1, fun A n c e => ?_⟩
          have hk : a.eval (.const (.slice none 0 0)) = .slice none 0 0 := rfl
          simp [execOp, e, hk, eqGuard, binOp, nil_run hu]
        · cases hn
      · cases hn
    · split at ht
      · split at ht
        · cases ht
        · rename_i hq; cases ht; simp [MOp.isCall] at hq
      · cases ht

/-- An operation in its place. -/
theorem wpOp_ok {o : Oper} {m : MOp} {d : Option Nat} {Q : Exit → Act → World → Prop} {next : Act → World → Prop} (h : St P N w0 im0 ρ0 rows0 env rows a w im ρ) (hd : trDst N o.dst = some d) (ht : trX P o = some m) {K : AV → List Row → Prop}
    (hK : wpOp P m env rows K) (hn : ∀ v r w' im' ρ' rows', K r rows' → WF P im' w' ρ' rows' → Ext w im ρ rows w' im' ρ' rows' → RepV P im' w' ρ' v r → next (a.put o.dst v) w') : o.wp P a w next Q := by
  have plain : m.isCall = false → (∃ v rows', stepOp (Opd.get env) rows m = some (v, rows') ∧ K v rows') → o.wp P a w next Q := by
    rintro hm ⟨r, rows', h1, h2⟩
    obtain ⟨w', im', ρ', v, hr, hW, hE, hv⟩ := op_sound h.wf h.env (trX_op ht hm) h1
    have := hn v r w' im' ρ' rows' h2 hW hE hv
    unfold Oper.wp
    rcases hr with hr | ⟨hr, rfl⟩
    · rw [hr]; exact this
    · rw [hr]; exact this
  cases m with
  | call f args =>
    obtain ⟨vs, h1, h2⟩ := exec_call h.env ht
    unfold Oper.wp
    rw [h1]
    refine (hK w im ρ vs h.wf h2).mono ?_
    rintro e w' ⟨v, r, rows', im', ρ', rfl, k1, k2, k3, k4⟩
    exact hn v r w' im' ρ' rows' k1 k3 k4 k2
  | isnil neg x =>
    obtain ⟨y, h1, h2⟩ := exec_nil (a := a) (w := w) ht
    have hv := trOpd_sound h.env h1
    have go : ∀ A n c, a.eval y = .slice A n c → K (.bool (A.isNone != neg)) rows → o.wp P a w next Q := fun A n c e hk => by
      unfold Oper.wp
      rw [h2 A n c e]
      exact hn _ _ w im ρ rows hk h.wf (Ext.refl _ _ _ _) (.bool _)
    simp only [wpOp] at hK
    generalize x.get env = z at hK hv
    generalize hy : a.eval y = vy at hv
    cases hv with
    | nil e => exact go none 0 0 hy (by simpa [wpNil] using hK)
    | fz e A cap l us h2' h3 h4 h5 h6 =>
      obtain ⟨ad, rfl⟩ := Option.isSome_iff_exists.1 h2'
      exact go _ _ _ hy (by simpa [wpNil] using hK)
    | sref id g cap n h3 h4 => exact go _ _ _ hy (by simpa [wpNil] using hK)
    | _ => exact hK.elim
  | _ => exact plain rfl hK

/-- Operations in the text's order. -/
theorem wpOps_ok {ops : Array Oper} {Q : Exit → Act → World → Prop} : ∀ (os : List Oper) (ms : List MOper) (k : Nat), ops.toList.drop k = os → trOpers P N ops os = some ms →
    ∀ {env : Env} {rows : List Row} {a : Act} {w : World} {im : Nat → Prop} {ρ : Nat → Loc} {K : Env → List Row → Prop}, St P N w0 im0 ρ0 rows0 env rows a w im ρ → wpOps P ms env rows K →
      (∀ {env rows a w im ρ}, St P N w0 im0 ρ0 rows0 env rows a w im ρ → K env rows → Q .normal a w) → Go.wpOps P ops Q (List.range' k os.length) a w
  | [], ms, k, hk, ht, env, rows, a, w, im, ρ, K, h, hK, hQ => by
    simp [trOpers] at ht; subst ht
    exact hQ h hK
  | o :: os, ms, k, hk, ht, env, rows, a, w, im, ρ, K, h, hK, hQ => by
    simp only [trOpers, trOper, Option.bind_eq_some_iff, Option.map_eq_some_iff] at ht
    obtain ⟨m, ⟨d, h1, mo, h2, g, h3, rfl⟩, ms', h4, rfl⟩ := ht
    have hok : ops[k]? = some o := by
      have : (ops.toList.drop k)[0]? = some o := by rw [hk]; rfl
      rw [List.getElem?_drop, Nat.add_zero, Array.getElem?_toList] at this
      exact this
    have hdk : ops.toList.drop (k + 1) = os := by
      have := congrArg (List.drop 1) hk
      rw [List.drop_drop] at this
      simpa using this
    simp only [List.length_cons, List.range'_succ]
    unfold Go.wpOps
    simp only [hok]
    have hw := wanted_of h3 h.env
    have run : wpOp P mo env rows (fun v rows' => wpOps P ms' (putE d v env) rows' K) → o.wp P a w (Go.wpOps P ops Q (List.range' (k + 1) os.length)) Q := fun hp =>
      wpOp_ok h h1 h2 hp (fun v r w' im' ρ' rows' hr h5 h6 h7 => wpOps_ok os ms' (k + 1) hdk h4 (h.step h1 h5 h6 h7) hr hQ)
    have skip : wpOps P ms' (putE d (.tup []) env) rows K → Go.wpOps P ops Q (List.range' (k + 1) os.length) (a.put o.dst undef) w := fun hp =>
      wpOps_ok os ms' (k + 1) hdk h4 (h.step h1 h.wf (Ext.refl _ _ _ _) (.tup [] [] .nil)) hp hQ
    cases g with
    | none =>
      simp only [Wants] at hw
      rw [if_pos hw]
      exact .inl (run hK)
    | some tb =>
      obtain ⟨t, b⟩ := tb
      simp only [wpOps] at hK
      split at hK
      · rename_i c hc
        have := hw.1 c (gdV_yes hc)
        by_cases hcb : c = b
        · rw [if_pos (by rw [this]; simpa using hcb)]
          exact .inl (run (hK.1 hcb))
        · rw [if_neg (by rw [this]; simpa using hcb)]
          exact skip (hK.2 hcb)
      · rename_i hc
        have := hw.2 (gdV_no hc)
        rw [if_neg (by rw [this]; simp)]
        exact skip hK
      · exact hK.elim

/-- Rows are forgotten. -/
theorem St.back (h : St P N w0 im0 ρ0 rows0 env rows a w im ρ) {L : List Nat} {T : List Nat} (hg : gcOK rows0.length L (idsL (T.map (look env))) rows) (h0 : ∀ id, rows0.length ≤ id → ρ0 id = .no) :
    St P N w0 im0 ρ0 rows0 (T.map fun t => (t, renV (gcF L) (look env t))) (gcRows L rows) a w im (gcLoc L ρ) := by
  obtain ⟨g1, g2, g3, g4⟩ := gc_ok h.wf hg
  refine ⟨g1, fun t => ?_, ⟨h.ext.os, h.ext.tape, h.ext.output, h.ext.size, h.ext.block, h.ext.imsub, h.ext.imnew, fun id hid => ?_, by simpa [gcRows] using hg.1, fun b hb => h.ext.own b (g2 b hb)⟩, h.size, h.defers⟩
  · have key : ∀ T' : List Nat, (∀ t ∈ T', t ∈ T) → RepV P im w (gcLoc L ρ) (a.eval (.tmp t)) (look (T'.map fun t => (t, renV (gcF L) (look env t))) t) := by
      intro T'
      induction T' with
      | nil => intro _; exact .un _
      | cons s T' ih =>
        intro hT
        simp only [List.map_cons, look]
        split
        · rename_i hst
          subst hst
          refine (h.env s).ren (fun id hid => g4 id ?_)
          exact idsL_of (List.mem_map.2 ⟨s, hT s (by simp), rfl⟩) hid
        · exact ih (fun t ht => hT t (List.mem_cons_of_mem _ ht))
    exact key T (fun _ h => h)
  · have hlt : id < rows0.length := by
      rcases Nat.lt_or_ge id rows0.length with h' | h'
      · exact h'
      · exact hid.elim (fun hn => absurd (h0 id h') hn) (fun h => h)
    rw [g3 id hlt]
    exact h.ext.rho id hid
end
end Go.Sk
