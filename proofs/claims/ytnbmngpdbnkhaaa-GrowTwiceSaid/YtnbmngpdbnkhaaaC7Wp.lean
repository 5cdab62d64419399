/- What a Go function's compact code does, as a statement on abstract values alone. Conditions: none (a library text). -/
import Derived.Test.YtnbmngpdbnkhaaaC7OpAll
set_option linter.unusedVariables false
set_option linter.unusedSimpArgs false
namespace Go.Sk
open Go.RowKit

/-! ### The rows that a value leads to; other numbers for them -/
mutual
def idsV : AV → List Nat
  | .sref id _ | .ptr id _ | .ptrA id _ _ | .ptrE id _ _ _ => [id]
  | .arr l | .agg l | .tup l => idsL l
  | _ => []
def idsL : List AV → List Nat
  | [] => []
  | x :: xs => idsV x ++ idsL xs
end

mutual
def renV (f : Nat → Nat) : AV → AV
  | .sref id n => .sref (f id) n
  | .ptr id c => .ptr (f id) c
  | .ptrA id c j => .ptrA (f id) c j
  | .ptrE id e i c => .ptrE (f id) e i c
  | .arr l => .arr (renL f l)
  | .agg l => .agg (renL f l)
  | .tup l => .tup (renL f l)
  | x => x
def renL (f : Nat → Nat) : List AV → List AV
  | [] => []
  | x :: xs => renV f x :: renL f xs
end

def idsR : Row → List Nat
  | .box _ v => idsL v
  | _ => []

def renR (f : Nat → Nat) : Row → Row
  | .box t v => .box t (renL f v)
  | r => r

theorem renL_length (f : Nat → Nat) : ∀ l, (renL f l).length = l.length
  | [] => rfl
  | x :: xs => by simp [renL, renL_length f xs]

theorem renV_one (f : Nat → Nat) (x : AV) : (renV f x).one = x.one := by cases x <;> simp [renV, AV.one]

theorem renL_ones (f : Nat → Nat) : ∀ l, (∀ x ∈ l, AV.one x = true) → ∀ x ∈ renL f l, AV.one x = true
  | [], _, x, hx => by simp [renL] at hx
  | y :: ys, h, x, hx => by
    simp only [renL, List.mem_cons] at hx
    rcases hx with rfl | hx
    · rw [renV_one]; exact h y (by simp)
    · exact renL_ones f ys (fun z hz => h z (List.mem_cons_of_mem _ hz)) x hx

section ren
variable {P : Program} {im : Nat → Prop} {w : World} {ρ ρ' : Nat → Loc} {f : Nat → Nat}

mutual
/-- The values under other numbers. -/
theorem RepV.ren {ρ ρ' : Nat → Loc} : ∀ {v : Value} {x : AV}, RepV P im w ρ v x → (∀ id, id ∈ idsV x → ρ' (f id) = ρ id) → RepV P im w ρ' v (renV f x)
  | _, _, .int k n, _ => .int k n
  | _, _, .bool b, _ => .bool b
  | _, _, .str s, _ => .str s
  | _, _, .flt b, _ => .flt b
  | _, _, .nil e, _ => .nil e
  | _, _, .fz e A cap l us hA hl hm ha hr, _ => .fz e A cap l us hA hl hm ha hr
  | _, _, .sref id g cap n hh hn, h => .sref _ g cap n (by rw [h id (by simp [idsV])]; exact hh) hn
  | _, _, .ptr id g cap c hh, h => .ptr _ g cap c (by rw [h id (by simp [idsV])]; exact hh)
  | _, _, .ptrA id g cap c j hh, h => .ptrA _ g cap c j (by rw [h id (by simp [idsV])]; exact hh)
  | _, _, .ptrE id g cap e i c hh, h => .ptrE _ g cap e i c (by rw [h id (by simp [idsV])]; exact hh)
  | _, _, .pz ad us items c hb hu hr, _ => .pz ad us items c hb hu hr
  | _, _, .nilp, _ => .nilp
  | _, _, .agg vs l hh, h => .agg vs _ (RepL.ren hh (fun id hid => h id (by simpa [idsV] using hid)))
  | _, _, .tup vs l hh, h => .tup vs _ (RepT.ren hh (fun id hid => h id (by simpa [idsV] using hid)))
  | _, _, .un v, _ => .un v
theorem RepL.ren {ρ ρ' : Nat → Loc} : ∀ {vs : List Value} {xs : List AV}, RepL P im w ρ vs xs → (∀ id, id ∈ idsL xs → ρ' (f id) = ρ id) → RepL P im w ρ' vs (renL f xs)
  | _, _, .nil, _ => .nil
  | _, _, .cons v x vs xs h1 h hs, hh => .cons v _ vs _ (by rw [renV_one]; exact h1) (RepV.ren h (fun id hid => hh id (by simp [idsL, hid]))) (RepL.ren hs (fun id hid => hh id (by simp [idsL, hid])))
  | _, _, .arr us l vs xs h1 h hs, hh => .arr us _ vs _ (renL_ones f l h1) (RepL.ren h (fun id hid => hh id (by simp [idsL, idsV, hid]))) (RepL.ren hs (fun id hid => hh id (by simp [idsL, hid])))
theorem RepT.ren {ρ ρ' : Nat → Loc} : ∀ {vs : List Value} {xs : List AV}, RepT P im w ρ vs xs → (∀ id, id ∈ idsL xs → ρ' (f id) = ρ id) → RepT P im w ρ' vs (renL f xs)
  | _, _, .nil, _ => .nil
  | _, _, .cons v x vs xs h hs, hh => .cons v _ vs _ (RepV.ren h (fun id hid => hh id (by simp [idsL, hid]))) (RepT.ren hs (fun id hid => hh id (by simp [idsL, hid])))
end

theorem RowOK.ren {id id' : Nat} {r : Row} (h : RowOK P im w ρ id r) (hid : ρ' id' = ρ id) (hf : ∀ j, j ∈ idsR r → ρ' (f j) = ρ j) : RowOK P im w ρ' id' (renR f r) := by
  cases r with
  | box t v =>
    obtain ⟨g, cap, cur, h1, h2, h3, h4⟩ := h
    exact ⟨g, cap, cur, hid.trans h1, h2, h3, h4.ren hf⟩
  | vec e l =>
    rcases h with ⟨h1, h2⟩ | ⟨g, cap, h1, h3, h4⟩
    · exact .inl ⟨hid.trans h1, h2⟩
    · exact .inr ⟨g, cap, hid.trans h1, h3, h4⟩
  | frz e l =>
    rcases h with ⟨h1, h2⟩ | ⟨g, cap, h1, h3, h4⟩
    · exact .inl ⟨hid.trans h1, h2⟩
    · exact .inr ⟨g, cap, hid.trans h1, h3, h4⟩
  | dead => trivial
end ren

/-! ### Rows that nobody names any more are forgotten, the others numbered anew -/
/-- 'L': the rows that stay, in their new order; the first k0 keep their numbers. -/
def gcOK (k0 : Nat) (L : List Nat) (ids : List Nat) (rows : List Row) : Prop :=
  k0 ≤ L.length ∧ (∀ i, i < k0 → L[i]? = some i) ∧ L.Nodup ∧ (∀ id ∈ ids, id ∈ L) ∧ ∀ id ∈ L, ∃ r, rows[id]? = some r ∧ ∀ j ∈ idsR r, j ∈ L

def gcF (L : List Nat) (id : Nat) : Nat := L.idxOf id
def gcRows (L : List Nat) (rows : List Row) : List Row := L.map fun id => renR (gcF L) (rows.getD id .dead)

theorem gcF_get {L : List Nat} {id : Nat} (h : id ∈ L) : L[gcF L id]? = some id := by
  unfold gcF
  have hlt := List.idxOf_lt_length_of_mem h
  rw [List.getElem?_eq_getElem hlt, List.getElem_idxOf]

def gcLoc (L : List Nat) (ρ : Nat → Loc) (i : Nat) : Loc := match L[i]? with
  | some id => ρ id
  | none => .no

section gc
variable {P : Program} {im : Nat → Prop} {w : World} {ρ : Nat → Loc} {rows : List Row} {k0 : Nat} {L ids : List Nat}

theorem renR_live (f : Nat → Nat) (r : Row) : (renR f r).live = r.live := by cases r <;> rfl

theorem gc_ok (hW : WF P im w ρ rows) (h : gcOK k0 L ids rows) :
    WF P im w (gcLoc L ρ) (gcRows L rows) ∧ (∀ b, Own (gcLoc L ρ) (gcRows L rows) b → Own ρ rows b) ∧ (∀ i, i < k0 → gcLoc L ρ i = ρ i) ∧ (∀ id ∈ ids, gcLoc L ρ (gcF L id) = ρ id) := by
  obtain ⟨h0, h1, h2, h3, h4⟩ := h
  have hL : ∀ id, id ∈ L → gcLoc L ρ (gcF L id) = ρ id := fun id hid => by simp [gcLoc, gcF_get hid]
  have hrow : ∀ (i : Nat) (r : Row), (gcRows L rows)[i]? = some r → ∃ (id : Nat) (r0 : Row), L[i]? = some id ∧ rows[id]? = some r0 ∧ r = renR (gcF L) r0 ∧ ∀ j ∈ idsR r0, j ∈ L := fun i r hi => by
    simp only [gcRows, List.getElem?_map, Option.map_eq_some_iff] at hi
    obtain ⟨id, a1, rfl⟩ := hi
    obtain ⟨r0, b1, b2⟩ := h4 id (List.mem_of_getElem? a1)
    exact ⟨id, r0, a1, b1, by simp [List.getD_eq_getElem?_getD, b1], b2⟩
  refine ⟨⟨fun i r hi => ?_, fun i i' r r' b c c' e1 e2 l1 l2 g1 g2 => ?_, fun i hi => ?_, hW.im⟩, ?_, fun i hi => by simp [gcLoc, h1 i hi], fun id hid => hL id (h3 id hid)⟩
  · obtain ⟨id, r0, a1, a2, rfl, a3⟩ := hrow i r hi
    exact (hW.row id r0 a2).ren (by simp [gcLoc, a1]) (fun j hj => hL j (a3 j hj))
  · obtain ⟨id, r0, a1, a2, rfl, _⟩ := hrow i r e1
    obtain ⟨id', r0', b1, b2, rfl, _⟩ := hrow i' r' e2
    rw [renR_live] at l1 l2
    have g1' : ρ id = .blk b c := by simpa [gcLoc, a1] using g1
    have g2' : ρ id' = .blk b c' := by simpa [gcLoc, b1] using g2
    have := hW.inj id id' r0 r0' b c c' a2 b2 l1 l2 g1' g2'
    subst this
    obtain ⟨p1, p2⟩ := List.getElem?_eq_some_iff.1 a1
    obtain ⟨q1, q2⟩ := List.getElem?_eq_some_iff.1 b1
    exact (List.getElem_inj h2).1 (p2.trans q2.symm)
  · simp [gcRows] at hi
    simp [gcLoc, hi]
  · rintro b ⟨i, r, c, a1, a2, a3⟩
    obtain ⟨id, r0, b1, b2, rfl, _⟩ := hrow i r a1
    rw [renR_live] at a2
    exact ⟨id, r0, c, b2, a2, by simpa [gcLoc, b1] using a3⟩
end gc

/-! ### Calls -/
/-- What a call of f does, whatever the world: it returns, and what it returns, and the rows behind it, are as K says. -/
def CW (P : Program) (f : Nat) (args : List AV) (rows : List Row) (K : AV → List Row → Prop) : Prop :=
  ∀ (w : World) (im : Nat → Prop) (ρ : Nat → Loc) (vs : List Value), WF P im w ρ rows → RepT P im w ρ vs args →
    Calls P f vs.toArray w fun e w' => ∃ v r rows' im' ρ', e = .returned v ∧ K r rows' ∧ RepV P im' w' ρ' v r ∧ WF P im' w' ρ' rows' ∧ Ext w im ρ rows w' im' ρ' rows'

theorem CW.mono {P : Program} {f : Nat} {args : List AV} {rows : List Row} {K K' : AV → List Row → Prop} (h : CW P f args rows K) (hk : ∀ r rs, K r rs → K' r rs) : CW P f args rows K' :=
  fun w im ρ vs hW hv => (h w im ρ vs hW hv).mono fun e w' ⟨v, r, rows', im', ρ', a, b, c⟩ => ⟨v, r, rows', im', ρ', a, hk _ _ b, c⟩

/-! ### Code -/
inductive Ex where
  | n
  | x (id : Nat)
  | r

def putE (dst : Option Nat) (v : AV) (env : Env) : Env :=
  match dst with
  | some d => (d, v) :: env
  | none => env

/-- Is a slice nil? -/
def wpNil (neg : Bool) (rows : List Row) (K : AV → List Row → Prop) : AV → Prop
  | .nil _ => K (.bool (!neg)) rows
  | .fz _ _ | .sref _ _ => K (.bool neg) rows
  | _ => False

/-- One operation. -/
def wpOp (P : Program) (op : MOp) (env : Env) (rows : List Row) (K : AV → List Row → Prop) : Prop :=
  match op with
  | .call f args => CW P f (args.map (Opd.get env)) rows K
  | .isnil neg x => wpNil neg rows K (x.get env)
  | op => ∃ v rows', stepOp (Opd.get env) rows op = some (v, rows') ∧ K v rows'

/-- What a guard's slot tells. -/
inductive Gd where
  | yes (c : Bool)
  | no
  | bad

def gdV : AV → Gd
  | .bool c => .yes c
  | .tup l => if l.isEmpty then .no else .bad
  | _ => .bad

theorem gdV_yes {x : AV} {c : Bool} (h : gdV x = .yes c) : x = .bool c := by
  cases x <;> simp [gdV] at h
  · exact congrArg AV.bool h
  · split at h <;> cases h
theorem gdV_no {x : AV} (h : gdV x = .no) : x = .tup [] := by
  cases x <;> simp [gdV] at h
  exact congrArg AV.tup (h)

/-- Operations, one behind the other. -/
def wpOps (P : Program) : List MOper → Env → List Row → (Env → List Row → Prop) → Prop
  | [], env, rows, K => K env rows
  | o :: os, env, rows, K => match o.g with
    | none => wpOp P o.op env rows fun v rows' => wpOps P os (putE o.dst v env) rows' K
    | some (t, b) => match gdV (look env t) with
      | .yes c => (c = b → wpOp P o.op env rows fun v rows' => wpOps P os (putE o.dst v env) rows' K) ∧ (c ≠ b → wpOps P os (putE o.dst (.tup []) env) rows K)
      | .no => wpOps P os (putE o.dst (.tup []) env) rows K
      | .bad => False

/-- A call that leaves the rows as they are, and whose value is told. -/
def FCall (P : Program) (f : Nat) (args : List AV) (v : AV) : Prop := ∀ rows, CW P f args rows (fun r rs => r = v ∧ rs = rows)

theorem FCall.cw {P : Program} {f : Nat} {args : List AV} {v : AV} {rows : List Row} {K : AV → List Row → Prop} (h : FCall P f args v) (hK : K v rows) : CW P f args rows K :=
  (h rows).mono (by rintro r rs ⟨rfl, rfl⟩; exact hK)

/-- A call that leaves the rows as they are and makes new ones behind them; there are n before. -/
def FCallN (P : Program) (f : Nat) (args : List AV) (n : Nat) (v : AV) (new : List Row) : Prop := ∀ rows : List Row, rows.length = n → CW P f args rows (fun r rs => r = v ∧ rs = rows ++ new)

theorem FCall.toN {P : Program} {f : Nat} {args : List AV} {v : AV} (h : FCall P f args v) (n : Nat) : FCallN P f args n v [] := fun rows _ => (h rows).mono (by rintro r rs ⟨rfl, rfl⟩; exact ⟨rfl, by simp⟩)

/-! ### Operations whose order the machine draws -/
inductive Kd where
  | v
  | c
  | l
  | a
  | w
  deriving DecidableEq

def DOp.kd (d : DOp) : Kd :=
  match d.o.op with
  | .call .. | .isnil .. => .c
  | .load .. => .l
  | .store .. => .w
  | .new .. | .box .. | .bslice .. => .a
  | .app .. => if d.w then .w else .a
  | _ => .v

def rowId : AV → Option Nat
  | .ptr id _ | .ptrA id _ _ | .ptrE id _ _ _ => some id
  | _ => none

/-- What is stored there changes nothing that is read here. -/
def sepB (st ld : AV) : Bool :=
  match st with
  | .ptr id _ | .ptrA id _ _ => rowId ld != some id
  | _ => false

def ptrOf : MOp → Opd
  | .load _ _ x => x
  | .store _ a _ => a
  | _ => .k .un

def boxP : AV → Bool
  | .ptr .. | .ptrA .. => true
  | _ => false

/-- What was there before the region. -/
def Und (b nx : Nat) (x : AV) : Prop := nx = 0 ∨ ∀ id, rowId x = some id → id + 1 < b + nx
def UndB (b nx : Nat) (x : AV) : Prop := nx = 0 ∨ (boxP x = true ∧ ∀ id, rowId x = some id → id + 1 < b + nx)

def newAt (id : Nat) : AV → Option AV
  | .ptr 0 0 => some (.ptr id 0)
  | .sref 0 n => some (.sref id n)
  | .nil e => some (.nil e)
  | _ => none

/-- What such an operation does, once it may. -/
def outc (P : Program) (b : Nat) (d : DOp) (g : Opd → AV) (rows : List Row) (v : AV) (rows' : List Row) : Prop :=
  match d.kd with
  | .v => rows' = rows ∧ ∃ r, stepOp g [] d.o.op = some (v, r)
  | .c => ∃ f args new, d.o.op = .call f args ∧ rows' = rows ++ new ∧ b + d.nx ≤ rows.length ∧ FCallN P f (args.map g) rows.length v new
  | .l => rows' = rows ∧ stepOp g rows d.o.op = some (v, rows) ∧ (∀ k ∈ d.av, rowId (g (ptrOf d.o.op)) ≠ some (b + k)) ∧ (∀ p ∈ d.sep, sepB (g (.t p)) (g (ptrOf d.o.op)) = true) ∧ Und b d.nx (g (ptrOf d.o.op))
  | .a => ∃ u r, stepOp g [] d.o.op = some (u, [r]) ∧ newAt (b + d.nx) u = some v ∧ rows[b + d.nx]? = some .dead ∧ rows' = rows.set (b + d.nx) r
  | .w => stepOp g rows d.o.op = some (v, rows') ∧ (∀ p ∈ d.sep, sepB (g (ptrOf d.o.op)) (g (.t p)) = true) ∧ UndB b d.nx (g (ptrOf d.o.op))

def wpD (P : Program) (b : Nat) : List DOp → Env → List Row → (Env → List Row → Prop) → Prop
  | [], env, rows, K => K env rows
  | d :: ds, env, rows, K => match d.o.g with
    | none => ∃ v rows', outc P b d (Opd.get env) rows v rows' ∧ wpD P b ds (putE d.o.dst v env) rows' K
    | some (t, c) => match gdV (look env t) with
      | .yes x => (x = c → ∃ v rows', outc P b d (Opd.get env) rows v rows' ∧ wpD P b ds (putE d.o.dst v env) rows' K) ∧ (x ≠ c → wpD P b ds (putE d.o.dst (.tup []) env) rows K)
      | .no => wpD P b ds (putE d.o.dst (.tup []) env) rows K
      | .bad => False

/-- Rows that nobody names are forgotten; of the slots the named ones stay. -/
def Back (kf : Nat) (T : List Nat) (J : Env → List Row → Prop) (env : Env) (rows : List Row) : Prop :=
  ∃ L, gcOK kf L (idsL (T.map (look env))) rows ∧ J (T.map fun t => (t, renV (gcF L) (look env t))) (gcRows L rows)

/-- The code: 'kf': the rows that the call was lent. -/
def wpC (P : Program) (kf : Nat) : MC → Env → List Row → (Ex → Env → List Row → Prop) → Prop
  | .skip, env, rows, K => K .n env rows
  | .reg ops, env, rows, K => wpOps P ops env rows fun env rows => K .n env rows
  | .dreg m ds, env, rows, K => wpD P rows.length ds env (rows ++ List.replicate m .dead) fun env rows => K .n env rows
  | .seq a b, env, rows, K => wpC P kf a env rows fun e env rows => match e with
    | .n => wpC P kf b env rows K
    | e => K e env rows
  | .cond c a b, env, rows, K => match c.get env with
    | .bool t => (t = true → wpC P kf a env rows K) ∧ (t = false → wpC P kf b env rows K)
    | _ => False
  | .block id c, env, rows, K => wpC P kf c env rows fun e env rows => match e with
    | .x j => if j = id then K .n env rows else K (.x j) env rows
    | e => K e env rows
  | .loop c, env, rows, K => ∃ (T : List Nat) (I : Nat → Env → List Row → Prop) (n : Nat), Back kf T (I n) env rows ∧
      ∀ n env' rows', I n env' rows' → wpC P kf c env' rows' fun e env'' rows'' => match e with
        | .n => ∃ m, m < n ∧ Back kf T (I m) env'' rows''
        | e => K e env'' rows''
  | .exit id, env, rows, K => K (.x id) env rows
  | .ret, env, rows, K => K .r env rows

inductive MRes where
  | tmp (t : Nat)
  | cell (t : Nat) (agg : Bool) (n : Nat)

def resV1 (env : Env) (rows : List Row) : MRes → Option AV
  | .tmp t => some (look env t)
  | .cell t agg n => (behind rows (look env t)).bind fun l => (firsts l n).bind fun m => loadR agg m

def resVs (env : Env) (rows : List Row) : List MRes → Option (List AV)
  | [] => some []
  | r :: rs => (resV1 env rows r).bind fun v => (resVs env rows rs).map fun vs => v :: vs

def resV : List AV → AV
  | [v] => v
  | vs => .tup vs

/-- A function's end: what it returns, and the rows that this leads to. -/
def RetW (kf : Nat) (res : List MRes) (Q : AV → List Row → Prop) (env : Env) (rows : List Row) : Prop :=
  ∃ vs, resVs env rows res = some vs ∧ ∃ L, gcOK kf L (idsV (resV vs)) rows ∧ Q (renV (gcF L) (resV vs)) (gcRows L rows)

/-- A function's compact form. -/
structure MF where
  ntmps : Nat
  res : List MRes
  body : MC

def argEnv : Nat → List AV → Env
  | _, [] => []
  | n, v :: vs => (n, v) :: argEnv (n + 1) vs

/-- The whole function. -/
def wpF (P : Program) (f : MF) (args : List AV) (rows : List Row) (Q : AV → List Row → Prop) : Prop :=
  wpC P rows.length f.body (argEnv 0 args) rows fun e env rows' => match e with
    | .x _ => False
    | _ => RetW rows.length f.res Q env rows'
end Go.Sk
