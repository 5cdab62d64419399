/- Operations whose order the machine draws: two that may change places. Conditions: none (a library text). -/
import Derived.Test.YtnbmngpdbnkhaaaC7Draw1
set_option linter.unusedVariables false
set_option linter.unusedSimpArgs false
namespace Go.Sk
open Go.RowKit

def getF (F : Nat → AV) : Opd → AV
  | .t n => F n
  | .k v => v

def putF (d : Option Nat) (v : AV) (F : Nat → AV) : Nat → AV := fun t => if d = some t then v else F t

theorem look_putE (d : Option Nat) (v : AV) (env : Env) : look (putE d v env) = putF d v (look env) := by
  funext t
  cases d with
  | none => simp [putE, putF]
  | some d => simp [putE, putF, look]

theorem get_look (env : Env) : Opd.get env = getF (look env) := by
  funext x; cases x <;> rfl

def GuardF (F : Nat → AV) (run : Bool) : Option (Nat × Bool) → Prop
  | none => run = true
  | some (t, c) => (∃ x, F t = .bool x ∧ run = (x == c)) ∨ (F t = .tup [] ∧ run = false)

/-- What such an operation does; 'G': what the slots hold at the region's end. -/
def outG (P : Program) (b : Nat) (G : Nat → AV) (d : DOp) (g : Opd → AV) (rows : List Row) (v : AV) (rows' : List Row) : Prop :=
  match d.kd with
  | .v => rows' = rows ∧ ∃ r, stepOp g [] d.o.op = some (v, r)
  | .c => ∃ f args new, d.o.op = .call f args ∧ rows' = rows ++ new ∧ b + d.nx ≤ rows.length ∧ FCallN P f (args.map g) rows.length v new
  | .l => rows' = rows ∧ stepOp g rows d.o.op = some (v, rows) ∧ (∀ k ∈ d.av, rowId (g (ptrOf d.o.op)) ≠ some (b + k)) ∧ (∀ p ∈ d.sep, sepB (G p) (g (ptrOf d.o.op)) = true) ∧ g (ptrOf d.o.op) = getF G (ptrOf d.o.op) ∧ Und b d.nx (g (ptrOf d.o.op))
  | .a => ∃ u r, stepOp g [] d.o.op = some (u, [r]) ∧ newAt (b + d.nx) u = some v ∧ rows[b + d.nx]? = some .dead ∧ rows' = rows.set (b + d.nx) r
  | .w => stepOp g rows d.o.op = some (v, rows') ∧ (∀ p ∈ d.sep, sepB (g (ptrOf d.o.op)) (G p) = true) ∧ g (ptrOf d.o.op) = getF G (ptrOf d.o.op) ∧ UndB b d.nx (g (ptrOf d.o.op))

def Ran (P : Program) (b : Nat) (G : Nat → AV) (d : DOp) (run : Bool) (F : Nat → AV) (R : List Row) (F' : Nat → AV) (R' : List Row) : Prop :=
  match run with
  | true => ∃ v, outG P b G d (getF F) R v R' ∧ F' = putF d.o.dst v F
  | false => R' = R ∧ F' = putF d.o.dst (.tup []) F

def StepD (P : Program) (b : Nat) (G : Nat → AV) (d : DOp) (F : Nat → AV) (R : List Row) (F' : Nat → AV) (R' : List Row) : Prop :=
  ∃ run, GuardF F run d.o.g ∧ Ran P b G d run F R F' R'

def tmpsL : List Opd → List Nat
  | [] => []
  | .t n :: xs => n :: tmpsL xs
  | .k _ :: xs => tmpsL xs

def guardT : Option (Nat × Bool) → List Nat
  | none => []
  | some (t, _) => [t]

def reads (d : DOp) : List Nat := tmpsL (opds d.o.op) ++ guardT d.o.g

theorem tmpsL_get {F G : Nat → AV} : ∀ {l : List Opd}, (∀ t ∈ tmpsL l, F t = G t) → ∀ x ∈ l, getF F x = getF G x
  | .t n :: xs, h, x, hx => by
    rcases List.mem_cons.1 hx with rfl | hx
    · exact h n (by simp [tmpsL])
    · exact tmpsL_get (fun t ht => h t (by simp [tmpsL, ht])) x hx
  | .k v :: xs, h, x, hx => by
    rcases List.mem_cons.1 hx with rfl | hx
    · rfl
    · exact tmpsL_get (fun t ht => h t (by simpa [tmpsL] using ht)) x hx

theorem ptrOf_opds (op : MOp) : ptrOf op ∈ opds op ∨ ptrOf op = .k .un := by
  cases op <;> simp [ptrOf, opds]

theorem ptrOf_get {F G : Nat → AV} {op : MOp} (h : ∀ x ∈ opds op, getF F x = getF G x) : getF F (ptrOf op) = getF G (ptrOf op) := by
  rcases ptrOf_opds op with h' | h'
  · exact h _ h'
  · rw [h']; rfl

theorem outG_congr {P : Program} {b : Nat} {E : Nat → AV} {d : DOp} {F G : Nat → AV} {R R' : List Row} {v : AV} (h : ∀ t ∈ reads d, F t = G t) (ho : outG P b E d (getF F) R v R') : outG P b E d (getF G) R v R' := by
  have h1 : ∀ x ∈ opds d.o.op, getF F x = getF G x := tmpsL_get (fun t ht => h t (by simp [reads, ht]))
  have h2 : getF F (ptrOf d.o.op) = getF G (ptrOf d.o.op) := ptrOf_get h1
  have hs : ∀ rows, stepOp (getF F) rows d.o.op = stepOp (getF G) rows d.o.op := fun rows => stepOp_congr h1
  unfold outG at ho ⊢
  split at ho
  · rw [hs] at ho; exact ho
  · obtain ⟨f, args, new, e, a, a', k⟩ := ho
    refine ⟨f, args, new, e, a, a', ?_⟩
    rw [e] at h1
    have hm : args.map (getF F) = args.map (getF G) := List.map_congr_left (fun x hx => h1 x (by simpa [opds] using hx))
    rw [hm] at k
    exact k
  · obtain ⟨a, b1, c, k, l, q⟩ := ho
    exact ⟨a, by rw [← hs]; exact b1, fun x hx => by rw [← h2]; exact c x hx, fun p hp => by rw [← h2]; exact k p hp, by rw [← h2]; exact l, by rw [← h2]; exact q⟩
  · rw [hs] at ho; exact ho
  · obtain ⟨a, k, l, q⟩ := ho
    exact ⟨by rw [← hs]; exact a, fun p hp => by rw [← h2]; exact k p hp, by rw [← h2]; exact l, by rw [← h2]; exact q⟩

def apartB (i j : DOp) : Bool :=
  (match i.o.dst with
    | none => true
    | some t => !(reads j).contains t && j.o.dst != some t && !(tmpsL (opds i.o.op)).contains t) &&
  (match j.o.dst with
    | none => true
    | some t => !(reads i).contains t)

/-- The first's pointer is one that the second keeps away from. -/
def sepT (i j : DOp) : Bool :=
  match ptrOf i.o.op with
  | .t n => j.sep.contains n
  | _ => false

def kindsB (i j : DOp) : Bool :=
  match i.kd, j.kd with
  | .v, _ | _, .v => true
  | .c, .c => false
  | .c, .a => decide (j.nx < i.nx)
  | .a, .c => true
  | .c, .l => j.nx != 0 && decide (j.nx ≤ i.nx + 1)
  | .l, .c => true
  | .c, .w => j.nx != 0 && decide (j.nx ≤ i.nx + 1)
  | .w, .c => i.nx != 0 && decide (i.nx ≤ j.nx + 1)
  | .a, .a => i.nx != j.nx
  | .a, .l => j.av.contains i.nx
  | .l, .a => i.av.contains j.nx
  | .l, .l => true
  | .w, .l => sepT i j
  | .l, .w => sepT i j
  | .w, .w => sepT i j
  | _, _ => false

theorem putF_off {d : Option Nat} {v : AV} {F : Nat → AV} {l : List Nat} (h : ∀ t, d = some t → t ∉ l) : ∀ t ∈ l, putF d v F t = F t := fun t ht => by
  simp only [putF]
  rw [if_neg]
  exact fun e => h t e ht

theorem putF_comm {d e : Option Nat} {v u : AV} {F : Nat → AV} (h : ∀ t, d = some t → e ≠ some t) : putF d v (putF e u F) = putF e u (putF d v F) := by
  funext t
  simp only [putF]
  by_cases h1 : d = some t
  · simp [h1, h t h1]
  · simp [h1]

theorem guardF_congr {F G : Nat → AV} {run : Bool} {g : Option (Nat × Bool)} (h : ∀ t ∈ guardT g, F t = G t) (hg : GuardF F run g) : GuardF G run g := by
  cases g with
  | none => exact hg
  | some tc =>
    obtain ⟨t, c⟩ := tc
    rw [GuardF, ← h t (by simp [guardT])]
    exact hg

theorem kd_load {d : DOp} (h : d.kd = .l) : ∃ a n x, d.o.op = .load a n x := by
  unfold DOp.kd at h
  split at h <;> first | cases h | skip
  · rename_i hh; exact ⟨_, _, _, hh⟩
  · split at h <;> cases h

theorem sepT_spec {i j : DOp} (h : sepT i j = true) : ∃ n, ptrOf i.o.op = .t n ∧ n ∈ j.sep := by
  unfold sepT at h
  split at h
  · rename_i n e
    exact ⟨n, e, by simpa using h⟩
  · cases h

theorem step_store {g : Opd → AV} {R R' : List Row} {m : Nat} {a y : Opd} {v : AV} (h : stepOp g R (.store m a y) = some (v, R')) : ∃ l, storeAt R (g a) l = some R' ∧ ∀ Q Q', storeAt Q (g a) l = some Q' → stepOp g Q (.store m a y) = some (v, Q') := by
  simp only [stepOp, Option.bind_eq_some_iff] at h
  obtain ⟨l, d1, d2⟩ := h
  split at d2
  · rename_i hc
    simp only [Option.map_eq_some_iff] at d2
    obtain ⟨r, d3, d4⟩ := d2
    cases d4
    exact ⟨l, d3, fun Q Q' hq => by simp [stepOp, d1, hc, hq]⟩
  · cases d2

theorem kd_w {d : DOp} {g : Opd → AV} {y : AV} (hu : g (.k .un) = .un) (h : d.kd = .w) (hs : sepB (g (ptrOf d.o.op)) y = true) : ∃ m a x, d.o.op = .store m a x := by
  cases ho : d.o.op with
  | store m st y => exact ⟨m, st, y, rfl⟩
  | load _ _ _ => unfold DOp.kd at h; rw [ho] at h; cases h
  | _ => rw [ho] at hs; simp [ptrOf, sepB, hu] at hs

theorem kd_w' {d : DOp} {n : Nat} (h : d.kd = .w) (hs : ptrOf d.o.op = .t n) : ∃ m a x, d.o.op = .store m a x := by
  cases ho : d.o.op with
  | store m st y => exact ⟨m, st, y, rfl⟩
  | load _ _ _ => unfold DOp.kd at h; rw [ho] at h; cases h
  | _ => rw [ho] at hs; simp [ptrOf] at hs

theorem behind_app {R new : List Row} {x : AV} (h : ∀ id, rowId x = some id → id < R.length) : behind (R ++ new) x = behind R x := by
  cases x with
  | ptr i c => simp only [behind, List.getElem?_append_left (h i rfl)]
  | ptrA i c j => simp only [behind, List.getElem?_append_left (h i rfl)]
  | ptrE i e c j => simp only [behind, List.getElem?_append_left (h i rfl)]
  | _ => rfl

theorem behind_lt {R : List Row} {x : AV} {l : List AV} (h : behind R x = some l) : ∀ id, rowId x = some id → id < R.length := by
  have key : ∀ i, R[i]? = none → R.length ≤ i := fun i hi => by simpa using hi
  intro id hid
  cases x with
  | ptr i c =>
    simp only [rowId, Option.some.injEq] at hid; subst hid
    rcases Nat.lt_or_ge i R.length with h' | h'
    · exact h'
    · simp [behind, List.getElem?_eq_none h'] at h
  | ptrA i c j =>
    simp only [rowId, Option.some.injEq] at hid; subst hid
    rcases Nat.lt_or_ge i R.length with h' | h'
    · exact h'
    · simp [behind, List.getElem?_eq_none h'] at h
  | ptrE i e c j =>
    simp only [rowId, Option.some.injEq] at hid; subst hid
    rcases Nat.lt_or_ge i R.length with h' | h'
    · exact h'
    · simp [behind, List.getElem?_eq_none h'] at h
  | _ => cases hid

theorem load_app {g : Opd → AV} {R new : List Row} {agg : Bool} {n : Nat} {x : Opd} {v : AV} (h : ∀ id, rowId (g x) = some id → id < R.length) :
    stepOp g R (.load agg n x) = some (v, R) ↔ stepOp g (R ++ new) (.load agg n x) = some (v, R ++ new) := by
  simp only [stepOp, behind_app h]
  constructor <;> intro hh <;> simp only [Option.bind_eq_some_iff, Option.map_eq_some_iff] at hh ⊢ <;> (obtain ⟨l, h1, m, h2, y, h3, h4⟩ := hh; cases h4; exact ⟨l, h1, m, h2, _, h3, rfl⟩)

theorem load_lt {g : Opd → AV} {R : List Row} {agg : Bool} {n : Nat} {x : Opd} {v : AV} {R' : List Row} (h : stepOp g R (.load agg n x) = some (v, R')) : ∀ id, rowId (g x) = some id → id < R.length := by
  simp only [stepOp, Option.bind_eq_some_iff] at h
  obtain ⟨l, h1, _⟩ := h
  exact behind_lt h1

theorem store_app {R new : List Row} {st : AV} {l : List AV} (hb : boxP st = true) (h : ∀ id, rowId st = some id → id < R.length) : storeAt (R ++ new) st l = (storeAt R st l).map (· ++ new) := by
  cases st with
  | ptr i c =>
    have hi := h i rfl
    simp only [storeAt, List.getElem?_append_left hi]
    split
    · simp only [Option.map_map]
      congr 1; funext v'
      simp [List.set_append_left _ _ hi]
    · rfl
  | ptrA i c j =>
    have hi := h i rfl
    cases l with
    | nil => simp [storeAt]
    | cons y ys =>
      cases ys with
      | cons => simp [storeAt]
      | nil =>
        simp only [storeAt, List.getElem?_append_left hi]
        split
        · split
          · simp only [Option.map_map]
            congr 1; funext v'
            simp [List.set_append_left _ _ hi]
          · rfl
        · rfl
  | _ => simp [boxP] at hb

theorem storeAt_lt {R R' : List Row} {st : AV} {l : List AV} (hb : boxP st = true) (h : storeAt R st l = some R') : (∀ id, rowId st = some id → id < R.length) ∧ R'.length = R.length := by
  cases st with
  | ptr i c =>
    simp only [storeAt] at h
    split at h
    · rename_i t v hr
      simp only [Option.map_eq_some_iff] at h
      obtain ⟨v', _, rfl⟩ := h
      exact ⟨fun id hid => by simp only [rowId, Option.some.injEq] at hid; subst hid; exact (List.getElem?_eq_some_iff.1 hr).1, by simp⟩
    · cases h
  | ptrA i c j =>
    cases l with
    | nil => simp [storeAt] at h
    | cons y ys =>
      cases ys with
      | cons => simp [storeAt] at h
      | nil =>
        simp only [storeAt] at h
        split at h
        · rename_i t v hr
          split at h
          · simp only [Option.map_eq_some_iff] at h
            obtain ⟨v', _, rfl⟩ := h
            exact ⟨fun id hid => by simp only [rowId, Option.some.injEq] at hid; subst hid; exact (List.getElem?_eq_some_iff.1 hr).1, by simp⟩
          · cases h
        · cases h
  | _ => simp [boxP] at hb

theorem kd_box {d : DOp} {g : Opd → AV} (hu : g (.k .un) = .un) (h : d.kd = .w) (hs : boxP (g (ptrOf d.o.op)) = true) : ∃ m a x, d.o.op = .store m a x := by
  cases ho : d.o.op with
  | store m st y => exact ⟨m, st, y, rfl⟩
  | load _ _ _ => unfold DOp.kd at h; rw [ho] at h; cases h
  | _ => rw [ho] at hs; simp [ptrOf, boxP, hu] at hs

/-- The rows, changed in the other order. -/
theorem rows_swap {P : Program} {b : Nat} {G : Nat → AV} {i j : DOp} {g g' : Opd → AV} {R R1 R2 : List Row} {v v' : AV} (hu : g (.k .un) = .un) (hu' : g' (.k .un) = .un) (hk : kindsB i j = true)
    (h1 : outG P b G i g R v R1) (h2 : outG P b G j g' R1 v' R2) :
    ∃ R1', outG P b G j g' R v' R1' ∧ outG P b G i g R1' v R2 := by
  by_cases hi : i.kd = .v
  · have a : R1 = R ∧ ∀ R', outG P b G i g R' v R' := by
      unfold outG at h1 ⊢
      rw [hi] at h1 ⊢
      exact ⟨h1.1, fun R' => ⟨rfl, h1.2⟩⟩
    obtain ⟨rfl, a⟩ := a
    exact ⟨R2, h2, a R2⟩
  by_cases hj : j.kd = .v
  · have a : R2 = R1 ∧ ∀ R', outG P b G j g' R' v' R' := by
      unfold outG at h2 ⊢
      rw [hj] at h2 ⊢
      exact ⟨h2.1, fun R' => ⟨rfl, h2.2⟩⟩
    obtain ⟨rfl, a⟩ := a
    exact ⟨R, a R, h1⟩
  cases ei : i.kd with
  | v => exact absurd ei hi
  | c =>
    cases ej : j.kd with
    | v => exact absurd ej hj
    | c => simp [kindsB, ei, ej] at hk
    | a =>
      have hlt : j.nx < i.nx := by simpa [kindsB, ei, ej] using hk
      unfold outG at h1 h2 ⊢
      rw [ei] at h1 ⊢; rw [ej] at h2 ⊢
      obtain ⟨f, args, new, c1, rfl, c2, c3⟩ := h1
      obtain ⟨u, r, b1, b2, b3, rfl⟩ := h2
      have hk2 : b + j.nx < R.length := by omega
      rw [List.getElem?_append_left hk2] at b3
      exact ⟨_, ⟨u, r, b1, b2, b3, rfl⟩, f, args, new, c1, by rw [List.set_append_left _ _ hk2], by simpa using c2, by simpa using c3⟩
    | l =>
      have hcond : j.nx ≠ 0 ∧ j.nx ≤ i.nx + 1 := by simpa [kindsB, ei, ej] using hk
      obtain ⟨ag, n, x, ex⟩ := kd_load ej
      unfold outG at h1 h2 ⊢
      rw [ei] at h1 ⊢; rw [ej] at h2 ⊢
      obtain ⟨f, args, new, c1, rfl, c2, c3⟩ := h1
      obtain ⟨rfl, b1, b2, b3, b4, b5⟩ := h2
      have hlt : ∀ id, rowId (g' (ptrOf j.o.op)) = some id → id < R.length := fun id hid => by
        rcases b5 with h | h
        · exact absurd h hcond.1
        · have := h id hid; omega
      refine ⟨R, ⟨rfl, ?_, b2, b3, b4, b5⟩, f, args, new, c1, rfl, c2, c3⟩
      rw [ex] at b1 hlt ⊢
      exact (load_app hlt).2 b1
    | w =>
      have hcond : j.nx ≠ 0 ∧ j.nx ≤ i.nx + 1 := by simpa [kindsB, ei, ej] using hk
      unfold outG at h1 h2 ⊢
      rw [ei] at h1 ⊢; rw [ej] at h2 ⊢
      obtain ⟨f, args, new, c1, rfl, c2, c3⟩ := h1
      obtain ⟨b1, b2, b3, b4⟩ := h2
      obtain ⟨hbx, hlt0⟩ : boxP (g' (ptrOf j.o.op)) = true ∧ ∀ id, rowId (g' (ptrOf j.o.op)) = some id → id + 1 < b + j.nx := by
        rcases b4 with h | h
        · exact absurd h hcond.1
        · exact h
      have hlt : ∀ id, rowId (g' (ptrOf j.o.op)) = some id → id < R.length := fun id hid => by have := hlt0 id hid; omega
      obtain ⟨m, st, y, ho⟩ := kd_box hu' ej hbx
      rw [ho] at b1 hbx hlt
      obtain ⟨l, d3, d4⟩ := step_store b1
      simp only [ptrOf] at hbx hlt
      rw [store_app hbx hlt, Option.map_eq_some_iff] at d3
      obtain ⟨R3, d5, rfl⟩ := d3
      have hlen := (storeAt_lt hbx d5).2
      exact ⟨R3, ⟨by rw [ho]; exact d4 _ _ d5, b2, b3, b4⟩, f, args, new, c1, rfl, by omega, by rw [hlen]; exact c3⟩
  | a =>
    cases ej : j.kd with
    | v => exact absurd ej hj
    | c =>
      unfold outG at h1 h2 ⊢
      rw [ei] at h1 ⊢; rw [ej] at h2 ⊢
      obtain ⟨u, r, a1, a2, a3, rfl⟩ := h1
      obtain ⟨f, args, new, c1, rfl, c2, c3⟩ := h2
      have hk2 := (List.getElem?_eq_some_iff.1 a3).1
      simp only [List.length_set] at c2 c3
      exact ⟨R ++ new, ⟨f, args, new, c1, rfl, c2, c3⟩, u, r, a1, a2, by rw [List.getElem?_append_left hk2]; exact a3, by rw [List.set_append_left _ _ hk2]⟩
    | a =>
      have hne : i.nx ≠ j.nx := by simpa [kindsB, ei, ej] using hk
      unfold outG at h1 h2 ⊢
      rw [ei] at h1 ⊢; rw [ej] at h2 ⊢
      obtain ⟨u, r, a1, a2, a3, rfl⟩ := h1
      obtain ⟨u', r', b1, b2, b3, rfl⟩ := h2
      rw [List.getElem?_set_ne (by omega)] at b3
      exact ⟨_, ⟨u', r', b1, b2, b3, rfl⟩, u, r, a1, a2, by rw [List.getElem?_set_ne (by omega)]; exact a3, List.set_comm _ _ (by omega)⟩
    | l =>
      have hav : i.nx ∈ j.av := by simpa [kindsB, ei, ej] using hk
      obtain ⟨ag, n, x, ex⟩ := kd_load ej
      unfold outG at h1 h2 ⊢
      rw [ei] at h1 ⊢; rw [ej] at h2 ⊢
      obtain ⟨u, r, a1, a2, a3, rfl⟩ := h1
      obtain ⟨rfl, b1, b2, b3⟩ := h2
      have hn := b2 _ hav
      rw [ex] at b1 hn
      refine ⟨R, ⟨rfl, by rw [ex]; exact (load_set hn).2 b1, b2, b3⟩, u, r, a1, a2, a3, rfl⟩
    | w => simp [kindsB, ei, ej] at hk
  | l =>
    obtain ⟨ag, n, x, ex⟩ := kd_load ei
    cases ej : j.kd with
    | v => exact absurd ej hj
    | c =>
      unfold outG at h1 h2 ⊢
      rw [ei] at h1 ⊢; rw [ej] at h2 ⊢
      obtain ⟨rfl, b1, b2⟩ := h1
      obtain ⟨f, args, new, c1, rfl, c2, c3⟩ := h2
      refine ⟨_, ⟨f, args, new, c1, rfl, c2, c3⟩, rfl, ?_, b2⟩
      rw [ex] at b1 ⊢
      exact (load_app (load_lt b1)).1 b1
    | a =>
      have hav : j.nx ∈ i.av := by simpa [kindsB, ei, ej] using hk
      unfold outG at h1 h2 ⊢
      rw [ei] at h1 ⊢; rw [ej] at h2 ⊢
      obtain ⟨rfl, b1, b2, b3⟩ := h1
      obtain ⟨u, r, a1, a2, a3, rfl⟩ := h2
      have hn := b2 _ hav
      rw [ex] at b1 hn
      exact ⟨_, ⟨u, r, a1, a2, a3, rfl⟩, rfl, by rw [ex]; exact (load_set hn).1 b1, b2, b3⟩
    | l =>
      unfold outG at h1 h2 ⊢
      rw [ei] at h1 ⊢; rw [ej] at h2 ⊢
      obtain ⟨rfl, b1, b2⟩ := h1
      obtain ⟨rfl, c1, c2⟩ := h2
      exact ⟨_, ⟨rfl, c1, c2⟩, rfl, b1, b2⟩
    | w =>
      obtain ⟨q, q1, q3⟩ := sepT_spec (by simpa [kindsB, ei, ej] using hk)
      unfold outG at h1 h2 ⊢
      rw [ei] at h1 ⊢; rw [ej] at h2 ⊢
      obtain ⟨rfl, b1, b2, b3, b4, b5⟩ := h1
      obtain ⟨c1, c2, c3⟩ := h2
      have hsep := c2 q q3
      have hq : G q = g (ptrOf i.o.op) := by rw [b4, q1]; rfl
      rw [hq] at hsep
      refine ⟨_, ⟨c1, c2, c3⟩, rfl, ?_, b2, b3, b4, b5⟩
      obtain ⟨m, st, y, ho⟩ := kd_w hu' ej hsep
      rw [ho] at c1 hsep
      rw [ex] at hsep b1 ⊢
      obtain ⟨l, d3, _⟩ := step_store c1
      obtain ⟨id, t, u, u', e2, _, rfl, _⟩ := storeAt_box d3 hsep
      exact (load_set e2).1 b1
  | w =>
    cases ej : j.kd with
    | v => exact absurd ej hj
    | c =>
      have hcond : i.nx ≠ 0 ∧ i.nx ≤ j.nx + 1 := by simpa [kindsB, ei, ej] using hk
      unfold outG at h1 h2 ⊢
      rw [ei] at h1 ⊢; rw [ej] at h2 ⊢
      obtain ⟨b1, b2, b3, b4⟩ := h1
      obtain ⟨f, args, new, c1, rfl, c2, c3⟩ := h2
      obtain ⟨hbx, _⟩ : boxP (g (ptrOf i.o.op)) = true ∧ ∀ id, rowId (g (ptrOf i.o.op)) = some id → id + 1 < b + i.nx := by
        rcases b4 with h | h
        · exact absurd h hcond.1
        · exact h
      obtain ⟨m, st, y, ho⟩ := kd_box hu ei hbx
      rw [ho] at b1 hbx
      obtain ⟨l, d3, d4⟩ := step_store b1
      simp only [ptrOf] at hbx
      obtain ⟨hlt, hlen⟩ := storeAt_lt hbx d3
      refine ⟨R ++ new, ⟨f, args, new, c1, rfl, by omega, by rw [← hlen]; exact c3⟩, ?_, b2, b3, b4⟩
      rw [ho]
      exact d4 _ _ (by rw [store_app hbx hlt, d3]; rfl)
    | a => simp [kindsB, ei, ej] at hk
    | w =>
      obtain ⟨q, q1, q3⟩ := sepT_spec (by simpa [kindsB, ei, ej] using hk)
      unfold outG at h1 h2 ⊢
      rw [ei] at h1 ⊢; rw [ej] at h2 ⊢
      obtain ⟨b1, b2, b3⟩ := h1
      obtain ⟨c1, c2, c3⟩ := h2
      have hsep := c2 q q3
      have hq : G q = g (ptrOf i.o.op) := by rw [b3.1, q1]; rfl
      rw [hq] at hsep
      obtain ⟨m, st, y, ho⟩ := kd_w hu' ej hsep
      obtain ⟨m', st', y', ho'⟩ := kd_w' ei q1
      rw [ho] at c1 hsep
      rw [ho'] at b1 hsep
      obtain ⟨l, d3, d4⟩ := step_store c1
      obtain ⟨l', f3, f4⟩ := step_store b1
      obtain ⟨id, t, u, u', e2, e3, rfl, e5⟩ := storeAt_box d3 hsep
      have hR : R[id]? = some (.box t u) := storeAt_back f3 e2 e3
      obtain ⟨k1, k2⟩ := storeAt_off (v' := u') hR e2 f3
      refine ⟨_, ⟨by rw [ho]; exact d4 _ _ (e5 _ hR), c2, c3⟩, by rw [ho']; exact f4 _ _ k1, b2, b3⟩
    | l =>
      obtain ⟨q, q1, q3⟩ := sepT_spec (by simpa [kindsB, ei, ej] using hk)
      obtain ⟨ag, n, x, ex⟩ := kd_load ej
      unfold outG at h1 h2 ⊢
      rw [ei] at h1 ⊢; rw [ej] at h2 ⊢
      obtain ⟨c1, c2, c3⟩ := h1
      obtain ⟨rfl, b1, b2, b3, b4⟩ := h2
      have hsep := b3 q q3
      have hq : G q = g (ptrOf i.o.op) := by rw [c3.1, q1]; rfl
      rw [hq] at hsep
      rw [ex] at b1 hsep
      simp only [ptrOf] at hsep
      refine ⟨R, ⟨rfl, ?_, b2, b3, b4⟩, c1, c2, c3⟩
      rw [ex]
      obtain ⟨m, st, y, ho⟩ := kd_w hu ei hsep
      rw [ho] at c1 hsep
      obtain ⟨l, d3, _⟩ := step_store c1
      obtain ⟨id, t, u, u', e2, _, rfl, _⟩ := storeAt_box d3 hsep
      exact (load_set e2).2 b1

theorem apart_spec {i j : DOp} (h : apartB i j = true) : (∀ t, i.o.dst = some t → t ∉ reads j) ∧ (∀ t, i.o.dst = some t → j.o.dst ≠ some t) ∧ (∀ t, i.o.dst = some t → t ∉ tmpsL (opds i.o.op)) ∧ (∀ t, j.o.dst = some t → t ∉ reads i) := by
  unfold apartB at h
  simp only [Bool.and_eq_true] at h
  obtain ⟨h1, h2⟩ := h
  refine ⟨fun t e => ?_, fun t e => ?_, fun t e => ?_, fun t e => ?_⟩
  · rw [e] at h1; simp at h1; exact h1.1.1
  · rw [e] at h1; simp at h1; exact h1.1.2
  · rw [e] at h1; simp at h1; exact h1.2
  · rw [e] at h2; simp at h2; exact h2

/-- Two steps, in the other order. -/
theorem step_swap {P : Program} {b : Nat} {G : Nat → AV} {i j : DOp} {F F1 F2 : Nat → AV} {R R1 R2 : List Row} (ha : apartB i j = true) (hk : kindsB i j = true)
    (h1 : StepD P b G i F R F1 R1) (h2 : StepD P b G j F1 R1 F2 R2) : ∃ F1' R1', StepD P b G j F R F1' R1' ∧ StepD P b G i F1' R1' F2 R2 := by
  obtain ⟨a1, a2, a3, a4⟩ := apart_spec ha
  obtain ⟨ri, g1, q1⟩ := h1
  obtain ⟨rj, g2, q2⟩ := h2
  have eF : ∃ vi, F1 = putF i.o.dst vi F := by
    cases ri with
    | true => obtain ⟨v, _, e⟩ := q1; exact ⟨v, e⟩
    | false => exact ⟨_, q1.2⟩
  have eF2 : ∃ vj, F2 = putF j.o.dst vj F1 := by
    cases rj with
    | true => obtain ⟨v, _, e⟩ := q2; exact ⟨v, e⟩
    | false => exact ⟨_, q2.2⟩
  have onj : ∀ t ∈ reads j, F1 t = F t := by obtain ⟨vi, rfl⟩ := eF; exact putF_off a1
  have oni : ∀ vj, ∀ t ∈ reads i, F t = putF j.o.dst vj F t := fun vj t ht => (putF_off a4 t ht).symm
  have gj : GuardF F rj j.o.g := guardF_congr (fun t ht => onj t (by simp [reads, ht])) g2
  have gi : ∀ vj, GuardF (putF j.o.dst vj F) ri i.o.g := fun vj => guardF_congr (fun t ht => oni vj t (by simp [reads, ht])) g1
  cases ri with
  | false =>
    obtain ⟨rfl, rfl⟩ := q1
    cases rj with
    | false =>
      obtain ⟨rfl, rfl⟩ := q2
      exact ⟨_, _, ⟨false, gj, rfl, rfl⟩, false, gi _, rfl, putF_comm (fun t e e' => a2 t e' e)⟩
    | true =>
      obtain ⟨v, o, rfl⟩ := q2
      exact ⟨_, _, ⟨true, gj, v, outG_congr onj o, rfl⟩, false, gi _, rfl, putF_comm (fun t e e' => a2 t e' e)⟩
  | true =>
    obtain ⟨vi, oi, rfl⟩ := q1
    cases rj with
    | false =>
      obtain ⟨rfl, rfl⟩ := q2
      exact ⟨_, _, ⟨false, gj, rfl, rfl⟩, true, gi _, vi, outG_congr (oni _) oi, putF_comm (fun t e e' => a2 t e' e)⟩
    | true =>
      obtain ⟨v, o, rfl⟩ := q2
      obtain ⟨R1', k1, k2⟩ := rows_swap rfl rfl hk oi o
      exact ⟨_, _, ⟨true, gj, v, outG_congr onj k1, rfl⟩, true, gi _, vi, outG_congr (oni _) k2, putF_comm (fun t e e' => a2 t e' e)⟩

/-! ### Chains -/
def Chain (P : Program) (b : Nat) (G : Nat → AV) (ds : List DOp) : List Nat → (Nat → AV) → List Row → (Nat → AV) → List Row → Prop
  | [], F, R, F', R' => F = F' ∧ R = R'
  | i :: is, F, R, F', R' => ∃ d F1 R1, ds[i]? = some d ∧ StepD P b G d F R F1 R1 ∧ Chain P b G ds is F1 R1 F' R'

theorem chain_swap {P : Program} {b : Nat} {G : Nat → AV} {ds : List DOp} {j : Nat} {dj : DOp} (hj : ds[j]? = some dj) : ∀ (pre post : List Nat) {F R F' R'}, (∀ i ∈ pre, ∀ di, ds[i]? = some di → apartB di dj = true ∧ kindsB di dj = true) →
    Chain P b G ds (pre ++ j :: post) F R F' R' → ∃ F1 R1, StepD P b G dj F R F1 R1 ∧ Chain P b G ds (pre ++ post) F1 R1 F' R'
  | [], post, F, R, F', R', _, h => by
    obtain ⟨d, F1, R1, h1, h2, h3⟩ := h
    rw [hj] at h1; cases h1
    exact ⟨F1, R1, h2, h3⟩
  | i :: pre, post, F, R, F', R', hc, h => by
    obtain ⟨d, F1, R1, h1, h2, h3⟩ := h
    obtain ⟨F2, R2, k1, k2⟩ := chain_swap hj pre post (fun i hi => hc i (List.mem_cons_of_mem _ hi)) h3
    obtain ⟨c1, c2⟩ := hc i (by simp) d h1
    obtain ⟨F1', R1', m1, m2⟩ := step_swap c1 c2 h2 k1
    exact ⟨F1', R1', m1, d, F2, R2, h1, m2, k2⟩

/-- What an operation says of pointers stays so till the region's end. -/
def finB : List DOp → Bool
  | [] => true
  | d :: ds => (d.sep ++ tmpsL [ptrOf d.o.op]).all (fun p => (d :: ds).all fun e => e.o.dst != some p) && finB ds

theorem outc_outG {P : Program} {b : Nat} {d : DOp} {g : Opd → AV} {G : Nat → AV} {R R' : List Row} {v : AV} (h1 : ∀ p ∈ d.sep, g (.t p) = G p) (h2 : g (ptrOf d.o.op) = getF G (ptrOf d.o.op)) (h : outc P b d g R v R') : outG P b G d g R v R' := by
  unfold outc at h
  unfold outG
  cases hk : d.kd with
  | v => rw [hk] at h; exact h
  | c => rw [hk] at h; exact h
  | a => rw [hk] at h; exact h
  | l =>
    rw [hk] at h
    obtain ⟨a, b1, c, k, l⟩ := h
    exact ⟨a, b1, c, fun p hp => by rw [← h1 p hp]; exact k p hp, h2, l⟩
  | w =>
    rw [hk] at h
    obtain ⟨a, k, l⟩ := h
    exact ⟨a, fun p hp => by rw [← h1 p hp]; exact k p hp, h2, l⟩

/-- What the statement says of the text's order. -/
theorem chain_of_wpD {P : Program} {b : Nat} {ds : List DOp} : ∀ (k : Nat) (os : List DOp), ds.drop k = os → finB os = true → ∀ {env : Env} {R : List Row} {K : Env → List Row → Prop}, wpD P b os env R K →
    ∃ env' R', Chain P b (look env') ds (List.range' k os.length) (look env) R (look env') R' ∧ K env' R' ∧ ∀ t, (∀ d ∈ os, d.o.dst ≠ some t) → look env' t = look env t
  | k, [], h, hf, env, R, K, hK => ⟨env, R, ⟨rfl, rfl⟩, hK, fun _ _ => rfl⟩
  | k, d :: os, h, hf, env, R, K, hK => by
    have hd : ds[k]? = some d := by
      have : (ds.drop k)[0]? = some d := by rw [h]; rfl
      rwa [List.getElem?_drop, Nat.add_zero] at this
    have hdk : ds.drop (k + 1) = os := by
      have := congrArg (List.drop 1) h
      rw [List.drop_drop] at this
      simpa using this
    simp only [finB, Bool.and_eq_true, List.all_eq_true, bne_iff_ne] at hf
    obtain ⟨hf1, hf2⟩ := hf
    have keep : ∀ (v : AV) (env' : Env), (∀ t, (∀ d ∈ os, d.o.dst ≠ some t) → look env' t = look (putE d.o.dst v env) t) → ∀ t, (∀ e ∈ d :: os, e.o.dst ≠ some t) → look env' t = look env t := fun v env' hk t ht => by
      rw [hk t (fun e he => ht e (by simp [he])), look_putE]
      simp only [putF]
      rw [if_neg (ht d (by simp))]
    have run : (GuardF (look env) true d.o.g) → (∃ v rows', outc P b d (Opd.get env) R v rows' ∧ wpD P b os (putE d.o.dst v env) rows' K) → ∃ env' R', Chain P b (look env') ds (List.range' k (os.length + 1)) (look env) R (look env') R' ∧ K env' R' ∧ ∀ t, (∀ e ∈ d :: os, e.o.dst ≠ some t) → look env' t = look env t := by
      rintro hg ⟨v, R1, o, hw⟩
      obtain ⟨env', R', c, kk, hl⟩ := chain_of_wpD (k + 1) os hdk hf2 hw
      rw [look_putE] at c
      have hk := keep v env' hl
      refine ⟨env', R', ⟨d, _, R1, hd, ⟨true, hg, v, ?_, rfl⟩, c⟩, kk, hk⟩
      rw [get_look] at o
      refine outc_outG (fun p hp => ?_) ?_ o
      · exact (hk p (fun e he => hf1 p (by simp [hp]) e he)).symm
      · cases hp : ptrOf d.o.op with
        | k c => rfl
        | t n => exact (hk n (fun e he => hf1 n (by simp [hp, tmpsL]) e he)).symm
    have skip : (GuardF (look env) false d.o.g) → wpD P b os (putE d.o.dst (.tup []) env) R K → ∃ env' R', Chain P b (look env') ds (List.range' k (os.length + 1)) (look env) R (look env') R' ∧ K env' R' ∧ ∀ t, (∀ e ∈ d :: os, e.o.dst ≠ some t) → look env' t = look env t := by
      rintro hg hw
      obtain ⟨env', R', c, kk, hl⟩ := chain_of_wpD (k + 1) os hdk hf2 hw
      rw [look_putE] at c
      exact ⟨env', R', ⟨d, _, R, hd, ⟨false, hg, rfl, rfl⟩, c⟩, kk, keep _ env' hl⟩
    simp only [List.length_cons]
    unfold wpD at hK
    split at hK
    · rename_i e
      exact run (by rw [e]; rfl) hK
    · rename_i t c e
      split at hK
      · rename_i x hx
        by_cases hxc : x = c
        · exact run (by rw [e]; exact .inl ⟨x, gdV_yes hx, by simp [hxc]⟩) (hK.1 hxc)
        · exact skip (by rw [e]; exact .inl ⟨x, gdV_yes hx, by simp [hxc]⟩) (hK.2 hxc)
      · rename_i hx
        exact skip (by rw [e]; exact .inr ⟨gdV_no hx, rfl⟩) hK
      · exact hK.elim
end Go.Sk
