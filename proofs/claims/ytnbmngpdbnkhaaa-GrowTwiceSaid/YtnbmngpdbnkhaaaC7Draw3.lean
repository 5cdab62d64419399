/- Regions whose order the machine draws, as they run. Conditions: the program lets orders mix (checked where it is used). -/
import Derived.Test.YtnbmngpdbnkhaaaC7Draw2
import Derived.Orders
set_option linter.unusedVariables false
set_option linter.unusedSimpArgs false
namespace Go.Sk
open Go.RowKit

section ids
variable {P : Program} {im : Nat → Prop} {w : World} {ρ : Nat → Loc}
mutual
theorem RepV.ids : ∀ {v : Value} {x : AV}, RepV P im w ρ v x → ∀ id ∈ idsV x, ρ id ≠ .no
  | _, _, .int _ _, id, h => by simp [idsV] at h
  | _, _, .bool _, id, h => by simp [idsV] at h
  | _, _, .str _, id, h => by simp [idsV] at h
  | _, _, .flt _, id, h => by simp [idsV] at h
  | _, _, .nil _, id, h => by simp [idsV] at h
  | _, _, .fz .., id, h => by simp [idsV] at h
  | _, _, .sref i g cap n hh hn, id, h => by simp [idsV] at h; subst h; rw [hh]; simp
  | _, _, .ptr i g cap c hh, id, h => by simp [idsV] at h; subst h; rw [hh]; simp
  | _, _, .ptrA i g cap c j hh, id, h => by simp [idsV] at h; subst h; rw [hh]; simp
  | _, _, .ptrE i g cap e j c hh, id, h => by simp [idsV] at h; subst h; rw [hh]; simp
  | _, _, .pz .., id, h => by simp [idsV] at h
  | _, _, .nilp, id, h => by simp [idsV] at h
  | _, _, .agg vs l hh, id, h => by simp only [idsV] at h; exact RepL.ids hh id h
  | _, _, .tup vs l hh, id, h => by simp only [idsV] at h; exact RepT.ids hh id h
  | _, _, .un v, id, h => by simp [idsV] at h
theorem RepL.ids : ∀ {vs : List Value} {xs : List AV}, RepL P im w ρ vs xs → ∀ id ∈ idsL xs, ρ id ≠ .no
  | _, _, .nil, id, h => by simp [idsL] at h
  | _, _, .cons v x vs xs h1 h2 hs, id, h => by
    simp only [idsL, List.mem_append] at h
    exact h.elim (RepV.ids h2 id) (RepL.ids hs id)
  | _, _, .arr us l vs xs h1 h2 hs, id, h => by
    simp only [idsL, idsV, List.mem_append] at h
    exact h.elim (RepL.ids h2 id) (RepL.ids hs id)
theorem RepT.ids : ∀ {vs : List Value} {xs : List AV}, RepT P im w ρ vs xs → ∀ id ∈ idsL xs, ρ id ≠ .no
  | _, _, .nil, id, h => by simp [idsL] at h
  | _, _, .cons v x vs xs h2 hs, id, h => by
    simp only [idsL, List.mem_append] at h
    exact h.elim (RepV.ids h2 id) (RepT.ids hs id)
end

theorem RowOK.ids {id : Nat} {r : Row} (h : RowOK P im w ρ id r) : ∀ j ∈ idsR r, ρ j ≠ .no := by
  cases r with
  | box t v => obtain ⟨g, cap, cur, h1, h2, h3, h4⟩ := h; exact h4.ids
  | _ => intro j hj; simp [idsR] at hj
end ids

mutual
theorem renV_id : ∀ x : AV, renV (fun i => i) x = x
  | .int .. | .bool _ | .str _ | .flt _ | .nil _ | .fz .. | .sref .. | .ptr .. | .ptrA .. | .ptrE .. | .pz .. | .nilp | .un => rfl
  | .arr l => by simp [renV, renL_id l]
  | .agg l => by simp [renV, renL_id l]
  | .tup l => by simp [renV, renL_id l]
theorem renL_id : ∀ l : List AV, renL (fun i => i) l = l
  | [] => rfl
  | x :: xs => by simp [renL, renV_id x, renL_id xs]
end

theorem renR_id (r : Row) : renR (fun i => i) r = r := by cases r <;> simp [renR, renL_id]

def placed (ρ : Nat → Loc) (p n : Nat) : Nat → Loc := fun id => if id = p then ρ n else if id = n then .no else ρ id

/-- A row that was made at the end, in its own place. -/
theorem place {P : Program} {im im' : Nat → Prop} {w w' : World} {ρ ρ' : Nat → Loc} {R : List Row} {r : Row} {p : Nat} (hW0 : WF P im w ρ R) (hW : WF P im' w' ρ' (R ++ [r])) (hE : Ext w im ρ R w' im' ρ' (R ++ [r]))
    (hp : R[p]? = some .dead) (hpn : ρ p = .no) (hids : ∀ j ∈ idsR r, ρ j ≠ .no) :
    WF P im' w' (placed ρ' p R.length) (R.set p r) ∧ (∀ id, ρ id ≠ .no → placed ρ' p R.length id = ρ id) ∧ (∀ b, Own (placed ρ' p R.length) (R.set p r) b → Own ρ' (R ++ [r]) b) := by
  have hlt := (List.getElem?_eq_some_iff.1 hp).1
  have hn : ρ R.length = .no := hW0.no _ (Nat.le_refl _)
  have hkeep : ∀ id, ρ id ≠ .no → placed ρ' p R.length id = ρ' id := fun id hid => by
    simp only [placed]
    have h1 : id ≠ p := by rintro rfl; exact hid hpn
    have h2 : id ≠ R.length := by rintro rfl; exact hid hn
    rw [if_neg h1, if_neg h2]
  have hr : (R ++ [r])[R.length]? = some r := by simp
  have old : ∀ (id : Nat) (q : Row), R[id]? = some q → (R ++ [r])[id]? = some q := fun id q h => by rw [List.getElem?_append_left (List.getElem?_eq_some_iff.1 h).1]; exact h
  have hcase : ∀ (id : Nat) (q : Row), (R.set p r)[id]? = some q → (id = p ∧ q = r) ∨ (id ≠ p ∧ id < R.length ∧ R[id]? = some q) := fun id q h => by
    by_cases e : id = p
    · subst e; rw [List.getElem?_set_self hlt] at h; exact .inl ⟨rfl, (Option.some.inj h).symm⟩
    · rw [List.getElem?_set_ne (fun h => e h.symm)] at h; exact .inr ⟨e, (List.getElem?_eq_some_iff.1 h).1, h⟩
  have at_p : placed ρ' p R.length p = ρ' R.length := by simp [placed]
  have at_o : ∀ id, id ≠ p → id < R.length → placed ρ' p R.length id = ρ' id := fun id h1 h2 => by
    simp only [placed]
    rw [if_neg h1, if_neg (by omega)]
  refine ⟨⟨fun id q h => ?_, fun id id' q q' b c c' h1 h2 l1 l2 e1 e2 => ?_, fun id h => ?_, hW.im⟩, fun id hid => (hkeep id hid).trans (hE.rho id (.inl hid)), ?_⟩
  · rcases hcase id q h with ⟨rfl, rfl⟩ | ⟨h1, h2, h3⟩
    · have := (hW.row _ _ hr).ren (ρ' := placed ρ' id R.length) (f := fun i => i) at_p (fun j hj => hkeep j (hids j hj))
      rwa [renR_id] at this
    · have := (hW.row _ _ (old id q h3)).ren (ρ' := placed ρ' p R.length) (f := fun i => i) (at_o id h1 h2) (fun j hj => hkeep j ((hW0.row id q h3).ids j hj))
      rwa [renR_id] at this
  · rcases hcase id q h1 with ⟨rfl, rfl⟩ | ⟨a1, a2, a3⟩ <;> rcases hcase id' q' h2 with ⟨rfl, rfl⟩ | ⟨b1, b2, b3⟩
    · rfl
    · rw [at_p] at e1; rw [at_o _ b1 b2] at e2
      have := hW.inj _ _ _ _ b c c' hr (old id' q' b3) l1 l2 e1 e2
      omega
    · rw [at_p] at e2; rw [at_o _ a1 a2] at e1
      have := hW.inj _ _ _ _ b c c' (old id q a3) hr l1 l2 e1 e2
      omega
    · rw [at_o _ a1 a2] at e1; rw [at_o _ b1 b2] at e2
      exact hW.inj _ _ _ _ b c c' (old id q a3) (old id' q' b3) l1 l2 e1 e2
  · simp at h
    simp only [placed]
    rw [if_neg (by omega)]
    split
    · rfl
    · exact hW.no id (by simp; omega)
  · rintro b ⟨id, q, c, h1, h2, h3⟩
    rcases hcase id q h1 with ⟨rfl, rfl⟩ | ⟨a1, a2, a3⟩
    · rw [at_p] at h3; exact ⟨_, _, c, hr, h2, h3⟩
    · rw [at_o _ a1 a2] at h3; exact ⟨_, _, c, old id q a3, h2, h3⟩

/-! ### What orders the machine may draw -/
def binding (o : Oper) : List Nat := (o.after.toList.filter (Region.binds .any)).map (·.on)

def maskOf (tab : List Nat) : List Nat → Nat
  | [] => 0
  | e :: es => (1 <<< e) ||| tab.getD e 0 ||| maskOf tab es

def tabOf : List Oper → List Nat → List Nat
  | [], acc => acc
  | o :: os, acc => tabOf os (acc ++ [maskOf acc (binding o)])

def kOK : Opd → Bool
  | .k v => (idsV v).isEmpty
  | .t _ => true

def newOK : MOp → Bool
  | .new _ z => (idsL z).isEmpty
  | _ => true

def okEdges (tab : List Nat) : Nat → List Oper → Bool
  | _, [] => true
  | j, o :: os => (binding o).all (fun e => decide (e < j)) && tab.getD j 0 == maskOf tab (binding o) && okEdges tab (j + 1) os

def okA (m : Nat) (d : DOp) : Bool := if d.kd = .a then decide (d.nx < m) && (opds d.o.op).all kOK && newOK d.o.op else true

def okPair (mask i : Nat) (di dj : DOp) : Bool := mask.testBit i || (apartB di dj && kindsB di dj)

def nxOK (di dj : DOp) : Bool := if di.kd = .a ∧ dj.kd = .a then di.nx != dj.nx else true

/-- dj, at j, with all that stand before it. -/
def okRow (mask : Nat) (dj : DOp) : Nat → List DOp → Bool
  | _, [] => true
  | i, di :: ds => okPair mask i di dj && nxOK di dj && okRow mask dj (i + 1) ds

def okRows (tab : List Nat) (all : List DOp) : Nat → List DOp → Bool
  | _, [] => true
  | j, d :: ds => okRow (tab.getD j 0) d 0 (all.take j) && okRows tab all (j + 1) ds

def okD (ops : List Oper) (tab : List Nat) (m : Nat) (ds : List DOp) : Bool := okEdges tab 0 ops && ds.all (okA m) && okRows tab ds 0 ds && finB ds

/-! What is told of each operation. -/
def ordered (tab : List Nat) (i j : Nat) : Bool := (tab.getD j 0).testBit i || (tab.getD i 0).testBit j

def plainD (o : MOper) : DOp := ⟨o, false, 0, [], []⟩

def withW (tab : List Nat) (all : List DOp) (j : Nat) (d : DOp) : DOp := { d with w := all.zipIdx.all fun p => p.2 == j || p.1.kd == .v || ordered tab p.2 j }

def withNx : Nat → List DOp → List DOp
  | _, [] => []
  | k, d :: ds => if d.kd = .a then { d with nx := k } :: withNx (k + 1) ds else d :: withNx k ds

def ptrT (d : DOp) : List Nat := tmpsL [ptrOf d.o.op]

/-- A call that floats against this one? -/
def floats (tab : List Nat) (all : List DOp) (j : Nat) : Bool := all.zipIdx.any fun p => p.1.kd == .c && !ordered tab p.2 j

def withSep (tab : List Nat) (all : List DOp) (m j : Nat) (d : DOp) : DOp :=
  match d.kd with
  | .l => { d with nx := if floats tab all j then m + 1 else 0, av := (all.zipIdx.filter fun p => p.1.kd == .a && !ordered tab p.2 j).map (·.1.nx), sep := ((all.zipIdx.filter fun p => decide (p.2 < j) && p.1.kd == .w && !ordered tab p.2 j).map fun p => ptrT p.1).flatten }
  | .w => { d with nx := if floats tab all j then m + 1 else 0, sep := ((all.zipIdx.filter fun p => decide (p.2 < j) && (p.1.kd == .l || p.1.kd == .w) && !ordered tab p.2 j).map fun p => ptrT p.1).flatten }
  | .c => { d with nx := m }
  | _ => d

def countA (ds : List DOp) : Nat := (ds.filter fun d => d.kd == .a).length

def mkD (ms : List MOper) (tab : List Nat) : List DOp :=
  let d0 := ms.map plainD
  let d1 := d0.zipIdx.map fun p => withW tab d0 p.2 p.1
  let d2 := withNx 0 d1
  d2.zipIdx.map fun p => withSep tab d2 (countA d2) p.2 p.1

def sameOps : List DOp → List MOper → Prop
  | [], [] => True
  | d :: ds, m :: ms => d.o = m ∧ sameOps ds ms
  | _, _ => False

def trD (P : Program) (N : Nat) (ops : Array Oper) : Option (Nat × List DOp) :=
  (trOpers P N ops ops.toList).bind fun ms =>
    let tab := tabOf ops.toList []
    let ds := mkD ms tab
    let m := countA ds
    if okD ops.toList tab m ds then some (m, ds) else none

theorem withNx_o : ∀ (k : Nat) (ds : List DOp), (withNx k ds).map (·.o) = ds.map (·.o)
  | _, [] => rfl
  | k, d :: ds => by
    simp only [withNx]
    split <;> simp [withNx_o]

theorem withSep_o (tab : List Nat) (all : List DOp) (m j : Nat) (d : DOp) : (withSep tab all m j d).o = d.o := by
  unfold withSep; split <;> rfl

theorem mkD_o (ms : List MOper) (tab : List Nat) : (mkD ms tab).map (·.o) = ms := by
  unfold mkD
  simp only [List.map_map]
  have zip : ∀ (l : List DOp) (f : Nat → DOp → DOp), (∀ j d, (f j d).o = d.o) → l.zipIdx.map ((·.o) ∘ fun p => f p.2 p.1) = l.map (·.o) := fun l f hf => by
    have : ((·.o) ∘ fun (p : DOp × Nat) => f p.2 p.1) = (·.o) ∘ Prod.fst := by funext p; simp [hf]
    rw [this, ← List.map_map]
    simp
  have h1 := zip (withNx 0 ((ms.map plainD).zipIdx.map fun p => withW tab (ms.map plainD) p.2 p.1)) (fun j d => withSep tab (withNx 0 ((ms.map plainD).zipIdx.map fun p => withW tab (ms.map plainD) p.2 p.1)) (countA (withNx 0 ((ms.map plainD).zipIdx.map fun p => withW tab (ms.map plainD) p.2 p.1))) j d) (fun j d => withSep_o _ _ _ _ _)
  rw [h1, withNx_o, List.map_map]
  have h2 := zip (ms.map plainD) (fun j d => withW tab (ms.map plainD) j d) (fun j d => rfl)
  rw [h2, List.map_map]
  have : ((·.o) ∘ plainD) = id := by funext o; rfl
  rw [this]; simp
end Go.Sk
