/- The abstract values of a Go call: what a value reads as, without memory; the rows that a call has made. Conditions: none (a library text: the laws' own texts say what is proved). -/
import Derived.WalkKit
import Derived.Maps.AppendAt
import Derived.OrdersHeld
import Derived.RowKit3
set_option linter.unusedVariables false
namespace Go.Sk
open Go.RowKit

/-- What a value reads as. 'fz': a slice whose elements nobody writes any more; 'sref': the first 'n' elements of the row 'id'. -/
inductive AV where
  | int (k : IntKind) (n : Int)
  | bool (b : Bool)
  | str (s : ByteArray)
  | flt (bits : Nat)
  | nil (e : Nat)
  | fz (e : Nat) (l : List (List AV))
  | sref (id n : Nat)
  | ptr (id c : Nat)
  | ptrA (id c j : Nat)
  | ptrE (id e i c : Nat)
  | pz (items : List AV) (c : Nat)
  | nilp
  | arr (l : List AV)
  | agg (l : List AV)
  | tup (l : List AV)
  | un
  deriving Inhabited

/-- Where a row lies: not yet anywhere, nowhere (a nil slice), or in a block with a capacity. -/
inductive Loc where
  | no
  | nil
  | blk (g cap : Nat)

/-- One cell's value? -/
def AV.one : AV → Bool
  | .arr _ | .agg _ | .tup _ | .un => false
  | _ => true

/-- How many cells an item has. -/
def AV.width : AV → Nat
  | .arr l => l.length
  | _ => 1

def widths : List AV → Nat
  | [] => 0
  | x :: xs => x.width + widths xs

/-- No row lies anywhere. -/
def noLoc : Nat → Loc := fun _ => .no

mutual
/-- A value, in a world, reads as an abstract value. 'im': the blocks that stay as they are; 'ρ': where rows lie. -/
inductive RepV (P : Program) (im : Nat → Prop) (w : World) : (Nat → Loc) → Value → AV → Prop
  | int {ρ : Nat → Loc} (k n) : RepV P im w ρ (.int k n) (.int k n)
  | bool {ρ : Nat → Loc} (b) : RepV P im w ρ (.bool b) (.bool b)
  | str {ρ : Nat → Loc} (s) : RepV P im w ρ (.string s) (.str s)
  | flt {ρ : Nat → Loc} (b) : RepV P im w ρ (.float .f64 b) (.flt b)
  | nil {ρ : Nat → Loc} (e) : RepV P im w ρ (.slice none 0 0) (.nil e)
  | fz {ρ : Nat → Loc} (e A cap) (l : List (List AV)) (us : Nat → List Value) (hA : A.isSome = true) (hl : l.length ≤ cap) (hm : l.length ≤ 9223372036854775807)
      (ha : ∀ i, i < l.length → ∃ ad : Addr, A = some ad ∧ im ad.block ∧ (us i).length = P.cellsOf e ∧ ∀ j u, (us i)[j]? = some u → w.cell? (ad.add (i * P.cellsOf e + j)) = some u)
      (hr : ∀ i (h : i < l.length), RepL P im w noLoc (us i) l[i]) : RepV P im w ρ (.slice A l.length cap) (.fz e l)
  | sref {ρ : Nat → Loc} (id g cap n) (h : ρ id = .blk g cap) (hn : n ≤ cap) : RepV P im w ρ (.slice (some ⟨g, 0, none⟩) n cap) (.sref id n)
  | ptr {ρ : Nat → Loc} (id g cap c) (h : ρ id = .blk g cap) : RepV P im w ρ (.pointer (some ⟨g, c, none⟩)) (.ptr id c)
  | ptrA {ρ : Nat → Loc} (id g cap c j) (h : ρ id = .blk g cap) : RepV P im w ρ (.pointer (some ⟨g, c + j, none⟩)) (.ptrA id c j)
  | ptrE {ρ : Nat → Loc} (id g cap e i c) (h : ρ id = .blk g cap) : RepV P im w ρ (.pointer (some ⟨g, i * P.cellsOf e + c, none⟩)) (.ptrE id e i c)
  | pz {ρ : Nat → Loc} (ad : Addr) (us items c) (hb : im ad.block) (hu : ∀ j u, us[j]? = some u → w.cell? (ad.add j) = some u) (hr : RepL P im w noLoc us items) : RepV P im w ρ (.pointer (some (ad.add c))) (.pz items c)
  | nilp {ρ : Nat → Loc} : RepV P im w ρ (.pointer none) .nilp
  | agg {ρ : Nat → Loc} (vs l) (h : RepL P im w ρ vs l) : RepV P im w ρ (.agg vs.toArray) (.agg l)
  | tup {ρ : Nat → Loc} (vs l) (h : RepT P im w ρ vs l) : RepV P im w ρ (.tuple vs.toArray) (.tup l)
  | un {ρ : Nat → Loc} (v) : RepV P im w ρ v .un
/-- Cells read as items. -/
inductive RepL (P : Program) (im : Nat → Prop) (w : World) : (Nat → Loc) → List Value → List AV → Prop
  | nil {ρ : Nat → Loc} : RepL P im w ρ [] []
  | cons {ρ : Nat → Loc} (v x vs xs) (h1 : x.one = true) (h : RepV P im w ρ v x) (hs : RepL P im w ρ vs xs) : RepL P im w ρ (v :: vs) (x :: xs)
  | arr {ρ : Nat → Loc} (us l vs xs) (h1 : ∀ x ∈ l, x.one = true) (h : RepL P im w ρ us l) (hs : RepL P im w ρ vs xs) : RepL P im w ρ (us ++ vs) (.arr l :: xs)
/-- Values read as values, one by one. -/
inductive RepT (P : Program) (im : Nat → Prop) (w : World) : (Nat → Loc) → List Value → List AV → Prop
  | nil {ρ : Nat → Loc} : RepT P im w ρ [] []
  | cons {ρ : Nat → Loc} (v x vs xs) (h : RepV P im w ρ v x) (hs : RepT P im w ρ vs xs) : RepT P im w ρ (v :: vs) (x :: xs)
end

section mono
variable {P : Program} {im im' : Nat → Prop} {w w' : World}

mutual
theorem RepV.mono (hb : ∀ b, im b → im' b ∧ w'.heap[b]? = w.heap[b]?) {ρ ρ' : Nat → Loc} (hρ : ∀ id, ρ id ≠ .no → ρ' id = ρ id) : ∀ {v x}, RepV P im w ρ v x → RepV P im' w' ρ' v x
  | _, _, .int k n => .int k n
  | _, _, .bool b => .bool b
  | _, _, .str s => .str s
  | _, _, .flt b => .flt b
  | _, _, .nil e => .nil e
  | _, _, .fz e A cap l us hA hl hm ha hr => .fz e A cap l us hA hl hm (fun i hi => by
      obtain ⟨ad, e1, e2, e3, e4⟩ := ha i hi
      refine ⟨ad, e1, (hb _ e2).1, e3, fun j u hu => ?_⟩
      rw [← e4 j u hu]
      refine World.cell?_of_block ?_
      have : (ad.add (i * P.cellsOf e + j)).block = ad.block := by unfold Addr.add; split <;> rfl
      rw [this]; exact (hb _ e2).2) (fun i h => RepL.mono hb (fun _ hn => absurd rfl hn) (hr i h))
  | _, _, .sref id g cap n h hn => .sref id g cap n (by rw [hρ id (by rw [h]; simp)]; exact h) hn
  | _, _, .ptr id g cap c h => .ptr id g cap c (by rw [hρ id (by rw [h]; simp)]; exact h)
  | _, _, .ptrA id g cap c j h => .ptrA id g cap c j (by rw [hρ id (by rw [h]; simp)]; exact h)
  | _, _, .ptrE id g cap e i c h => .ptrE id g cap e i c (by rw [hρ id (by rw [h]; simp)]; exact h)
  | _, _, .pz ad us items c hbb hu hr => .pz ad us items c (hb _ hbb).1 (fun j u h => by
      rw [← hu j u h]
      refine World.cell?_of_block ?_
      have : (ad.add j).block = ad.block := by unfold Addr.add; split <;> rfl
      rw [this]; exact (hb _ hbb).2) (RepL.mono hb (fun _ hn => absurd rfl hn) hr)
  | _, _, .nilp => .nilp
  | _, _, .agg vs l h => .agg vs l (RepL.mono hb hρ h)
  | _, _, .tup vs l h => .tup vs l (RepT.mono hb hρ h)
  | _, _, .un v => .un v
theorem RepL.mono (hb : ∀ b, im b → im' b ∧ w'.heap[b]? = w.heap[b]?) {ρ ρ' : Nat → Loc} (hρ : ∀ id, ρ id ≠ .no → ρ' id = ρ id) : ∀ {vs xs}, RepL P im w ρ vs xs → RepL P im' w' ρ' vs xs
  | _, _, .nil => .nil
  | _, _, .cons v x vs xs h1 h hs => .cons v x vs xs h1 (RepV.mono hb hρ h) (RepL.mono hb hρ hs)
  | _, _, .arr us l vs xs h1 h hs => .arr us l vs xs h1 (RepL.mono hb hρ h) (RepL.mono hb hρ hs)
theorem RepT.mono (hb : ∀ b, im b → im' b ∧ w'.heap[b]? = w.heap[b]?) {ρ ρ' : Nat → Loc} (hρ : ∀ id, ρ id ≠ .no → ρ' id = ρ id) : ∀ {vs xs}, RepT P im w ρ vs xs → RepT P im' w' ρ' vs xs
  | _, _, .nil => .nil
  | _, _, .cons v x vs xs h hs => .cons v x vs xs (RepV.mono hb hρ h) (RepT.mono hb hρ hs)
end

/-- What leads to no row reads so wherever rows lie. -/
theorem RepV.lift {ρ : Nat → Loc} {v x} (h : RepV P im w noLoc v x) : RepV P im w ρ v x := h.mono (fun b hb => ⟨hb, rfl⟩) (fun _ hn => absurd rfl hn)
theorem RepL.lift {ρ : Nat → Loc} {v x} (h : RepL P im w noLoc v x) : RepL P im w ρ v x := h.mono (fun b hb => ⟨hb, rfl⟩) (fun _ hn => absurd rfl hn)
end mono
end Go.Sk
