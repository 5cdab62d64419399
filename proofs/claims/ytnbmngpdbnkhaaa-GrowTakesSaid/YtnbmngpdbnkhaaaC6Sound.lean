/- What the machine's operations do with what reads as abstract values. Conditions: none (a library text). -/
import Derived.WalkKit
import Derived.Maps.AppendAt
import Derived.OrdersHeld
import Derived.RowKit3
set_option linter.unusedVariables false
namespace Go.Sk
open Go.RowKit

/-- What a value reads as. 'fz': a slice whose elements nobody writes any more; 'sref': the first 'n' elements of the row 'id'. -/
inductive AV where
  | int (k : IntKind) (n : Int)
  | bool (b : Bool)
  | str (s : ByteArray)
  | flt (bits : Nat)
  | nil (e : Nat)
  | fz (e : Nat) (l : List (List AV))
  | sref (id n : Nat)
  | ptr (id c : Nat)
  | ptrA (id c j : Nat)
  | ptrE (id e i c : Nat)
  | pz (items : List AV) (c : Nat)
  | nilp
  | arr (l : List AV)
  | agg (l : List AV)
  | tup (l : List AV)
  | un
  deriving Inhabited

/-- Where a row lies: not yet anywhere, nowhere (a nil slice), or in a block with a capacity. -/
inductive Loc where
  | no
  | nil
  | blk (g cap : Nat)

/-- One cell's value? -/
def AV.one : AV → Bool
  | .arr _ | .agg _ | .tup _ | .un => false
  | _ => true

/-- How many cells an item has. -/
def AV.width : AV → Nat
  | .arr l => l.length
  | _ => 1

def widths : List AV → Nat
  | [] => 0
  | x :: xs => x.width + widths xs

/-- No row lies anywhere. -/
def noLoc : Nat → Loc := fun _ => .no

mutual
/-- A value, in a world, reads as an abstract value. 'im': the blocks that stay as they are; 'ρ': where rows lie. -/
inductive RepV (P : Program) (im : Nat → Prop) (w : World) : (Nat → Loc) → Value → AV → Prop
  | int {ρ : Nat → Loc} (k n) : RepV P im w ρ (.int k n) (.int k n)
  | bool {ρ : Nat → Loc} (b) : RepV P im w ρ (.bool b) (.bool b)
  | str {ρ : Nat → Loc} (s) : RepV P im w ρ (.string s) (.str s)
  | flt {ρ : Nat → Loc} (b) : RepV P im w ρ (.float .f64 b) (.flt b)
  | nil {ρ : Nat → Loc} (e) : RepV P im w ρ (.slice none 0 0) (.nil e)
  | fz {ρ : Nat → Loc} (e A cap) (l : List (List AV)) (us : Nat → List Value) (hA : A.isSome = true) (hl : l.length ≤ cap) (hm : l.length ≤ 9223372036854775807)
      (ha : ∀ i, i < l.length → ∃ ad : Addr, A = some ad ∧ im ad.block ∧ (us i).length = P.cellsOf e ∧ ∀ j u, (us i)[j]? = some u → w.cell? (ad.add (i * P.cellsOf e + j)) = some u)
      (hr : ∀ i (h : i < l.length), RepL P im w noLoc (us i) l[i]) : RepV P im w ρ (.slice A l.length cap) (.fz e l)
  | sref {ρ : Nat → Loc} (id g cap n) (h : ρ id = .blk g cap) (hn : n ≤ cap) : RepV P im w ρ (.slice (some ⟨g, 0, none⟩) n cap) (.sref id n)
  | ptr {ρ : Nat → Loc} (id g cap c) (h : ρ id = .blk g cap) : RepV P im w ρ (.pointer (some ⟨g, c, none⟩)) (.ptr id c)
  | ptrA {ρ : Nat → Loc} (id g cap c j) (h : ρ id = .blk g cap) : RepV P im w ρ (.pointer (some ⟨g, c + j, none⟩)) (.ptrA id c j)
  | ptrE {ρ : Nat → Loc} (id g cap e i c) (h : ρ id = .blk g cap) : RepV P im w ρ (.pointer (some ⟨g, i * P.cellsOf e + c, none⟩)) (.ptrE id e i c)
  | pz {ρ : Nat → Loc} (ad : Addr) (us items c) (hb : im ad.block) (hu : ∀ j u, us[j]? = some u → w.cell? (ad.add j) = some u) (hr : RepL P im w noLoc us items) : RepV P im w ρ (.pointer (some (ad.add c))) (.pz items c)
  | nilp {ρ : Nat → Loc} : RepV P im w ρ (.pointer none) .nilp
  | agg {ρ : Nat → Loc} (vs l) (h : RepL P im w ρ vs l) : RepV P im w ρ (.agg vs.toArray) (.agg l)
  | tup {ρ : Nat → Loc} (vs l) (h : RepT P im w ρ vs l) : RepV P im w ρ (.tuple vs.toArray) (.tup l)
  | un {ρ : Nat → Loc} (v) : RepV P im w ρ v .un
/-- Cells read as items. -/
inductive RepL (P : Program) (im : Nat → Prop) (w : World) : (Nat → Loc) → List Value → List AV → Prop
  | nil {ρ : Nat → Loc} : RepL P im w ρ [] []
  | cons {ρ : Nat → Loc} (v x vs xs) (h1 : x.one = true) (h : RepV P im w ρ v x) (hs : RepL P im w ρ vs xs) : RepL P im w ρ (v :: vs) (x :: xs)
  | arr {ρ : Nat → Loc} (us l vs xs) (h1 : ∀ x ∈ l, x.one = true) (h : RepL P im w ρ us l) (hs : RepL P im w ρ vs xs) : RepL P im w ρ (us ++ vs) (.arr l :: xs)
/-- Values read as values, one by one. -/
inductive RepT (P : Program) (im : Nat → Prop) (w : World) : (Nat → Loc) → List Value → List AV → Prop
  | nil {ρ : Nat → Loc} : RepT P im w ρ [] []
  | cons {ρ : Nat → Loc} (v x vs xs) (h : RepV P im w ρ v x) (hs : RepT P im w ρ vs xs) : RepT P im w ρ (v :: vs) (x :: xs)
end

section mono
variable {P : Program} {im im' : Nat → Prop} {w w' : World}

mutual
theorem RepV.mono (hb : ∀ b, im b → im' b ∧ w'.heap[b]? = w.heap[b]?) {ρ ρ' : Nat → Loc} (hρ : ∀ id, ρ id ≠ .no → ρ' id = ρ id) : ∀ {v x}, RepV P im w ρ v x → RepV P im' w' ρ' v x
  | _, _, .int k n => .int k n
  | _, _, .bool b => .bool b
  | _, _, .str s => .str s
  | _, _, .flt b => .flt b
  | _, _, .nil e => .nil e
  | _, _, .fz e A cap l us hA hl hm ha hr => .fz e A cap l us hA hl hm (fun i hi => by
      obtain ⟨ad, e1, e2, e3, e4⟩ := ha i hi
      refine ⟨ad, e1, (hb _ e2).1, e3, fun j u hu => ?_⟩
      rw [← e4 j u hu]
      refine World.cell?_of_block ?_
      have : (ad.add (i * P.cellsOf e + j)).block = ad.block := by unfold Addr.add; split <;> rfl
      rw [this]; exact (hb _ e2).2) (fun i h => RepL.mono hb (fun _ hn => absurd rfl hn) (hr i h))
  | _, _, .sref id g cap n h hn => .sref id g cap n (by rw [hρ id (by rw [h]; simp)]; exact h) hn
  | _, _, .ptr id g cap c h => .ptr id g cap c (by rw [hρ id (by rw [h]; simp)]; exact h)
  | _, _, .ptrA id g cap c j h => .ptrA id g cap c j (by rw [hρ id (by rw [h]; simp)]; exact h)
  | _, _, .ptrE id g cap e i c h => .ptrE id g cap e i c (by rw [hρ id (by rw [h]; simp)]; exact h)
  | _, _, .pz ad us items c hbb hu hr => .pz ad us items c (hb _ hbb).1 (fun j u h => by
      rw [← hu j u h]
      refine World.cell?_of_block ?_
      have : (ad.add j).block = ad.block := by unfold Addr.add; split <;> rfl
      rw [this]; exact (hb _ hbb).2) (RepL.mono hb (fun _ hn => absurd rfl hn) hr)
  | _, _, .nilp => .nilp
  | _, _, .agg vs l h => .agg vs l (RepL.mono hb hρ h)
  | _, _, .tup vs l h => .tup vs l (RepT.mono hb hρ h)
  | _, _, .un v => .un v
theorem RepL.mono (hb : ∀ b, im b → im' b ∧ w'.heap[b]? = w.heap[b]?) {ρ ρ' : Nat → Loc} (hρ : ∀ id, ρ id ≠ .no → ρ' id = ρ id) : ∀ {vs xs}, RepL P im w ρ vs xs → RepL P im' w' ρ' vs xs
  | _, _, .nil => .nil
  | _, _, .cons v x vs xs h1 h hs => .cons v x vs xs h1 (RepV.mono hb hρ h) (RepL.mono hb hρ hs)
  | _, _, .arr us l vs xs h1 h hs => .arr us l vs xs h1 (RepL.mono hb hρ h) (RepL.mono hb hρ hs)
theorem RepT.mono (hb : ∀ b, im b → im' b ∧ w'.heap[b]? = w.heap[b]?) {ρ ρ' : Nat → Loc} (hρ : ∀ id, ρ id ≠ .no → ρ' id = ρ id) : ∀ {vs xs}, RepT P im w ρ vs xs → RepT P im' w' ρ' vs xs
  | _, _, .nil => .nil
  | _, _, .cons v x vs xs h hs => .cons v x vs xs (RepV.mono hb hρ h) (RepT.mono hb hρ hs)
end

/-- What leads to no row reads so wherever rows lie. -/
theorem RepV.lift {ρ : Nat → Loc} {v x} (h : RepV P im w noLoc v x) : RepV P im w ρ v x := h.mono (fun b hb => ⟨hb, rfl⟩) (fun _ hn => absurd rfl hn)
theorem RepL.lift {ρ : Nat → Loc} {v x} (h : RepL P im w noLoc v x) : RepL P im w ρ v x := h.mono (fun b hb => ⟨hb, rfl⟩) (fun _ hn => absurd rfl hn)
end mono
end Go.Sk
set_option linter.unusedVariables false
namespace Go.Sk
open Go.RowKit

section items
variable {P : Program} {im : Nat → Prop} {w : World} {ρ : Nat → Loc}

theorem RepV.one_cell {v : Value} {x : AV} (h : RepV P im w ρ v x) (h1 : x.one = true) : v.oneCell' = true := by
  cases h <;> simp_all [AV.one, Value.oneCell']

theorem RepL.one_cells0 {us : List Value} {l : List AV} (h : RepL P im w ρ us l) (h1 : ∀ x ∈ l, x.one = true) : ∀ u ∈ us, u.oneCell' = true := by
  induction l generalizing us with
  | nil => cases h; simp
  | cons y ys ih =>
    cases h with
    | cons v y vs' ys h1' h' hs' =>
      intro u hu
      rcases List.mem_cons.1 hu with rfl | hu
      · exact h'.one_cell h1'
      · exact ih hs' (fun z hz => h1 z (List.mem_cons_of_mem _ hz)) u hu
    | arr us' l' vs' ys h1' h' hs' => have := h1 (.arr l') (by simp); simp [AV.one] at this

theorem RepL.one_cells {us : List Value} {l : List AV} (h : RepL P im w ρ us l) : ∀ u ∈ us, u.oneCell' = true := by
  induction l generalizing us with
  | nil => cases h; simp
  | cons x xs ih =>
    cases h with
    | cons v x vs xs h1 h hs =>
      intro u hu
      rcases List.mem_cons.1 hu with rfl | hu
      · exact h.one_cell h1
      · exact ih hs u hu
    | arr us l vs xs h1 h hs =>
      intro u hu
      rcases List.mem_append.1 hu with hu | hu
      · exact h.one_cells0 h1 u hu
      · exact ih hs u hu

/-- A list of single cells. -/
theorem RepL.len_ones {us : List Value} {l : List AV} (h : RepL P im w ρ us l) (h1 : ∀ x ∈ l, x.one = true) : us.length = l.length := by
  induction l generalizing us with
  | nil => cases h; rfl
  | cons y ys ih =>
    cases h with
    | cons v y vs' ys h1' h' hs' => simp [ih hs' (fun z hz => h1 z (List.mem_cons_of_mem _ hz))]
    | arr us' l' vs' ys h1' h' hs' => have := h1 (.arr l') (by simp); simp [AV.one] at this

theorem RepL.at_ones {us : List Value} {l : List AV} (h : RepL P im w ρ us l) (h1 : ∀ x ∈ l, x.one = true) : ∀ j (hj : j < l.length), ∃ hu : j < us.length, RepV P im w ρ us[j] l[j] := by
  induction l generalizing us with
  | nil => intro j hj; simp at hj
  | cons y ys ih =>
    cases h with
    | cons v y vs' ys h1' h' hs' =>
      intro j hj
      cases j with
      | zero => exact ⟨by simp, h'⟩
      | succ j =>
        obtain ⟨a, b⟩ := ih hs' (fun z hz => h1 z (List.mem_cons_of_mem _ hz)) j (by simpa using hj)
        exact ⟨by simpa using a, by simpa using b⟩
    | arr us' l' vs' ys h1' h' hs' => have := h1 (.arr l') (by simp); simp [AV.one] at this

theorem RepL.set_ones {us : List Value} {l : List AV} (h : RepL P im w ρ us l) (h1 : ∀ x ∈ l, x.one = true) (j : Nat) {v : Value} {x : AV} (hx : x.one = true) (hv : RepV P im w ρ v x) : RepL P im w ρ (us.set j v) (l.set j x) := by
  induction l generalizing us j with
  | nil => cases h; exact .nil
  | cons y ys ih =>
    cases h with
    | cons u y vs' ys h1' h' hs' =>
      cases j with
      | zero => exact .cons _ _ _ _ hx hv hs'
      | succ j => exact .cons _ _ _ _ h1' h' (ih hs' (fun z hz => h1 z (List.mem_cons_of_mem _ hz)) j)
    | arr us' l' vs' ys h1' h' hs' => have := h1 (.arr l') (by simp); simp [AV.one] at this

theorem width_one {x : AV} (h : x.one = true) : x.width = 1 := by cases x <;> simp_all [AV.one, AV.width]

theorem RepL.width {us : List Value} {l : List AV} (h : RepL P im w ρ us l) : us.length = widths l := by
  induction l generalizing us with
  | nil => cases h; rfl
  | cons y ys ih =>
    cases h with
    | cons v y vs' ys h1' h' hs' => simp [widths, ih hs', width_one h1']; omega
    | arr us' l' vs' ys h1' h' hs' => simp [widths, ih hs', AV.width, h'.len_ones h1']

theorem RepL.append {us vs : List Value} {l m : List AV} (h : RepL P im w ρ us l) (k : RepL P im w ρ vs m) : RepL P im w ρ (us ++ vs) (l ++ m) := by
  induction l generalizing us with
  | nil => cases h; exact k
  | cons y ys ih =>
    cases h with
    | cons v y vs' ys h1' h' hs' => exact .cons _ _ _ _ h1' h' (ih hs')
    | arr us' l' vs' ys h1' h' hs' => rw [List.append_assoc]; exact .arr _ _ _ _ h1' h' (ih hs')

/-- The items behind the first c cells. -/
def skip : List AV → Nat → Option (List AV)
  | l, 0 => some l
  | [], _ + 1 => none
  | x :: xs, c + 1 => if x.width ≤ c + 1 then skip xs (c + 1 - x.width) else none

/-- The items that the first n cells are. -/
def firsts : List AV → Nat → Option (List AV)
  | _, 0 => some []
  | [], _ + 1 => none
  | x :: xs, n + 1 => if x.width ≤ n + 1 then (firsts xs (n + 1 - x.width)).map (x :: ·) else none

/-- Items put in the place of those from cell c on. -/
def putAt : List AV → Nat → List AV → Option (List AV)
  | l, 0, new => (skip l (widths new)).map (new ++ ·)
  | [], _ + 1, _ => none
  | x :: xs, c + 1, new => if x.width ≤ c + 1 then (putAt xs (c + 1 - x.width) new).map (x :: ·) else none

theorem RepL.cons_inv {us : List Value} {x : AV} {xs : List AV} (h : RepL P im w ρ us (x :: xs)) : ∃ a b, us = a ++ b ∧ a.length = x.width ∧ RepL P im w ρ a [x] ∧ RepL P im w ρ b xs := by
  cases h with
  | cons v _ vs _ h1 h hs => exact ⟨[v], vs, rfl, by simp [width_one h1], .cons _ _ _ _ h1 h .nil, hs⟩
  | arr a l vs _ h1 h hs => exact ⟨a, vs, rfl, by simp [AV.width, h.len_ones h1], by simpa using RepL.arr a l [] [] h1 h .nil, hs⟩

theorem RepL.cons_mk {a b : List Value} {x : AV} {xs : List AV} (h : RepL P im w ρ a [x]) (k : RepL P im w ρ b xs) : RepL P im w ρ (a ++ b) (x :: xs) := h.append k

theorem RepL.skip {us : List Value} {l l' : List AV} {c : Nat} (h : RepL P im w ρ us l) (hs : skip l c = some l') : RepL P im w ρ (us.drop c) l' ∧ c ≤ us.length := by
  induction l generalizing us c with
  | nil => cases c <;> simp [Sk.skip] at hs; subst hs; exact ⟨by simpa using h, Nat.zero_le _⟩
  | cons x xs ih =>
    cases c with
    | zero => simp [Sk.skip] at hs; subst hs; exact ⟨by simpa using h, Nat.zero_le _⟩
    | succ c =>
      simp only [Sk.skip] at hs
      split at hs
      · rename_i hw
        obtain ⟨a, b, rfl, ha, _, hb⟩ := h.cons_inv
        obtain ⟨h1, h2⟩ := ih hb hs
        refine ⟨?_, by simp; omega⟩
        rw [List.drop_append, List.drop_eq_nil_of_le (by omega), List.nil_append, ha]
        exact h1
      · cases hs

theorem RepL.firsts {us : List Value} {l l' : List AV} {n : Nat} (h : RepL P im w ρ us l) (hs : firsts l n = some l') : RepL P im w ρ (us.take n) l' ∧ n ≤ us.length := by
  induction l generalizing us n l' with
  | nil => cases n <;> simp [Sk.firsts] at hs; subst hs; exact ⟨.nil, Nat.zero_le _⟩
  | cons x xs ih =>
    cases n with
    | zero => simp [Sk.firsts] at hs; subst hs; exact ⟨.nil, Nat.zero_le _⟩
    | succ n =>
      simp only [Sk.firsts] at hs
      split at hs
      · rename_i hw
        obtain ⟨a, b, rfl, ha, hx, hb⟩ := h.cons_inv
        rw [Option.map_eq_some_iff] at hs
        obtain ⟨m, hm, rfl⟩ := hs
        obtain ⟨h1, h2⟩ := ih hb hm
        refine ⟨?_, by simp; omega⟩
        rw [List.take_append, List.take_of_length_le (by omega), ha]
        exact hx.cons_mk h1
      · cases hs

theorem putAt_zero (l new : List AV) : putAt l 0 new = (skip l (widths new)).map (new ++ ·) := by cases l <;> rfl

theorem RepL.putAt {us vs : List Value} {l l' new : List AV} {c : Nat} (h : RepL P im w ρ us l) (hn : RepL P im w ρ vs new) (hs : putAt l c new = some l') :
    RepL P im w ρ (us.take c ++ vs ++ us.drop (c + vs.length)) l' ∧ c + vs.length ≤ us.length := by
  cases c with
  | zero =>
    rw [putAt_zero, Option.map_eq_some_iff] at hs
    obtain ⟨m, hm, rfl⟩ := hs
    rw [← hn.width] at hm
    obtain ⟨h1, h2⟩ := h.skip hm
    exact ⟨by simpa using hn.append h1, by omega⟩
  | succ c =>
    induction l generalizing us c l' with
    | nil => simp [Sk.putAt] at hs
    | cons x xs ih =>
      simp only [Sk.putAt] at hs
      split at hs
      · rename_i hw
        obtain ⟨a, b, rfl, ha, hx, hb⟩ := h.cons_inv
        rw [Option.map_eq_some_iff] at hs
        obtain ⟨m, hm, rfl⟩ := hs
        have key : RepL P im w ρ (b.take (c + 1 - x.width) ++ vs ++ b.drop (c + 1 - x.width + vs.length)) m ∧ c + 1 - x.width + vs.length ≤ b.length := by
          generalize c + 1 - x.width = c' at hm ⊢
          cases c' with
          | zero =>
            rw [putAt_zero, Option.map_eq_some_iff] at hm
            obtain ⟨m', hm', rfl⟩ := hm
            rw [← hn.width] at hm'
            obtain ⟨h1, h2⟩ := hb.skip hm'
            exact ⟨by simpa using hn.append h1, by omega⟩
          | succ c' => exact ih hb c' hm
        obtain ⟨h1, h2⟩ := key
        refine ⟨?_, by simp; omega⟩
        have e1 : (a ++ b).take (c + 1) = a ++ b.take (c + 1 - x.width) := by rw [List.take_append, List.take_of_length_le (by omega), ha]
        have e2 : (a ++ b).drop (c + 1 + vs.length) = b.drop (c + 1 - x.width + vs.length) := by
          rw [List.drop_append, List.drop_eq_nil_of_le (by omega), List.nil_append, ha]
          congr 1; omega
        rw [e1, e2, List.append_assoc, List.append_assoc]
        rw [List.append_assoc] at h1
        exact hx.cons_mk h1
      · cases hs
end items
end Go.Sk
set_option linter.unusedVariables false
namespace Go.Sk
open Go.RowKit

inductive Opd where
  | t (n : Nat)
  | k (v : AV)
  deriving Inhabited

inductive MOp where
  | mv (x : Opd)
  | pick (c a b : Opd)
  | new (t : Nat) (z : List AV)
  | box (t : Nat) (x : Opd)
  | build (z : List AV) (ps : List (Nat × Nat × Opd))
  | bslice (e : Nat) (z : List AV) (n : Nat) (ps : List (Nat × Opd))
  | load (agg : Bool) (n : Nat) (x : Opd)
  | store (n : Nat) (a x : Opd)
  | nilchk (x : Opd)
  | bin (op : BinOp) (x y : Opd)
  | eqI (n : Nat) (neg : Bool) (x y : Opd)
  | eqB (neg : Bool) (x y : Opd)
  | not (x : Opd)
  | conv (k : IntKind) (x : Opd)
  | fld (off : Nat) (x : Opd)
  | idxS (e : Nat) (x i : Opd)
  | idxP (n : Nat) (x i : Opd)
  | idxV (n : Nat) (x i : Opd)
  | slcS (e : Nat) (x : Opd) (lo hi : Option Opd)
  | ext (x : Opd) (i : Nat)
  | len (x : Opd)
  | slen (x : Opd)
  | app (e lim : Nat) (x y : Opd)
  | mm (mx : Bool) (x y : Opd)
  | fbits (x : Opd)
  | ffrom (x : Opd)
  | isnil (neg : Bool) (x : Opd)
  | call (f : Nat) (args : List Opd)
  deriving Inhabited

structure MOper where
  dst : Option Nat
  op : MOp
  g : Option (Nat × Bool)
  deriving Inhabited

/-- An operation of a region whose order the machine draws. 'w': an append that waits for all; 'nx': the row that it makes; 'av': rows that it must not read; 'sep': pointers that lead elsewhere. -/
structure DOp where
  o : MOper
  w : Bool
  nx : Nat
  av : List Nat
  sep : List Nat
  deriving Inhabited

inductive MC where
  | skip
  | reg (ops : List MOper)
  | dreg (m : Nat) (ops : List DOp)
  | seq (a b : MC)
  | cond (c : Opd) (a b : MC)
  | block (id : Nat) (c : MC)
  | loop (c : MC)
  | exit (id : Nat)
  | ret
  deriving Inhabited

/-- A row that a call has made, or was lent. -/
inductive Row where
  | box (t : Nat) (v : List AV)
  | vec (e : Nat) (l : List (List AV))
  | frz (e : Nat) (l : List (List AV))
  | dead
  deriving Inhabited

abbrev Env := List (Nat × AV)

def look : Env → Nat → AV
  | [], _ => .un
  | (s, v) :: e, t => if s = t then v else look e t

def Opd.get (e : Env) : Opd → AV
  | .t n => look e n
  | .k v => v

/-- A value's items. -/
def itemsOf : AV → Option (List AV)
  | .agg l => some l
  | .tup _ | .un | .arr _ => none
  | x => some [x]

/-- What is stored in an element leads to nothing that is written any more. -/
def thawV (rows : List Row) : AV → Option (AV × List Row)
  | .sref id n => match rows[id]? with
    | some (.vec e l) => if n ≤ l.length then some (.fz e (l.take n), rows.set id (.frz e l)) else none
    | some (.frz e l) => if n ≤ l.length then some (.fz e (l.take n), rows) else none
    | _ => none
  | .ptr .. | .ptrA .. | .ptrE .. | .pz .. | .arr _ | .agg _ | .tup _ | .un => none
  | x => some (x, rows)

def thawL (rows : List Row) : List AV → Option (List AV × List Row)
  | [] => some ([], rows)
  | x :: xs => (thawV rows x).bind fun p => (thawL p.2 xs).map fun q => (p.1 :: q.1, q.2)

def putParts (g : Opd → AV) : List AV → List (Nat × Nat × Opd) → Option (List AV)
  | z, [] => some z
  | z, (c, sz, x) :: ps => (itemsOf (g x)).bind fun l => if widths l = sz then (putAt z c l).bind fun z' => putParts g z' ps else none

def putElems (g : Opd → AV) (sz : Nat) : List Row → List (List AV) → List (Nat × Opd) → Option (List (List AV) × List Row)
  | rows, l, [] => some (l, rows)
  | rows, l, (i, x) :: ps => (itemsOf (g x)).bind fun y => (thawL rows y).bind fun q => if i < l.length ∧ widths y = sz then putElems g sz q.2 (l.set i q.1) ps else none

/-- A pointer's items, from its cell on. -/
def behind (rows : List Row) : AV → Option (List AV)
  | .ptr id c => match rows[id]? with
    | some (.box _ v) => skip v c
    | _ => none
  | .ptrE id e i c => match rows[id]? with
    | some (.vec e' l) => if e = e' then (l[i]?).bind fun v => skip v c else none
    | some (.frz e' l) => if e = e' then (l[i]?).bind fun v => skip v c else none
    | _ => none
  | .pz v c => skip v c
  | .ptrA id c j => match rows[id]? with
    | some (.box _ v) => match skip v c with
      | some (.arr l :: _) => (l[j]?).map fun x => [x]
      | _ => none
    | _ => none
  | _ => none

/-- An array that stands at a cell, one of its elements put. -/
def putArr : List AV → Nat → Nat → AV → Option (List AV)
  | .arr l :: xs, 0, j, x => if j < l.length then some (.arr (l.set j x) :: xs) else none
  | _, 0, _, _ => none
  | [], _ + 1, _, _ => none
  | y :: ys, c + 1, j, x => if y.width ≤ c + 1 then (putArr ys (c + 1 - y.width) j x).map (y :: ·) else none

def storeAt (rows : List Row) : AV → List AV → Option (List Row)
  | .ptr id c, new => match rows[id]? with
    | some (.box t v) => (putAt v c new).map fun v' => rows.set id (.box t v')
    | _ => none
  | .ptrA id c j, [x] => match rows[id]? with
    | some (.box t v) => if x.one then (putArr v c j x).map fun v' => rows.set id (.box t v') else none
    | _ => none
  | .ptrE id e i c, new => (thawL rows new).bind fun q => match q.2[id]? with
    | some (.vec e' l) => if e = e' then (l[i]?).bind fun v => (putAt v c q.1).map fun v' => q.2.set id (.vec e (l.set i v')) else none
    | _ => none
  | _, _ => none

def intBin (op : BinOp) (k : IntKind) (a b : Int) : Option AV :=
  match op with
  | .add => some (.int k (k.wrap (a + b)))
  | .sub => some (.int k (k.wrap (a - b)))
  | .mul => some (.int k (k.wrap (a * b)))
  | .and => some (.int k (Go.bits .and k a b))
  | .or => some (.int k (Go.bits .or k a b))
  | .xor => some (.int k (Go.bits .xor k a b))
  | .andNot => some (.int k (Go.bits .andNot k a b))
  | .eql => some (.bool (a == b))
  | .neq => some (.bool (a != b))
  | .lss => some (.bool (decide (a < b)))
  | .leq => some (.bool (decide (a ≤ b)))
  | .gtr => some (.bool (decide (a > b)))
  | .geq => some (.bool (decide (a ≥ b)))
  | .quo => if b = 0 then none else some (.int k (k.wrap (a.tdiv b)))
  | .rem => if b = 0 then none else some (.int k (a.tmod b))
  | _ => none

def binV (op : BinOp) : AV → AV → Option AV
  | .int k a, .int k' b => match op with
    | .shl => if b < 0 then none else some (.int k (k.wrap (a * 2 ^ min b.toNat k.bits)))
    | .shr => if b < 0 then none else some (.int k (a.fdiv (2 ^ min b.toNat k.bits)))
    | _ => if k = k' then intBin op k a b else none
  | .str a, .str b => match op with
    | .eql => some (.bool (a.toList == b.toList))
    | .neq => some (.bool (!(a.toList == b.toList)))
    | _ => none
  | .flt a, .flt b => match op with
    | .eql => some (.bool (Op.floatEq .f64 a b))
    | .neq => some (.bool (!Op.floatEq .f64 a b))
    | _ => none
  | _, _ => none

def eqInts : List AV → List AV → Option Bool
  | [], [] => some true
  | .int k a :: xs, .int k' b :: ys => if k = k' then (eqInts xs ys).map fun r => (a == b) && r else none
  | _, _ => none

/-- A slice's elements (of type e): what is read of it. -/
def elems (e : Nat) (rows : List Row) : AV → Option (List (List AV))
  | .nil _ => some []
  | .fz e' l => if e = e' then some l else none
  | .sref id n => match rows[id]? with
    | some (.vec e' l) => if e = e' ∧ n ≤ l.length then some (l.take n) else none
    | some (.frz e' l) => if e = e' ∧ n ≤ l.length then some (l.take n) else none
    | _ => none
  | _ => none

def lenV : AV → Option Int
  | .nil _ => some 0
  | .fz _ l => some l.length
  | .sref _ n => some n
  | _ => none

def idx (i : AV) (n : Nat) : Option Nat :=
  match i with
  | .int _ j => if 0 ≤ j ∧ j < n then some j.toNat else none
  | _ => none

def bound (g : Opd → AV) (d : Nat) (top : Nat) : Option Opd → Option Nat
  | none => some d
  | some x => match g x with
    | .int _ j => if 0 ≤ j ∧ j ≤ top then some j.toNat else none
    | _ => none

/-- What is loaded: a struct or an array, or one cell. -/
def loadR (agg : Bool) (m : List AV) : Option AV :=
  if agg then some (.agg m) else match m with
    | [y] => if y.one then some y else none
    | _ => none

/-- The address of a slice's element. -/
def idxSV (e : Nat) (x i : AV) : Option AV :=
  match x with
  | .fz e' l => if e = e' then (idx i l.length).bind fun j => (l[j]?).map fun v => .pz v 0 else none
  | .sref id n => (idx i n).map fun j => .ptrE id e j 0
  | _ => none

/-- The address of an array's element. -/
def idxPV (n : Nat) (x i : AV) : Option AV :=
  match x with
  | .ptr id c => (idx i n).map fun j => .ptrA id c j
  | _ => none

/-- An array's element. -/
def idxVV (n : Nat) (x i : AV) : Option AV :=
  match x with
  | .agg [.arr l] => (idx i n).bind fun j => l[j]?
  | _ => none

/-- What an append leaves. -/
def appR (e lim : Nat) (rows : List Row) (x : AV) (ys : List (List AV)) : Option (AV × List Row) :=
  match x with
  | .nil _ => if ys.length ≤ lim then (if ys.isEmpty then some (.nil e, rows ++ [.dead]) else some (.sref rows.length ys.length, rows ++ [.vec e ys])) else none
  | .sref id n => match rows[id]? with
    | some (.vec e' l) => if e = e' ∧ n ≤ l.length ∧ n + ys.length ≤ lim then some (.sref rows.length (n + ys.length), rows.set id .dead ++ [.vec e (l.take n ++ ys)]) else none
    | _ => none
  | _ => none

def isAggD : TypeDesc → Bool
  | .struct _ | .array _ _ => true
  | _ => false

/-- One operation but a call: its value, and the rows behind it. -/
def stepOp (g : Opd → AV) (rows : List Row) : MOp → Option (AV × List Row)
  | .mv x => some (g x, rows)
  | .pick c a b => match g c with
    | .bool t => some (if t then g a else g b, rows)
    | _ => none
  | .new t z => some (.ptr rows.length 0, rows ++ [.box t z])
  | .box t x => (itemsOf (g x)).map fun l => (.ptr rows.length 0, rows ++ [.box t l])
  | .build z ps => (putParts g z ps).map fun l => (.agg l, rows)
  | .bslice e z n ps => (putElems g (widths z) rows (List.replicate n z) ps).map fun q => (.sref q.2.length n, q.2 ++ [.vec e q.1])
  | .load agg n x => (behind rows (g x)).bind fun l => (firsts l n).bind fun m => (loadR agg m).map fun v => (v, rows)
  | .store n a x => (itemsOf (g x)).bind fun l => if widths l = n then (storeAt rows (g a) l).map fun r => (.un, r) else none
  | .nilchk x => match g x with
    | .ptr id c => some (.ptr id c, rows)
    | .ptrE id e i c => some (.ptrE id e i c, rows)
    | .ptrA id c j => some (.ptrA id c j, rows)
    | .pz v c => some (.pz v c, rows)
    | _ => none
  | .bin op x y => (binV op (g x) (g y)).map fun v => (v, rows)
  | .eqI n neg x y => match g x, g y with
    | .agg a, .agg b => if a.length = n then (eqInts a b).map fun r => (.bool (if neg then !r else r), rows) else none
    | _, _ => none
  | .eqB neg x y => match g x, g y with
    | .bool a, .bool b => some (.bool (if neg then !(a == b) else a == b), rows)
    | _, _ => none
  | .not x => match g x with
    | .bool b => some (.bool !b, rows)
    | _ => none
  | .conv k x => match g x with
    | .int _ n => some (.int k (k.wrap n), rows)
    | _ => none
  | .fld off x => match g x with
    | .ptr id c => some (.ptr id (c + off), rows)
    | .ptrE id e i c => some (.ptrE id e i (c + off), rows)
    | .pz v c => some (.pz v (c + off), rows)
    | _ => none
  | .idxS e x i => (idxSV e (g x) (g i)).map fun v => (v, rows)
  | .idxP n x i => (idxPV n (g x) (g i)).map fun v => (v, rows)
  | .idxV n x i => (idxVV n (g x) (g i)).map fun v => (v, rows)
  | .slcS e x lo hi => match g x with
    | .fz e' l => if e = e' then (bound g l.length l.length hi).bind fun h => (bound g 0 h lo).map fun b => (.fz e ((l.take h).drop b), rows) else none
    | .sref id n => (bound g n n hi).bind fun h => match lo with
      | none => some (.sref id h, rows)
      | some _ => (bound g 0 h lo).bind fun b => (thawV rows (.sref id h)).bind fun q => match q.1 with
        | .fz e' l => if e = e' then some (.fz e (l.drop b), q.2) else none
        | _ => none
    | .nil e' => (bound g 0 0 hi).bind fun h => (bound g 0 h lo).map fun b => (.nil e', rows)
    | _ => none
  | .ext x i => match g x with
    | .tup l => (l[i]?).map fun v => (v, rows)
    | _ => none
  | .len x => (lenV (g x)).map fun n => (.int .i64 n, rows)
  | .slen x => match g x with
    | .str s => some (.int .i64 s.size, rows)
    | _ => none
  | .app e lim x y => (elems e rows (g y)).bind fun ys => appR e lim rows (g x) ys
  | .mm mx x y => match g x, g y with
    | .int k a, .int k' b => if k = k' then some (.int k (if mx then (if a < b then b else a) else (if b < a then b else a)), rows) else none
    | _, _ => none
  | .fbits x => match g x with
    | .flt b => some (.int .u64 b, rows)
    | _ => none
  | .ffrom x => match g x with
    | .int .u64 n => some (.flt n.toNat, rows)
    | _ => none
  | .isnil _ _ => none
  | .call _ _ => none
end Go.Sk
set_option linter.unusedVariables false
namespace Go.Sk
open Go.RowKit

/-- The cells of element i of a row of elements of sz cells. -/
def seg (us : List Value) (sz i : Nat) : List Value := (us.drop (i * sz)).take sz

/-- Elements in a block. -/
def InBlk (P : Program) (im : Nat → Prop) (w : World) (g cap e : Nat) (l : List (List AV)) : Prop :=
  ∃ cur, w.heap[g]? = some (.cells cur e (0, 0)) ∧ l.length ≤ cap ∧ cap ≤ 9223372036854775807 ∧ cur.size = cap * P.cellsOf e ∧
    ∀ i (h : i < l.length), RepL P im w noLoc (seg cur.toList (P.cellsOf e) i) l[i]

def RowOK (P : Program) (im : Nat → Prop) (w : World) (ρ : Nat → Loc) (id : Nat) : Row → Prop
  | .box t v => ∃ g cap cur, ρ id = .blk g cap ∧ w.heap[g]? = some (.cells cur t (0, 0)) ∧ ¬ im g ∧ RepL P im w ρ cur.toList v
  | .vec e l => (ρ id = .nil ∧ l = []) ∨ ∃ g cap, ρ id = .blk g cap ∧ ¬ im g ∧ InBlk P im w g cap e l
  | .frz e l => (ρ id = .nil ∧ l = []) ∨ ∃ g cap, ρ id = .blk g cap ∧ im g ∧ InBlk P im w g cap e l
  | .dead => True

def Row.live : Row → Bool
  | .box .. | .vec .. => true
  | _ => false

/-- The blocks that may be written. -/
def Own (ρ : Nat → Loc) (rows : List Row) (b : Nat) : Prop := ∃ id r cap, rows[id]? = some r ∧ r.live = true ∧ ρ id = .blk b cap

structure WF (P : Program) (im : Nat → Prop) (w : World) (ρ : Nat → Loc) (rows : List Row) : Prop where
  row : ∀ id r, rows[id]? = some r → RowOK P im w ρ id r
  inj : ∀ id id' r r' b cap cap', rows[id]? = some r → rows[id']? = some r' → r.live = true → r'.live = true → ρ id = .blk b cap → ρ id' = .blk b cap' → id = id'
  no : ∀ id, rows.length ≤ id → ρ id = .no
  im : ∀ b, im b → b < w.heap.size

structure Ext (w : World) (im : Nat → Prop) (ρ : Nat → Loc) (rows : List Row) (w' : World) (im' : Nat → Prop) (ρ' : Nat → Loc) (rows' : List Row) : Prop where
  os : w'.os = w.os
  tape : w'.tape = w.tape
  output : w'.output = w.output
  size : w.heap.size ≤ w'.heap.size
  block : ∀ b, b < w.heap.size → ¬ Own ρ rows b → w'.heap[b]? = w.heap[b]?
  imsub : ∀ b, im b → im' b
  imnew : ∀ b, im' b → im b ∨ Own ρ rows b ∨ w.heap.size ≤ b
  rho : ∀ id, ρ id ≠ .no ∨ id < rows.length → ρ' id = ρ id
  len : rows.length ≤ rows'.length
  own : ∀ b, Own ρ' rows' b → Own ρ rows b ∨ w.heap.size ≤ b

theorem Ext.refl (w : World) (im ρ rows) : Ext w im ρ rows w im ρ rows :=
  ⟨rfl, rfl, rfl, Nat.le_refl _, fun _ _ _ => rfl, fun _ h => h, fun _ h => .inl h, fun _ _ => rfl, Nat.le_refl _, fun _ h => .inl h⟩

theorem Ext.trans {w im ρ rows w' im' ρ' rows' w'' im'' ρ'' rows''} (h : Ext w im ρ rows w' im' ρ' rows') (k : Ext w' im' ρ' rows' w'' im'' ρ'' rows'') : Ext w im ρ rows w'' im'' ρ'' rows'' where
  os := k.os.trans h.os
  tape := k.tape.trans h.tape
  output := k.output.trans h.output
  size := Nat.le_trans h.size k.size
  block := fun b hb ho => (k.block b (Nat.lt_of_lt_of_le hb h.size) (fun ho' => by rcases h.own b ho' with h1 | h1; exact ho h1; omega)).trans (h.block b hb ho)
  imsub := fun b hb => k.imsub b (h.imsub b hb)
  imnew := fun b hb => by
    rcases k.imnew b hb with h1 | h1 | h1
    · exact h.imnew b h1
    · rcases h.own b h1 with h2 | h2
      · exact .inr (.inl h2)
      · exact .inr (.inr h2)
    · exact .inr (.inr (Nat.le_trans h.size h1))
  rho := fun id hid => by
    have h1 := h.rho id hid
    rw [k.rho id (hid.imp (fun hn => by rw [h1]; exact hn) (fun hl => Nat.lt_of_lt_of_le hl h.len)), h1]
  len := Nat.le_trans h.len k.len
  own := fun b hb => by
    rcases k.own b hb with h1 | h1
    · exact h.own b h1
    · exact .inr (Nat.le_trans h.size h1)

section
variable {P : Program} {im im' : Nat → Prop} {w w' : World} {ρ ρ' : Nat → Loc} {rows rows' : List Row}

theorem WF.own_im (h : WF P im w ρ rows) {b : Nat} (hb : Own ρ rows b) : ¬ im b ∧ b < w.heap.size := by
  obtain ⟨id, r, cap, hr, hl, hρ⟩ := hb
  have := h.row id r hr
  cases r with
  | box t v =>
    obtain ⟨g, cap', cur, h1, h2, h3, _⟩ := this
    rw [hρ] at h1; cases h1
    exact ⟨h3, (Array.getElem?_eq_some_iff.1 h2).1⟩
  | vec e l =>
    rcases this with ⟨h1, _⟩ | ⟨g, cap', h1, h3, cur, h2, _⟩
    · rw [hρ] at h1; cases h1
    · rw [hρ] at h1; cases h1
      exact ⟨h3, (Array.getElem?_eq_some_iff.1 h2).1⟩
  | frz e l => simp [Row.live] at hl
  | dead => simp [Row.live] at hl

/-- What stays, stays as it reads. -/
theorem Ext.keeps (hW : WF P im w ρ rows) (h : Ext w im ρ rows w' im' ρ' rows') : ∀ b, im b → im' b ∧ w'.heap[b]? = w.heap[b]? :=
  fun b hb => ⟨h.imsub b hb, h.block b (hW.im b hb) (fun ho => (hW.own_im ho).1 hb)⟩

theorem Ext.repV (hW : WF P im w ρ rows) (h : Ext w im ρ rows w' im' ρ' rows') {v x} (hv : RepV P im w ρ v x) : RepV P im' w' ρ' v x := hv.mono (h.keeps hW) (fun id hn => h.rho id (.inl hn))
theorem Ext.repL (hW : WF P im w ρ rows) (h : Ext w im ρ rows w' im' ρ' rows') {v x} (hv : RepL P im w ρ v x) : RepL P im' w' ρ' v x := hv.mono (h.keeps hW) (fun id hn => h.rho id (.inl hn))
theorem Ext.repT (hW : WF P im w ρ rows) (h : Ext w im ρ rows w' im' ρ' rows') {v x} (hv : RepT P im w ρ v x) : RepT P im' w' ρ' v x := hv.mono (h.keeps hW) (fun id hn => h.rho id (.inl hn))

theorem InBlk.mono {g cap e : Nat} {l : List (List AV)} (hb : ∀ b, im b → im' b ∧ w'.heap[b]? = w.heap[b]?) (hg : w'.heap[g]? = w.heap[g]?) (h : InBlk P im w g cap e l) : InBlk P im' w' g cap e l := by
  obtain ⟨cur, h1, h2, h3, h4, h5⟩ := h
  exact ⟨cur, hg.trans h1, h2, h3, h4, fun i hi => (h5 i hi).mono hb (fun _ hn => absurd rfl hn)⟩

/-- A row whose block is as it was. -/
theorem RowOK.mono {id : Nat} {r : Row} (hb : ∀ b, im b → im' b ∧ w'.heap[b]? = w.heap[b]?) (hρ : ∀ id, ρ id ≠ .no → ρ' id = ρ id)
    (hg : ∀ g cap, r.live = true → ρ id = .blk g cap → w'.heap[g]? = w.heap[g]? ∧ (¬ im g → ¬ im' g)) (h : RowOK P im w ρ id r) : RowOK P im' w' ρ' id r := by
  cases r with
  | box t v =>
    obtain ⟨g, cap, cur, h1, h2, h3, h4⟩ := h
    obtain ⟨a, b⟩ := hg g cap rfl h1
    exact ⟨g, cap, cur, by rw [hρ id (by rw [h1]; simp)]; exact h1, a.trans h2, b h3, h4.mono hb hρ⟩
  | vec e l =>
    rcases h with ⟨h1, h2⟩ | ⟨g, cap, h1, h3, h4⟩
    · exact .inl ⟨by rw [hρ id (by rw [h1]; simp)]; exact h1, h2⟩
    · obtain ⟨a, b⟩ := hg g cap rfl h1
      exact .inr ⟨g, cap, by rw [hρ id (by rw [h1]; simp)]; exact h1, b h3, h4.mono hb a⟩
  | frz e l =>
    rcases h with ⟨h1, h2⟩ | ⟨g, cap, h1, h3, h4⟩
    · exact .inl ⟨by rw [hρ id (by rw [h1]; simp)]; exact h1, h2⟩
    · exact .inr ⟨g, cap, by rw [hρ id (by rw [h1]; simp)]; exact h1, (hb g h3).1, h4.mono hb (hb g h3).2⟩
  | dead => trivial

def upd (ρ : Nat → Loc) (id : Nat) (x : Loc) : Nat → Loc := fun i => if i = id then x else ρ i
@[simp] theorem upd_same (ρ id x) : upd ρ id x id = x := by simp [upd]
theorem upd_other (ρ : Nat → Loc) {id i : Nat} (x) (h : i ≠ id) : upd ρ id x i = ρ i := by simp [upd, h]

/-- A new block, and the row that lies in it. -/
theorem push (hW : WF P im w ρ rows) (cs : Array Value) (t : Nat) (cap : Nat) (r : Row) (hl : r.live = true)
    (hr : RowOK P im (w.alloc (.cells cs t)) (upd ρ rows.length (.blk w.heap.size cap)) rows.length r) :
    WF P im (w.alloc (.cells cs t)) (upd ρ rows.length (.blk w.heap.size cap)) (rows ++ [r]) ∧
    Ext w im ρ rows (w.alloc (.cells cs t)) im (upd ρ rows.length (.blk w.heap.size cap)) (rows ++ [r]) := by
  have hρ : ∀ id, ρ id ≠ .no → upd ρ rows.length (.blk w.heap.size cap) id = ρ id := fun id h => upd_other _ _ (fun e => h (hW.no id (by omega)))
  have hk : ∀ b, im b → im b ∧ (w.alloc (.cells cs t)).heap[b]? = w.heap[b]? := fun b hb => ⟨hb, heap_alloc_old w _ (hW.im b hb)⟩
  have hown : ∀ b, Own (upd ρ rows.length (.blk w.heap.size cap)) (rows ++ [r]) b → Own ρ rows b ∨ w.heap.size ≤ b := by
    rintro b ⟨id, r', c, h1, h2, h3⟩
    by_cases hid : id < rows.length
    · rw [List.getElem?_append_left hid] at h1
      rw [upd_other _ _ (by omega)] at h3
      exact .inl ⟨id, r', c, h1, h2, h3⟩
    · have : id = rows.length := by
        have := (List.getElem?_eq_some_iff.1 h1).1
        simp at this; omega
      subst this
      simp at h3
      exact .inr (by omega)
  constructor
  · refine ⟨fun id r' h => ?_, fun id id' r1 r2 b c c' h1 h2 l1 l2 e1 e2 => ?_, fun id h => ?_, fun b hb => ?_⟩
    · by_cases hid : id < rows.length
      · rw [List.getElem?_append_left hid] at h
        refine RowOK.mono hk hρ (fun g c hl' hg => ⟨heap_alloc_old w _ (hW.own_im ⟨id, r', c, h, hl', hg⟩).2, fun x => x⟩) (hW.row id r' h)
      · have : id = rows.length := by
          have := (List.getElem?_eq_some_iff.1 h).1
          simp at this; omega
        subst this
        simp at h
        subst h
        exact hr
    · by_cases hid : id < rows.length <;> by_cases hid' : id' < rows.length
      · rw [List.getElem?_append_left hid] at h1
        rw [List.getElem?_append_left hid'] at h2
        rw [upd_other _ _ (by omega)] at e1 e2
        exact hW.inj id id' r1 r2 b c c' h1 h2 l1 l2 e1 e2
      · have : id' = rows.length := by have := (List.getElem?_eq_some_iff.1 h2).1; simp at this; omega
        subst this
        rw [List.getElem?_append_left hid] at h1
        rw [upd_other _ _ (by omega)] at e1
        simp at e2
        have := (hW.own_im ⟨id, r1, c, h1, l1, e1⟩).2
        omega
      · have : id = rows.length := by have := (List.getElem?_eq_some_iff.1 h1).1; simp at this; omega
        subst this
        rw [List.getElem?_append_left hid'] at h2
        rw [upd_other _ _ (by omega)] at e2
        simp at e1
        have := (hW.own_im ⟨id', r2, c', h2, l2, e2⟩).2
        omega
      · have := (List.getElem?_eq_some_iff.1 h1).1
        have := (List.getElem?_eq_some_iff.1 h2).1
        simp at *; omega
    · simp at h
      rw [upd_other _ _ (by omega)]
      exact hW.no id (by omega)
    · have := hW.im b hb; simp; omega
  · exact ⟨rfl, rfl, rfl, by simp, fun b hb _ => heap_alloc_old w _ hb, fun _ h => h, fun _ h => .inl h, fun id h => h.elim (hρ id) (fun h => upd_other _ _ (by omega)), by simp, hown⟩

/-- A row is written no more. -/
theorem freeze (hW : WF P im w ρ rows) {id e : Nat} {l : List (List AV)} (h : rows[id]? = some (.vec e l)) :
    ∃ im', WF P im' w ρ (rows.set id (.frz e l)) ∧ Ext w im ρ rows w im' ρ (rows.set id (.frz e l)) := by
  have hlt := (List.getElem?_eq_some_iff.1 h).1
  have hrow := hW.row id _ h
  have hset : ∀ j r, (rows.set id (.frz e l))[j]? = some r → j ≠ id → rows[j]? = some r := fun j r hj hne => by rwa [List.getElem?_set_ne (fun e => hne e.symm)] at hj
  have hid : ∀ r, (rows.set id (.frz e l))[id]? = some r → r = .frz e l := fun r hr => by rw [List.getElem?_set_self hlt] at hr; exact (Option.some.inj hr).symm
  have hown : ∀ b, Own ρ (rows.set id (.frz e l)) b → Own ρ rows b := by
    rintro b ⟨j, r, c, h1, h2, h3⟩
    by_cases hj : j = id
    · subst hj; rw [hid r h1] at h2; simp [Row.live] at h2
    · exact ⟨j, r, c, hset j r h1 hj, h2, h3⟩
  rcases hrow with ⟨h1, h2⟩ | ⟨g, cap, h1, h3, h4⟩
  · refine ⟨im, ⟨fun j r hj => ?_, fun j j' r r' b c c' e1 e2 l1 l2 g1 g2 => ?_, fun j hj => hW.no j (by simpa using hj), hW.im⟩, ⟨rfl, rfl, rfl, Nat.le_refl _, fun _ _ _ => rfl, fun _ h => h, fun _ h => .inl h, fun _ _ => rfl, by simp, fun b hb => .inl (hown b hb)⟩⟩
    · by_cases hj' : j = id
      · subst hj'; rw [hid r hj]; exact .inl ⟨h1, h2⟩
      · exact hW.row j r (hset j r hj hj')
    · by_cases hj : j = id
      · subst hj; rw [hid r e1] at l1; simp [Row.live] at l1
      · by_cases hj' : j' = id
        · subst hj'; rw [hid r' e2] at l2; simp [Row.live] at l2
        · exact hW.inj j j' r r' b c c' (hset j r e1 hj) (hset j' r' e2 hj') l1 l2 g1 g2
  · have hgo : Own ρ rows g := ⟨id, _, cap, h, rfl, h1⟩
    have hk : ∀ b, im b → (im b ∨ b = g) ∧ w.heap[b]? = w.heap[b]? := fun b hb => ⟨.inl hb, rfl⟩
    refine ⟨fun b => im b ∨ b = g, ⟨fun j r hj => ?_, fun j j' r r' b c c' e1 e2 l1 l2 g1 g2 => ?_, fun j hj => hW.no j (by simpa using hj), fun b hb => ?_⟩, ⟨rfl, rfl, rfl, Nat.le_refl _, fun _ _ _ => rfl, fun _ h => .inl h, fun b hb => ?_, fun _ _ => rfl, by simp, fun b hb => .inl (hown b hb)⟩⟩
    · by_cases hj' : j = id
      · subst hj'; rw [hid r hj]
        exact .inr ⟨g, cap, h1, .inr rfl, h4.mono hk rfl⟩
      · refine RowOK.mono hk (fun _ _ => rfl) (fun g' c hl hg' => ⟨rfl, ?_⟩) (hW.row j r (hset j r hj hj'))
        rintro hn (h5 | rfl)
        · exact hn h5
        · exact hj' (hW.inj j id r _ g' c cap (hset j r hj hj') h hl rfl hg' h1)
    · by_cases hj : j = id
      · subst hj; rw [hid r e1] at l1; simp [Row.live] at l1
      · by_cases hj' : j' = id
        · subst hj'; rw [hid r' e2] at l2; simp [Row.live] at l2
        · exact hW.inj j j' r r' b c c' (hset j r e1 hj) (hset j' r' e2 hj') l1 l2 g1 g2
    · rcases hb with hb | rfl
      · exact hW.im b hb
      · exact (hW.own_im hgo).2
    · rcases hb with hb | rfl
      · exact .inl hb
      · exact .inr (.inl hgo)
end
end Go.Sk
set_option linter.unusedVariables false
set_option linter.unusedSimpArgs false
namespace Go.Sk
open Go.RowKit

theorem addA (g o j : Nat) : (⟨g, o, none⟩ : Addr).add j = ⟨g, o + j, none⟩ := by unfold Addr.add; split <;> simp_all
theorem addAA (a : Addr) (c j : Nat) : (a.add c).add j = a.add (c + j) := by
  unfold Addr.add
  by_cases h1 : c = 0 <;> by_cases h2 : j = 0 <;> simp [h1, h2, Nat.add_assoc]
theorem add0 (a : Addr) : a.add 0 = a := by simp [Addr.add]

section
variable {P : Program} {im : Nat → Prop} {w : World} {ρ : Nat → Loc} {rows : List Row}

theorem seg_get (us : List Value) (sz i j : Nat) (u : Value) (h : (seg us sz i)[j]? = some u) : us[i * sz + j]? = some u ∧ j < sz := by
  unfold seg at h
  rw [List.getElem?_take] at h
  split at h
  · rw [List.getElem?_drop] at h; exact ⟨h, by assumption⟩
  · cases h

theorem behind_sound (hW : WF P im w ρ rows) {v : Value} {x : AV} {l : List AV} (hv : RepV P im w ρ v x) (hb : behind rows x = some l) :
    ∃ a us, v = .pointer (some a) ∧ RepL P im w ρ us l ∧ ∀ j u, us[j]? = some u → w.cell? (a.add j) = some u := by
  have inblk : ∀ {id g cap e i c : Nat} {ls : List (List AV)} {l : List AV}, ρ id = .blk g cap → InBlk P im w g cap e ls → (ls[i]?).bind (fun v => skip v c) = some l →
      ∃ a us, Value.pointer (some ⟨g, i * P.cellsOf e + c, none⟩) = .pointer (some a) ∧ RepL P im w ρ us l ∧ ∀ j u, us[j]? = some u → w.cell? (a.add j) = some u := by
    intro id g cap e i c ls l h ⟨cur, h1, h2, h3, h4, h5⟩ hb
    rw [Option.bind_eq_some_iff] at hb
    obtain ⟨y, hy, hs⟩ := hb
    obtain ⟨hi, rfl⟩ := List.getElem?_eq_some_iff.1 hy
    obtain ⟨r1, r2⟩ := (h5 i hi).lift.skip hs
    refine ⟨_, _, rfl, r1, fun j u hu => ?_⟩
    rw [List.getElem?_drop] at hu
    obtain ⟨q, _⟩ := seg_get _ _ _ _ _ hu
    rw [addA, cell_of_row w g _ cur e (0, 0) h1, Nat.add_assoc]
    simpa using q
  cases hv with
  | ptr id g cap c h =>
    simp only [behind] at hb
    split at hb
    · rename_i t bv hr
      obtain ⟨g', cap', cur, h1, h2, h3, h4⟩ := hW.row id _ hr
      rw [h] at h1; cases h1
      obtain ⟨r1, r2⟩ := h4.skip hb
      refine ⟨_, _, rfl, r1, fun j u hu => ?_⟩
      rw [List.getElem?_drop] at hu
      rw [addA, cell_of_row w g _ cur t (0, 0) h2]
      simpa using hu
    · cases hb
  | ptrA id g cap c j h =>
    simp only [behind] at hb
    split at hb
    · rename_i t bv hr
      obtain ⟨g', cap', cur, h1, h2, h3, h4⟩ := hW.row id _ hr
      rw [h] at h1; cases h1
      split at hb
      · rename_i a rest hs
        rw [Option.map_eq_some_iff] at hb
        obtain ⟨y, hy, rfl⟩ := hb
        obtain ⟨r1, r2⟩ := h4.skip hs
        cases hr' : cur.toList.drop c with
        | nil =>
          rw [hr'] at r1
          obtain ⟨hj, _⟩ := List.getElem?_eq_some_iff.1 hy
          have := r1.width
          simp [widths, AV.width] at this
          omega
        | cons z zs =>
          rw [hr'] at r1
          generalize hzz : z :: zs = us at r1 hr'
          cases r1 with
          | cons v x vs xs h1 _ _ => simp [AV.one] at h1
          | arr us' _ vs _ o1 o2 o3 =>
            obtain ⟨hj, rfl⟩ := List.getElem?_eq_some_iff.1 hy
            obtain ⟨hu, hrep⟩ := o2.at_ones o1 j hj
            refine ⟨_, [us'[j]], rfl, .cons _ _ _ _ (o1 _ (by simp)) hrep .nil, fun k u hk => ?_⟩
            cases k with
            | zero =>
              simp at hk; subst hk
              rw [addA, cell_of_row w g _ cur t (0, 0) h2, Nat.add_zero]
              have : (cur.toList.drop c)[j]? = some us'[j] := by rw [hr', List.getElem?_append_left hu]; simp [hu]
              rw [List.getElem?_drop] at this
              simpa using this
            | succ k => simp at hk
      · cases hb
    · cases hb
  | ptrE id g cap e i c h =>
    simp only [behind] at hb
    split at hb
    · rename_i e' ls hr
      split at hb
      · rename_i he; subst he
        rcases hW.row id _ hr with ⟨h1, _⟩ | ⟨g', cap', h1, h3, h4⟩
        · rw [h] at h1; cases h1
        · rw [h] at h1; cases h1
          exact inblk h h4 hb
      · cases hb
    · rename_i e' ls hr
      split at hb
      · rename_i he; subst he
        rcases hW.row id _ hr with ⟨h1, _⟩ | ⟨g', cap', h1, h3, h4⟩
        · rw [h] at h1; cases h1
        · rw [h] at h1; cases h1
          exact inblk h h4 hb
      · cases hb
    · cases hb
  | pz ad us items c hbb hu hr =>
    simp only [behind] at hb
    obtain ⟨r1, r2⟩ := hr.lift.skip hb
    refine ⟨_, _, rfl, r1, fun j u hj => ?_⟩
    rw [List.getElem?_drop] at hj
    rw [addAA]; exact hu _ _ hj
  | _ => simp [behind] at hb

/-- A load. -/
theorem load_sound (hW : WF P im w ρ rows) {v : Value} {x r : AV} {l m : List AV} {t n : Nat} {agg : Bool} {d : TypeDesc} (hv : RepV P im w ρ v x) (hb : behind rows x = some l) (hm : firsts l n = some m)
    (hd : P.underlying t = some d) (hn : P.cellsOf t = n) (hinfo : (P.info? t).isSome) (ha : agg = isAggD d)
    (hr : loadR agg m = some r) :
    ∃ u, (Instr.loadAt t v).run P w = .ok u w ∧ RepV P im w ρ u r := by
  obtain ⟨a, us, rfl, h1, h2⟩ := behind_sound hW hv hb
  obtain ⟨k1, k2⟩ := h1.firsts hm
  have hsz : (sizeOf t).run P w = .ok n w := by
    cases hi : P.info? t with
    | none => simp [hi] at hinfo
    | some i => simp [sizeOf, typeInfo, hi, ← hn, Program.cellsOf]
  have hagg : (isAgg t).run P w = .ok agg w := by
    simp only [isAgg, Sem.run_bind, run_underlying hd, Result.andThen_ok, ha]
    cases d <;> simp [isAggD]
  cases agg with
  | true =>
    simp [loadR] at hr; subst hr
    have hl := run_loadCells_list (P := P) w a (us.take n) (fun j u hu => by
      rw [List.getElem?_take] at hu
      split at hu
      · exact h2 j u hu
      · cases hu)
    have hlen : (us.take n).length = n := by simp; omega
    rw [hlen] at hl
    refine ⟨.agg (us.take n).toArray, ?_, .agg _ _ k1⟩
    simp [Instr.loadAt, Instr.sureAddr, loadVar, hagg, hsz, hl]
  | false =>
    simp only [loadR, Bool.false_eq_true, if_false] at hr
    split at hr
    · rename_i y
      split at hr
      · rename_i h1y
        cases hr
        have hu := k1.len_ones (by simpa using h1y)
        obtain ⟨hu0, hrep⟩ := k1.at_ones (by simpa using h1y) 0 (by simp)
        have hcell := h2 0 (us.take n)[0] (by
          have : (us.take n)[0]? = some (us.take n)[0] := List.getElem?_eq_getElem hu0
          rw [List.getElem?_take] at this
          split at this
          · exact this
          · cases this)
        rw [add0] at hcell
        refine ⟨_, ?_, hrep⟩
        simp [Instr.loadAt, Instr.sureAddr, loadVar, hagg, run_load, hcell]
      · cases hr
    · cases hr

theorem items_sound {v : Value} {x : AV} {l : List AV} (hv : RepV P im w ρ v x) (hl : itemsOf x = some l) : RepL P im w ρ v.cells.toList l := by
  cases hv with
  | agg vs l' h => simp [itemsOf] at hl; subst hl; simpa [Value.cells] using h
  | tup vs l' h => simp [itemsOf] at hl
  | un => simp [itemsOf] at hl
  | int k n => simp [itemsOf] at hl; subst hl; exact .cons _ _ _ _ rfl (.int k n) .nil
  | bool b => simp [itemsOf] at hl; subst hl; exact .cons _ _ _ _ rfl (.bool b) .nil
  | str b => simp [itemsOf] at hl; subst hl; exact .cons _ _ _ _ rfl (.str b) .nil
  | flt b => simp [itemsOf] at hl; subst hl; exact .cons _ _ _ _ rfl (.flt b) .nil
  | nil b => simp [itemsOf] at hl; subst hl; exact .cons _ _ _ _ rfl (.nil b) .nil
  | fz e A cap l us hA hl' hm ha hr => simp [itemsOf] at hl; subst hl; exact .cons _ _ _ _ rfl (.fz e A cap l us hA hl' hm ha hr) .nil
  | sref id g cap n h hn => simp [itemsOf] at hl; subst hl; exact .cons _ _ _ _ rfl (.sref id g cap n h hn) .nil
  | ptr id g cap c h => simp [itemsOf] at hl; subst hl; exact .cons _ _ _ _ rfl (.ptr id g cap c h) .nil
  | ptrA id g cap c j h => simp [itemsOf] at hl; subst hl; exact .cons _ _ _ _ rfl (.ptrA id g cap c j h) .nil
  | ptrE id g cap e i c h => simp [itemsOf] at hl; subst hl; exact .cons _ _ _ _ rfl (.ptrE id g cap e i c h) .nil
  | pz ad us items c hb hu hr => simp [itemsOf] at hl; subst hl; exact .cons _ _ _ _ rfl (.pz ad us items c hb hu hr) .nil
  | nilp => simp [itemsOf] at hl; subst hl; exact .cons _ _ _ _ rfl .nilp .nil

/-- A live row is written in its block. -/
theorem rewrite_row (hW : WF P im w ρ rows) {id g cap : Nat} {r r' : Row} {cur : Array Value} {t : Nat} (hr : rows[id]? = some r) (hl : r.live = true) (hρ : ρ id = .blk g cap)
    (hg : w.heap[g]? = some (.cells cur t (0, 0))) (cs : Array Value) (hl' : r'.live = true)
    (hnew : (∀ {im' w'}, (∀ b, im b → im' b ∧ w'.heap[b]? = w.heap[b]?) → w'.heap[g]? = some (.cells cs t (0, 0)) → ¬ im' g → RowOK P im' w' ρ id r')) :
    WF P im (w.setRow g cs) ρ (rows.set id r') ∧ Ext w im ρ rows (w.setRow g cs) im ρ (rows.set id r') := by
  have hlt := (List.getElem?_eq_some_iff.1 hr).1
  have hgo : Own ρ rows g := ⟨id, r, cap, hr, hl, hρ⟩
  have hng := hW.own_im hgo
  have hset : ∀ j q, (rows.set id r')[j]? = some q → j ≠ id → rows[j]? = some q := fun j q hj hne => by rwa [List.getElem?_set_ne (fun e => hne e.symm)] at hj
  have hid : ∀ q, (rows.set id r')[id]? = some q → q = r' := fun q hq => by rw [List.getElem?_set_self hlt] at hq; exact (Option.some.inj hq).symm
  have hk : ∀ b, im b → im b ∧ (w.setRow g cs).heap[b]? = w.heap[b]? := fun b hb => ⟨hb, setRow_other w g b cs (fun e => hng.1 (e ▸ hb))⟩
  have hsz : (w.setRow g cs).heap.size = w.heap.size := by simp [World.setRow]
  have hlive : ∀ (j : Nat) (q : Row), (rows.set id r')[j]? = some q → q.live = true → ∃ q' : Row, rows[j]? = some q' ∧ q'.live = true := fun j q hj hq => by
    by_cases e : j = id
    · subst e; exact ⟨r, hr, hl⟩
    · exact ⟨q, hset j q hj e, hq⟩
  have hown : ∀ b, Own ρ (rows.set id r') b → Own ρ rows b := by
    rintro b ⟨j, q, c, h1, h2, h3⟩
    obtain ⟨q', h4, h5⟩ := hlive j q h1 h2
    exact ⟨j, q', c, h4, h5, h3⟩
  refine ⟨⟨fun j q hj => ?_, fun j j' q q' b c c' e1 e2 l1 l2 g1 g2 => ?_, fun j hj => hW.no j (by simpa using hj), fun b hb => by rw [hsz]; exact hW.im b hb⟩,
    ⟨rfl, rfl, rfl, Nat.le_of_eq hsz.symm, fun b hb ho => setRow_other w g b cs (fun e => ho (e ▸ hgo)), fun _ h => h, fun _ h => .inl h, fun _ _ => rfl, by simp, fun b hb => .inl (hown b hb)⟩⟩
  · by_cases e : j = id
    · subst e
      rw [hid q hj]
      exact hnew hk (setRow_heap w g cur cs t (0, 0) hg) hng.1
    · refine RowOK.mono hk (fun _ _ => rfl) (fun g' c hlq hg' => ⟨setRow_other w g g' cs ?_, fun x => x⟩) (hW.row j q (hset j q hj e))
      rintro rfl
      exact e (hW.inj j id q r _ c cap (hset j q hj e) hr hlq hl hg' hρ)
  · obtain ⟨q1, a1, a2⟩ := hlive j q e1 l1
    obtain ⟨q2, b1, b2⟩ := hlive j' q' e2 l2
    exact hW.inj j j' q1 q2 b c c' a1 b1 a2 b2 g1 g2

/-- The elements of a frozen row, as a slice. -/
theorem fz_of_blk {ρ : Nat → Loc} {g cap e n : Nat} {ls : List (List AV)} {c : Nat} (h : InBlk P im w g cap e ls) (hi : im g) (hn : n ≤ ls.length) (hc : n ≤ c) : RepV P im w ρ (.slice (some ⟨g, 0, none⟩) n c) (.fz e (ls.take n)) := by
  obtain ⟨cur, h1, h2, h3, h4, h5⟩ := h
  have hl : (ls.take n).length = n := by simp; omega
  have := RepV.fz (P := P) (im := im) (w := w) (ρ := ρ) e (some ⟨g, 0, none⟩) c (ls.take n) (fun i => seg cur.toList (P.cellsOf e) i) rfl (by omega) (by omega) (fun i hi' => by
    refine ⟨_, rfl, hi, ?_, fun j u hu => ?_⟩
    · have hik : i < cap := by omega
      have hmul : (i + 1) * P.cellsOf e ≤ cap * P.cellsOf e := Nat.mul_le_mul_right _ hik
      rw [Nat.add_mul] at hmul
      simp [seg]; omega
    · obtain ⟨q, _⟩ := seg_get _ _ _ _ _ hu
      rw [addA, cell_of_row w g _ cur e (0, 0) h1]
      simpa using q) (fun i hi' => by
    have : (ls.take n)[i] = ls[i]'(by omega) := by simp
    rw [this]; exact h5 i (by omega))
  rwa [hl] at this

theorem thawV_sound (hW : WF P im w ρ rows) {v : Value} {x y : AV} {rows' : List Row} (hv : RepV P im w ρ v x) (ht : thawV rows x = some (y, rows')) :
    ∃ im', WF P im' w ρ rows' ∧ Ext w im ρ rows w im' ρ rows' ∧ RepV P im' w noLoc v y ∧ y.one = true ∧ rows'.length = rows.length := by
  have same : RepV P im w noLoc v x → x.one = true → (y, rows') = (x, rows) → ∃ im', WF P im' w ρ rows' ∧ Ext w im ρ rows w im' ρ rows' ∧ RepV P im' w noLoc v y ∧ y.one = true ∧ rows'.length = rows.length := by
    rintro h0 h1 h; cases h; exact ⟨im, hW, Ext.refl _ _ _ _, h0, h1, rfl⟩
  have sr : ∀ id n, x = .sref id n → ∃ im', WF P im' w ρ rows' ∧ Ext w im ρ rows w im' ρ rows' ∧ RepV P im' w noLoc v y ∧ y.one = true ∧ rows'.length = rows.length := by
    rintro id n rfl
    simp only [thawV] at ht
    split at ht
    · rename_i e l hr
      split at ht
      · rename_i hn
        cases ht
        obtain ⟨im', k1, k2⟩ := freeze hW hr
        have hv' := k2.repV hW hv
        have hrow := k1.row id (.frz e l) (by rw [List.getElem?_set_self (List.getElem?_eq_some_iff.1 hr).1])
        refine ⟨im', k1, k2, ?_, rfl, by simp⟩
        cases hv' with
        | sref _ g cap _ h hnc =>
          rcases hrow with ⟨h1, h2⟩ | ⟨g', cap', h1, h3, h4⟩
          · rw [h] at h1; cases h1
          · rw [h] at h1; cases h1
            exact fz_of_blk h4 h3 hn hnc
      · cases ht
    · rename_i e l hr
      split at ht
      · rename_i hn
        cases ht
        refine ⟨im, hW, Ext.refl _ _ _ _, ?_, rfl, rfl⟩
        have hrow := hW.row id _ hr
        cases hv with
        | sref _ g cap _ h hnc =>
          rcases hrow with ⟨h1, h2⟩ | ⟨g', cap', h1, h3, h4⟩
          · rw [h] at h1; cases h1
          · rw [h] at h1; cases h1
            exact fz_of_blk h4 h3 hn hnc
      · cases ht
    · cases ht
  cases x with
  | sref id n => exact sr id n rfl
  | int k n => exact same (by cases hv; exact .int _ _) rfl (by simpa [thawV] using ht.symm)
  | bool b => exact same (by cases hv; exact .bool _) rfl (by simpa [thawV] using ht.symm)
  | str b => exact same (by cases hv; exact .str _) rfl (by simpa [thawV] using ht.symm)
  | flt b => exact same (by cases hv; exact .flt _) rfl (by simpa [thawV] using ht.symm)
  | nil b => exact same (by cases hv; exact .nil _) rfl (by simpa [thawV] using ht.symm)
  | fz e l => exact same (by cases hv; exact .fz _ _ _ _ _ ‹_› ‹_› ‹_› ‹_› ‹_›) rfl (by simpa [thawV] using ht.symm)
  | nilp => exact same (by cases hv; exact .nilp) rfl (by simpa [thawV] using ht.symm)
  | _ => simp [thawV] at ht

theorem thawL_sound (hW : WF P im w ρ rows) {us : List Value} {l l' : List AV} {rows' : List Row} (hv : RepL P im w ρ us l) (ht : thawL rows l = some (l', rows')) :
    ∃ im', WF P im' w ρ rows' ∧ Ext w im ρ rows w im' ρ rows' ∧ RepL P im' w noLoc us l' ∧ rows'.length = rows.length := by
  induction l generalizing us l' rows im with
  | nil => simp [thawL] at ht; obtain ⟨rfl, rfl⟩ := ht; cases hv; exact ⟨im, hW, Ext.refl _ _ _ _, .nil, rfl⟩
  | cons x xs ih =>
    simp only [thawL, Option.bind_eq_some_iff, Option.map_eq_some_iff] at ht
    obtain ⟨⟨y, r1⟩, h1, ⟨ys, r2⟩, h2, h3⟩ := ht
    cases h3
    cases hv with
    | cons v _ vs _ o h hs =>
      obtain ⟨im1, a1, a2, a3, a4, a5⟩ := thawV_sound hW h h1
      obtain ⟨im2, b1, b2, b3, b4⟩ := ih a1 (a2.repL hW hs) h2
      exact ⟨im2, b1, a2.trans b2, .cons _ _ _ _ a4 (a3.mono (b2.keeps a1) (fun _ hn => absurd rfl hn)) b3, by omega⟩
    | arr us' l' vs _ o h hs => simp [thawV] at h1
end
end Go.Sk
