/- Items by cells; rows; what a state of a call and a world have to do with one another. Conditions: none (a library text). -/
import Derived.Test.YtnbmngpdbnkhaaaC7Av
set_option linter.unusedVariables false
namespace Go.Sk
open Go.RowKit

section items
variable {P : Program} {im : Nat → Prop} {w : World} {ρ : Nat → Loc}

theorem RepV.one_cell {v : Value} {x : AV} (h : RepV P im w ρ v x) (h1 : x.one = true) : v.oneCell' = true := by
  cases h <;> simp_all [AV.one, Value.oneCell']

theorem RepL.one_cells0 {us : List Value} {l : List AV} (h : RepL P im w ρ us l) (h1 : ∀ x ∈ l, x.one = true) : ∀ u ∈ us, u.oneCell' = true := by
  induction l generalizing us with
  | nil => cases h; simp
  | cons y ys ih =>
    cases h with
    | cons v y vs' ys h1' h' hs' =>
      intro u hu
      rcases List.mem_cons.1 hu with rfl | hu
      · exact h'.one_cell h1'
      · exact ih hs' (fun z hz => h1 z (List.mem_cons_of_mem _ hz)) u hu
    | arr us' l' vs' ys h1' h' hs' => have := h1 (.arr l') (by simp); simp [AV.one] at this

theorem RepL.one_cells {us : List Value} {l : List AV} (h : RepL P im w ρ us l) : ∀ u ∈ us, u.oneCell' = true := by
  induction l generalizing us with
  | nil => cases h; simp
  | cons x xs ih =>
    cases h with
    | cons v x vs xs h1 h hs =>
      intro u hu
      rcases List.mem_cons.1 hu with rfl | hu
      · exact h.one_cell h1
      · exact ih hs u hu
    | arr us l vs xs h1 h hs =>
      intro u hu
      rcases List.mem_append.1 hu with hu | hu
      · exact h.one_cells0 h1 u hu
      · exact ih hs u hu

/-- A list of single cells. -/
theorem RepL.len_ones {us : List Value} {l : List AV} (h : RepL P im w ρ us l) (h1 : ∀ x ∈ l, x.one = true) : us.length = l.length := by
  induction l generalizing us with
  | nil => cases h; rfl
  | cons y ys ih =>
    cases h with
    | cons v y vs' ys h1' h' hs' => simp [ih hs' (fun z hz => h1 z (List.mem_cons_of_mem _ hz))]
    | arr us' l' vs' ys h1' h' hs' => have := h1 (.arr l') (by simp); simp [AV.one] at this

theorem RepL.at_ones {us : List Value} {l : List AV} (h : RepL P im w ρ us l) (h1 : ∀ x ∈ l, x.one = true) : ∀ j (hj : j < l.length), ∃ hu : j < us.length, RepV P im w ρ us[j] l[j] := by
  induction l generalizing us with
  | nil => intro j hj; simp at hj
  | cons y ys ih =>
    cases h with
    | cons v y vs' ys h1' h' hs' =>
      intro j hj
      cases j with
      | zero => exact ⟨by simp, h'⟩
      | succ j =>
        obtain ⟨a, b⟩ := ih hs' (fun z hz => h1 z (List.mem_cons_of_mem _ hz)) j (by simpa using hj)
        exact ⟨by simpa using a, by simpa using b⟩
    | arr us' l' vs' ys h1' h' hs' => have := h1 (.arr l') (by simp); simp [AV.one] at this

theorem RepL.set_ones {us : List Value} {l : List AV} (h : RepL P im w ρ us l) (h1 : ∀ x ∈ l, x.one = true) (j : Nat) {v : Value} {x : AV} (hx : x.one = true) (hv : RepV P im w ρ v x) : RepL P im w ρ (us.set j v) (l.set j x) := by
  induction l generalizing us j with
  | nil => cases h; exact .nil
  | cons y ys ih =>
    cases h with
    | cons u y vs' ys h1' h' hs' =>
      cases j with
      | zero => exact .cons _ _ _ _ hx hv hs'
      | succ j => exact .cons _ _ _ _ h1' h' (ih hs' (fun z hz => h1 z (List.mem_cons_of_mem _ hz)) j)
    | arr us' l' vs' ys h1' h' hs' => have := h1 (.arr l') (by simp); simp [AV.one] at this

theorem width_one {x : AV} (h : x.one = true) : x.width = 1 := by cases x <;> simp_all [AV.one, AV.width]

theorem RepL.width {us : List Value} {l : List AV} (h : RepL P im w ρ us l) : us.length = widths l := by
  induction l generalizing us with
  | nil => cases h; rfl
  | cons y ys ih =>
    cases h with
    | cons v y vs' ys h1' h' hs' => simp [widths, ih hs', width_one h1']; omega
    | arr us' l' vs' ys h1' h' hs' => simp [widths, ih hs', AV.width, h'.len_ones h1']

theorem RepL.append {us vs : List Value} {l m : List AV} (h : RepL P im w ρ us l) (k : RepL P im w ρ vs m) : RepL P im w ρ (us ++ vs) (l ++ m) := by
  induction l generalizing us with
  | nil => cases h; exact k
  | cons y ys ih =>
    cases h with
    | cons v y vs' ys h1' h' hs' => exact .cons _ _ _ _ h1' h' (ih hs')
    | arr us' l' vs' ys h1' h' hs' => rw [List.append_assoc]; exact .arr _ _ _ _ h1' h' (ih hs')

/-- The items behind the first c cells. -/
def skip : List AV → Nat → Option (List AV)
  | l, 0 => some l
  | [], _ + 1 => none
  | x :: xs, c + 1 => if x.width ≤ c + 1 then skip xs (c + 1 - x.width) else none

/-- The items that the first n cells are. -/
def firsts : List AV → Nat → Option (List AV)
  | _, 0 => some []
  | [], _ + 1 => none
  | x :: xs, n + 1 => if x.width ≤ n + 1 then (firsts xs (n + 1 - x.width)).map (x :: ·) else none

/-- Items put in the place of those from cell c on. -/
def putAt : List AV → Nat → List AV → Option (List AV)
  | l, 0, new => (skip l (widths new)).map (new ++ ·)
  | [], _ + 1, _ => none
  | x :: xs, c + 1, new => if x.width ≤ c + 1 then (putAt xs (c + 1 - x.width) new).map (x :: ·) else none

theorem RepL.cons_inv {us : List Value} {x : AV} {xs : List AV} (h : RepL P im w ρ us (x :: xs)) : ∃ a b, us = a ++ b ∧ a.length = x.width ∧ RepL P im w ρ a [x] ∧ RepL P im w ρ b xs := by
  cases h with
  | cons v _ vs _ h1 h hs => exact ⟨[v], vs, rfl, by simp [width_one h1], .cons _ _ _ _ h1 h .nil, hs⟩
  | arr a l vs _ h1 h hs => exact ⟨a, vs, rfl, by simp [AV.width, h.len_ones h1], by simpa using RepL.arr a l [] [] h1 h .nil, hs⟩

theorem RepL.cons_mk {a b : List Value} {x : AV} {xs : List AV} (h : RepL P im w ρ a [x]) (k : RepL P im w ρ b xs) : RepL P im w ρ (a ++ b) (x :: xs) := h.append k

theorem RepL.skip {us : List Value} {l l' : List AV} {c : Nat} (h : RepL P im w ρ us l) (hs : skip l c = some l') : RepL P im w ρ (us.drop c) l' ∧ c ≤ us.length := by
  induction l generalizing us c with
  | nil => cases c <;> simp [Sk.skip] at hs; subst hs; exact ⟨by simpa using h, Nat.zero_le _⟩
  | cons x xs ih =>
    cases c with
    | zero => simp [Sk.skip] at hs; subst hs; exact ⟨by simpa using h, Nat.zero_le _⟩
    | succ c =>
      simp only [Sk.skip] at hs
      split at hs
      · rename_i hw
        obtain ⟨a, b, rfl, ha, _, hb⟩ := h.cons_inv
        obtain ⟨h1, h2⟩ := ih hb hs
        refine ⟨?_, by simp; omega⟩
        rw [List.drop_append, List.drop_eq_nil_of_le (by omega), List.nil_append, ha]
        exact h1
      · cases hs

theorem RepL.firsts {us : List Value} {l l' : List AV} {n : Nat} (h : RepL P im w ρ us l) (hs : firsts l n = some l') : RepL P im w ρ (us.take n) l' ∧ n ≤ us.length := by
  induction l generalizing us n l' with
  | nil => cases n <;> simp [Sk.firsts] at hs; subst hs; exact ⟨.nil, Nat.zero_le _⟩
  | cons x xs ih =>
    cases n with
    | zero => simp [Sk.firsts] at hs; subst hs; exact ⟨.nil, Nat.zero_le _⟩
    | succ n =>
      simp only [Sk.firsts] at hs
      split at hs
      · rename_i hw
        obtain ⟨a, b, rfl, ha, hx, hb⟩ := h.cons_inv
        rw [Option.map_eq_some_iff] at hs
        obtain ⟨m, hm, rfl⟩ := hs
        obtain ⟨h1, h2⟩ := ih hb hm
        refine ⟨?_, by simp; omega⟩
        rw [List.take_append, List.take_of_length_le (by omega), ha]
        exact hx.cons_mk h1
      · cases hs

theorem putAt_zero (l new : List AV) : putAt l 0 new = (skip l (widths new)).map (new ++ ·) := by cases l <;> rfl

theorem RepL.putAt {us vs : List Value} {l l' new : List AV} {c : Nat} (h : RepL P im w ρ us l) (hn : RepL P im w ρ vs new) (hs : putAt l c new = some l') :
    RepL P im w ρ (us.take c ++ vs ++ us.drop (c + vs.length)) l' ∧ c + vs.length ≤ us.length := by
  cases c with
  | zero =>
    rw [putAt_zero, Option.map_eq_some_iff] at hs
    obtain ⟨m, hm, rfl⟩ := hs
    rw [← hn.width] at hm
    obtain ⟨h1, h2⟩ := h.skip hm
    exact ⟨by simpa using hn.append h1, by omega⟩
  | succ c =>
    induction l generalizing us c l' with
    | nil => simp [Sk.putAt] at hs
    | cons x xs ih =>
      simp only [Sk.putAt] at hs
      split at hs
      · rename_i hw
        obtain ⟨a, b, rfl, ha, hx, hb⟩ := h.cons_inv
        rw [Option.map_eq_some_iff] at hs
        obtain ⟨m, hm, rfl⟩ := hs
        have key : RepL P im w ρ (b.take (c + 1 - x.width) ++ vs ++ b.drop (c + 1 - x.width + vs.length)) m ∧ c + 1 - x.width + vs.length ≤ b.length := by
          generalize c + 1 - x.width = c' at hm ⊢
          cases c' with
          | zero =>
            rw [putAt_zero, Option.map_eq_some_iff] at hm
            obtain ⟨m', hm', rfl⟩ := hm
            rw [← hn.width] at hm'
            obtain ⟨h1, h2⟩ := hb.skip hm'
            exact ⟨by simpa using hn.append h1, by omega⟩
          | succ c' => exact ih hb c' hm
        obtain ⟨h1, h2⟩ := key
        refine ⟨?_, by simp; omega⟩
        have e1 : (a ++ b).take (c + 1) = a ++ b.take (c + 1 - x.width) := by rw [List.take_append, List.take_of_length_le (by omega), ha]
        have e2 : (a ++ b).drop (c + 1 + vs.length) = b.drop (c + 1 - x.width + vs.length) := by
          rw [List.drop_append, List.drop_eq_nil_of_le (by omega), List.nil_append, ha]
          congr 1; omega
        rw [e1, e2, List.append_assoc, List.append_assoc]
        rw [List.append_assoc] at h1
        exact hx.cons_mk h1
      · cases hs
end items
end Go.Sk
