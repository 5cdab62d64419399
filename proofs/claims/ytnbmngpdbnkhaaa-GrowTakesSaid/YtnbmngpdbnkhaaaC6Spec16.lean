/- What becomes of a log by a message: all cases in one. Conditions: none. -/
import Derived.Test.YtnbmngpdbnkhaaaC6Spec12
import Derived.Test.YtnbmngpdbnkhaaaC6Spec14
set_option linter.unusedVariables false
set_option linter.unusedSimpArgs false
namespace Go.Sk
open Go.Proofs.Try
theorem term_next {v : V27} {p : Int} {a : Nat} {e : List AV} (hp : p - v.f2 = (a : Int)) (he : (slL v.f6)[a]? = some e) : termF v (p + 1) = (ent66 e).f0 := by
  have hlt := (List.getElem?_eq_some_iff.1 he).1
  have hin : inB v (p + 1) = true := by
    simp only [inB, Bool.and_eq_true, decide_eq_true_eq]; omega
  have hpos : posN v (p + 1) = a := by unfold posN; omega
  unfold termF
  rw [if_neg (by omega), if_pos hin]
  unfold entA getE
  rw [if_pos hin, hpos, he]
  rfl
end Go.Sk
set_option linter.unusedVariables false
set_option linter.unusedSimpArgs false
namespace Go.Sk
open Go.Proofs.Try
/-- The term of a row's entry. -/
def tmA (es : List (List AV)) (j : Nat) : Int := (ent66 ((es[j]?).getD [])).f0
theorem tmA_some {es : List (List AV)} {j : Nat} {e : List AV} (h : es[j]? = some e) : tmA es j = (ent66 e).f0 := by unfold tmA; rw [h]; rfl
/-- What a put log is. -/
theorem putN_form {es : List (List AV)} : ∀ {l : List (List AV)} {a : Nat}, a ≤ es.length →
    ∃ k, k ≤ l.length ∧ a + k ≤ es.length ∧ (∀ j, j < k → tmA es (a + j) = tmA l j) ∧
      ((k < l.length ∧ putN es a l = some (es.take (a + k) ++ l.drop k) ∧ (a + k < es.length → tmA es (a + k) ≠ tmA l k)) ∨ (k = l.length ∧ putN es a l = none))
  | [], a, ha => ⟨0, by simp, by simpa using ha, fun j hj => by omega, .inr ⟨rfl, rfl⟩⟩
  | x :: xs, a, ha => by
    rcases he : es[a]? with _ | e
    · have hge : es.length ≤ a := by simpa using he
      refine ⟨0, by simp, by simpa using ha, fun j hj => by omega, .inl ⟨by simp, ?_, fun h => by omega⟩⟩
      simp only [putN, he]; rfl
    · have hlt := (List.getElem?_eq_some_iff.1 he).1
      by_cases h : (ent66 e).f0 = (ent66 x).f0
      · obtain ⟨k, h1, h2, h3, h4⟩ := putN_form (es := es) (l := xs) (a := a + 1) hlt
        have hp : putN es a (x :: xs) = putN es (a + 1) xs := by simp only [putN, he]; rw [if_pos h]
        refine ⟨k + 1, by simp; omega, by omega, fun j hj => ?_, ?_⟩
        · cases j with
          | zero => rw [Nat.add_zero, tmA_some he, tmA_some (es := x :: xs) (j := 0) rfl]; exact h
          | succ j =>
            have := h3 j (by omega)
            rw [show a + (j + 1) = a + 1 + j by omega, this]
            unfold tmA; simp
        · rw [hp]
          rcases h4 with ⟨h4, h5, h6⟩ | ⟨h4, h5⟩
          · refine .inl ⟨by simp; omega, ?_, fun hh => ?_⟩
            · rw [h5, show a + 1 + k = a + (k + 1) by omega]; rfl
            · have := h6 (by omega)
              rw [show a + (k + 1) = a + 1 + k by omega]
              intro e'; apply this; rw [e']; unfold tmA; simp
          · exact .inr ⟨by simp; omega, h5⟩
      · refine ⟨0, by simp, by simpa using ha, fun j hj => by omega, .inl ⟨by simp, ?_, fun hh => ?_⟩⟩
        · simp only [putN, he]; rw [if_neg h]; rfl
        · rw [Nat.add_zero, tmA_some he, tmA_some (es := x :: xs) (j := 0) rfl]; exact h
/-- What is put. -/
theorem putO_form (o : Option (List (List AV))) {l : List (List AV)} {a : Nat} (ha : a ≤ (slL o).length) :
    ∃ k, k ≤ l.length ∧ a + k ≤ (slL o).length ∧ (∀ j, j < k → tmA (slL o) (a + j) = tmA l j) ∧
      ((k < l.length ∧ slL (putO o a l) = (slL o).take (a + k) ++ l.drop k ∧ (a + k < (slL o).length → tmA (slL o) (a + k) ≠ tmA l k)) ∨ (k = l.length ∧ putO o a l = o)) := by
  obtain ⟨k, h1, h2, h3, h4⟩ := putN_form (es := slL o) (l := l) ha
  refine ⟨k, h1, h2, h3, ?_⟩
  rcases h4 with ⟨h4, h5, h6⟩ | ⟨h4, h5⟩
  · exact .inl ⟨h4, by unfold putO; rw [h5]; rfl, h6⟩
  · exact .inr ⟨h4, by unfold putO; rw [h5]⟩
theorem putO_mem {o : Option (List (List AV))} {l : List (List AV)} {a : Nat} (ha : a ≤ (slL o).length) {Q : List AV → Prop} (h1 : ∀ us ∈ slL o, Q us) (h2 : ∀ us ∈ l, Q us) : ∀ us ∈ slL (putO o a l), Q us := by
  obtain ⟨k, _, _, _, h4⟩ := putO_form o (l := l) ha
  intro us hus
  rcases h4 with ⟨h4, h5, _⟩ | ⟨h4, h5⟩
  · rw [h5] at hus
    rcases List.mem_append.1 hus with hus | hus
    · exact h1 us (List.mem_of_mem_take hus)
    · exact h2 us (List.mem_of_mem_drop hus)
  · rw [h5] at hus; exact h1 us hus
theorem putO_most {o : Option (List (List AV))} {l : List (List AV)} {a : Nat} (ha : a ≤ (slL o).length) : (slL (putO o a l)).length ≤ (slL o).length + l.length := by
  obtain ⟨k, _, _, _, h4⟩ := putO_form o (l := l) ha
  rcases h4 with ⟨h4, h5, _⟩ | ⟨h4, h5⟩
  · rw [h5]; simp only [List.length_append, List.length_take, List.length_drop]; omega
  · rw [h5]; omega
/-! ### Rows of entries -/
section
variable {v : V27} {p : Int} {a : Nat} {l : List (List AV)}
theorem breaks_at {c : Int} : ∀ {l : List (List AV)} {p : Int} {k : Nat}, breaksF v c p l = false → k < l.length → p + k + 1 ≤ c → termF v (p + k + 1) = tmA l k
  | [], p, k, h, hk, hc => by simp at hk
  | x :: xs, p, k, h, hk, hc => by
    simp only [breaksF, Bool.or_eq_false_iff] at h
    cases k with
    | zero =>
      rw [tmA_some (es := x :: xs) (j := 0) rfl]
      have := h.1
      simp at this hc
      have := this (by omega)
      simpa using this
    | succ k =>
      have := breaks_at (l := xs) (p := p + 1) (k := k) h.2 (by simpa using hk) (by omega)
      rw [show p + ((k + 1 : Nat) : Int) + 1 = p + 1 + k + 1 by omega, this]
      unfold tmA; simp
end
end Go.Sk
set_option linter.unusedVariables false
set_option linter.unusedSimpArgs false
namespace Go.Sk
open Go.Proofs.Try
/-- Where a message begins, behind what the log has as a snapshot. -/
def cutP (v : V27) (m : V34) : Int := if m.f4 < v.f2 then v.f2 else m.f4
def cutT (v : V27) (m : V34) : Int := if m.f4 < v.f2 then v.f3 else m.f5
def cutL (v : V27) (m : V34) : List (List AV) := if m.f4 < v.f2 then (slL m.f9).drop (v.f2 - m.f4).toNat else slL m.f9
structure TR where
  x : V27
  c : Int
  y : V34
  e : Int
/-- What becomes of a log by a message. -/
def takeR (v : V27) (c : Int) (m : V34) : TR :=
  if hardF v = false then ⟨zero27, 0, zero34, 6⟩
  else if rightF v c m = false then ⟨zero27, 0, zero34, 1⟩
  else if fitsF v (cutP v m) (cutT v m) = false then ⟨v, c, answer false (mxF (mnF (lastI (slL v.f6) v.f2) (cutP v m - 1)) v.f2), 0⟩
  else if breaksF v c (cutP v m) (cutL v m) = true then ⟨zero27, 0, zero34, 13⟩
  else if putOK v (cutP v m) (cutL v m) = false then ⟨zero27, 0, zero34, 1⟩
  else ⟨setLog v (putO v.f6 (cutP v m - v.f2).toNat (cutL v m)), mxF c (mnF m.f6 (cutP v m + ((cutL v m).length : Int))), answer true (cutP v m + ((cutL v m).length : Int)), 0⟩
theorem drop_mn (l : List (List AV)) {d : Int} {n : Nat} (hd : 0 < d) (h : mnF d (l.length : Int) = (n : Int)) : l.drop d.toNat = l.drop n := by
  unfold mnF at h
  split at h
  · have : n = l.length := by omega
    subst this
    rw [List.drop_length, List.drop_eq_nil_of_le (by omega)]
  · congr 1; omega
theorem lastI_eq {v : V27} (hh : hardF v = true) (hl6 : (slL v.f6).length ≤ 2000000) : lastI (slL v.f6) v.f2 = v.f2 + (slL v.f6).length := by
  obtain ⟨b1, b2⟩ := hard_base hh
  unfold lastI
  split
  · omega
  · simp [IntKind.wrap, IntKind.signed, IntKind.bits]; omega
end Go.Sk
