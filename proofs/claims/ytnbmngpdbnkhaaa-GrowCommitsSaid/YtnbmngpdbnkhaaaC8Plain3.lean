/- What is put into a log twice is put once; a log by a put is right. Conditions: none. -/
import Derived.Test.YtnbmngpdbnkhaaaC8Spec15
import Derived.Test.YtnbmngpdbnkhaaaC8Plain2
set_option linter.unusedVariables false
set_option linter.unusedSimpArgs false
namespace Go.Sk
open Go.Proofs.Try
/-- The term of a row's entry. -/
def tmA (es : List (List AV)) (j : Nat) : Int := (ent66 ((es[j]?).getD [])).f0
theorem tmA_some {es : List (List AV)} {j : Nat} {e : List AV} (h : es[j]? = some e) : tmA es j = (ent66 e).f0 := by unfold tmA; rw [h]; rfl
/-- What a put log is. -/
theorem putN_form {es : List (List AV)} : ∀ {l : List (List AV)} {a : Nat}, a ≤ es.length →
    ∃ k, k ≤ l.length ∧ a + k ≤ es.length ∧ (∀ j, j < k → tmA es (a + j) = tmA l j) ∧
      ((k < l.length ∧ putN es a l = some (es.take (a + k) ++ l.drop k) ∧ (a + k < es.length → tmA es (a + k) ≠ tmA l k)) ∨ (k = l.length ∧ putN es a l = none))
  | [], a, ha => ⟨0, by simp, by simpa using ha, fun j hj => by omega, .inr ⟨rfl, rfl⟩⟩
  | x :: xs, a, ha => by
    rcases he : es[a]? with _ | e
    · have hge : es.length ≤ a := by simpa using he
      refine ⟨0, by simp, by simpa using ha, fun j hj => by omega, .inl ⟨by simp, ?_, fun h => by omega⟩⟩
      simp only [putN, he]; rfl
    · have hlt := (List.getElem?_eq_some_iff.1 he).1
      by_cases h : (ent66 e).f0 = (ent66 x).f0
      · obtain ⟨k, h1, h2, h3, h4⟩ := putN_form (es := es) (l := xs) (a := a + 1) hlt
        have hp : putN es a (x :: xs) = putN es (a + 1) xs := by simp only [putN, he]; rw [if_pos h]
        refine ⟨k + 1, by simp; omega, by omega, fun j hj => ?_, ?_⟩
        · cases j with
          | zero => rw [Nat.add_zero, tmA_some he, tmA_some (es := x :: xs) (j := 0) rfl]; exact h
          | succ j =>
            have := h3 j (by omega)
            rw [show a + (j + 1) = a + 1 + j by omega, this]
            unfold tmA; simp
        · rw [hp]
          rcases h4 with ⟨h4, h5, h6⟩ | ⟨h4, h5⟩
          · refine .inl ⟨by simp; omega, ?_, fun hh => ?_⟩
            · rw [h5, show a + 1 + k = a + (k + 1) by omega]; rfl
            · have := h6 (by omega)
              rw [show a + (k + 1) = a + 1 + k by omega]
              intro e'; apply this; rw [e']; unfold tmA; simp
          · exact .inr ⟨by simp; omega, h5⟩
      · refine ⟨0, by simp, by simpa using ha, fun j hj => by omega, .inl ⟨by simp, ?_, fun hh => ?_⟩⟩
        · simp only [putN, he]; rw [if_neg h]; rfl
        · rw [Nat.add_zero, tmA_some he, tmA_some (es := x :: xs) (j := 0) rfl]; exact h
/-- What is put. -/
theorem putO_form (o : Option (List (List AV))) {l : List (List AV)} {a : Nat} (ha : a ≤ (slL o).length) :
    ∃ k, k ≤ l.length ∧ a + k ≤ (slL o).length ∧ (∀ j, j < k → tmA (slL o) (a + j) = tmA l j) ∧
      ((k < l.length ∧ slL (putO o a l) = (slL o).take (a + k) ++ l.drop k ∧ (a + k < (slL o).length → tmA (slL o) (a + k) ≠ tmA l k)) ∨ (k = l.length ∧ putO o a l = o)) := by
  obtain ⟨k, h1, h2, h3, h4⟩ := putN_form (es := slL o) (l := l) ha
  refine ⟨k, h1, h2, h3, ?_⟩
  rcases h4 with ⟨h4, h5, h6⟩ | ⟨h4, h5⟩
  · exact .inl ⟨h4, by unfold putO; rw [h5]; rfl, h6⟩
  · exact .inr ⟨h4, by unfold putO; rw [h5]⟩
theorem putO_mem {o : Option (List (List AV))} {l : List (List AV)} {a : Nat} (ha : a ≤ (slL o).length) {Q : List AV → Prop} (h1 : ∀ us ∈ slL o, Q us) (h2 : ∀ us ∈ l, Q us) : ∀ us ∈ slL (putO o a l), Q us := by
  obtain ⟨k, _, _, _, h4⟩ := putO_form o (l := l) ha
  intro us hus
  rcases h4 with ⟨h4, h5, _⟩ | ⟨h4, h5⟩
  · rw [h5] at hus
    rcases List.mem_append.1 hus with hus | hus
    · exact h1 us (List.mem_of_mem_take hus)
    · exact h2 us (List.mem_of_mem_drop hus)
  · rw [h5] at hus; exact h1 us hus
theorem putO_most {o : Option (List (List AV))} {l : List (List AV)} {a : Nat} (ha : a ≤ (slL o).length) : (slL (putO o a l)).length ≤ (slL o).length + l.length := by
  obtain ⟨k, _, _, _, h4⟩ := putO_form o (l := l) ha
  rcases h4 with ⟨h4, h5, _⟩ | ⟨h4, h5⟩
  · rw [h5]; simp only [List.length_append, List.length_take, List.length_drop]; omega
  · rw [h5]; omega
/-! ### Rows of entries -/
/-- The last term of some entries behind a term. -/
def lastTm (b : Int) : List (List AV) → Int
  | [] => b
  | e :: es => lastTm (ent66 e).f0 es
theorem rowF_append {t : Int} : ∀ {xs ys : List (List AV)} {b : Int}, rowF t b (xs ++ ys) = (rowF t b xs && rowF t (lastTm b xs) ys)
  | [], ys, b => by simp [rowF, lastTm]
  | x :: xs, ys, b => by simp only [List.cons_append, rowF, lastTm, rowF_append (xs := xs), Bool.and_assoc]
theorem rowF_take {t b : Int} {xs : List (List AV)} (n : Nat) (h : rowF t b xs = true) : rowF t b (xs.take n) = true := by
  rw [← List.take_append_drop n xs, rowF_append, Bool.and_eq_true] at h
  exact h.1
theorem lastTm_take : ∀ {es : List (List AV)} {b : Int} {n : Nat}, n ≤ es.length → lastTm b (es.take n) = if n = 0 then b else tmA es (n - 1)
  | es, b, 0, h => by simp [lastTm]
  | [], b, n + 1, h => by simp at h
  | e :: es, b, n + 1, h => by
    simp only [List.take_succ_cons, lastTm]
    rw [lastTm_take (es := es) (by simpa using h)]
    cases n with
    | zero => rw [if_pos rfl, if_neg (by omega), tmA_some (es := e :: es) (j := 0) rfl]
    | succ n => rw [if_neg (by omega), if_neg (by omega)]; unfold tmA; simp
theorem rowF_ge {t : Int} : ∀ {es : List (List AV)} {b : Int} {j : Nat}, rowF t b es = true → j < es.length → b ≤ tmA es j
  | [], b, j, h, hj => by simp at hj
  | e :: es, b, j, h, hj => by
    simp only [rowF, Bool.and_eq_true, decide_eq_true_eq] at h
    cases j with
    | zero => rw [tmA_some (es := e :: es) (j := 0) rfl]; exact h.1.1.1
    | succ j =>
      have := rowF_ge (es := es) (j := j) h.2 (by simpa using hj)
      have e1 : tmA (e :: es) (j + 1) = tmA es j := by unfold tmA; simp
      rw [e1]; have := h.1.1.1; omega
theorem term_pos {v : V27} {p : Int} {a : Nat} (hp : p - v.f2 = (a : Int)) (ha : a ≤ (slL v.f6).length) : termF v p = if a = 0 then v.f3 else tmA (slL v.f6) (a - 1) := by
  cases a with
  | zero => rw [if_pos rfl]; unfold termF; rw [if_pos (by omega)]
  | succ a =>
    rw [if_neg (by omega)]
    have he : (slL v.f6)[a]? = some (slL v.f6)[a] := List.getElem?_eq_getElem (by omega)
    have := term_next (v := v) (p := p - 1) (a := a) (by omega) he
    rw [show p - 1 + 1 = p by omega] at this
    rw [this, Nat.add_sub_cancel, tmA_some he]
theorem mx1_ge (b : Int) : 1 ≤ mx1 b := by unfold mx1; split <;> omega
/-- A log by a put is a right one. -/
theorem rowF_put {v : V27} {p : Int} {a : Nat} {l : List (List AV)} (hp : p - v.f2 = (a : Int)) (ha : a ≤ (slL v.f6).length) (h : rowF v.f0 (mx1 v.f3) (slL v.f6) = true) (hl : rowF v.f0 (mx1 (termF v p)) l = true) :
    rowF v.f0 (mx1 v.f3) (slL (putO v.f6 a l)) = true := by
  obtain ⟨k, h1, h2, h3, h4⟩ := putO_form v.f6 (l := l) ha
  rcases h4 with ⟨h4, h5, _⟩ | ⟨h4, h5⟩
  · rw [h5, rowF_append, Bool.and_eq_true]
    refine ⟨rowF_take _ h, ?_⟩
    rw [← List.take_append_drop k l, rowF_append, Bool.and_eq_true] at hl
    have e : lastTm (mx1 v.f3) ((slL v.f6).take (a + k)) = lastTm (mx1 (termF v p)) (l.take k) := by
      rw [lastTm_take h2, lastTm_take h1]
      by_cases hk : k = 0
      · subst hk
        rw [if_pos rfl, term_pos hp ha, Nat.add_zero]
        by_cases ha0 : a = 0
        · rw [if_pos (by omega), if_pos ha0]
        · rw [if_neg (by omega), if_neg ha0]
          have := rowF_ge (j := a - 1) h (by omega)
          have := mx1_ge v.f3
          unfold mx1 at *; split <;> omega
      · rw [if_neg (by omega), if_neg hk, show a + k - 1 = a + (k - 1) by omega]
        exact h3 _ (by omega)
    rw [e]; exact hl.2
  · rw [h5]; exact h
/-! ### What is taken twice -/
section
variable {v : V27} {p : Int} {a : Nat} {l : List (List AV)}
theorem hard_put (hh : hardF v = true) (hp : p - v.f2 = (a : Int)) (ha : a ≤ (slL v.f6).length) (hl : rowF v.f0 (mx1 (termF v p)) l = true) : hardF (setLog v (putO v.f6 a l)) = true := by
  unfold hardF at hh ⊢
  rw [Bool.and_eq_true] at hh ⊢
  exact ⟨hh.1, rowF_put hp ha hh.2 hl⟩
end
end Go.Sk
