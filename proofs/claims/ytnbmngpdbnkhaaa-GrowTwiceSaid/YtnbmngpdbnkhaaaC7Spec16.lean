/- What becomes of a log by a message: all cases in one. Conditions: none. -/
import Derived.Test.YtnbmngpdbnkhaaaC7Spec12
import Derived.Test.YtnbmngpdbnkhaaaC7Spec15
set_option linter.unusedVariables false
set_option linter.unusedSimpArgs false
namespace Go.Sk
open Go.Proofs.Try
theorem putN_some {es l' : List (List AV)} : ∀ {l : List (List AV)} {a : Nat}, a ≤ es.length → putN es a l = some l' → l'.length = a + l.length
  | [], a, ha, h => by simp [putN] at h
  | x :: xs, a, ha, h => by
    unfold putN at h
    split at h
    · rename_i e he
      have hlt := (List.getElem?_eq_some_iff.1 he).1
      split at h
      · have := putN_some (l := xs) (a := a + 1) hlt h
        simp only [List.length_cons]; omega
      · cases h
        simp only [List.length_append, List.length_take, List.length_cons, Nat.min_eq_left ha]
    · cases h
      simp only [List.length_append, List.length_take, List.length_cons, Nat.min_eq_left ha]
theorem putN_none {es : List (List AV)} : ∀ {l : List (List AV)} {a : Nat}, a ≤ es.length → putN es a l = none → a + l.length ≤ es.length
  | [], a, ha, h => by simpa using ha
  | x :: xs, a, ha, h => by
    unfold putN at h
    split at h
    · rename_i e he
      have hlt := (List.getElem?_eq_some_iff.1 he).1
      split at h
      · have := putN_none (l := xs) (a := a + 1) hlt h
        simp only [List.length_cons]; omega
      · cases h
    · cases h
theorem putO_len {o : Option (List (List AV))} {a : Nat} {l : List (List AV)} (ha : a ≤ (slL o).length) : a + l.length ≤ (slL (putO o a l)).length := by
  unfold putO
  split
  · rename_i h; exact putN_none ha h
  · rename_i l' h
    have := putN_some ha h
    simp only [slL_some]; omega
theorem term_next {v : V27} {p : Int} {a : Nat} {e : List AV} (hp : p - v.f2 = (a : Int)) (he : (slL v.f6)[a]? = some e) : termF v (p + 1) = (ent66 e).f0 := by
  have hlt := (List.getElem?_eq_some_iff.1 he).1
  have hin : inB v (p + 1) = true := by
    simp only [inB, Bool.and_eq_true, decide_eq_true_eq]; omega
  have hpos : posN v (p + 1) = a := by unfold posN; omega
  unfold termF
  rw [if_neg (by omega), if_pos hin]
  unfold entA getE
  rw [if_pos hin, hpos, he]
  rfl
/-- Where a log changes, nothing is committed. -/
theorem commit_le {v : V27} {c : Int} {l' : List (List AV)} (hc : c ≤ v.f2 + (slL v.f6).length) : ∀ {l : List (List AV)} {a : Nat} {p : Int}, p - v.f2 = (a : Int) → a ≤ (slL v.f6).length → breaksF v c p l = false → putN (slL v.f6) a l = some l' → c ≤ p + l.length
  | [], a, p, hp, ha, hb, h => by simp [putN] at h
  | x :: xs, a, p, hp, ha, hb, h => by
    unfold putN at h
    simp only [breaksF, Bool.or_eq_false_iff] at hb
    obtain ⟨hb1, hb2⟩ := hb
    split at h
    · rename_i e he
      have hlt := (List.getElem?_eq_some_iff.1 he).1
      rw [term_next hp he] at hb1
      split at h
      · have := commit_le hc (l := xs) (a := a + 1) (p := p + 1) (by omega) hlt hb2 h
        simp only [List.length_cons]; omega
      · rename_i hne
        have h1 : ¬ (p + 1 ≤ c) := by
          intro hle
          simp [hle, hne] at hb1
        simp only [List.length_cons]; omega
    · rename_i he
      have hge : (slL v.f6).length ≤ a := by simpa using he
      simp only [List.length_cons]; omega
/-- What was committed is there still. -/
theorem commit_kept {v : V27} {c p : Int} {a : Nat} {l : List (List AV)} (hp : p - v.f2 = (a : Int)) (ha : a ≤ (slL v.f6).length) (hc : c ≤ v.f2 + (slL v.f6).length) (hb : breaksF v c p l = false) : c ≤ v.f2 + (slL (putO v.f6 a l)).length := by
  unfold putO
  split
  · exact hc
  · rename_i l' h
    have h1 := commit_le hc hp ha hb h
    have h2 := putN_some ha h
    simp only [slL_some]; omega
end Go.Sk
set_option linter.unusedVariables false
set_option linter.unusedSimpArgs false
namespace Go.Sk
open Go.Proofs.Try
/-- The term of a row's entry. -/
def tmA (es : List (List AV)) (j : Nat) : Int := (ent66 ((es[j]?).getD [])).f0
theorem tmA_some {es : List (List AV)} {j : Nat} {e : List AV} (h : es[j]? = some e) : tmA es j = (ent66 e).f0 := by unfold tmA; rw [h]; rfl
/-- What a put log is. -/
theorem putN_form {es : List (List AV)} : ∀ {l : List (List AV)} {a : Nat}, a ≤ es.length →
    ∃ k, k ≤ l.length ∧ a + k ≤ es.length ∧ (∀ j, j < k → tmA es (a + j) = tmA l j) ∧
      ((k < l.length ∧ putN es a l = some (es.take (a + k) ++ l.drop k) ∧ (a + k < es.length → tmA es (a + k) ≠ tmA l k)) ∨ (k = l.length ∧ putN es a l = none))
  | [], a, ha => ⟨0, by simp, by simpa using ha, fun j hj => by omega, .inr ⟨rfl, rfl⟩⟩
  | x :: xs, a, ha => by
    rcases he : es[a]? with _ | e
    · have hge : es.length ≤ a := by simpa using he
      refine ⟨0, by simp, by simpa using ha, fun j hj => by omega, .inl ⟨by simp, ?_, fun h => by omega⟩⟩
      simp only [putN, he]; rfl
    · have hlt := (List.getElem?_eq_some_iff.1 he).1
      by_cases h : (ent66 e).f0 = (ent66 x).f0
      · obtain ⟨k, h1, h2, h3, h4⟩ := putN_form (es := es) (l := xs) (a := a + 1) hlt
        have hp : putN es a (x :: xs) = putN es (a + 1) xs := by simp only [putN, he]; rw [if_pos h]
        refine ⟨k + 1, by simp; omega, by omega, fun j hj => ?_, ?_⟩
        · cases j with
          | zero => rw [Nat.add_zero, tmA_some he, tmA_some (es := x :: xs) (j := 0) rfl]; exact h
          | succ j =>
            have := h3 j (by omega)
            rw [show a + (j + 1) = a + 1 + j by omega, this]
            unfold tmA; simp
        · rw [hp]
          rcases h4 with ⟨h4, h5, h6⟩ | ⟨h4, h5⟩
          · refine .inl ⟨by simp; omega, ?_, fun hh => ?_⟩
            · rw [h5, show a + 1 + k = a + (k + 1) by omega]; rfl
            · have := h6 (by omega)
              rw [show a + (k + 1) = a + 1 + k by omega]
              intro e'; apply this; rw [e']; unfold tmA; simp
          · exact .inr ⟨by simp; omega, h5⟩
      · refine ⟨0, by simp, by simpa using ha, fun j hj => by omega, .inl ⟨by simp, ?_, fun hh => ?_⟩⟩
        · simp only [putN, he]; rw [if_neg h]; rfl
        · rw [Nat.add_zero, tmA_some he, tmA_some (es := x :: xs) (j := 0) rfl]; exact h
theorem putN_fix {es : List (List AV)} : ∀ {l : List (List AV)} {a : Nat}, (∀ j, j < l.length → a + j < es.length ∧ tmA es (a + j) = tmA l j) → putN es a l = none
  | [], a, h => rfl
  | x :: xs, a, h => by
    obtain ⟨h1, h2⟩ := h 0 (by simp)
    rw [Nat.add_zero] at h1 h2
    have he : es[a]? = some es[a] := List.getElem?_eq_getElem h1
    rw [tmA_some he, tmA_some (es := x :: xs) (j := 0) rfl] at h2
    simp only [putN, he]
    rw [if_pos h2]
    refine putN_fix fun j hj => ?_
    obtain ⟨g1, g2⟩ := h (j + 1) (by simp; omega)
    refine ⟨by omega, ?_⟩
    rw [show a + 1 + j = a + (j + 1) by omega, g2]
    unfold tmA; simp
/-- What is put. -/
theorem putO_form (o : Option (List (List AV))) {l : List (List AV)} {a : Nat} (ha : a ≤ (slL o).length) :
    ∃ k, k ≤ l.length ∧ a + k ≤ (slL o).length ∧ (∀ j, j < k → tmA (slL o) (a + j) = tmA l j) ∧
      ((k < l.length ∧ slL (putO o a l) = (slL o).take (a + k) ++ l.drop k ∧ (a + k < (slL o).length → tmA (slL o) (a + k) ≠ tmA l k)) ∨ (k = l.length ∧ putO o a l = o)) := by
  obtain ⟨k, h1, h2, h3, h4⟩ := putN_form (es := slL o) (l := l) ha
  refine ⟨k, h1, h2, h3, ?_⟩
  rcases h4 with ⟨h4, h5, h6⟩ | ⟨h4, h5⟩
  · exact .inl ⟨h4, by unfold putO; rw [h5]; rfl, h6⟩
  · exact .inr ⟨h4, by unfold putO; rw [h5]⟩
theorem tmA_app {xs ys : List (List AV)} {j : Nat} : tmA (xs ++ ys) (xs.length + j) = tmA ys j := by
  unfold tmA; rw [List.getElem?_append_right (by omega)]; simp
theorem tmA_lo {xs ys : List (List AV)} {j : Nat} (h : j < xs.length) : tmA (xs ++ ys) j = tmA xs j := by
  unfold tmA; rw [List.getElem?_append_left h]
theorem tmA_take {es : List (List AV)} {j n : Nat} (h : j < n) : tmA (es.take n) j = tmA es j := by
  unfold tmA; rw [List.getElem?_take, if_pos h]
theorem tmA_drop {es : List (List AV)} {j n : Nat} : tmA (es.drop n) j = tmA es (n + j) := by
  unfold tmA; rw [List.getElem?_drop]
/-- All that is put is there, by its terms. -/
theorem putO_terms (o : Option (List (List AV))) {l : List (List AV)} {a : Nat} (ha : a ≤ (slL o).length) :
    ∀ j, j < l.length → a + j < (slL (putO o a l)).length ∧ tmA (slL (putO o a l)) (a + j) = tmA l j := by
  obtain ⟨k, h1, h2, h3, h4⟩ := putO_form o (l := l) ha
  intro j hj
  rcases h4 with ⟨h4, h5, _⟩ | ⟨h4, h5⟩
  · rw [h5]
    have hlen : ((slL o).take (a + k)).length = a + k := by rw [List.length_take]; omega
    refine ⟨by simp; omega, ?_⟩
    rcases Nat.lt_or_ge j k with hjk | hjk
    · rw [tmA_lo (by omega), tmA_take (by omega), h3 j hjk]
    · have : a + j = ((slL o).take (a + k)).length + (j - k) := by omega
      rw [this, tmA_app, tmA_drop]; congr 1; omega
  · rw [h5]
    exact ⟨by omega, h3 j (by omega)⟩
/-- What stands ahead stays. -/
theorem putO_lo (o : Option (List (List AV))) {l : List (List AV)} {a : Nat} (ha : a ≤ (slL o).length) : ∀ j, j < a → (slL (putO o a l))[j]? = (slL o)[j]? := by
  obtain ⟨k, h1, h2, h3, h4⟩ := putO_form o (l := l) ha
  intro j hj
  rcases h4 with ⟨h4, h5, _⟩ | ⟨h4, h5⟩
  · rw [h5, List.getElem?_append_left (by rw [List.length_take]; omega), List.getElem?_take, if_pos (by omega)]
  · rw [h5]
/-- Put again: it stays. -/
theorem putO_again (o : Option (List (List AV))) {l : List (List AV)} {a : Nat} (ha : a ≤ (slL o).length) : putO (putO o a l) a l = putO o a l := by
  have h := putN_fix (putO_terms o (l := l) ha)
  unfold putO at h ⊢
  rw [h]
theorem putO_mem {o : Option (List (List AV))} {l : List (List AV)} {a : Nat} (ha : a ≤ (slL o).length) {Q : List AV → Prop} (h1 : ∀ us ∈ slL o, Q us) (h2 : ∀ us ∈ l, Q us) : ∀ us ∈ slL (putO o a l), Q us := by
  obtain ⟨k, _, _, _, h4⟩ := putO_form o (l := l) ha
  intro us hus
  rcases h4 with ⟨h4, h5, _⟩ | ⟨h4, h5⟩
  · rw [h5] at hus
    rcases List.mem_append.1 hus with hus | hus
    · exact h1 us (List.mem_of_mem_take hus)
    · exact h2 us (List.mem_of_mem_drop hus)
  · rw [h5] at hus; exact h1 us hus
theorem putO_most {o : Option (List (List AV))} {l : List (List AV)} {a : Nat} (ha : a ≤ (slL o).length) : (slL (putO o a l)).length ≤ (slL o).length + l.length := by
  obtain ⟨k, _, _, _, h4⟩ := putO_form o (l := l) ha
  rcases h4 with ⟨h4, h5, _⟩ | ⟨h4, h5⟩
  · rw [h5]; simp only [List.length_append, List.length_take, List.length_drop]; omega
  · rw [h5]; omega
/-! ### Rows of entries -/
/-- The last term of some entries behind a term. -/
def lastTm (b : Int) : List (List AV) → Int
  | [] => b
  | e :: es => lastTm (ent66 e).f0 es
theorem rowF_append {t : Int} : ∀ {xs ys : List (List AV)} {b : Int}, rowF t b (xs ++ ys) = (rowF t b xs && rowF t (lastTm b xs) ys)
  | [], ys, b => by simp [rowF, lastTm]
  | x :: xs, ys, b => by simp only [List.cons_append, rowF, lastTm, rowF_append (xs := xs), Bool.and_assoc]
theorem rowF_take {t b : Int} {xs : List (List AV)} (n : Nat) (h : rowF t b xs = true) : rowF t b (xs.take n) = true := by
  rw [← List.take_append_drop n xs, rowF_append, Bool.and_eq_true] at h
  exact h.1
theorem lastTm_take : ∀ {es : List (List AV)} {b : Int} {n : Nat}, n ≤ es.length → lastTm b (es.take n) = if n = 0 then b else tmA es (n - 1)
  | es, b, 0, h => by simp [lastTm]
  | [], b, n + 1, h => by simp at h
  | e :: es, b, n + 1, h => by
    simp only [List.take_succ_cons, lastTm]
    rw [lastTm_take (es := es) (by simpa using h)]
    cases n with
    | zero => rw [if_pos rfl, if_neg (by omega), tmA_some (es := e :: es) (j := 0) rfl]
    | succ n => rw [if_neg (by omega), if_neg (by omega)]; unfold tmA; simp
theorem rowF_ge {t : Int} : ∀ {es : List (List AV)} {b : Int} {j : Nat}, rowF t b es = true → j < es.length → b ≤ tmA es j
  | [], b, j, h, hj => by simp at hj
  | e :: es, b, j, h, hj => by
    simp only [rowF, Bool.and_eq_true, decide_eq_true_eq] at h
    cases j with
    | zero => rw [tmA_some (es := e :: es) (j := 0) rfl]; exact h.1.1.1
    | succ j =>
      have := rowF_ge (es := es) (j := j) h.2 (by simpa using hj)
      have e1 : tmA (e :: es) (j + 1) = tmA es j := by unfold tmA; simp
      rw [e1]; have := h.1.1.1; omega
theorem term_pos {v : V27} {p : Int} {a : Nat} (hp : p - v.f2 = (a : Int)) (ha : a ≤ (slL v.f6).length) : termF v p = if a = 0 then v.f3 else tmA (slL v.f6) (a - 1) := by
  cases a with
  | zero => rw [if_pos rfl]; unfold termF; rw [if_pos (by omega)]
  | succ a =>
    rw [if_neg (by omega)]
    have he : (slL v.f6)[a]? = some (slL v.f6)[a] := List.getElem?_eq_getElem (by omega)
    have := term_next (v := v) (p := p - 1) (a := a) (by omega) he
    rw [show p - 1 + 1 = p by omega] at this
    rw [this, Nat.add_sub_cancel, tmA_some he]
theorem mx1_ge (b : Int) : 1 ≤ mx1 b := by unfold mx1; split <;> omega
/-- A log by a put is a right one. -/
theorem rowF_put {v : V27} {p : Int} {a : Nat} {l : List (List AV)} (hp : p - v.f2 = (a : Int)) (ha : a ≤ (slL v.f6).length) (h : rowF v.f0 (mx1 v.f3) (slL v.f6) = true) (hl : rowF v.f0 (mx1 (termF v p)) l = true) :
    rowF v.f0 (mx1 v.f3) (slL (putO v.f6 a l)) = true := by
  obtain ⟨k, h1, h2, h3, h4⟩ := putO_form v.f6 (l := l) ha
  rcases h4 with ⟨h4, h5, _⟩ | ⟨h4, h5⟩
  · rw [h5, rowF_append, Bool.and_eq_true]
    refine ⟨rowF_take _ h, ?_⟩
    rw [← List.take_append_drop k l, rowF_append, Bool.and_eq_true] at hl
    have e : lastTm (mx1 v.f3) ((slL v.f6).take (a + k)) = lastTm (mx1 (termF v p)) (l.take k) := by
      rw [lastTm_take h2, lastTm_take h1]
      by_cases hk : k = 0
      · subst hk
        rw [if_pos rfl, term_pos hp ha, Nat.add_zero]
        by_cases ha0 : a = 0
        · rw [if_pos (by omega), if_pos ha0]
        · rw [if_neg (by omega), if_neg ha0]
          have := rowF_ge (j := a - 1) h (by omega)
          have := mx1_ge v.f3
          unfold mx1 at *; split <;> omega
      · rw [if_neg (by omega), if_neg hk, show a + k - 1 = a + (k - 1) by omega]
        exact h3 _ (by omega)
    rw [e]; exact hl.2
  · rw [h5]; exact h
/-! ### What is taken twice -/
section
variable {v : V27} {p : Int} {a : Nat} {l : List (List AV)}
theorem term_put (hp : p - v.f2 = (a : Int)) (ha : a ≤ (slL v.f6).length) : termF (setLog v (putO v.f6 a l)) p = termF v p := by
  have hlen := putO_len (l := l) ha
  rw [term_pos hp ha, term_pos (v := setLog v (putO v.f6 a l)) (p := p) (a := a) hp (by show a ≤ (slL (putO v.f6 a l)).length; omega)]
  by_cases h0 : a = 0
  · rw [if_pos h0, if_pos h0]; rfl
  · rw [if_neg h0, if_neg h0]
    show tmA (slL (putO v.f6 a l)) (a - 1) = _
    unfold tmA
    rw [putO_lo v.f6 ha (a - 1) (by omega)]
theorem breaks_none {c : Int} : ∀ {l : List (List AV)} {p : Int} {a : Nat}, p - v.f2 = (a : Int) → (∀ j, j < l.length → a + j < (slL v.f6).length ∧ tmA (slL v.f6) (a + j) = tmA l j) → breaksF v c p l = false
  | [], p, a, hp, h => rfl
  | x :: xs, p, a, hp, h => by
    obtain ⟨h1, h2⟩ := h 0 (by simp)
    rw [Nat.add_zero] at h1 h2
    have he : (slL v.f6)[a]? = some (slL v.f6)[a] := List.getElem?_eq_getElem h1
    simp only [breaksF]
    rw [term_next hp he]
    rw [tmA_some he, tmA_some (es := x :: xs) (j := 0) rfl] at h2
    rw [h2, bne_self_eq_false, Bool.and_false, Bool.false_or]
    refine breaks_none (a := a + 1) (by omega) fun j hj => ?_
    obtain ⟨g1, g2⟩ := h (j + 1) (by simp; omega)
    refine ⟨by omega, ?_⟩
    rw [show a + 1 + j = a + (j + 1) by omega, g2]
    unfold tmA; simp
theorem breaks_put {c : Int} (hp : p - v.f2 = (a : Int)) (ha : a ≤ (slL v.f6).length) : breaksF (setLog v (putO v.f6 a l)) c p l = false :=
  breaks_none (v := setLog v (putO v.f6 a l)) (a := a) hp (putO_terms v.f6 ha)
theorem breaks_at {c : Int} : ∀ {l : List (List AV)} {p : Int} {k : Nat}, breaksF v c p l = false → k < l.length → p + k + 1 ≤ c → termF v (p + k + 1) = tmA l k
  | [], p, k, h, hk, hc => by simp at hk
  | x :: xs, p, k, h, hk, hc => by
    simp only [breaksF, Bool.or_eq_false_iff] at h
    cases k with
    | zero =>
      rw [tmA_some (es := x :: xs) (j := 0) rfl]
      have := h.1
      simp at this hc
      have := this (by omega)
      simpa using this
    | succ k =>
      have := breaks_at (l := xs) (p := p + 1) (k := k) h.2 (by simpa using hk) (by omega)
      rw [show p + ((k + 1 : Nat) : Int) + 1 = p + 1 + k + 1 by omega, this]
      unfold tmA; simp
/-- What is committed stays. -/
theorem commit_same {c : Int} (hp : p - v.f2 = (a : Int)) (ha : a ≤ (slL v.f6).length) (hc : c ≤ v.f2 + (slL v.f6).length) (hb : breaksF v c p l = false) : ∀ j : Nat, v.f2 + j + 1 ≤ c → (slL (putO v.f6 a l))[j]? = (slL v.f6)[j]? := by
  obtain ⟨k, h1, h2, h3, h4⟩ := putO_form v.f6 (l := l) ha
  intro j hj
  rcases h4 with ⟨h4, h5, h6⟩ | ⟨h4, h5⟩
  · have hck : c ≤ v.f2 + a + k := by
      rcases Nat.lt_or_ge (a + k) (slL v.f6).length with hlt | hge
      · by_cases hle : p + k + 1 ≤ c
        · exfalso
          have := breaks_at hb h4 hle
          have e1 := term_next (v := v) (p := p + k) (a := a + k) (by omega) (List.getElem?_eq_getElem hlt)
          rw [this] at e1
          apply h6 hlt
          rw [e1, tmA_some (List.getElem?_eq_getElem hlt)]
        · omega
      · omega
    rw [h5, List.getElem?_append_left (by rw [List.length_take]; omega), List.getElem?_take, if_pos (by omega)]
  · rw [h5]
theorem hard_put (hh : hardF v = true) (hp : p - v.f2 = (a : Int)) (ha : a ≤ (slL v.f6).length) (hl : rowF v.f0 (mx1 (termF v p)) l = true) : hardF (setLog v (putO v.f6 a l)) = true := by
  unfold hardF at hh ⊢
  rw [Bool.and_eq_true] at hh ⊢
  exact ⟨hh.1, rowF_put hp ha hh.2 hl⟩
end
end Go.Sk
set_option linter.unusedVariables false
set_option linter.unusedSimpArgs false
namespace Go.Sk
open Go.Proofs.Try
/-- Where a message begins, behind what the log has as a snapshot. -/
def cutP (v : V27) (m : V34) : Int := if m.f4 < v.f2 then v.f2 else m.f4
def cutT (v : V27) (m : V34) : Int := if m.f4 < v.f2 then v.f3 else m.f5
def cutL (v : V27) (m : V34) : List (List AV) := if m.f4 < v.f2 then (slL m.f9).drop (v.f2 - m.f4).toNat else slL m.f9
structure TR where
  x : V27
  c : Int
  y : V34
  e : Int
def TR.av (r : TR) : AV := takeV r.x r.c r.y r.e
/-- What becomes of a log by a message. -/
def takeR (v : V27) (c : Int) (m : V34) : TR :=
  if hardF v = false then ⟨zero27, 0, zero34, 6⟩
  else if rightF v c m = false then ⟨zero27, 0, zero34, 1⟩
  else if fitsF v (cutP v m) (cutT v m) = false then ⟨v, c, answer false (mxF (mnF (lastI (slL v.f6) v.f2) (cutP v m - 1)) v.f2), 0⟩
  else if breaksF v c (cutP v m) (cutL v m) = true then ⟨zero27, 0, zero34, 13⟩
  else if putOK v (cutP v m) (cutL v m) = false then ⟨zero27, 0, zero34, 1⟩
  else ⟨setLog v (putO v.f6 (cutP v m - v.f2).toNat (cutL v m)), mxF c (mnF m.f6 (cutP v m + ((cutL v m).length : Int))), answer true (cutP v m + ((cutL v m).length : Int)), 0⟩
theorem drop_mn (l : List (List AV)) {d : Int} {n : Nat} (hd : 0 < d) (h : mnF d (l.length : Int) = (n : Int)) : l.drop d.toNat = l.drop n := by
  unfold mnF at h
  split at h
  · have : n = l.length := by omega
    subst this
    rw [List.drop_length, List.drop_eq_nil_of_le (by omega)]
  · congr 1; omega
theorem f35 (v : V27) (hv : v.ok) (c : Int) (m : V34) (hm : m.ok) (hl5 : (slL v.f5).length ≤ 1000000) (hl6 : (slL v.f6).length ≤ 1000000) : FCall prog 35 [.agg v.l, .int .i64 c, .agg m.l] (takeR v c m).av := by
  unfold takeR
  by_cases hh : hardF v = false
  · rw [if_pos hh]; exact take_bad v hv c m hm hh
  rw [if_neg hh]
  rw [Bool.not_eq_false] at hh
  by_cases hr : rightF v c m = false
  · rw [if_pos hr]; exact take_no v hv c m hm hh hr
  rw [if_neg hr]
  rw [Bool.not_eq_false] at hr
  by_cases hb : m.f4 < v.f2
  · have e1 : cutP v m = v.f2 := if_pos hb
    have e2 : cutT v m = v.f3 := if_pos hb
    have e3 : cutL v m = (slL m.f9).drop (v.f2 - m.f4).toNat := if_pos hb
    have ez : (v.f2 - v.f2).toNat = 0 := by omega
    obtain ⟨g0, g1, g2, g3, g4, g5, g6, g7, g8, g9, g10, g11, g12⟩ := m
    cases g9 with
    | none =>
      have e4 : cutL v (V34.mk g0 g1 g2 g3 g4 g5 g6 g7 g8 none g10 g11 g12) = [] := e3.trans (by simp [slL])
      rw [e1, e2, e4, ez, if_neg (by rw [fits_base hh]; simp)]
      have r := right_facts hr
      rw [if_neg (by simp [breaksF]), if_neg]
      · have hp : putO v.f6 0 [] = v.f6 := rfl
        have hv' : setLog v v.f6 = v := rfl
        rw [hp, hv']
        have := takeN_yes v hv c g0 g1 g2 g3 g4 g5 g6 g7 g8 g10 g11 g12 hm hl5 hl6 hh hr hb
        simpa [TR.av] using this
      · unfold putOK rowF
        rw [decide_eq_true (Int.le_refl _), decide_eq_true (by omega)]; simp
    | some l =>
      obtain ⟨n, hn⟩ : ∃ n : Nat, mnF (v.f2 - g4) (l.length : Int) = (n : Int) := by
        refine ⟨(mnF (v.f2 - g4) (l.length : Int)).toNat, ?_⟩
        simp only at hb
        unfold mnF; split <;> omega
      have e4 : cutL v (V34.mk g0 g1 g2 g3 g4 g5 g6 g7 g8 (some l) g10 g11 g12) = l.drop n := e3.trans (drop_mn l (by show 0 < v.f2 - g4; simp only at hb; omega) hn)
      rw [e1, e2, e4, ez, if_neg (by rw [fits_base hh]; simp)]
      by_cases hk : breaksF v c v.f2 (l.drop n) = true
      · rw [if_pos hk]; exact takeB_breaks v hv c g0 g1 g2 g3 g4 g5 g6 g7 g8 g10 g11 g12 l hm hl5 hl6 hh hr hb n hn hk
      rw [if_neg hk]
      rw [Bool.not_eq_true] at hk
      by_cases hp : putOK v v.f2 (l.drop n) = false
      · rw [if_pos hp]; exact takeB_no v hv c g0 g1 g2 g3 g4 g5 g6 g7 g8 g10 g11 g12 l hm hl5 hl6 hh hr hb n hn hk hp
      rw [if_neg hp]
      rw [Bool.not_eq_false] at hp
      exact takeB_yes v hv c g0 g1 g2 g3 g4 g5 g6 g7 g8 g10 g11 g12 l hm hl5 hl6 hh hr hb n hn hk hp
  · have e1 : cutP v m = m.f4 := if_neg hb
    have e2 : cutT v m = m.f5 := if_neg hb
    have e3 : cutL v m = slL m.f9 := if_neg hb
    rw [e1, e2, e3]
    by_cases hf : fitsF v m.f4 m.f5 = false
    · rw [if_pos hf]; exact takeA_off v hv c m hm hl5 hl6 hh hr (by omega) hf
    rw [if_neg hf]
    rw [Bool.not_eq_false] at hf
    by_cases hk : breaksF v c m.f4 (slL m.f9) = true
    · rw [if_pos hk]; exact takeA_breaks v hv c m hm hl5 hl6 hh hr (by omega) hf hk
    rw [if_neg hk]
    rw [Bool.not_eq_true] at hk
    by_cases hp : putOK v m.f4 (slL m.f9) = false
    · rw [if_pos hp]; exact takeA_no v hv c m hm hl5 hl6 hh hr (by omega) hf hk hp
    rw [if_neg hp]
    rw [Bool.not_eq_false] at hp
    exact takeA_yes v hv c m hm hl5 hl6 hh hr (by omega) hf hk hp
/-- What is taken, as it comes out. -/
inductive Took (v : V27) (c : Int) (m : V34) : Prop
  | bad (e : Int) (he : e ≠ 0) (h : takeR v c m = ⟨zero27, 0, zero34, e⟩)
  | off (i : Int) (hh : hardF v = true) (hr : rightF v c m = true) (h : takeR v c m = ⟨v, c, answer false i, 0⟩)
  | yes (p : Int) (a : Nat) (l : List (List AV)) (hh : hardF v = true) (hr : rightF v c m = true) (hp : p - v.f2 = (a : Int)) (ha : a ≤ (slL v.f6).length)
      (hcp : p = cutP v m) (hcl : l = cutL v m) (hf : fitsF v p (cutT v m) = true) (hb : breaksF v c p l = false) (hk : putOK v p l = true)
      (h : takeR v c m = ⟨setLog v (putO v.f6 a l), mxF c (mnF m.f6 (p + (l.length : Int))), answer true (p + (l.length : Int)), 0⟩)
theorem took (v : V27) (c : Int) (m : V34) (hl6 : (slL v.f6).length ≤ 1000000) : Took v c m := by
  by_cases hh : hardF v = false
  · exact .bad 6 (by decide) (by unfold takeR; rw [if_pos hh])
  have hh' := eq_true_of_ne_false hh
  by_cases hr : rightF v c m = false
  · exact .bad 1 (by decide) (by unfold takeR; rw [if_neg hh, if_pos hr])
  have hr' := eq_true_of_ne_false hr
  by_cases hf : fitsF v (cutP v m) (cutT v m) = false
  · exact .off _ hh' hr' (by unfold takeR; rw [if_neg hh, if_neg hr, if_pos hf])
  have hf' := eq_true_of_ne_false hf
  by_cases hk : breaksF v c (cutP v m) (cutL v m) = true
  · exact .bad 13 (by decide) (by unfold takeR; rw [if_neg hh, if_neg hr, if_neg hf, if_pos hk])
  have hk' := eq_false_of_ne_true hk
  by_cases hp : putOK v (cutP v m) (cutL v m) = false
  · exact .bad 1 (by decide) (by unfold takeR; rw [if_neg hh, if_neg hr, if_neg hf, if_neg hk, if_pos hp])
  have hp' := eq_true_of_ne_false hp
  have h := hp'
  simp only [putOK, Bool.and_eq_true, decide_eq_true_eq] at h
  obtain ⟨⟨h1, h2⟩, h3⟩ := h
  obtain ⟨b1, b2⟩ := hard_base hh'
  have h2' : cutP v m ≤ v.f2 + (slL v.f6).length := by
    unfold lastI at h2
    split at h2
    · omega
    · simp [IntKind.wrap, IntKind.signed, IntKind.bits] at h2; omega
  exact .yes (cutP v m) (cutP v m - v.f2).toNat (cutL v m) hh' hr' (by omega) (by omega) rfl rfl hf' hk' hp' (by unfold takeR; rw [if_neg hh, if_neg hr, if_neg hf, if_neg hk, if_neg hp])
theorem lastI_eq {v : V27} (hh : hardF v = true) (hl6 : (slL v.f6).length ≤ 2000000) : lastI (slL v.f6) v.f2 = v.f2 + (slL v.f6).length := by
  obtain ⟨b1, b2⟩ := hard_base hh
  unfold lastI
  split
  · omega
  · simp [IntKind.wrap, IntKind.signed, IntKind.bits]; omega
end Go.Sk
