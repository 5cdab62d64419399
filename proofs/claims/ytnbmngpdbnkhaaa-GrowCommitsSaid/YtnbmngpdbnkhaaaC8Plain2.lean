/- What is put into a log: how long it is, and what of it is committed. Conditions: none. -/
import Derived.Test.YtnbmngpdbnkhaaaC8Spec12
set_option linter.unusedVariables false
set_option linter.unusedSimpArgs false
namespace Go.Sk
open Go.Proofs.Try
theorem putN_some {es l' : List (List AV)} : ∀ {l : List (List AV)} {a : Nat}, a ≤ es.length → putN es a l = some l' → l'.length = a + l.length
  | [], a, ha, h => by simp [putN] at h
  | x :: xs, a, ha, h => by
    unfold putN at h
    split at h
    · rename_i e he
      have hlt := (List.getElem?_eq_some_iff.1 he).1
      split at h
      · have := putN_some (l := xs) (a := a + 1) hlt h
        simp only [List.length_cons]; omega
      · cases h
        simp only [List.length_append, List.length_take, List.length_cons, Nat.min_eq_left ha]
    · cases h
      simp only [List.length_append, List.length_take, List.length_cons, Nat.min_eq_left ha]
theorem putN_none {es : List (List AV)} : ∀ {l : List (List AV)} {a : Nat}, a ≤ es.length → putN es a l = none → a + l.length ≤ es.length
  | [], a, ha, h => by simpa using ha
  | x :: xs, a, ha, h => by
    unfold putN at h
    split at h
    · rename_i e he
      have hlt := (List.getElem?_eq_some_iff.1 he).1
      split at h
      · have := putN_none (l := xs) (a := a + 1) hlt h
        simp only [List.length_cons]; omega
      · cases h
    · cases h
theorem putO_len {o : Option (List (List AV))} {a : Nat} {l : List (List AV)} (ha : a ≤ (slL o).length) : a + l.length ≤ (slL (putO o a l)).length := by
  unfold putO
  split
  · rename_i h; exact putN_none ha h
  · rename_i l' h
    have := putN_some ha h
    simp only [slL_some]; omega
theorem term_next {v : V27} {p : Int} {a : Nat} {e : List AV} (hp : p - v.f2 = (a : Int)) (he : (slL v.f6)[a]? = some e) : termF v (p + 1) = (ent66 e).f0 := by
  have hlt := (List.getElem?_eq_some_iff.1 he).1
  have hin : inB v (p + 1) = true := by
    simp only [inB, Bool.and_eq_true, decide_eq_true_eq]; omega
  have hpos : posN v (p + 1) = a := by unfold posN; omega
  unfold termF
  rw [if_neg (by omega), if_pos hin]
  unfold entA getE
  rw [if_pos hin, hpos, he]
  rfl
/-- Where a log changes, nothing is committed. -/
theorem commit_le {v : V27} {c : Int} {l' : List (List AV)} (hc : c ≤ v.f2 + (slL v.f6).length) : ∀ {l : List (List AV)} {a : Nat} {p : Int}, p - v.f2 = (a : Int) → a ≤ (slL v.f6).length → breaksF v c p l = false → putN (slL v.f6) a l = some l' → c ≤ p + l.length
  | [], a, p, hp, ha, hb, h => by simp [putN] at h
  | x :: xs, a, p, hp, ha, hb, h => by
    unfold putN at h
    simp only [breaksF, Bool.or_eq_false_iff] at hb
    obtain ⟨hb1, hb2⟩ := hb
    split at h
    · rename_i e he
      have hlt := (List.getElem?_eq_some_iff.1 he).1
      rw [term_next hp he] at hb1
      split at h
      · have := commit_le hc (l := xs) (a := a + 1) (p := p + 1) (by omega) hlt hb2 h
        simp only [List.length_cons]; omega
      · rename_i hne
        have h1 : ¬ (p + 1 ≤ c) := by
          intro hle
          simp [hle, hne] at hb1
        simp only [List.length_cons]; omega
    · rename_i he
      have hge : (slL v.f6).length ≤ a := by simpa using he
      simp only [List.length_cons]; omega
/-- What was committed is there still. -/
theorem commit_kept {v : V27} {c p : Int} {a : Nat} {l : List (List AV)} (hp : p - v.f2 = (a : Int)) (ha : a ≤ (slL v.f6).length) (hc : c ≤ v.f2 + (slL v.f6).length) (hb : breaksF v c p l = false) : c ≤ v.f2 + (slL (putO v.f6 a l)).length := by
  unfold putO
  split
  · exact hc
  · rename_i l' h
    have h1 := commit_le hc hp ha hb h
    have h2 := putN_some ha h
    simp only [slL_some]; omega
end Go.Sk
