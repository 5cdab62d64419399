/- What becomes of a log by a message: the page's, all cases in one; the same by slices that lie elsewhere. Conditions: none. -/
import Derived.Test.YtnbmngpdbnkhaaaC6Spec22
set_option linter.unusedVariables false
set_option linter.unusedSimpArgs false
namespace Go.Sk
open Go.Proofs.Try
theorem sameS_refl (v : V27) : sameS v v := ⟨rfl, rfl, rfl, rfl, rfl, rfl, rfl⟩
theorem putO_same {o o' : Option (List (List AV))} (h : slL o' = slL o) (a : Nat) (l : List (List AV)) : slL (putO o' a l) = slL (putO o a l) := by
  rw [← pput_sl, ← pput_sl, h]
theorem setLog_same {v w : V27} (h : sameS v w) (a : Nat) (l : List (List AV)) : sameS (setLog v (putO v.f6 a l)) (setLog w (putO w.f6 a l)) := by
  obtain ⟨h0, h1, h2, h3, h4, h5, h6⟩ := h
  exact ⟨h0, h1, h2, h3, h4, h5, putO_same h6 a l⟩
theorem take_same {v w : V27} (h : sameS v w) (c : Int) (m : V34) (o9 o11 o12 : Option (List (List AV))) (h9 : slL o9 = slL m.f9) :
    sameS (takeR v c m).x (takeR w c (reM m o9 o11 o12)).x ∧ (takeR w c (reM m o9 o11 o12)).c = (takeR v c m).c ∧ (takeR w c (reM m o9 o11 o12)).y = (takeR v c m).y ∧ (takeR w c (reM m o9 o11 o12)).e = (takeR v c m).e := by
  have hh := same_hard h
  have hr : rightF w c (reM m o9 o11 o12) = rightF v c m := by
    unfold rightF; rw [h.2.2.2.2.2.2, h.2.2.1, show (reM m o9 o11 o12).f9 = o9 from rfl, h9]; rfl
  have hp : cutP w (reM m o9 o11 o12) = cutP v m := by unfold cutP; rw [h.2.2.1]; rfl
  have ht : cutT w (reM m o9 o11 o12) = cutT v m := by unfold cutT; rw [h.2.2.1, h.2.2.2.1]; rfl
  have hc : cutL w (reM m o9 o11 o12) = cutL v m := by
    unfold cutL; rw [h.2.2.1, show (reM m o9 o11 o12).f9 = o9 from rfl, h9]; rfl
  unfold takeR
  rw [hh, hr, hp, ht, hc, same_fits h, same_breaks h, same_put h, h.2.2.1, h.2.2.2.2.2.2]
  split
  · exact ⟨sameS_refl _, rfl, rfl, rfl⟩
  split
  · exact ⟨sameS_refl _, rfl, rfl, rfl⟩
  split
  · exact ⟨h, rfl, rfl, rfl⟩
  split
  · exact ⟨sameS_refl _, rfl, rfl, rfl⟩
  split
  · exact ⟨sameS_refl _, rfl, rfl, rfl⟩
  · exact ⟨setLog_same h _ _, rfl, rfl, rfl⟩
theorem zero27_ok : zero27.ok := ⟨rfl, rfl, rfl, rfl, ⟨rfl, rfl, rfl, rfl⟩, ⟨by simp [zero27, slL], by simp [zero27, slL]⟩, ⟨by simp [zero27, slL], by simp [zero27, slL]⟩⟩
theorem same_reH (v : V27) (o : Option (List (List AV))) (l : List (List AV)) (a : Nat) : sameS (setLog v (putO v.f6 a l)) (reH v (nz (slL v.f5)) (pputO (slL v.f6) a l)) := ⟨rfl, rfl, rfl, rfl, rfl, slL_nz _, pput_sl _ _ _⟩
theorem reH_ok {v : V27} (hv : v.ok) {a : Nat} {l : List (List AV)} (ha : a ≤ (slL v.f6).length) (h6 : (slL v.f6).length ≤ 1000000) (hl : l.length ≤ 1000000) (hel : ∀ us ∈ l, HasT prog 66 us) : (reH v (nz (slL v.f5)) (pputO (slL v.f6) a l)).ok :=
  ⟨hv.h0, hv.h1, hv.h2, hv.h3, hv.h4, by show _ ∧ _; rw [show slL (reH v (nz (slL v.f5)) (pputO (slL v.f6) a l)).f5 = slL v.f5 from slL_nz _]; exact hv.h5,
    by
      show (∀ us ∈ slL (pputO (slL v.f6) a l), HasT prog 66 us) ∧ (slL (pputO (slL v.f6) a l)).length ≤ maxLen
      rw [pput_sl]
      exact ⟨putO_mem ha hv.h6.1 hel, Nat.le_trans (putO_most ha) (Nat.le_trans (Nat.add_le_add h6 hl) (by decide))⟩⟩
/-- The page's, whatever the message. -/
theorem f36 (v : V27) (hv : v.ok) (c : Int) (m : V34) (hm : m.ok) (hl : lightH v) : ∃ X : V27, sameS (takeR v c m).x X ∧ X.ok ∧ FCall prog 36 [.agg v.l, .int .i64 c, .agg m.l] (takeV X (takeR v c m).c (takeR v c m).y (takeR v c m).e) := by
  have l6 : (slL v.f6).length ≤ 1000000 := Nat.le_trans hl.1 (by decide)
  unfold takeR
  by_cases hh : hardF v = false
  · rw [if_pos hh]; exact ⟨zero27, sameS_refl _, zero27_ok, grow_bad v hv c m hm.o9 hh⟩
  rw [if_neg hh]
  rw [Bool.not_eq_false] at hh
  by_cases hr : rightF v c m = false
  · rw [if_pos hr]; exact ⟨zero27, sameS_refl _, zero27_ok, grow_no v hv c m hm.o9 hh hr⟩
  rw [if_neg hr]
  rw [Bool.not_eq_false] at hr
  obtain ⟨b1, b2⟩ := hard_base hh
  have r := right_facts hr
  have hlast := lastI_eq hh (Nat.le_trans hl.1 (by decide))
  -- what is put, by the page
  have put : ∀ (p : Int) (o : Option (List (List AV))), v.f2 ≤ p → p ≤ 1099511627776 → (∀ us ∈ slL o, HasT prog 66 us) → (slL o).length ≤ 8 →
      ∃ (X : V27) (e : Int), X.ok ∧ FCall prog 79 [.agg v.l, .int .i64 p, slA 66 o] (.tup [.agg X.l, .int .i64 e]) ∧
        ((putOK v p (slL o) = false ∧ e = 1) ∨ (putOK v p (slL o) = true ∧ e = 0 ∧ sameS (setLog v (putO v.f6 (p - v.f2).toNat (slL o))) X)) := by
    intro p o h1 h2 ho hlo
    have hs : seen v p := ⟨b1, b2, by omega, by omega, by omega⟩
    cases hp : putOK v p (slL o) with
    | false => exact ⟨zero27, 1, zero27_ok, pput_no v hv p o ho (by omega) hs hh hp, .inl ⟨rfl, rfl⟩⟩
    | true =>
      have hp' := hp
      simp only [putOK, Bool.and_eq_true, decide_eq_true_eq] at hp'
      have ha : p - v.f2 = ((p - v.f2).toNat : Int) := by omega
      have hae : (p - v.f2).toNat ≤ (slL v.f6).length := by have := hp'.1.2; rw [hlast] at this; omega
      exact ⟨_, 0, reH_ok hv hae l6 (by omega) ho, pput_yes v hv p o ho (by omega) hl hs hh hp _ ha hae, .inr ⟨rfl, rfl, same_reH v none _ _⟩⟩
  by_cases hb : m.f4 < v.f2
  · have e1 : cutP v m = v.f2 := if_pos hb
    have e2 : cutT v m = v.f3 := if_pos hb
    have e3 : cutL v m = (slL m.f9).drop (v.f2 - m.f4).toNat := if_pos hb
    obtain ⟨g0, g1, g2, g3, g4, g5, g6, g7, g8, g9, g10, g11, g12⟩ := m
    cases g9 with
    | none =>
      have e4 : cutL v (V34.mk g0 g1 g2 g3 g4 g5 g6 g7 g8 none g10 g11 g12) = [] := e3.trans (by simp [slL])
      rw [e1, e2, e4, if_neg (by rw [fits_base hh]; simp), if_neg (by simp [breaksF])]
      have hpk : putOK v v.f2 [] = true := by
        unfold putOK rowF
        rw [decide_eq_true (Int.le_refl _), decide_eq_true (by rw [hlast]; omega)]; simp
      rw [if_neg (by rw [hpk]; simp)]
      obtain ⟨X, e, hX, h79, h⟩ := put v.f2 none (Int.le_refl _) (by omega) (by simp [slL]) (by simp [slL])
      rcases h with ⟨h, _⟩ | ⟨_, rfl, hs⟩
      · rw [show slL (none : Option (List (List AV))) = [] from rfl, hpk] at h; cases h
      · refine ⟨X, hs, hX, ?_⟩
        have := grow_N v hv c g0 g1 g2 g3 g4 g5 g6 g7 g8 g10 g11 g12 hm.o9 hl hh hr hb X h79
        simpa using this
    | some l =>
      obtain ⟨n, hn⟩ : ∃ n : Nat, mnF (v.f2 - g4) (l.length : Int) = (n : Int) := by
        refine ⟨(mnF (v.f2 - g4) (l.length : Int)).toNat, ?_⟩
        simp only at hb
        unfold mnF; split <;> omega
      have e4 : cutL v (V34.mk g0 g1 g2 g3 g4 g5 g6 g7 g8 (some l) g10 g11 g12) = l.drop n := e3.trans (drop_mn l (by show 0 < v.f2 - g4; simp only at hb; omega) hn)
      rw [e1, e2, e4, if_neg (by rw [fits_base hh]; simp)]
      obtain ⟨X, e, hX, h79, h⟩ := put v.f2 (some (l.drop n)) (Int.le_refl _) (by omega) (has_drop hm.h9.1) (by simp only [slL_some, List.length_drop]; have := r.2.2.2.2.2.2; simp only [slL_some] at this; omega)
      have hg := grow_B v hv c g0 g1 g2 g3 g4 g5 g6 g7 g8 g10 g11 g12 l hm.o9 hl hh hr hb n hn X e h79
      by_cases hk : breaksF v c v.f2 (l.drop n) = true
      · rw [if_pos hk] at hg ⊢; exact ⟨zero27, sameS_refl _, zero27_ok, hg⟩
      rw [if_neg hk] at hg ⊢
      rcases h with ⟨h, rfl⟩ | ⟨h, rfl, hs⟩
      · rw [if_pos (by decide)] at hg
        rw [if_pos (show putOK v v.f2 (l.drop n) = false from h)]; exact ⟨zero27, sameS_refl _, zero27_ok, hg⟩
      · rw [if_neg (by decide)] at hg
        rw [if_neg (by rw [show slL (some (l.drop n)) = l.drop n from rfl] at h; rw [h]; simp)]
        exact ⟨X, hs, hX, hg⟩
  · have e1 : cutP v m = m.f4 := if_neg hb
    have e2 : cutT v m = m.f5 := if_neg hb
    have e3 : cutL v m = slL m.f9 := if_neg hb
    rw [e1, e2, e3]
    by_cases hf : fitsF v m.f4 m.f5 = false
    · rw [if_pos hf]; exact ⟨twinH v, same_twin v, twinH_ok hv, grow_off v hv c m hm.o9 hl hh hr (by omega) hf⟩
    rw [if_neg hf]
    rw [Bool.not_eq_false] at hf
    obtain ⟨X, e, hX, h79, h⟩ := put m.f4 m.f9 (by omega) (by omega) hm.h9.1 (by omega)
    have hg := grow_A v hv c m hm.o9 hl hh hr (by omega) hf X e h79
    by_cases hk : breaksF v c m.f4 (slL m.f9) = true
    · rw [if_pos hk] at hg ⊢; exact ⟨zero27, sameS_refl _, zero27_ok, hg⟩
    rw [if_neg hk] at hg ⊢
    rcases h with ⟨h, rfl⟩ | ⟨h, rfl, hs⟩
    · rw [if_pos (by decide)] at hg
      rw [if_pos h]; exact ⟨zero27, sameS_refl _, zero27_ok, hg⟩
    · rw [if_neg (by decide)] at hg
      rw [if_neg (by rw [h]; simp)]
      exact ⟨X, hs, hX, hg⟩
end Go.Sk
