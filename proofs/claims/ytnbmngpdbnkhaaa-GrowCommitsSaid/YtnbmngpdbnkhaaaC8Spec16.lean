/- What becomes of a log by a message: all cases in one. Conditions: none. -/
import Derived.Test.YtnbmngpdbnkhaaaC8Plain3
set_option linter.unusedVariables false
set_option linter.unusedSimpArgs false
namespace Go.Sk
open Go.Proofs.Try
/-- Where a message begins, behind what the log has as a snapshot. -/
def cutP (v : V27) (m : V34) : Int := if m.f4 < v.f2 then v.f2 else m.f4
def cutT (v : V27) (m : V34) : Int := if m.f4 < v.f2 then v.f3 else m.f5
def cutL (v : V27) (m : V34) : List (List AV) := if m.f4 < v.f2 then (slL m.f9).drop (v.f2 - m.f4).toNat else slL m.f9
structure TR where
  x : V27
  c : Int
  y : V34
  e : Int
def TR.av (r : TR) : AV := takeV r.x r.c r.y r.e
/-- What becomes of a log by a message. -/
def takeR (v : V27) (c : Int) (m : V34) : TR :=
  if hardF v = false then ⟨zero27, 0, zero34, 6⟩
  else if rightF v c m = false then ⟨zero27, 0, zero34, 1⟩
  else if fitsF v (cutP v m) (cutT v m) = false then ⟨v, c, answer false (mxF (mnF (lastI (slL v.f6) v.f2) (cutP v m - 1)) v.f2), 0⟩
  else if breaksF v c (cutP v m) (cutL v m) = true then ⟨zero27, 0, zero34, 13⟩
  else if putOK v (cutP v m) (cutL v m) = false then ⟨zero27, 0, zero34, 1⟩
  else ⟨setLog v (putO v.f6 (cutP v m - v.f2).toNat (cutL v m)), mxF c (mnF m.f6 (cutP v m + ((cutL v m).length : Int))), answer true (cutP v m + ((cutL v m).length : Int)), 0⟩
theorem drop_mn (l : List (List AV)) {d : Int} {n : Nat} (hd : 0 < d) (h : mnF d (l.length : Int) = (n : Int)) : l.drop d.toNat = l.drop n := by
  unfold mnF at h
  split at h
  · have : n = l.length := by omega
    subst this
    rw [List.drop_length, List.drop_eq_nil_of_le (by omega)]
  · congr 1; omega
theorem f35 (v : V27) (hv : v.ok) (c : Int) (m : V34) (hm : m.ok) (hl5 : (slL v.f5).length ≤ 1000000) (hl6 : (slL v.f6).length ≤ 1000000) : FCall prog 35 [.agg v.l, .int .i64 c, .agg m.l] (takeR v c m).av := by
  unfold takeR
  by_cases hh : hardF v = false
  · rw [if_pos hh]; exact take_bad v hv c m hm hh
  rw [if_neg hh]
  rw [Bool.not_eq_false] at hh
  by_cases hr : rightF v c m = false
  · rw [if_pos hr]; exact take_no v hv c m hm hh hr
  rw [if_neg hr]
  rw [Bool.not_eq_false] at hr
  by_cases hb : m.f4 < v.f2
  · have e1 : cutP v m = v.f2 := if_pos hb
    have e2 : cutT v m = v.f3 := if_pos hb
    have e3 : cutL v m = (slL m.f9).drop (v.f2 - m.f4).toNat := if_pos hb
    have ez : (v.f2 - v.f2).toNat = 0 := by omega
    obtain ⟨g0, g1, g2, g3, g4, g5, g6, g7, g8, g9, g10, g11, g12⟩ := m
    cases g9 with
    | none =>
      have e4 : cutL v (V34.mk g0 g1 g2 g3 g4 g5 g6 g7 g8 none g10 g11 g12) = [] := e3.trans (by simp [slL])
      rw [e1, e2, e4, ez, if_neg (by rw [fits_base hh]; simp)]
      have r := right_facts hr
      rw [if_neg (by simp [breaksF]), if_neg]
      · have hp : putO v.f6 0 [] = v.f6 := rfl
        have hv' : setLog v v.f6 = v := rfl
        rw [hp, hv']
        have := takeN_yes v hv c g0 g1 g2 g3 g4 g5 g6 g7 g8 g10 g11 g12 hm hl5 hl6 hh hr hb
        simpa [TR.av] using this
      · unfold putOK rowF
        rw [decide_eq_true (Int.le_refl _), decide_eq_true (by omega)]; simp
    | some l =>
      obtain ⟨n, hn⟩ : ∃ n : Nat, mnF (v.f2 - g4) (l.length : Int) = (n : Int) := by
        refine ⟨(mnF (v.f2 - g4) (l.length : Int)).toNat, ?_⟩
        simp only at hb
        unfold mnF; split <;> omega
      have e4 : cutL v (V34.mk g0 g1 g2 g3 g4 g5 g6 g7 g8 (some l) g10 g11 g12) = l.drop n := e3.trans (drop_mn l (by show 0 < v.f2 - g4; simp only at hb; omega) hn)
      rw [e1, e2, e4, ez, if_neg (by rw [fits_base hh]; simp)]
      by_cases hk : breaksF v c v.f2 (l.drop n) = true
      · rw [if_pos hk]; exact takeB_breaks v hv c g0 g1 g2 g3 g4 g5 g6 g7 g8 g10 g11 g12 l hm hl5 hl6 hh hr hb n hn hk
      rw [if_neg hk]
      rw [Bool.not_eq_true] at hk
      by_cases hp : putOK v v.f2 (l.drop n) = false
      · rw [if_pos hp]; exact takeB_no v hv c g0 g1 g2 g3 g4 g5 g6 g7 g8 g10 g11 g12 l hm hl5 hl6 hh hr hb n hn hk hp
      rw [if_neg hp]
      rw [Bool.not_eq_false] at hp
      exact takeB_yes v hv c g0 g1 g2 g3 g4 g5 g6 g7 g8 g10 g11 g12 l hm hl5 hl6 hh hr hb n hn hk hp
  · have e1 : cutP v m = m.f4 := if_neg hb
    have e2 : cutT v m = m.f5 := if_neg hb
    have e3 : cutL v m = slL m.f9 := if_neg hb
    rw [e1, e2, e3]
    by_cases hf : fitsF v m.f4 m.f5 = false
    · rw [if_pos hf]; exact takeA_off v hv c m hm hl5 hl6 hh hr (by omega) hf
    rw [if_neg hf]
    rw [Bool.not_eq_false] at hf
    by_cases hk : breaksF v c m.f4 (slL m.f9) = true
    · rw [if_pos hk]; exact takeA_breaks v hv c m hm hl5 hl6 hh hr (by omega) hf hk
    rw [if_neg hk]
    rw [Bool.not_eq_true] at hk
    by_cases hp : putOK v m.f4 (slL m.f9) = false
    · rw [if_pos hp]; exact takeA_no v hv c m hm hl5 hl6 hh hr (by omega) hf hk hp
    rw [if_neg hp]
    rw [Bool.not_eq_false] at hp
    exact takeA_yes v hv c m hm hl5 hl6 hh hr (by omega) hf hk hp
/-- What is taken, as it comes out. -/
inductive Took (v : V27) (c : Int) (m : V34) : Prop
  | bad (e : Int) (he : e ≠ 0) (h : takeR v c m = ⟨zero27, 0, zero34, e⟩)
  | off (i : Int) (hh : hardF v = true) (hr : rightF v c m = true) (h : takeR v c m = ⟨v, c, answer false i, 0⟩)
  | yes (p : Int) (a : Nat) (l : List (List AV)) (hh : hardF v = true) (hr : rightF v c m = true) (hp : p - v.f2 = (a : Int)) (ha : a ≤ (slL v.f6).length)
      (hcp : p = cutP v m) (hcl : l = cutL v m) (hf : fitsF v p (cutT v m) = true) (hb : breaksF v c p l = false) (hk : putOK v p l = true)
      (h : takeR v c m = ⟨setLog v (putO v.f6 a l), mxF c (mnF m.f6 (p + (l.length : Int))), answer true (p + (l.length : Int)), 0⟩)
theorem took (v : V27) (c : Int) (m : V34) (hl6 : (slL v.f6).length ≤ 1000000) : Took v c m := by
  by_cases hh : hardF v = false
  · exact .bad 6 (by decide) (by unfold takeR; rw [if_pos hh])
  have hh' := eq_true_of_ne_false hh
  by_cases hr : rightF v c m = false
  · exact .bad 1 (by decide) (by unfold takeR; rw [if_neg hh, if_pos hr])
  have hr' := eq_true_of_ne_false hr
  by_cases hf : fitsF v (cutP v m) (cutT v m) = false
  · exact .off _ hh' hr' (by unfold takeR; rw [if_neg hh, if_neg hr, if_pos hf])
  have hf' := eq_true_of_ne_false hf
  by_cases hk : breaksF v c (cutP v m) (cutL v m) = true
  · exact .bad 13 (by decide) (by unfold takeR; rw [if_neg hh, if_neg hr, if_neg hf, if_pos hk])
  have hk' := eq_false_of_ne_true hk
  by_cases hp : putOK v (cutP v m) (cutL v m) = false
  · exact .bad 1 (by decide) (by unfold takeR; rw [if_neg hh, if_neg hr, if_neg hf, if_neg hk, if_pos hp])
  have hp' := eq_true_of_ne_false hp
  have h := hp'
  simp only [putOK, Bool.and_eq_true, decide_eq_true_eq] at h
  obtain ⟨⟨h1, h2⟩, h3⟩ := h
  obtain ⟨b1, b2⟩ := hard_base hh'
  have h2' : cutP v m ≤ v.f2 + (slL v.f6).length := by
    unfold lastI at h2
    split at h2
    · omega
    · simp [IntKind.wrap, IntKind.signed, IntKind.bits] at h2; omega
  exact .yes (cutP v m) (cutP v m - v.f2).toNat (cutL v m) hh' hr' (by omega) (by omega) rfl rfl hf' hk' hp' (by unfold takeR; rw [if_neg hh, if_neg hr, if_neg hf, if_neg hk, if_neg hp])
theorem lastI_eq {v : V27} (hh : hardF v = true) (hl6 : (slL v.f6).length ≤ 2000000) : lastI (slL v.f6) v.f2 = v.f2 + (slL v.f6).length := by
  obtain ⟨b1, b2⟩ := hard_base hh
  unfold lastI
  split
  · omega
  · simp [IntKind.wrap, IntKind.signed, IntKind.bits]; omega
end Go.Sk
