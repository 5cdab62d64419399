/- What becomes of a log by a message that begins ahead of it. Conditions: none. -/
import Derived.Test.YtnbmngpdbnkhaaaC6Spec13
set_option linter.unusedVariables false
set_option linter.unusedSimpArgs false
set_option maxRecDepth 20000
set_option maxHeartbeats 8000000
namespace Go.Sk
open Go.Proofs.Try
theorem fits_base {v : V27} (h : hardF v = true) : fitsF v v.f2 v.f3 = true := by
  simp only [hardF, Bool.and_eq_true] at h
  have h3 := h.1.1.1.1.1.2
  have h3' : 0 ≤ v.f3 := by simp [withinF] at h3; omega
  unfold fitsF termF
  rw [if_pos rfl, Bool.and_eq_true]
  exact ⟨by simp; omega, by simp⟩
theorem has_drop {l : List (List AV)} {t n : Nat} (h : ∀ us ∈ slL (some l), HasT prog t us) : ∀ us ∈ slL (some (l.drop n)), HasT prog t us := fun us hus => h us (List.mem_of_mem_drop hus)
theorem takeB_breaks (v : V27) (hv : v.ok) (c g0 g1 g2 g3 g4 g5 g6 g7 : Int) (g8 : Bool) (g10 : V23) (g11 g12 : Option (List (List AV))) (l : List (List AV)) (hm : (V34.mk g0 g1 g2 g3 g4 g5 g6 g7 g8 (some l) g10 g11 g12).o9) (hl5 : (slL v.f5).length ≤ 1000000) (hl6 : (slL v.f6).length ≤ 1000000) (hh : hardF v = true) (hr : rightF v c (V34.mk g0 g1 g2 g3 g4 g5 g6 g7 g8 (some l) g10 g11 g12) = true) (hb : g4 < v.f2) (n : Nat) (hn : mnF (v.f2 - g4) (l.length : Int) = (n : Int)) (hk : breaksF v c v.f2 (l.drop n) = true) : FCall prog 35 [.agg v.l, .int .i64 c, .agg (V34.mk g0 g1 g2 g3 g4 g5 g6 g7 g8 (some l) g10 g11 g12).l] (takeV zero27 0 zero34 13) := by
  obtain ⟨b1, b2⟩ := hard_base hh
  obtain ⟨r1, r2, r3, r4, r5, r6, r7⟩ := right_facts hr
  simp only [slL_some] at r3 r4 r5 r6 r7
  have hs : seen v v.f2 := ⟨b1, b2, by omega, by omega, by omega⟩
  have h71 := f71 v hv
  rw [hh] at h71
  simp only [reduceIte] at h71
  have h72 := f72 v hv c (V34.mk g0 g1 g2 g3 g4 g5 g6 g7 g8 (some l) g10 g11 g12)
  rw [hr] at h72
  have d0 : decide (g4 < v.f2) = true := decide_eq_true hb
  have h73 := put_nil v hv hl5 hl6 hh (by omega)
  have hnl : n ≤ l.length := by unfold mnF at hn; split at hn <;> omega
  have w1 : IntKind.i64.wrap (v.f2 - g4) = v.f2 - g4 := by simp [IntKind.wrap, IntKind.signed, IntKind.bits]; omega
  have hmn : (if (l.length : Int) < v.f2 - g4 then (l.length : Int) else v.f2 - g4) = (n : Int) := hn
  have p3 : (0 ≤ (n : Int)) = True := eq_true (by omega)
  have p4 : ((n : Int) ≤ ((l.length : Nat) : Int)) = True := eq_true (by omega)
  have hdl : (l.drop n).length ≤ 8 := by rw [List.length_drop]; omega
  have wl : IntKind.i64.wrap (v.f2 + ((l.drop n).length : Int)) = v.f2 + ((l.drop n).length : Int) := by simp only [List.length_drop]; simp [IntKind.wrap, IntKind.signed, IntKind.bits]; omega
  have h74 := f74 v hv v.f2 v.f3 hs
  rw [fits_base hh] at h74
  have ho : ∀ us ∈ slL (some (l.drop n)), HasT prog 66 us := has_drop hm.h9.1
  have hol : (slL (some (l.drop n))).length ≤ 1000000 := by simp only [slL_some]; omega
  have h75 := f75 v hv c v.f2 (some (l.drop n)) ho hol hs ⟨b1, by omega⟩
  rw [show slL (some (l.drop n)) = l.drop n from rfl, hk] at h75
  refine fcall mixed t35 (by simp [m35]) (by simp [idsL, idsV, V27.ids, V34.ids]) (f_body ?_)
  simp only [m35, argEnv, List.length_nil, List.nil_append, List.cons_append, Nat.zero_add, V27.l, V23.l, V34.l, zero27, zero34, answer, takeV, slA_none, slA_some]
  repeat' first
    | (with_reducible first | apply c_seq | apply c_reg | apply c_dreg0 | apply c_block | apply c_ret | apply c_exit | apply c_skip | apply ops_nil | apply d_nil | apply k_seq_n | apply k_seq_r | apply k_seq_x | apply k_blk_n | apply k_blk_r | apply k_blk_x | apply k_end_n | apply k_end_r | apply k_loop_x | apply k_loop_r | apply c_dreg1 | apply c_dreg2)
    | ((with_reducible first | apply op_gS | apply op_g0 | apply d_gS | apply d_g0); (focus (simp only [W0, reduceIte, Nat.reduceEqDiff, Nat.reduceAdd, Nat.reduceSub, Nat.reduceLeDiff, Bool.not_false, Bool.not_true, d0, wl, w1, hmn, p3, p4, bound, true_and, Int.toNat_natCast, List.take_length, V27.l, V23.l, V34.l, slA_none, slA_some, slL_some, zero27, setLog, beq_self_eq_true, bne_self_eq_false, BEq.rfl]; rfl)); (with_reducible first | apply g_no | apply g_T | apply g_F); all_goals (try (intro hc; first | exact absurd hc (by decide) | subst hc | clear hc)))
    | ((with_reducible apply c_cond); (focus (simp only [W0, reduceIte, Nat.reduceEqDiff, Nat.reduceAdd, Nat.reduceSub, Nat.reduceLeDiff, Bool.not_false, Bool.not_true, d0, wl, w1, hmn, p3, p4, bound, true_and, Int.toNat_natCast, List.take_length, V27.l, V23.l, V34.l, slA_none, slA_some, slL_some, zero27, setLog, beq_self_eq_true, bne_self_eq_false, BEq.rfl]; rfl)); all_goals (intro hc; first | exact absurd hc (by decide) | subst hc | clear hc))
    | ((with_reducible first | apply op_fcall (f := 71) | apply d_fcall (f := 71)); (focus ((try simp only [W0, reduceIte, Nat.reduceEqDiff, Nat.reduceAdd, Nat.reduceSub, Nat.reduceLeDiff, Bool.not_false, Bool.not_true, d0, wl, w1, hmn, p3, p4, bound, true_and, Int.toNat_natCast, List.take_length, V27.l, V23.l, V34.l, slA_none, slA_some, slL_some, zero27, setLog, beq_self_eq_true, bne_self_eq_false, BEq.rfl]); first | exact h71)); all_goals (try rfl))
    | ((with_reducible first | apply op_fcall (f := 72) | apply d_fcall (f := 72)); (focus ((try simp only [W0, reduceIte, Nat.reduceEqDiff, Nat.reduceAdd, Nat.reduceSub, Nat.reduceLeDiff, Bool.not_false, Bool.not_true, d0, wl, w1, hmn, p3, p4, bound, true_and, Int.toNat_natCast, List.take_length, V27.l, V23.l, V34.l, slA_none, slA_some, slL_some, zero27, setLog, beq_self_eq_true, bne_self_eq_false, BEq.rfl]); first | exact h72)); all_goals (try rfl))
    | ((with_reducible first | apply op_fcall (f := 73) | apply d_fcall (f := 73)); (focus ((try simp only [W0, reduceIte, Nat.reduceEqDiff, Nat.reduceAdd, Nat.reduceSub, Nat.reduceLeDiff, Bool.not_false, Bool.not_true, d0, wl, w1, hmn, p3, p4, bound, true_and, Int.toNat_natCast, List.take_length, V27.l, V23.l, V34.l, slA_none, slA_some, slL_some, zero27, setLog, beq_self_eq_true, bne_self_eq_false, BEq.rfl]); first | exact h73)); all_goals (try rfl))
    | ((with_reducible first | apply op_fcall (f := 53) | apply d_fcall (f := 53)); (focus ((try simp only [W0, reduceIte, Nat.reduceEqDiff, Nat.reduceAdd, Nat.reduceSub, Nat.reduceLeDiff, Bool.not_false, Bool.not_true, d0, wl, w1, hmn, p3, p4, bound, true_and, Int.toNat_natCast, List.take_length, V27.l, V23.l, V34.l, slA_none, slA_some, slL_some, zero27, setLog, beq_self_eq_true, bne_self_eq_false, BEq.rfl]); first | exact f53 v hv)); all_goals (try rfl))
    | ((with_reducible first | apply op_fcall (f := 74) | apply d_fcall (f := 74)); (focus ((try simp only [W0, reduceIte, Nat.reduceEqDiff, Nat.reduceAdd, Nat.reduceSub, Nat.reduceLeDiff, Bool.not_false, Bool.not_true, d0, wl, w1, hmn, p3, p4, bound, true_and, Int.toNat_natCast, List.take_length, V27.l, V23.l, V34.l, slA_none, slA_some, slL_some, zero27, setLog, beq_self_eq_true, bne_self_eq_false, BEq.rfl]); first | exact h74)); all_goals (try rfl))
    | ((with_reducible first | apply op_fcall (f := 75) | apply d_fcall (f := 75)); (focus ((try simp only [W0, reduceIte, Nat.reduceEqDiff, Nat.reduceAdd, Nat.reduceSub, Nat.reduceLeDiff, Bool.not_false, Bool.not_true, d0, wl, w1, hmn, p3, p4, bound, true_and, Int.toNat_natCast, List.take_length, V27.l, V23.l, V34.l, slA_none, slA_some, slL_some, zero27, setLog, beq_self_eq_true, bne_self_eq_false, BEq.rfl]); first | exact h75)); all_goals (try rfl))
    | ((with_reducible first | apply op_isB | apply d_isV); (focus rfl); (focus (simp only [W0, reduceIte, Nat.reduceEqDiff, Nat.reduceAdd, Nat.reduceSub, Nat.reduceLeDiff, Bool.not_false, Bool.not_true, d0, wl, w1, hmn, p3, p4, bound, true_and, Int.toNat_natCast, List.take_length, V27.l, V23.l, V34.l, slA_none, slA_some, slL_some, zero27, setLog, beq_self_eq_true, bne_self_eq_false, BEq.rfl]; rfl)); intro c' hc'; try with_reducible first | cases (show true = c' from hc') | cases (show false = c' from hc'))
    | ((with_reducible first | apply op_step | apply op_step0 | apply d_ld | apply d_st | apply d_new | apply d_box | apply d_bsl | apply d_apw | apply d_apa | apply d_v); (focus (simp only [W0, reduceIte, Nat.reduceEqDiff, Nat.reduceAdd, Nat.reduceSub, Nat.reduceLeDiff, Bool.not_false, Bool.not_true, d0, wl, w1, hmn, p3, p4, bound, true_and, Int.toNat_natCast, List.take_length, V27.l, V23.l, V34.l, slA_none, slA_some, slL_some, zero27, setLog, beq_self_eq_true, bne_self_eq_false, BEq.rfl]; rfl)); all_goals (try rfl))
  all_goals first | (exfalso; refine Bool.false_ne_true ?_; first | assumption | (symm; assumption)) | (exact absurd ‹true = false› (by decide)) | skip
  all_goals ((with_reducible apply ret_plain); (focus (simp only [W0, reduceIte, Nat.reduceEqDiff, Nat.reduceAdd, Nat.reduceSub, Nat.reduceLeDiff]; rfl)); (focus (simp [resV, idsV, idsL, slA_ids, ints_ids])))
  all_goals exact ⟨[], by simp [resV, F1, frT, frL, thawV]⟩
theorem takeB_no (v : V27) (hv : v.ok) (c g0 g1 g2 g3 g4 g5 g6 g7 : Int) (g8 : Bool) (g10 : V23) (g11 g12 : Option (List (List AV))) (l : List (List AV)) (hm : (V34.mk g0 g1 g2 g3 g4 g5 g6 g7 g8 (some l) g10 g11 g12).o9) (hl5 : (slL v.f5).length ≤ 1000000) (hl6 : (slL v.f6).length ≤ 1000000) (hh : hardF v = true) (hr : rightF v c (V34.mk g0 g1 g2 g3 g4 g5 g6 g7 g8 (some l) g10 g11 g12) = true) (hb : g4 < v.f2) (n : Nat) (hn : mnF (v.f2 - g4) (l.length : Int) = (n : Int)) (hk : breaksF v c v.f2 (l.drop n) = false) (hp : putOK v v.f2 (l.drop n) = false) : FCall prog 35 [.agg v.l, .int .i64 c, .agg (V34.mk g0 g1 g2 g3 g4 g5 g6 g7 g8 (some l) g10 g11 g12).l] (takeV zero27 0 zero34 1) := by
  obtain ⟨b1, b2⟩ := hard_base hh
  obtain ⟨r1, r2, r3, r4, r5, r6, r7⟩ := right_facts hr
  simp only [slL_some] at r3 r4 r5 r6 r7
  have hs : seen v v.f2 := ⟨b1, b2, by omega, by omega, by omega⟩
  have h71 := f71 v hv
  rw [hh] at h71
  simp only [reduceIte] at h71
  have h72 := f72 v hv c (V34.mk g0 g1 g2 g3 g4 g5 g6 g7 g8 (some l) g10 g11 g12)
  rw [hr] at h72
  have d0 : decide (g4 < v.f2) = true := decide_eq_true hb
  have h73 := put_nil v hv hl5 hl6 hh (by omega)
  have hnl : n ≤ l.length := by unfold mnF at hn; split at hn <;> omega
  have w1 : IntKind.i64.wrap (v.f2 - g4) = v.f2 - g4 := by simp [IntKind.wrap, IntKind.signed, IntKind.bits]; omega
  have hmn : (if (l.length : Int) < v.f2 - g4 then (l.length : Int) else v.f2 - g4) = (n : Int) := hn
  have p3 : (0 ≤ (n : Int)) = True := eq_true (by omega)
  have p4 : ((n : Int) ≤ ((l.length : Nat) : Int)) = True := eq_true (by omega)
  have hdl : (l.drop n).length ≤ 8 := by rw [List.length_drop]; omega
  have wl : IntKind.i64.wrap (v.f2 + ((l.drop n).length : Int)) = v.f2 + ((l.drop n).length : Int) := by simp only [List.length_drop]; simp [IntKind.wrap, IntKind.signed, IntKind.bits]; omega
  have h74 := f74 v hv v.f2 v.f3 hs
  rw [fits_base hh] at h74
  have ho : ∀ us ∈ slL (some (l.drop n)), HasT prog 66 us := has_drop hm.h9.1
  have hol : (slL (some (l.drop n))).length ≤ 1000000 := by simp only [slL_some]; omega
  have h75 := f75 v hv c v.f2 (some (l.drop n)) ho hol hs ⟨b1, by omega⟩
  rw [show slL (some (l.drop n)) = l.drop n from rfl, hk] at h75
  have h73b := put_no v hv v.f2 (some (l.drop n)) ho hol hs hh hp
  have z1 : ((1 : Int) != 0) = true := rfl
  refine fcall mixed t35 (by simp [m35]) (by simp [idsL, idsV, V27.ids, V34.ids]) (f_body ?_)
  simp only [m35, argEnv, List.length_nil, List.nil_append, List.cons_append, Nat.zero_add, V27.l, V23.l, V34.l, zero27, zero34, answer, takeV, slA_none, slA_some]
  repeat' first
    | (with_reducible first | apply c_seq | apply c_reg | apply c_dreg0 | apply c_block | apply c_ret | apply c_exit | apply c_skip | apply ops_nil | apply d_nil | apply k_seq_n | apply k_seq_r | apply k_seq_x | apply k_blk_n | apply k_blk_r | apply k_blk_x | apply k_end_n | apply k_end_r | apply k_loop_x | apply k_loop_r | apply c_dreg1 | apply c_dreg2)
    | ((with_reducible first | apply op_gS | apply op_g0 | apply d_gS | apply d_g0); (focus (simp only [W0, reduceIte, Nat.reduceEqDiff, Nat.reduceAdd, Nat.reduceSub, Nat.reduceLeDiff, Bool.not_false, Bool.not_true, d0, wl, w1, hmn, p3, p4, bound, true_and, Int.toNat_natCast, List.take_length, V27.l, V23.l, V34.l, slA_none, slA_some, slL_some, zero27, setLog, beq_self_eq_true, bne_self_eq_false, BEq.rfl, z1]; rfl)); (with_reducible first | apply g_no | apply g_T | apply g_F); all_goals (try (intro hc; first | exact absurd hc (by decide) | subst hc | clear hc)))
    | ((with_reducible apply c_cond); (focus (simp only [W0, reduceIte, Nat.reduceEqDiff, Nat.reduceAdd, Nat.reduceSub, Nat.reduceLeDiff, Bool.not_false, Bool.not_true, d0, wl, w1, hmn, p3, p4, bound, true_and, Int.toNat_natCast, List.take_length, V27.l, V23.l, V34.l, slA_none, slA_some, slL_some, zero27, setLog, beq_self_eq_true, bne_self_eq_false, BEq.rfl, z1]; rfl)); all_goals (intro hc; first | exact absurd hc (by decide) | subst hc | clear hc))
    | ((with_reducible first | apply op_fcall (f := 71) | apply d_fcall (f := 71)); (focus ((try simp only [W0, reduceIte, Nat.reduceEqDiff, Nat.reduceAdd, Nat.reduceSub, Nat.reduceLeDiff, Bool.not_false, Bool.not_true, d0, wl, w1, hmn, p3, p4, bound, true_and, Int.toNat_natCast, List.take_length, V27.l, V23.l, V34.l, slA_none, slA_some, slL_some, zero27, setLog, beq_self_eq_true, bne_self_eq_false, BEq.rfl, z1]); first | exact h71)); all_goals (try rfl))
    | ((with_reducible first | apply op_fcall (f := 72) | apply d_fcall (f := 72)); (focus ((try simp only [W0, reduceIte, Nat.reduceEqDiff, Nat.reduceAdd, Nat.reduceSub, Nat.reduceLeDiff, Bool.not_false, Bool.not_true, d0, wl, w1, hmn, p3, p4, bound, true_and, Int.toNat_natCast, List.take_length, V27.l, V23.l, V34.l, slA_none, slA_some, slL_some, zero27, setLog, beq_self_eq_true, bne_self_eq_false, BEq.rfl, z1]); first | exact h72)); all_goals (try rfl))
    | ((with_reducible first | apply op_fcall (f := 73) | apply d_fcall (f := 73)); (focus ((try simp only [W0, reduceIte, Nat.reduceEqDiff, Nat.reduceAdd, Nat.reduceSub, Nat.reduceLeDiff, Bool.not_false, Bool.not_true, d0, wl, w1, hmn, p3, p4, bound, true_and, Int.toNat_natCast, List.take_length, V27.l, V23.l, V34.l, slA_none, slA_some, slL_some, zero27, setLog, beq_self_eq_true, bne_self_eq_false, BEq.rfl, z1]); first | exact h73 | exact h73b)); all_goals (try rfl))
    | ((with_reducible first | apply op_fcall (f := 53) | apply d_fcall (f := 53)); (focus ((try simp only [W0, reduceIte, Nat.reduceEqDiff, Nat.reduceAdd, Nat.reduceSub, Nat.reduceLeDiff, Bool.not_false, Bool.not_true, d0, wl, w1, hmn, p3, p4, bound, true_and, Int.toNat_natCast, List.take_length, V27.l, V23.l, V34.l, slA_none, slA_some, slL_some, zero27, setLog, beq_self_eq_true, bne_self_eq_false, BEq.rfl, z1]); first | exact f53 v hv)); all_goals (try rfl))
    | ((with_reducible first | apply op_fcall (f := 74) | apply d_fcall (f := 74)); (focus ((try simp only [W0, reduceIte, Nat.reduceEqDiff, Nat.reduceAdd, Nat.reduceSub, Nat.reduceLeDiff, Bool.not_false, Bool.not_true, d0, wl, w1, hmn, p3, p4, bound, true_and, Int.toNat_natCast, List.take_length, V27.l, V23.l, V34.l, slA_none, slA_some, slL_some, zero27, setLog, beq_self_eq_true, bne_self_eq_false, BEq.rfl, z1]); first | exact h74)); all_goals (try rfl))
    | ((with_reducible first | apply op_fcall (f := 75) | apply d_fcall (f := 75)); (focus ((try simp only [W0, reduceIte, Nat.reduceEqDiff, Nat.reduceAdd, Nat.reduceSub, Nat.reduceLeDiff, Bool.not_false, Bool.not_true, d0, wl, w1, hmn, p3, p4, bound, true_and, Int.toNat_natCast, List.take_length, V27.l, V23.l, V34.l, slA_none, slA_some, slL_some, zero27, setLog, beq_self_eq_true, bne_self_eq_false, BEq.rfl, z1]); first | exact h75)); all_goals (try rfl))
    | ((with_reducible first | apply op_isB | apply d_isV); (focus rfl); (focus (simp only [W0, reduceIte, Nat.reduceEqDiff, Nat.reduceAdd, Nat.reduceSub, Nat.reduceLeDiff, Bool.not_false, Bool.not_true, d0, wl, w1, hmn, p3, p4, bound, true_and, Int.toNat_natCast, List.take_length, V27.l, V23.l, V34.l, slA_none, slA_some, slL_some, zero27, setLog, beq_self_eq_true, bne_self_eq_false, BEq.rfl, z1]; rfl)); intro c' hc'; try with_reducible first | cases (show true = c' from hc') | cases (show false = c' from hc'))
    | ((with_reducible first | apply op_step | apply op_step0 | apply d_ld | apply d_st | apply d_new | apply d_box | apply d_bsl | apply d_apw | apply d_apa | apply d_v); (focus (simp only [W0, reduceIte, Nat.reduceEqDiff, Nat.reduceAdd, Nat.reduceSub, Nat.reduceLeDiff, Bool.not_false, Bool.not_true, d0, wl, w1, hmn, p3, p4, bound, true_and, Int.toNat_natCast, List.take_length, V27.l, V23.l, V34.l, slA_none, slA_some, slL_some, zero27, setLog, beq_self_eq_true, bne_self_eq_false, BEq.rfl, z1]; rfl)); all_goals (try rfl))
  all_goals first | (exfalso; refine Bool.false_ne_true ?_; first | assumption | (symm; assumption)) | (exact absurd ‹true = false› (by decide)) | skip
  all_goals ((with_reducible apply ret_plain); (focus (simp only [W0, reduceIte, Nat.reduceEqDiff, Nat.reduceAdd, Nat.reduceSub, Nat.reduceLeDiff]; rfl)); (focus (simp [resV, idsV, idsL, slA_ids, ints_ids])))
  all_goals exact ⟨[], by simp [resV, F1, frT, frL, thawV]⟩
end Go.Sk
