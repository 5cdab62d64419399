/- Which values, commands, calls and entries are right: what the program's functions and the page's tell. Conditions: none. -/
import Derived.Test.YtnbmngpdbnkhaaaC6Code4
import Derived.Test.YtnbmngpdbnkhaaaC6Code3
import Derived.Test.YtnbmngpdbnkhaaaC6Spec5
set_option linter.unusedVariables false
set_option linter.unusedSimpArgs false
set_option maxRecDepth 20000
set_option maxHeartbeats 4000000
namespace Go.Sk
open Go.Proofs.Try
def NANB : Nat := 9221120237041090561
def nanF (b : Nat) : Bool := !Op.floatEq .f64 b b
def canonF (b : Nat) : Nat := if nanF b then NANB else b
theorem nan_zero : nanF 0 = false := by decide +kernel
theorem canon_zero : canonF 0 = 0 := by unfold canonF; rw [nan_zero]; rfl
theorem same_zero (b : Nat) : ((canonF b : Int) == (canonF 0 : Int)) = (b == 0) := by
  rw [canon_zero]
  unfold canonF
  by_cases h : nanF b = true
  · rw [if_pos h]
    have hb : b ≠ 0 := by rintro rfl; rw [nan_zero] at h; cases h
    have e : (b == 0) = false := by simpa using hb
    rw [e]; rfl
  · rw [if_neg h]
    rw [Bool.eq_iff_iff]; simp
/-- Is a float its own canon? -/
def ownF (b : Nat) : Bool := !(nanF b && (b != NANB))
theorem own_eq (b : Nat) : ((canonF b : Int) == (b : Int)) = ownF b := by
  unfold canonF ownF
  by_cases h : nanF b = true
  · rw [if_pos h, h, Bool.eq_iff_iff]; simp; omega
  · simp [h]
def empS (s : ByteArray) : Bool := s.toList == (ByteArray.toList ⟨#[]⟩)
theorem f159 (b : Nat) : FCall prog 159 [.flt b] (.bool (nanF b)) := by
  refine fcall mixed t159 (by simp [m159]) (by simp [idsL, idsV]) (f_body ?_)
  simp only [m159, argEnv, List.length_nil, List.nil_append, List.cons_append, Nat.zero_add]
  repeat' first
    | (with_reducible first | apply c_seq | apply c_reg | apply c_dreg0 | apply c_block | apply c_ret | apply c_exit | apply c_skip | apply ops_nil | apply d_nil | apply k_seq_n | apply k_seq_r | apply k_seq_x | apply k_blk_n | apply k_blk_r | apply k_blk_x | apply k_end_n | apply k_end_r | apply k_loop_x | apply k_loop_r | apply c_dreg1 | apply c_dreg2)
    | ((with_reducible first | apply op_gS | apply op_g0 | apply d_gS | apply d_g0); (focus (simp only [W0, reduceIte, Nat.reduceEqDiff, Nat.reduceAdd, Nat.reduceSub, Nat.reduceLeDiff]; rfl)); (with_reducible first | apply g_no | apply g_T | apply g_F); all_goals (try (intro hc; first | exact absurd hc (by decide) | subst hc | clear hc)))
    | ((with_reducible apply c_cond); (focus (simp only [W0, reduceIte, Nat.reduceEqDiff, Nat.reduceAdd, Nat.reduceSub, Nat.reduceLeDiff]; rfl)); all_goals (intro hc; first | exact absurd hc (by decide) | subst hc | clear hc))
    | ((with_reducible first | apply op_isB | apply d_isV); (focus rfl); (focus (simp only [W0, reduceIte, Nat.reduceEqDiff, Nat.reduceAdd, Nat.reduceSub, Nat.reduceLeDiff]; rfl)); intro c' hc')
    | ((with_reducible first | apply op_step | apply op_step0 | apply d_ld | apply d_st | apply d_new | apply d_box | apply d_bsl | apply d_apw | apply d_apa | apply d_v); (focus (simp only [W0, reduceIte, Nat.reduceEqDiff, Nat.reduceAdd, Nat.reduceSub, Nat.reduceLeDiff]; rfl)); all_goals (try rfl))
  all_goals ((with_reducible apply ret_plain); (focus (simp only [resVs, resV1, look, Option.bind, Option.map, reduceIte, Nat.reduceEqDiff]; rfl)); (focus (simp [resV, idsV, idsL, slA_ids])))
  all_goals exact ⟨[], by simp_all [resV, fr, frV, frT, thawV, nanF]⟩
theorem f160 : FCall prog 160 [] (.flt NANB) := by
  refine fcall mixed t160 (by simp [m160]) (by simp [idsL, idsV]) (f_body ?_)
  simp only [m160, argEnv, List.length_nil, List.nil_append, List.cons_append, Nat.zero_add]
  repeat' first
    | (with_reducible first | apply c_seq | apply c_reg | apply c_dreg0 | apply c_block | apply c_ret | apply c_exit | apply c_skip | apply ops_nil | apply d_nil | apply k_seq_n | apply k_seq_r | apply k_seq_x | apply k_blk_n | apply k_blk_r | apply k_blk_x | apply k_end_n | apply k_end_r | apply k_loop_x | apply k_loop_r | apply c_dreg1 | apply c_dreg2)
    | ((with_reducible first | apply op_gS | apply op_g0 | apply d_gS | apply d_g0); (focus (simp only [W0, reduceIte, Nat.reduceEqDiff, Nat.reduceAdd, Nat.reduceSub, Nat.reduceLeDiff]; rfl)); (with_reducible first | apply g_no | apply g_T | apply g_F); all_goals (try (intro hc; first | exact absurd hc (by decide) | subst hc | clear hc)))
    | ((with_reducible apply c_cond); (focus (simp only [W0, reduceIte, Nat.reduceEqDiff, Nat.reduceAdd, Nat.reduceSub, Nat.reduceLeDiff]; rfl)); all_goals (intro hc; first | exact absurd hc (by decide) | subst hc | clear hc))
    | ((with_reducible first | apply op_isB | apply d_isV); (focus rfl); (focus (simp only [W0, reduceIte, Nat.reduceEqDiff, Nat.reduceAdd, Nat.reduceSub, Nat.reduceLeDiff]; rfl)); intro c' hc')
    | ((with_reducible first | apply op_step | apply op_step0 | apply d_ld | apply d_st | apply d_new | apply d_box | apply d_bsl | apply d_apw | apply d_apa | apply d_v); (focus (simp only [W0, reduceIte, Nat.reduceEqDiff, Nat.reduceAdd, Nat.reduceSub, Nat.reduceLeDiff]; rfl)); all_goals (try rfl))
  all_goals ((with_reducible apply ret_plain); (focus (simp only [resVs, resV1, look, Option.bind, Option.map, reduceIte, Nat.reduceEqDiff]; rfl)); (focus (simp [resV, idsV, idsL, slA_ids])))
  all_goals exact ⟨[], rfl⟩
theorem f162 : FCall prog 162 [] (.flt NANB) := by
  refine fcall mixed t162 (by simp [m162]) (by simp [idsL, idsV]) (f_body ?_)
  simp only [m162, argEnv, List.length_nil, List.nil_append, List.cons_append, Nat.zero_add]
  repeat' first
    | (with_reducible first | apply c_seq | apply c_reg | apply c_dreg0 | apply c_block | apply c_ret | apply c_exit | apply c_skip | apply ops_nil | apply d_nil | apply k_seq_n | apply k_seq_r | apply k_seq_x | apply k_blk_n | apply k_blk_r | apply k_blk_x | apply k_end_n | apply k_end_r | apply k_loop_x | apply k_loop_r | apply c_dreg1 | apply c_dreg2)
    | ((with_reducible first | apply op_gS | apply op_g0 | apply d_gS | apply d_g0); (focus (simp only [W0, reduceIte, Nat.reduceEqDiff, Nat.reduceAdd, Nat.reduceSub, Nat.reduceLeDiff]; rfl)); (with_reducible first | apply g_no | apply g_T | apply g_F); all_goals (try (intro hc; first | exact absurd hc (by decide) | subst hc | clear hc)))
    | ((with_reducible apply c_cond); (focus (simp only [W0, reduceIte, Nat.reduceEqDiff, Nat.reduceAdd, Nat.reduceSub, Nat.reduceLeDiff]; rfl)); all_goals (intro hc; first | exact absurd hc (by decide) | subst hc | clear hc))
    | ((with_reducible first | apply op_isB | apply d_isV); (focus rfl); (focus (simp only [W0, reduceIte, Nat.reduceEqDiff, Nat.reduceAdd, Nat.reduceSub, Nat.reduceLeDiff]; rfl)); intro c' hc')
    | ((with_reducible first | apply op_step | apply op_step0 | apply d_ld | apply d_st | apply d_new | apply d_box | apply d_bsl | apply d_apw | apply d_apa | apply d_v); (focus (simp only [W0, reduceIte, Nat.reduceEqDiff, Nat.reduceAdd, Nat.reduceSub, Nat.reduceLeDiff]; rfl)); all_goals (try rfl))
  all_goals ((with_reducible apply ret_plain); (focus (simp only [resVs, resV1, look, Option.bind, Option.map, reduceIte, Nat.reduceEqDiff]; rfl)); (focus (simp [resV, idsV, idsL, slA_ids])))
  all_goals exact ⟨[], rfl⟩
theorem f156 (b : Nat) : FCall prog 156 [.flt b] (.flt (canonF b)) := by
  refine fcall mixed t156 (by simp [m156]) (by simp [idsL, idsV]) (f_body ?_)
  simp only [m156, argEnv, List.length_nil, List.nil_append, List.cons_append, Nat.zero_add]
  repeat' first
    | (with_reducible first | apply c_seq | apply c_reg | apply c_dreg0 | apply c_block | apply c_ret | apply c_exit | apply c_skip | apply ops_nil | apply d_nil | apply k_seq_n | apply k_seq_r | apply k_seq_x | apply k_blk_n | apply k_blk_r | apply k_blk_x | apply k_end_n | apply k_end_r | apply k_loop_x | apply k_loop_r | apply c_dreg1 | apply c_dreg2)
    | ((with_reducible first | apply op_gS | apply op_g0 | apply d_gS | apply d_g0); (focus (simp only [W0, reduceIte, Nat.reduceEqDiff, Nat.reduceAdd, Nat.reduceSub, Nat.reduceLeDiff]; rfl)); (with_reducible first | apply g_no | apply g_T | apply g_F); all_goals (try (intro hc; first | exact absurd hc (by decide) | subst hc | clear hc)))
    | ((with_reducible apply c_cond); (focus (simp only [W0, reduceIte, Nat.reduceEqDiff, Nat.reduceAdd, Nat.reduceSub, Nat.reduceLeDiff]; rfl)); all_goals (intro hc; first | exact absurd hc (by decide) | subst hc | clear hc))
    | ((with_reducible first | apply op_fcallb (f := 159) | apply d_fcallb (f := 159)); (focus ((try simp only [W0, reduceIte, Nat.reduceEqDiff, Nat.reduceAdd, Nat.reduceSub, Nat.reduceLeDiff]); exact f159 _)); intro c' hc'; all_goals (try rfl))
    | ((with_reducible first | apply op_fcall (f := 160) | apply d_fcall (f := 160)); (focus ((try simp only [W0, reduceIte, Nat.reduceEqDiff, Nat.reduceAdd, Nat.reduceSub, Nat.reduceLeDiff]); first | exact f160)); all_goals (try rfl))
    | ((with_reducible first | apply op_isB | apply d_isV); (focus rfl); (focus (simp only [W0, reduceIte, Nat.reduceEqDiff, Nat.reduceAdd, Nat.reduceSub, Nat.reduceLeDiff]; rfl)); intro c' hc')
    | ((with_reducible first | apply op_step | apply op_step0 | apply d_ld | apply d_st | apply d_new | apply d_box | apply d_bsl | apply d_apw | apply d_apa | apply d_v); (focus (simp only [W0, reduceIte, Nat.reduceEqDiff, Nat.reduceAdd, Nat.reduceSub, Nat.reduceLeDiff]; rfl)); all_goals (try rfl))
  all_goals ((with_reducible apply ret_plain); (focus (simp only [resVs, resV1, look, Option.bind, Option.map, reduceIte, Nat.reduceEqDiff]; rfl)); (focus (simp [resV, idsV, idsL, slA_ids])))
  all_goals exact ⟨[], by simp_all [resV, fr, frV, frT, thawV, canonF]⟩
theorem f150 (b : Nat) : FCall prog 150 [.flt b, .flt 0] (.bool (b == 0)) := by
  have hz := same_zero b
  refine fcall mixed t150 (by simp [m150]) (by simp [idsL, idsV]) (f_body ?_)
  simp only [m150, argEnv, List.length_nil, List.nil_append, List.cons_append, Nat.zero_add]
  repeat' first
    | (with_reducible first | apply c_seq | apply c_reg | apply c_dreg0 | apply c_block | apply c_ret | apply c_exit | apply c_skip | apply ops_nil | apply d_nil | apply k_seq_n | apply k_seq_r | apply k_seq_x | apply k_blk_n | apply k_blk_r | apply k_blk_x | apply k_end_n | apply k_end_r | apply k_loop_x | apply k_loop_r | apply c_dreg1 | apply c_dreg2)
    | ((with_reducible first | apply op_gS | apply op_g0 | apply d_gS | apply d_g0); (focus (simp only [W0, reduceIte, Nat.reduceEqDiff, Nat.reduceAdd, Nat.reduceSub, Nat.reduceLeDiff, hz]; rfl)); (with_reducible first | apply g_no | apply g_T | apply g_F); all_goals (try (intro hc; first | exact absurd hc (by decide) | subst hc | clear hc)))
    | ((with_reducible apply c_cond); (focus (simp only [W0, reduceIte, Nat.reduceEqDiff, Nat.reduceAdd, Nat.reduceSub, Nat.reduceLeDiff, hz]; rfl)); all_goals (intro hc; first | exact absurd hc (by decide) | subst hc | clear hc))
    | ((with_reducible first | apply op_fcall (f := 156) | apply d_fcall (f := 156)); (focus ((try simp only [W0, reduceIte, Nat.reduceEqDiff, Nat.reduceAdd, Nat.reduceSub, Nat.reduceLeDiff, hz]); first | exact f156 _)); all_goals (try rfl))
    | ((with_reducible first | apply op_isB | apply d_isV); (focus rfl); (focus (simp only [W0, reduceIte, Nat.reduceEqDiff, Nat.reduceAdd, Nat.reduceSub, Nat.reduceLeDiff, hz]; rfl)); intro c' hc')
    | ((with_reducible first | apply op_step | apply op_step0 | apply d_ld | apply d_st | apply d_new | apply d_box | apply d_bsl | apply d_apw | apply d_apa | apply d_v); (focus (simp only [W0, reduceIte, Nat.reduceEqDiff, Nat.reduceAdd, Nat.reduceSub, Nat.reduceLeDiff, hz]; rfl)); all_goals (try rfl))
  all_goals ((with_reducible apply ret_plain); (focus (simp only [resVs, resV1, look, Option.bind, Option.map, reduceIte, Nat.reduceEqDiff]; rfl)); (focus (simp [resV, idsV, idsL, slA_ids])))
  all_goals exact ⟨[], by simp_all [resV, fr, frV, frT, thawV, canonF]⟩
theorem f151 (b : Nat) : FCall prog 151 [.flt b] (.bool (ownF b)) := by
  have hz := own_eq b
  refine fcall mixed t151 (by simp [m151]) (by simp [idsL, idsV]) (f_body ?_)
  simp only [m151, argEnv, List.length_nil, List.nil_append, List.cons_append, Nat.zero_add]
  repeat' first
    | (with_reducible first | apply c_seq | apply c_reg | apply c_dreg0 | apply c_block | apply c_ret | apply c_exit | apply c_skip | apply ops_nil | apply d_nil | apply k_seq_n | apply k_seq_r | apply k_seq_x | apply k_blk_n | apply k_blk_r | apply k_blk_x | apply k_end_n | apply k_end_r | apply k_loop_x | apply k_loop_r | apply c_dreg1 | apply c_dreg2)
    | ((with_reducible first | apply op_gS | apply op_g0 | apply d_gS | apply d_g0); (focus (simp only [W0, reduceIte, Nat.reduceEqDiff, Nat.reduceAdd, Nat.reduceSub, Nat.reduceLeDiff, hz]; rfl)); (with_reducible first | apply g_no | apply g_T | apply g_F); all_goals (try (intro hc; first | exact absurd hc (by decide) | subst hc | clear hc)))
    | ((with_reducible apply c_cond); (focus (simp only [W0, reduceIte, Nat.reduceEqDiff, Nat.reduceAdd, Nat.reduceSub, Nat.reduceLeDiff, hz]; rfl)); all_goals (intro hc; first | exact absurd hc (by decide) | subst hc | clear hc))
    | ((with_reducible first | apply op_fcall (f := 156) | apply d_fcall (f := 156)); (focus ((try simp only [W0, reduceIte, Nat.reduceEqDiff, Nat.reduceAdd, Nat.reduceSub, Nat.reduceLeDiff, hz]); first | exact f156 _)); all_goals (try rfl))
    | ((with_reducible first | apply op_isB | apply d_isV); (focus rfl); (focus (simp only [W0, reduceIte, Nat.reduceEqDiff, Nat.reduceAdd, Nat.reduceSub, Nat.reduceLeDiff, hz]; rfl)); intro c' hc')
    | ((with_reducible first | apply op_step | apply op_step0 | apply d_ld | apply d_st | apply d_new | apply d_box | apply d_bsl | apply d_apw | apply d_apa | apply d_v); (focus (simp only [W0, reduceIte, Nat.reduceEqDiff, Nat.reduceAdd, Nat.reduceSub, Nat.reduceLeDiff, hz]; rfl)); all_goals (try rfl))
  all_goals ((with_reducible apply ret_plain); (focus (simp only [resVs, resV1, look, Option.bind, Option.map, reduceIte, Nat.reduceEqDiff]; rfl)); (focus (simp [resV, idsV, idsL, slA_ids])))
  all_goals exact ⟨[], by simp_all [resV, fr, frV, frT, thawV, canonF]⟩
theorem int_zero (b : Nat) : ((b : Int) == 0) = (b == 0) := by rw [Bool.eq_iff_iff]; simp
theorem f161 (b : Nat) : FCall prog 161 [.flt b] (.bool (b == 0)) := by
  have hz := int_zero b
  refine fcall mixed t161 (by simp [m161]) (by simp [idsL, idsV]) (f_body ?_)
  simp only [m161, argEnv, List.length_nil, List.nil_append, List.cons_append, Nat.zero_add]
  repeat' first
    | (with_reducible first | apply c_seq | apply c_reg | apply c_dreg0 | apply c_block | apply c_ret | apply c_exit | apply c_skip | apply ops_nil | apply d_nil | apply k_seq_n | apply k_seq_r | apply k_seq_x | apply k_blk_n | apply k_blk_r | apply k_blk_x | apply k_end_n | apply k_end_r | apply k_loop_x | apply k_loop_r | apply c_dreg1 | apply c_dreg2)
    | ((with_reducible first | apply op_gS | apply op_g0 | apply d_gS | apply d_g0); (focus (simp only [W0, reduceIte, Nat.reduceEqDiff, Nat.reduceAdd, Nat.reduceSub, Nat.reduceLeDiff, hz]; rfl)); (with_reducible first | apply g_no | apply g_T | apply g_F); all_goals (try (intro hc; first | exact absurd hc (by decide) | subst hc | clear hc)))
    | ((with_reducible apply c_cond); (focus (simp only [W0, reduceIte, Nat.reduceEqDiff, Nat.reduceAdd, Nat.reduceSub, Nat.reduceLeDiff, hz]; rfl)); all_goals (intro hc; first | exact absurd hc (by decide) | subst hc | clear hc))
    | ((with_reducible first | apply op_isB | apply d_isV); (focus rfl); (focus (simp only [W0, reduceIte, Nat.reduceEqDiff, Nat.reduceAdd, Nat.reduceSub, Nat.reduceLeDiff, hz]; rfl)); intro c' hc')
    | ((with_reducible first | apply op_step | apply op_step0 | apply d_ld | apply d_st | apply d_new | apply d_box | apply d_bsl | apply d_apw | apply d_apa | apply d_v); (focus (simp only [W0, reduceIte, Nat.reduceEqDiff, Nat.reduceAdd, Nat.reduceSub, Nat.reduceLeDiff, hz]; rfl)); all_goals (try rfl))
  all_goals ((with_reducible apply ret_plain); (focus (simp only [resVs, resV1, look, Option.bind, Option.map, reduceIte, Nat.reduceEqDiff]; rfl)); (focus (simp [resV, idsV, idsL, slA_ids])))
  all_goals exact ⟨[], by simp_all [resV, fr, frV, frT, thawV, canonF]⟩
/-- What is wrong with a value. -/
def valF (v : V60) : Int := if v.f0 = 0 then (if v.f1 == 0 && empS v.f2 then 0 else 8) else if v.f0 = 1 then (if ownF v.f1 && empS v.f2 then 0 else 8) else if v.f0 = 2 then (if (v.f2.size : Int) > 32 then 2 else if v.f1 == 0 then 0 else 8) else 15
def noneF (v : V60) : Bool := (v.f0 == 0) && (v.f1 == 0) && empS v.f2
theorem f141 (v : V60) : FCall prog 141 [.agg v.l] (.int .i64 (valF v)) := by
  refine fcall mixed t141 (by simp [m141]) (by simp [idsL, idsV, V60.ids]) (f_body ?_)
  simp only [m141, argEnv, List.length_nil, List.nil_append, List.cons_append, Nat.zero_add, V60.l]
  repeat' first
    | (with_reducible first | apply c_seq | apply c_reg | apply c_dreg0 | apply c_block | apply c_ret | apply c_exit | apply c_skip | apply ops_nil | apply d_nil | apply k_seq_n | apply k_seq_r | apply k_seq_x | apply k_blk_n | apply k_blk_r | apply k_blk_x | apply k_end_n | apply k_end_r | apply k_loop_x | apply k_loop_r | apply c_dreg1 | apply c_dreg2)
    | ((with_reducible first | apply op_gS | apply op_g0 | apply d_gS | apply d_g0); (focus (simp only [W0, reduceIte, Nat.reduceEqDiff, Nat.reduceAdd, Nat.reduceSub, Nat.reduceLeDiff]; rfl)); (with_reducible first | apply g_no | apply g_T | apply g_F); all_goals (try (intro hc; first | exact absurd hc (by decide) | subst hc | clear hc)))
    | ((with_reducible apply c_cond); (focus (simp only [W0, reduceIte, Nat.reduceEqDiff, Nat.reduceAdd, Nat.reduceSub, Nat.reduceLeDiff]; rfl)); all_goals (intro hc; first | exact absurd hc (by decide) | subst hc | clear hc))
    | ((with_reducible first | apply op_fcallb (f := 150) | apply d_fcallb (f := 150)); (focus ((try simp only [W0, reduceIte, Nat.reduceEqDiff, Nat.reduceAdd, Nat.reduceSub, Nat.reduceLeDiff]); exact f150 _)); intro c' hc'; all_goals (try rfl))
    | ((with_reducible first | apply op_fcallb (f := 151) | apply d_fcallb (f := 151)); (focus ((try simp only [W0, reduceIte, Nat.reduceEqDiff, Nat.reduceAdd, Nat.reduceSub, Nat.reduceLeDiff]); exact f151 _)); intro c' hc'; all_goals (try rfl))
    | ((with_reducible first | apply op_isB | apply d_isV); (focus rfl); (focus (simp only [W0, reduceIte, Nat.reduceEqDiff, Nat.reduceAdd, Nat.reduceSub, Nat.reduceLeDiff]; rfl)); intro c' hc')
    | ((with_reducible first | apply op_step | apply op_step0 | apply d_ld | apply d_st | apply d_new | apply d_box | apply d_bsl | apply d_apw | apply d_apa | apply d_v); (focus (simp only [W0, reduceIte, Nat.reduceEqDiff, Nat.reduceAdd, Nat.reduceSub, Nat.reduceLeDiff]; rfl)); all_goals (try rfl))
  all_goals ((with_reducible apply ret_plain); (focus (simp only [resVs, resV1, look, Option.bind, Option.map, reduceIte, Nat.reduceEqDiff]; rfl)); (focus (simp [resV, idsV, idsL, slA_ids])))
  all_goals exact ⟨[], by simp_all [resV, fr, frV, frT, thawV, valF, empS] <;> omega⟩
theorem f142 (v : V60) : FCall prog 142 [.agg v.l] (.bool (noneF v)) := by
  refine fcall mixed t142 (by simp [m142]) (by simp [idsL, idsV, V60.ids]) (f_body ?_)
  simp only [m142, argEnv, List.length_nil, List.nil_append, List.cons_append, Nat.zero_add, V60.l]
  repeat' first
    | (with_reducible first | apply c_seq | apply c_reg | apply c_dreg0 | apply c_block | apply c_ret | apply c_exit | apply c_skip | apply ops_nil | apply d_nil | apply k_seq_n | apply k_seq_r | apply k_seq_x | apply k_blk_n | apply k_blk_r | apply k_blk_x | apply k_end_n | apply k_end_r | apply k_loop_x | apply k_loop_r | apply c_dreg1 | apply c_dreg2)
    | ((with_reducible first | apply op_gS | apply op_g0 | apply d_gS | apply d_g0); (focus (simp only [W0, reduceIte, Nat.reduceEqDiff, Nat.reduceAdd, Nat.reduceSub, Nat.reduceLeDiff]; rfl)); (with_reducible first | apply g_no | apply g_T | apply g_F); all_goals (try (intro hc; first | exact absurd hc (by decide) | subst hc | clear hc)))
    | ((with_reducible apply c_cond); (focus (simp only [W0, reduceIte, Nat.reduceEqDiff, Nat.reduceAdd, Nat.reduceSub, Nat.reduceLeDiff]; rfl)); all_goals (intro hc; first | exact absurd hc (by decide) | subst hc | clear hc))
    | ((with_reducible first | apply op_fcallb (f := 150) | apply d_fcallb (f := 150)); (focus ((try simp only [W0, reduceIte, Nat.reduceEqDiff, Nat.reduceAdd, Nat.reduceSub, Nat.reduceLeDiff]); exact f150 _)); intro c' hc'; all_goals (try rfl))
    | ((with_reducible first | apply op_isB | apply d_isV); (focus rfl); (focus (simp only [W0, reduceIte, Nat.reduceEqDiff, Nat.reduceAdd, Nat.reduceSub, Nat.reduceLeDiff]; rfl)); intro c' hc')
    | ((with_reducible first | apply op_step | apply op_step0 | apply d_ld | apply d_st | apply d_new | apply d_box | apply d_bsl | apply d_apw | apply d_apa | apply d_v); (focus (simp only [W0, reduceIte, Nat.reduceEqDiff, Nat.reduceAdd, Nat.reduceSub, Nat.reduceLeDiff]; rfl)); all_goals (try rfl))
  all_goals ((with_reducible apply ret_plain); (focus (simp only [resVs, resV1, look, Option.bind, Option.map, reduceIte, Nat.reduceEqDiff]; rfl)); (focus (simp [resV, idsV, idsL, slA_ids])))
  all_goals exact ⟨[], by simp_all [resV, fr, frV, frT, thawV, noneF, empS]⟩
theorem f153 (v : V60) : FCall prog 153 [.agg v.l] (.bool (noneF v)) := by
  refine fcall mixed t153 (by simp [m153]) (by simp [idsL, idsV, V60.ids]) (f_body ?_)
  simp only [m153, argEnv, List.length_nil, List.nil_append, List.cons_append, Nat.zero_add, V60.l]
  repeat' first
    | (with_reducible first | apply c_seq | apply c_reg | apply c_dreg0 | apply c_block | apply c_ret | apply c_exit | apply c_skip | apply ops_nil | apply d_nil | apply k_seq_n | apply k_seq_r | apply k_seq_x | apply k_blk_n | apply k_blk_r | apply k_blk_x | apply k_end_n | apply k_end_r | apply k_loop_x | apply k_loop_r | apply c_dreg1 | apply c_dreg2)
    | ((with_reducible first | apply op_gS | apply op_g0 | apply d_gS | apply d_g0); (focus (simp only [W0, reduceIte, Nat.reduceEqDiff, Nat.reduceAdd, Nat.reduceSub, Nat.reduceLeDiff]; rfl)); (with_reducible first | apply g_no | apply g_T | apply g_F); all_goals (try (intro hc; first | exact absurd hc (by decide) | subst hc | clear hc)))
    | ((with_reducible apply c_cond); (focus (simp only [W0, reduceIte, Nat.reduceEqDiff, Nat.reduceAdd, Nat.reduceSub, Nat.reduceLeDiff]; rfl)); all_goals (intro hc; first | exact absurd hc (by decide) | subst hc | clear hc))
    | ((with_reducible first | apply op_fcallb (f := 150) | apply d_fcallb (f := 150)); (focus ((try simp only [W0, reduceIte, Nat.reduceEqDiff, Nat.reduceAdd, Nat.reduceSub, Nat.reduceLeDiff]); exact f150 _)); intro c' hc'; all_goals (try rfl))
    | ((with_reducible first | apply op_isB | apply d_isV); (focus rfl); (focus (simp only [W0, reduceIte, Nat.reduceEqDiff, Nat.reduceAdd, Nat.reduceSub, Nat.reduceLeDiff]; rfl)); intro c' hc')
    | ((with_reducible first | apply op_step | apply op_step0 | apply d_ld | apply d_st | apply d_new | apply d_box | apply d_bsl | apply d_apw | apply d_apa | apply d_v); (focus (simp only [W0, reduceIte, Nat.reduceEqDiff, Nat.reduceAdd, Nat.reduceSub, Nat.reduceLeDiff]; rfl)); all_goals (try rfl))
  all_goals ((with_reducible apply ret_plain); (focus (simp only [resVs, resV1, look, Option.bind, Option.map, reduceIte, Nat.reduceEqDiff]; rfl)); (focus (simp [resV, idsV, idsL, slA_ids])))
  all_goals exact ⟨[], by simp_all [resV, fr, frV, frT, thawV, noneF, empS]⟩
theorem f158 (v : V60) : FCall prog 158 [.agg v.l] (.int .i64 (valF v)) := by
  have hz0 : Op.floatEq .f64 0 0 = true := by decide +kernel
  refine fcall mixed t158 (by simp [m158]) (by simp [idsL, idsV, V60.ids]) (f_body ?_)
  simp only [m158, argEnv, List.length_nil, List.nil_append, List.cons_append, Nat.zero_add, V60.l]
  repeat' first
    | (with_reducible first | apply c_seq | apply c_reg | apply c_dreg0 | apply c_block | apply c_ret | apply c_exit | apply c_skip | apply ops_nil | apply d_nil | apply k_seq_n | apply k_seq_r | apply k_seq_x | apply k_blk_n | apply k_blk_r | apply k_blk_x | apply k_end_n | apply k_end_r | apply k_loop_x | apply k_loop_r | apply c_dreg1 | apply c_dreg2)
    | ((with_reducible first | apply op_gS | apply op_g0 | apply d_gS | apply d_g0); (focus (simp only [W0, reduceIte, Nat.reduceEqDiff, Nat.reduceAdd, Nat.reduceSub, Nat.reduceLeDiff]; rfl)); (with_reducible first | apply g_no | apply g_T | apply g_F); all_goals (try (intro hc; first | exact absurd hc (by decide) | subst hc | clear hc)))
    | ((with_reducible apply c_cond); (focus (simp only [W0, reduceIte, Nat.reduceEqDiff, Nat.reduceAdd, Nat.reduceSub, Nat.reduceLeDiff]; rfl)); all_goals (intro hc; first | exact absurd hc (by decide) | subst hc | clear hc))
    | ((with_reducible first | apply op_fcallb (f := 161) | apply d_fcallb (f := 161)); (focus ((try simp only [W0, reduceIte, Nat.reduceEqDiff, Nat.reduceAdd, Nat.reduceSub, Nat.reduceLeDiff]); exact f161 _)); intro c' hc'; all_goals (try rfl))
    | ((with_reducible first | apply op_fcall (f := 162) | apply d_fcall (f := 162)); (focus ((try simp only [W0, reduceIte, Nat.reduceEqDiff, Nat.reduceAdd, Nat.reduceSub, Nat.reduceLeDiff]); first | exact f162)); all_goals (try rfl))
    | ((with_reducible first | apply op_isB | apply d_isV); (focus rfl); (focus (simp only [W0, reduceIte, Nat.reduceEqDiff, Nat.reduceAdd, Nat.reduceSub, Nat.reduceLeDiff]; rfl)); intro c' hc')
    | ((with_reducible first | apply op_step | apply op_step0 | apply d_ld | apply d_st | apply d_new | apply d_box | apply d_bsl | apply d_apw | apply d_apa | apply d_v); (focus (simp only [W0, reduceIte, Nat.reduceEqDiff, Nat.reduceAdd, Nat.reduceSub, Nat.reduceLeDiff]; rfl)); all_goals (try rfl))
  all_goals ((with_reducible apply ret_plain); (focus (simp only [resVs, resV1, look, Option.bind, Option.map, reduceIte, Nat.reduceEqDiff]; rfl)); (focus (simp [resV, idsV, idsL, slA_ids])))
  all_goals exact ⟨[], by simp_all [resV, fr, frV, frT, thawV, valF, empS, ownF, nanF, NANB] <;> first | omega | ((repeat' split) <;> omega) | trace_state⟩
theorem val_none (v : V60) (h : v.f0 = 0) : (valF v == 0) = noneF v := by
  unfold valF noneF
  rw [if_pos h, h]
  cases hb : ((v.f1 == 0) && empS v.f2)
  · simp [hb]
  · simp [hb]
theorem f157 (v : V60) : FCall prog 157 [.agg v.l] (.bool (noneF v)) := by
  have hv := val_none v
  have hn : v.f0 ≠ 0 → noneF v = false := fun h => by simp [noneF, h]
  refine fcall mixed t157 (by simp [m157]) (by simp [idsL, idsV, V60.ids]) (f_body ?_)
  simp only [m157, argEnv, List.length_nil, List.nil_append, List.cons_append, Nat.zero_add, V60.l]
  repeat' first
    | (with_reducible first | apply c_seq | apply c_reg | apply c_dreg0 | apply c_block | apply c_ret | apply c_exit | apply c_skip | apply ops_nil | apply d_nil | apply k_seq_n | apply k_seq_r | apply k_seq_x | apply k_blk_n | apply k_blk_r | apply k_blk_x | apply k_end_n | apply k_end_r | apply k_loop_x | apply k_loop_r | apply c_dreg1 | apply c_dreg2)
    | ((with_reducible first | apply op_gS | apply op_g0 | apply d_gS | apply d_g0); (focus (simp only [W0, reduceIte, Nat.reduceEqDiff, Nat.reduceAdd, Nat.reduceSub, Nat.reduceLeDiff]; rfl)); (with_reducible first | apply g_no | apply g_T | apply g_F); all_goals (try (intro hc; first | exact absurd hc (by decide) | subst hc | clear hc)))
    | ((with_reducible apply c_cond); (focus (simp only [W0, reduceIte, Nat.reduceEqDiff, Nat.reduceAdd, Nat.reduceSub, Nat.reduceLeDiff]; rfl)); all_goals (intro hc; first | exact absurd hc (by decide) | subst hc | clear hc))
    | ((with_reducible first | apply op_fcall (f := 158) | apply d_fcall (f := 158)); (focus ((try simp only [W0, reduceIte, Nat.reduceEqDiff, Nat.reduceAdd, Nat.reduceSub, Nat.reduceLeDiff]); first | exact f158 v)); all_goals (try rfl))
    | ((with_reducible first | apply op_isB | apply d_isV); (focus rfl); (focus (simp only [W0, reduceIte, Nat.reduceEqDiff, Nat.reduceAdd, Nat.reduceSub, Nat.reduceLeDiff]; rfl)); intro c' hc')
    | ((with_reducible first | apply op_step | apply op_step0 | apply d_ld | apply d_st | apply d_new | apply d_box | apply d_bsl | apply d_apw | apply d_apa | apply d_v); (focus (simp only [W0, reduceIte, Nat.reduceEqDiff, Nat.reduceAdd, Nat.reduceSub, Nat.reduceLeDiff]; rfl)); all_goals (try rfl))
  all_goals ((with_reducible apply ret_plain); (focus (simp only [resVs, resV1, look, Option.bind, Option.map, reduceIte, Nat.reduceEqDiff]; rfl)); (focus (simp [resV, idsV, idsL, slA_ids])))
  all_goals refine ⟨[], ?_⟩
  all_goals first | (simp_all [resV, fr, frV, frT, thawV]; done) | trace_state
def numOK (a b : Int) : Bool := decide (a ≥ 1) && decide (a ≤ 4) && decide (b ≥ 1) && decide (b ≤ 1099511627776)
def cmdOK (c : V62) : Bool := if c.f0 = 1 ∨ c.f0 = 3 then noneF c.f2 && noneF c.f3 else if c.f0 = 2 then noneF c.f2 && c.f3.f0 != 0 else if c.f0 = 4 then true else noneF c.f2 && c.f3.f0 == 1
def cmdF (c : V62) : Int := if c.f0 < 1 ∨ c.f0 > 6 then 15 else if (c.f1.size : Int) > 8 then 2 else if (c.f1.size : Int) < 1 ∨ valF c.f2 ≠ 0 ∨ valF c.f3 ≠ 0 then 8 else if cmdOK c then 0 else 8
def callF (c : V64) : Int := if numOK c.f0 c.f1 then cmdF c.f2 else 1
def nocallF (c : V64) : Bool := (c.f0 == 0) && (c.f1 == 0) && (c.f2.f0 == 0) && empS c.f2.f1 && noneF c.f2.f2 && noneF c.f2.f3
theorem f121 (a b : Int) : FCall prog 121 [.int .i64 a, .int .i64 b] (.bool (numOK a b)) := by
  refine fcall mixed t121 (by simp [m121]) (by simp [idsL, idsV]) (f_body ?_)
  simp only [m121, argEnv, List.length_nil, List.nil_append, List.cons_append, Nat.zero_add]
  repeat' first
    | (with_reducible first | apply c_seq | apply c_reg | apply c_dreg0 | apply c_block | apply c_ret | apply c_exit | apply c_skip | apply ops_nil | apply d_nil | apply k_seq_n | apply k_seq_r | apply k_seq_x | apply k_blk_n | apply k_blk_r | apply k_blk_x | apply k_end_n | apply k_end_r | apply k_loop_x | apply k_loop_r | apply c_dreg1 | apply c_dreg2)
    | ((with_reducible first | apply op_gS | apply op_g0 | apply d_gS | apply d_g0); (focus (simp only [W0, reduceIte, Nat.reduceEqDiff, Nat.reduceAdd, Nat.reduceSub, Nat.reduceLeDiff]; rfl)); (with_reducible first | apply g_no | apply g_T | apply g_F); all_goals (try (intro hc; first | exact absurd hc (by decide) | subst hc | clear hc)))
    | ((with_reducible apply c_cond); (focus (simp only [W0, reduceIte, Nat.reduceEqDiff, Nat.reduceAdd, Nat.reduceSub, Nat.reduceLeDiff]; rfl)); all_goals (intro hc; first | exact absurd hc (by decide) | subst hc | clear hc))
    | ((with_reducible first | apply op_isB | apply d_isV); (focus rfl); (focus (simp only [W0, reduceIte, Nat.reduceEqDiff, Nat.reduceAdd, Nat.reduceSub, Nat.reduceLeDiff]; rfl)); intro c' hc')
    | ((with_reducible first | apply op_step | apply op_step0 | apply d_ld | apply d_st | apply d_new | apply d_box | apply d_bsl | apply d_apw | apply d_apa | apply d_v); (focus (simp only [W0, reduceIte, Nat.reduceEqDiff, Nat.reduceAdd, Nat.reduceSub, Nat.reduceLeDiff]; rfl)); all_goals (try rfl))
  all_goals ((with_reducible apply ret_plain); (focus (simp only [resVs, resV1, look, Option.bind, Option.map, reduceIte, Nat.reduceEqDiff]; rfl)); (focus (simp [resV, idsV, idsL, slA_ids])))
  all_goals exact ⟨[], by simp_all [resV, fr, frV, frT, thawV, numOK] <;> (intros; omega)⟩
theorem f140 (s : ByteArray) : FCall prog 140 [.str s] (.bool (decide ((s.size : Int) ≥ 1) && decide ((s.size : Int) ≤ 8))) := by
  refine fcall mixed t140 (by simp [m140]) (by simp [idsL, idsV]) (f_body ?_)
  simp only [m140, argEnv, List.length_nil, List.nil_append, List.cons_append, Nat.zero_add]
  repeat' first
    | (with_reducible first | apply c_seq | apply c_reg | apply c_dreg0 | apply c_block | apply c_ret | apply c_exit | apply c_skip | apply ops_nil | apply d_nil | apply k_seq_n | apply k_seq_r | apply k_seq_x | apply k_blk_n | apply k_blk_r | apply k_blk_x | apply k_end_n | apply k_end_r | apply k_loop_x | apply k_loop_r | apply c_dreg1 | apply c_dreg2)
    | ((with_reducible first | apply op_gS | apply op_g0 | apply d_gS | apply d_g0); (focus (simp only [W0, reduceIte, Nat.reduceEqDiff, Nat.reduceAdd, Nat.reduceSub, Nat.reduceLeDiff]; rfl)); (with_reducible first | apply g_no | apply g_T | apply g_F); all_goals (try (intro hc; first | exact absurd hc (by decide) | subst hc | clear hc)))
    | ((with_reducible apply c_cond); (focus (simp only [W0, reduceIte, Nat.reduceEqDiff, Nat.reduceAdd, Nat.reduceSub, Nat.reduceLeDiff]; rfl)); all_goals (intro hc; first | exact absurd hc (by decide) | subst hc | clear hc))
    | ((with_reducible first | apply op_isB | apply d_isV); (focus rfl); (focus (simp only [W0, reduceIte, Nat.reduceEqDiff, Nat.reduceAdd, Nat.reduceSub, Nat.reduceLeDiff]; rfl)); intro c' hc')
    | ((with_reducible first | apply op_step | apply op_step0 | apply d_ld | apply d_st | apply d_new | apply d_box | apply d_bsl | apply d_apw | apply d_apa | apply d_v); (focus (simp only [W0, reduceIte, Nat.reduceEqDiff, Nat.reduceAdd, Nat.reduceSub, Nat.reduceLeDiff]; rfl)); all_goals (try rfl))
  all_goals ((with_reducible apply ret_plain); (focus (simp only [resVs, resV1, look, Option.bind, Option.map, reduceIte, Nat.reduceEqDiff]; rfl)); (focus (simp [resV, idsV, idsL, slA_ids])))
  all_goals exact ⟨[], by simp_all [resV, fr, frV, frT, thawV, numOK] <;> (intros; omega)⟩
theorem f122 (c : V62) : FCall prog 122 [.agg c.l] (.int .i64 (cmdF c)) := by
  refine fcall mixed t122 (by simp [m122]) (by simp [idsL, idsV, V62.ids]) (f_body ?_)
  simp only [m122, argEnv, List.length_nil, List.nil_append, List.cons_append, Nat.zero_add, V62.l, V60.l]
  repeat' first
    | (with_reducible first | apply c_seq | apply c_reg | apply c_dreg0 | apply c_block | apply c_ret | apply c_exit | apply c_skip | apply ops_nil | apply d_nil | apply k_seq_n | apply k_seq_r | apply k_seq_x | apply k_blk_n | apply k_blk_r | apply k_blk_x | apply k_end_n | apply k_end_r | apply k_loop_x | apply k_loop_r | apply c_dreg1 | apply c_dreg2)
    | ((with_reducible first | apply op_gS | apply op_g0 | apply d_gS | apply d_g0); (focus (simp only [W0, reduceIte, Nat.reduceEqDiff, Nat.reduceAdd, Nat.reduceSub, Nat.reduceLeDiff]; rfl)); (with_reducible first | apply g_no | apply g_T | apply g_F); all_goals (try (intro hc; first | exact absurd hc (by decide) | subst hc | clear hc)))
    | ((with_reducible apply c_cond); (focus (simp only [W0, reduceIte, Nat.reduceEqDiff, Nat.reduceAdd, Nat.reduceSub, Nat.reduceLeDiff]; rfl)); all_goals (intro hc; first | exact absurd hc (by decide) | subst hc | clear hc))
    | ((with_reducible first | apply op_fcallb (f := 140) | apply d_fcallb (f := 140)); (focus ((try simp only [W0, reduceIte, Nat.reduceEqDiff, Nat.reduceAdd, Nat.reduceSub, Nat.reduceLeDiff]); exact f140 _)); intro c' hc'; all_goals (try rfl))
    | ((with_reducible first | apply op_fcallb (f := 142) | apply d_fcallb (f := 142)); (focus ((try simp only [W0, reduceIte, Nat.reduceEqDiff, Nat.reduceAdd, Nat.reduceSub, Nat.reduceLeDiff]); exact f142 c.f2)); intro c' hc'; all_goals (try rfl))
    | ((with_reducible first | apply op_fcallb (f := 142) | apply d_fcallb (f := 142)); (focus ((try simp only [W0, reduceIte, Nat.reduceEqDiff, Nat.reduceAdd, Nat.reduceSub, Nat.reduceLeDiff]); exact f142 c.f3)); intro c' hc'; all_goals (try rfl))
    | ((with_reducible first | apply op_fcall (f := 141) | apply d_fcall (f := 141)); (focus ((try simp only [W0, reduceIte, Nat.reduceEqDiff, Nat.reduceAdd, Nat.reduceSub, Nat.reduceLeDiff]); first | exact f141 c.f2 | exact f141 c.f3)); all_goals (try rfl))
    | ((with_reducible first | apply op_isB | apply d_isV); (focus rfl); (focus (simp only [W0, reduceIte, Nat.reduceEqDiff, Nat.reduceAdd, Nat.reduceSub, Nat.reduceLeDiff]; rfl)); intro c' hc')
    | ((with_reducible first | apply op_step | apply op_step0 | apply d_ld | apply d_st | apply d_new | apply d_box | apply d_bsl | apply d_apw | apply d_apa | apply d_v); (focus (simp only [W0, reduceIte, Nat.reduceEqDiff, Nat.reduceAdd, Nat.reduceSub, Nat.reduceLeDiff]; rfl)); all_goals (try rfl))
  all_goals ((with_reducible apply ret_plain); (focus (simp only [resVs, resV1, look, Option.bind, Option.map, reduceIte, Nat.reduceEqDiff]; rfl)); (focus (simp [resV, idsV, idsL, slA_ids])))
  all_goals exact ⟨[], by simp_all [resV, fr, frV, frT, thawV, cmdF, cmdOK] <;> omega⟩
theorem f91 (c : V64) : FCall prog 91 [.agg c.l] (.int .i64 (callF c)) := by
  refine fcall mixed t91 (by simp [m91]) (by simp [idsL, idsV, V64.ids]) (f_body ?_)
  simp only [m91, argEnv, List.length_nil, List.nil_append, List.cons_append, Nat.zero_add, V64.l, V62.l, V60.l]
  repeat' first
    | (with_reducible first | apply c_seq | apply c_reg | apply c_dreg0 | apply c_block | apply c_ret | apply c_exit | apply c_skip | apply ops_nil | apply d_nil | apply k_seq_n | apply k_seq_r | apply k_seq_x | apply k_blk_n | apply k_blk_r | apply k_blk_x | apply k_end_n | apply k_end_r | apply k_loop_x | apply k_loop_r | apply c_dreg1 | apply c_dreg2)
    | ((with_reducible first | apply op_gS | apply op_g0 | apply d_gS | apply d_g0); (focus (simp only [W0, reduceIte, Nat.reduceEqDiff, Nat.reduceAdd, Nat.reduceSub, Nat.reduceLeDiff]; rfl)); (with_reducible first | apply g_no | apply g_T | apply g_F); all_goals (try (intro hc; first | exact absurd hc (by decide) | subst hc | clear hc)))
    | ((with_reducible apply c_cond); (focus (simp only [W0, reduceIte, Nat.reduceEqDiff, Nat.reduceAdd, Nat.reduceSub, Nat.reduceLeDiff]; rfl)); all_goals (intro hc; first | exact absurd hc (by decide) | subst hc | clear hc))
    | ((with_reducible first | apply op_fcallb (f := 121) | apply d_fcallb (f := 121)); (focus ((try simp only [W0, reduceIte, Nat.reduceEqDiff, Nat.reduceAdd, Nat.reduceSub, Nat.reduceLeDiff]); exact f121 _ _)); intro c' hc'; all_goals (try rfl))
    | ((with_reducible first | apply op_fcall (f := 122) | apply d_fcall (f := 122)); (focus ((try simp only [W0, reduceIte, Nat.reduceEqDiff, Nat.reduceAdd, Nat.reduceSub, Nat.reduceLeDiff]); first | exact f122 c.f2)); all_goals (try rfl))
    | ((with_reducible first | apply op_isB | apply d_isV); (focus rfl); (focus (simp only [W0, reduceIte, Nat.reduceEqDiff, Nat.reduceAdd, Nat.reduceSub, Nat.reduceLeDiff]; rfl)); intro c' hc')
    | ((with_reducible first | apply op_step | apply op_step0 | apply d_ld | apply d_st | apply d_new | apply d_box | apply d_bsl | apply d_apw | apply d_apa | apply d_v); (focus (simp only [W0, reduceIte, Nat.reduceEqDiff, Nat.reduceAdd, Nat.reduceSub, Nat.reduceLeDiff]; rfl)); all_goals (try rfl))
  all_goals ((with_reducible apply ret_plain); (focus (simp only [resVs, resV1, look, Option.bind, Option.map, reduceIte, Nat.reduceEqDiff]; rfl)); (focus (simp [resV, idsV, idsL, slA_ids])))
  all_goals exact ⟨[], by simp_all [resV, fr, frV, frT, thawV, callF]⟩
theorem f144 (c : V64) : FCall prog 144 [.agg c.l] (.bool (nocallF c)) := by
  refine fcall mixed t144 (by simp [m144]) (by simp [idsL, idsV, V64.ids]) (f_body ?_)
  simp only [m144, argEnv, List.length_nil, List.nil_append, List.cons_append, Nat.zero_add, V64.l, V62.l, V60.l]
  repeat' first
    | (with_reducible first | apply c_seq | apply c_reg | apply c_dreg0 | apply c_block | apply c_ret | apply c_exit | apply c_skip | apply ops_nil | apply d_nil | apply k_seq_n | apply k_seq_r | apply k_seq_x | apply k_blk_n | apply k_blk_r | apply k_blk_x | apply k_end_n | apply k_end_r | apply k_loop_x | apply k_loop_r | apply c_dreg1 | apply c_dreg2)
    | ((with_reducible first | apply op_gS | apply op_g0 | apply d_gS | apply d_g0); (focus (simp only [W0, reduceIte, Nat.reduceEqDiff, Nat.reduceAdd, Nat.reduceSub, Nat.reduceLeDiff]; rfl)); (with_reducible first | apply g_no | apply g_T | apply g_F); all_goals (try (intro hc; first | exact absurd hc (by decide) | subst hc | clear hc)))
    | ((with_reducible apply c_cond); (focus (simp only [W0, reduceIte, Nat.reduceEqDiff, Nat.reduceAdd, Nat.reduceSub, Nat.reduceLeDiff]; rfl)); all_goals (intro hc; first | exact absurd hc (by decide) | subst hc | clear hc))
    | ((with_reducible first | apply op_fcallb (f := 153) | apply d_fcallb (f := 153)); (focus ((try simp only [W0, reduceIte, Nat.reduceEqDiff, Nat.reduceAdd, Nat.reduceSub, Nat.reduceLeDiff]); exact f153 c.f2.f2)); intro c' hc'; all_goals (try rfl))
    | ((with_reducible first | apply op_fcallb (f := 153) | apply d_fcallb (f := 153)); (focus ((try simp only [W0, reduceIte, Nat.reduceEqDiff, Nat.reduceAdd, Nat.reduceSub, Nat.reduceLeDiff]); exact f153 c.f2.f3)); intro c' hc'; all_goals (try rfl))
    | ((with_reducible first | apply op_isB | apply d_isV); (focus rfl); (focus (simp only [W0, reduceIte, Nat.reduceEqDiff, Nat.reduceAdd, Nat.reduceSub, Nat.reduceLeDiff]; rfl)); intro c' hc')
    | ((with_reducible first | apply op_step | apply op_step0 | apply d_ld | apply d_st | apply d_new | apply d_box | apply d_bsl | apply d_apw | apply d_apa | apply d_v); (focus (simp only [W0, reduceIte, Nat.reduceEqDiff, Nat.reduceAdd, Nat.reduceSub, Nat.reduceLeDiff]; rfl)); all_goals (try rfl))
  all_goals ((with_reducible apply ret_plain); (focus (simp only [resVs, resV1, look, Option.bind, Option.map, reduceIte, Nat.reduceEqDiff]; rfl)); (focus (simp [resV, idsV, idsL, slA_ids])))
  all_goals exact ⟨[], by simp_all [resV, fr, frV, frT, thawV, nocallF, empS]⟩
end Go.Sk
