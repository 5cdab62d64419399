/- The law GrowTakes, walked. Conditions: none. -/
import Derived.Test.YtnbmngpdbnkhaaaC6Spec24
import Derived.Test.YtnbmngpdbnkhaaaC6Spec23
import Derived.Test.YtnbmngpdbnkhaaaC6Spec19
import Derived.Test.YtnbmngpdbnkhaaaC6Wake16
set_option linter.unusedVariables false
set_option linter.unusedSimpArgs false
set_option maxRecDepth 200000
set_option maxHeartbeats 8000000
namespace Go.Sk
open Go.Proofs.Try
theorem law6_heavy (v : V27) (hv : v.ok) (c : Int) (m : V34) (hm : m.ok) (hl : ¬ (lightH v ∧ lightM m)) : FCall prog 6 [.agg v.l, .int .i64 c, .agg m.l] (.bool true) := by
  refine fcall mixed t6 (by simp [m6]) (by simp [idsL, idsV, V27.ids, V34.ids]) (f_body ?_)
  simp only [m6, argEnv, List.length_nil, List.nil_append, List.cons_append, Nat.zero_add, V27.l, V23.l, V34.l]
  repeat' first
    | (with_reducible first | apply c_seq | apply c_reg | apply c_dreg0 | apply c_block | apply c_ret | apply c_exit | apply c_skip | apply ops_nil | apply d_nil | apply k_seq_n | apply k_seq_r | apply k_seq_x | apply k_blk_n | apply k_blk_r | apply k_blk_x | apply k_end_n | apply k_end_r | apply k_loop_x | apply k_loop_r | apply c_dreg1 | apply c_dreg2)
    | ((with_reducible first | apply op_gS | apply op_g0 | apply d_gS | apply d_g0); (focus (simp only [W0, reduceIte, Nat.reduceEqDiff, Nat.reduceAdd, Nat.reduceSub, Nat.reduceLeDiff, beq_self_eq_true, bne_self_eq_false, BEq.rfl]; rfl)); (with_reducible first | apply g_no | apply g_T | apply g_F); all_goals (try (intro hc; first | exact absurd hc (by decide) | subst hc | clear hc)))
    | ((with_reducible apply c_cond); (focus (simp only [W0, reduceIte, Nat.reduceEqDiff, Nat.reduceAdd, Nat.reduceSub, Nat.reduceLeDiff, beq_self_eq_true, bne_self_eq_false, BEq.rfl]; rfl)); all_goals (intro hc; first | exact absurd hc (by decide) | subst hc | clear hc))
    | ((with_reducible apply op_bcallQ (f := 32)); (focus ((try simp only [W0, reduceIte, Nat.reduceEqDiff, Nat.reduceAdd, Nat.reduceSub, Nat.reduceLeDiff, beq_self_eq_true, bne_self_eq_false, BEq.rfl]); exact f32b v hv)); intro c' hq')
    | ((with_reducible apply op_bcallQ (f := 14)); (focus ((try simp only [W0, reduceIte, Nat.reduceEqDiff, Nat.reduceAdd, Nat.reduceSub, Nat.reduceLeDiff, beq_self_eq_true, bne_self_eq_false, BEq.rfl]); exact f14b m hm)); intro c' hq')
    | ((with_reducible first | apply op_isB | apply d_isV); (focus rfl); (focus (simp only [W0, reduceIte, Nat.reduceEqDiff, Nat.reduceAdd, Nat.reduceSub, Nat.reduceLeDiff, beq_self_eq_true, bne_self_eq_false, BEq.rfl]; rfl)); intro c' hc'; try with_reducible first | cases (show true = c' from hc') | cases (show false = c' from hc'))
    | ((with_reducible first | apply op_step | apply op_step0 | apply d_ld | apply d_st | apply d_new | apply d_box | apply d_bsl | apply d_apw | apply d_apa | apply d_v); (focus (simp only [W0, reduceIte, Nat.reduceEqDiff, Nat.reduceAdd, Nat.reduceSub, Nat.reduceLeDiff, beq_self_eq_true, bne_self_eq_false, BEq.rfl]; rfl)); all_goals (try rfl))
  all_goals first | (exfalso; apply hl; constructor <;> (apply_assumption <;> rfl)) | skip
  all_goals ((with_reducible apply ret_plain); (focus (simp only [W0, reduceIte, Nat.reduceEqDiff, Nat.reduceAdd, Nat.reduceSub, Nat.reduceLeDiff]; rfl)); (focus (simp [resV, idsV, idsL, slA_ids, ints_ids])))
  all_goals exact ⟨[], by simp_all [resV, F1, frT, frL, thawV]⟩
theorem twin_like (m : V34) : like m (nz (slL m.f9)) (nz (slL m.f11)) (nz ((slL m.f12).map twinL)) := ⟨slL_nz _, slL_nz _, by rw [slL_nz]; simp⟩
theorem twin_in (m : V34) : likeIn (nz ((slL m.f12).map twinL)) m := by
  intro k q h
  rw [slL_nz, List.getElem?_map, h]
  refine ⟨nz (slL q.f9), nz (slL q.f11), nz ((slL q.f12).map lowL), ?_, slL_nz _, slL_nz _, by rw [slL_nz]; simp⟩
  simp only [Option.map_some, twinL, un34_l]; rfl
theorem law6_main (v : V27) (hv : v.ok) (c : Int) (m : V34) (hm : m.ok) (hl : lightH v) (hlm : lightM m) (x X : V27) (d e : Int) (y : V34) (h35 : ∀ n, FCallN prog 35 [.agg (twinH v).l, .int .i64 c, .agg (twinM m).l] n (takeS n ⟨x, d, y, e⟩) x.rw) (h36 : FCall prog 36 [.agg v.l, .int .i64 c, .agg m.l] (takeV X d y e))
    (h37 : FCall prog 37 [.agg x.l, .agg X.l] (.bool true)) (h38 : FCall prog 38 [.agg y.l, .agg y.l] (.bool true)) (hx5 : (∀ us ∈ slL x.f5, HasT prog 5 us) ∧ (slL x.f5).length ≤ maxLen) (hx6 : (∀ us ∈ slL x.f6, HasT prog 66 us) ∧ (slL x.f6).length ≤ maxLen) : FCall prog 6 [.agg v.l, .int .i64 c, .agg m.l] (.bool true) := by
  have h33 := f33 v hl
  have h34 := f34 m hm hlm
  have h37b : FCall prog 37 [.agg (twinH v).l, .agg v.l] (.bool true) := f37 v hv (nz (slL v.f5)) (nz (slL v.f6)) (slL_nz _) (slL_nz _)
  have h38b : FCall prog 38 [.agg (twinM m).l, .agg m.l] (.bool true) := f38 m hm.sl _ _ _ (twin_like m) (twin_in m)
  simp only [takeS, takeV, V27.s, V27.rw] at h35 h36
  generalize twinH v = vt at h33 h35 h37b
  generalize twinM m = mt at h34 h35 h38b
  simp only [V27.l, V34.l, V23.l, List.cons_append, List.nil_append] at h33 h34 h35 h36 h37 h38 h37b h38b
  refine fcall mixed t6 (by simp [m6]) (by simp [idsL, idsV, V27.ids, V34.ids]) (f_body ?_)
  simp only [m6, argEnv, List.length_nil, List.nil_append, List.cons_append, Nat.zero_add, V27.l, V23.l, V34.l]
  repeat' first
    | (with_reducible first | apply c_seq | apply c_reg | apply c_dreg0 | apply c_block | apply c_ret | apply c_exit | apply c_skip | apply ops_nil | apply d_nil | apply k_seq_n | apply k_seq_r | apply k_seq_x | apply k_blk_n | apply k_blk_r | apply k_blk_x | apply k_end_n | apply k_end_r | apply k_loop_x | apply k_loop_r | apply c_dreg1 | apply c_dreg2)
    | ((with_reducible first | apply op_gS | apply op_g0 | apply d_gS | apply d_g0); (focus (simp only [W0, reduceIte, Nat.reduceEqDiff, Nat.reduceAdd, Nat.reduceSub, Nat.reduceLeDiff, beq_self_eq_true, bne_self_eq_false, BEq.rfl, W5, V27.l, V34.l, V23.l, List.cons_append, List.nil_append]; rfl)); (with_reducible first | apply g_no | apply g_T | apply g_F); all_goals (try (intro hc; first | exact absurd hc (by decide) | subst hc | clear hc)))
    | ((with_reducible apply c_cond); (focus (simp only [W0, reduceIte, Nat.reduceEqDiff, Nat.reduceAdd, Nat.reduceSub, Nat.reduceLeDiff, beq_self_eq_true, bne_self_eq_false, BEq.rfl, W5, V27.l, V34.l, V23.l, List.cons_append, List.nil_append]; rfl)); all_goals (intro hc; first | exact absurd hc (by decide) | subst hc | clear hc))
    | ((with_reducible apply op_bcallQ (f := 32)); (focus ((try simp only [W0, reduceIte, Nat.reduceEqDiff, Nat.reduceAdd, Nat.reduceSub, Nat.reduceLeDiff, beq_self_eq_true, bne_self_eq_false, BEq.rfl, W5, V27.l, V34.l, V23.l, List.cons_append, List.nil_append]); exact f32b v hv)); intro c' hq')
    | ((with_reducible apply op_bcallQ (f := 14)); (focus ((try simp only [W0, reduceIte, Nat.reduceEqDiff, Nat.reduceAdd, Nat.reduceSub, Nat.reduceLeDiff, beq_self_eq_true, bne_self_eq_false, BEq.rfl, W5, V27.l, V34.l, V23.l, List.cons_append, List.nil_append]); exact f14b m hm)); intro c' hq')
    | ((with_reducible first | apply op_cn (f := 35) | apply d_cn (f := 35)); (focus ((try simp only [W0, reduceIte, Nat.reduceEqDiff, Nat.reduceAdd, Nat.reduceSub, Nat.reduceLeDiff, beq_self_eq_true, bne_self_eq_false, BEq.rfl, W5, V27.l, V34.l, V23.l, List.cons_append, List.nil_append]); exact h35 _)); all_goals (try rfl))
    | ((with_reducible first | apply op_fcall (f := 33) | apply d_fcall (f := 33)); (focus ((try simp only [W0, reduceIte, Nat.reduceEqDiff, Nat.reduceAdd, Nat.reduceSub, Nat.reduceLeDiff, beq_self_eq_true, bne_self_eq_false, BEq.rfl, W5, V27.l, V34.l, V23.l, List.cons_append, List.nil_append]); first | exact h33)); all_goals (try rfl))
    | ((with_reducible first | apply op_fcall (f := 34) | apply d_fcall (f := 34)); (focus ((try simp only [W0, reduceIte, Nat.reduceEqDiff, Nat.reduceAdd, Nat.reduceSub, Nat.reduceLeDiff, beq_self_eq_true, bne_self_eq_false, BEq.rfl, W5, V27.l, V34.l, V23.l, List.cons_append, List.nil_append]); first | exact h34)); all_goals (try rfl))
    | ((with_reducible first | apply op_fcall (f := 36) | apply d_fcall (f := 36)); (focus ((try simp only [W0, reduceIte, Nat.reduceEqDiff, Nat.reduceAdd, Nat.reduceSub, Nat.reduceLeDiff, beq_self_eq_true, bne_self_eq_false, BEq.rfl, W5, V27.l, V34.l, V23.l, List.cons_append, List.nil_append]); first | exact h36)); all_goals (try rfl))
    | ((with_reducible first | apply op_isB | apply d_isV); (focus rfl); (focus (simp only [W0, reduceIte, Nat.reduceEqDiff, Nat.reduceAdd, Nat.reduceSub, Nat.reduceLeDiff, beq_self_eq_true, bne_self_eq_false, BEq.rfl, W5, V27.l, V34.l, V23.l, List.cons_append, List.nil_append]; rfl)); intro c' hc'; try with_reducible first | cases (show true = c' from hc') | cases (show false = c' from hc'))
    | ((with_reducible first | apply op_step | apply op_step0 | apply d_ld | apply d_st | apply d_new | apply d_box | apply d_bsl | apply d_apw | apply d_apa | apply d_v); (focus (simp only [W0, reduceIte, Nat.reduceEqDiff, Nat.reduceAdd, Nat.reduceSub, Nat.reduceLeDiff, beq_self_eq_true, bne_self_eq_false, BEq.rfl, W5, V27.l, V34.l, V23.l, List.cons_append, List.nil_append]; rfl)); all_goals (try rfl))
  all_goals first | (exfalso; refine Bool.false_ne_true ?_; first | assumption | (symm; assumption)) | (exact absurd ‹true = false› (by decide)) | skip
  any_goals (((with_reducible apply ret_plain); (focus (simp only [W0, reduceIte, Nat.reduceEqDiff, Nat.reduceAdd, Nat.reduceSub, Nat.reduceLeDiff]; rfl)); (focus (simp [resV, idsV, idsL, slA_ids, ints_ids]))); exact ⟨[], by simp [resV, F1, frT, frL, thawV]⟩)
  (apply op_borrow (h := h37)); (focus (simp only [look, Opd.get, List.map, Nat.reduceEqDiff, reduceIte, frT, frV, frL, Option.bind, Option.map, F1, fr1_slS, W1, List.getElem?_cons_succ, List.getElem?_cons_zero, List.set_cons_succ, List.set_cons_zero]; rfl))
  repeat' first
    | (with_reducible first | apply c_seq | apply c_reg | apply c_dreg0 | apply c_block | apply c_ret | apply c_exit | apply c_skip | apply ops_nil | apply d_nil | apply k_seq_n | apply k_seq_r | apply k_seq_x | apply k_blk_n | apply k_blk_r | apply k_blk_x | apply k_end_n | apply k_end_r | apply k_loop_x | apply k_loop_r | apply c_dreg1 | apply c_dreg2)
    | ((with_reducible first | apply op_gS | apply op_g0 | apply d_gS | apply d_g0); (focus (simp only [W0, reduceIte, Nat.reduceEqDiff, Nat.reduceAdd, Nat.reduceSub, Nat.reduceLeDiff, beq_self_eq_true, bne_self_eq_false, BEq.rfl, W5, V27.l, V34.l, V23.l, List.cons_append, List.nil_append]; rfl)); (with_reducible first | apply g_no | apply g_T | apply g_F); all_goals (try (intro hc; first | exact absurd hc (by decide) | subst hc | clear hc)))
    | ((with_reducible apply c_cond); (focus (simp only [W0, reduceIte, Nat.reduceEqDiff, Nat.reduceAdd, Nat.reduceSub, Nat.reduceLeDiff, beq_self_eq_true, bne_self_eq_false, BEq.rfl, W5, V27.l, V34.l, V23.l, List.cons_append, List.nil_append]; rfl)); all_goals (intro hc; first | exact absurd hc (by decide) | subst hc | clear hc))
    | ((with_reducible first | apply op_fcall (f := 38) | apply d_fcall (f := 38)); (focus ((try simp only [W0, reduceIte, Nat.reduceEqDiff, Nat.reduceAdd, Nat.reduceSub, Nat.reduceLeDiff, beq_self_eq_true, bne_self_eq_false, BEq.rfl, W5, V27.l, V34.l, V23.l, List.cons_append, List.nil_append]); first | exact h38)); all_goals (try rfl))
    | ((with_reducible first | apply op_isB | apply d_isV); (focus rfl); (focus (simp only [W0, reduceIte, Nat.reduceEqDiff, Nat.reduceAdd, Nat.reduceSub, Nat.reduceLeDiff, beq_self_eq_true, bne_self_eq_false, BEq.rfl, W5, V27.l, V34.l, V23.l, List.cons_append, List.nil_append]; rfl)); intro c' hc'; try with_reducible first | cases (show true = c' from hc') | cases (show false = c' from hc'))
    | ((with_reducible first | apply op_step | apply op_step0 | apply d_ld | apply d_st | apply d_new | apply d_box | apply d_bsl | apply d_apw | apply d_apa | apply d_v); (focus (simp only [W0, reduceIte, Nat.reduceEqDiff, Nat.reduceAdd, Nat.reduceSub, Nat.reduceLeDiff, beq_self_eq_true, bne_self_eq_false, BEq.rfl, W5, V27.l, V34.l, V23.l, List.cons_append, List.nil_append]; rfl)); all_goals (try rfl))
  all_goals first | (exfalso; refine Bool.false_ne_true ?_; first | assumption | (symm; assumption)) | (exact absurd ‹true = false› (by decide)) | skip
  refine op_cwk (f39 _ [] 4 5 x hx5 hx6 (by decide) rfl rfl ?_) ?_
  · intro r hr j hj
    simp only [List.mem_cons, List.not_mem_nil, or_false] at hr
    simp only [List.length_cons, List.length_nil]
    rcases hr with rfl | rfl | rfl | rfl | rfl | rfl | rfl | rfl | rfl | rfl
    all_goals simp [idsR_box, idsL, idsV, slA_ids, rwS_ids] at hj
    all_goals (rcases hj with hj | hj <;> have := slS_ids hj <;> omega)
  rintro u rs ⟨o5, o6, rfl⟩
  simp only [List.set_cons_succ, List.set_cons_zero]
  repeat' first
    | (with_reducible first | apply c_seq | apply c_reg | apply c_dreg0 | apply c_block | apply c_ret | apply c_exit | apply c_skip | apply ops_nil | apply d_nil | apply k_seq_n | apply k_seq_r | apply k_seq_x | apply k_blk_n | apply k_blk_r | apply k_blk_x | apply k_end_n | apply k_end_r | apply k_loop_x | apply k_loop_r | apply c_dreg1 | apply c_dreg2)
    | ((with_reducible first | apply op_gS | apply op_g0 | apply d_gS | apply d_g0); (focus (simp only [W0, reduceIte, Nat.reduceEqDiff, Nat.reduceAdd, Nat.reduceSub, Nat.reduceLeDiff, beq_self_eq_true, bne_self_eq_false, BEq.rfl, W5, V27.l, V34.l, V23.l, List.cons_append, List.nil_append]; rfl)); (with_reducible first | apply g_no | apply g_T | apply g_F); all_goals (try (intro hc; first | exact absurd hc (by decide) | subst hc | clear hc)))
    | ((with_reducible apply c_cond); (focus (simp only [W0, reduceIte, Nat.reduceEqDiff, Nat.reduceAdd, Nat.reduceSub, Nat.reduceLeDiff, beq_self_eq_true, bne_self_eq_false, BEq.rfl, W5, V27.l, V34.l, V23.l, List.cons_append, List.nil_append]; rfl)); all_goals (intro hc; first | exact absurd hc (by decide) | subst hc | clear hc))
    | ((with_reducible first | apply op_fcall (f := 37) | apply d_fcall (f := 37)); (focus ((try simp only [W0, reduceIte, Nat.reduceEqDiff, Nat.reduceAdd, Nat.reduceSub, Nat.reduceLeDiff, beq_self_eq_true, bne_self_eq_false, BEq.rfl, W5, V27.l, V34.l, V23.l, List.cons_append, List.nil_append]); first | exact h37b)); all_goals (try rfl))
    | ((with_reducible first | apply op_fcall (f := 38) | apply d_fcall (f := 38)); (focus ((try simp only [W0, reduceIte, Nat.reduceEqDiff, Nat.reduceAdd, Nat.reduceSub, Nat.reduceLeDiff, beq_self_eq_true, bne_self_eq_false, BEq.rfl, W5, V27.l, V34.l, V23.l, List.cons_append, List.nil_append]); first | exact h38b)); all_goals (try rfl))
    | ((with_reducible first | apply op_fcall (f := 40) | apply d_fcall (f := 40)); (focus ((try simp only [W0, reduceIte, Nat.reduceEqDiff, Nat.reduceAdd, Nat.reduceSub, Nat.reduceLeDiff, beq_self_eq_true, bne_self_eq_false, BEq.rfl, W5, V27.l, V34.l, V23.l, List.cons_append, List.nil_append]); first | exact f40)); all_goals (try rfl))
    | ((with_reducible first | apply op_isB | apply d_isV); (focus rfl); (focus (simp only [W0, reduceIte, Nat.reduceEqDiff, Nat.reduceAdd, Nat.reduceSub, Nat.reduceLeDiff, beq_self_eq_true, bne_self_eq_false, BEq.rfl, W5, V27.l, V34.l, V23.l, List.cons_append, List.nil_append]; rfl)); intro c' hc'; try with_reducible first | cases (show true = c' from hc') | cases (show false = c' from hc'))
    | ((with_reducible first | apply op_step | apply op_step0 | apply d_ld | apply d_st | apply d_new | apply d_box | apply d_bsl | apply d_apw | apply d_apa | apply d_v); (focus (simp only [W0, reduceIte, Nat.reduceEqDiff, Nat.reduceAdd, Nat.reduceSub, Nat.reduceLeDiff, beq_self_eq_true, bne_self_eq_false, BEq.rfl, W5, V27.l, V34.l, V23.l, List.cons_append, List.nil_append]; rfl)); all_goals (try rfl))
  all_goals first | (exfalso; refine Bool.false_ne_true ?_; first | assumption | (symm; assumption)) | (exact absurd ‹true = false› (by decide)) | skip
  all_goals ((with_reducible apply ret_plain); (focus (simp only [W0, reduceIte, Nat.reduceEqDiff, Nat.reduceAdd, Nat.reduceSub, Nat.reduceLeDiff]; rfl)); (focus (simp [resV, idsV, idsL, slA_ids, ints_ids])))
  all_goals exact ⟨[], by simp_all [resV, F1, frT, frL, thawV]⟩
theorem law6 (v : V27) (hv : v.ok) (c : Int) (m : V34) (hm : m.ok) : FCall prog 6 [.agg v.l, .int .i64 c, .agg m.l] (.bool true) := by
  by_cases hl : lightH v ∧ lightM m
  · obtain ⟨hl, hlm⟩ := hl
    obtain ⟨X, hs, hX, h36⟩ := f36 v hv c m hm hl
    obtain ⟨hs2, hc2, hy2, he2⟩ := take_same (same_twin v) c m (nz (slL m.f9)) (nz (slL m.f11)) (nz ((slL m.f12).map twinL)) (slL_nz _)
    have hmo : (twinM m).o9 := ⟨by show (∀ us ∈ slL (nz (slL m.f9)), HasT prog 66 us) ∧ (slL (nz (slL m.f9))).length ≤ maxLen; rw [slL_nz]; exact hm.h9⟩
    have h35 := fun n => f35N (twinH v) (twinH_ok hv) c (twinM m) hmo (by rw [show slL (twinH v).f5 = slL v.f5 from slL_nz _]; exact Nat.le_trans hl.2 (by decide)) (by rw [show slL (twinH v).f6 = slL v.f6 from slL_nz _]; exact Nat.le_trans hl.1 (by decide)) n
    have e0 : takeR (twinH v) c (twinM m) = takeR (twinH v) c (reM m (nz (slL m.f9)) (nz (slL m.f11)) (nz ((slL m.f12).map twinL))) := rfl
    rw [e0] at h35
    generalize takeR (twinH v) c (reM m (nz (slL m.f9)) (nz (slL m.f11)) (nz ((slL m.f12).map twinL))) = r1 at h35 hs2 hc2 hy2 he2
    have hy0 : slL (takeR v c m).y.f9 = [] ∧ slL (takeR v c m).y.f11 = [] ∧ slL (takeR v c m).y.f12 = [] := by
      unfold takeR; repeat' split
      all_goals simp [zero34, answer, slL]
    generalize takeR v c m = r0 at h36 hs hs2 hc2 hy2 he2 hy0
    obtain ⟨x, d, y, e⟩ := r1
    obtain ⟨x0, d0, y0, e0⟩ := r0
    simp only at hc2 hy2 he2 hs hs2 h36 h35 hy0
    subst hc2 hy2 he2
    have hsx : slL x.f5 = slL X.f5 ∧ slL x.f6 = slL X.f6 := ⟨hs2.2.2.2.2.2.1.trans hs.2.2.2.2.2.1.symm, hs2.2.2.2.2.2.2.trans hs.2.2.2.2.2.2.symm⟩
    have hxe : reH X x.f5 x.f6 = x := by
      obtain ⟨a0, a1, a2, a3, a4, a5, a6⟩ := hs
      obtain ⟨b0, b1, b2, b3, b4, b5, b6⟩ := hs2
      obtain ⟨f0, f1, f2, f3, f4, f5, f6⟩ := x
      simp only [reH, a0, a1, a2, a3, a4] at *
      simp only [b0, b1, b2, b3, b4]
    have h37 := f37 X hX x.f5 x.f6 hsx.1 hsx.2
    rw [hxe] at h37
    have h38 : FCall prog 38 [.agg y.l, .agg y.l] (.bool true) := f38 y ⟨⟨by rw [hy0.1]; simp, by rw [hy0.1]; simp⟩, ⟨by rw [hy0.2.1]; simp, by rw [hy0.2.1]; simp⟩, ⟨by rw [hy0.2.2]; simp, by rw [hy0.2.2]; simp⟩⟩ y.f9 y.f11 y.f12 ⟨rfl, rfl, rfl⟩ (likeIn_self y)
    exact law6_main v hv c m hm hl hlm x X d e y h35 h36 h37 h38 (by rw [hsx.1]; exact hX.h5) (by rw [hsx.2]; exact hX.h6)
  · exact law6_heavy v hv c m hm hl
end Go.Sk
