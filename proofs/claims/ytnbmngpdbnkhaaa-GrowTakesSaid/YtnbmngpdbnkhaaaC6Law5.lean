/- The law VoteExact, walked. Conditions: none. -/
import Derived.Test.YtnbmngpdbnkhaaaC6Spec5
set_option linter.unusedVariables false
set_option linter.unusedSimpArgs false
set_option maxRecDepth 200000
set_option maxHeartbeats 8000000
namespace Go.Sk
open Go.Proofs.Try
def reH (v : V27) (o5 o6 : Option (List (List AV))) : V27 := ⟨v.f0, v.f1, v.f2, v.f3, v.f4, o5, o6⟩
theorem f37 (v : V27) (hv : v.ok) (o5 o6 : Option (List (List AV))) (h5 : slL o5 = slL v.f5) (h6 : slL o6 = slL v.f6) : FCall prog 37 [.agg (reH v o5 o6).l, .agg v.l] (.bool true) := by
  refine fcall mixed t37 (by simp [m37]) (by simp [idsL, idsV, V27.ids]) (f_body ?_)
  simp only [m37, argEnv, List.length_nil, List.nil_append, List.cons_append, Nat.zero_add, V27.l, V23.l, reH]
  repeat' first
    | (with_reducible first | apply c_seq | apply c_reg | apply c_dreg0 | apply c_block | apply c_ret | apply c_exit | apply c_skip | apply ops_nil | apply d_nil | apply k_seq_n | apply k_seq_r | apply k_seq_x | apply k_blk_n | apply k_blk_r | apply k_blk_x | apply k_end_n | apply k_end_r | apply k_loop_x | apply k_loop_r | apply c_dreg1 | apply c_dreg2)
    | ((with_reducible first | apply op_gS | apply op_g0 | apply d_gS | apply d_g0); (focus (simp only [W0, reduceIte, Nat.reduceEqDiff, Nat.reduceAdd, Nat.reduceSub, Nat.reduceLeDiff, beq_self_eq_true, bne_self_eq_false, BEq.rfl]; rfl)); (with_reducible first | apply g_no | apply g_T | apply g_F); all_goals (try (intro hc; first | exact absurd hc (by decide) | subst hc | clear hc)))
    | ((with_reducible apply c_cond); (focus (simp only [W0, reduceIte, Nat.reduceEqDiff, Nat.reduceAdd, Nat.reduceSub, Nat.reduceLeDiff, beq_self_eq_true, bne_self_eq_false, BEq.rfl]; rfl)); all_goals (intro hc; first | exact absurd hc (by decide) | subst hc | clear hc))
    | ((with_reducible first | apply op_fcall (f := 20) | apply d_fcall (f := 20)); (focus ((try simp only [W0, reduceIte, Nat.reduceEqDiff, Nat.reduceAdd, Nat.reduceSub, Nat.reduceLeDiff, beq_self_eq_true, bne_self_eq_false, BEq.rfl]); first | exact f20 v.f4)); all_goals (try rfl))
    | ((with_reducible first | apply op_fcall (f := 80) | apply d_fcall (f := 80)); (focus ((try simp only [W0, reduceIte, Nat.reduceEqDiff, Nat.reduceAdd, Nat.reduceSub, Nat.reduceLeDiff, beq_self_eq_true, bne_self_eq_false, BEq.rfl]); first | exact f80 o5 v.f5 h5 (by rw [h5]; exact hv.h5.1) (by rw [h5]; exact hv.h5.2))); all_goals (try rfl))
    | ((with_reducible first | apply op_fcall (f := 49) | apply d_fcall (f := 49)); (focus ((try simp only [W0, reduceIte, Nat.reduceEqDiff, Nat.reduceAdd, Nat.reduceSub, Nat.reduceLeDiff, beq_self_eq_true, bne_self_eq_false, BEq.rfl]); first | exact f49 o6 v.f6 h6 (by rw [h6]; exact hv.h6.1) (by rw [h6]; exact hv.h6.2))); all_goals (try rfl))
    | ((with_reducible first | apply op_isB | apply d_isV); (focus rfl); (focus (simp only [W0, reduceIte, Nat.reduceEqDiff, Nat.reduceAdd, Nat.reduceSub, Nat.reduceLeDiff, beq_self_eq_true, bne_self_eq_false, BEq.rfl]; rfl)); intro c' hc')
    | ((with_reducible first | apply op_step | apply op_step0 | apply d_ld | apply d_st | apply d_new | apply d_box | apply d_bsl | apply d_apw | apply d_apa | apply d_v); (focus (simp only [W0, reduceIte, Nat.reduceEqDiff, Nat.reduceAdd, Nat.reduceSub, Nat.reduceLeDiff, beq_self_eq_true, bne_self_eq_false, BEq.rfl]; rfl)); all_goals (try rfl))
  all_goals ((with_reducible apply ret_plain); (focus (simp only [resVs, resV1, look, Option.bind, Option.map, reduceIte, Nat.reduceEqDiff]; rfl)); (focus (simp [resV, idsV, idsL, slA_ids])))
  all_goals exact ⟨[], by simp_all [resV, fr, frV, frT, thawV]⟩
theorem twinH_ok {v : V27} (h : v.ok) : (twinH v).ok := ⟨h.h0, h.h1, h.h2, h.h3, h.h4, by show _ ∧ _; rw [show slL (twinH v).f5 = slL v.f5 from slL_nz _]; exact h.h5, by show _ ∧ _; rw [show slL (twinH v).f6 = slL v.f6 from slL_nz _]; exact h.h6⟩
end Go.Sk
