/- Messages compared. Conditions: none. -/
import Derived.Test.YtnbmngpdbnkhaaaC6Law5
import Derived.Test.YtnbmngpdbnkhaaaC6Code3
set_option linter.unusedVariables false
set_option linter.unusedSimpArgs false
set_option maxRecDepth 200000
set_option maxHeartbeats 8000000
namespace Go.Sk
open Go.Proofs.Try
structure V34.sl (m : V34) : Prop where
  h9 : (∀ us ∈ slL m.f9, HasT prog 66 us) ∧ (slL m.f9).length ≤ maxLen
  h11 : (∀ us ∈ slL m.f11, HasT prog 5 us) ∧ (slL m.f11).length ≤ maxLen
  h12 : (∀ us ∈ slL m.f12, HasT prog 34 us) ∧ (slL m.f12).length ≤ maxLen
theorem V34.ok.sl {m : V34} (h : m.ok) : m.sl := ⟨h.h9, h.h11, h.h12⟩
def reM (m : V34) (o9 o11 o12 : Option (List (List AV))) : V34 := ⟨m.f0, m.f1, m.f2, m.f3, m.f4, m.f5, m.f6, m.f7, m.f8, o9, m.f10, o11, o12⟩
/-- The same message, but for where its slices lie, and what lies within. -/
def like (m : V34) (o9 o11 o12 : Option (List (List AV))) : Prop := slL o9 = slL m.f9 ∧ slL o11 = slL m.f11 ∧ (slL o12).length = (slL m.f12).length
theorem f81 (m : V34) (hm : m.sl) (o9 o11 o12 : Option (List (List AV))) (h : like m o9 o11 o12) : FCall prog 81 [.agg (reM m o9 o11 o12).l, .agg m.l] (.bool true) := by
  obtain ⟨h1, h2, h3⟩ := h
  have h3' : ((((slL o12).length : Nat) : Int) == (((slL m.f12).length : Nat) : Int)) = true := by rw [h3]; exact beq_self_eq_true _
  refine fcall mixed t81 (by simp [m81]) (by simp [idsL, idsV, V34.ids]) (f_body ?_)
  simp only [m81, argEnv, List.length_nil, List.nil_append, List.cons_append, Nat.zero_add, V34.l, V23.l, reM]
  repeat' first
    | (with_reducible first | apply c_seq | apply c_reg | apply c_dreg0 | apply c_block | apply c_ret | apply c_exit | apply c_skip | apply ops_nil | apply d_nil | apply k_seq_n | apply k_seq_r | apply k_seq_x | apply k_blk_n | apply k_blk_r | apply k_blk_x | apply k_end_n | apply k_end_r | apply k_loop_x | apply k_loop_r | apply c_dreg1 | apply c_dreg2)
    | ((with_reducible first | apply op_gS | apply op_g0 | apply d_gS | apply d_g0); (focus (simp only [W0, reduceIte, Nat.reduceEqDiff, Nat.reduceAdd, Nat.reduceSub, Nat.reduceLeDiff, beq_self_eq_true, bne_self_eq_false, BEq.rfl, h3']; rfl)); (with_reducible first | apply g_no | apply g_T | apply g_F); all_goals (try (intro hc; first | exact absurd hc (by decide) | subst hc | clear hc)))
    | ((with_reducible apply c_cond); (focus (simp only [W0, reduceIte, Nat.reduceEqDiff, Nat.reduceAdd, Nat.reduceSub, Nat.reduceLeDiff, beq_self_eq_true, bne_self_eq_false, BEq.rfl, h3']; rfl)); all_goals (intro hc; first | exact absurd hc (by decide) | subst hc | clear hc))
    | ((with_reducible first | apply op_fcall (f := 20) | apply d_fcall (f := 20)); (focus ((try simp only [W0, reduceIte, Nat.reduceEqDiff, Nat.reduceAdd, Nat.reduceSub, Nat.reduceLeDiff, beq_self_eq_true, bne_self_eq_false, BEq.rfl, h3']); first | exact f20 m.f10)); all_goals (try rfl))
    | ((with_reducible first | apply op_fcall (f := 49) | apply d_fcall (f := 49)); (focus ((try simp only [W0, reduceIte, Nat.reduceEqDiff, Nat.reduceAdd, Nat.reduceSub, Nat.reduceLeDiff, beq_self_eq_true, bne_self_eq_false, BEq.rfl, h3']); first | exact f49 o9 m.f9 h1 (by rw [h1]; exact hm.h9.1) (by rw [h1]; exact hm.h9.2))); all_goals (try rfl))
    | ((with_reducible first | apply op_fcall (f := 80) | apply d_fcall (f := 80)); (focus ((try simp only [W0, reduceIte, Nat.reduceEqDiff, Nat.reduceAdd, Nat.reduceSub, Nat.reduceLeDiff, beq_self_eq_true, bne_self_eq_false, BEq.rfl, h3']); first | exact f80 o11 m.f11 h2 (by rw [h2]; exact hm.h11.1) (by rw [h2]; exact hm.h11.2))); all_goals (try rfl))
    | ((with_reducible first | apply op_isB | apply d_isV); (focus rfl); (focus (simp only [W0, reduceIte, Nat.reduceEqDiff, Nat.reduceAdd, Nat.reduceSub, Nat.reduceLeDiff, beq_self_eq_true, bne_self_eq_false, BEq.rfl, h3']; rfl)); intro c' hc'; try with_reducible first | cases (show true = c' from hc') | cases (show false = c' from hc'))
    | ((with_reducible first | apply op_step | apply op_step0 | apply d_ld | apply d_st | apply d_new | apply d_box | apply d_bsl | apply d_apw | apply d_apa | apply d_v); (focus (simp only [W0, reduceIte, Nat.reduceEqDiff, Nat.reduceAdd, Nat.reduceSub, Nat.reduceLeDiff, beq_self_eq_true, bne_self_eq_false, BEq.rfl, h3']; rfl)); all_goals (try rfl))
  all_goals first | (exfalso; refine Bool.false_ne_true ?_; first | assumption | (symm; assumption)) | skip
  all_goals ((with_reducible apply ret_plain); (focus (simp only [W0, reduceIte, Nat.reduceEqDiff, Nat.reduceAdd, Nat.reduceSub, Nat.reduceLeDiff]; rfl)); (focus (simp [resV, idsV, idsL, slA_ids, ints_ids])))
  all_goals exact ⟨[], by simp_all [resV, F1, frT, frL, thawV]⟩
/-- What lies within is the same, too. -/
def likeIn (o12 : Option (List (List AV))) (m : V34) : Prop := ∀ (k : Nat) (q : V34), (slL m.f12)[k]? = some (V34.l q) → ∃ p9 p11 p12 : Option (List (List AV)), (slL o12)[k]? = some (reM q p9 p11 p12).l ∧ like q p9 p11 p12
theorem likeIn_self (m : V34) : likeIn m.f12 m := fun k q h => ⟨q.f9, q.f11, q.f12, h, rfl, rfl, rfl⟩
theorem f38 (m : V34) (hm : m.sl) (o9 o11 o12 : Option (List (List AV))) (h : like m o9 o11 o12) (hin : likeIn o12 m) : FCall prog 38 [.agg (reM m o9 o11 o12).l, .agg m.l] (.bool true) := by
  have h81 := f81 m hm o9 o11 o12 h
  obtain ⟨h1, h2, h3⟩ := h
  have hlm : (slL o12).length ≤ maxLen := by rw [h3]; exact hm.h12.2
  simp only [V34.l, V23.l, reM, List.nil_append, List.cons_append] at h81
  refine fcall mixed t38 (by simp [m38]) (by simp [idsL, idsV, V34.ids]) (f_body ?_)
  simp only [m38, argEnv, List.length_nil, List.nil_append, List.cons_append, Nat.zero_add, V34.l, V23.l, reM]
  repeat' first
    | (with_reducible first | apply c_seq | apply c_reg | apply c_dreg0 | apply c_block | apply c_ret | apply c_exit | apply c_skip | apply ops_nil | apply d_nil | apply k_seq_n | apply k_seq_r | apply k_seq_x | apply k_blk_n | apply k_blk_r | apply k_blk_x | apply k_end_n | apply k_end_r | apply k_loop_x | apply k_loop_r | apply c_dreg1 | apply c_dreg2)
    | ((with_reducible first | apply op_gS | apply op_g0 | apply d_gS | apply d_g0); (focus (simp only [W0, reduceIte, Nat.reduceEqDiff, Nat.reduceAdd, Nat.reduceSub, Nat.reduceLeDiff, beq_self_eq_true, bne_self_eq_false, BEq.rfl]; rfl)); (with_reducible first | apply g_no | apply g_T | apply g_F); all_goals (try (intro hc; first | exact absurd hc (by decide) | subst hc | clear hc)))
    | ((with_reducible apply c_cond); (focus (simp only [W0, reduceIte, Nat.reduceEqDiff, Nat.reduceAdd, Nat.reduceSub, Nat.reduceLeDiff, beq_self_eq_true, bne_self_eq_false, BEq.rfl]; rfl)); all_goals (intro hc; first | exact absurd hc (by decide) | subst hc | clear hc))
    | ((with_reducible first | apply op_fcall (f := 81) | apply d_fcall (f := 81)); (focus ((try simp only [W0, reduceIte, Nat.reduceEqDiff, Nat.reduceAdd, Nat.reduceSub, Nat.reduceLeDiff, beq_self_eq_true, bne_self_eq_false, BEq.rfl]); first | exact h81)); all_goals (try rfl))
    | ((with_reducible first | apply op_isB | apply d_isV); (focus rfl); (focus (simp only [W0, reduceIte, Nat.reduceEqDiff, Nat.reduceAdd, Nat.reduceSub, Nat.reduceLeDiff, beq_self_eq_true, bne_self_eq_false, BEq.rfl]; rfl)); intro c' hc'; try with_reducible first | cases (show true = c' from hc') | cases (show false = c' from hc'))
    | ((with_reducible first | apply op_step | apply op_step0 | apply d_ld | apply d_st | apply d_new | apply d_box | apply d_bsl | apply d_apw | apply d_apa | apply d_v); (focus (simp only [W0, reduceIte, Nat.reduceEqDiff, Nat.reduceAdd, Nat.reduceSub, Nat.reduceLeDiff, beq_self_eq_true, bne_self_eq_false, BEq.rfl]; rfl)); all_goals (try rfl))
  all_goals first | (exfalso; refine Bool.false_ne_true ?_; first | assumption | (symm; assumption)) | skip
  refine c_loop [2, 3, 5] (fun n env rows => ∃ k : Nat, k ≤ (slL o12).length ∧ n = (slL o12).length - k ∧ env = [(2, .ptr 0 0), (3, .ptr 1 0), (5, .int .i64 (k : Int))] ∧ rows = [Row.box 34 (reM m o9 o11 o12).l, Row.box 34 m.l]) (slL o12).length
    (back_keep (by simp) (by simp [look, idsL, idsV]) (by simp [idsR, idsL, idsV, slA_ids]) ⟨0, by omega, by omega, rfl, rfl⟩) ?_
  rintro n env rows ⟨k, hk, rfl, rfl, rfl⟩
  simp only [V34.l, V23.l, reM, List.nil_append, List.cons_append]
  rcases Nat.lt_or_ge k (slL o12).length with hk' | hk'
  · have hk2 : k < (slL m.f12).length := by rw [← h3]; exact hk'
    obtain ⟨q, hq, hqok⟩ := el34 hm.h12.1 hk2
    obtain ⟨p9, p11, p12, hp, hl⟩ := hin k q hq
    have h81q := f81 q hqok.sl p9 p11 p12 hl
    have hd : decide ((k : Int) < ((slL o12).length : Int)) = true := decide_eq_true (by omega)
    simp only [V34.l, V23.l, reM, List.nil_append, List.cons_append] at h81q
    have eq1 : (slL m.f12)[k]? = some q.l := hq
    have eq2 : (slL o12)[k]? = some (reM q p9 p11 p12).l := hp
    simp only [V34.l, V23.l, reM, List.nil_append, List.cons_append] at eq1 eq2
    repeat' first
      | (with_reducible first | apply c_seq | apply c_reg | apply c_dreg0 | apply c_block | apply c_ret | apply c_exit | apply c_skip | apply ops_nil | apply d_nil | apply k_seq_n | apply k_seq_r | apply k_seq_x | apply k_blk_n | apply k_blk_r | apply k_blk_x | apply k_end_n | apply k_end_r | apply k_loop_x | apply k_loop_r | apply c_dreg1 | apply c_dreg2)
      | ((with_reducible first | apply op_gS | apply op_g0 | apply d_gS | apply d_g0); (focus (simp only [W0, reduceIte, Nat.reduceEqDiff, Nat.reduceAdd, Nat.reduceSub, Nat.reduceLeDiff, beq_self_eq_true, bne_self_eq_false, BEq.rfl, slA_at 34 _ (k := .i64) eq1, slA_at 34 _ (k := .i64) eq2, hd]; rfl)); (with_reducible first | apply g_no | apply g_T | apply g_F); all_goals (try (intro hc; first | exact absurd hc (by decide) | subst hc | clear hc)))
      | ((with_reducible apply c_cond); (focus (simp only [W0, reduceIte, Nat.reduceEqDiff, Nat.reduceAdd, Nat.reduceSub, Nat.reduceLeDiff, beq_self_eq_true, bne_self_eq_false, BEq.rfl, slA_at 34 _ (k := .i64) eq1, slA_at 34 _ (k := .i64) eq2, hd]; rfl)); all_goals (intro hc; first | exact absurd hc (by decide) | subst hc | clear hc))
      | ((with_reducible first | apply op_fcall (f := 81) | apply d_fcall (f := 81)); (focus ((try simp only [W0, reduceIte, Nat.reduceEqDiff, Nat.reduceAdd, Nat.reduceSub, Nat.reduceLeDiff, beq_self_eq_true, bne_self_eq_false, BEq.rfl, slA_at 34 _ (k := .i64) eq1, slA_at 34 _ (k := .i64) eq2, hd]); first | exact h81q)); all_goals (try rfl))
      | ((with_reducible first | apply op_isB | apply d_isV); (focus rfl); (focus (simp only [W0, reduceIte, Nat.reduceEqDiff, Nat.reduceAdd, Nat.reduceSub, Nat.reduceLeDiff, beq_self_eq_true, bne_self_eq_false, BEq.rfl, slA_at 34 _ (k := .i64) eq1, slA_at 34 _ (k := .i64) eq2, hd]; rfl)); intro c' hc'; try with_reducible first | cases (show true = c' from hc') | cases (show false = c' from hc'))
      | ((with_reducible first | apply op_step | apply op_step0 | apply d_ld | apply d_st | apply d_new | apply d_box | apply d_bsl | apply d_apw | apply d_apa | apply d_v); (focus (simp only [W0, reduceIte, Nat.reduceEqDiff, Nat.reduceAdd, Nat.reduceSub, Nat.reduceLeDiff, beq_self_eq_true, bne_self_eq_false, BEq.rfl, slA_at 34 _ (k := .i64) eq1, slA_at 34 _ (k := .i64) eq2, hd]; rfl)); all_goals (try rfl))
    all_goals first | (exfalso; refine Bool.false_ne_true ?_; first | assumption | (symm; assumption)) | skip
    · refine k_loop_n ((slL o12).length - (k + 1)) (by omega) (back_keep (by simp) (by simp [look, idsL, idsV]) (by simp [idsR, idsL, idsV, slA_ids]) ⟨k + 1, by omega, rfl, ?_, rfl⟩)
      simp [look, wrap_succ hk' hlm]
  · have hd : decide ((k : Int) < ((slL o12).length : Int)) = false := decide_eq_false (by omega)
    repeat' first
      | (with_reducible first | apply c_seq | apply c_reg | apply c_dreg0 | apply c_block | apply c_ret | apply c_exit | apply c_skip | apply ops_nil | apply d_nil | apply k_seq_n | apply k_seq_r | apply k_seq_x | apply k_blk_n | apply k_blk_r | apply k_blk_x | apply k_end_n | apply k_end_r | apply k_loop_x | apply k_loop_r | apply c_dreg1 | apply c_dreg2)
      | ((with_reducible first | apply op_gS | apply op_g0 | apply d_gS | apply d_g0); (focus (simp only [W0, reduceIte, Nat.reduceEqDiff, Nat.reduceAdd, Nat.reduceSub, Nat.reduceLeDiff, beq_self_eq_true, bne_self_eq_false, BEq.rfl, hd]; rfl)); (with_reducible first | apply g_no | apply g_T | apply g_F); all_goals (try (intro hc; first | exact absurd hc (by decide) | subst hc | clear hc)))
      | ((with_reducible apply c_cond); (focus (simp only [W0, reduceIte, Nat.reduceEqDiff, Nat.reduceAdd, Nat.reduceSub, Nat.reduceLeDiff, beq_self_eq_true, bne_self_eq_false, BEq.rfl, hd]; rfl)); all_goals (intro hc; first | exact absurd hc (by decide) | subst hc | clear hc))
      | ((with_reducible first | apply op_isB | apply d_isV); (focus rfl); (focus (simp only [W0, reduceIte, Nat.reduceEqDiff, Nat.reduceAdd, Nat.reduceSub, Nat.reduceLeDiff, beq_self_eq_true, bne_self_eq_false, BEq.rfl, hd]; rfl)); intro c' hc'; try with_reducible first | cases (show true = c' from hc') | cases (show false = c' from hc'))
      | ((with_reducible first | apply op_step | apply op_step0 | apply d_ld | apply d_st | apply d_new | apply d_box | apply d_bsl | apply d_apw | apply d_apa | apply d_v); (focus (simp only [W0, reduceIte, Nat.reduceEqDiff, Nat.reduceAdd, Nat.reduceSub, Nat.reduceLeDiff, beq_self_eq_true, bne_self_eq_false, BEq.rfl, hd]; rfl)); all_goals (try rfl))
    all_goals first | (exfalso; refine Bool.false_ne_true ?_; first | assumption | (symm; assumption)) | skip
    all_goals ((with_reducible apply ret_plain); (focus (simp only [W0, reduceIte, Nat.reduceEqDiff, Nat.reduceAdd, Nat.reduceSub, Nat.reduceLeDiff]; rfl)); (focus (simp [resV, idsV, idsL, slA_ids, ints_ids])))
    all_goals exact ⟨[], by simp_all [resV, F1, frT, frL, thawV]⟩
end Go.Sk
