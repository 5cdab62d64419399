/- What the law's functions do: configurations in force, votes counted, twins. Conditions: none. -/
import Derived.Test.YtnbmngpdbnkhaaaC6Code2
import Derived.Test.YtnbmngpdbnkhaaaC6Spec2
import Derived.Test.YtnbmngpdbnkhaaaC6Plain
set_option linter.unusedVariables false
set_option linter.unusedSimpArgs false
set_option maxRecDepth 20000
set_option maxHeartbeats 2000000
namespace Go.Sk
open Go.Proofs.Try
theorem ints_ids : ∀ l : List Int, idsL (l.map (.int .i64)) = [] := by intro l; induction l <;> simp_all [idsL, idsV]
theorem f67b (o : Option (List (List AV))) (ho : ∀ us ∈ slL o, HasT prog 66 us) (hm : (slL o).length ≤ maxLen) : FCallE prog 67 [slA 66 o] (BoolIf ((slL o).length ≤ 200)) := by
  refine fcallE mixed t67 (by simp [m67]) (by simp [idsL, idsV, slA_ids]) (f_body ?_)
  simp only [m67, argEnv, List.length_nil, List.nil_append, List.cons_append, Nat.zero_add]
  repeat' first
    | (with_reducible first | apply c_seq | apply c_reg | apply c_dreg0 | apply c_block | apply c_ret | apply c_exit | apply c_skip | apply ops_nil | apply d_nil | apply k_seq_n | apply k_seq_r | apply k_seq_x | apply k_blk_n | apply k_blk_r | apply k_blk_x | apply k_end_n | apply k_end_r | apply k_loop_x | apply k_loop_r | apply c_dreg1 | apply c_dreg2)
    | ((with_reducible first | apply op_gS | apply op_g0 | apply d_gS | apply d_g0); (focus (simp only [W0, reduceIte, Nat.reduceEqDiff, Nat.reduceAdd, Nat.reduceSub, Nat.reduceLeDiff]; rfl)); (with_reducible first | apply g_no | apply g_T | apply g_F); all_goals (try (intro hc; first | exact absurd hc (by decide) | subst hc | clear hc)))
    | ((with_reducible apply c_cond); (focus (simp only [W0, reduceIte, Nat.reduceEqDiff, Nat.reduceAdd, Nat.reduceSub, Nat.reduceLeDiff]; rfl)); all_goals (intro hc; first | exact absurd hc (by decide) | subst hc | clear hc))
    | ((with_reducible first | apply op_isB | apply d_isV); (focus rfl); (focus (simp only [W0, reduceIte, Nat.reduceEqDiff, Nat.reduceAdd, Nat.reduceSub, Nat.reduceLeDiff]; rfl)); intro c' hc')
    | ((with_reducible first | apply op_step | apply op_step0 | apply d_ld | apply d_st | apply d_new | apply d_box | apply d_bsl | apply d_apw | apply d_apa | apply d_v); (focus (simp only [W0, reduceIte, Nat.reduceEqDiff, Nat.reduceAdd, Nat.reduceSub, Nat.reduceLeDiff]; rfl)); all_goals (try rfl))
  · ((with_reducible apply ret_plain); (focus (simp only [resVs, resV1, look, Option.bind, Option.map, reduceIte, Nat.reduceEqDiff]; rfl)); (focus (simp [resV, idsV, idsL, slA_ids]))); exact ⟨_, [], rfl, _, rfl, fun e => by cases e⟩
  have h200 : (slL o).length ≤ 200 := by simp at hc'; omega
  refine c_loop [0, 3] (fun n env rows => ∃ k : Nat, k ≤ (slL o).length ∧ n = (slL o).length - k ∧ env = [(0, slA 66 o), (3, .int .i64 (k : Int))] ∧ rows = []) (slL o).length
    (back_keep (by simp) (by simp [look, idsL, idsV, slA_ids]) (by simp) ⟨0, by omega, by omega, rfl, rfl⟩) ?_
  rintro n env rows ⟨k, hk, rfl, rfl, rfl⟩
  clear hc'
  repeat' first
    | (with_reducible first | apply c_seq | apply c_reg | apply c_dreg0 | apply c_block | apply c_ret | apply c_exit | apply c_skip | apply ops_nil | apply d_nil | apply k_seq_n | apply k_seq_r | apply k_seq_x | apply k_blk_n | apply k_blk_r | apply k_blk_x | apply k_end_n | apply k_end_r | apply k_loop_x | apply k_loop_r | apply c_dreg1 | apply c_dreg2)
    | ((with_reducible first | apply op_gS | apply op_g0 | apply d_gS | apply d_g0); (focus (simp only [W0, reduceIte, Nat.reduceEqDiff, Nat.reduceAdd, Nat.reduceSub, Nat.reduceLeDiff]; rfl)); (with_reducible first | apply g_no | apply g_T | apply g_F); all_goals (try (intro hc; first | exact absurd hc (by decide) | subst hc | clear hc)))
    | ((with_reducible apply c_cond); (focus (simp only [W0, reduceIte, Nat.reduceEqDiff, Nat.reduceAdd, Nat.reduceSub, Nat.reduceLeDiff]; rfl)); all_goals (intro hc; first | exact absurd hc (by decide) | subst hc | clear hc))
    | ((with_reducible first | apply op_isB | apply d_isV); (focus rfl); (focus (simp only [W0, reduceIte, Nat.reduceEqDiff, Nat.reduceAdd, Nat.reduceSub, Nat.reduceLeDiff]; rfl)); intro c' hc')
    | ((with_reducible first | apply op_step | apply op_step0 | apply d_ld | apply d_st | apply d_new | apply d_box | apply d_bsl | apply d_apw | apply d_apa | apply d_v); (focus (simp only [W0, reduceIte, Nat.reduceEqDiff, Nat.reduceAdd, Nat.reduceSub, Nat.reduceLeDiff]; rfl)); all_goals (try rfl))
  · have hk' : k < (slL o).length := by simpa using hc'
    obtain ⟨q, hq, hqok⟩ := el66 ho hk'
    refine op_step (v := .pz q.l 0) (rows' := []) (by simp only [stepOp, Opd.get, look, behind, skip, firsts, putAt, putParts, thawL, storeAt, loadR, widths, binV, intBin, idx, Option.bind, Option.map, reduceIte, Nat.reduceEqDiff, Nat.reduceAdd, Nat.reduceSub, Nat.reduceLeDiff, W1]; rw [slA_at _ _ hq]) ?_
    simp only [V66.l, V64.l, V62.l, V60.l, List.cons_append, List.nil_append]
    repeat' first
      | (with_reducible first | apply c_seq | apply c_reg | apply c_dreg0 | apply c_block | apply c_ret | apply c_exit | apply c_skip | apply ops_nil | apply d_nil | apply k_seq_n | apply k_seq_r | apply k_seq_x | apply k_blk_n | apply k_blk_r | apply k_blk_x | apply k_end_n | apply k_end_r | apply k_loop_x | apply k_loop_r | apply c_dreg1 | apply c_dreg2)
      | ((with_reducible first | apply op_gS | apply op_g0 | apply d_gS | apply d_g0); (focus (simp only [W0, reduceIte, Nat.reduceEqDiff, Nat.reduceAdd, Nat.reduceSub, Nat.reduceLeDiff]; rfl)); (with_reducible first | apply g_no | apply g_T | apply g_F); all_goals (try (intro hc; first | exact absurd hc (by decide) | subst hc | clear hc)))
      | ((with_reducible apply c_cond); (focus (simp only [W0, reduceIte, Nat.reduceEqDiff, Nat.reduceAdd, Nat.reduceSub, Nat.reduceLeDiff]; rfl)); all_goals (intro hc; first | exact absurd hc (by decide) | subst hc | clear hc))
      | ((with_reducible apply op_bcall (f := 47)); (focus ((try simp only [W0, reduceIte, Nat.reduceEqDiff, Nat.reduceAdd, Nat.reduceSub, Nat.reduceLeDiff]); exact f47 q.f2.f2)); intro c')
      | ((with_reducible first | apply op_isB | apply d_isV); (focus rfl); (focus (simp only [W0, reduceIte, Nat.reduceEqDiff, Nat.reduceAdd, Nat.reduceSub, Nat.reduceLeDiff]; rfl)); intro c' hc')
      | ((with_reducible first | apply op_step | apply op_step0 | apply d_ld | apply d_st | apply d_new | apply d_box | apply d_bsl | apply d_apw | apply d_apa | apply d_v); (focus (simp only [W0, reduceIte, Nat.reduceEqDiff, Nat.reduceAdd, Nat.reduceSub, Nat.reduceLeDiff]; rfl)); all_goals (try rfl))
    · ((with_reducible apply ret_plain); (focus (simp only [resVs, resV1, look, Option.bind, Option.map, reduceIte, Nat.reduceEqDiff]; rfl)); (focus (simp [resV, idsV, idsL, slA_ids]))); exact ⟨_, [], rfl, _, rfl, fun e => h200⟩
    · refine k_loop_n ((slL o).length - (k + 1)) (by omega) (back_keep (by simp) (by simp [look, idsL, idsV, slA_ids]) (by simp) ⟨k + 1, by omega, rfl, ?_, rfl⟩)
      simp [look, wrap_succ hk' hm]
  · ((with_reducible apply ret_plain); (focus (simp only [resVs, resV1, look, Option.bind, Option.map, reduceIte, Nat.reduceEqDiff]; rfl)); (focus (simp [resV, idsV, idsL, slA_ids]))); exact ⟨_, [], rfl, _, rfl, fun e => h200⟩
def lightH (v : V27) : Prop := (slL v.f6).length ≤ 200 ∧ (slL v.f5).length ≤ 32768
theorem f32b (v : V27) (hv : v.ok) : FCallE prog 32 [.agg v.l] (BoolIf (lightH v)) := by
  refine fcallE mixed t32 (by simp [m32]) (by simp [idsL, idsV, V27.ids]) (f_body ?_)
  simp only [m32, argEnv, List.length_nil, List.nil_append, List.cons_append, Nat.zero_add, V27.l, V23.l]
  repeat' first
    | (with_reducible first | apply c_seq | apply c_reg | apply c_dreg0 | apply c_block | apply c_ret | apply c_exit | apply c_skip | apply ops_nil | apply d_nil | apply k_seq_n | apply k_seq_r | apply k_seq_x | apply k_blk_n | apply k_blk_r | apply k_blk_x | apply k_end_n | apply k_end_r | apply k_loop_x | apply k_loop_r | apply c_dreg1 | apply c_dreg2)
    | ((with_reducible first | apply op_gS | apply op_g0 | apply d_gS | apply d_g0); (focus (simp only [W0, reduceIte, Nat.reduceEqDiff, Nat.reduceAdd, Nat.reduceSub, Nat.reduceLeDiff]; rfl)); (with_reducible first | apply g_no | apply g_T | apply g_F); all_goals (try (intro hc; first | exact absurd hc (by decide) | subst hc | clear hc)))
    | ((with_reducible apply c_cond); (focus (simp only [W0, reduceIte, Nat.reduceEqDiff, Nat.reduceAdd, Nat.reduceSub, Nat.reduceLeDiff]; rfl)); all_goals (intro hc; first | exact absurd hc (by decide) | subst hc | clear hc))
    | ((with_reducible apply op_bcallQ (f := 67)); (focus ((try simp only [W0, reduceIte, Nat.reduceEqDiff, Nat.reduceAdd, Nat.reduceSub, Nat.reduceLeDiff]); exact f67b v.f6 hv.h6.1 hv.h6.2)); intro c' hq')
    | ((with_reducible first | apply op_isB | apply d_isV); (focus rfl); (focus (simp only [W0, reduceIte, Nat.reduceEqDiff, Nat.reduceAdd, Nat.reduceSub, Nat.reduceLeDiff]; rfl)); intro c' hc')
    | ((with_reducible first | apply op_step | apply op_step0 | apply d_ld | apply d_st | apply d_new | apply d_box | apply d_bsl | apply d_apw | apply d_apa | apply d_v); (focus (simp only [W0, reduceIte, Nat.reduceEqDiff, Nat.reduceAdd, Nat.reduceSub, Nat.reduceLeDiff]; rfl)); all_goals (try rfl))
  all_goals ((with_reducible apply ret_plain); (focus (simp only [resVs, resV1, look, Option.bind, Option.map, reduceIte, Nat.reduceEqDiff]; rfl)); (focus (simp [resV, idsV, idsL, slA_ids])))
  all_goals exact ⟨_, [], rfl, _, rfl, fun e => by first | exact absurd e (by decide) | (simp_all [lightH]; done) | (simp_all [lightH] <;> omega)⟩
/-- Elements as a slice: none of them is nil. -/
def nz (l : List (List AV)) : Option (List (List AV)) := if l.isEmpty then none else some l
theorem slL_nz (l : List (List AV)) : slL (nz l) = l := by
  unfold nz; split
  · rename_i h; simp at h; subst h; rfl
  · rfl
theorem nz_nil : nz [] = none := rfl
theorem nz_some {l : List (List AV)} (h : l.isEmpty = false) : nz l = some l := by unfold nz; simp [h]
theorem f68 (o : Option (List (List AV))) (h : (slL o).length ≤ 140737488355328) : FCall prog 68 [slA 5 o] (slA 5 (nz (slL o))) := by
  cases he : (slL o).isEmpty
  all_goals
    refine fcall mixed t68 (by simp [m68]) (by simp [idsL, idsV, slA_ids]) (f_body ?_)
    simp only [m68, argEnv, List.length_nil, List.nil_append, List.cons_append, Nat.zero_add]
  repeat' first
    | (with_reducible first | apply c_seq | apply c_reg | apply c_dreg0 | apply c_block | apply c_ret | apply c_exit | apply c_skip | apply ops_nil | apply d_nil | apply k_seq_n | apply k_seq_r | apply k_seq_x | apply k_blk_n | apply k_blk_r | apply k_blk_x | apply k_end_n | apply k_end_r | apply k_loop_x | apply k_loop_r | apply c_dreg1 | apply c_dreg2)
    | ((with_reducible first | apply op_gS | apply op_g0 | apply d_gS | apply d_g0); (focus (simp only [W0, reduceIte, Nat.reduceEqDiff, Nat.reduceAdd, Nat.reduceSub, Nat.reduceLeDiff, appR, if_pos h, he]; rfl)); (with_reducible first | apply g_no | apply g_T | apply g_F); all_goals (try (intro hc; first | exact absurd hc (by decide) | subst hc | clear hc)))
    | ((with_reducible apply c_cond); (focus (simp only [W0, reduceIte, Nat.reduceEqDiff, Nat.reduceAdd, Nat.reduceSub, Nat.reduceLeDiff, appR, if_pos h, he]; rfl)); all_goals (intro hc; first | exact absurd hc (by decide) | subst hc | clear hc))
    | ((with_reducible first | apply op_isB | apply d_isV); (focus rfl); (focus (simp only [W0, reduceIte, Nat.reduceEqDiff, Nat.reduceAdd, Nat.reduceSub, Nat.reduceLeDiff, appR, if_pos h, he]; rfl)); intro c' hc')
    | ((with_reducible first | apply op_step | apply op_step0 | apply d_ld | apply d_st | apply d_new | apply d_box | apply d_bsl | apply d_apw | apply d_apa | apply d_v); (focus (simp only [W0, reduceIte, Nat.reduceEqDiff, Nat.reduceAdd, Nat.reduceSub, Nat.reduceLeDiff, appR, if_pos h, he]; rfl)); all_goals (try rfl))
  · ((with_reducible apply ret_keep); (focus (simp only [stepOp, Opd.get, look, behind, skip, firsts, putAt, putParts, thawL, storeAt, loadR, widths, binV, intBin, idx, Option.bind, Option.map, reduceIte, Nat.reduceEqDiff, Nat.reduceAdd, Nat.reduceSub, Nat.reduceLeDiff, W1, resVs, resV1]; rfl)); (focus (simp [resV, idsV, idsL, slA_ids, ints_ids])); (focus (simp [idsR, idsL, idsV, slA_ids, idsL_append, ints_ids])))
    rw [nz_some he]
    exact ⟨_, by simp [resV, fr, frV, thawV, slA]; rfl⟩
  · ((with_reducible apply ret_plain); (focus (simp only [resVs, resV1, look, Option.bind, Option.map, reduceIte, Nat.reduceEqDiff]; rfl)); (focus (simp [resV, idsV, idsL, slA_ids])))
    have h0 : slL o = [] := by simpa using he
    rw [h0, nz_nil]
    exact ⟨_, by simp [resV, fr, frV, thawV, slA]; rfl⟩
theorem f69 (o : Option (List (List AV))) (h : (slL o).length ≤ 925904528653) : FCall prog 69 [slA 66 o] (slA 66 (nz (slL o))) := by
  cases he : (slL o).isEmpty
  all_goals
    refine fcall mixed t69 (by simp [m69]) (by simp [idsL, idsV, slA_ids]) (f_body ?_)
    simp only [m69, argEnv, List.length_nil, List.nil_append, List.cons_append, Nat.zero_add]
  repeat' first
    | (with_reducible first | apply c_seq | apply c_reg | apply c_dreg0 | apply c_block | apply c_ret | apply c_exit | apply c_skip | apply ops_nil | apply d_nil | apply k_seq_n | apply k_seq_r | apply k_seq_x | apply k_blk_n | apply k_blk_r | apply k_blk_x | apply k_end_n | apply k_end_r | apply k_loop_x | apply k_loop_r | apply c_dreg1 | apply c_dreg2)
    | ((with_reducible first | apply op_gS | apply op_g0 | apply d_gS | apply d_g0); (focus (simp only [W0, reduceIte, Nat.reduceEqDiff, Nat.reduceAdd, Nat.reduceSub, Nat.reduceLeDiff, appR, if_pos h, he]; rfl)); (with_reducible first | apply g_no | apply g_T | apply g_F); all_goals (try (intro hc; first | exact absurd hc (by decide) | subst hc | clear hc)))
    | ((with_reducible apply c_cond); (focus (simp only [W0, reduceIte, Nat.reduceEqDiff, Nat.reduceAdd, Nat.reduceSub, Nat.reduceLeDiff, appR, if_pos h, he]; rfl)); all_goals (intro hc; first | exact absurd hc (by decide) | subst hc | clear hc))
    | ((with_reducible first | apply op_isB | apply d_isV); (focus rfl); (focus (simp only [W0, reduceIte, Nat.reduceEqDiff, Nat.reduceAdd, Nat.reduceSub, Nat.reduceLeDiff, appR, if_pos h, he]; rfl)); intro c' hc')
    | ((with_reducible first | apply op_step | apply op_step0 | apply d_ld | apply d_st | apply d_new | apply d_box | apply d_bsl | apply d_apw | apply d_apa | apply d_v); (focus (simp only [W0, reduceIte, Nat.reduceEqDiff, Nat.reduceAdd, Nat.reduceSub, Nat.reduceLeDiff, appR, if_pos h, he]; rfl)); all_goals (try rfl))
  · ((with_reducible apply ret_keep); (focus (simp only [stepOp, Opd.get, look, behind, skip, firsts, putAt, putParts, thawL, storeAt, loadR, widths, binV, intBin, idx, Option.bind, Option.map, reduceIte, Nat.reduceEqDiff, Nat.reduceAdd, Nat.reduceSub, Nat.reduceLeDiff, W1, resVs, resV1]; rfl)); (focus (simp [resV, idsV, idsL, slA_ids, ints_ids])); (focus (simp [idsR, idsL, idsV, slA_ids, idsL_append, ints_ids])))
    rw [nz_some he]
    exact ⟨_, by simp [resV, fr, frV, thawV, slA]; rfl⟩
  · ((with_reducible apply ret_plain); (focus (simp only [resVs, resV1, look, Option.bind, Option.map, reduceIte, Nat.reduceEqDiff]; rfl)); (focus (simp [resV, idsV, idsL, slA_ids])))
    have h0 : slL o = [] := by simpa using he
    rw [h0, nz_nil]
    exact ⟨_, by simp [resV, fr, frV, thawV, slA]; rfl⟩
def twinH (v : V27) : V27 := ⟨v.f0, v.f1, v.f2, v.f3, v.f4, nz (slL v.f5), nz (slL v.f6)⟩
theorem f33 (v : V27) (hv : lightH v) : FCall prog 33 [.agg v.l] (.agg (twinH v).l) := by
  refine fcall mixed t33 (by simp [m33]) (by simp [idsL, idsV, V27.ids]) (f_body ?_)
  simp only [m33, argEnv, List.length_nil, List.nil_append, List.cons_append, Nat.zero_add, V27.l, V23.l, twinH]
  repeat' first
    | (with_reducible first | apply c_seq | apply c_reg | apply c_dreg0 | apply c_block | apply c_ret | apply c_exit | apply c_skip | apply ops_nil | apply d_nil | apply k_seq_n | apply k_seq_r | apply k_seq_x | apply k_blk_n | apply k_blk_r | apply k_blk_x | apply k_end_n | apply k_end_r | apply k_loop_x | apply k_loop_r | apply c_dreg1 | apply c_dreg2)
    | ((with_reducible first | apply op_gS | apply op_g0 | apply d_gS | apply d_g0); (focus (simp only [W0, reduceIte, Nat.reduceEqDiff, Nat.reduceAdd, Nat.reduceSub, Nat.reduceLeDiff]; rfl)); (with_reducible first | apply g_no | apply g_T | apply g_F); all_goals (try (intro hc; first | exact absurd hc (by decide) | subst hc | clear hc)))
    | ((with_reducible apply c_cond); (focus (simp only [W0, reduceIte, Nat.reduceEqDiff, Nat.reduceAdd, Nat.reduceSub, Nat.reduceLeDiff]; rfl)); all_goals (intro hc; first | exact absurd hc (by decide) | subst hc | clear hc))
    | ((with_reducible first | apply op_fcall (f := 68) | apply d_fcall (f := 68)); (focus ((try simp only [W0, reduceIte, Nat.reduceEqDiff, Nat.reduceAdd, Nat.reduceSub, Nat.reduceLeDiff]); first | exact f68 v.f5 (by have := hv.2; omega))); all_goals (try rfl))
    | ((with_reducible first | apply op_fcall (f := 69) | apply d_fcall (f := 69)); (focus ((try simp only [W0, reduceIte, Nat.reduceEqDiff, Nat.reduceAdd, Nat.reduceSub, Nat.reduceLeDiff]); first | exact f69 v.f6 (by have := hv.1; omega))); all_goals (try rfl))
    | ((with_reducible first | apply op_isB | apply d_isV); (focus rfl); (focus (simp only [W0, reduceIte, Nat.reduceEqDiff, Nat.reduceAdd, Nat.reduceSub, Nat.reduceLeDiff]; rfl)); intro c' hc')
    | ((with_reducible first | apply op_step | apply op_step0 | apply d_ld | apply d_st | apply d_new | apply d_box | apply d_bsl | apply d_apw | apply d_apa | apply d_v); (focus (simp only [W0, reduceIte, Nat.reduceEqDiff, Nat.reduceAdd, Nat.reduceSub, Nat.reduceLeDiff]; rfl)); all_goals (try rfl))
  all_goals ((with_reducible apply ret_plain); (focus (simp only [W0, reduceIte, Nat.reduceEqDiff, Nat.reduceAdd, Nat.reduceSub, Nat.reduceLeDiff]; rfl)); (focus (simp [resV, idsV, idsL, slA_ids, ints_ids])))
  all_goals exact ⟨_, by simp [resV, F1, frL]; rfl⟩
end Go.Sk
