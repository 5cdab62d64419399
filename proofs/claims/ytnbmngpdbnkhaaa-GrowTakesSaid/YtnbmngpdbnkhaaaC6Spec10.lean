/- Clones and twins: what they make. Conditions: none. -/
import Derived.Test.YtnbmngpdbnkhaaaC6Spec9
set_option linter.unusedVariables false
set_option linter.unusedSimpArgs false
set_option maxRecDepth 20000
set_option maxHeartbeats 8000000
namespace Go.Sk
open Go.Proofs.Try
theorem ret_one {res : List MRes} {Q : AV → List Row → Prop} {env : Env} {rows : List Row} {j n e : Nat} {l : List (List AV)} (h : resVs env rows res = some [.sref j n]) (hr : rows[j]? = some (.vec e l)) (k : Q (.sref 0 n) [.vec e l]) : RetW 0 res Q env rows := by
  refine ⟨[.sref j n], h, [j], ⟨Nat.zero_le _, fun i hi => absurd hi (Nat.not_lt_zero _), by simp, by simp [resV, idsV], by simp [hr, idsR]⟩, ?_⟩
  have e1 : renV (gcF [j]) (resV [.sref j n]) = .sref 0 n := by simp [resV, renV, gcF]
  have e2 : gcRows [j] rows = [.vec e l] := by simp [gcRows, List.getD_eq_getElem?_getD, hr, renR]
  rw [e1, e2]; exact k
theorem op_nil {P : Program} {env : Env} {rows : List Row} {os : List MOper} {d : Nat} {neg : Bool} {x : Opd} {e : Nat} {K : Env → List Row → Prop} (h : x.get env = .nil e) (k : Sk.wpOps P os ((d, .bool (!neg)) :: env) rows K) : Sk.wpOps P (⟨some d, .isnil neg x, none⟩ :: os) env rows K := by
  unfold Sk.wpOps
  simp only [Sk.wpOp, wpNil, h]
  exact k
theorem op_nonnil {P : Program} {env : Env} {rows : List Row} {os : List MOper} {d : Nat} {neg : Bool} {x : Opd} {e : Nat} {l : List (List AV)} {K : Env → List Row → Prop} (h : x.get env = .fz e l) (k : Sk.wpOps P os ((d, .bool neg) :: env) rows K) : Sk.wpOps P (⟨some d, .isnil neg x, none⟩ :: os) env rows K := by
  unfold Sk.wpOps
  simp only [Sk.wpOp, wpNil, h]
  exact k
theorem f105n : FCall prog 105 [.nil 5] (.nil 5) := by
  refine fcall mixed t105 (by simp [m105]) (by simp [idsL, idsV]) (f_body ?_)
  simp only [m105, argEnv, List.length_nil, List.nil_append, List.cons_append, Nat.zero_add]
  repeat' first
    | (with_reducible first | apply c_seq | apply c_reg | apply c_dreg0 | apply c_block | apply c_ret | apply c_exit | apply c_skip | apply ops_nil | apply d_nil | apply k_seq_n | apply k_seq_r | apply k_seq_x | apply k_blk_n | apply k_blk_r | apply k_blk_x | apply k_end_n | apply k_end_r | apply k_loop_x | apply k_loop_r | apply c_dreg1 | apply c_dreg2)
    | ((with_reducible first | apply op_gS | apply op_g0 | apply d_gS | apply d_g0); (focus (simp only [W0, reduceIte, Nat.reduceEqDiff, Nat.reduceAdd, Nat.reduceSub, Nat.reduceLeDiff]; rfl)); (with_reducible first | apply g_no | apply g_T | apply g_F); all_goals (try (intro hc; first | exact absurd hc (by decide) | subst hc | clear hc)))
    | ((with_reducible apply c_cond); (focus (simp only [W0, reduceIte, Nat.reduceEqDiff, Nat.reduceAdd, Nat.reduceSub, Nat.reduceLeDiff]; rfl)); all_goals (intro hc; first | exact absurd hc (by decide) | subst hc | clear hc))
    | ((with_reducible first | apply op_isB | apply d_isV); (focus rfl); (focus (simp only [W0, reduceIte, Nat.reduceEqDiff, Nat.reduceAdd, Nat.reduceSub, Nat.reduceLeDiff]; rfl)); intro c' hc')
    | ((with_reducible first | apply op_step | apply op_step0 | apply d_ld | apply d_st | apply d_new | apply d_box | apply d_bsl | apply d_apw | apply d_apa | apply d_v); (focus (simp only [W0, reduceIte, Nat.reduceEqDiff, Nat.reduceAdd, Nat.reduceSub, Nat.reduceLeDiff]; rfl)); all_goals (try rfl))
  refine op_nil (e := 5) (by simp only [stepOp, Opd.get, look, behind, skip, firsts, putAt, putParts, thawL, storeAt, loadR, widths, binV, intBin, idx, Option.bind, Option.map, reduceIte, Nat.reduceEqDiff, Nat.reduceAdd, Nat.reduceSub, Nat.reduceLeDiff, W1]) ?_
  simp only [Bool.not_false, Bool.not_true]
  repeat' first
    | (with_reducible first | apply c_seq | apply c_reg | apply c_dreg0 | apply c_block | apply c_ret | apply c_exit | apply c_skip | apply ops_nil | apply d_nil | apply k_seq_n | apply k_seq_r | apply k_seq_x | apply k_blk_n | apply k_blk_r | apply k_blk_x | apply k_end_n | apply k_end_r | apply k_loop_x | apply k_loop_r | apply c_dreg1 | apply c_dreg2)
    | ((with_reducible first | apply op_gS | apply op_g0 | apply d_gS | apply d_g0); (focus (simp only [W0, reduceIte, Nat.reduceEqDiff, Nat.reduceAdd, Nat.reduceSub, Nat.reduceLeDiff]; rfl)); (with_reducible first | apply g_no | apply g_T | apply g_F); all_goals (try (intro hc; first | exact absurd hc (by decide) | subst hc | clear hc)))
    | ((with_reducible apply c_cond); (focus (simp only [W0, reduceIte, Nat.reduceEqDiff, Nat.reduceAdd, Nat.reduceSub, Nat.reduceLeDiff]; rfl)); all_goals (intro hc; first | exact absurd hc (by decide) | subst hc | clear hc))
    | ((with_reducible first | apply op_isB | apply d_isV); (focus rfl); (focus (simp only [W0, reduceIte, Nat.reduceEqDiff, Nat.reduceAdd, Nat.reduceSub, Nat.reduceLeDiff]; rfl)); intro c' hc')
    | ((with_reducible first | apply op_step | apply op_step0 | apply d_ld | apply d_st | apply d_new | apply d_box | apply d_bsl | apply d_apw | apply d_apa | apply d_v); (focus (simp only [W0, reduceIte, Nat.reduceEqDiff, Nat.reduceAdd, Nat.reduceSub, Nat.reduceLeDiff]; rfl)); all_goals (try rfl))
  all_goals ((with_reducible apply ret_plain); (focus (simp only [resVs, resV1, look, Option.bind, Option.map, reduceIte, Nat.reduceEqDiff]; rfl)); (focus (simp [resV, idsV, idsL, slA_ids])))
  all_goals exact ⟨[], rfl⟩
theorem f105s (l : List (List AV)) (h : l.length ≤ 140737488355328) (n : Nat) : FCallN prog 105 [.fz 5 l] n (.sref n l.length) [.vec 5 l] := by
  have key : CW prog 105 [.fz 5 l] [] (fun r q => r = .sref 0 l.length ∧ q = [.vec 5 l]) := by
    refine trF_ok mixed t105 (by simp [m105]) (f_body ?_)
    simp only [m105, argEnv, List.length_nil, List.nil_append, List.cons_append, Nat.zero_add]
    repeat' first
      | (with_reducible first | apply c_seq | apply c_reg | apply c_dreg0 | apply c_block | apply c_ret | apply c_exit | apply c_skip | apply ops_nil | apply d_nil | apply k_seq_n | apply k_seq_r | apply k_seq_x | apply k_blk_n | apply k_blk_r | apply k_blk_x | apply k_end_n | apply k_end_r | apply k_loop_x | apply k_loop_r | apply c_dreg1 | apply c_dreg2)
      | ((with_reducible first | apply op_gS | apply op_g0 | apply d_gS | apply d_g0); (focus (simp only [W0, reduceIte, Nat.reduceEqDiff, Nat.reduceAdd, Nat.reduceSub, Nat.reduceLeDiff]; rfl)); (with_reducible first | apply g_no | apply g_T | apply g_F); all_goals (try (intro hc; first | exact absurd hc (by decide) | subst hc | clear hc)))
      | ((with_reducible apply c_cond); (focus (simp only [W0, reduceIte, Nat.reduceEqDiff, Nat.reduceAdd, Nat.reduceSub, Nat.reduceLeDiff]; rfl)); all_goals (intro hc; first | exact absurd hc (by decide) | subst hc | clear hc))
      | ((with_reducible first | apply op_isB | apply d_isV); (focus rfl); (focus (simp only [W0, reduceIte, Nat.reduceEqDiff, Nat.reduceAdd, Nat.reduceSub, Nat.reduceLeDiff]; rfl)); intro c' hc')
      | ((with_reducible first | apply op_step | apply op_step0 | apply d_ld | apply d_st | apply d_new | apply d_box | apply d_bsl | apply d_apw | apply d_apa | apply d_v); (focus (simp only [W0, reduceIte, Nat.reduceEqDiff, Nat.reduceAdd, Nat.reduceSub, Nat.reduceLeDiff]; rfl)); all_goals (try rfl))
    refine op_nonnil (e := 5) (l := l) (by simp only [stepOp, Opd.get, look, behind, skip, firsts, putAt, putParts, thawL, storeAt, loadR, widths, binV, intBin, idx, Option.bind, Option.map, reduceIte, Nat.reduceEqDiff, Nat.reduceAdd, Nat.reduceSub, Nat.reduceLeDiff, W1]) ?_
    repeat' first
      | (with_reducible first | apply c_seq | apply c_reg | apply c_dreg0 | apply c_block | apply c_ret | apply c_exit | apply c_skip | apply ops_nil | apply d_nil | apply k_seq_n | apply k_seq_r | apply k_seq_x | apply k_blk_n | apply k_blk_r | apply k_blk_x | apply k_end_n | apply k_end_r | apply k_loop_x | apply k_loop_r | apply c_dreg1 | apply c_dreg2)
      | ((with_reducible first | apply op_gS | apply op_g0 | apply d_gS | apply d_g0); (focus (simp only [W0, reduceIte, Nat.reduceEqDiff, Nat.reduceAdd, Nat.reduceSub, Nat.reduceLeDiff, putElems, elems, appR, List.replicate, List.take_zero, List.take_nil, Nat.zero_le, true_and, if_pos h]; rfl)); (with_reducible first | apply g_no | apply g_T | apply g_F); all_goals (try (intro hc; first | exact absurd hc (by decide) | subst hc | clear hc)))
      | ((with_reducible apply c_cond); (focus (simp only [W0, reduceIte, Nat.reduceEqDiff, Nat.reduceAdd, Nat.reduceSub, Nat.reduceLeDiff, putElems, elems, appR, List.replicate, List.take_zero, List.take_nil, Nat.zero_le, true_and, if_pos h]; rfl)); all_goals (intro hc; first | exact absurd hc (by decide) | subst hc | clear hc))
      | ((with_reducible first | apply op_isB | apply d_isV); (focus rfl); (focus (simp only [W0, reduceIte, Nat.reduceEqDiff, Nat.reduceAdd, Nat.reduceSub, Nat.reduceLeDiff, putElems, elems, appR, List.replicate, List.take_zero, List.take_nil, Nat.zero_le, true_and, if_pos h]; rfl)); intro c' hc')
      | ((with_reducible first | apply op_step | apply op_step0 | apply d_ld | apply d_st | apply d_new | apply d_box | apply d_bsl | apply d_apw | apply d_apa | apply d_v); (focus (simp only [W0, reduceIte, Nat.reduceEqDiff, Nat.reduceAdd, Nat.reduceSub, Nat.reduceLeDiff, putElems, elems, appR, List.replicate, List.take_zero, List.take_nil, Nat.zero_le, true_and, if_pos h]; rfl)); all_goals (try rfl))
    all_goals exact ret_one rfl rfl ⟨rfl, rfl⟩
  have := FCallN.of (by simp [idsL, idsV]) key n
  simpa [renV, renR] using this
theorem f106n : FCall prog 106 [.nil 66] (.nil 66) := by
  refine fcall mixed t106 (by simp [m106]) (by simp [idsL, idsV]) (f_body ?_)
  simp only [m106, argEnv, List.length_nil, List.nil_append, List.cons_append, Nat.zero_add]
  repeat' first
    | (with_reducible first | apply c_seq | apply c_reg | apply c_dreg0 | apply c_block | apply c_ret | apply c_exit | apply c_skip | apply ops_nil | apply d_nil | apply k_seq_n | apply k_seq_r | apply k_seq_x | apply k_blk_n | apply k_blk_r | apply k_blk_x | apply k_end_n | apply k_end_r | apply k_loop_x | apply k_loop_r | apply c_dreg1 | apply c_dreg2)
    | ((with_reducible first | apply op_gS | apply op_g0 | apply d_gS | apply d_g0); (focus (simp only [W0, reduceIte, Nat.reduceEqDiff, Nat.reduceAdd, Nat.reduceSub, Nat.reduceLeDiff]; rfl)); (with_reducible first | apply g_no | apply g_T | apply g_F); all_goals (try (intro hc; first | exact absurd hc (by decide) | subst hc | clear hc)))
    | ((with_reducible apply c_cond); (focus (simp only [W0, reduceIte, Nat.reduceEqDiff, Nat.reduceAdd, Nat.reduceSub, Nat.reduceLeDiff]; rfl)); all_goals (intro hc; first | exact absurd hc (by decide) | subst hc | clear hc))
    | ((with_reducible first | apply op_isB | apply d_isV); (focus rfl); (focus (simp only [W0, reduceIte, Nat.reduceEqDiff, Nat.reduceAdd, Nat.reduceSub, Nat.reduceLeDiff]; rfl)); intro c' hc')
    | ((with_reducible first | apply op_step | apply op_step0 | apply d_ld | apply d_st | apply d_new | apply d_box | apply d_bsl | apply d_apw | apply d_apa | apply d_v); (focus (simp only [W0, reduceIte, Nat.reduceEqDiff, Nat.reduceAdd, Nat.reduceSub, Nat.reduceLeDiff]; rfl)); all_goals (try rfl))
  refine op_nil (e := 66) (by simp only [stepOp, Opd.get, look, behind, skip, firsts, putAt, putParts, thawL, storeAt, loadR, widths, binV, intBin, idx, Option.bind, Option.map, reduceIte, Nat.reduceEqDiff, Nat.reduceAdd, Nat.reduceSub, Nat.reduceLeDiff, W1]) ?_
  simp only [Bool.not_false, Bool.not_true]
  repeat' first
    | (with_reducible first | apply c_seq | apply c_reg | apply c_dreg0 | apply c_block | apply c_ret | apply c_exit | apply c_skip | apply ops_nil | apply d_nil | apply k_seq_n | apply k_seq_r | apply k_seq_x | apply k_blk_n | apply k_blk_r | apply k_blk_x | apply k_end_n | apply k_end_r | apply k_loop_x | apply k_loop_r | apply c_dreg1 | apply c_dreg2)
    | ((with_reducible first | apply op_gS | apply op_g0 | apply d_gS | apply d_g0); (focus (simp only [W0, reduceIte, Nat.reduceEqDiff, Nat.reduceAdd, Nat.reduceSub, Nat.reduceLeDiff]; rfl)); (with_reducible first | apply g_no | apply g_T | apply g_F); all_goals (try (intro hc; first | exact absurd hc (by decide) | subst hc | clear hc)))
    | ((with_reducible apply c_cond); (focus (simp only [W0, reduceIte, Nat.reduceEqDiff, Nat.reduceAdd, Nat.reduceSub, Nat.reduceLeDiff]; rfl)); all_goals (intro hc; first | exact absurd hc (by decide) | subst hc | clear hc))
    | ((with_reducible first | apply op_isB | apply d_isV); (focus rfl); (focus (simp only [W0, reduceIte, Nat.reduceEqDiff, Nat.reduceAdd, Nat.reduceSub, Nat.reduceLeDiff]; rfl)); intro c' hc')
    | ((with_reducible first | apply op_step | apply op_step0 | apply d_ld | apply d_st | apply d_new | apply d_box | apply d_bsl | apply d_apw | apply d_apa | apply d_v); (focus (simp only [W0, reduceIte, Nat.reduceEqDiff, Nat.reduceAdd, Nat.reduceSub, Nat.reduceLeDiff]; rfl)); all_goals (try rfl))
  all_goals ((with_reducible apply ret_plain); (focus (simp only [resVs, resV1, look, Option.bind, Option.map, reduceIte, Nat.reduceEqDiff]; rfl)); (focus (simp [resV, idsV, idsL, slA_ids])))
  all_goals exact ⟨[], rfl⟩
theorem f106s (l : List (List AV)) (h : l.length ≤ 925904528653) (n : Nat) : FCallN prog 106 [.fz 66 l] n (.sref n l.length) [.vec 66 l] := by
  have key : CW prog 106 [.fz 66 l] [] (fun r q => r = .sref 0 l.length ∧ q = [.vec 66 l]) := by
    refine trF_ok mixed t106 (by simp [m106]) (f_body ?_)
    simp only [m106, argEnv, List.length_nil, List.nil_append, List.cons_append, Nat.zero_add]
    repeat' first
      | (with_reducible first | apply c_seq | apply c_reg | apply c_dreg0 | apply c_block | apply c_ret | apply c_exit | apply c_skip | apply ops_nil | apply d_nil | apply k_seq_n | apply k_seq_r | apply k_seq_x | apply k_blk_n | apply k_blk_r | apply k_blk_x | apply k_end_n | apply k_end_r | apply k_loop_x | apply k_loop_r | apply c_dreg1 | apply c_dreg2)
      | ((with_reducible first | apply op_gS | apply op_g0 | apply d_gS | apply d_g0); (focus (simp only [W0, reduceIte, Nat.reduceEqDiff, Nat.reduceAdd, Nat.reduceSub, Nat.reduceLeDiff]; rfl)); (with_reducible first | apply g_no | apply g_T | apply g_F); all_goals (try (intro hc; first | exact absurd hc (by decide) | subst hc | clear hc)))
      | ((with_reducible apply c_cond); (focus (simp only [W0, reduceIte, Nat.reduceEqDiff, Nat.reduceAdd, Nat.reduceSub, Nat.reduceLeDiff]; rfl)); all_goals (intro hc; first | exact absurd hc (by decide) | subst hc | clear hc))
      | ((with_reducible first | apply op_isB | apply d_isV); (focus rfl); (focus (simp only [W0, reduceIte, Nat.reduceEqDiff, Nat.reduceAdd, Nat.reduceSub, Nat.reduceLeDiff]; rfl)); intro c' hc')
      | ((with_reducible first | apply op_step | apply op_step0 | apply d_ld | apply d_st | apply d_new | apply d_box | apply d_bsl | apply d_apw | apply d_apa | apply d_v); (focus (simp only [W0, reduceIte, Nat.reduceEqDiff, Nat.reduceAdd, Nat.reduceSub, Nat.reduceLeDiff]; rfl)); all_goals (try rfl))
    refine op_nonnil (e := 66) (l := l) (by simp only [stepOp, Opd.get, look, behind, skip, firsts, putAt, putParts, thawL, storeAt, loadR, widths, binV, intBin, idx, Option.bind, Option.map, reduceIte, Nat.reduceEqDiff, Nat.reduceAdd, Nat.reduceSub, Nat.reduceLeDiff, W1]) ?_
    repeat' first
      | (with_reducible first | apply c_seq | apply c_reg | apply c_dreg0 | apply c_block | apply c_ret | apply c_exit | apply c_skip | apply ops_nil | apply d_nil | apply k_seq_n | apply k_seq_r | apply k_seq_x | apply k_blk_n | apply k_blk_r | apply k_blk_x | apply k_end_n | apply k_end_r | apply k_loop_x | apply k_loop_r | apply c_dreg1 | apply c_dreg2)
      | ((with_reducible first | apply op_gS | apply op_g0 | apply d_gS | apply d_g0); (focus (simp only [W0, reduceIte, Nat.reduceEqDiff, Nat.reduceAdd, Nat.reduceSub, Nat.reduceLeDiff, putElems, elems, appR, List.replicate, List.take_zero, List.take_nil, Nat.zero_le, true_and, if_pos h]; rfl)); (with_reducible first | apply g_no | apply g_T | apply g_F); all_goals (try (intro hc; first | exact absurd hc (by decide) | subst hc | clear hc)))
      | ((with_reducible apply c_cond); (focus (simp only [W0, reduceIte, Nat.reduceEqDiff, Nat.reduceAdd, Nat.reduceSub, Nat.reduceLeDiff, putElems, elems, appR, List.replicate, List.take_zero, List.take_nil, Nat.zero_le, true_and, if_pos h]; rfl)); all_goals (intro hc; first | exact absurd hc (by decide) | subst hc | clear hc))
      | ((with_reducible first | apply op_isB | apply d_isV); (focus rfl); (focus (simp only [W0, reduceIte, Nat.reduceEqDiff, Nat.reduceAdd, Nat.reduceSub, Nat.reduceLeDiff, putElems, elems, appR, List.replicate, List.take_zero, List.take_nil, Nat.zero_le, true_and, if_pos h]; rfl)); intro c' hc')
      | ((with_reducible first | apply op_step | apply op_step0 | apply d_ld | apply d_st | apply d_new | apply d_box | apply d_bsl | apply d_apw | apply d_apa | apply d_v); (focus (simp only [W0, reduceIte, Nat.reduceEqDiff, Nat.reduceAdd, Nat.reduceSub, Nat.reduceLeDiff, putElems, elems, appR, List.replicate, List.take_zero, List.take_nil, Nat.zero_le, true_and, if_pos h]; rfl)); all_goals (try rfl))
    all_goals exact ret_one rfl rfl ⟨rfl, rfl⟩
  have := FCallN.of (by simp [idsL, idsV]) key n
  simpa [renV, renR] using this
/-- What a twin is, where n rows are; the rows that it makes. -/
def twU (n : Nat) (v : V27) : AV := match v.f5, v.f6 with
  | none, none => .agg v.l
  | some a, none => .agg ([.int .i64 v.f0, .int .i64 v.f1, .int .i64 v.f2, .int .i64 v.f3] ++ v.f4.l ++ [.sref n a.length, .nil 66])
  | none, some b => .agg ([.int .i64 v.f0, .int .i64 v.f1, .int .i64 v.f2, .int .i64 v.f3] ++ v.f4.l ++ [.nil 5, .sref n b.length])
  | some a, some b => .agg ([.int .i64 v.f0, .int .i64 v.f1, .int .i64 v.f2, .int .i64 v.f3] ++ v.f4.l ++ [.sref n a.length, .sref (n + 1) b.length])
def twR (v : V27) : List Row := match v.f5, v.f6 with
  | none, none => []
  | some a, none => [.vec 5 a]
  | none, some b => [.vec 66 b]
  | some a, some b => [.vec 5 a, .vec 66 b]
theorem twnn (f0 f1 f2 f3 : Int) (f4 : V23)  : CW prog 100 [.agg (V27.mk f0 f1 f2 f3 f4 (none) (none)).l] [] (fun r q => r = twU 0 (V27.mk f0 f1 f2 f3 f4 (none) (none)) ∧ q = twR (V27.mk f0 f1 f2 f3 f4 (none) (none))) := by
  refine trF_ok mixed t100 (by simp [m100]) (f_body ?_)
  simp only [m100, argEnv, List.length_nil, List.nil_append, List.cons_append, Nat.zero_add, V27.l, V23.l, slA, twU, twR]
  repeat' first
    | (with_reducible first | apply c_seq | apply c_reg | apply c_dreg0 | apply c_block | apply c_ret | apply c_exit | apply c_skip | apply ops_nil | apply d_nil | apply k_seq_n | apply k_seq_r | apply k_seq_x | apply k_blk_n | apply k_blk_r | apply k_blk_x | apply k_end_n | apply k_end_r | apply k_loop_x | apply k_loop_r | apply c_dreg1 | apply c_dreg2)
    | ((with_reducible first | apply op_gS | apply op_g0 | apply d_gS | apply d_g0); (focus (simp only [W0, reduceIte, Nat.reduceEqDiff, Nat.reduceAdd, Nat.reduceSub, Nat.reduceLeDiff]; rfl)); (with_reducible first | apply g_no | apply g_T | apply g_F); all_goals (try (intro hc; first | exact absurd hc (by decide) | subst hc | clear hc)))
    | ((with_reducible apply c_cond); (focus (simp only [W0, reduceIte, Nat.reduceEqDiff, Nat.reduceAdd, Nat.reduceSub, Nat.reduceLeDiff]; rfl)); all_goals (intro hc; first | exact absurd hc (by decide) | subst hc | clear hc))
    | ((with_reducible first | apply op_fcall (f := 105) | apply d_fcall (f := 105)); (focus ((try simp only [W0, reduceIte, Nat.reduceEqDiff, Nat.reduceAdd, Nat.reduceSub, Nat.reduceLeDiff]); first | exact f105n)); all_goals (try rfl))
    | ((with_reducible first | apply op_fcall (f := 106) | apply d_fcall (f := 106)); (focus ((try simp only [W0, reduceIte, Nat.reduceEqDiff, Nat.reduceAdd, Nat.reduceSub, Nat.reduceLeDiff]); first | exact f106n)); all_goals (try rfl))
    | ((with_reducible first | apply op_isB | apply d_isV); (focus rfl); (focus (simp only [W0, reduceIte, Nat.reduceEqDiff, Nat.reduceAdd, Nat.reduceSub, Nat.reduceLeDiff]; rfl)); intro c' hc')
    | ((with_reducible first | apply op_step | apply op_step0 | apply d_ld | apply d_st | apply d_new | apply d_box | apply d_bsl | apply d_apw | apply d_apa | apply d_v); (focus (simp only [W0, reduceIte, Nat.reduceEqDiff, Nat.reduceAdd, Nat.reduceSub, Nat.reduceLeDiff]; rfl)); all_goals (try rfl))
  all_goals refine ⟨_, (by simp only [stepOp, Opd.get, look, behind, skip, firsts, putAt, putParts, thawL, storeAt, loadR, widths, binV, intBin, idx, Option.bind, Option.map, reduceIte, Nat.reduceEqDiff, Nat.reduceAdd, Nat.reduceSub, Nat.reduceLeDiff, W1, resVs, resV1]; rfl), [], ⟨Nat.zero_le _, fun i hi => absurd hi (Nat.not_lt_zero _), by simp, by simp [resV, idsV, idsL], by simp [idsR, idsV, idsL]⟩, ?_⟩
  all_goals simp [resV, renV, renL, gcF, gcRows, renR, List.idxOf_cons]
theorem twns (f0 f1 f2 f3 : Int) (f4 : V23) (b : List (List AV)) (hb : b.length ≤ 925904528653) : CW prog 100 [.agg (V27.mk f0 f1 f2 f3 f4 (none) (some b)).l] [] (fun r q => r = twU 0 (V27.mk f0 f1 f2 f3 f4 (none) (some b)) ∧ q = twR (V27.mk f0 f1 f2 f3 f4 (none) (some b))) := by
  refine trF_ok mixed t100 (by simp [m100]) (f_body ?_)
  simp only [m100, argEnv, List.length_nil, List.nil_append, List.cons_append, Nat.zero_add, V27.l, V23.l, slA, twU, twR]
  repeat' first
    | (with_reducible first | apply c_seq | apply c_reg | apply c_dreg0 | apply c_block | apply c_ret | apply c_exit | apply c_skip | apply ops_nil | apply d_nil | apply k_seq_n | apply k_seq_r | apply k_seq_x | apply k_blk_n | apply k_blk_r | apply k_blk_x | apply k_end_n | apply k_end_r | apply k_loop_x | apply k_loop_r | apply c_dreg1 | apply c_dreg2)
    | ((with_reducible first | apply op_gS | apply op_g0 | apply d_gS | apply d_g0); (focus (simp only [W0, reduceIte, Nat.reduceEqDiff, Nat.reduceAdd, Nat.reduceSub, Nat.reduceLeDiff]; rfl)); (with_reducible first | apply g_no | apply g_T | apply g_F); all_goals (try (intro hc; first | exact absurd hc (by decide) | subst hc | clear hc)))
    | ((with_reducible apply c_cond); (focus (simp only [W0, reduceIte, Nat.reduceEqDiff, Nat.reduceAdd, Nat.reduceSub, Nat.reduceLeDiff]; rfl)); all_goals (intro hc; first | exact absurd hc (by decide) | subst hc | clear hc))
    | ((with_reducible first | apply op_cn (f := 106) | apply d_cn (f := 106)); (focus ((try simp only [W0, reduceIte, Nat.reduceEqDiff, Nat.reduceAdd, Nat.reduceSub, Nat.reduceLeDiff]); exact f106s b hb _)); all_goals (try rfl))
    | ((with_reducible first | apply op_fcall (f := 105) | apply d_fcall (f := 105)); (focus ((try simp only [W0, reduceIte, Nat.reduceEqDiff, Nat.reduceAdd, Nat.reduceSub, Nat.reduceLeDiff]); first | exact f105n)); all_goals (try rfl))
    | ((with_reducible first | apply op_isB | apply d_isV); (focus rfl); (focus (simp only [W0, reduceIte, Nat.reduceEqDiff, Nat.reduceAdd, Nat.reduceSub, Nat.reduceLeDiff]; rfl)); intro c' hc')
    | ((with_reducible first | apply op_step | apply op_step0 | apply d_ld | apply d_st | apply d_new | apply d_box | apply d_bsl | apply d_apw | apply d_apa | apply d_v); (focus (simp only [W0, reduceIte, Nat.reduceEqDiff, Nat.reduceAdd, Nat.reduceSub, Nat.reduceLeDiff]; rfl)); all_goals (try rfl))
  all_goals refine ⟨_, (by simp only [stepOp, Opd.get, look, behind, skip, firsts, putAt, putParts, thawL, storeAt, loadR, widths, binV, intBin, idx, Option.bind, Option.map, reduceIte, Nat.reduceEqDiff, Nat.reduceAdd, Nat.reduceSub, Nat.reduceLeDiff, W1, resVs, resV1]; rfl), [2], ⟨Nat.zero_le _, fun i hi => absurd hi (Nat.not_lt_zero _), by simp, by simp [resV, idsV, idsL], by simp [idsR, idsV, idsL]⟩, ?_⟩
  all_goals simp [resV, renV, renL, gcF, gcRows, renR, List.idxOf_cons]
theorem twsn (f0 f1 f2 f3 : Int) (f4 : V23) (a : List (List AV)) (ha : a.length ≤ 140737488355328) : CW prog 100 [.agg (V27.mk f0 f1 f2 f3 f4 (some a) (none)).l] [] (fun r q => r = twU 0 (V27.mk f0 f1 f2 f3 f4 (some a) (none)) ∧ q = twR (V27.mk f0 f1 f2 f3 f4 (some a) (none))) := by
  refine trF_ok mixed t100 (by simp [m100]) (f_body ?_)
  simp only [m100, argEnv, List.length_nil, List.nil_append, List.cons_append, Nat.zero_add, V27.l, V23.l, slA, twU, twR]
  repeat' first
    | (with_reducible first | apply c_seq | apply c_reg | apply c_dreg0 | apply c_block | apply c_ret | apply c_exit | apply c_skip | apply ops_nil | apply d_nil | apply k_seq_n | apply k_seq_r | apply k_seq_x | apply k_blk_n | apply k_blk_r | apply k_blk_x | apply k_end_n | apply k_end_r | apply k_loop_x | apply k_loop_r | apply c_dreg1 | apply c_dreg2)
    | ((with_reducible first | apply op_gS | apply op_g0 | apply d_gS | apply d_g0); (focus (simp only [W0, reduceIte, Nat.reduceEqDiff, Nat.reduceAdd, Nat.reduceSub, Nat.reduceLeDiff]; rfl)); (with_reducible first | apply g_no | apply g_T | apply g_F); all_goals (try (intro hc; first | exact absurd hc (by decide) | subst hc | clear hc)))
    | ((with_reducible apply c_cond); (focus (simp only [W0, reduceIte, Nat.reduceEqDiff, Nat.reduceAdd, Nat.reduceSub, Nat.reduceLeDiff]; rfl)); all_goals (intro hc; first | exact absurd hc (by decide) | subst hc | clear hc))
    | ((with_reducible first | apply op_cn (f := 105) | apply d_cn (f := 105)); (focus ((try simp only [W0, reduceIte, Nat.reduceEqDiff, Nat.reduceAdd, Nat.reduceSub, Nat.reduceLeDiff]); exact f105s a ha _)); all_goals (try rfl))
    | ((with_reducible first | apply op_fcall (f := 106) | apply d_fcall (f := 106)); (focus ((try simp only [W0, reduceIte, Nat.reduceEqDiff, Nat.reduceAdd, Nat.reduceSub, Nat.reduceLeDiff]); first | exact f106n)); all_goals (try rfl))
    | ((with_reducible first | apply op_isB | apply d_isV); (focus rfl); (focus (simp only [W0, reduceIte, Nat.reduceEqDiff, Nat.reduceAdd, Nat.reduceSub, Nat.reduceLeDiff]; rfl)); intro c' hc')
    | ((with_reducible first | apply op_step | apply op_step0 | apply d_ld | apply d_st | apply d_new | apply d_box | apply d_bsl | apply d_apw | apply d_apa | apply d_v); (focus (simp only [W0, reduceIte, Nat.reduceEqDiff, Nat.reduceAdd, Nat.reduceSub, Nat.reduceLeDiff]; rfl)); all_goals (try rfl))
  all_goals refine ⟨_, (by simp only [stepOp, Opd.get, look, behind, skip, firsts, putAt, putParts, thawL, storeAt, loadR, widths, binV, intBin, idx, Option.bind, Option.map, reduceIte, Nat.reduceEqDiff, Nat.reduceAdd, Nat.reduceSub, Nat.reduceLeDiff, W1, resVs, resV1]; rfl), [2], ⟨Nat.zero_le _, fun i hi => absurd hi (Nat.not_lt_zero _), by simp, by simp [resV, idsV, idsL], by simp [idsR, idsV, idsL]⟩, ?_⟩
  all_goals simp [resV, renV, renL, gcF, gcRows, renR, List.idxOf_cons]
theorem twss (f0 f1 f2 f3 : Int) (f4 : V23) (a : List (List AV)) (ha : a.length ≤ 140737488355328) (b : List (List AV)) (hb : b.length ≤ 925904528653) : CW prog 100 [.agg (V27.mk f0 f1 f2 f3 f4 (some a) (some b)).l] [] (fun r q => r = twU 0 (V27.mk f0 f1 f2 f3 f4 (some a) (some b)) ∧ q = twR (V27.mk f0 f1 f2 f3 f4 (some a) (some b))) := by
  refine trF_ok mixed t100 (by simp [m100]) (f_body ?_)
  simp only [m100, argEnv, List.length_nil, List.nil_append, List.cons_append, Nat.zero_add, V27.l, V23.l, slA, twU, twR]
  repeat' first
    | (with_reducible first | apply c_seq | apply c_reg | apply c_dreg0 | apply c_block | apply c_ret | apply c_exit | apply c_skip | apply ops_nil | apply d_nil | apply k_seq_n | apply k_seq_r | apply k_seq_x | apply k_blk_n | apply k_blk_r | apply k_blk_x | apply k_end_n | apply k_end_r | apply k_loop_x | apply k_loop_r | apply c_dreg1 | apply c_dreg2)
    | ((with_reducible first | apply op_gS | apply op_g0 | apply d_gS | apply d_g0); (focus (simp only [W0, reduceIte, Nat.reduceEqDiff, Nat.reduceAdd, Nat.reduceSub, Nat.reduceLeDiff]; rfl)); (with_reducible first | apply g_no | apply g_T | apply g_F); all_goals (try (intro hc; first | exact absurd hc (by decide) | subst hc | clear hc)))
    | ((with_reducible apply c_cond); (focus (simp only [W0, reduceIte, Nat.reduceEqDiff, Nat.reduceAdd, Nat.reduceSub, Nat.reduceLeDiff]; rfl)); all_goals (intro hc; first | exact absurd hc (by decide) | subst hc | clear hc))
    | ((with_reducible first | apply op_cn (f := 105) | apply d_cn (f := 105)); (focus ((try simp only [W0, reduceIte, Nat.reduceEqDiff, Nat.reduceAdd, Nat.reduceSub, Nat.reduceLeDiff]); exact f105s a ha _)); all_goals (try rfl))
    | ((with_reducible first | apply op_cn (f := 106) | apply d_cn (f := 106)); (focus ((try simp only [W0, reduceIte, Nat.reduceEqDiff, Nat.reduceAdd, Nat.reduceSub, Nat.reduceLeDiff]); exact f106s b hb _)); all_goals (try rfl))
    | ((with_reducible first | apply op_isB | apply d_isV); (focus rfl); (focus (simp only [W0, reduceIte, Nat.reduceEqDiff, Nat.reduceAdd, Nat.reduceSub, Nat.reduceLeDiff]; rfl)); intro c' hc')
    | ((with_reducible first | apply op_step | apply op_step0 | apply d_ld | apply d_st | apply d_new | apply d_box | apply d_bsl | apply d_apw | apply d_apa | apply d_v); (focus (simp only [W0, reduceIte, Nat.reduceEqDiff, Nat.reduceAdd, Nat.reduceSub, Nat.reduceLeDiff]; rfl)); all_goals (try rfl))
  all_goals refine ⟨_, (by simp only [stepOp, Opd.get, look, behind, skip, firsts, putAt, putParts, thawL, storeAt, loadR, widths, binV, intBin, idx, Option.bind, Option.map, reduceIte, Nat.reduceEqDiff, Nat.reduceAdd, Nat.reduceSub, Nat.reduceLeDiff, W1, resVs, resV1]; rfl), [2, 3], ⟨Nat.zero_le _, fun i hi => absurd hi (Nat.not_lt_zero _), by simp, by simp [resV, idsV, idsL], by simp [idsR, idsV, idsL]⟩, ?_⟩
  all_goals simp [resV, renV, renL, gcF, gcRows, renR, List.idxOf_cons]
/-- A log's twin. -/
theorem f100 (v : V27) (h5 : (slL v.f5).length ≤ 140737488355328) (h6 : (slL v.f6).length ≤ 925904528653) (n : Nat) : FCallN prog 100 [.agg v.l] n (twU n v) (twR v) := by
  obtain ⟨f0, f1, f2, f3, f4, f5, f6⟩ := v
  have hid : ∀ w : V27, idsL [AV.agg w.l] = [] := fun w => by simp [idsL, idsV, V27.ids]
  cases f5 with
  | none =>
    cases f6 with
    | none =>
      have := FCallN.of (hid _) (twnn f0 f1 f2 f3 f4) n
      simpa [twU, twR, renV, renL, V27.l, V23.l, slA] using this
    | some b =>
      have := FCallN.of (hid _) (twns f0 f1 f2 f3 f4 b h6) n
      simpa [twU, twR, renV, renL, renR, V27.l, V23.l, slA] using this
  | some a =>
    cases f6 with
    | none =>
      have := FCallN.of (hid _) (twsn f0 f1 f2 f3 f4 a h5) n
      simpa [twU, twR, renV, renL, renR, V27.l, V23.l, slA] using this
    | some b =>
      have := FCallN.of (hid _) (twss f0 f1 f2 f3 f4 a h5 b h6) n
      simpa [twU, twR, renV, renL, renR, V27.l, V23.l, slA, Nat.add_comm] using this
end Go.Sk
