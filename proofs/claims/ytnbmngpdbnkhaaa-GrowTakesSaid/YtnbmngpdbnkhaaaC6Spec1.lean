/- What the law's small functions do. Conditions: none. -/
import Derived.Test.YtnbmngpdbnkhaaaC6Code1
set_option linter.unusedVariables false
set_option linter.unusedSimpArgs false
set_option maxRecDepth 10000
namespace Go.Sk
open Go.Proofs.Try
theorem f47 (v : V62) : FCallE prog 47 [.agg v.l] IsBool := by
  refine fcallE mixed t47 (by simp [m47]) (by simp [idsL, idsV, V62.ids]) (f_body ?_)
  simp only [m47, argEnv, List.length_nil, List.nil_append, List.cons_append, Nat.zero_add, V62.l, V60.l]
  repeat' first
    | (with_reducible first | apply c_seq | apply c_reg | apply c_dreg0 | apply c_block | apply c_ret | apply c_exit | apply c_skip | apply ops_nil | apply d_nil | apply k_seq_n | apply k_seq_r | apply k_seq_x | apply k_blk_n | apply k_blk_r | apply k_blk_x | apply k_end_n | apply k_end_r | apply k_loop_x | apply k_loop_r | apply c_dreg1 | apply c_dreg2)
    | ((with_reducible first | apply op_gS | apply op_g0 | apply d_gS | apply d_g0); (focus (simp only [W0, reduceIte, Nat.reduceEqDiff, Nat.reduceAdd, Nat.reduceSub, Nat.reduceLeDiff]; rfl)); (with_reducible first | apply g_no | apply g_T | apply g_F); all_goals (try (intro hc; first | exact absurd hc (by decide) | subst hc | clear hc)))
    | ((with_reducible apply c_cond); (focus (simp only [W0, reduceIte, Nat.reduceEqDiff, Nat.reduceAdd, Nat.reduceSub, Nat.reduceLeDiff]; rfl)); all_goals (intro hc; first | exact absurd hc (by decide) | subst hc | clear hc))
    | ((with_reducible first | apply op_isB | apply d_isV); (focus rfl); (focus (simp only [W0, reduceIte, Nat.reduceEqDiff, Nat.reduceAdd, Nat.reduceSub, Nat.reduceLeDiff]; rfl)); intro c' hc')
    | ((with_reducible first | apply op_step | apply op_step0 | apply d_ld | apply d_st | apply d_new | apply d_box | apply d_bsl | apply d_apw | apply d_apa | apply d_v); (focus (simp only [W0, reduceIte, Nat.reduceEqDiff, Nat.reduceAdd, Nat.reduceSub, Nat.reduceLeDiff]; rfl)); all_goals (try rfl))
  all_goals ((with_reducible apply ret_plain); (focus (simp only [resVs, resV1, look, Option.bind, Option.map, reduceIte, Nat.reduceEqDiff]; rfl)); (focus (simp [resV, idsV, idsL, slA_ids])))
  all_goals exact ⟨_, [], rfl, _, rfl⟩
def ofEnt (l : List AV) : Int := match l with
  | .int _ n :: _ => n
  | _ => 0
/-- The last entry's term. -/
def lastT (es : List (List AV)) (t : Int) : Int := match es.getLast? with
  | some l => ofEnt l
  | none => t
def lastI (es : List (List AV)) (i : Int) : Int := if es.length = 0 then i else IntKind.i64.wrap (i + es.length)
theorem last_at {es : List (List AV)} (h : (es.length : Int) ≠ 0) (hm : es.length ≤ maxLen) (he : ∀ us ∈ es, HasT prog 66 us) : ∃ j : Nat, IntKind.i64.wrap ((es.length : Int) - 1) = (j : Int) ∧ ∃ v : V66, es[j]? = some v.l ∧ lastT es = fun _ => v.f0 := by
  have hlen : 0 < es.length := by omega
  have hmx : maxLen ≤ 9223372036854775807 := by decide
  refine ⟨es.length - 1, ?_, ?_⟩
  · simp [IntKind.wrap, IntKind.signed, IntKind.bits]; omega
  · obtain ⟨v, e, _⟩ := has66 (he (es[es.length - 1]'(by omega)) (List.getElem_mem _))
    have h1 : es[es.length - 1]? = some v.l := by rw [List.getElem?_eq_getElem (by omega), e]
    refine ⟨v, h1, ?_⟩
    funext t
    simp [lastT, List.getLast?_eq_getElem?, h1, V66.l, ofEnt]
theorem f53 (v : V27) (hv : v.ok) : FCall prog 53 [.agg v.l] (.tup [.int .i64 (lastI (slL v.f6) v.f2), .int .i64 (lastT (slL v.f6) v.f3)]) := by
  obtain ⟨hes, hmx⟩ := hv.h6
  refine fcall mixed t53 (by simp [m53]) (by simp [idsL, idsV, V27.ids]) (f_body ?_)
  simp only [m53, argEnv, List.length_nil, List.nil_append, List.cons_append, Nat.zero_add, V27.l, V23.l]
  repeat' first
    | (with_reducible first | apply c_seq | apply c_reg | apply c_dreg0 | apply c_block | apply c_ret | apply c_exit | apply c_skip | apply ops_nil | apply d_nil | apply k_seq_n | apply k_seq_r | apply k_seq_x | apply k_blk_n | apply k_blk_r | apply k_blk_x | apply k_end_n | apply k_end_r | apply k_loop_x | apply k_loop_r | apply c_dreg1 | apply c_dreg2)
    | ((with_reducible first | apply op_gS | apply op_g0 | apply d_gS | apply d_g0); (focus (simp only [W0, reduceIte, Nat.reduceEqDiff, Nat.reduceAdd, Nat.reduceSub, Nat.reduceLeDiff]; rfl)); (with_reducible first | apply g_no | apply g_T | apply g_F); all_goals (try (intro hc; first | exact absurd hc (by decide) | subst hc | clear hc)))
    | ((with_reducible apply c_cond); (focus (simp only [W0, reduceIte, Nat.reduceEqDiff, Nat.reduceAdd, Nat.reduceSub, Nat.reduceLeDiff]; rfl)); all_goals (intro hc; first | exact absurd hc (by decide) | subst hc | clear hc))
    | ((with_reducible first | apply op_isB | apply d_isV); (focus rfl); (focus (simp only [W0, reduceIte, Nat.reduceEqDiff, Nat.reduceAdd, Nat.reduceSub, Nat.reduceLeDiff]; rfl)); intro c' hc')
    | ((with_reducible first | apply op_step | apply op_step0 | apply d_ld | apply d_st | apply d_new | apply d_box | apply d_bsl | apply d_apw | apply d_apa | apply d_v); (focus (simp only [W0, reduceIte, Nat.reduceEqDiff, Nat.reduceAdd, Nat.reduceSub, Nat.reduceLeDiff]; rfl)); all_goals (try rfl))
  rotate_left
  · have hne : ((slL v.f6).length : Int) ≠ 0 := by simpa using hc'
    obtain ⟨j, hj, q, hq, hl⟩ := last_at hne hmx hes
    refine d_step (o_v (r := []) rfl (by simp only [stepOp, Opd.get, look, behind, skip, firsts, putAt, putParts, thawL, storeAt, loadR, widths, binV, intBin, idx, Option.bind, Option.map, reduceIte, Nat.reduceEqDiff, Nat.reduceAdd, Nat.reduceSub, Nat.reduceLeDiff, W1]; rw [hj, slA_at _ _ hq])) ?_
    simp only [V66.l, List.cons_append]
    repeat' first
      | (with_reducible first | apply c_seq | apply c_reg | apply c_dreg0 | apply c_block | apply c_ret | apply c_exit | apply c_skip | apply ops_nil | apply d_nil | apply k_seq_n | apply k_seq_r | apply k_seq_x | apply k_blk_n | apply k_blk_r | apply k_blk_x | apply k_end_n | apply k_end_r | apply k_loop_x | apply k_loop_r | apply c_dreg1 | apply c_dreg2)
      | ((with_reducible first | apply op_gS | apply op_g0 | apply d_gS | apply d_g0); (focus (simp only [W0, reduceIte, Nat.reduceEqDiff, Nat.reduceAdd, Nat.reduceSub, Nat.reduceLeDiff]; rfl)); (with_reducible first | apply g_no | apply g_T | apply g_F); all_goals (try (intro hc; first | exact absurd hc (by decide) | subst hc | clear hc)))
      | ((with_reducible apply c_cond); (focus (simp only [W0, reduceIte, Nat.reduceEqDiff, Nat.reduceAdd, Nat.reduceSub, Nat.reduceLeDiff]; rfl)); all_goals (intro hc; first | exact absurd hc (by decide) | subst hc | clear hc))
      | ((with_reducible first | apply op_isB | apply d_isV); (focus rfl); (focus (simp only [W0, reduceIte, Nat.reduceEqDiff, Nat.reduceAdd, Nat.reduceSub, Nat.reduceLeDiff]; rfl)); intro c' hc')
      | ((with_reducible first | apply op_step | apply op_step0 | apply d_ld | apply d_st | apply d_new | apply d_box | apply d_bsl | apply d_apw | apply d_apa | apply d_v); (focus (simp only [W0, reduceIte, Nat.reduceEqDiff, Nat.reduceAdd, Nat.reduceSub, Nat.reduceLeDiff]; rfl)); all_goals (try rfl))
    refine ret_plain (vs := [.int .i64 (IntKind.i64.wrap (v.f2 + (slL v.f6).length)), .int .i64 q.f0]) rfl rfl ⟨[], ?_⟩
    have h0 : slL v.f6 ≠ [] := by intro e; simp [e] at hc'
    simp [resV, fr, frT, frV, thawV, lastI, congrFun hl, h0]
  · refine ret_plain (vs := [.int .i64 v.f2, .int .i64 v.f3]) rfl rfl ⟨[], ?_⟩
    have h0 : slL v.f6 = [] := by simpa using hc'
    simp [resV, fr, frT, frV, thawV, lastI, lastT, h0]
theorem f17 (v : V27) (hv : v.ok) : FCall prog 17 [.agg v.l] (.tup [.int .i64 (lastI (slL v.f6) v.f2), .int .i64 (lastT (slL v.f6) v.f3)]) := by
  obtain ⟨hes, hmx⟩ := hv.h6
  refine fcall mixed t17 (by simp [m17]) (by simp [idsL, idsV, V27.ids]) (f_body ?_)
  simp only [m17, argEnv, List.length_nil, List.nil_append, List.cons_append, Nat.zero_add, V27.l, V23.l]
  repeat' first
    | (with_reducible first | apply c_seq | apply c_reg | apply c_dreg0 | apply c_block | apply c_ret | apply c_exit | apply c_skip | apply ops_nil | apply d_nil | apply k_seq_n | apply k_seq_r | apply k_seq_x | apply k_blk_n | apply k_blk_r | apply k_blk_x | apply k_end_n | apply k_end_r | apply k_loop_x | apply k_loop_r | apply c_dreg1 | apply c_dreg2)
    | ((with_reducible first | apply op_gS | apply op_g0 | apply d_gS | apply d_g0); (focus (simp only [W0, reduceIte, Nat.reduceEqDiff, Nat.reduceAdd, Nat.reduceSub, Nat.reduceLeDiff]; rfl)); (with_reducible first | apply g_no | apply g_T | apply g_F); all_goals (try (intro hc; first | exact absurd hc (by decide) | subst hc | clear hc)))
    | ((with_reducible apply c_cond); (focus (simp only [W0, reduceIte, Nat.reduceEqDiff, Nat.reduceAdd, Nat.reduceSub, Nat.reduceLeDiff]; rfl)); all_goals (intro hc; first | exact absurd hc (by decide) | subst hc | clear hc))
    | ((with_reducible first | apply op_isB | apply d_isV); (focus rfl); (focus (simp only [W0, reduceIte, Nat.reduceEqDiff, Nat.reduceAdd, Nat.reduceSub, Nat.reduceLeDiff]; rfl)); intro c' hc')
    | ((with_reducible first | apply op_step | apply op_step0 | apply d_ld | apply d_st | apply d_new | apply d_box | apply d_bsl | apply d_apw | apply d_apa | apply d_v); (focus (simp only [W0, reduceIte, Nat.reduceEqDiff, Nat.reduceAdd, Nat.reduceSub, Nat.reduceLeDiff]; rfl)); all_goals (try rfl))
  rotate_left
  · have hne : ((slL v.f6).length : Int) ≠ 0 := by simpa using hc'
    obtain ⟨j, hj, q, hq, hl⟩ := last_at hne hmx hes
    refine d_step (o_v (r := []) rfl (by simp only [stepOp, Opd.get, look, behind, skip, firsts, putAt, putParts, thawL, storeAt, loadR, widths, binV, intBin, idx, Option.bind, Option.map, reduceIte, Nat.reduceEqDiff, Nat.reduceAdd, Nat.reduceSub, Nat.reduceLeDiff, W1]; rw [hj, slA_at _ _ hq])) ?_
    simp only [V66.l, List.cons_append]
    repeat' first
      | (with_reducible first | apply c_seq | apply c_reg | apply c_dreg0 | apply c_block | apply c_ret | apply c_exit | apply c_skip | apply ops_nil | apply d_nil | apply k_seq_n | apply k_seq_r | apply k_seq_x | apply k_blk_n | apply k_blk_r | apply k_blk_x | apply k_end_n | apply k_end_r | apply k_loop_x | apply k_loop_r | apply c_dreg1 | apply c_dreg2)
      | ((with_reducible first | apply op_gS | apply op_g0 | apply d_gS | apply d_g0); (focus (simp only [W0, reduceIte, Nat.reduceEqDiff, Nat.reduceAdd, Nat.reduceSub, Nat.reduceLeDiff]; rfl)); (with_reducible first | apply g_no | apply g_T | apply g_F); all_goals (try (intro hc; first | exact absurd hc (by decide) | subst hc | clear hc)))
      | ((with_reducible apply c_cond); (focus (simp only [W0, reduceIte, Nat.reduceEqDiff, Nat.reduceAdd, Nat.reduceSub, Nat.reduceLeDiff]; rfl)); all_goals (intro hc; first | exact absurd hc (by decide) | subst hc | clear hc))
      | ((with_reducible first | apply op_isB | apply d_isV); (focus rfl); (focus (simp only [W0, reduceIte, Nat.reduceEqDiff, Nat.reduceAdd, Nat.reduceSub, Nat.reduceLeDiff]; rfl)); intro c' hc')
      | ((with_reducible first | apply op_step | apply op_step0 | apply d_ld | apply d_st | apply d_new | apply d_box | apply d_bsl | apply d_apw | apply d_apa | apply d_v); (focus (simp only [W0, reduceIte, Nat.reduceEqDiff, Nat.reduceAdd, Nat.reduceSub, Nat.reduceLeDiff]; rfl)); all_goals (try rfl))
    refine ret_plain (vs := [.int .i64 (IntKind.i64.wrap (v.f2 + (slL v.f6).length)), .int .i64 q.f0]) rfl rfl ⟨[], ?_⟩
    have h0 : slL v.f6 ≠ [] := by intro e; simp [e] at hc'
    simp [resV, fr, frT, frV, thawV, lastI, congrFun hl, h0]
  · refine ret_plain (vs := [.int .i64 v.f2, .int .i64 v.f3]) rfl rfl ⟨[], ?_⟩
    have h0 : slL v.f6 = [] := by simpa using hc'
    simp [resV, fr, frT, frV, thawV, lastI, lastT, h0]
end Go.Sk
