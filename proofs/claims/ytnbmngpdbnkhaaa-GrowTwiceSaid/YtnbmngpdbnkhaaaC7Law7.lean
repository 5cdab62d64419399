/- The law GrowTwice, walked. Conditions: none. -/
import Derived.Test.YtnbmngpdbnkhaaaC7Law8
import Derived.Test.YtnbmngpdbnkhaaaC7Spec17
set_option linter.unusedVariables false
set_option linter.unusedSimpArgs false
set_option maxRecDepth 200000
set_option maxHeartbeats 8000000
namespace Go.Sk
open Go.Proofs.Try
theorem law7_heavy (v : V27) (hv : v.ok) (c : Int) (m : V34) (hm : m.ok) (hl : ¬ lightH v) : FCall prog 7 [.agg v.l, .int .i64 c, .agg m.l] (.bool true) := by
  refine fcall mixed t7 (by simp [m7]) (by simp [idsL, idsV, V27.ids, V34.ids]) (f_body ?_)
  simp only [m7, argEnv, List.length_nil, List.nil_append, List.cons_append, Nat.zero_add, V27.l, V23.l, V34.l]
  repeat' first
    | (with_reducible first | apply c_seq | apply c_reg | apply c_dreg0 | apply c_block | apply c_ret | apply c_exit | apply c_skip | apply ops_nil | apply d_nil | apply k_seq_n | apply k_seq_r | apply k_seq_x | apply k_blk_n | apply k_blk_r | apply k_blk_x | apply k_end_n | apply k_end_r | apply k_loop_x | apply k_loop_r | apply c_dreg1 | apply c_dreg2)
    | ((with_reducible first | apply op_gS | apply op_g0 | apply d_gS | apply d_g0); (focus (simp only [W0, reduceIte, Nat.reduceEqDiff, Nat.reduceAdd, Nat.reduceSub, Nat.reduceLeDiff, beq_self_eq_true, bne_self_eq_false, BEq.rfl]; rfl)); (with_reducible first | apply g_no | apply g_T | apply g_F); all_goals (try (intro hc; first | exact absurd hc (by decide) | subst hc | clear hc)))
    | ((with_reducible apply c_cond); (focus (simp only [W0, reduceIte, Nat.reduceEqDiff, Nat.reduceAdd, Nat.reduceSub, Nat.reduceLeDiff, beq_self_eq_true, bne_self_eq_false, BEq.rfl]; rfl)); all_goals (intro hc; first | exact absurd hc (by decide) | subst hc | clear hc))
    | ((with_reducible apply op_bcallQ (f := 32)); (focus ((try simp only [W0, reduceIte, Nat.reduceEqDiff, Nat.reduceAdd, Nat.reduceSub, Nat.reduceLeDiff, beq_self_eq_true, bne_self_eq_false, BEq.rfl]); exact f32b v hv)); intro c' hq')
    | ((with_reducible first | apply op_isB | apply d_isV); (focus rfl); (focus (simp only [W0, reduceIte, Nat.reduceEqDiff, Nat.reduceAdd, Nat.reduceSub, Nat.reduceLeDiff, beq_self_eq_true, bne_self_eq_false, BEq.rfl]; rfl)); intro c' hc'; try with_reducible first | cases (show true = c' from hc') | cases (show false = c' from hc'))
    | ((with_reducible first | apply op_step | apply op_step0 | apply d_ld | apply d_st | apply d_new | apply d_box | apply d_bsl | apply d_apw | apply d_apa | apply d_v); (focus (simp only [W0, reduceIte, Nat.reduceEqDiff, Nat.reduceAdd, Nat.reduceSub, Nat.reduceLeDiff, beq_self_eq_true, bne_self_eq_false, BEq.rfl]; rfl)); all_goals (try rfl))
  all_goals first | (exact absurd (hq' ‹_›) hl) | (exact absurd (hq' rfl) hl) | skip
  all_goals ((with_reducible apply ret_plain); (focus (simp only [W0, reduceIte, Nat.reduceEqDiff, Nat.reduceAdd, Nat.reduceSub, Nat.reduceLeDiff]; rfl)); (focus (simp [resV, idsV, idsL, slA_ids, ints_ids])))
  all_goals exact ⟨[], by simp_all [resV, F1, frT, frL, thawV]⟩
theorem law7_bad (v : V27) (hv : v.ok) (c : Int) (m : V34) (hm : m.ok) (hl : lightH v) (e : Int) (he : e ≠ 0) (ht : takeR v c m = ⟨zero27, 0, zero34, e⟩) : FCall prog 7 [.agg v.l, .int .i64 c, .agg m.l] (.bool true) := by
  obtain ⟨l5, l6⟩ := light_most hl
  have h35 := f35 v hv c m hm l5 l6
  rw [ht] at h35
  have e1 : (e != 0) = true := by simpa using he
  have z0 : ((0 : Int) == 0) = true := rfl
  have z1 : ((((0 : Nat)) : Int) == 0) = true := rfl
  simp only [TR.av, takeV, zero27, zero34, V27.l, V34.l, V23.l, slA_none, List.cons_append, List.nil_append] at h35
  refine fcall mixed t7 (by simp [m7]) (by simp [idsL, idsV, V27.ids, V34.ids]) (f_body ?_)
  simp only [m7, argEnv, List.length_nil, List.nil_append, List.cons_append, Nat.zero_add, V27.l, V23.l, V34.l]
  repeat' first
    | (with_reducible first | apply c_seq | apply c_reg | apply c_dreg0 | apply c_block | apply c_ret | apply c_exit | apply c_skip | apply ops_nil | apply d_nil | apply k_seq_n | apply k_seq_r | apply k_seq_x | apply k_blk_n | apply k_blk_r | apply k_blk_x | apply k_end_n | apply k_end_r | apply k_loop_x | apply k_loop_r | apply c_dreg1 | apply c_dreg2)
    | ((with_reducible first | apply op_gS | apply op_g0 | apply d_gS | apply d_g0); (focus (simp only [W0, reduceIte, Nat.reduceEqDiff, Nat.reduceAdd, Nat.reduceSub, Nat.reduceLeDiff, beq_self_eq_true, bne_self_eq_false, BEq.rfl, Bool.not_true, Bool.not_false, e1, z0, z1, V27.l, V23.l, V34.l, zero27, zero34, answer, takeV, TR.av, slA_none, setLog]; rfl)); (with_reducible first | apply g_no | apply g_T | apply g_F); all_goals (try (intro hc; first | exact absurd hc (by decide) | subst hc | clear hc)))
    | ((with_reducible apply c_cond); (focus (simp only [W0, reduceIte, Nat.reduceEqDiff, Nat.reduceAdd, Nat.reduceSub, Nat.reduceLeDiff, beq_self_eq_true, bne_self_eq_false, BEq.rfl, Bool.not_true, Bool.not_false, e1, z0, z1, V27.l, V23.l, V34.l, zero27, zero34, answer, takeV, TR.av, slA_none, setLog]; rfl)); all_goals (intro hc; first | exact absurd hc (by decide) | subst hc | clear hc))
    | ((with_reducible apply op_bcallQ (f := 32)); (focus ((try simp only [W0, reduceIte, Nat.reduceEqDiff, Nat.reduceAdd, Nat.reduceSub, Nat.reduceLeDiff, beq_self_eq_true, bne_self_eq_false, BEq.rfl, Bool.not_true, Bool.not_false, e1, z0, z1, V27.l, V23.l, V34.l, zero27, zero34, answer, takeV, TR.av, slA_none, setLog]); exact f32b v hv)); intro c' hq')
    | ((with_reducible apply op_bcall (f := 14)); (focus ((try simp only [W0, reduceIte, Nat.reduceEqDiff, Nat.reduceAdd, Nat.reduceSub, Nat.reduceLeDiff, beq_self_eq_true, bne_self_eq_false, BEq.rfl, Bool.not_true, Bool.not_false, e1, z0, z1, V27.l, V23.l, V34.l, zero27, zero34, answer, takeV, TR.av, slA_none, setLog]); exact f14 m hm)); intro c')
    | ((with_reducible first | apply op_fcall (f := 35) | apply d_fcall (f := 35)); (focus ((try simp only [W0, reduceIte, Nat.reduceEqDiff, Nat.reduceAdd, Nat.reduceSub, Nat.reduceLeDiff, beq_self_eq_true, bne_self_eq_false, BEq.rfl, Bool.not_true, Bool.not_false, e1, z0, z1, V27.l, V23.l, V34.l, zero27, zero34, answer, takeV, TR.av, slA_none, setLog]); first | exact h35)); all_goals (try rfl))
    | ((with_reducible first | apply op_fcall (f := 40) | apply d_fcall (f := 40)); (focus ((try simp only [W0, reduceIte, Nat.reduceEqDiff, Nat.reduceAdd, Nat.reduceSub, Nat.reduceLeDiff, beq_self_eq_true, bne_self_eq_false, BEq.rfl, Bool.not_true, Bool.not_false, e1, z0, z1, V27.l, V23.l, V34.l, zero27, zero34, answer, takeV, TR.av, slA_none, setLog]); first | exact f40)); all_goals (try rfl))
    | ((with_reducible first | apply op_isB | apply d_isV); (focus rfl); (focus (simp only [W0, reduceIte, Nat.reduceEqDiff, Nat.reduceAdd, Nat.reduceSub, Nat.reduceLeDiff, beq_self_eq_true, bne_self_eq_false, BEq.rfl, Bool.not_true, Bool.not_false, e1, z0, z1, V27.l, V23.l, V34.l, zero27, zero34, answer, takeV, TR.av, slA_none, setLog]; rfl)); intro c' hc'; try with_reducible first | cases (show true = c' from hc') | cases (show false = c' from hc'))
    | ((with_reducible first | apply op_step | apply op_step0 | apply d_ld | apply d_st | apply d_new | apply d_box | apply d_bsl | apply d_apw | apply d_apa | apply d_v); (focus (simp only [W0, reduceIte, Nat.reduceEqDiff, Nat.reduceAdd, Nat.reduceSub, Nat.reduceLeDiff, beq_self_eq_true, bne_self_eq_false, BEq.rfl, Bool.not_true, Bool.not_false, e1, z0, z1, V27.l, V23.l, V34.l, zero27, zero34, answer, takeV, TR.av, slA_none, setLog]; rfl)); all_goals (try rfl))
  all_goals first | (exfalso; refine Bool.false_ne_true ?_; first | assumption | (symm; assumption)) | skip
  all_goals ((with_reducible apply ret_plain); (focus (simp only [W0, reduceIte, Nat.reduceEqDiff, Nat.reduceAdd, Nat.reduceSub, Nat.reduceLeDiff]; rfl)); (focus (simp [resV, idsV, idsL, slA_ids, ints_ids])))
  all_goals exact ⟨[], by simp_all [resV, F1, frT, frL, thawV]⟩
theorem law7_main (v : V27) (hv : v.ok) (c : Int) (m : V34) (hm : m.ok) (hl : lightH v) (x : V27) (hx : x.ok) (d q : Int) (b : Bool) (ht : takeR v c m = ⟨x, d, answer b q, 0⟩) (ht2 : takeR x d m = ⟨x, d, answer b q, 0⟩) (hcd : c ≤ d) (x5 : (slL x.f5).length ≤ 1000000) (x6 : (slL x.f6).length ≤ 1000000)
    (hb1 : 0 ≤ v.f2) (hb2 : v.f2 ≤ 1099511627776) (hc2 : c ≤ v.f2 + 1000000) (hcom : ∀ n, v.f2 < n → n ≤ c → seen v n ∧ seen x n ∧ inB x n = true ∧ entA x n = entA v n) : FCall prog 7 [.agg v.l, .int .i64 c, .agg m.l] (.bool true) := by
  obtain ⟨l5, l6⟩ := light_most hl
  have h35 := f35 v hv c m hm l5 l6
  have h35b := f35 x hx d m hm x5 x6
  rw [ht] at h35
  rw [ht2] at h35b
  have h37 : FCall prog 37 [.agg x.l, .agg x.l] (.bool true) := f37 x hx x.f5 x.f6 rfl rfl
  have h38 : FCall prog 38 [.agg (answer b q).l, .agg (answer b q).l] (.bool true) := f38 (answer b q) ⟨by simp [answer, slL], by simp [answer, slL], by simp [answer, slL]⟩ none none none ⟨rfl, rfl, rfl⟩ (fun k q h => by simp [answer, slL] at h)
  have z0 : ((0 : Int) != 0) = false := rfl
  have e2 : decide (d < c) = false := decide_eq_false (by omega)
  have w1 : IntKind.i64.wrap (v.f2 + 1) = v.f2 + 1 := by simp [IntKind.wrap, IntKind.signed, IntKind.bits]; omega
  simp only [TR.av, takeV, answer, V27.l, V34.l, V23.l, slA_none, List.cons_append, List.nil_append] at h35 h35b h37 h38
  refine fcall mixed t7 (by simp [m7]) (by simp [idsL, idsV, V27.ids, V34.ids]) (f_body ?_)
  simp only [m7, argEnv, List.length_nil, List.nil_append, List.cons_append, Nat.zero_add, V27.l, V23.l, V34.l]
  repeat' first
    | (with_reducible first | apply c_seq | apply c_reg | apply c_dreg0 | apply c_block | apply c_ret | apply c_exit | apply c_skip | apply ops_nil | apply d_nil | apply k_seq_n | apply k_seq_r | apply k_seq_x | apply k_blk_n | apply k_blk_r | apply k_blk_x | apply k_end_n | apply k_end_r | apply k_loop_x | apply k_loop_r | apply c_dreg1 | apply c_dreg2)
    | ((with_reducible first | apply op_gS | apply op_g0 | apply d_gS | apply d_g0); (focus (simp only [W0, reduceIte, Nat.reduceEqDiff, Nat.reduceAdd, Nat.reduceSub, Nat.reduceLeDiff, beq_self_eq_true, bne_self_eq_false, BEq.rfl, Bool.not_true, Bool.not_false, z0, e2, w1, V27.l, V23.l, V34.l, zero27, zero34, answer, takeV, TR.av, slA_none, setLog]; rfl)); (with_reducible first | apply g_no | apply g_T | apply g_F); all_goals (try (intro hc; first | exact absurd hc (by decide) | subst hc | clear hc)))
    | ((with_reducible apply c_cond); (focus (simp only [W0, reduceIte, Nat.reduceEqDiff, Nat.reduceAdd, Nat.reduceSub, Nat.reduceLeDiff, beq_self_eq_true, bne_self_eq_false, BEq.rfl, Bool.not_true, Bool.not_false, z0, e2, w1, V27.l, V23.l, V34.l, zero27, zero34, answer, takeV, TR.av, slA_none, setLog]; rfl)); all_goals (intro hc; first | exact absurd hc (by decide) | subst hc | clear hc))
    | ((with_reducible apply op_bcallQ (f := 32)); (focus ((try simp only [W0, reduceIte, Nat.reduceEqDiff, Nat.reduceAdd, Nat.reduceSub, Nat.reduceLeDiff, beq_self_eq_true, bne_self_eq_false, BEq.rfl, Bool.not_true, Bool.not_false, z0, e2, w1, V27.l, V23.l, V34.l, zero27, zero34, answer, takeV, TR.av, slA_none, setLog]); exact f32b v hv)); intro c' hq')
    | ((with_reducible apply op_bcall (f := 14)); (focus ((try simp only [W0, reduceIte, Nat.reduceEqDiff, Nat.reduceAdd, Nat.reduceSub, Nat.reduceLeDiff, beq_self_eq_true, bne_self_eq_false, BEq.rfl, Bool.not_true, Bool.not_false, z0, e2, w1, V27.l, V23.l, V34.l, zero27, zero34, answer, takeV, TR.av, slA_none, setLog]); exact f14 m hm)); intro c')
    | ((with_reducible first | apply op_fcall (f := 35) | apply d_fcall (f := 35)); (focus ((try simp only [W0, reduceIte, Nat.reduceEqDiff, Nat.reduceAdd, Nat.reduceSub, Nat.reduceLeDiff, beq_self_eq_true, bne_self_eq_false, BEq.rfl, Bool.not_true, Bool.not_false, z0, e2, w1, V27.l, V23.l, V34.l, zero27, zero34, answer, takeV, TR.av, slA_none, setLog]); first | exact h35 | exact h35b)); all_goals (try rfl))
    | ((with_reducible first | apply op_fcall (f := 37) | apply d_fcall (f := 37)); (focus ((try simp only [W0, reduceIte, Nat.reduceEqDiff, Nat.reduceAdd, Nat.reduceSub, Nat.reduceLeDiff, beq_self_eq_true, bne_self_eq_false, BEq.rfl, Bool.not_true, Bool.not_false, z0, e2, w1, V27.l, V23.l, V34.l, zero27, zero34, answer, takeV, TR.av, slA_none, setLog]); first | exact h37)); all_goals (try rfl))
    | ((with_reducible first | apply op_fcall (f := 38) | apply d_fcall (f := 38)); (focus ((try simp only [W0, reduceIte, Nat.reduceEqDiff, Nat.reduceAdd, Nat.reduceSub, Nat.reduceLeDiff, beq_self_eq_true, bne_self_eq_false, BEq.rfl, Bool.not_true, Bool.not_false, z0, e2, w1, V27.l, V23.l, V34.l, zero27, zero34, answer, takeV, TR.av, slA_none, setLog]); first | exact h38)); all_goals (try rfl))
    | ((with_reducible first | apply op_fcall (f := 40) | apply d_fcall (f := 40)); (focus ((try simp only [W0, reduceIte, Nat.reduceEqDiff, Nat.reduceAdd, Nat.reduceSub, Nat.reduceLeDiff, beq_self_eq_true, bne_self_eq_false, BEq.rfl, Bool.not_true, Bool.not_false, z0, e2, w1, V27.l, V23.l, V34.l, zero27, zero34, answer, takeV, TR.av, slA_none, setLog]); first | exact f40)); all_goals (try rfl))
    | ((with_reducible first | apply op_isB | apply d_isV); (focus rfl); (focus (simp only [W0, reduceIte, Nat.reduceEqDiff, Nat.reduceAdd, Nat.reduceSub, Nat.reduceLeDiff, beq_self_eq_true, bne_self_eq_false, BEq.rfl, Bool.not_true, Bool.not_false, z0, e2, w1, V27.l, V23.l, V34.l, zero27, zero34, answer, takeV, TR.av, slA_none, setLog]; rfl)); intro c' hc'; try with_reducible first | cases (show true = c' from hc') | cases (show false = c' from hc'))
    | ((with_reducible first | apply op_step | apply op_step0 | apply d_ld | apply d_st | apply d_new | apply d_box | apply d_bsl | apply d_apw | apply d_apa | apply d_v); (focus (simp only [W0, reduceIte, Nat.reduceEqDiff, Nat.reduceAdd, Nat.reduceSub, Nat.reduceLeDiff, beq_self_eq_true, bne_self_eq_false, BEq.rfl, Bool.not_true, Bool.not_false, z0, e2, w1, V27.l, V23.l, V34.l, zero27, zero34, answer, takeV, TR.av, slA_none, setLog]; rfl)); all_goals (try rfl))
  all_goals first | (exfalso; refine Bool.false_ne_true ?_; first | assumption | (symm; assumption)) | skip
  any_goals (((with_reducible apply ret_plain); (focus (simp only [W0, reduceIte, Nat.reduceEqDiff, Nat.reduceAdd, Nat.reduceSub, Nat.reduceLeDiff]; rfl)); (focus (simp [resV, idsV, idsL, slA_ids, ints_ids]))); exact ⟨[], by simp_all [resV, F1, frT, frL, thawV]⟩)
  refine c_loop [1, 3, 7, 14] (fun n env rows => ∃ j : Nat, (j = 0 ∨ v.f2 + j ≤ c) ∧ n = (c - v.f2).toNat + 1 - j ∧ env = [(1, .int .i64 c), (3, .ptr 0 0), (7, .ptr 2 0), (14, .int .i64 (v.f2 + 1 + (j : Int)))] ∧ rows = [Row.box 27 [.int .i64 v.f0, .int .i64 v.f1, .int .i64 v.f2, .int .i64 v.f3, .int .i64 v.f4.f0, .int .i64 v.f4.f1, .int .i64 v.f4.f2, .int .i64 v.f4.f3, slA 5 v.f5, slA 66 v.f6], Row.box 34 [.int .i64 m.f0, .int .i64 m.f1, .int .i64 m.f2, .int .i64 m.f3, .int .i64 m.f4, .int .i64 m.f5, .int .i64 m.f6, .int .i64 m.f7, .bool m.f8, slA 66 m.f9, .int .i64 m.f10.f0, .int .i64 m.f10.f1, .int .i64 m.f10.f2, .int .i64 m.f10.f3, slA 5 m.f11, slA 34 m.f12], Row.box 27 [.int .i64 x.f0, .int .i64 x.f1, .int .i64 x.f2, .int .i64 x.f3, .int .i64 x.f4.f0, .int .i64 x.f4.f1, .int .i64 x.f4.f2, .int .i64 x.f4.f3, slA 5 x.f5, slA 66 x.f6], Row.box 34 [.int .i64 6, .int .i64 0, .int .i64 0, .int .i64 0, .int .i64 q, .int .i64 0, .int .i64 0, .int .i64 0, .bool b, .nil 66, .int .i64 0, .int .i64 0, .int .i64 0, .int .i64 0, .nil 5, .nil 34], Row.box 27 [.int .i64 x.f0, .int .i64 x.f1, .int .i64 x.f2, .int .i64 x.f3, .int .i64 x.f4.f0, .int .i64 x.f4.f1, .int .i64 x.f4.f2, .int .i64 x.f4.f3, slA 5 x.f5, slA 66 x.f6], Row.box 34 [.int .i64 6, .int .i64 0, .int .i64 0, .int .i64 0, .int .i64 q, .int .i64 0, .int .i64 0, .int .i64 0, .bool b, .nil 66, .int .i64 0, .int .i64 0, .int .i64 0, .int .i64 0, .nil 5, .nil 34]]) ((c - v.f2).toNat + 1)
    (back_take (k := 6) (Nat.zero_le _) (by simp) (by simp [look, idsL, idsV, slA_ids]) (by simp [idsR, idsL, idsV, slA_ids]) ⟨0, .inl rfl, by omega, (by simp [look]), rfl⟩) ?_
  rintro n env rows ⟨j, hj, rfl, rfl, rfl⟩
  by_cases hle : v.f2 + 1 + (j : Int) ≤ c
  · obtain ⟨s1, s2, hin, hent⟩ := hcom (v.f2 + 1 + (j : Int)) (by omega) hle
    have h41v := f41 v hv _ s1
    have h41x := f41 x hx _ s2
    rw [hin, hent] at h41x
    have d1 : decide (v.f2 + 1 + (j : Int) ≤ c) = true := decide_eq_true hle
    have w2 : IntKind.i64.wrap (v.f2 + 1 + (j : Int) + 1) = v.f2 + 1 + ((j + 1 : Nat) : Int) := by simp [IntKind.wrap, IntKind.signed, IntKind.bits]; omega
    generalize entA v (v.f2 + 1 + (j : Int)) = e at h41v h41x
    have h42 := f42 e
    simp only [V27.l, V34.l, V23.l, slA_none, List.cons_append, List.nil_append, V66.l, V64.l, V62.l, V60.l] at h41v h41x h42
    repeat' first
      | (with_reducible first | apply c_seq | apply c_reg | apply c_dreg0 | apply c_block | apply c_ret | apply c_exit | apply c_skip | apply ops_nil | apply d_nil | apply k_seq_n | apply k_seq_r | apply k_seq_x | apply k_blk_n | apply k_blk_r | apply k_blk_x | apply k_end_n | apply k_end_r | apply k_loop_x | apply k_loop_r | apply c_dreg1 | apply c_dreg2)
      | ((with_reducible first | apply op_gS | apply op_g0 | apply d_gS | apply d_g0); (focus (simp only [W0, reduceIte, Nat.reduceEqDiff, Nat.reduceAdd, Nat.reduceSub, Nat.reduceLeDiff, beq_self_eq_true, bne_self_eq_false, BEq.rfl, Bool.not_true, Bool.not_false, d1, w2, V66.l, V64.l, V62.l, V60.l, V23.l]; rfl)); (with_reducible first | apply g_no | apply g_T | apply g_F); all_goals (try (intro hc; first | exact absurd hc (by decide) | subst hc | clear hc)))
      | ((with_reducible apply c_cond); (focus (simp only [W0, reduceIte, Nat.reduceEqDiff, Nat.reduceAdd, Nat.reduceSub, Nat.reduceLeDiff, beq_self_eq_true, bne_self_eq_false, BEq.rfl, Bool.not_true, Bool.not_false, d1, w2, V66.l, V64.l, V62.l, V60.l, V23.l]; rfl)); all_goals (intro hc; first | exact absurd hc (by decide) | subst hc | clear hc))
      | ((with_reducible first | apply op_fcall (f := 41) | apply d_fcall (f := 41)); (focus ((try simp only [W0, reduceIte, Nat.reduceEqDiff, Nat.reduceAdd, Nat.reduceSub, Nat.reduceLeDiff, beq_self_eq_true, bne_self_eq_false, BEq.rfl, Bool.not_true, Bool.not_false, d1, w2, V66.l, V64.l, V62.l, V60.l, V23.l]); first | exact h41v | exact h41x)); all_goals (try rfl))
      | ((with_reducible first | apply op_fcall (f := 42) | apply d_fcall (f := 42)); (focus ((try simp only [W0, reduceIte, Nat.reduceEqDiff, Nat.reduceAdd, Nat.reduceSub, Nat.reduceLeDiff, beq_self_eq_true, bne_self_eq_false, BEq.rfl, Bool.not_true, Bool.not_false, d1, w2, V66.l, V64.l, V62.l, V60.l, V23.l]); first | exact h42)); all_goals (try rfl))
      | ((with_reducible first | apply op_isB | apply d_isV); (focus rfl); (focus (simp only [W0, reduceIte, Nat.reduceEqDiff, Nat.reduceAdd, Nat.reduceSub, Nat.reduceLeDiff, beq_self_eq_true, bne_self_eq_false, BEq.rfl, Bool.not_true, Bool.not_false, d1, w2, V66.l, V64.l, V62.l, V60.l, V23.l]; rfl)); intro c' hc'; try with_reducible first | cases (show true = c' from hc') | cases (show false = c' from hc'))
      | ((with_reducible first | apply op_step | apply op_step0 | apply d_ld | apply d_st | apply d_new | apply d_box | apply d_bsl | apply d_apw | apply d_apa | apply d_v); (focus (simp only [W0, reduceIte, Nat.reduceEqDiff, Nat.reduceAdd, Nat.reduceSub, Nat.reduceLeDiff, beq_self_eq_true, bne_self_eq_false, BEq.rfl, Bool.not_true, Bool.not_false, d1, w2, V66.l, V64.l, V62.l, V60.l, V23.l]; rfl)); all_goals (try rfl))
    all_goals first | (exfalso; refine Bool.false_ne_true ?_; first | assumption | (symm; assumption)) | skip
    · refine k_loop_n ((c - v.f2).toNat + 1 - (j + 1)) (by omega) (back_take (k := 6) (Nat.zero_le _) (by simp) (by simp [look, idsL, idsV, slA_ids]) (by simp [idsR, idsL, idsV, slA_ids]) ⟨j + 1, .inr (by omega), rfl, (by simp [look]), rfl⟩)
  · have d1 : decide (v.f2 + 1 + (j : Int) ≤ c) = false := decide_eq_false hle
    repeat' first
      | (with_reducible first | apply c_seq | apply c_reg | apply c_dreg0 | apply c_block | apply c_ret | apply c_exit | apply c_skip | apply ops_nil | apply d_nil | apply k_seq_n | apply k_seq_r | apply k_seq_x | apply k_blk_n | apply k_blk_r | apply k_blk_x | apply k_end_n | apply k_end_r | apply k_loop_x | apply k_loop_r | apply c_dreg1 | apply c_dreg2)
      | ((with_reducible first | apply op_gS | apply op_g0 | apply d_gS | apply d_g0); (focus (simp only [W0, reduceIte, Nat.reduceEqDiff, Nat.reduceAdd, Nat.reduceSub, Nat.reduceLeDiff, beq_self_eq_true, bne_self_eq_false, BEq.rfl, d1]; rfl)); (with_reducible first | apply g_no | apply g_T | apply g_F); all_goals (try (intro hc; first | exact absurd hc (by decide) | subst hc | clear hc)))
      | ((with_reducible apply c_cond); (focus (simp only [W0, reduceIte, Nat.reduceEqDiff, Nat.reduceAdd, Nat.reduceSub, Nat.reduceLeDiff, beq_self_eq_true, bne_self_eq_false, BEq.rfl, d1]; rfl)); all_goals (intro hc; first | exact absurd hc (by decide) | subst hc | clear hc))
      | ((with_reducible first | apply op_fcall (f := 40) | apply d_fcall (f := 40)); (focus ((try simp only [W0, reduceIte, Nat.reduceEqDiff, Nat.reduceAdd, Nat.reduceSub, Nat.reduceLeDiff, beq_self_eq_true, bne_self_eq_false, BEq.rfl, d1]); first | exact f40)); all_goals (try rfl))
      | ((with_reducible first | apply op_isB | apply d_isV); (focus rfl); (focus (simp only [W0, reduceIte, Nat.reduceEqDiff, Nat.reduceAdd, Nat.reduceSub, Nat.reduceLeDiff, beq_self_eq_true, bne_self_eq_false, BEq.rfl, d1]; rfl)); intro c' hc'; try with_reducible first | cases (show true = c' from hc') | cases (show false = c' from hc'))
      | ((with_reducible first | apply op_step | apply op_step0 | apply d_ld | apply d_st | apply d_new | apply d_box | apply d_bsl | apply d_apw | apply d_apa | apply d_v); (focus (simp only [W0, reduceIte, Nat.reduceEqDiff, Nat.reduceAdd, Nat.reduceSub, Nat.reduceLeDiff, beq_self_eq_true, bne_self_eq_false, BEq.rfl, d1]; rfl)); all_goals (try rfl))
    all_goals first | (exfalso; refine Bool.false_ne_true ?_; first | assumption | (symm; assumption)) | skip
    all_goals ((with_reducible apply ret_plain); (focus (simp only [W0, reduceIte, Nat.reduceEqDiff, Nat.reduceAdd, Nat.reduceSub, Nat.reduceLeDiff]; rfl)); (focus (simp [resV, idsV, idsL, slA_ids, ints_ids])))
    all_goals exact ⟨[], by simp_all [resV, F1, frT, frL, thawV]⟩
theorem cut_set (v : V27) (o : Option (List (List AV))) (m : V34) : cutP (setLog v o) m = cutP v m ∧ cutT (setLog v o) m = cutT v m ∧ cutL (setLog v o) m = cutL v m := ⟨rfl, rfl, rfl⟩
theorem mx_mx (c g : Int) : mxF (mxF c g) g = mxF c g := by unfold mxF; repeat' split <;> omega
theorem mx_le (c g : Int) : c ≤ mxF c g := by unfold mxF; split <;> omega
/-- What is taken twice is taken once. -/
theorem take_again {v : V27} {c : Int} {m : V34} (hl : lightH v) {p : Int} {a : Nat} (hh : hardF v = true) (hr : rightF v c m = true) (hp : p - v.f2 = (a : Int)) (ha : a ≤ (slL v.f6).length) (hcp : p = cutP v m) (hf : fitsF v p (cutT v m) = true) (hb : breaksF v c p (cutL v m) = false) (hk : putOK v p (cutL v m) = true) (hll : (cutL v m).length ≤ 8) :
    takeR (setLog v (putO v.f6 a (cutL v m))) (mxF c (mnF m.f6 (p + ((cutL v m).length : Int)))) m = ⟨setLog v (putO v.f6 a (cutL v m)), mxF c (mnF m.f6 (p + ((cutL v m).length : Int))), answer true (p + ((cutL v m).length : Int)), 0⟩ := by
  obtain ⟨l5, l6⟩ := hl
  have hk' := hk
  simp only [putOK, Bool.and_eq_true, decide_eq_true_eq] at hk'
  obtain ⟨⟨k1, k2⟩, k3⟩ := hk'
  have hhx := hard_put hh hp ha k3
  have r := right_facts hr
  have hlast : lastI (slL (putO v.f6 a (cutL v m))) v.f2 = v.f2 + (slL (putO v.f6 a (cutL v m))).length := lastI_eq (v := setLog v (putO v.f6 a (cutL v m))) hhx (Nat.le_trans (putO_most ha) (by omega))
  have hlen := putO_len (o := v.f6) (a := a) (l := cutL v m) ha
  have hkept := commit_kept hp ha (by rw [← lastI_eq hh (by omega)]; omega) hb
  obtain ⟨e1, e2, e3⟩ := cut_set v (putO v.f6 a (cutL v m)) m
  unfold takeR
  rw [e1, e2, e3, ← hcp]
  rw [if_neg (by rw [hhx]; simp), if_neg, if_neg, if_neg (by rw [breaks_put hp ha]; simp), if_neg]
  · have ea : (p - (setLog v (putO v.f6 a (cutL v m))).f2).toNat = a := by show (p - v.f2).toNat = a; omega
    rw [ea, mx_mx]
    show TR.mk (setLog v (putO (putO v.f6 a (cutL v m)) a (cutL v m))) _ _ _ = _
    rw [putO_again v.f6 ha]
  · rw [Bool.not_eq_false]
    simp only [putOK, Bool.and_eq_true, decide_eq_true_eq]
    refine ⟨⟨k1, ?_⟩, ?_⟩
    · show p ≤ lastI (slL (putO v.f6 a (cutL v m))) v.f2
      rw [hlast]; omega
    · rw [term_put hp ha]; exact k3
  · rw [Bool.not_eq_false]
    unfold fitsF
    rw [term_put hp ha]; exact hf
  · rw [Bool.not_eq_false]
    simp only [rightF, Bool.and_eq_true, decide_eq_true_eq]
    refine ⟨⟨⟨⟨⟨⟨?_, ?_⟩, r.2.2.1⟩, r.2.2.2.1⟩, r.2.2.2.2.1⟩, r.2.2.2.2.2.1⟩, by have := r.2.2.2.2.2.2; omega⟩
    · have := mx_le c (mnF m.f6 (p + ((cutL v m).length : Int)))
      show v.f2 ≤ _
      have := r.1
      omega
    · show _ ≤ lastI (slL (putO v.f6 a (cutL v m))) v.f2
      rw [hlast]
      unfold mxF mnF; repeat' split
      all_goals omega
theorem law7 (v : V27) (hv : v.ok) (c : Int) (m : V34) (hm : m.ok) : FCall prog 7 [.agg v.l, .int .i64 c, .agg m.l] (.bool true) := by
  by_cases hl : lightH v
  · obtain ⟨l5, l6⟩ := light_most hl
    rcases took v c m l6 with ⟨e, he, ht⟩ | ⟨i, hh, hr, ht⟩ | ⟨p, a, l, hh, hr, hp, ha, hcp, hcl, hf, hb, hk, ht⟩
    · exact law7_bad v hv c m hm hl e he ht
    · obtain ⟨b1, b2⟩ := hard_base hh
      have r := right_facts hr
      have hlv := lastI_eq hh (Nat.le_trans l6 (by decide))
      refine law7_main v hv c m hm hl v hv c i false ht ht (Int.le_refl _) l5 l6 b1 b2 (by omega) (fun n h1 h2 => ?_)
      have s : seen v n := ⟨b1, b2, by omega, by omega, by omega⟩
      refine ⟨s, s, ?_, rfl⟩
      simp only [inB, Bool.and_eq_true, decide_eq_true_eq]; omega
    · subst hcl
      obtain ⟨b1, b2⟩ := hard_base hh
      have r := right_facts hr
      have hll : (cutL v m).length ≤ 8 := Nat.le_trans cutL_len (by omega)
      have hx := took_ok hv hm l6 (Nat.le_trans hll (by decide)) ha
      have hlv := lastI_eq hh (Nat.le_trans l6 (by decide))
      have hc : c ≤ v.f2 + (slL v.f6).length := by omega
      have hkept := commit_kept hp ha hc hb
      have hsame := commit_same hp ha hc hb
      have hmost := putO_most (o := v.f6) (a := a) (l := cutL v m) ha
      have ll := hl.1
      refine law7_main v hv c m hm hl _ hx _ _ true ht (take_again hl hh hr hp ha hcp hf hb hk hll) (mx_le _ _) l5 (Nat.le_trans hmost (by omega)) b1 b2 (by omega) (fun n h1 h2 => ?_)
      have s : seen v n := ⟨b1, b2, by omega, by omega, by omega⟩
      have hin : inB v n = true := by simp only [inB, Bool.and_eq_true, decide_eq_true_eq]; omega
      have hinx : inB (setLog v (putO v.f6 a (cutL v m))) n = true := by
        simp only [inB, Bool.and_eq_true, decide_eq_true_eq]
        show v.f2 < n ∧ n - v.f2 ≤ (((slL (putO v.f6 a (cutL v m))).length : Nat) : Int)
        omega
      refine ⟨s, ⟨b1, b2, by show (slL (putO v.f6 a (cutL v m))).length ≤ _; omega, s.2.2.2.1, s.2.2.2.2⟩, hinx, ?_⟩
      unfold entA
      rw [if_pos hin, if_pos hinx]
      unfold getE
      have : posN (setLog v (putO v.f6 a (cutL v m))) n = posN v n := rfl
      rw [this]
      show ent66 (((slL (putO v.f6 a (cutL v m)))[posN v n]?).getD []) = _
      rw [hsame (posN v n) (by unfold posN; omega)]
  · exact law7_heavy v hv c m hm hl
end Go.Sk
