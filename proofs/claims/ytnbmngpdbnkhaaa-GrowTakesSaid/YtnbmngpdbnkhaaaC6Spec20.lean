/- Twins of messages. Conditions: none. -/
import Derived.Test.YtnbmngpdbnkhaaaC6Spec18
import Derived.Test.YtnbmngpdbnkhaaaC6Own2
set_option linter.unusedVariables false
set_option linter.unusedSimpArgs false
set_option maxRecDepth 200000
set_option maxHeartbeats 8000000
namespace Go.Sk
open Go.Proofs.Try
theorem slA_ren (f : Nat → Nat) (e : Nat) (o : Option (List (List AV))) : renV f (slA e o) = slA e o := by cases o <;> rfl
theorem idsR_box (t : Nat) (v : List AV) : idsR (.box t v) = idsL v := rfl
theorem idsR_dead : idsR .dead = [] := rfl
theorem idsR_vec (e : Nat) (l : List (List AV)) : idsR (.vec e l) = [] := rfl
theorem renR_box (f : Nat → Nat) (t : Nat) (v : List AV) : renR f (.box t v) = .box t (renL f v) := rfl
theorem renR_dead (f : Nat → Nat) : renR f .dead = .dead := rfl
def lowM (m : V34) : V34 := reM m (nz (slL m.f9)) (nz (slL m.f11)) none
def lowL (us : List AV) : List AV := (lowM (un34 us)).l
def twin1 (m : V34) : V34 := reM m (nz (slL m.f9)) (nz (slL m.f11)) (nz ((slL m.f12).map lowL))
def twinL (us : List AV) : List AV := (twin1 (un34 us)).l
def twinM (m : V34) : V34 := reM m (nz (slL m.f9)) (nz (slL m.f11)) (nz ((slL m.f12).map twinL))
theorem nz_step {es : List (List AV)} {f : List AV → List AV} {k : Nat} {us : List AV} (h : es[k]? = some us) : nz ((es.take (k + 1)).map f) = some (slL (nz ((es.take k).map f)) ++ [f us]) := by
  rw [slL_nz, List.take_add_one, h]
  simp [nz]
theorem nz_len {es : List (List AV)} {f : List AV → List AV} {k : Nat} (h : k ≤ es.length) : (slL (nz ((es.take k).map f))).length = k := by
  rw [slL_nz]; simp; omega
theorem f70 (m : V34) (h : flatL m) : FCall prog 70 [.agg m.l] (.agg (lowM m).l) := by
  obtain ⟨h1, h2⟩ := h
  refine fcall mixed t70 (by simp [m70]) (by simp [idsL, idsV, V34.ids]) (f_body ?_)
  simp only [m70, argEnv, List.length_nil, List.nil_append, List.cons_append, Nat.zero_add, V34.l, V23.l, lowM, reM]
  repeat' first
    | (with_reducible first | apply c_seq | apply c_reg | apply c_dreg0 | apply c_block | apply c_ret | apply c_exit | apply c_skip | apply ops_nil | apply d_nil | apply k_seq_n | apply k_seq_r | apply k_seq_x | apply k_blk_n | apply k_blk_r | apply k_blk_x | apply k_end_n | apply k_end_r | apply k_loop_x | apply k_loop_r | apply c_dreg1 | apply c_dreg2)
    | ((with_reducible first | apply op_gS | apply op_g0 | apply d_gS | apply d_g0); (focus (simp only [W0, reduceIte, Nat.reduceEqDiff, Nat.reduceAdd, Nat.reduceSub, Nat.reduceLeDiff, beq_self_eq_true, bne_self_eq_false, BEq.rfl]; rfl)); (with_reducible first | apply g_no | apply g_T | apply g_F); all_goals (try (intro hc; first | exact absurd hc (by decide) | subst hc | clear hc)))
    | ((with_reducible apply c_cond); (focus (simp only [W0, reduceIte, Nat.reduceEqDiff, Nat.reduceAdd, Nat.reduceSub, Nat.reduceLeDiff, beq_self_eq_true, bne_self_eq_false, BEq.rfl]; rfl)); all_goals (intro hc; first | exact absurd hc (by decide) | subst hc | clear hc))
    | ((with_reducible first | apply op_fcall (f := 68) | apply d_fcall (f := 68)); (focus ((try simp only [W0, reduceIte, Nat.reduceEqDiff, Nat.reduceAdd, Nat.reduceSub, Nat.reduceLeDiff, beq_self_eq_true, bne_self_eq_false, BEq.rfl]); first | exact f68 m.f11 (by omega))); all_goals (try rfl))
    | ((with_reducible first | apply op_fcall (f := 69) | apply d_fcall (f := 69)); (focus ((try simp only [W0, reduceIte, Nat.reduceEqDiff, Nat.reduceAdd, Nat.reduceSub, Nat.reduceLeDiff, beq_self_eq_true, bne_self_eq_false, BEq.rfl]); first | exact f69 m.f9 (by omega))); all_goals (try rfl))
    | ((with_reducible first | apply op_isB | apply d_isV); (focus rfl); (focus (simp only [W0, reduceIte, Nat.reduceEqDiff, Nat.reduceAdd, Nat.reduceSub, Nat.reduceLeDiff, beq_self_eq_true, bne_self_eq_false, BEq.rfl]; rfl)); intro c' hc'; try with_reducible first | cases (show true = c' from hc') | cases (show false = c' from hc'))
    | ((with_reducible first | apply op_step | apply op_step0 | apply d_ld | apply d_st | apply d_new | apply d_box | apply d_bsl | apply d_apw | apply d_apa | apply d_v); (focus (simp only [W0, reduceIte, Nat.reduceEqDiff, Nat.reduceAdd, Nat.reduceSub, Nat.reduceLeDiff, beq_self_eq_true, bne_self_eq_false, BEq.rfl]; rfl)); all_goals (try rfl))
  all_goals ((with_reducible apply ret_plain); (focus (simp only [W0, reduceIte, Nat.reduceEqDiff, Nat.reduceAdd, Nat.reduceSub, Nat.reduceLeDiff]; rfl)); (focus (simp [resV, idsV, idsL, slA_ids, ints_ids])))
  all_goals exact ⟨[], by simp [resV, F1, frT, frL, thawV, slA_none]⟩
theorem f34 (m : V34) (hm : m.ok) (hl : lightM m) : FCall prog 34 [.agg m.l] (.agg (twinM m).l) := by
  obtain ⟨hf, h20, hin⟩ := hl
  have h70 := f70 m hf
  refine fcallD 2 mixed t34 (by simp [m34]) (by simp [idsL, idsV, V34.ids]) ?_
  simp only [m34, argEnv, List.length_nil, List.nil_append, List.cons_append, Nat.zero_add, V34.l, V23.l, lowM, reM, List.replicate_succ, List.replicate_zero] at h70 ⊢
  repeat' first
    | (with_reducible first | apply c_seq | apply c_reg | apply c_dreg0 | apply c_block | apply c_ret | apply c_exit | apply c_skip | apply ops_nil | apply d_nil | apply k_seq_n | apply k_seq_r | apply k_seq_x | apply k_blk_n | apply k_blk_r | apply k_blk_x | apply k_end_n | apply k_end_r | apply k_loop_x | apply k_loop_r | apply c_dreg1 | apply c_dreg2)
    | ((with_reducible first | apply op_gS | apply op_g0 | apply d_gS | apply d_g0); (focus (simp only [W0, reduceIte, Nat.reduceEqDiff, Nat.reduceAdd, Nat.reduceSub, Nat.reduceLeDiff, W5, slA_none, beq_self_eq_true, bne_self_eq_false, BEq.rfl]; rfl)); (with_reducible first | apply g_no | apply g_T | apply g_F); all_goals (try (intro hc; first | exact absurd hc (by decide) | subst hc | clear hc)))
    | ((with_reducible apply c_cond); (focus (simp only [W0, reduceIte, Nat.reduceEqDiff, Nat.reduceAdd, Nat.reduceSub, Nat.reduceLeDiff, W5, slA_none, beq_self_eq_true, bne_self_eq_false, BEq.rfl]; rfl)); all_goals (intro hc; first | exact absurd hc (by decide) | subst hc | clear hc))
    | ((with_reducible first | apply op_fcall (f := 70) | apply d_fcall (f := 70)); (focus ((try simp only [W0, reduceIte, Nat.reduceEqDiff, Nat.reduceAdd, Nat.reduceSub, Nat.reduceLeDiff, W5, slA_none, beq_self_eq_true, bne_self_eq_false, BEq.rfl]); first | exact h70)); all_goals (try rfl))
    | ((with_reducible first | apply op_isB | apply d_isV); (focus rfl); (focus (simp only [W0, reduceIte, Nat.reduceEqDiff, Nat.reduceAdd, Nat.reduceSub, Nat.reduceLeDiff, W5, slA_none, beq_self_eq_true, bne_self_eq_false, BEq.rfl]; rfl)); intro c' hc'; try with_reducible first | cases (show true = c' from hc') | cases (show false = c' from hc'))
    | ((with_reducible first | apply op_step | apply op_step0 | apply d_ld | apply d_st | apply d_new | apply d_box | apply d_bsl | apply d_apw | apply d_apa | apply d_v); (focus (simp only [W0, reduceIte, Nat.reduceEqDiff, Nat.reduceAdd, Nat.reduceSub, Nat.reduceLeDiff, W5, slA_none, beq_self_eq_true, bne_self_eq_false, BEq.rfl]; rfl)); all_goals (try rfl))
  refine c_loop [1, 2, 3, 4] (fun n env rows => ∃ k : Nat, k ≤ (slL m.f12).length ∧ n = (slL m.f12).length - k ∧ env = [(1, .ptr 0 0), (2, .ptr 1 0), (3, .ptr 2 0), (4, .int .i64 (k : Int))] ∧ rows = [Row.box 34 [.int .i64 m.f0, .int .i64 m.f1, .int .i64 m.f2, .int .i64 m.f3, .int .i64 m.f4, .int .i64 m.f5, .int .i64 m.f6, .int .i64 m.f7, .bool m.f8, slA 66 m.f9, .int .i64 m.f10.f0, .int .i64 m.f10.f1, .int .i64 m.f10.f2, .int .i64 m.f10.f3, slA 5 m.f11, slA 34 m.f12], Row.box 34 [.int .i64 0, .int .i64 0, .int .i64 0, .int .i64 0, .int .i64 0, .int .i64 0, .int .i64 0, .int .i64 0, .bool false, .nil 66, .int .i64 0, .int .i64 0, .int .i64 0, .int .i64 0, .nil 5, .nil 34], Row.box 34 [.int .i64 m.f0, .int .i64 m.f1, .int .i64 m.f2, .int .i64 m.f3, .int .i64 m.f4, .int .i64 m.f5, .int .i64 m.f6, .int .i64 m.f7, .bool m.f8, slA 66 (nz (slL m.f9)), .int .i64 m.f10.f0, .int .i64 m.f10.f1, .int .i64 m.f10.f2, .int .i64 m.f10.f3, slA 5 (nz (slL m.f11)), slS 34 3 (nz (((slL m.f12).take k).map twinL))], rwS 34 (nz (((slL m.f12).take k).map twinL)), .dead]) (slL m.f12).length
    (back_L [2, 3, 4, 0, 1] ⟨Nat.zero_le _, fun i hi => absurd hi (Nat.not_lt_zero _), by decide, by simp [look, idsL, idsV], by simp [idsR_box, idsR_dead, idsR_vec, idsL, idsV, slA_ids, rwS_ids, frS_ids] <;> (repeat' apply And.intro) <;> (intro j hj; have := slS_ids hj; omega)⟩ ⟨0, Nat.zero_le _, rfl, (by simp [look, renV, gcF, List.idxOf_cons]), (by simp [gcRows, renR_box, renR_dead, renL, renV, slS_ren, slA_ren, rwS_ren, gcF, List.idxOf_cons, slS_none, rwS_none, nz_nil])⟩) ?_
  rintro n env rows ⟨k, hk, rfl, rfl, rfl⟩
  rcases Nat.lt_or_ge k (slL m.f12).length with hk' | hk'
  · obtain ⟨q, hq, hqok⟩ := el34 hm.h12.1 hk'
    obtain ⟨hfq, h3, hinq⟩ := hin k _ hq
    rw [un34_l] at hfq h3 hinq
    have hd : decide ((k : Int) < ((slL m.f12).length : Int)) = true := decide_eq_true (by omega)
    have hst := nz_step (f := twinL) hq
    have hln := nz_len (f := twinL) hk
    have h70q := f70 q hfq
    have hq1 : (slL m.f12)[k]? = some q.l := hq
    have htw : twinL q.l = (twin1 q).l := by unfold twinL; rw [un34_l]
    generalize nz (((slL m.f12).take k).map twinL) = acc at hst hln ⊢
    have pa : ((slL acc).length + 1 ≤ 799644820200) = True := eq_true (by omega)
    simp only [V34.l, V23.l, lowM, reM, List.nil_append, List.cons_append] at hq1 h70q
    repeat' first
      | (with_reducible first | apply c_seq | apply c_reg | apply c_dreg0 | apply c_block | apply c_ret | apply c_exit | apply c_skip | apply ops_nil | apply d_nil | apply k_seq_n | apply k_seq_r | apply k_seq_x | apply k_blk_n | apply k_blk_r | apply k_blk_x | apply k_end_n | apply k_end_r | apply k_loop_x | apply k_loop_r | apply c_dreg1 | apply c_dreg2)
      | ((with_reducible first | apply op_gS | apply op_g0 | apply d_gS | apply d_g0); (focus (simp only [W0, reduceIte, Nat.reduceEqDiff, Nat.reduceAdd, Nat.reduceSub, Nat.reduceLeDiff, W5, slA_none, beq_self_eq_true, bne_self_eq_false, BEq.rfl, slA_at 34 _ (k := .i64) hq1, hd]; rfl)); (with_reducible first | apply g_no | apply g_T | apply g_F); all_goals (try (intro hc; first | exact absurd hc (by decide) | subst hc | clear hc)))
      | ((with_reducible apply c_cond); (focus (simp only [W0, reduceIte, Nat.reduceEqDiff, Nat.reduceAdd, Nat.reduceSub, Nat.reduceLeDiff, W5, slA_none, beq_self_eq_true, bne_self_eq_false, BEq.rfl, slA_at 34 _ (k := .i64) hq1, hd]; rfl)); all_goals (intro hc; first | exact absurd hc (by decide) | subst hc | clear hc))
      | ((with_reducible first | apply op_fcall (f := 70) | apply d_fcall (f := 70)); (focus ((try simp only [W0, reduceIte, Nat.reduceEqDiff, Nat.reduceAdd, Nat.reduceSub, Nat.reduceLeDiff, W5, slA_none, beq_self_eq_true, bne_self_eq_false, BEq.rfl, slA_at 34 _ (k := .i64) hq1, hd]); first | exact h70q)); all_goals (try rfl))
      | ((with_reducible first | apply op_isB | apply d_isV); (focus rfl); (focus (simp only [W0, reduceIte, Nat.reduceEqDiff, Nat.reduceAdd, Nat.reduceSub, Nat.reduceLeDiff, W5, slA_none, beq_self_eq_true, bne_self_eq_false, BEq.rfl, slA_at 34 _ (k := .i64) hq1, hd]; rfl)); intro c' hc'; try with_reducible first | cases (show true = c' from hc') | cases (show false = c' from hc'))
      | ((with_reducible first | apply op_step | apply op_step0 | apply d_ld | apply d_st | apply d_new | apply d_box | apply d_bsl | apply d_apw | apply d_apa | apply d_v); (focus (simp only [W0, reduceIte, Nat.reduceEqDiff, Nat.reduceAdd, Nat.reduceSub, Nat.reduceLeDiff, W5, slA_none, beq_self_eq_true, bne_self_eq_false, BEq.rfl, slA_at 34 _ (k := .i64) hq1, hd]; rfl)); all_goals (try rfl))
    refine c_loop [1, 2, 3, 4, 5, 6] (fun n env rows => ∃ j : Nat, j ≤ (slL q.f12).length ∧ n = (slL q.f12).length - j ∧ env = [(1, .ptr 0 0), (2, .ptr 1 0), (3, .ptr 2 0), (4, .int .i64 (k : Int)), (5, .ptr 4 0), (6, .int .i64 (j : Int))] ∧ rows = [Row.box 34 [.int .i64 m.f0, .int .i64 m.f1, .int .i64 m.f2, .int .i64 m.f3, .int .i64 m.f4, .int .i64 m.f5, .int .i64 m.f6, .int .i64 m.f7, .bool m.f8, slA 66 m.f9, .int .i64 m.f10.f0, .int .i64 m.f10.f1, .int .i64 m.f10.f2, .int .i64 m.f10.f3, slA 5 m.f11, slA 34 m.f12], Row.box 34 [.int .i64 0, .int .i64 0, .int .i64 0, .int .i64 0, .int .i64 0, .int .i64 0, .int .i64 0, .int .i64 0, .bool false, .nil 66, .int .i64 0, .int .i64 0, .int .i64 0, .int .i64 0, .nil 5, .nil 34], Row.box 34 [.int .i64 m.f0, .int .i64 m.f1, .int .i64 m.f2, .int .i64 m.f3, .int .i64 m.f4, .int .i64 m.f5, .int .i64 m.f6, .int .i64 m.f7, .bool m.f8, slA 66 (nz (slL m.f9)), .int .i64 m.f10.f0, .int .i64 m.f10.f1, .int .i64 m.f10.f2, .int .i64 m.f10.f3, slA 5 (nz (slL m.f11)), slS 34 3 acc], rwS 34 acc, Row.box 34 [.int .i64 q.f0, .int .i64 q.f1, .int .i64 q.f2, .int .i64 q.f3, .int .i64 q.f4, .int .i64 q.f5, .int .i64 q.f6, .int .i64 q.f7, .bool q.f8, slA 66 (nz (slL q.f9)), .int .i64 q.f10.f0, .int .i64 q.f10.f1, .int .i64 q.f10.f2, .int .i64 q.f10.f3, slA 5 (nz (slL q.f11)), slS 34 5 (nz (((slL q.f12).take j).map lowL))], rwS 34 (nz (((slL q.f12).take j).map lowL))]) (slL q.f12).length
      (back_L [0, 1, 2, 3, 5, 4] ⟨Nat.zero_le _, fun i hi => absurd hi (Nat.not_lt_zero _), by decide, by simp [look, idsL, idsV], by simp [idsR_box, idsR_dead, idsR_vec, idsL, idsV, slA_ids, rwS_ids, frS_ids] <;> (repeat' apply And.intro) <;> (intro j hj; have := slS_ids hj; omega)⟩ ⟨0, Nat.zero_le _, rfl, (by simp [look, renV, gcF, List.idxOf_cons]), (by simp [gcRows, renR_box, renR_dead, renL, renV, slS_ren, slA_ren, rwS_ren, gcF, List.idxOf_cons, slS_none, rwS_none, nz_nil])⟩) ?_
    rintro n env rows ⟨j, hj, rfl, rfl, rfl⟩
    rcases Nat.lt_or_ge j (slL q.f12).length with hj' | hj'
    · obtain ⟨p, hp, hpok⟩ := el34 hqok.h12.1 hj'
      have hfp := hinq j _ hp
      rw [un34_l] at hfp
      have h70p := f70 p hfp
      have hd2 : decide ((j : Int) < ((slL q.f12).length : Int)) = true := decide_eq_true (by omega)
      have hst2 := nz_step (f := lowL) hp
      have hln2 := nz_len (f := lowL) hj
      have hp1 : (slL q.f12)[j]? = some p.l := hp
      have hlw : lowL p.l = (lowM p).l := by unfold lowL; rw [un34_l]
      generalize nz (((slL q.f12).take j).map lowL) = inn at hst2 hln2 ⊢
      have pb : ((slL inn).length + 1 ≤ 799644820200) = True := eq_true (by omega)
      simp only [V34.l, V23.l, lowM, reM, List.nil_append, List.cons_append] at hp1 h70p
      repeat' first
        | (with_reducible first | apply c_seq | apply c_reg | apply c_dreg0 | apply c_block | apply c_ret | apply c_exit | apply c_skip | apply ops_nil | apply d_nil | apply k_seq_n | apply k_seq_r | apply k_seq_x | apply k_blk_n | apply k_blk_r | apply k_blk_x | apply k_end_n | apply k_end_r | apply k_loop_x | apply k_loop_r | apply c_dreg1 | apply c_dreg2)
        | ((with_reducible first | apply op_gS | apply op_g0 | apply d_gS | apply d_g0); (focus (simp only [W0, reduceIte, Nat.reduceEqDiff, Nat.reduceAdd, Nat.reduceSub, Nat.reduceLeDiff, W5, slA_none, beq_self_eq_true, bne_self_eq_false, BEq.rfl, slA_at 34 _ (k := .i64) hq1, hd, hd2, slA_at 34 _ (k := .i64) hp1, appR_slS, pb, List.replicate_succ, List.replicate_zero, List.take_succ_cons, List.take_zero]; rfl)); (with_reducible first | apply g_no | apply g_T | apply g_F); all_goals (try (intro hc; first | exact absurd hc (by decide) | subst hc | clear hc)))
        | ((with_reducible apply c_cond); (focus (simp only [W0, reduceIte, Nat.reduceEqDiff, Nat.reduceAdd, Nat.reduceSub, Nat.reduceLeDiff, W5, slA_none, beq_self_eq_true, bne_self_eq_false, BEq.rfl, slA_at 34 _ (k := .i64) hq1, hd, hd2, slA_at 34 _ (k := .i64) hp1, appR_slS, pb, List.replicate_succ, List.replicate_zero, List.take_succ_cons, List.take_zero]; rfl)); all_goals (intro hc; first | exact absurd hc (by decide) | subst hc | clear hc))
        | ((with_reducible first | apply op_fcall (f := 70) | apply d_fcall (f := 70)); (focus ((try simp only [W0, reduceIte, Nat.reduceEqDiff, Nat.reduceAdd, Nat.reduceSub, Nat.reduceLeDiff, W5, slA_none, beq_self_eq_true, bne_self_eq_false, BEq.rfl, slA_at 34 _ (k := .i64) hq1, hd, hd2, slA_at 34 _ (k := .i64) hp1, appR_slS, pb, List.replicate_succ, List.replicate_zero, List.take_succ_cons, List.take_zero]); first | exact h70p)); all_goals (try rfl))
        | ((with_reducible first | apply op_isB | apply d_isV); (focus rfl); (focus (simp only [W0, reduceIte, Nat.reduceEqDiff, Nat.reduceAdd, Nat.reduceSub, Nat.reduceLeDiff, W5, slA_none, beq_self_eq_true, bne_self_eq_false, BEq.rfl, slA_at 34 _ (k := .i64) hq1, hd, hd2, slA_at 34 _ (k := .i64) hp1, appR_slS, pb, List.replicate_succ, List.replicate_zero, List.take_succ_cons, List.take_zero]; rfl)); intro c' hc'; try with_reducible first | cases (show true = c' from hc') | cases (show false = c' from hc'))
        | ((with_reducible first | apply op_step | apply op_step0 | apply d_ld | apply d_st | apply d_new | apply d_box | apply d_bsl | apply d_apw | apply d_apa | apply d_v); (focus (simp only [W0, reduceIte, Nat.reduceEqDiff, Nat.reduceAdd, Nat.reduceSub, Nat.reduceLeDiff, W5, slA_none, beq_self_eq_true, bne_self_eq_false, BEq.rfl, slA_at 34 _ (k := .i64) hq1, hd, hd2, slA_at 34 _ (k := .i64) hp1, appR_slS, pb, List.replicate_succ, List.replicate_zero, List.take_succ_cons, List.take_zero]; rfl)); all_goals (try rfl))
      all_goals first | (exfalso; refine Bool.false_ne_true ?_; first | assumption | (symm; assumption)) | (exact absurd ‹true = false› (by decide)) | skip
      · refine k_loop_n ((slL q.f12).length - (j + 1)) (by omega) (back_L [0, 1, 2, 3, 4, 7] ⟨Nat.zero_le _, fun i hi => absurd hi (Nat.not_lt_zero _), by decide, by simp [look, idsL, idsV], by simp [idsR_box, idsR_dead, idsR_vec, idsL, idsV, slA_ids, rwS_ids, frS_ids] <;> (repeat' apply And.intro) <;> (intro j hj; have := slS_ids hj; omega)⟩ ⟨j + 1, by omega, rfl, (by simp [look, renV, gcF, List.idxOf_cons, wrap_succ hj' hqok.h12.2]), ?_⟩)
        rw [hst2, hlw]
        simp [gcRows, renR_box, renR_dead, renL, renV, slS_ren, slA_ren, rwS_ren, gcF, List.idxOf_cons, lowM, reM, V34.l, V23.l, slA_none]
    · obtain rfl : j = (slL q.f12).length := by omega
      have hd2 : decide (((slL q.f12).length : Int) < ((slL q.f12).length : Int)) = false := decide_eq_false (by omega)
      rw [List.take_length]
      repeat' first
        | (with_reducible first | apply c_seq | apply c_reg | apply c_dreg0 | apply c_block | apply c_ret | apply c_exit | apply c_skip | apply ops_nil | apply d_nil | apply k_seq_n | apply k_seq_r | apply k_seq_x | apply k_blk_n | apply k_blk_r | apply k_blk_x | apply k_end_n | apply k_end_r | apply k_loop_x | apply k_loop_r | apply c_dreg1 | apply c_dreg2)
        | ((with_reducible first | apply op_gS | apply op_g0 | apply d_gS | apply d_g0); (focus (simp only [W0, reduceIte, Nat.reduceEqDiff, Nat.reduceAdd, Nat.reduceSub, Nat.reduceLeDiff, W5, slA_none, beq_self_eq_true, bne_self_eq_false, BEq.rfl, slA_at 34 _ (k := .i64) hq1, hd, hd2, appR_slS, pa, List.replicate_succ, List.replicate_zero, List.take_succ_cons, List.take_zero]; rfl)); (with_reducible first | apply g_no | apply g_T | apply g_F); all_goals (try (intro hc; first | exact absurd hc (by decide) | subst hc | clear hc)))
        | ((with_reducible apply c_cond); (focus (simp only [W0, reduceIte, Nat.reduceEqDiff, Nat.reduceAdd, Nat.reduceSub, Nat.reduceLeDiff, W5, slA_none, beq_self_eq_true, bne_self_eq_false, BEq.rfl, slA_at 34 _ (k := .i64) hq1, hd, hd2, appR_slS, pa, List.replicate_succ, List.replicate_zero, List.take_succ_cons, List.take_zero]; rfl)); all_goals (intro hc; first | exact absurd hc (by decide) | subst hc | clear hc))
        | ((with_reducible first | apply op_isB | apply d_isV); (focus rfl); (focus (simp only [W0, reduceIte, Nat.reduceEqDiff, Nat.reduceAdd, Nat.reduceSub, Nat.reduceLeDiff, W5, slA_none, beq_self_eq_true, bne_self_eq_false, BEq.rfl, slA_at 34 _ (k := .i64) hq1, hd, hd2, appR_slS, pa, List.replicate_succ, List.replicate_zero, List.take_succ_cons, List.take_zero]; rfl)); intro c' hc'; try with_reducible first | cases (show true = c' from hc') | cases (show false = c' from hc'))
        | ((with_reducible first | apply op_step | apply op_step0 | apply d_ld | apply d_st | apply d_new | apply d_box | apply d_bsl | apply d_apw | apply d_apa | apply d_v); (focus (simp only [W0, reduceIte, Nat.reduceEqDiff, Nat.reduceAdd, Nat.reduceSub, Nat.reduceLeDiff, W5, slA_none, beq_self_eq_true, bne_self_eq_false, BEq.rfl, slA_at 34 _ (k := .i64) hq1, hd, hd2, appR_slS, pa, List.replicate_succ, List.replicate_zero, List.take_succ_cons, List.take_zero]; rfl)); all_goals (try rfl))
      all_goals first | (exfalso; refine Bool.false_ne_true ?_; first | assumption | (symm; assumption)) | (exact absurd ‹true = false› (by decide)) | skip
      · refine k_loop_n ((slL m.f12).length - (k + 1)) (by omega) (back_L [0, 1, 2, 7, 3] ⟨Nat.zero_le _, fun i hi => absurd hi (Nat.not_lt_zero _), by decide, by simp [look, idsL, idsV], by simp [idsR_box, idsR_dead, idsR_vec, idsL, idsV, slA_ids, rwS_ids, frS_ids] <;> (repeat' apply And.intro) <;> (intro j hj; have := slS_ids hj; omega)⟩ ⟨k + 1, by omega, rfl, (by simp [look, renV, gcF, List.idxOf_cons, wrap_succ hk' hm.h12.2]), ?_⟩)
        rw [hst, htw]
        simp [gcRows, renR_box, renR_dead, renL, renV, slS_ren, slA_ren, rwS_ren, gcF, List.idxOf_cons, twin1, reM, V34.l, V23.l]
  · obtain rfl : k = (slL m.f12).length := by omega
    have hd : decide (((slL m.f12).length : Int) < ((slL m.f12).length : Int)) = false := decide_eq_false (by omega)
    rw [List.take_length]
    repeat' first
      | (with_reducible first | apply c_seq | apply c_reg | apply c_dreg0 | apply c_block | apply c_ret | apply c_exit | apply c_skip | apply ops_nil | apply d_nil | apply k_seq_n | apply k_seq_r | apply k_seq_x | apply k_blk_n | apply k_blk_r | apply k_blk_x | apply k_end_n | apply k_end_r | apply k_loop_x | apply k_loop_r | apply c_dreg1 | apply c_dreg2)
      | ((with_reducible first | apply op_gS | apply op_g0 | apply d_gS | apply d_g0); (focus (simp only [W0, reduceIte, Nat.reduceEqDiff, Nat.reduceAdd, Nat.reduceSub, Nat.reduceLeDiff, W5, slA_none, beq_self_eq_true, bne_self_eq_false, BEq.rfl, hd]; rfl)); (with_reducible first | apply g_no | apply g_T | apply g_F); all_goals (try (intro hc; first | exact absurd hc (by decide) | subst hc | clear hc)))
      | ((with_reducible apply c_cond); (focus (simp only [W0, reduceIte, Nat.reduceEqDiff, Nat.reduceAdd, Nat.reduceSub, Nat.reduceLeDiff, W5, slA_none, beq_self_eq_true, bne_self_eq_false, BEq.rfl, hd]; rfl)); all_goals (intro hc; first | exact absurd hc (by decide) | subst hc | clear hc))
      | ((with_reducible first | apply op_isB | apply d_isV); (focus rfl); (focus (simp only [W0, reduceIte, Nat.reduceEqDiff, Nat.reduceAdd, Nat.reduceSub, Nat.reduceLeDiff, W5, slA_none, beq_self_eq_true, bne_self_eq_false, BEq.rfl, hd]; rfl)); intro c' hc'; try with_reducible first | cases (show true = c' from hc') | cases (show false = c' from hc'))
      | ((with_reducible first | apply op_step | apply op_step0 | apply d_ld | apply d_st | apply d_new | apply d_box | apply d_bsl | apply d_apw | apply d_apa | apply d_v); (focus (simp only [W0, reduceIte, Nat.reduceEqDiff, Nat.reduceAdd, Nat.reduceSub, Nat.reduceLeDiff, W5, slA_none, beq_self_eq_true, bne_self_eq_false, BEq.rfl, hd]; rfl)); all_goals (try rfl))
    all_goals first | (exfalso; refine Bool.false_ne_true ?_; first | assumption | (symm; assumption)) | (exact absurd ‹true = false› (by decide)) | skip
    all_goals ((with_reducible apply ret_row 3); (focus (simp only [W0, reduceIte, Nat.reduceEqDiff, Nat.reduceAdd, Nat.reduceSub, Nat.reduceLeDiff, W5, slA_none, beq_self_eq_true, bne_self_eq_false, BEq.rfl]; rfl)); (focus rfl); (focus (simp only [rwS_ids])); (focus (simp [resV, idsV, idsL, slA_ids]; intro id hid; exact slS_ids hid)); (focus (simp only [rwS_ren])))
    all_goals exact ⟨_, by simp [resV, renV, renL, slS_ren, slA_ren, gcF_1, F1, frT, frL, fr1_slS, twinM, reM]; rfl⟩
end Go.Sk
