/- Messages that are not too heavy; their twins. Conditions: none. -/
import Derived.Test.YtnbmngpdbnkhaaaC6Spec17
import Derived.Test.YtnbmngpdbnkhaaaC6Spec13
set_option linter.unusedVariables false
set_option linter.unusedSimpArgs false
set_option maxRecDepth 200000
set_option maxHeartbeats 8000000
namespace Go.Sk
open Go.Proofs.Try
def unS : AV → Option (List (List AV))
  | .fz _ l => some l
  | _ => none
/-- The message of a row. -/
def un34 (l : List AV) : V34 := match l with
  | [.int _ f0, .int _ f1, .int _ f2, .int _ f3, .int _ f4, .int _ f5, .int _ f6, .int _ f7, .bool f8, s9, .int _ c0, .int _ c1, .int _ c2, .int _ c3, s11, s12] => ⟨f0, f1, f2, f3, f4, f5, f6, f7, f8, unS s9, ⟨c0, c1, c2, c3⟩, unS s11, unS s12⟩
  | _ => zero34
theorem un34_l (m : V34) : un34 m.l = m := by
  obtain ⟨f0, f1, f2, f3, f4, f5, f6, f7, f8, f9, f10, f11, f12⟩ := m
  cases f9 <;> cases f11 <;> cases f12 <;> rfl
/-- What is not too heavy. -/
def flatL (m : V34) : Prop := (slL m.f9).length ≤ 200 ∧ (slL m.f11).length ≤ 32768
def innL (m : V34) : Prop := flatL m ∧ (slL m.f12).length ≤ 3 ∧ ∀ (j : Nat) (us : List AV), (slL m.f12)[j]? = some us → flatL (un34 us)
def lightM (m : V34) : Prop := flatL m ∧ (slL m.f12).length ≤ 20 ∧ ∀ (j : Nat) (us : List AV), (slL m.f12)[j]? = some us → innL (un34 us)
theorem f51b (m : V34) (hm : m.sl) : FCallE prog 51 [.agg m.l] (BoolIf (flatL m)) := by
  refine fcallE mixed t51 (by simp [m51]) (by simp [idsL, idsV, V34.ids]) (f_body ?_)
  simp only [m51, argEnv, List.length_nil, List.nil_append, List.cons_append, Nat.zero_add, V34.l, V23.l]
  repeat' first
    | (with_reducible first | apply c_seq | apply c_reg | apply c_dreg0 | apply c_block | apply c_ret | apply c_exit | apply c_skip | apply ops_nil | apply d_nil | apply k_seq_n | apply k_seq_r | apply k_seq_x | apply k_blk_n | apply k_blk_r | apply k_blk_x | apply k_end_n | apply k_end_r | apply k_loop_x | apply k_loop_r | apply c_dreg1 | apply c_dreg2)
    | ((with_reducible first | apply op_gS | apply op_g0 | apply d_gS | apply d_g0); (focus (simp only [W0, reduceIte, Nat.reduceEqDiff, Nat.reduceAdd, Nat.reduceSub, Nat.reduceLeDiff]; rfl)); (with_reducible first | apply g_no | apply g_T | apply g_F); all_goals (try (intro hc; first | exact absurd hc (by decide) | subst hc | clear hc)))
    | ((with_reducible apply c_cond); (focus (simp only [W0, reduceIte, Nat.reduceEqDiff, Nat.reduceAdd, Nat.reduceSub, Nat.reduceLeDiff]; rfl)); all_goals (intro hc; first | exact absurd hc (by decide) | subst hc | clear hc))
    | ((with_reducible apply op_bcallQ (f := 67)); (focus ((try simp only [W0, reduceIte, Nat.reduceEqDiff, Nat.reduceAdd, Nat.reduceSub, Nat.reduceLeDiff]); exact f67b m.f9 hm.h9.1 hm.h9.2)); intro c' hq')
    | ((with_reducible first | apply op_isB | apply d_isV); (focus rfl); (focus (simp only [W0, reduceIte, Nat.reduceEqDiff, Nat.reduceAdd, Nat.reduceSub, Nat.reduceLeDiff]; rfl)); intro c' hc'; try with_reducible first | cases (show true = c' from hc') | cases (show false = c' from hc'))
    | ((with_reducible first | apply op_step | apply op_step0 | apply d_ld | apply d_st | apply d_new | apply d_box | apply d_bsl | apply d_apw | apply d_apa | apply d_v); (focus (simp only [W0, reduceIte, Nat.reduceEqDiff, Nat.reduceAdd, Nat.reduceSub, Nat.reduceLeDiff]; rfl)); all_goals (try rfl))
  all_goals ((with_reducible apply ret_plain); (focus (simp only [W0, reduceIte, Nat.reduceEqDiff, Nat.reduceAdd, Nat.reduceSub, Nat.reduceLeDiff]; rfl)); (focus (simp [resV, idsV, idsL, slA_ids, ints_ids])))
  all_goals exact ⟨_, [], rfl, _, rfl, fun e => by first | exact absurd e (by decide) | (simp_all [flatL]; done) | (simp_all [flatL] <;> omega)⟩
theorem f14b (m : V34) (hm : m.ok) : FCallE prog 14 [.agg m.l] (BoolIf (lightM m)) := by
  refine fcallE mixed t14 (by simp [m14]) (by simp [idsL, idsV, V34.ids]) (f_body ?_)
  simp only [m14, argEnv, List.length_nil, List.nil_append, List.cons_append, Nat.zero_add, V34.l, V23.l]
  repeat' first
    | (with_reducible first | apply c_seq | apply c_reg | apply c_dreg0 | apply c_block | apply c_ret | apply c_exit | apply c_skip | apply ops_nil | apply d_nil | apply k_seq_n | apply k_seq_r | apply k_seq_x | apply k_blk_n | apply k_blk_r | apply k_blk_x | apply k_end_n | apply k_end_r | apply k_loop_x | apply k_loop_r | apply c_dreg1 | apply c_dreg2)
    | ((with_reducible first | apply op_gS | apply op_g0 | apply d_gS | apply d_g0); (focus (simp only [W0, reduceIte, Nat.reduceEqDiff, Nat.reduceAdd, Nat.reduceSub, Nat.reduceLeDiff]; rfl)); (with_reducible first | apply g_no | apply g_T | apply g_F); all_goals (try (intro hc; first | exact absurd hc (by decide) | subst hc | clear hc)))
    | ((with_reducible apply c_cond); (focus (simp only [W0, reduceIte, Nat.reduceEqDiff, Nat.reduceAdd, Nat.reduceSub, Nat.reduceLeDiff]; rfl)); all_goals (intro hc; first | exact absurd hc (by decide) | subst hc | clear hc))
    | ((with_reducible apply op_bcallQ (f := 51)); (focus ((try simp only [W0, reduceIte, Nat.reduceEqDiff, Nat.reduceAdd, Nat.reduceSub, Nat.reduceLeDiff]); exact f51b m hm.sl)); intro c' hq')
    | ((with_reducible first | apply op_isB | apply d_isV); (focus rfl); (focus (simp only [W0, reduceIte, Nat.reduceEqDiff, Nat.reduceAdd, Nat.reduceSub, Nat.reduceLeDiff]; rfl)); intro c' hc'; try with_reducible first | cases (show true = c' from hc') | cases (show false = c' from hc'))
    | ((with_reducible first | apply op_step | apply op_step0 | apply d_ld | apply d_st | apply d_new | apply d_box | apply d_bsl | apply d_apw | apply d_apa | apply d_v); (focus (simp only [W0, reduceIte, Nat.reduceEqDiff, Nat.reduceAdd, Nat.reduceSub, Nat.reduceLeDiff]; rfl)); all_goals (try rfl))
  any_goals (((with_reducible apply ret_plain); (focus (simp only [W0, reduceIte, Nat.reduceEqDiff, Nat.reduceAdd, Nat.reduceSub, Nat.reduceLeDiff]; rfl)); (focus (simp [resV, idsV, idsL, slA_ids, ints_ids]))); exact ⟨_, [], rfl, _, rfl, fun e => absurd e (by decide)⟩)
  have hfl : flatL m := hq' rfl
  have h20 : (slL m.f12).length ≤ 20 := by
    simp only [decide_eq_false_iff_not] at hc'; omega
  refine c_loop [1, 3] (fun n env rows => ∃ k : Nat, k ≤ (slL m.f12).length ∧ n = (slL m.f12).length - k ∧ env = [(1, .ptr 0 0), (3, .int .i64 (k : Int))] ∧ rows = [Row.box 34 m.l] ∧ ∀ j us, j < k → (slL m.f12)[j]? = some us → innL (un34 us)) (slL m.f12).length
    (back_keep (by simp) (by simp [look, idsL, idsV]) (by simp [idsR, idsL, idsV, slA_ids]) ⟨0, by omega, by omega, rfl, rfl, fun j us hj => by omega⟩) ?_
  clear hc' hq'
  rintro n env rows ⟨k, hk, rfl, rfl, rfl, hin⟩
  simp only [V34.l, V23.l, List.cons_append, List.nil_append]
  rcases Nat.lt_or_ge k (slL m.f12).length with hk' | hk'
  · obtain ⟨q, hq, hqok⟩ := el34 hm.h12.1 hk'
    have hd : decide ((k : Int) < ((slL m.f12).length : Int)) = true := decide_eq_true (by omega)
    have hq1 : (slL m.f12)[k]? = some q.l := hq
    simp only [V34.l, V23.l, List.nil_append, List.cons_append] at hq1
    repeat' first
      | (with_reducible first | apply c_seq | apply c_reg | apply c_dreg0 | apply c_block | apply c_ret | apply c_exit | apply c_skip | apply ops_nil | apply d_nil | apply k_seq_n | apply k_seq_r | apply k_seq_x | apply k_blk_n | apply k_blk_r | apply k_blk_x | apply k_end_n | apply k_end_r | apply k_loop_x | apply k_loop_r | apply c_dreg1 | apply c_dreg2)
      | ((with_reducible first | apply op_gS | apply op_g0 | apply d_gS | apply d_g0); (focus (simp only [W0, reduceIte, Nat.reduceEqDiff, Nat.reduceAdd, Nat.reduceSub, Nat.reduceLeDiff, slA_at 34 _ (k := .i64) hq1, V34.l, V23.l, hd]; rfl)); (with_reducible first | apply g_no | apply g_T | apply g_F); all_goals (try (intro hc; first | exact absurd hc (by decide) | subst hc | clear hc)))
      | ((with_reducible apply c_cond); (focus (simp only [W0, reduceIte, Nat.reduceEqDiff, Nat.reduceAdd, Nat.reduceSub, Nat.reduceLeDiff, slA_at 34 _ (k := .i64) hq1, V34.l, V23.l, hd]; rfl)); all_goals (intro hc; first | exact absurd hc (by decide) | subst hc | clear hc))
      | ((with_reducible apply op_bcallQ (f := 51)); (focus ((try simp only [W0, reduceIte, Nat.reduceEqDiff, Nat.reduceAdd, Nat.reduceSub, Nat.reduceLeDiff, slA_at 34 _ (k := .i64) hq1, V34.l, V23.l, hd]); exact f51b q hqok.sl)); intro c' hq')
      | ((with_reducible first | apply op_isB | apply d_isV); (focus rfl); (focus (simp only [W0, reduceIte, Nat.reduceEqDiff, Nat.reduceAdd, Nat.reduceSub, Nat.reduceLeDiff, slA_at 34 _ (k := .i64) hq1, V34.l, V23.l, hd]; rfl)); intro c' hc'; try with_reducible first | cases (show true = c' from hc') | cases (show false = c' from hc'))
      | ((with_reducible first | apply op_step | apply op_step0 | apply d_ld | apply d_st | apply d_new | apply d_box | apply d_bsl | apply d_apw | apply d_apa | apply d_v); (focus (simp only [W0, reduceIte, Nat.reduceEqDiff, Nat.reduceAdd, Nat.reduceSub, Nat.reduceLeDiff, slA_at 34 _ (k := .i64) hq1, V34.l, V23.l, hd]; rfl)); all_goals (try rfl))
    any_goals (((with_reducible apply ret_plain); (focus (simp only [W0, reduceIte, Nat.reduceEqDiff, Nat.reduceAdd, Nat.reduceSub, Nat.reduceLeDiff]; rfl)); (focus (simp [resV, idsV, idsL, slA_ids, ints_ids]))); exact ⟨_, [], rfl, _, rfl, fun e => absurd e (by decide)⟩)
    have hfq : flatL q := hq' rfl
    have h3 : (slL q.f12).length ≤ 3 := by
      simp only [decide_eq_false_iff_not] at hc'; omega
    refine c_loop [1, 3, 4] (fun n env rows => ∃ j : Nat, j ≤ (slL q.f12).length ∧ n = (slL q.f12).length - j ∧ env = [(1, .ptr 0 0), (3, .int .i64 (k : Int)), (4, .int .i64 (j : Int))] ∧ rows = [Row.box 34 m.l] ∧ ∀ i us, i < j → (slL q.f12)[i]? = some us → flatL (un34 us)) (slL q.f12).length
      (back_keep (by simp) (by simp [look, idsL, idsV]) (by simp [idsR, idsL, idsV, slA_ids]) ⟨0, by omega, by omega, rfl, rfl, fun j us hj => by omega⟩) ?_
    clear hc' hq'
    rintro n env rows ⟨j, hj, rfl, rfl, rfl, hinn⟩
    simp only [V34.l, V23.l, List.cons_append, List.nil_append]
    rcases Nat.lt_or_ge j (slL q.f12).length with hj' | hj'
    · obtain ⟨p, hp, hpok⟩ := el34 hqok.h12.1 hj'
      have hd2 : decide ((j : Int) < ((slL q.f12).length : Int)) = true := decide_eq_true (by omega)
      have hp1 : (slL q.f12)[j]? = some p.l := hp
      simp only [V34.l, V23.l, List.nil_append, List.cons_append] at hp1
      repeat' first
        | (with_reducible first | apply c_seq | apply c_reg | apply c_dreg0 | apply c_block | apply c_ret | apply c_exit | apply c_skip | apply ops_nil | apply d_nil | apply k_seq_n | apply k_seq_r | apply k_seq_x | apply k_blk_n | apply k_blk_r | apply k_blk_x | apply k_end_n | apply k_end_r | apply k_loop_x | apply k_loop_r | apply c_dreg1 | apply c_dreg2)
        | ((with_reducible first | apply op_gS | apply op_g0 | apply d_gS | apply d_g0); (focus (simp only [W0, reduceIte, Nat.reduceEqDiff, Nat.reduceAdd, Nat.reduceSub, Nat.reduceLeDiff, slA_at 34 _ (k := .i64) hq1, V34.l, V23.l, hd2, slA_at 34 _ (k := .i64) hp1]; rfl)); (with_reducible first | apply g_no | apply g_T | apply g_F); all_goals (try (intro hc; first | exact absurd hc (by decide) | subst hc | clear hc)))
        | ((with_reducible apply c_cond); (focus (simp only [W0, reduceIte, Nat.reduceEqDiff, Nat.reduceAdd, Nat.reduceSub, Nat.reduceLeDiff, slA_at 34 _ (k := .i64) hq1, V34.l, V23.l, hd2, slA_at 34 _ (k := .i64) hp1]; rfl)); all_goals (intro hc; first | exact absurd hc (by decide) | subst hc | clear hc))
        | ((with_reducible apply op_bcallQ (f := 51)); (focus ((try simp only [W0, reduceIte, Nat.reduceEqDiff, Nat.reduceAdd, Nat.reduceSub, Nat.reduceLeDiff, slA_at 34 _ (k := .i64) hq1, V34.l, V23.l, hd2, slA_at 34 _ (k := .i64) hp1]); exact f51b p hpok.sl)); intro c' hq')
        | ((with_reducible first | apply op_isB | apply d_isV); (focus rfl); (focus (simp only [W0, reduceIte, Nat.reduceEqDiff, Nat.reduceAdd, Nat.reduceSub, Nat.reduceLeDiff, slA_at 34 _ (k := .i64) hq1, V34.l, V23.l, hd2, slA_at 34 _ (k := .i64) hp1]; rfl)); intro c' hc'; try with_reducible first | cases (show true = c' from hc') | cases (show false = c' from hc'))
        | ((with_reducible first | apply op_step | apply op_step0 | apply d_ld | apply d_st | apply d_new | apply d_box | apply d_bsl | apply d_apw | apply d_apa | apply d_v); (focus (simp only [W0, reduceIte, Nat.reduceEqDiff, Nat.reduceAdd, Nat.reduceSub, Nat.reduceLeDiff, slA_at 34 _ (k := .i64) hq1, V34.l, V23.l, hd2, slA_at 34 _ (k := .i64) hp1]; rfl)); all_goals (try rfl))
      any_goals (((with_reducible apply ret_plain); (focus (simp only [W0, reduceIte, Nat.reduceEqDiff, Nat.reduceAdd, Nat.reduceSub, Nat.reduceLeDiff]; rfl)); (focus (simp [resV, idsV, idsL, slA_ids, ints_ids]))); exact ⟨_, [], rfl, _, rfl, fun e => absurd e (by decide)⟩)
      refine k_loop_n ((slL q.f12).length - (j + 1)) (by omega) (back_keep (by simp) (by simp [look, idsL, idsV]) (by simp [idsR, idsL, idsV, slA_ids]) ⟨j + 1, by omega, rfl, (by simp [look, wrap_succ hj' hqok.h12.2]), rfl, fun i us hi hus => ?_⟩)
      rcases Nat.lt_or_ge i j with hij | hij
      · exact hinn i us hij hus
      · obtain rfl : i = j := by omega
        rw [hp] at hus; cases hus
        rw [un34_l]
        simp only [decide_eq_false_iff_not] at hc'
        exact hq' rfl
    · have hd2 : decide ((j : Int) < ((slL q.f12).length : Int)) = false := decide_eq_false (by omega)
      repeat' first
        | (with_reducible first | apply c_seq | apply c_reg | apply c_dreg0 | apply c_block | apply c_ret | apply c_exit | apply c_skip | apply ops_nil | apply d_nil | apply k_seq_n | apply k_seq_r | apply k_seq_x | apply k_blk_n | apply k_blk_r | apply k_blk_x | apply k_end_n | apply k_end_r | apply k_loop_x | apply k_loop_r | apply c_dreg1 | apply c_dreg2)
        | ((with_reducible first | apply op_gS | apply op_g0 | apply d_gS | apply d_g0); (focus (simp only [W0, reduceIte, Nat.reduceEqDiff, Nat.reduceAdd, Nat.reduceSub, Nat.reduceLeDiff, slA_at 34 _ (k := .i64) hq1, V34.l, V23.l, hd2]; rfl)); (with_reducible first | apply g_no | apply g_T | apply g_F); all_goals (try (intro hc; first | exact absurd hc (by decide) | subst hc | clear hc)))
        | ((with_reducible apply c_cond); (focus (simp only [W0, reduceIte, Nat.reduceEqDiff, Nat.reduceAdd, Nat.reduceSub, Nat.reduceLeDiff, slA_at 34 _ (k := .i64) hq1, V34.l, V23.l, hd2]; rfl)); all_goals (intro hc; first | exact absurd hc (by decide) | subst hc | clear hc))
        | ((with_reducible first | apply op_isB | apply d_isV); (focus rfl); (focus (simp only [W0, reduceIte, Nat.reduceEqDiff, Nat.reduceAdd, Nat.reduceSub, Nat.reduceLeDiff, slA_at 34 _ (k := .i64) hq1, V34.l, V23.l, hd2]; rfl)); intro c' hc'; try with_reducible first | cases (show true = c' from hc') | cases (show false = c' from hc'))
        | ((with_reducible first | apply op_step | apply op_step0 | apply d_ld | apply d_st | apply d_new | apply d_box | apply d_bsl | apply d_apw | apply d_apa | apply d_v); (focus (simp only [W0, reduceIte, Nat.reduceEqDiff, Nat.reduceAdd, Nat.reduceSub, Nat.reduceLeDiff, slA_at 34 _ (k := .i64) hq1, V34.l, V23.l, hd2]; rfl)); all_goals (try rfl))
      refine k_loop_n ((slL m.f12).length - (k + 1)) (by omega) (back_keep (by simp) (by simp [look, idsL, idsV]) (by simp [idsR, idsL, idsV, slA_ids]) ⟨k + 1, by omega, rfl, (by simp [look, wrap_succ hk' hm.h12.2]), rfl, fun i us hi hus => ?_⟩)
      rcases Nat.lt_or_ge i k with hik | hik
      · exact hin i us hik hus
      · obtain rfl : i = k := by omega
        rw [hq] at hus; cases hus
        rw [un34_l]
        exact ⟨hfq, h3, fun i us hus => hinn i us (by have := (List.getElem?_eq_some_iff.1 hus).1; omega) hus⟩
  · have hd : decide ((k : Int) < ((slL m.f12).length : Int)) = false := decide_eq_false (by omega)
    repeat' first
      | (with_reducible first | apply c_seq | apply c_reg | apply c_dreg0 | apply c_block | apply c_ret | apply c_exit | apply c_skip | apply ops_nil | apply d_nil | apply k_seq_n | apply k_seq_r | apply k_seq_x | apply k_blk_n | apply k_blk_r | apply k_blk_x | apply k_end_n | apply k_end_r | apply k_loop_x | apply k_loop_r | apply c_dreg1 | apply c_dreg2)
      | ((with_reducible first | apply op_gS | apply op_g0 | apply d_gS | apply d_g0); (focus (simp only [W0, reduceIte, Nat.reduceEqDiff, Nat.reduceAdd, Nat.reduceSub, Nat.reduceLeDiff, hd]; rfl)); (with_reducible first | apply g_no | apply g_T | apply g_F); all_goals (try (intro hc; first | exact absurd hc (by decide) | subst hc | clear hc)))
      | ((with_reducible apply c_cond); (focus (simp only [W0, reduceIte, Nat.reduceEqDiff, Nat.reduceAdd, Nat.reduceSub, Nat.reduceLeDiff, hd]; rfl)); all_goals (intro hc; first | exact absurd hc (by decide) | subst hc | clear hc))
      | ((with_reducible first | apply op_isB | apply d_isV); (focus rfl); (focus (simp only [W0, reduceIte, Nat.reduceEqDiff, Nat.reduceAdd, Nat.reduceSub, Nat.reduceLeDiff, hd]; rfl)); intro c' hc'; try with_reducible first | cases (show true = c' from hc') | cases (show false = c' from hc'))
      | ((with_reducible first | apply op_step | apply op_step0 | apply d_ld | apply d_st | apply d_new | apply d_box | apply d_bsl | apply d_apw | apply d_apa | apply d_v); (focus (simp only [W0, reduceIte, Nat.reduceEqDiff, Nat.reduceAdd, Nat.reduceSub, Nat.reduceLeDiff, hd]; rfl)); all_goals (try rfl))
    all_goals ((with_reducible apply ret_plain); (focus (simp only [W0, reduceIte, Nat.reduceEqDiff, Nat.reduceAdd, Nat.reduceSub, Nat.reduceLeDiff]; rfl)); (focus (simp [resV, idsV, idsL, slA_ids, ints_ids])))
    all_goals exact ⟨_, [], rfl, _, rfl, fun e => ⟨hfl, h20, fun i us hus => hin i us (by have := (List.getElem?_eq_some_iff.1 hus).1; omega) hus⟩⟩
end Go.Sk
