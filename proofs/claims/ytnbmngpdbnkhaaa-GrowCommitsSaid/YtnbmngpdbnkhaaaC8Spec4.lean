/- What the law's functions do: configurations in force, votes counted. Conditions: none. -/
import Derived.Test.YtnbmngpdbnkhaaaC8Spec3
set_option linter.unusedVariables false
set_option linter.unusedSimpArgs false
set_option maxRecDepth 20000
set_option maxHeartbeats 2000000
namespace Go.Sk
open Go.Proofs.Try
def votersF (c : V23) : Int := Go.bits .or .i64 c.f0 c.f1
theorem f60 (c : V23) : FCall prog 60 [.agg c.l] (.int .i64 (votersF c)) := by
  refine fcall mixed t60 (by simp [m60]) (by simp [idsL, idsV, V23.ids]) (f_body ?_)
  simp only [m60, argEnv, List.length_nil, List.nil_append, List.cons_append, Nat.zero_add, V23.l]
  repeat' first
    | (with_reducible apply c_seq) | (with_reducible apply c_reg) | (with_reducible apply c_dreg0) | (with_reducible apply c_block) | (with_reducible apply c_ret) | (with_reducible apply c_exit) | (with_reducible apply c_skip)
    | (with_reducible apply ops_nil) | (with_reducible apply d_nil) | (with_reducible apply k_seq_n) | (with_reducible apply k_seq_r) | (with_reducible apply k_seq_x) | (with_reducible apply k_blk_n) | (with_reducible apply k_blk_r) | (with_reducible apply k_blk_x) | (with_reducible apply k_end_n) | (with_reducible apply k_end_r) | (with_reducible apply k_loop_x) | (with_reducible apply k_loop_r)
    | ((with_reducible apply op_guardU); (focus (simp only [W2, reduceIte, Nat.reduceEqDiff, Nat.reduceAdd, Nat.reduceSub, Nat.reduceLeDiff, W1]; done)))
    | ((with_reducible apply d_guardU); (focus (simp only [W2, reduceIte, Nat.reduceEqDiff, Nat.reduceAdd, Nat.reduceSub, Nat.reduceLeDiff, W1]; done)))
    | ((with_reducible apply op_guardT); (focus (simp only [W2, reduceIte, Nat.reduceEqDiff, Nat.reduceAdd, Nat.reduceSub, Nat.reduceLeDiff, W1]; rfl)); all_goals (intro hc; first | exact absurd hc (by decide) | subst hc | clear hc))
    | ((with_reducible apply op_guardF); (focus (simp only [W2, reduceIte, Nat.reduceEqDiff, Nat.reduceAdd, Nat.reduceSub, Nat.reduceLeDiff, W1]; rfl)); all_goals (intro hc; first | exact absurd hc (by decide) | subst hc | clear hc))
    | ((with_reducible apply d_guardT); (focus (simp only [W2, reduceIte, Nat.reduceEqDiff, Nat.reduceAdd, Nat.reduceSub, Nat.reduceLeDiff, W1]; rfl)); all_goals (intro hc; first | exact absurd hc (by decide) | subst hc | clear hc))
    | ((with_reducible apply d_guardF); (focus (simp only [W2, reduceIte, Nat.reduceEqDiff, Nat.reduceAdd, Nat.reduceSub, Nat.reduceLeDiff, W1]; rfl)); all_goals (intro hc; first | exact absurd hc (by decide) | subst hc | clear hc))
    | ((with_reducible apply c_cond); (focus (simp only [W2, reduceIte, Nat.reduceEqDiff, Nat.reduceAdd, Nat.reduceSub, Nat.reduceLeDiff, W1]; rfl)); all_goals (intro hc; first | exact absurd hc (by decide) | subst hc | clear hc))
    | ((with_reducible apply op_isB); (focus rfl); (focus (simp only [W2, reduceIte, Nat.reduceEqDiff, Nat.reduceAdd, Nat.reduceSub, Nat.reduceLeDiff, W1]; rfl)); intro c' hc')
    | ((with_reducible apply op_step); (focus (simp only [W2, reduceIte, Nat.reduceEqDiff, Nat.reduceAdd, Nat.reduceSub, Nat.reduceLeDiff, W1]; rfl)))
    | ((with_reducible apply op_step0); (focus (simp only [W2, reduceIte, Nat.reduceEqDiff, Nat.reduceAdd, Nat.reduceSub, Nat.reduceLeDiff, W1]; rfl)))
    | ((with_reducible apply d_isB); (focus rfl); (focus ((with_reducible apply o_v); (focus rfl); (focus (simp only [W2, reduceIte, Nat.reduceEqDiff, Nat.reduceAdd, Nat.reduceSub, Nat.reduceLeDiff, W1]; rfl)))); intro c' hc')
    | ((with_reducible apply d_step); (focus ((with_reducible apply o_v); (focus rfl); (focus (simp only [W2, reduceIte, Nat.reduceEqDiff, Nat.reduceAdd, Nat.reduceSub, Nat.reduceLeDiff, W1]; rfl)))))
    | ((with_reducible apply d_step); (focus ((with_reducible apply o_l); (focus (simp only [W2, reduceIte, Nat.reduceEqDiff, Nat.reduceAdd, Nat.reduceSub, Nat.reduceLeDiff, W1]; rfl)))))
    | ((with_reducible apply d_step); (focus ((with_reducible apply o_l'); (focus (simp only [W2, reduceIte, Nat.reduceEqDiff, Nat.reduceAdd, Nat.reduceSub, Nat.reduceLeDiff, W1]; rfl)); (focus (repeat' first | exact all_nil | (with_reducible apply all_cons) | (simp [rowId, sepB, Opd.get, look, Und, UndB, boxP]; done))); (focus (repeat' first | exact all_nil | (with_reducible apply all_cons) | (simp [rowId, sepB, Opd.get, look, Und, UndB, boxP]; done))); (focus (repeat' first | exact all_nil | (with_reducible apply all_cons) | (simp [rowId, sepB, Opd.get, look, Und, UndB, boxP]; done))))))
    | ((with_reducible apply d_step0); (focus ((with_reducible apply o_w'); (focus (simp only [W2, reduceIte, Nat.reduceEqDiff, Nat.reduceAdd, Nat.reduceSub, Nat.reduceLeDiff, W1]; rfl)); (focus (repeat' first | exact all_nil | (with_reducible apply all_cons) | (simp [rowId, sepB, Opd.get, look, Und, UndB, boxP]; done))); (focus (repeat' first | exact all_nil | (with_reducible apply all_cons) | (simp [rowId, sepB, Opd.get, look, Und, UndB, boxP]; done))))))
    | ((with_reducible apply d_step); (focus ((with_reducible apply o_a'); (focus rfl); (focus (simp only [W2, reduceIte, Nat.reduceEqDiff, Nat.reduceAdd, Nat.reduceSub, Nat.reduceLeDiff, W1]; rfl)); (focus rfl); (focus rfl); (focus (simp only [W2, reduceIte, Nat.reduceEqDiff, Nat.reduceAdd, Nat.reduceSub, Nat.reduceLeDiff, W1]; rfl)))))
    | (with_reducible apply c_dreg1) | (with_reducible apply c_dreg2)
  all_goals ((with_reducible apply ret_plain); (focus (simp only [resVs, resV1, look, Option.bind, Option.map, reduceIte, Nat.reduceEqDiff]; rfl)); (focus (simp [resV, idsV, idsL, slA_ids])))
  all_goals exact ⟨[], by simp_all [resV, fr, frV, frT, thawV, votersF]⟩
def withinF (n a b : Int) : Bool := decide (n ≥ a) && decide (n ≤ b)
theorem u64_small {n : Int} (h : 0 ≤ n) (h2 : n ≤ 6) : IntKind.u64.wrap n = n := by simp [IntKind.wrap, IntKind.signed, IntKind.bits]; omega
theorem f59 (m n : Int) (h1 : 0 ≤ n) (h2 : n ≤ 6) : FCall prog 59 [.int .i64 m, .int .i64 n] (.bool (bitN m n.toNat == 1)) := by
  refine fcall mixed t59 (by simp [m59]) (by simp [idsL, idsV]) (f_body ?_)
  simp only [m59, argEnv, List.length_nil, List.nil_append, List.cons_append, Nat.zero_add]
  have hu := u64_small h1 h2
  have hb := shr_bit m n.toNat (by omega)
  rw [show ((n.toNat : Int)) = n by omega] at hb
  have hneg : ¬ n < 0 := by omega
  repeat' first
    | (with_reducible apply c_seq) | (with_reducible apply c_reg) | (with_reducible apply c_dreg0) | (with_reducible apply c_block) | (with_reducible apply c_ret) | (with_reducible apply c_exit) | (with_reducible apply c_skip)
    | (with_reducible apply ops_nil) | (with_reducible apply d_nil) | (with_reducible apply k_seq_n) | (with_reducible apply k_seq_r) | (with_reducible apply k_seq_x) | (with_reducible apply k_blk_n) | (with_reducible apply k_blk_r) | (with_reducible apply k_blk_x) | (with_reducible apply k_end_n) | (with_reducible apply k_end_r) | (with_reducible apply k_loop_x) | (with_reducible apply k_loop_r)
    | ((with_reducible apply op_guardU); (focus (simp only [W2, reduceIte, Nat.reduceEqDiff, Nat.reduceAdd, Nat.reduceSub, Nat.reduceLeDiff, W1, hu, if_neg hneg, hb]; done)))
    | ((with_reducible apply d_guardU); (focus (simp only [W2, reduceIte, Nat.reduceEqDiff, Nat.reduceAdd, Nat.reduceSub, Nat.reduceLeDiff, W1, hu, if_neg hneg, hb]; done)))
    | ((with_reducible apply op_guardT); (focus (simp only [W2, reduceIte, Nat.reduceEqDiff, Nat.reduceAdd, Nat.reduceSub, Nat.reduceLeDiff, W1, hu, if_neg hneg, hb]; rfl)); all_goals (intro hc; first | exact absurd hc (by decide) | subst hc | clear hc))
    | ((with_reducible apply op_guardF); (focus (simp only [W2, reduceIte, Nat.reduceEqDiff, Nat.reduceAdd, Nat.reduceSub, Nat.reduceLeDiff, W1, hu, if_neg hneg, hb]; rfl)); all_goals (intro hc; first | exact absurd hc (by decide) | subst hc | clear hc))
    | ((with_reducible apply d_guardT); (focus (simp only [W2, reduceIte, Nat.reduceEqDiff, Nat.reduceAdd, Nat.reduceSub, Nat.reduceLeDiff, W1, hu, if_neg hneg, hb]; rfl)); all_goals (intro hc; first | exact absurd hc (by decide) | subst hc | clear hc))
    | ((with_reducible apply d_guardF); (focus (simp only [W2, reduceIte, Nat.reduceEqDiff, Nat.reduceAdd, Nat.reduceSub, Nat.reduceLeDiff, W1, hu, if_neg hneg, hb]; rfl)); all_goals (intro hc; first | exact absurd hc (by decide) | subst hc | clear hc))
    | ((with_reducible apply c_cond); (focus (simp only [W2, reduceIte, Nat.reduceEqDiff, Nat.reduceAdd, Nat.reduceSub, Nat.reduceLeDiff, W1, hu, if_neg hneg, hb]; rfl)); all_goals (intro hc; first | exact absurd hc (by decide) | subst hc | clear hc))
    | ((with_reducible apply op_isB); (focus rfl); (focus (simp only [W2, reduceIte, Nat.reduceEqDiff, Nat.reduceAdd, Nat.reduceSub, Nat.reduceLeDiff, W1, hu, if_neg hneg, hb]; rfl)); intro c' hc')
    | ((with_reducible apply op_step); (focus (simp only [W2, reduceIte, Nat.reduceEqDiff, Nat.reduceAdd, Nat.reduceSub, Nat.reduceLeDiff, W1, hu, if_neg hneg, hb]; rfl)))
    | ((with_reducible apply op_step0); (focus (simp only [W2, reduceIte, Nat.reduceEqDiff, Nat.reduceAdd, Nat.reduceSub, Nat.reduceLeDiff, W1, hu, if_neg hneg, hb]; rfl)))
    | ((with_reducible apply d_isB); (focus rfl); (focus ((with_reducible apply o_v); (focus rfl); (focus (simp only [W2, reduceIte, Nat.reduceEqDiff, Nat.reduceAdd, Nat.reduceSub, Nat.reduceLeDiff, W1, hu, if_neg hneg, hb]; rfl)))); intro c' hc')
    | ((with_reducible apply d_step); (focus ((with_reducible apply o_v); (focus rfl); (focus (simp only [W2, reduceIte, Nat.reduceEqDiff, Nat.reduceAdd, Nat.reduceSub, Nat.reduceLeDiff, W1, hu, if_neg hneg, hb]; rfl)))))
    | ((with_reducible apply d_step); (focus ((with_reducible apply o_l); (focus (simp only [W2, reduceIte, Nat.reduceEqDiff, Nat.reduceAdd, Nat.reduceSub, Nat.reduceLeDiff, W1, hu, if_neg hneg, hb]; rfl)))))
    | ((with_reducible apply d_step); (focus ((with_reducible apply o_l'); (focus (simp only [W2, reduceIte, Nat.reduceEqDiff, Nat.reduceAdd, Nat.reduceSub, Nat.reduceLeDiff, W1, hu, if_neg hneg, hb]; rfl)); (focus (repeat' first | exact all_nil | (with_reducible apply all_cons) | (simp [rowId, sepB, Opd.get, look, Und, UndB, boxP]; done))); (focus (repeat' first | exact all_nil | (with_reducible apply all_cons) | (simp [rowId, sepB, Opd.get, look, Und, UndB, boxP]; done))); (focus (repeat' first | exact all_nil | (with_reducible apply all_cons) | (simp [rowId, sepB, Opd.get, look, Und, UndB, boxP]; done))))))
    | ((with_reducible apply d_step0); (focus ((with_reducible apply o_w'); (focus (simp only [W2, reduceIte, Nat.reduceEqDiff, Nat.reduceAdd, Nat.reduceSub, Nat.reduceLeDiff, W1, hu, if_neg hneg, hb]; rfl)); (focus (repeat' first | exact all_nil | (with_reducible apply all_cons) | (simp [rowId, sepB, Opd.get, look, Und, UndB, boxP]; done))); (focus (repeat' first | exact all_nil | (with_reducible apply all_cons) | (simp [rowId, sepB, Opd.get, look, Und, UndB, boxP]; done))))))
    | ((with_reducible apply d_step); (focus ((with_reducible apply o_a'); (focus rfl); (focus (simp only [W2, reduceIte, Nat.reduceEqDiff, Nat.reduceAdd, Nat.reduceSub, Nat.reduceLeDiff, W1, hu, if_neg hneg, hb]; rfl)); (focus rfl); (focus rfl); (focus (simp only [W2, reduceIte, Nat.reduceEqDiff, Nat.reduceAdd, Nat.reduceSub, Nat.reduceLeDiff, W1, hu, if_neg hneg, hb]; rfl)))))
    | (with_reducible apply c_dreg1) | (with_reducible apply c_dreg2)
  all_goals ((with_reducible apply ret_plain); (focus (simp only [resVs, resV1, look, Option.bind, Option.map, reduceIte, Nat.reduceEqDiff]; rfl)); (focus (simp [resV, idsV, idsL, slA_ids])))
  all_goals exact ⟨[], by simp_all [resV, fr, frV, thawV, IntKind.bits]⟩
theorem f96 (m : Int) : FCall prog 96 [.int .i64 m] (.int .i64 (countN m 7)) := by
  refine fcall mixed t96 (by simp [m96]) (by simp [idsL, idsV]) (f_body ?_)
  simp only [m96, argEnv, List.length_nil, List.nil_append, List.cons_append, Nat.zero_add]
  repeat' first
    | (with_reducible apply c_seq) | (with_reducible apply c_reg) | (with_reducible apply c_dreg0) | (with_reducible apply c_block) | (with_reducible apply c_ret) | (with_reducible apply c_exit) | (with_reducible apply c_skip)
    | (with_reducible apply ops_nil) | (with_reducible apply d_nil) | (with_reducible apply k_seq_n) | (with_reducible apply k_seq_r) | (with_reducible apply k_seq_x) | (with_reducible apply k_blk_n) | (with_reducible apply k_blk_r) | (with_reducible apply k_blk_x) | (with_reducible apply k_end_n) | (with_reducible apply k_end_r) | (with_reducible apply k_loop_x) | (with_reducible apply k_loop_r)
    | ((with_reducible apply op_guardU); (focus (simp only [W2, reduceIte, Nat.reduceEqDiff, Nat.reduceAdd, Nat.reduceSub, Nat.reduceLeDiff, W1]; done)))
    | ((with_reducible apply d_guardU); (focus (simp only [W2, reduceIte, Nat.reduceEqDiff, Nat.reduceAdd, Nat.reduceSub, Nat.reduceLeDiff, W1]; done)))
    | ((with_reducible apply op_guardT); (focus (simp only [W2, reduceIte, Nat.reduceEqDiff, Nat.reduceAdd, Nat.reduceSub, Nat.reduceLeDiff, W1]; rfl)); all_goals (intro hc; first | exact absurd hc (by decide) | subst hc | clear hc))
    | ((with_reducible apply op_guardF); (focus (simp only [W2, reduceIte, Nat.reduceEqDiff, Nat.reduceAdd, Nat.reduceSub, Nat.reduceLeDiff, W1]; rfl)); all_goals (intro hc; first | exact absurd hc (by decide) | subst hc | clear hc))
    | ((with_reducible apply d_guardT); (focus (simp only [W2, reduceIte, Nat.reduceEqDiff, Nat.reduceAdd, Nat.reduceSub, Nat.reduceLeDiff, W1]; rfl)); all_goals (intro hc; first | exact absurd hc (by decide) | subst hc | clear hc))
    | ((with_reducible apply d_guardF); (focus (simp only [W2, reduceIte, Nat.reduceEqDiff, Nat.reduceAdd, Nat.reduceSub, Nat.reduceLeDiff, W1]; rfl)); all_goals (intro hc; first | exact absurd hc (by decide) | subst hc | clear hc))
    | ((with_reducible apply c_cond); (focus (simp only [W2, reduceIte, Nat.reduceEqDiff, Nat.reduceAdd, Nat.reduceSub, Nat.reduceLeDiff, W1]; rfl)); all_goals (intro hc; first | exact absurd hc (by decide) | subst hc | clear hc))
    | ((with_reducible apply op_isB); (focus rfl); (focus (simp only [W2, reduceIte, Nat.reduceEqDiff, Nat.reduceAdd, Nat.reduceSub, Nat.reduceLeDiff, W1]; rfl)); intro c' hc')
    | ((with_reducible apply op_step); (focus (simp only [W2, reduceIte, Nat.reduceEqDiff, Nat.reduceAdd, Nat.reduceSub, Nat.reduceLeDiff, W1]; rfl)))
    | ((with_reducible apply op_step0); (focus (simp only [W2, reduceIte, Nat.reduceEqDiff, Nat.reduceAdd, Nat.reduceSub, Nat.reduceLeDiff, W1]; rfl)))
    | ((with_reducible apply d_isB); (focus rfl); (focus ((with_reducible apply o_v); (focus rfl); (focus (simp only [W2, reduceIte, Nat.reduceEqDiff, Nat.reduceAdd, Nat.reduceSub, Nat.reduceLeDiff, W1]; rfl)))); intro c' hc')
    | ((with_reducible apply d_step); (focus ((with_reducible apply o_v); (focus rfl); (focus (simp only [W2, reduceIte, Nat.reduceEqDiff, Nat.reduceAdd, Nat.reduceSub, Nat.reduceLeDiff, W1]; rfl)))))
    | ((with_reducible apply d_step); (focus ((with_reducible apply o_l); (focus (simp only [W2, reduceIte, Nat.reduceEqDiff, Nat.reduceAdd, Nat.reduceSub, Nat.reduceLeDiff, W1]; rfl)))))
    | ((with_reducible apply d_step); (focus ((with_reducible apply o_l'); (focus (simp only [W2, reduceIte, Nat.reduceEqDiff, Nat.reduceAdd, Nat.reduceSub, Nat.reduceLeDiff, W1]; rfl)); (focus (repeat' first | exact all_nil | (with_reducible apply all_cons) | (simp [rowId, sepB, Opd.get, look, Und, UndB, boxP]; done))); (focus (repeat' first | exact all_nil | (with_reducible apply all_cons) | (simp [rowId, sepB, Opd.get, look, Und, UndB, boxP]; done))); (focus (repeat' first | exact all_nil | (with_reducible apply all_cons) | (simp [rowId, sepB, Opd.get, look, Und, UndB, boxP]; done))))))
    | ((with_reducible apply d_step0); (focus ((with_reducible apply o_w'); (focus (simp only [W2, reduceIte, Nat.reduceEqDiff, Nat.reduceAdd, Nat.reduceSub, Nat.reduceLeDiff, W1]; rfl)); (focus (repeat' first | exact all_nil | (with_reducible apply all_cons) | (simp [rowId, sepB, Opd.get, look, Und, UndB, boxP]; done))); (focus (repeat' first | exact all_nil | (with_reducible apply all_cons) | (simp [rowId, sepB, Opd.get, look, Und, UndB, boxP]; done))))))
    | ((with_reducible apply d_step); (focus ((with_reducible apply o_a'); (focus rfl); (focus (simp only [W2, reduceIte, Nat.reduceEqDiff, Nat.reduceAdd, Nat.reduceSub, Nat.reduceLeDiff, W1]; rfl)); (focus rfl); (focus rfl); (focus (simp only [W2, reduceIte, Nat.reduceEqDiff, Nat.reduceAdd, Nat.reduceSub, Nat.reduceLeDiff, W1]; rfl)))))
    | (with_reducible apply c_dreg1) | (with_reducible apply c_dreg2)
  refine c_loop [0, 3, 4] (fun n env rows => ∃ k : Nat, k ≤ 7 ∧ n = 7 - k ∧ env = [(0, .int .i64 m), (3, .int .i64 (countN m k)), (4, .int .i64 (k : Int))] ∧ rows = []) 7
    (back_keep (by simp) (by simp [look, idsL, idsV]) (by simp [idsR, idsL, idsV]) ⟨0, by omega, by omega, rfl, rfl⟩) ?_
  rintro n env rows ⟨k, hk, rfl, rfl, rfl⟩
  rcases Nat.lt_or_ge k 7 with hk' | hk'
  · have hw := wrap_count m k hk'
    have hs := wrap_succ hk' (by decide)
    repeat' first
      | (with_reducible apply c_seq) | (with_reducible apply c_reg) | (with_reducible apply c_dreg0) | (with_reducible apply c_block) | (with_reducible apply c_ret) | (with_reducible apply c_exit) | (with_reducible apply c_skip)
      | (with_reducible apply ops_nil) | (with_reducible apply d_nil) | (with_reducible apply k_seq_n) | (with_reducible apply k_seq_r) | (with_reducible apply k_seq_x) | (with_reducible apply k_blk_n) | (with_reducible apply k_blk_r) | (with_reducible apply k_blk_x) | (with_reducible apply k_end_n) | (with_reducible apply k_end_r) | (with_reducible apply k_loop_x) | (with_reducible apply k_loop_r)
      | ((with_reducible apply op_guardU); (focus (simp only [W2, reduceIte, Nat.reduceEqDiff, Nat.reduceAdd, Nat.reduceSub, Nat.reduceLeDiff, W1]; done)))
      | ((with_reducible apply d_guardU); (focus (simp only [W2, reduceIte, Nat.reduceEqDiff, Nat.reduceAdd, Nat.reduceSub, Nat.reduceLeDiff, W1]; done)))
      | ((with_reducible apply op_guardT); (focus (simp only [W2, reduceIte, Nat.reduceEqDiff, Nat.reduceAdd, Nat.reduceSub, Nat.reduceLeDiff, W1]; rfl)); all_goals (intro hc; first | exact absurd hc (by decide) | subst hc | clear hc))
      | ((with_reducible apply op_guardF); (focus (simp only [W2, reduceIte, Nat.reduceEqDiff, Nat.reduceAdd, Nat.reduceSub, Nat.reduceLeDiff, W1]; rfl)); all_goals (intro hc; first | exact absurd hc (by decide) | subst hc | clear hc))
      | ((with_reducible apply d_guardT); (focus (simp only [W2, reduceIte, Nat.reduceEqDiff, Nat.reduceAdd, Nat.reduceSub, Nat.reduceLeDiff, W1]; rfl)); all_goals (intro hc; first | exact absurd hc (by decide) | subst hc | clear hc))
      | ((with_reducible apply d_guardF); (focus (simp only [W2, reduceIte, Nat.reduceEqDiff, Nat.reduceAdd, Nat.reduceSub, Nat.reduceLeDiff, W1]; rfl)); all_goals (intro hc; first | exact absurd hc (by decide) | subst hc | clear hc))
      | ((with_reducible apply c_cond); (focus (simp only [W2, reduceIte, Nat.reduceEqDiff, Nat.reduceAdd, Nat.reduceSub, Nat.reduceLeDiff, W1]; rfl)); all_goals (intro hc; first | exact absurd hc (by decide) | subst hc | clear hc))
      | ((with_reducible apply op_fcallb (f := 59)); (focus ((try simp only [W2, reduceIte, Nat.reduceEqDiff, Nat.reduceAdd, Nat.reduceSub, Nat.reduceLeDiff, W1]); exact f59 m (k : Int) (by omega) (by omega))); intro c' hc')
      | ((with_reducible apply d_bool); (focus ((with_reducible apply o_c (f := 59)); (focus ((try simp only [W2, reduceIte, Nat.reduceEqDiff, Nat.reduceAdd, Nat.reduceSub, Nat.reduceLeDiff, W1]); exact f59 m (k : Int) (by omega) (by omega))); (focus (first | (with_reducible exact Nat.le_refl _) | (simp; done))))); intro c' hc')
      | ((with_reducible apply op_isB); (focus rfl); (focus (simp only [W2, reduceIte, Nat.reduceEqDiff, Nat.reduceAdd, Nat.reduceSub, Nat.reduceLeDiff, W1]; rfl)); intro c' hc')
      | ((with_reducible apply op_step); (focus (simp only [W2, reduceIte, Nat.reduceEqDiff, Nat.reduceAdd, Nat.reduceSub, Nat.reduceLeDiff, W1]; rfl)))
      | ((with_reducible apply op_step0); (focus (simp only [W2, reduceIte, Nat.reduceEqDiff, Nat.reduceAdd, Nat.reduceSub, Nat.reduceLeDiff, W1]; rfl)))
      | ((with_reducible apply d_isB); (focus rfl); (focus ((with_reducible apply o_v); (focus rfl); (focus (simp only [W2, reduceIte, Nat.reduceEqDiff, Nat.reduceAdd, Nat.reduceSub, Nat.reduceLeDiff, W1]; rfl)))); intro c' hc')
      | ((with_reducible apply d_step); (focus ((with_reducible apply o_v); (focus rfl); (focus (simp only [W2, reduceIte, Nat.reduceEqDiff, Nat.reduceAdd, Nat.reduceSub, Nat.reduceLeDiff, W1]; rfl)))))
      | ((with_reducible apply d_step); (focus ((with_reducible apply o_l); (focus (simp only [W2, reduceIte, Nat.reduceEqDiff, Nat.reduceAdd, Nat.reduceSub, Nat.reduceLeDiff, W1]; rfl)))))
      | ((with_reducible apply d_step); (focus ((with_reducible apply o_l'); (focus (simp only [W2, reduceIte, Nat.reduceEqDiff, Nat.reduceAdd, Nat.reduceSub, Nat.reduceLeDiff, W1]; rfl)); (focus (repeat' first | exact all_nil | (with_reducible apply all_cons) | (simp [rowId, sepB, Opd.get, look, Und, UndB, boxP]; done))); (focus (repeat' first | exact all_nil | (with_reducible apply all_cons) | (simp [rowId, sepB, Opd.get, look, Und, UndB, boxP]; done))); (focus (repeat' first | exact all_nil | (with_reducible apply all_cons) | (simp [rowId, sepB, Opd.get, look, Und, UndB, boxP]; done))))))
      | ((with_reducible apply d_step0); (focus ((with_reducible apply o_w'); (focus (simp only [W2, reduceIte, Nat.reduceEqDiff, Nat.reduceAdd, Nat.reduceSub, Nat.reduceLeDiff, W1]; rfl)); (focus (repeat' first | exact all_nil | (with_reducible apply all_cons) | (simp [rowId, sepB, Opd.get, look, Und, UndB, boxP]; done))); (focus (repeat' first | exact all_nil | (with_reducible apply all_cons) | (simp [rowId, sepB, Opd.get, look, Und, UndB, boxP]; done))))))
      | ((with_reducible apply d_step); (focus ((with_reducible apply o_a'); (focus rfl); (focus (simp only [W2, reduceIte, Nat.reduceEqDiff, Nat.reduceAdd, Nat.reduceSub, Nat.reduceLeDiff, W1]; rfl)); (focus rfl); (focus rfl); (focus (simp only [W2, reduceIte, Nat.reduceEqDiff, Nat.reduceAdd, Nat.reduceSub, Nat.reduceLeDiff, W1]; rfl)))))
      | (with_reducible apply c_dreg1) | (with_reducible apply c_dreg2)
    any_goals (exfalso; simp only [decide_eq_true_eq, decide_eq_false_iff_not] at *; omega)
    · have h1 : bitN m k = 1 := by simpa using hc'
      rw [h1] at hw
      refine k_loop_n (7 - (k + 1)) (by omega) (back_keep (by simp) (by simp [look, idsL, idsV]) (by simp [idsR, idsL, idsV]) ⟨k + 1, by omega, rfl, ?_, rfl⟩)
      simp only [look, List.map, Nat.reduceEqDiff, reduceIte, hw, hs]
    · have h0 : bitN m k = 0 := by
        have : bitN m k ≠ 1 := by simpa using hc'
        rcases bitN_two m k with h | h
        · exact h
        · exact absurd h this
      refine k_loop_n (7 - (k + 1)) (by omega) (back_keep (by simp) (by simp [look, idsL, idsV]) (by simp [idsR, idsL, idsV]) ⟨k + 1, by omega, rfl, ?_, rfl⟩)
      have hcc : countN m (k + 1) = countN m k := by simp [countN, h0]
      simp only [look, List.map, Nat.reduceEqDiff, reduceIte, hcc, hs]
  · obtain rfl : k = 7 := by omega
    repeat' first
      | (with_reducible apply c_seq) | (with_reducible apply c_reg) | (with_reducible apply c_dreg0) | (with_reducible apply c_block) | (with_reducible apply c_ret) | (with_reducible apply c_exit) | (with_reducible apply c_skip)
      | (with_reducible apply ops_nil) | (with_reducible apply d_nil) | (with_reducible apply k_seq_n) | (with_reducible apply k_seq_r) | (with_reducible apply k_seq_x) | (with_reducible apply k_blk_n) | (with_reducible apply k_blk_r) | (with_reducible apply k_blk_x) | (with_reducible apply k_end_n) | (with_reducible apply k_end_r) | (with_reducible apply k_loop_x) | (with_reducible apply k_loop_r)
      | ((with_reducible apply op_guardU); (focus (simp only [W2, reduceIte, Nat.reduceEqDiff, Nat.reduceAdd, Nat.reduceSub, Nat.reduceLeDiff, W1]; done)))
      | ((with_reducible apply d_guardU); (focus (simp only [W2, reduceIte, Nat.reduceEqDiff, Nat.reduceAdd, Nat.reduceSub, Nat.reduceLeDiff, W1]; done)))
      | ((with_reducible apply op_guardT); (focus (simp only [W2, reduceIte, Nat.reduceEqDiff, Nat.reduceAdd, Nat.reduceSub, Nat.reduceLeDiff, W1]; rfl)); all_goals (intro hc; first | exact absurd hc (by decide) | subst hc | clear hc))
      | ((with_reducible apply op_guardF); (focus (simp only [W2, reduceIte, Nat.reduceEqDiff, Nat.reduceAdd, Nat.reduceSub, Nat.reduceLeDiff, W1]; rfl)); all_goals (intro hc; first | exact absurd hc (by decide) | subst hc | clear hc))
      | ((with_reducible apply d_guardT); (focus (simp only [W2, reduceIte, Nat.reduceEqDiff, Nat.reduceAdd, Nat.reduceSub, Nat.reduceLeDiff, W1]; rfl)); all_goals (intro hc; first | exact absurd hc (by decide) | subst hc | clear hc))
      | ((with_reducible apply d_guardF); (focus (simp only [W2, reduceIte, Nat.reduceEqDiff, Nat.reduceAdd, Nat.reduceSub, Nat.reduceLeDiff, W1]; rfl)); all_goals (intro hc; first | exact absurd hc (by decide) | subst hc | clear hc))
      | ((with_reducible apply c_cond); (focus (simp only [W2, reduceIte, Nat.reduceEqDiff, Nat.reduceAdd, Nat.reduceSub, Nat.reduceLeDiff, W1]; rfl)); all_goals (intro hc; first | exact absurd hc (by decide) | subst hc | clear hc))
      | ((with_reducible apply op_fcallb (f := 59)); (focus ((try simp only [W2, reduceIte, Nat.reduceEqDiff, Nat.reduceAdd, Nat.reduceSub, Nat.reduceLeDiff, W1]); exact f59 m 7 (by omega) (by omega))); intro c' hc')
      | ((with_reducible apply d_bool); (focus ((with_reducible apply o_c (f := 59)); (focus ((try simp only [W2, reduceIte, Nat.reduceEqDiff, Nat.reduceAdd, Nat.reduceSub, Nat.reduceLeDiff, W1]); exact f59 m 7 (by omega) (by omega))); (focus (first | (with_reducible exact Nat.le_refl _) | (simp; done))))); intro c' hc')
      | ((with_reducible apply op_isB); (focus rfl); (focus (simp only [W2, reduceIte, Nat.reduceEqDiff, Nat.reduceAdd, Nat.reduceSub, Nat.reduceLeDiff, W1]; rfl)); intro c' hc')
      | ((with_reducible apply op_step); (focus (simp only [W2, reduceIte, Nat.reduceEqDiff, Nat.reduceAdd, Nat.reduceSub, Nat.reduceLeDiff, W1]; rfl)))
      | ((with_reducible apply op_step0); (focus (simp only [W2, reduceIte, Nat.reduceEqDiff, Nat.reduceAdd, Nat.reduceSub, Nat.reduceLeDiff, W1]; rfl)))
      | ((with_reducible apply d_isB); (focus rfl); (focus ((with_reducible apply o_v); (focus rfl); (focus (simp only [W2, reduceIte, Nat.reduceEqDiff, Nat.reduceAdd, Nat.reduceSub, Nat.reduceLeDiff, W1]; rfl)))); intro c' hc')
      | ((with_reducible apply d_step); (focus ((with_reducible apply o_v); (focus rfl); (focus (simp only [W2, reduceIte, Nat.reduceEqDiff, Nat.reduceAdd, Nat.reduceSub, Nat.reduceLeDiff, W1]; rfl)))))
      | ((with_reducible apply d_step); (focus ((with_reducible apply o_l); (focus (simp only [W2, reduceIte, Nat.reduceEqDiff, Nat.reduceAdd, Nat.reduceSub, Nat.reduceLeDiff, W1]; rfl)))))
      | ((with_reducible apply d_step); (focus ((with_reducible apply o_l'); (focus (simp only [W2, reduceIte, Nat.reduceEqDiff, Nat.reduceAdd, Nat.reduceSub, Nat.reduceLeDiff, W1]; rfl)); (focus (repeat' first | exact all_nil | (with_reducible apply all_cons) | (simp [rowId, sepB, Opd.get, look, Und, UndB, boxP]; done))); (focus (repeat' first | exact all_nil | (with_reducible apply all_cons) | (simp [rowId, sepB, Opd.get, look, Und, UndB, boxP]; done))); (focus (repeat' first | exact all_nil | (with_reducible apply all_cons) | (simp [rowId, sepB, Opd.get, look, Und, UndB, boxP]; done))))))
      | ((with_reducible apply d_step0); (focus ((with_reducible apply o_w'); (focus (simp only [W2, reduceIte, Nat.reduceEqDiff, Nat.reduceAdd, Nat.reduceSub, Nat.reduceLeDiff, W1]; rfl)); (focus (repeat' first | exact all_nil | (with_reducible apply all_cons) | (simp [rowId, sepB, Opd.get, look, Und, UndB, boxP]; done))); (focus (repeat' first | exact all_nil | (with_reducible apply all_cons) | (simp [rowId, sepB, Opd.get, look, Und, UndB, boxP]; done))))))
      | ((with_reducible apply d_step); (focus ((with_reducible apply o_a'); (focus rfl); (focus (simp only [W2, reduceIte, Nat.reduceEqDiff, Nat.reduceAdd, Nat.reduceSub, Nat.reduceLeDiff, W1]; rfl)); (focus rfl); (focus rfl); (focus (simp only [W2, reduceIte, Nat.reduceEqDiff, Nat.reduceAdd, Nat.reduceSub, Nat.reduceLeDiff, W1]; rfl)))))
      | (with_reducible apply c_dreg1) | (with_reducible apply c_dreg2)
    any_goals (exfalso; simp only [decide_eq_true_eq, decide_eq_false_iff_not] at *; omega)
    all_goals ((with_reducible apply ret_plain); (focus (simp only [resVs, resV1, look, Option.bind, Option.map, reduceIte, Nat.reduceEqDiff]; rfl)); (focus (simp [resV, idsV, idsL, slA_ids])))
    all_goals exact ⟨[], by simp [resV, fr, frV, thawV]⟩
theorem wrap_small {n : Int} (h : 0 ≤ n) (h2 : n ≤ 100) : IntKind.i64.wrap n = n := by simp [IntKind.wrap, IntKind.signed, IntKind.bits]; omega
theorem f64 (c : V23) (b : Int) : FCall prog 64 [.agg c.l, .int .i64 b] (.bool (quorumF (votersF c) b)) := by
  have h1 := countN_le (Go.bits .and .i64 (Go.bits .and .i64 (votersF c) 127) b) 7
  have hw : IntKind.i64.wrap (2 * countN (Go.bits .and .i64 (Go.bits .and .i64 (votersF c) 127) b) 7) = 2 * countN (Go.bits .and .i64 (Go.bits .and .i64 (votersF c) 127) b) 7 := wrap_small (by omega) (by omega)
  have hq := quorum_ref (votersF c) b
  refine fcall mixed t64 (by simp [m64]) (by simp [idsL, idsV, V23.ids]) (f_body ?_)
  simp only [m64, argEnv, List.length_nil, List.nil_append, List.cons_append, Nat.zero_add, V23.l]
  repeat' first
    | (with_reducible apply c_seq) | (with_reducible apply c_reg) | (with_reducible apply c_dreg0) | (with_reducible apply c_block) | (with_reducible apply c_ret) | (with_reducible apply c_exit) | (with_reducible apply c_skip)
    | (with_reducible apply ops_nil) | (with_reducible apply d_nil) | (with_reducible apply k_seq_n) | (with_reducible apply k_seq_r) | (with_reducible apply k_seq_x) | (with_reducible apply k_blk_n) | (with_reducible apply k_blk_r) | (with_reducible apply k_blk_x) | (with_reducible apply k_end_n) | (with_reducible apply k_end_r) | (with_reducible apply k_loop_x) | (with_reducible apply k_loop_r)
    | ((with_reducible apply op_guardU); (focus (simp only [W2, reduceIte, Nat.reduceEqDiff, Nat.reduceAdd, Nat.reduceSub, Nat.reduceLeDiff, W1, hw, hq]; done)))
    | ((with_reducible apply d_guardU); (focus (simp only [W2, reduceIte, Nat.reduceEqDiff, Nat.reduceAdd, Nat.reduceSub, Nat.reduceLeDiff, W1, hw, hq]; done)))
    | ((with_reducible apply op_guardT); (focus (simp only [W2, reduceIte, Nat.reduceEqDiff, Nat.reduceAdd, Nat.reduceSub, Nat.reduceLeDiff, W1, hw, hq]; rfl)); all_goals (intro hc; first | exact absurd hc (by decide) | subst hc | clear hc))
    | ((with_reducible apply op_guardF); (focus (simp only [W2, reduceIte, Nat.reduceEqDiff, Nat.reduceAdd, Nat.reduceSub, Nat.reduceLeDiff, W1, hw, hq]; rfl)); all_goals (intro hc; first | exact absurd hc (by decide) | subst hc | clear hc))
    | ((with_reducible apply d_guardT); (focus (simp only [W2, reduceIte, Nat.reduceEqDiff, Nat.reduceAdd, Nat.reduceSub, Nat.reduceLeDiff, W1, hw, hq]; rfl)); all_goals (intro hc; first | exact absurd hc (by decide) | subst hc | clear hc))
    | ((with_reducible apply d_guardF); (focus (simp only [W2, reduceIte, Nat.reduceEqDiff, Nat.reduceAdd, Nat.reduceSub, Nat.reduceLeDiff, W1, hw, hq]; rfl)); all_goals (intro hc; first | exact absurd hc (by decide) | subst hc | clear hc))
    | ((with_reducible apply c_cond); (focus (simp only [W2, reduceIte, Nat.reduceEqDiff, Nat.reduceAdd, Nat.reduceSub, Nat.reduceLeDiff, W1, hw, hq]; rfl)); all_goals (intro hc; first | exact absurd hc (by decide) | subst hc | clear hc))
    | ((with_reducible apply op_fcall (f := 60)); (focus ((try simp only [W2, reduceIte, Nat.reduceEqDiff, Nat.reduceAdd, Nat.reduceSub, Nat.reduceLeDiff, W1, hw, hq]); exact f60 c)))
    | ((with_reducible apply d_step); (focus ((with_reducible apply o_c (f := 60)); (focus ((try simp only [W2, reduceIte, Nat.reduceEqDiff, Nat.reduceAdd, Nat.reduceSub, Nat.reduceLeDiff, W1, hw, hq]); exact f60 c)); (focus (first | (with_reducible exact Nat.le_refl _) | (simp; done))))))
    | ((with_reducible apply op_fcall (f := 96)); (focus ((try simp only [W2, reduceIte, Nat.reduceEqDiff, Nat.reduceAdd, Nat.reduceSub, Nat.reduceLeDiff, W1, hw, hq]); exact f96 _)))
    | ((with_reducible apply d_step); (focus ((with_reducible apply o_c (f := 96)); (focus ((try simp only [W2, reduceIte, Nat.reduceEqDiff, Nat.reduceAdd, Nat.reduceSub, Nat.reduceLeDiff, W1, hw, hq]); exact f96 _)); (focus (first | (with_reducible exact Nat.le_refl _) | (simp; done))))))
    | ((with_reducible apply op_isB); (focus rfl); (focus (simp only [W2, reduceIte, Nat.reduceEqDiff, Nat.reduceAdd, Nat.reduceSub, Nat.reduceLeDiff, W1, hw, hq]; rfl)); intro c' hc')
    | ((with_reducible apply op_step); (focus (simp only [W2, reduceIte, Nat.reduceEqDiff, Nat.reduceAdd, Nat.reduceSub, Nat.reduceLeDiff, W1, hw, hq]; rfl)))
    | ((with_reducible apply op_step0); (focus (simp only [W2, reduceIte, Nat.reduceEqDiff, Nat.reduceAdd, Nat.reduceSub, Nat.reduceLeDiff, W1, hw, hq]; rfl)))
    | ((with_reducible apply d_isB); (focus rfl); (focus ((with_reducible apply o_v); (focus rfl); (focus (simp only [W2, reduceIte, Nat.reduceEqDiff, Nat.reduceAdd, Nat.reduceSub, Nat.reduceLeDiff, W1, hw, hq]; rfl)))); intro c' hc')
    | ((with_reducible apply d_step); (focus ((with_reducible apply o_v); (focus rfl); (focus (simp only [W2, reduceIte, Nat.reduceEqDiff, Nat.reduceAdd, Nat.reduceSub, Nat.reduceLeDiff, W1, hw, hq]; rfl)))))
    | ((with_reducible apply d_step); (focus ((with_reducible apply o_l); (focus (simp only [W2, reduceIte, Nat.reduceEqDiff, Nat.reduceAdd, Nat.reduceSub, Nat.reduceLeDiff, W1, hw, hq]; rfl)))))
    | ((with_reducible apply d_step); (focus ((with_reducible apply o_l'); (focus (simp only [W2, reduceIte, Nat.reduceEqDiff, Nat.reduceAdd, Nat.reduceSub, Nat.reduceLeDiff, W1, hw, hq]; rfl)); (focus (repeat' first | exact all_nil | (with_reducible apply all_cons) | (simp [rowId, sepB, Opd.get, look, Und, UndB, boxP]; done))); (focus (repeat' first | exact all_nil | (with_reducible apply all_cons) | (simp [rowId, sepB, Opd.get, look, Und, UndB, boxP]; done))); (focus (repeat' first | exact all_nil | (with_reducible apply all_cons) | (simp [rowId, sepB, Opd.get, look, Und, UndB, boxP]; done))))))
    | ((with_reducible apply d_step0); (focus ((with_reducible apply o_w'); (focus (simp only [W2, reduceIte, Nat.reduceEqDiff, Nat.reduceAdd, Nat.reduceSub, Nat.reduceLeDiff, W1, hw, hq]; rfl)); (focus (repeat' first | exact all_nil | (with_reducible apply all_cons) | (simp [rowId, sepB, Opd.get, look, Und, UndB, boxP]; done))); (focus (repeat' first | exact all_nil | (with_reducible apply all_cons) | (simp [rowId, sepB, Opd.get, look, Und, UndB, boxP]; done))))))
    | ((with_reducible apply d_step); (focus ((with_reducible apply o_a'); (focus rfl); (focus (simp only [W2, reduceIte, Nat.reduceEqDiff, Nat.reduceAdd, Nat.reduceSub, Nat.reduceLeDiff, W1, hw, hq]; rfl)); (focus rfl); (focus rfl); (focus (simp only [W2, reduceIte, Nat.reduceEqDiff, Nat.reduceAdd, Nat.reduceSub, Nat.reduceLeDiff, W1, hw, hq]; rfl)))))
    | (with_reducible apply c_dreg1) | (with_reducible apply c_dreg2)
  all_goals ((with_reducible apply ret_plain); (focus (simp only [resVs, resV1, look, Option.bind, Option.map, reduceIte, Nat.reduceEqDiff]; rfl)); (focus (simp [resV, idsV, idsL, slA_ids])))
  all_goals exact ⟨[], by simp_all [resV, fr, frV, frT, thawV, quorumF]⟩
end Go.Sk
