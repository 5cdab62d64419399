/- Entries put into a log: all cases. Conditions: none. -/
import Derived.Test.YtnbmngpdbnkhaaaC8Spec11
set_option linter.unusedVariables false
set_option linter.unusedSimpArgs false
set_option maxRecDepth 20000
set_option maxHeartbeats 8000000
namespace Go.Sk
open Go.Proofs.Try
def setLog (v : V27) (o : Option (List (List AV))) : V27 := ⟨v.f0, v.f1, v.f2, v.f3, v.f4, v.f5, o⟩
def zero27 : V27 := ⟨0, 0, 0, 0, ⟨0, 0, 0, 0⟩, none, none⟩
/-- May entries be put behind an index? -/
def putOK (v : V27) (i : Int) (l : List (List AV)) : Bool := decide (v.f2 ≤ i) && decide (i ≤ lastI (slL v.f6) v.f2) && rowF v.f0 (mx1 (termF v i)) l
theorem put_yes (v : V27) (hv : v.ok) (hl5 : (slL v.f5).length ≤ 1000000) (hl6 : (slL v.f6).length ≤ 1000000) (i : Int) (o : Option (List (List AV))) (ho : ∀ us ∈ slL o, HasT prog 66 us) (hlo : (slL o).length ≤ 1000000) (hs : seen v i) (hh : hardF v = true) (hp : putOK v i (slL o) = true) :
    FCall prog 73 [.agg v.l, .int .i64 i, slA 66 o] (.tup [.agg (setLog v (putO v.f6 (i - v.f2).toNat (slL o))).l, .int .i64 0]) := by
  simp only [putOK, Bool.and_eq_true, decide_eq_true_eq] at hp
  obtain ⟨⟨h1, h2⟩, h3⟩ := hp
  have ha : i - v.f2 = (((i - v.f2).toNat : Nat) : Int) := by omega
  have hae : (i - v.f2).toNat ≤ (slL v.f6).length := by
    have w := (seen_wrap hs).2.2
    have h2' := h2
    unfold lastI at h2'
    split at h2'
    · omega
    · rw [w] at h2'; omega
  obtain ⟨f0, f1, f2, f3, f4, f5, f6⟩ := v
  simp only at h1 h2 ha hae
  generalize (i - f2).toNat = a at ha hae ⊢
  cases f6 with
  | none =>
    have ha0 : a = 0 := by simpa [slL] using hae
    subst ha0
    cases f5 with
    | none => exact putnn f0 f1 f2 f3 f4 hv i o ho hlo hs hh h1 h2 h3 ha
    | some b5 => exact putsn f0 f1 f2 f3 f4 b5 (Nat.le_trans hl5 (by decide)) hv i o ho hlo hs hh h1 h2 h3 ha
  | some es =>
    cases f5 with
    | none => exact putns f0 f1 f2 f3 f4 es hl6 hv i o ho hlo hs hh h1 h2 h3 a ha hae
    | some b5 => exact putss f0 f1 f2 f3 f4 b5 (Nat.le_trans hl5 (by decide)) es hl6 hv i o ho hlo hs hh h1 h2 h3 a ha hae
theorem put_no (v : V27) (hv : v.ok) (i : Int) (o : Option (List (List AV))) (ho : ∀ us ∈ slL o, HasT prog 66 us) (hlo : (slL o).length ≤ 1000000) (hs : seen v i) (hh : hardF v = true) (hp : putOK v i (slL o) = false) : FCall prog 73 [.agg v.l, .int .i64 i, slA 66 o] (.tup [.agg zero27.l, .int .i64 1]) := by
  have hlm : (slL o).length ≤ maxLen := Nat.le_trans hlo (by decide)
  have h71 := f71 v hv
  rw [hh] at h71
  simp only [reduceIte] at h71
  refine fcall mixed t73 (by simp [m73]) (by simp [idsL, idsV, V27.ids, slA_ids]) (f_body ?_)
  simp only [m73, argEnv, List.length_nil, List.nil_append, List.cons_append, Nat.zero_add, V27.l, V23.l, zero27, slA_none]
  repeat' first
    | (with_reducible apply c_seq) | (with_reducible apply c_reg) | (with_reducible apply c_dreg0) | (with_reducible apply c_block) | (with_reducible apply c_ret) | (with_reducible apply c_exit) | (with_reducible apply c_skip)
    | (with_reducible apply ops_nil) | (with_reducible apply d_nil) | (with_reducible apply k_seq_n) | (with_reducible apply k_seq_r) | (with_reducible apply k_seq_x) | (with_reducible apply k_blk_n) | (with_reducible apply k_blk_r) | (with_reducible apply k_blk_x) | (with_reducible apply k_end_n) | (with_reducible apply k_end_r) | (with_reducible apply k_loop_x) | (with_reducible apply k_loop_r)
    | ((with_reducible apply op_guardU); (focus (simp only [W2, reduceIte, Nat.reduceEqDiff, Nat.reduceAdd, Nat.reduceSub, Nat.reduceLeDiff, W1, beq_self_eq_true, bne_self_eq_false, BEq.rfl]; done)))
    | ((with_reducible apply d_guardU); (focus (simp only [W2, reduceIte, Nat.reduceEqDiff, Nat.reduceAdd, Nat.reduceSub, Nat.reduceLeDiff, W1, beq_self_eq_true, bne_self_eq_false, BEq.rfl]; done)))
    | ((with_reducible apply op_guardT); (focus (simp only [W2, reduceIte, Nat.reduceEqDiff, Nat.reduceAdd, Nat.reduceSub, Nat.reduceLeDiff, W1, beq_self_eq_true, bne_self_eq_false, BEq.rfl]; rfl)); all_goals (intro hc; first | exact absurd hc (by decide) | subst hc | clear hc))
    | ((with_reducible apply op_guardF); (focus (simp only [W2, reduceIte, Nat.reduceEqDiff, Nat.reduceAdd, Nat.reduceSub, Nat.reduceLeDiff, W1, beq_self_eq_true, bne_self_eq_false, BEq.rfl]; rfl)); all_goals (intro hc; first | exact absurd hc (by decide) | subst hc | clear hc))
    | ((with_reducible apply d_guardT); (focus (simp only [W2, reduceIte, Nat.reduceEqDiff, Nat.reduceAdd, Nat.reduceSub, Nat.reduceLeDiff, W1, beq_self_eq_true, bne_self_eq_false, BEq.rfl]; rfl)); all_goals (intro hc; first | exact absurd hc (by decide) | subst hc | clear hc))
    | ((with_reducible apply d_guardF); (focus (simp only [W2, reduceIte, Nat.reduceEqDiff, Nat.reduceAdd, Nat.reduceSub, Nat.reduceLeDiff, W1, beq_self_eq_true, bne_self_eq_false, BEq.rfl]; rfl)); all_goals (intro hc; first | exact absurd hc (by decide) | subst hc | clear hc))
    | ((with_reducible apply c_cond); (focus (simp only [W2, reduceIte, Nat.reduceEqDiff, Nat.reduceAdd, Nat.reduceSub, Nat.reduceLeDiff, W1, beq_self_eq_true, bne_self_eq_false, BEq.rfl]; rfl)); all_goals (intro hc; first | exact absurd hc (by decide) | subst hc | clear hc))
    | ((with_reducible apply op_fcall (f := 71)); (focus ((try simp only [W2, reduceIte, Nat.reduceEqDiff, Nat.reduceAdd, Nat.reduceSub, Nat.reduceLeDiff, W1, beq_self_eq_true, bne_self_eq_false, BEq.rfl]); exact h71)))
    | ((with_reducible apply d_step); (focus ((with_reducible apply o_c (f := 71)); (focus ((try simp only [W2, reduceIte, Nat.reduceEqDiff, Nat.reduceAdd, Nat.reduceSub, Nat.reduceLeDiff, W1, beq_self_eq_true, bne_self_eq_false, BEq.rfl]); exact h71)); (focus (first | (with_reducible exact Nat.le_refl _) | (simp; done))))))
    | ((with_reducible apply op_fcall (f := 53)); (focus ((try simp only [W2, reduceIte, Nat.reduceEqDiff, Nat.reduceAdd, Nat.reduceSub, Nat.reduceLeDiff, W1, beq_self_eq_true, bne_self_eq_false, BEq.rfl]); exact f53 v hv)))
    | ((with_reducible apply d_step); (focus ((with_reducible apply o_c (f := 53)); (focus ((try simp only [W2, reduceIte, Nat.reduceEqDiff, Nat.reduceAdd, Nat.reduceSub, Nat.reduceLeDiff, W1, beq_self_eq_true, bne_self_eq_false, BEq.rfl]); exact f53 v hv)); (focus (first | (with_reducible exact Nat.le_refl _) | (simp; done))))))
    | ((with_reducible apply op_fcall (f := 99)); (focus ((try simp only [W2, reduceIte, Nat.reduceEqDiff, Nat.reduceAdd, Nat.reduceSub, Nat.reduceLeDiff, W1, beq_self_eq_true, bne_self_eq_false, BEq.rfl]); exact f99 v hv i hs)))
    | ((with_reducible apply d_step); (focus ((with_reducible apply o_c (f := 99)); (focus ((try simp only [W2, reduceIte, Nat.reduceEqDiff, Nat.reduceAdd, Nat.reduceSub, Nat.reduceLeDiff, W1, beq_self_eq_true, bne_self_eq_false, BEq.rfl]); exact f99 v hv i hs)); (focus (first | (with_reducible exact Nat.le_refl _) | (simp; done))))))
    | ((with_reducible apply op_fcallb (f := 98)); (focus ((try simp only [W2, reduceIte, Nat.reduceEqDiff, Nat.reduceAdd, Nat.reduceSub, Nat.reduceLeDiff, W1, beq_self_eq_true, bne_self_eq_false, BEq.rfl]); exact f98 o ho hlm _ _)); intro c' hc')
    | ((with_reducible apply d_bool); (focus ((with_reducible apply o_c (f := 98)); (focus ((try simp only [W2, reduceIte, Nat.reduceEqDiff, Nat.reduceAdd, Nat.reduceSub, Nat.reduceLeDiff, W1, beq_self_eq_true, bne_self_eq_false, BEq.rfl]); exact f98 o ho hlm _ _)); (focus (first | (with_reducible exact Nat.le_refl _) | (simp; done))))); intro c' hc')
    | ((with_reducible apply op_isB); (focus rfl); (focus (simp only [W2, reduceIte, Nat.reduceEqDiff, Nat.reduceAdd, Nat.reduceSub, Nat.reduceLeDiff, W1, beq_self_eq_true, bne_self_eq_false, BEq.rfl]; rfl)); intro c' hc')
    | ((with_reducible apply op_step); (focus (simp only [W2, reduceIte, Nat.reduceEqDiff, Nat.reduceAdd, Nat.reduceSub, Nat.reduceLeDiff, W1, beq_self_eq_true, bne_self_eq_false, BEq.rfl]; rfl)))
    | ((with_reducible apply op_step0); (focus (simp only [W2, reduceIte, Nat.reduceEqDiff, Nat.reduceAdd, Nat.reduceSub, Nat.reduceLeDiff, W1, beq_self_eq_true, bne_self_eq_false, BEq.rfl]; rfl)))
    | ((with_reducible apply d_isB); (focus rfl); (focus ((with_reducible apply o_v); (focus rfl); (focus (simp only [W2, reduceIte, Nat.reduceEqDiff, Nat.reduceAdd, Nat.reduceSub, Nat.reduceLeDiff, W1, beq_self_eq_true, bne_self_eq_false, BEq.rfl]; rfl)))); intro c' hc')
    | ((with_reducible apply d_step); (focus ((with_reducible apply o_v); (focus rfl); (focus (simp only [W2, reduceIte, Nat.reduceEqDiff, Nat.reduceAdd, Nat.reduceSub, Nat.reduceLeDiff, W1, beq_self_eq_true, bne_self_eq_false, BEq.rfl]; rfl)))))
    | ((with_reducible apply d_step); (focus ((with_reducible apply o_l); (focus (simp only [W2, reduceIte, Nat.reduceEqDiff, Nat.reduceAdd, Nat.reduceSub, Nat.reduceLeDiff, W1, beq_self_eq_true, bne_self_eq_false, BEq.rfl]; rfl)))))
    | ((with_reducible apply d_step); (focus ((with_reducible apply o_l'); (focus (simp only [W2, reduceIte, Nat.reduceEqDiff, Nat.reduceAdd, Nat.reduceSub, Nat.reduceLeDiff, W1, beq_self_eq_true, bne_self_eq_false, BEq.rfl]; rfl)); (focus (repeat' first | exact all_nil | (with_reducible apply all_cons) | (simp [rowId, sepB, Opd.get, look, Und, UndB, boxP]; done))); (focus (repeat' first | exact all_nil | (with_reducible apply all_cons) | (simp [rowId, sepB, Opd.get, look, Und, UndB, boxP]; done))); (focus (repeat' first | exact all_nil | (with_reducible apply all_cons) | (simp [rowId, sepB, Opd.get, look, Und, UndB, boxP]; done))))))
    | ((with_reducible apply d_step0); (focus ((with_reducible apply o_w'); (focus (simp only [W2, reduceIte, Nat.reduceEqDiff, Nat.reduceAdd, Nat.reduceSub, Nat.reduceLeDiff, W1, beq_self_eq_true, bne_self_eq_false, BEq.rfl]; rfl)); (focus (repeat' first | exact all_nil | (with_reducible apply all_cons) | (simp [rowId, sepB, Opd.get, look, Und, UndB, boxP]; done))); (focus (repeat' first | exact all_nil | (with_reducible apply all_cons) | (simp [rowId, sepB, Opd.get, look, Und, UndB, boxP]; done))))))
    | ((with_reducible apply d_step); (focus ((with_reducible apply o_a'); (focus rfl); (focus (simp only [W2, reduceIte, Nat.reduceEqDiff, Nat.reduceAdd, Nat.reduceSub, Nat.reduceLeDiff, W1, beq_self_eq_true, bne_self_eq_false, BEq.rfl]; rfl)); (focus rfl); (focus rfl); (focus (simp only [W2, reduceIte, Nat.reduceEqDiff, Nat.reduceAdd, Nat.reduceSub, Nat.reduceLeDiff, W1, beq_self_eq_true, bne_self_eq_false, BEq.rfl]; rfl)))))
    | (with_reducible apply c_dreg1) | (with_reducible apply c_dreg2)
  all_goals first | (exfalso; refine Bool.false_ne_true ?_; first | assumption | (symm; assumption)) | skip
  all_goals first | (((with_reducible apply ret_plain); (focus (simp only [W2, reduceIte, Nat.reduceEqDiff, Nat.reduceAdd, Nat.reduceSub, Nat.reduceLeDiff, W1, resVs, resV1]; rfl)); (focus (simp [resV, idsV, idsL, slA_ids, ints_ids]))); exact ⟨[], by simp [resV, F1, frT, frL, thawV]⟩) | (exfalso; simp_all [putOK]; done) | (exfalso; simp_all [putOK] <;> omega)
end Go.Sk
