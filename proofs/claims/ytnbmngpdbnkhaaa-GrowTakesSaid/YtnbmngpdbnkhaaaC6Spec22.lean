/- What becomes of a log by a message, as the page says. Conditions: none. -/
import Derived.Test.YtnbmngpdbnkhaaaC6Spec21
import Derived.Test.YtnbmngpdbnkhaaaC6Spec16
set_option linter.unusedVariables false
set_option linter.unusedSimpArgs false
set_option maxRecDepth 200000
set_option maxHeartbeats 8000000
namespace Go.Sk
open Go.Proofs.Try
theorem breaks_ex {v : V27} {c : Int} : ∀ {l : List (List AV)} {p : Int}, breaksF v c p l = true → ∃ j, j < l.length ∧ p + j + 1 ≤ c ∧ termF v (p + j + 1) ≠ tmA l j
  | [], p, h => by simp [breaksF] at h
  | x :: xs, p, h => by
    simp only [breaksF, Bool.or_eq_true] at h
    rcases h with h | h
    · simp only [Bool.and_eq_true, decide_eq_true_eq, bne_iff_ne] at h
      refine ⟨0, by simp, by simpa using h.1, ?_⟩
      rw [tmA_some (es := x :: xs) (j := 0) rfl]
      simpa using h.2
    · obtain ⟨j, h1, h2, h3⟩ := breaks_ex h
      refine ⟨j + 1, by simp; omega, by omega, ?_⟩
      have e1 : p + ((j + 1 : Nat) : Int) + 1 = p + 1 + j + 1 := by omega
      have e2 : tmA (x :: xs) (j + 1) = tmA xs j := by unfold tmA; simp
      rw [e1, e2]; exact h3
theorem breaks_yes {v : V27} {c p : Int} {l : List (List AV)} {k : Nat} (hk : k < l.length) (hc : p + k + 1 ≤ c) (hn : termF v (p + k + 1) ≠ tmA l k) : breaksF v c p l = true := by
  cases h : breaksF v c p l with
  | true => rfl
  | false => exact absurd (breaks_at h hk hc) hn
theorem breaks_out {v : V27} {c p : Int} {a k : Nat} {l : List (List AV)} (hp : p - v.f2 = (a : Int)) (hk : k = l.length ∨ c < p + k + 1) (hall : ∀ j, j < k → a + j < (slL v.f6).length → tmA (slL v.f6) (a + j) = tmA l j) (hc : c ≤ v.f2 + (slL v.f6).length) : breaksF v c p l = false := by
  cases h : breaksF v c p l with
  | false => rfl
  | true =>
    obtain ⟨j, h1, h2, h3⟩ := breaks_ex h
    have hjk : j < k := by omega
    have hb : a + j < (slL v.f6).length := by omega
    have e1 := term_next (v := v) (p := p + j) (a := a + j) (by omega) (List.getElem?_eq_getElem hb)
    exact absurd (by rw [e1, ← hall j hjk hb, tmA_some (List.getElem?_eq_getElem hb)]) h3
theorem f77 (n a b : Int) : FCall prog 77 [.int .i64 n, .int .i64 a, .int .i64 b] (.bool (withinF n a b)) := by
  refine fcall mixed t77 (by simp [m77]) (by simp [idsL, idsV]) (f_body ?_)
  simp only [m77, argEnv, List.length_nil, List.nil_append, List.cons_append, Nat.zero_add]
  repeat' first
    | (with_reducible first | apply c_seq | apply c_reg | apply c_dreg0 | apply c_block | apply c_ret | apply c_exit | apply c_skip | apply ops_nil | apply d_nil | apply k_seq_n | apply k_seq_r | apply k_seq_x | apply k_blk_n | apply k_blk_r | apply k_blk_x | apply k_end_n | apply k_end_r | apply k_loop_x | apply k_loop_r | apply c_dreg1 | apply c_dreg2)
    | ((with_reducible first | apply op_gS | apply op_g0 | apply d_gS | apply d_g0); (focus (simp only [W0, reduceIte, Nat.reduceEqDiff, Nat.reduceAdd, Nat.reduceSub, Nat.reduceLeDiff]; rfl)); (with_reducible first | apply g_no | apply g_T | apply g_F); all_goals (try (intro hc; first | exact absurd hc (by decide) | subst hc | clear hc)))
    | ((with_reducible apply c_cond); (focus (simp only [W0, reduceIte, Nat.reduceEqDiff, Nat.reduceAdd, Nat.reduceSub, Nat.reduceLeDiff]; rfl)); all_goals (intro hc; first | exact absurd hc (by decide) | subst hc | clear hc))
    | ((with_reducible first | apply op_isB | apply d_isV); (focus rfl); (focus (simp only [W0, reduceIte, Nat.reduceEqDiff, Nat.reduceAdd, Nat.reduceSub, Nat.reduceLeDiff]; rfl)); intro c' hc'; try with_reducible first | cases (show true = c' from hc') | cases (show false = c' from hc'))
    | ((with_reducible first | apply op_step | apply op_step0 | apply d_ld | apply d_st | apply d_new | apply d_box | apply d_bsl | apply d_apw | apply d_apa | apply d_v); (focus (simp only [W0, reduceIte, Nat.reduceEqDiff, Nat.reduceAdd, Nat.reduceSub, Nat.reduceLeDiff]; rfl)); all_goals (try rfl))
  all_goals ((with_reducible apply ret_plain); (focus (simp only [W0, reduceIte, Nat.reduceEqDiff, Nat.reduceAdd, Nat.reduceSub, Nat.reduceLeDiff]; rfl)); (focus (simp [resV, idsV, idsL, slA_ids, ints_ids])))
  all_goals exact ⟨[], by simp_all [resV, F1, frT, frL, frV, fr, thawV, withinF] <;> omega⟩
theorem grow_bad (v : V27) (hv : v.ok) (c : Int) (m : V34) (hm : m.o9) (hh : hardF v = false) : FCall prog 36 [.agg v.l, .int .i64 c, .agg m.l] (takeV zero27 0 zero34 6) := by
  have h76 := f76 v hv
  rw [hh] at h76
  refine fcall mixed t36 (by simp [m36]) (by simp [idsL, idsV, V27.ids, V34.ids]) (f_body ?_)
  simp only [m36, argEnv, List.length_nil, List.nil_append, List.cons_append, Nat.zero_add, V27.l, V23.l, V34.l, zero27, zero34, answer, takeV, slA_none, slA_some]
  repeat' first
    | (with_reducible first | apply c_seq | apply c_reg | apply c_dreg0 | apply c_block | apply c_ret | apply c_exit | apply c_skip | apply ops_nil | apply d_nil | apply k_seq_n | apply k_seq_r | apply k_seq_x | apply k_blk_n | apply k_blk_r | apply k_blk_x | apply k_end_n | apply k_end_r | apply k_loop_x | apply k_loop_r | apply c_dreg1 | apply c_dreg2)
    | ((with_reducible first | apply op_gS | apply op_g0 | apply d_gS | apply d_g0); (focus (simp only [W0, reduceIte, Nat.reduceEqDiff, Nat.reduceAdd, Nat.reduceSub, Nat.reduceLeDiff, beq_self_eq_true, bne_self_eq_false, BEq.rfl]; rfl)); (with_reducible first | apply g_no | apply g_T | apply g_F); all_goals (try (intro hc; first | exact absurd hc (by decide) | subst hc | clear hc)))
    | ((with_reducible apply c_cond); (focus (simp only [W0, reduceIte, Nat.reduceEqDiff, Nat.reduceAdd, Nat.reduceSub, Nat.reduceLeDiff, beq_self_eq_true, bne_self_eq_false, BEq.rfl]; rfl)); all_goals (intro hc; first | exact absurd hc (by decide) | subst hc | clear hc))
    | ((with_reducible first | apply op_fcall (f := 76) | apply d_fcall (f := 76)); (focus ((try simp only [W0, reduceIte, Nat.reduceEqDiff, Nat.reduceAdd, Nat.reduceSub, Nat.reduceLeDiff, beq_self_eq_true, bne_self_eq_false, BEq.rfl]); first | exact h76)); all_goals (try rfl))
    | ((with_reducible first | apply op_isB | apply d_isV); (focus rfl); (focus (simp only [W0, reduceIte, Nat.reduceEqDiff, Nat.reduceAdd, Nat.reduceSub, Nat.reduceLeDiff, beq_self_eq_true, bne_self_eq_false, BEq.rfl]; rfl)); intro c' hc'; try with_reducible first | cases (show true = c' from hc') | cases (show false = c' from hc'))
    | ((with_reducible first | apply op_step | apply op_step0 | apply d_ld | apply d_st | apply d_new | apply d_box | apply d_bsl | apply d_apw | apply d_apa | apply d_v); (focus (simp only [W0, reduceIte, Nat.reduceEqDiff, Nat.reduceAdd, Nat.reduceSub, Nat.reduceLeDiff, beq_self_eq_true, bne_self_eq_false, BEq.rfl]; rfl)); all_goals (try rfl))
  all_goals first | (exfalso; refine Bool.false_ne_true ?_; first | assumption | (symm; assumption)) | (exact absurd ‹true = false› (by decide)) | skip
  all_goals ((with_reducible apply ret_plain); (focus (simp only [W0, reduceIte, Nat.reduceEqDiff, Nat.reduceAdd, Nat.reduceSub, Nat.reduceLeDiff]; rfl)); (focus (simp [resV, idsV, idsL, slA_ids, ints_ids])))
  all_goals exact ⟨[], by simp [resV, F1, frT, frL, thawV]⟩
theorem grow_no (v : V27) (hv : v.ok) (c : Int) (m : V34) (hm : m.o9) (hh : hardF v = true) (hr : rightF v c m = false) : FCall prog 36 [.agg v.l, .int .i64 c, .agg m.l] (takeV zero27 0 zero34 1) := by
  have h76 := f76 v hv
  rw [hh] at h76
  have hr2 : rightF v c m = true → False := by rw [hr]; simp
  have w1 := f77 c v.f2 (lastI (slL v.f6) v.f2)
  have w2 := f77 m.f4 0 1099511627776
  refine fcall mixed t36 (by simp [m36]) (by simp [idsL, idsV, V27.ids, V34.ids]) (f_body ?_)
  simp only [m36, argEnv, List.length_nil, List.nil_append, List.cons_append, Nat.zero_add, V27.l, V23.l, V34.l, zero27, zero34, answer, takeV, slA_none, slA_some]
  repeat' first
    | (with_reducible first | apply c_seq | apply c_reg | apply c_dreg0 | apply c_block | apply c_ret | apply c_exit | apply c_skip | apply ops_nil | apply d_nil | apply k_seq_n | apply k_seq_r | apply k_seq_x | apply k_blk_n | apply k_blk_r | apply k_blk_x | apply k_end_n | apply k_end_r | apply k_loop_x | apply k_loop_r | apply c_dreg1 | apply c_dreg2)
    | ((with_reducible first | apply op_gS | apply op_g0 | apply d_gS | apply d_g0); (focus (simp only [W0, reduceIte, Nat.reduceEqDiff, Nat.reduceAdd, Nat.reduceSub, Nat.reduceLeDiff, beq_self_eq_true, bne_self_eq_false, BEq.rfl]; rfl)); (with_reducible first | apply g_no | apply g_T | apply g_F); all_goals (try (intro hc; first | exact absurd hc (by decide) | subst hc | clear hc)))
    | ((with_reducible apply c_cond); (focus (simp only [W0, reduceIte, Nat.reduceEqDiff, Nat.reduceAdd, Nat.reduceSub, Nat.reduceLeDiff, beq_self_eq_true, bne_self_eq_false, BEq.rfl]; rfl)); all_goals (intro hc; first | exact absurd hc (by decide) | subst hc | clear hc))
    | ((with_reducible first | apply op_fcallb (f := 77) | apply d_fcallb (f := 77)); (focus ((try simp only [W0, reduceIte, Nat.reduceEqDiff, Nat.reduceAdd, Nat.reduceSub, Nat.reduceLeDiff, beq_self_eq_true, bne_self_eq_false, BEq.rfl]); first | exact w1 | exact w2)); intro c' hc'; (try with_reducible first | cases (show true = c' from hc') | cases (show false = c' from hc')); all_goals (try rfl))
    | ((with_reducible first | apply op_fcall (f := 76) | apply d_fcall (f := 76)); (focus ((try simp only [W0, reduceIte, Nat.reduceEqDiff, Nat.reduceAdd, Nat.reduceSub, Nat.reduceLeDiff, beq_self_eq_true, bne_self_eq_false, BEq.rfl]); first | exact h76)); all_goals (try rfl))
    | ((with_reducible first | apply op_fcall (f := 17) | apply d_fcall (f := 17)); (focus ((try simp only [W0, reduceIte, Nat.reduceEqDiff, Nat.reduceAdd, Nat.reduceSub, Nat.reduceLeDiff, beq_self_eq_true, bne_self_eq_false, BEq.rfl]); first | exact f17 v hv)); all_goals (try rfl))
    | ((with_reducible first | apply op_isB | apply d_isV); (focus rfl); (focus (simp only [W0, reduceIte, Nat.reduceEqDiff, Nat.reduceAdd, Nat.reduceSub, Nat.reduceLeDiff, beq_self_eq_true, bne_self_eq_false, BEq.rfl]; rfl)); intro c' hc'; try with_reducible first | cases (show true = c' from hc') | cases (show false = c' from hc'))
    | ((with_reducible first | apply op_step | apply op_step0 | apply d_ld | apply d_st | apply d_new | apply d_box | apply d_bsl | apply d_apw | apply d_apa | apply d_v); (focus (simp only [W0, reduceIte, Nat.reduceEqDiff, Nat.reduceAdd, Nat.reduceSub, Nat.reduceLeDiff, beq_self_eq_true, bne_self_eq_false, BEq.rfl]; rfl)); all_goals (try rfl))
  all_goals first | (exfalso; refine Bool.false_ne_true ?_; first | assumption | (symm; assumption)) | (exact absurd ‹true = false› (by decide)) | skip
  any_goals (((with_reducible apply ret_plain); (focus (simp only [W0, reduceIte, Nat.reduceEqDiff, Nat.reduceAdd, Nat.reduceSub, Nat.reduceLeDiff]; rfl)); (focus (simp [resV, idsV, idsL, slA_ids, ints_ids]))); exact ⟨[], by simp [resV, F1, frT, frL, thawV]⟩)
  all_goals (exfalso; apply hr2; clear hr2 hr h76 w1 w2 hh; simp_all [rightF, withinF] <;> omega)
theorem grow_off (v : V27) (hv : v.ok) (c : Int) (m : V34) (hm : m.o9) (hl : lightH v) (hh : hardF v = true) (hr : rightF v c m = true) (hb : v.f2 ≤ m.f4) (hf : fitsF v m.f4 m.f5 = false) : FCall prog 36 [.agg v.l, .int .i64 c, .agg m.l] (takeV (twinH v) c (answer false (mxF (mnF (lastI (slL v.f6) v.f2) (m.f4 - 1)) v.f2)) 0) := by
  obtain ⟨l6, l5⟩ := hl
  have hl : lightH v := ⟨l6, l5⟩
  obtain ⟨b1, b2⟩ := hard_base hh
  obtain ⟨r1, r2, r3, r4, r5, r6, r7⟩ := right_facts hr
  have hlast := lastI_eq hh (Nat.le_trans l6 (by decide))
  have hs : seen v m.f4 := ⟨b1, b2, by omega, by omega, by omega⟩
  have h76 := f76 v hv
  rw [hh] at h76
  have h77 := f77 c v.f2 (lastI (slL v.f6) v.f2)
  rw [show withinF c v.f2 (lastI (slL v.f6) v.f2) = true by simp only [withinF, Bool.and_eq_true, decide_eq_true_eq]; omega] at h77
  have h77b := f77 m.f4 0 1099511627776
  rw [show withinF m.f4 0 1099511627776 = true by simp only [withinF, Bool.and_eq_true, decide_eq_true_eq]; omega] at h77b
  have d5 : decide (m.f5 < 0) = false := decide_eq_false (by omega)
  have d6 : decide (m.f6 < 0) = false := decide_eq_false (by omega)
  have d9 : decide ((((slL m.f9).length : Nat) : Int) > 8) = false := decide_eq_false (by omega)
  have h78 := f78 v hv m.f4 m.f5 hs
  rw [hf] at h78
  have d0 : decide (m.f4 < v.f2) = false := decide_eq_false (by omega)
  have wp : IntKind.i64.wrap (m.f4 - 1) = m.f4 - 1 := by simp [IntKind.wrap, IntKind.signed, IntKind.bits]; omega
  refine fcall mixed t36 (by simp [m36]) (by simp [idsL, idsV, V27.ids, V34.ids]) (f_body ?_)
  simp only [m36, argEnv, List.length_nil, List.nil_append, List.cons_append, Nat.zero_add, V27.l, V23.l, V34.l, zero27, zero34, answer, takeV, slA_none, slA_some]
  repeat' first
    | (with_reducible first | apply c_seq | apply c_reg | apply c_dreg0 | apply c_block | apply c_ret | apply c_exit | apply c_skip | apply ops_nil | apply d_nil | apply k_seq_n | apply k_seq_r | apply k_seq_x | apply k_blk_n | apply k_blk_r | apply k_blk_x | apply k_end_n | apply k_end_r | apply k_loop_x | apply k_loop_r | apply c_dreg1 | apply c_dreg2)
    | ((with_reducible first | apply op_gS | apply op_g0 | apply d_gS | apply d_g0); (focus (simp only [W0, reduceIte, Nat.reduceEqDiff, Nat.reduceAdd, Nat.reduceSub, Nat.reduceLeDiff, d0, d5, d6, d9, wp, twinH, Bool.not_false, Bool.not_true, V27.l, V23.l, V34.l, slA_none, slA_some, slL_some, zero27, beq_self_eq_true, bne_self_eq_false, BEq.rfl]; rfl)); (with_reducible first | apply g_no | apply g_T | apply g_F); all_goals (try (intro hc; first | exact absurd hc (by decide) | subst hc | clear hc)))
    | ((with_reducible apply c_cond); (focus (simp only [W0, reduceIte, Nat.reduceEqDiff, Nat.reduceAdd, Nat.reduceSub, Nat.reduceLeDiff, d0, d5, d6, d9, wp, twinH, Bool.not_false, Bool.not_true, V27.l, V23.l, V34.l, slA_none, slA_some, slL_some, zero27, beq_self_eq_true, bne_self_eq_false, BEq.rfl]; rfl)); all_goals (intro hc; first | exact absurd hc (by decide) | subst hc | clear hc))
    | ((with_reducible first | apply op_fcall (f := 76) | apply d_fcall (f := 76)); (focus ((try simp only [W0, reduceIte, Nat.reduceEqDiff, Nat.reduceAdd, Nat.reduceSub, Nat.reduceLeDiff, d0, d5, d6, d9, wp, twinH, Bool.not_false, Bool.not_true, V27.l, V23.l, V34.l, slA_none, slA_some, slL_some, zero27, beq_self_eq_true, bne_self_eq_false, BEq.rfl]); first | exact h76)); all_goals (try rfl))
    | ((with_reducible first | apply op_fcall (f := 17) | apply d_fcall (f := 17)); (focus ((try simp only [W0, reduceIte, Nat.reduceEqDiff, Nat.reduceAdd, Nat.reduceSub, Nat.reduceLeDiff, d0, d5, d6, d9, wp, twinH, Bool.not_false, Bool.not_true, V27.l, V23.l, V34.l, slA_none, slA_some, slL_some, zero27, beq_self_eq_true, bne_self_eq_false, BEq.rfl]); first | exact f17 v hv)); all_goals (try rfl))
    | ((with_reducible first | apply op_fcall (f := 77) | apply d_fcall (f := 77)); (focus ((try simp only [W0, reduceIte, Nat.reduceEqDiff, Nat.reduceAdd, Nat.reduceSub, Nat.reduceLeDiff, d0, d5, d6, d9, wp, twinH, Bool.not_false, Bool.not_true, V27.l, V23.l, V34.l, slA_none, slA_some, slL_some, zero27, beq_self_eq_true, bne_self_eq_false, BEq.rfl]); first | exact h77 | exact h77b)); all_goals (try rfl))
    | ((with_reducible first | apply op_fcall (f := 78) | apply d_fcall (f := 78)); (focus ((try simp only [W0, reduceIte, Nat.reduceEqDiff, Nat.reduceAdd, Nat.reduceSub, Nat.reduceLeDiff, d0, d5, d6, d9, wp, twinH, Bool.not_false, Bool.not_true, V27.l, V23.l, V34.l, slA_none, slA_some, slL_some, zero27, beq_self_eq_true, bne_self_eq_false, BEq.rfl]); first | exact h78)); all_goals (try rfl))
    | ((with_reducible first | apply op_fcall (f := 33) | apply d_fcall (f := 33)); (focus ((try simp only [W0, reduceIte, Nat.reduceEqDiff, Nat.reduceAdd, Nat.reduceSub, Nat.reduceLeDiff, d0, d5, d6, d9, wp, twinH, Bool.not_false, Bool.not_true, V27.l, V23.l, V34.l, slA_none, slA_some, slL_some, zero27, beq_self_eq_true, bne_self_eq_false, BEq.rfl]); first | exact f33 v hl)); all_goals (try rfl))
    | ((with_reducible first | apply op_isB | apply d_isV); (focus rfl); (focus (simp only [W0, reduceIte, Nat.reduceEqDiff, Nat.reduceAdd, Nat.reduceSub, Nat.reduceLeDiff, d0, d5, d6, d9, wp, twinH, Bool.not_false, Bool.not_true, V27.l, V23.l, V34.l, slA_none, slA_some, slL_some, zero27, beq_self_eq_true, bne_self_eq_false, BEq.rfl]; rfl)); intro c' hc'; try with_reducible first | cases (show true = c' from hc') | cases (show false = c' from hc'))
    | ((with_reducible first | apply op_step | apply op_step0 | apply d_ld | apply d_st | apply d_new | apply d_box | apply d_bsl | apply d_apw | apply d_apa | apply d_v); (focus (simp only [W0, reduceIte, Nat.reduceEqDiff, Nat.reduceAdd, Nat.reduceSub, Nat.reduceLeDiff, d0, d5, d6, d9, wp, twinH, Bool.not_false, Bool.not_true, V27.l, V23.l, V34.l, slA_none, slA_some, slL_some, zero27, beq_self_eq_true, bne_self_eq_false, BEq.rfl]; rfl)); all_goals (try rfl))
  all_goals first | (exfalso; refine Bool.false_ne_true ?_; first | assumption | (symm; assumption)) | (exact absurd ‹true = false› (by decide)) | skip
  all_goals ((with_reducible apply ret_plain); (focus (simp only [W0, reduceIte, Nat.reduceEqDiff, Nat.reduceAdd, Nat.reduceSub, Nat.reduceLeDiff, twinH, V27.l, V23.l]; rfl)); (focus (simp [resV, idsV, idsL, slA_ids, ints_ids])))
  all_goals exact ⟨[], by simp [resV, F1, frT, frL, thawV, mnF, mxF, twinH] <;> rfl⟩
def slA_at_fact (o : Option (List (List AV))) (k : Nat) (x : V66) : Prop := ∀ kk : IntKind, idxSV 66 (slA 66 o) (.int kk (k : Int)) = some (.pz x.l 0)
theorem grow_A (v : V27) (hv : v.ok) (c : Int) (m : V34) (hm : m.o9) (hl : lightH v) (hh : hardF v = true) (hr : rightF v c m = true) (hb : v.f2 ≤ m.f4) (hf : fitsF v m.f4 m.f5 = true) (X : V27) (e : Int) (h79 : FCall prog 79 [.agg v.l, .int .i64 m.f4, slA 66 (m.f9)] (.tup [.agg X.l, .int .i64 e])) : FCall prog 36 [.agg v.l, .int .i64 c, .agg m.l] (if breaksF v c m.f4 (slL m.f9) = true then takeV zero27 0 zero34 13 else if e ≠ 0 then takeV zero27 0 zero34 e else takeV X (mxF c (mnF m.f6 (m.f4 + (((slL m.f9)).length : Int)))) (answer true (m.f4 + (((slL m.f9)).length : Int))) 0) := by
  obtain ⟨l6, l5⟩ := hl
  have hl : lightH v := ⟨l6, l5⟩
  obtain ⟨b1, b2⟩ := hard_base hh
  obtain ⟨r1, r2, r3, r4, r5, r6, r7⟩ := right_facts hr
  have hlast := lastI_eq hh (Nat.le_trans l6 (by decide))
  have hs : seen v m.f4 := ⟨b1, b2, by omega, by omega, by omega⟩
  have h76 := f76 v hv
  rw [hh] at h76
  have h77 := f77 c v.f2 (lastI (slL v.f6) v.f2)
  rw [show withinF c v.f2 (lastI (slL v.f6) v.f2) = true by simp only [withinF, Bool.and_eq_true, decide_eq_true_eq]; omega] at h77
  have h77b := f77 m.f4 0 1099511627776
  rw [show withinF m.f4 0 1099511627776 = true by simp only [withinF, Bool.and_eq_true, decide_eq_true_eq]; omega] at h77b
  have d5 : decide (m.f5 < 0) = false := decide_eq_false (by omega)
  have d6 : decide (m.f6 < 0) = false := decide_eq_false (by omega)
  have d9 : decide ((((slL m.f9).length : Nat) : Int) > 8) = false := decide_eq_false (by omega)
  have h78 := f78 v hv m.f4 m.f5 hs
  rw [hf] at h78
  have d0 : decide (m.f4 < v.f2) = false := decide_eq_false (by omega)
  obtain ⟨a, hpa⟩ : ∃ a : Nat, m.f4 - v.f2 = (a : Int) := ⟨(m.f4 - v.f2).toNat, by omega⟩
  have hcl : c ≤ v.f2 + (slL v.f6).length := by omega
  generalize hG : (if breaksF v c m.f4 (slL m.f9) = true then takeV zero27 0 zero34 13 else if e ≠ 0 then takeV zero27 0 zero34 e else takeV X (mxF c (mnF m.f6 (m.f4 + (((slL m.f9)).length : Int)))) (answer true (m.f4 + (((slL m.f9)).length : Int))) 0) = G
  have hG1 : breaksF v c m.f4 (slL m.f9) = true → takeV zero27 0 zero34 13 = G := fun h => by rw [← hG, if_pos h]
  have hG2 : breaksF v c m.f4 (slL m.f9) = false → (e != 0) = true → takeV zero27 0 zero34 e = G := fun h h2 => by rw [← hG, if_neg (by rw [h]; simp), if_pos (by simpa using h2)]
  have hG3 : breaksF v c m.f4 (slL m.f9) = false → (e != 0) = false → takeV X (mxF c (mnF m.f6 (m.f4 + (((slL m.f9)).length : Int)))) (answer true (m.f4 + (((slL m.f9)).length : Int))) 0 = G := fun h h2 => by rw [← hG, if_neg (by rw [h]; simp), if_neg (by simpa using h2)]
  clear hG
  have ho : ∀ us ∈ (slL m.f9), HasT prog 66 us := hm.h9.1
  have hwl : IntKind.i64.wrap (m.f4 + (((slL m.f9)).length : Int)) = m.f4 + (((slL m.f9)).length : Int) := by simp [IntKind.wrap, IntKind.signed, IntKind.bits]; omega
  refine fcall mixed t36 (by simp [m36]) (by simp [idsL, idsV, V27.ids, V34.ids]) (f_body ?_)
  simp only [m36, argEnv, List.length_nil, List.nil_append, List.cons_append, Nat.zero_add, V27.l, V23.l, V34.l, zero27, zero34, answer, takeV, slA_none, slA_some]
  repeat' first
    | (with_reducible first | apply c_seq | apply c_reg | apply c_dreg0 | apply c_block | apply c_ret | apply c_exit | apply c_skip | apply ops_nil | apply d_nil | apply k_seq_n | apply k_seq_r | apply k_seq_x | apply k_blk_n | apply k_blk_r | apply k_blk_x | apply k_end_n | apply k_end_r | apply k_loop_x | apply k_loop_r | apply c_dreg1 | apply c_dreg2)
    | ((with_reducible first | apply op_gS | apply op_g0 | apply d_gS | apply d_g0); (focus (simp only [W0, reduceIte, Nat.reduceEqDiff, Nat.reduceAdd, Nat.reduceSub, Nat.reduceLeDiff, d0, d5, d6, d9, Bool.not_false, Bool.not_true, V27.l, V23.l, V34.l, slA_none, slA_some, slL_some, zero27, beq_self_eq_true, bne_self_eq_false, BEq.rfl]; rfl)); (with_reducible first | apply g_no | apply g_T | apply g_F); all_goals (try (intro hc; first | exact absurd hc (by decide) | subst hc | clear hc)))
    | ((with_reducible apply c_cond); (focus (simp only [W0, reduceIte, Nat.reduceEqDiff, Nat.reduceAdd, Nat.reduceSub, Nat.reduceLeDiff, d0, d5, d6, d9, Bool.not_false, Bool.not_true, V27.l, V23.l, V34.l, slA_none, slA_some, slL_some, zero27, beq_self_eq_true, bne_self_eq_false, BEq.rfl]; rfl)); all_goals (intro hc; first | exact absurd hc (by decide) | subst hc | clear hc))
    | ((with_reducible first | apply op_fcall (f := 76) | apply d_fcall (f := 76)); (focus ((try simp only [W0, reduceIte, Nat.reduceEqDiff, Nat.reduceAdd, Nat.reduceSub, Nat.reduceLeDiff, d0, d5, d6, d9, Bool.not_false, Bool.not_true, V27.l, V23.l, V34.l, slA_none, slA_some, slL_some, zero27, beq_self_eq_true, bne_self_eq_false, BEq.rfl]); first | exact h76)); all_goals (try rfl))
    | ((with_reducible first | apply op_fcall (f := 17) | apply d_fcall (f := 17)); (focus ((try simp only [W0, reduceIte, Nat.reduceEqDiff, Nat.reduceAdd, Nat.reduceSub, Nat.reduceLeDiff, d0, d5, d6, d9, Bool.not_false, Bool.not_true, V27.l, V23.l, V34.l, slA_none, slA_some, slL_some, zero27, beq_self_eq_true, bne_self_eq_false, BEq.rfl]); first | exact f17 v hv)); all_goals (try rfl))
    | ((with_reducible first | apply op_fcall (f := 77) | apply d_fcall (f := 77)); (focus ((try simp only [W0, reduceIte, Nat.reduceEqDiff, Nat.reduceAdd, Nat.reduceSub, Nat.reduceLeDiff, d0, d5, d6, d9, Bool.not_false, Bool.not_true, V27.l, V23.l, V34.l, slA_none, slA_some, slL_some, zero27, beq_self_eq_true, bne_self_eq_false, BEq.rfl]); first | exact h77 | exact h77b)); all_goals (try rfl))
    | ((with_reducible first | apply op_fcall (f := 78) | apply d_fcall (f := 78)); (focus ((try simp only [W0, reduceIte, Nat.reduceEqDiff, Nat.reduceAdd, Nat.reduceSub, Nat.reduceLeDiff, d0, d5, d6, d9, Bool.not_false, Bool.not_true, V27.l, V23.l, V34.l, slA_none, slA_some, slL_some, zero27, beq_self_eq_true, bne_self_eq_false, BEq.rfl]); first | exact h78)); all_goals (try rfl))
    | ((with_reducible first | apply op_fcall (f := 33) | apply d_fcall (f := 33)); (focus ((try simp only [W0, reduceIte, Nat.reduceEqDiff, Nat.reduceAdd, Nat.reduceSub, Nat.reduceLeDiff, d0, d5, d6, d9, Bool.not_false, Bool.not_true, V27.l, V23.l, V34.l, slA_none, slA_some, slL_some, zero27, beq_self_eq_true, bne_self_eq_false, BEq.rfl]); first | exact f33 v hl)); all_goals (try rfl))
    | ((with_reducible first | apply op_isB | apply d_isV); (focus rfl); (focus (simp only [W0, reduceIte, Nat.reduceEqDiff, Nat.reduceAdd, Nat.reduceSub, Nat.reduceLeDiff, d0, d5, d6, d9, Bool.not_false, Bool.not_true, V27.l, V23.l, V34.l, slA_none, slA_some, slL_some, zero27, beq_self_eq_true, bne_self_eq_false, BEq.rfl]; rfl)); intro c' hc'; try with_reducible first | cases (show true = c' from hc') | cases (show false = c' from hc'))
    | ((with_reducible first | apply op_step | apply op_step0 | apply d_ld | apply d_st | apply d_new | apply d_box | apply d_bsl | apply d_apw | apply d_apa | apply d_v); (focus (simp only [W0, reduceIte, Nat.reduceEqDiff, Nat.reduceAdd, Nat.reduceSub, Nat.reduceLeDiff, d0, d5, d6, d9, Bool.not_false, Bool.not_true, V27.l, V23.l, V34.l, slA_none, slA_some, slL_some, zero27, beq_self_eq_true, bne_self_eq_false, BEq.rfl]; rfl)); all_goals (try rfl))
  all_goals first | (exfalso; refine Bool.false_ne_true ?_; first | assumption | (symm; assumption)) | (exact absurd ‹true = false› (by decide)) | skip
  refine c_loop [1, 3, 5, 6, 7, 8, 9, 12, 14, 15] (fun z env rows => ∃ k : Nat, k ≤ ((slL m.f9)).length ∧ z = ((slL m.f9)).length - k ∧ env = [(1, .int .i64 c), (3, .ptr 0 0), (5, .ptr 1 0), (6, .ptr 2 0), (7, .int .i64 0), (8, .ptr 3 0), (9, .int .i64 0), (12, .int .i64 (m.f4)), (14, slA 66 (m.f9)), (15, .int .i64 (k : Int))] ∧ rows = [Row.box 27 [.int .i64 v.f0, .int .i64 v.f1, .int .i64 v.f2, .int .i64 v.f3, .int .i64 v.f4.f0, .int .i64 v.f4.f1, .int .i64 v.f4.f2, .int .i64 v.f4.f3, slA 5 v.f5, slA 66 v.f6], Row.box 34 [.int .i64 m.f0, .int .i64 m.f1, .int .i64 m.f2, .int .i64 m.f3, .int .i64 m.f4, .int .i64 m.f5, .int .i64 m.f6, .int .i64 m.f7, .bool m.f8, slA 66 m.f9, .int .i64 m.f10.f0, .int .i64 m.f10.f1, .int .i64 m.f10.f2, .int .i64 m.f10.f3, slA 5 m.f11, slA 34 m.f12], Row.box 27 [.int .i64 0, .int .i64 0, .int .i64 0, .int .i64 0, .int .i64 0, .int .i64 0, .int .i64 0, .int .i64 0, .nil 5, .nil 66], Row.box 34 [.int .i64 0, .int .i64 0, .int .i64 0, .int .i64 0, .int .i64 0, .int .i64 0, .int .i64 0, .int .i64 0, .bool false, .nil 66, .int .i64 0, .int .i64 0, .int .i64 0, .int .i64 0, .nil 5, .nil 34]] ∧ ∀ j, j < k → a + j < (slL v.f6).length → tmA (slL v.f6) (a + j) = tmA ((slL m.f9)) j) ((slL m.f9)).length
    (back_take (k := 4) (Nat.zero_le _) (by simp) (by simp [look, idsL, idsV, slA_ids]) (by simp [idsR, idsL, idsV, slA_ids]) ⟨0, Nat.zero_le _, rfl, rfl, rfl, fun j hj => by omega⟩) ?_
  rintro z env rows ⟨k, hk, rfl, rfl, rfl, hall⟩
  rcases Nat.lt_or_ge k ((slL m.f9)).length with hk' | hk'
  · have hd : decide ((k : Int) < ((((slL m.f9)).length : Nat) : Int)) = true := decide_eq_true (by omega)
    obtain ⟨x, hx, hxok⟩ := el66 (o := some ((slL m.f9))) ho hk'
    have hx' : ((slL m.f9))[k]? = some x.l := hx
    have p7 : ((k : Int) < ((((slL m.f9)).length : Nat) : Int)) = True := eq_true (by omega)
    have p3 : (0 ≤ (k : Int)) = True := eq_true (by omega)
    have w1 : IntKind.i64.wrap (m.f4 + (k : Int)) = m.f4 + (k : Int) := by simp [IntKind.wrap, IntKind.signed, IntKind.bits]; omega
    have w2 : IntKind.i64.wrap (m.f4 + (k : Int) + 1) = m.f4 + (k : Int) + 1 := by simp [IntKind.wrap, IntKind.signed, IntKind.bits]; omega
    have w3 : IntKind.i64.wrap ((k : Int) + 1) = ((k + 1 : Nat) : Int) := by simp [IntKind.wrap, IntKind.signed, IntKind.bits]; omega
    have hsl : slA_at_fact (m.f9) k x := by intro kk; exact slA_at 66 _ (k := kk) hx
    have h41 := f41 v hv (m.f4 + (k : Int) + 1) (seen_at hs (by omega) (by omega))
    rcases Nat.lt_or_ge (a + k) (slL v.f6).length with hin | hin
    · obtain ⟨y, hy, hyok⟩ := el66 (o := v.f6) hv.h6.1 hin
      have hib : inB v (m.f4 + (k : Int) + 1) = true := by simp only [inB, Bool.and_eq_true, decide_eq_true_eq]; omega
      have hen : entA v (m.f4 + (k : Int) + 1) = y := by
        unfold entA; rw [if_pos hib]; unfold getE
        rw [show posN v (m.f4 + (k : Int) + 1) = a + k by unfold posN; omega, hy]; exact ent66_l y
      have hte : termF v (m.f4 + (k : Int) + 1) = y.f0 := by
        have := term_next (v := v) (p := m.f4 + k) (a := a + k) (by omega) hy
        rw [this]; exact congrArg V66.f0 (ent66_l y)
      have htx : tmA ((slL m.f9)) k = x.f0 := by rw [tmA_some hx']; exact congrArg V66.f0 (ent66_l x)
      have hty : tmA (slL v.f6) (a + k) = y.f0 := by rw [tmA_some hy]; exact congrArg V66.f0 (ent66_l y)
      rw [hib, hen] at h41
      repeat' first
        | (with_reducible first | apply c_seq | apply c_reg | apply c_dreg0 | apply c_block | apply c_ret | apply c_exit | apply c_skip | apply ops_nil | apply d_nil | apply k_seq_n | apply k_seq_r | apply k_seq_x | apply k_blk_n | apply k_blk_r | apply k_blk_x | apply k_end_n | apply k_end_r | apply k_loop_x | apply k_loop_r | apply c_dreg1 | apply c_dreg2)
        | ((with_reducible first | apply op_gS | apply op_g0 | apply d_gS | apply d_g0); (focus (simp only [W0, reduceIte, Nat.reduceEqDiff, Nat.reduceAdd, Nat.reduceSub, Nat.reduceLeDiff, hd, w1, w2, w3, p3, p7, hsl _, hx', Int.toNat_natCast, true_and, V66.l, V64.l, V62.l, V60.l, hwl, d0, d5, d6, d9, Bool.not_false, Bool.not_true, V27.l, V23.l, V34.l, slA_none, slA_some, slL_some, zero27, beq_self_eq_true, bne_self_eq_false, BEq.rfl]; rfl)); (with_reducible first | apply g_no | apply g_T | apply g_F); all_goals (try (intro hc; first | exact absurd hc (by decide) | subst hc | clear hc)))
        | ((with_reducible apply c_cond); (focus (simp only [W0, reduceIte, Nat.reduceEqDiff, Nat.reduceAdd, Nat.reduceSub, Nat.reduceLeDiff, hd, w1, w2, w3, p3, p7, hsl _, hx', Int.toNat_natCast, true_and, V66.l, V64.l, V62.l, V60.l, hwl, d0, d5, d6, d9, Bool.not_false, Bool.not_true, V27.l, V23.l, V34.l, slA_none, slA_some, slL_some, zero27, beq_self_eq_true, bne_self_eq_false, BEq.rfl]; rfl)); all_goals (intro hc; first | exact absurd hc (by decide) | subst hc | clear hc))
        | ((with_reducible first | apply op_fcall (f := 41) | apply d_fcall (f := 41)); (focus ((try simp only [W0, reduceIte, Nat.reduceEqDiff, Nat.reduceAdd, Nat.reduceSub, Nat.reduceLeDiff, hd, w1, w2, w3, p3, p7, hsl _, hx', Int.toNat_natCast, true_and, V66.l, V64.l, V62.l, V60.l, hwl, d0, d5, d6, d9, Bool.not_false, Bool.not_true, V27.l, V23.l, V34.l, slA_none, slA_some, slL_some, zero27, beq_self_eq_true, bne_self_eq_false, BEq.rfl]); first | exact h41)); all_goals (try rfl))
        | ((with_reducible first | apply op_fcall (f := 79) | apply d_fcall (f := 79)); (focus ((try simp only [W0, reduceIte, Nat.reduceEqDiff, Nat.reduceAdd, Nat.reduceSub, Nat.reduceLeDiff, hd, w1, w2, w3, p3, p7, hsl _, hx', Int.toNat_natCast, true_and, V66.l, V64.l, V62.l, V60.l, hwl, d0, d5, d6, d9, Bool.not_false, Bool.not_true, V27.l, V23.l, V34.l, slA_none, slA_some, slL_some, zero27, beq_self_eq_true, bne_self_eq_false, BEq.rfl]); first | exact h79)); all_goals (try rfl))
        | ((with_reducible first | apply op_isB | apply d_isV); (focus rfl); (focus (simp only [W0, reduceIte, Nat.reduceEqDiff, Nat.reduceAdd, Nat.reduceSub, Nat.reduceLeDiff, hd, w1, w2, w3, p3, p7, hsl _, hx', Int.toNat_natCast, true_and, V66.l, V64.l, V62.l, V60.l, hwl, d0, d5, d6, d9, Bool.not_false, Bool.not_true, V27.l, V23.l, V34.l, slA_none, slA_some, slL_some, zero27, beq_self_eq_true, bne_self_eq_false, BEq.rfl]; rfl)); intro c' hc'; try with_reducible first | cases (show true = c' from hc') | cases (show false = c' from hc'))
        | ((with_reducible first | apply op_step | apply op_step0 | apply d_ld | apply d_st | apply d_new | apply d_box | apply d_bsl | apply d_apw | apply d_apa | apply d_v); (focus (simp only [W0, reduceIte, Nat.reduceEqDiff, Nat.reduceAdd, Nat.reduceSub, Nat.reduceLeDiff, hd, w1, w2, w3, p3, p7, hsl _, hx', Int.toNat_natCast, true_and, V66.l, V64.l, V62.l, V60.l, hwl, d0, d5, d6, d9, Bool.not_false, Bool.not_true, V27.l, V23.l, V34.l, slA_none, slA_some, slL_some, zero27, beq_self_eq_true, bne_self_eq_false, BEq.rfl]; rfl)); all_goals (try rfl))
        | ((with_reducible apply k_blk_y); (focus decide))
      all_goals first | (exfalso; refine Bool.false_ne_true ?_; first | assumption | (symm; assumption)) | (exact absurd ‹true = false› (by decide)) | skip
      · have hb1 : breaksF v c m.f4 (slL m.f9) = true := breaks_yes hk' (by simp only [decide_eq_true_eq] at *; assumption) (by rw [hte, htx]; simp only [bne_iff_ne] at *; assumption)
        rw [← hG1 hb1]
        ((with_reducible apply ret_plain); (focus (simp only [W0, reduceIte, Nat.reduceEqDiff, Nat.reduceAdd, Nat.reduceSub, Nat.reduceLeDiff, hd, w1, w2, w3, p3, p7, hsl _, hx', Int.toNat_natCast, true_and, V66.l, V64.l, V62.l, V60.l, hwl, d0, d5, d6, d9, Bool.not_false, Bool.not_true, V27.l, V23.l, V34.l, slA_none, slA_some, slL_some, zero27, beq_self_eq_true, bne_self_eq_false, BEq.rfl]; rfl)); (focus (simp [resV, idsV, idsL, slA_ids])))
        exact ⟨[], by simp [resV, F1, frT, frL, thawV, takeV, zero27, zero34, V27.l, V34.l, V23.l, slA_none]⟩
      · have hb1 : breaksF v c m.f4 (slL m.f9) = false := breaks_out hpa (.inr (by simp only [decide_eq_false_iff_not] at *; omega)) hall hcl
        rw [← hG2 hb1 hc']
        ((with_reducible apply ret_plain); (focus (simp only [W0, reduceIte, Nat.reduceEqDiff, Nat.reduceAdd, Nat.reduceSub, Nat.reduceLeDiff, hd, w1, w2, w3, p3, p7, hsl _, hx', Int.toNat_natCast, true_and, V66.l, V64.l, V62.l, V60.l, hwl, d0, d5, d6, d9, Bool.not_false, Bool.not_true, V27.l, V23.l, V34.l, slA_none, slA_some, slL_some, zero27, beq_self_eq_true, bne_self_eq_false, BEq.rfl]; rfl)); (focus (simp [resV, idsV, idsL, slA_ids])))
        exact ⟨[], by simp [resV, F1, frT, frL, thawV, takeV, zero27, zero34, V27.l, V34.l, V23.l, slA_none]⟩
      · have hb1 : breaksF v c m.f4 (slL m.f9) = false := breaks_out hpa (.inr (by simp only [decide_eq_false_iff_not] at *; omega)) hall hcl
        rw [← hG3 hb1 hc']
        ((with_reducible apply ret_plain); (focus (simp only [W0, reduceIte, Nat.reduceEqDiff, Nat.reduceAdd, Nat.reduceSub, Nat.reduceLeDiff, hd, w1, w2, w3, p3, p7, hsl _, hx', Int.toNat_natCast, true_and, V66.l, V64.l, V62.l, V60.l, hwl, d0, d5, d6, d9, Bool.not_false, Bool.not_true, V27.l, V23.l, V34.l, slA_none, slA_some, slL_some, zero27, beq_self_eq_true, bne_self_eq_false, BEq.rfl]; rfl)); (focus (simp [resV, idsV, idsL, slA_ids])))
        exact ⟨[], by simp [resV, F1, frT, frL, thawV, takeV, answer, V27.l, V34.l, V23.l, slA_none, mnF, mxF] <;> rfl⟩
      · refine k_loop_n (((slL m.f9)).length - (k + 1)) (by omega) (back_take (k := 4) (Nat.zero_le _) (by simp) (by simp [look, idsL, idsV, slA_ids]) (by simp [idsR, idsL, idsV, slA_ids]) ⟨k + 1, by omega, rfl, by simp [look, w3], rfl, fun j hj hjl => ?_⟩)
        rcases Nat.lt_or_ge j k with hjk | hjk
        · exact hall j hjk hjl
        · obtain rfl : j = k := by omega
          rw [hty, htx]; simpa using hc'
    · have hib : inB v (m.f4 + (k : Int) + 1) = false := by
        unfold inB; rw [Bool.and_eq_false_iff]; right; exact decide_eq_false (by omega)
      rw [hib] at h41
      generalize entA v (m.f4 + (k : Int) + 1) = y at h41
      repeat' first
        | (with_reducible first | apply c_seq | apply c_reg | apply c_dreg0 | apply c_block | apply c_ret | apply c_exit | apply c_skip | apply ops_nil | apply d_nil | apply k_seq_n | apply k_seq_r | apply k_seq_x | apply k_blk_n | apply k_blk_r | apply k_blk_x | apply k_end_n | apply k_end_r | apply k_loop_x | apply k_loop_r | apply c_dreg1 | apply c_dreg2)
        | ((with_reducible first | apply op_gS | apply op_g0 | apply d_gS | apply d_g0); (focus (simp only [W0, reduceIte, Nat.reduceEqDiff, Nat.reduceAdd, Nat.reduceSub, Nat.reduceLeDiff, hd, w1, w2, w3, p3, p7, hsl _, hx', Int.toNat_natCast, true_and, V66.l, V64.l, V62.l, V60.l, hwl, d0, d5, d6, d9, Bool.not_false, Bool.not_true, V27.l, V23.l, V34.l, slA_none, slA_some, slL_some, zero27, beq_self_eq_true, bne_self_eq_false, BEq.rfl]; rfl)); (with_reducible first | apply g_no | apply g_T | apply g_F); all_goals (try (intro hc; first | exact absurd hc (by decide) | subst hc | clear hc)))
        | ((with_reducible apply c_cond); (focus (simp only [W0, reduceIte, Nat.reduceEqDiff, Nat.reduceAdd, Nat.reduceSub, Nat.reduceLeDiff, hd, w1, w2, w3, p3, p7, hsl _, hx', Int.toNat_natCast, true_and, V66.l, V64.l, V62.l, V60.l, hwl, d0, d5, d6, d9, Bool.not_false, Bool.not_true, V27.l, V23.l, V34.l, slA_none, slA_some, slL_some, zero27, beq_self_eq_true, bne_self_eq_false, BEq.rfl]; rfl)); all_goals (intro hc; first | exact absurd hc (by decide) | subst hc | clear hc))
        | ((with_reducible first | apply op_fcall (f := 41) | apply d_fcall (f := 41)); (focus ((try simp only [W0, reduceIte, Nat.reduceEqDiff, Nat.reduceAdd, Nat.reduceSub, Nat.reduceLeDiff, hd, w1, w2, w3, p3, p7, hsl _, hx', Int.toNat_natCast, true_and, V66.l, V64.l, V62.l, V60.l, hwl, d0, d5, d6, d9, Bool.not_false, Bool.not_true, V27.l, V23.l, V34.l, slA_none, slA_some, slL_some, zero27, beq_self_eq_true, bne_self_eq_false, BEq.rfl]); first | exact h41)); all_goals (try rfl))
        | ((with_reducible first | apply op_isB | apply d_isV); (focus rfl); (focus (simp only [W0, reduceIte, Nat.reduceEqDiff, Nat.reduceAdd, Nat.reduceSub, Nat.reduceLeDiff, hd, w1, w2, w3, p3, p7, hsl _, hx', Int.toNat_natCast, true_and, V66.l, V64.l, V62.l, V60.l, hwl, d0, d5, d6, d9, Bool.not_false, Bool.not_true, V27.l, V23.l, V34.l, slA_none, slA_some, slL_some, zero27, beq_self_eq_true, bne_self_eq_false, BEq.rfl]; rfl)); intro c' hc'; try with_reducible first | cases (show true = c' from hc') | cases (show false = c' from hc'))
        | ((with_reducible first | apply op_step | apply op_step0 | apply d_ld | apply d_st | apply d_new | apply d_box | apply d_bsl | apply d_apw | apply d_apa | apply d_v); (focus (simp only [W0, reduceIte, Nat.reduceEqDiff, Nat.reduceAdd, Nat.reduceSub, Nat.reduceLeDiff, hd, w1, w2, w3, p3, p7, hsl _, hx', Int.toNat_natCast, true_and, V66.l, V64.l, V62.l, V60.l, hwl, d0, d5, d6, d9, Bool.not_false, Bool.not_true, V27.l, V23.l, V34.l, slA_none, slA_some, slL_some, zero27, beq_self_eq_true, bne_self_eq_false, BEq.rfl]; rfl)); all_goals (try rfl))
        | ((with_reducible apply k_blk_y); (focus decide))
      all_goals first | (exfalso; refine Bool.false_ne_true ?_; first | assumption | (symm; assumption)) | (exact absurd ‹true = false› (by decide)) | skip
      all_goals (refine k_loop_n (((slL m.f9)).length - (k + 1)) (by omega) (back_take (k := 4) (Nat.zero_le _) (by simp) (by simp [look, idsL, idsV, slA_ids]) (by simp [idsR, idsL, idsV, slA_ids]) ⟨k + 1, by omega, rfl, by simp [look, w3], rfl, fun j hj hjl => ?_⟩); rcases Nat.lt_or_ge j k with hjk | hjk; exact hall j hjk hjl; (exfalso; omega))
  · obtain rfl : k = ((slL m.f9)).length := by omega
    have hd : decide (((((slL m.f9)).length : Nat) : Int) < ((((slL m.f9)).length : Nat) : Int)) = false := decide_eq_false (by omega)
    have hbf := breaks_out hpa (.inl rfl) hall hcl
    repeat' first
      | (with_reducible first | apply c_seq | apply c_reg | apply c_dreg0 | apply c_block | apply c_ret | apply c_exit | apply c_skip | apply ops_nil | apply d_nil | apply k_seq_n | apply k_seq_r | apply k_seq_x | apply k_blk_n | apply k_blk_r | apply k_blk_x | apply k_end_n | apply k_end_r | apply k_loop_x | apply k_loop_r | apply c_dreg1 | apply c_dreg2)
      | ((with_reducible first | apply op_gS | apply op_g0 | apply d_gS | apply d_g0); (focus (simp only [W0, reduceIte, Nat.reduceEqDiff, Nat.reduceAdd, Nat.reduceSub, Nat.reduceLeDiff, hd, hwl, d0, d5, d6, d9, Bool.not_false, Bool.not_true, V27.l, V23.l, V34.l, slA_none, slA_some, slL_some, zero27, beq_self_eq_true, bne_self_eq_false, BEq.rfl]; rfl)); (with_reducible first | apply g_no | apply g_T | apply g_F); all_goals (try (intro hc; first | exact absurd hc (by decide) | subst hc | clear hc)))
      | ((with_reducible apply c_cond); (focus (simp only [W0, reduceIte, Nat.reduceEqDiff, Nat.reduceAdd, Nat.reduceSub, Nat.reduceLeDiff, hd, hwl, d0, d5, d6, d9, Bool.not_false, Bool.not_true, V27.l, V23.l, V34.l, slA_none, slA_some, slL_some, zero27, beq_self_eq_true, bne_self_eq_false, BEq.rfl]; rfl)); all_goals (intro hc; first | exact absurd hc (by decide) | subst hc | clear hc))
      | ((with_reducible first | apply op_fcall (f := 79) | apply d_fcall (f := 79)); (focus ((try simp only [W0, reduceIte, Nat.reduceEqDiff, Nat.reduceAdd, Nat.reduceSub, Nat.reduceLeDiff, hd, hwl, d0, d5, d6, d9, Bool.not_false, Bool.not_true, V27.l, V23.l, V34.l, slA_none, slA_some, slL_some, zero27, beq_self_eq_true, bne_self_eq_false, BEq.rfl]); first | exact h79)); all_goals (try rfl))
      | ((with_reducible first | apply op_isB | apply d_isV); (focus rfl); (focus (simp only [W0, reduceIte, Nat.reduceEqDiff, Nat.reduceAdd, Nat.reduceSub, Nat.reduceLeDiff, hd, hwl, d0, d5, d6, d9, Bool.not_false, Bool.not_true, V27.l, V23.l, V34.l, slA_none, slA_some, slL_some, zero27, beq_self_eq_true, bne_self_eq_false, BEq.rfl]; rfl)); intro c' hc'; try with_reducible first | cases (show true = c' from hc') | cases (show false = c' from hc'))
      | ((with_reducible first | apply op_step | apply op_step0 | apply d_ld | apply d_st | apply d_new | apply d_box | apply d_bsl | apply d_apw | apply d_apa | apply d_v); (focus (simp only [W0, reduceIte, Nat.reduceEqDiff, Nat.reduceAdd, Nat.reduceSub, Nat.reduceLeDiff, hd, hwl, d0, d5, d6, d9, Bool.not_false, Bool.not_true, V27.l, V23.l, V34.l, slA_none, slA_some, slL_some, zero27, beq_self_eq_true, bne_self_eq_false, BEq.rfl]; rfl)); all_goals (try rfl))
    all_goals first | (exfalso; refine Bool.false_ne_true ?_; first | assumption | (symm; assumption)) | (exact absurd ‹true = false› (by decide)) | skip
    · rw [← hG2 hbf hc']
      ((with_reducible apply ret_plain); (focus (simp only [W0, reduceIte, Nat.reduceEqDiff, Nat.reduceAdd, Nat.reduceSub, Nat.reduceLeDiff, hd, hwl, d0, d5, d6, d9, Bool.not_false, Bool.not_true, V27.l, V23.l, V34.l, slA_none, slA_some, slL_some, zero27, beq_self_eq_true, bne_self_eq_false, BEq.rfl]; rfl)); (focus (simp [resV, idsV, idsL, slA_ids])))
      exact ⟨[], by simp [resV, F1, frT, frL, thawV, takeV, zero27, zero34, V27.l, V34.l, V23.l, slA_none]⟩
    · rw [← hG3 hbf hc']
      ((with_reducible apply ret_plain); (focus (simp only [W0, reduceIte, Nat.reduceEqDiff, Nat.reduceAdd, Nat.reduceSub, Nat.reduceLeDiff, hd, hwl, d0, d5, d6, d9, Bool.not_false, Bool.not_true, V27.l, V23.l, V34.l, slA_none, slA_some, slL_some, zero27, beq_self_eq_true, bne_self_eq_false, BEq.rfl]; rfl)); (focus (simp [resV, idsV, idsL, slA_ids])))
      exact ⟨[], by simp [resV, F1, frT, frL, thawV, takeV, answer, V27.l, V34.l, V23.l, slA_none, mnF, mxF] <;> rfl⟩
theorem grow_B (v : V27) (hv : v.ok) (c g0 g1 g2 g3 g4 g5 g6 g7 : Int) (g8 : Bool) (g10 : V23) (g11 g12 : Option (List (List AV))) (l : List (List AV)) (hm : (V34.mk g0 g1 g2 g3 g4 g5 g6 g7 g8 (some l) g10 g11 g12).o9) (hl : lightH v) (hh : hardF v = true) (hr : rightF v c (V34.mk g0 g1 g2 g3 g4 g5 g6 g7 g8 (some l) g10 g11 g12) = true) (hb : g4 < v.f2) (n : Nat) (hn : mnF (v.f2 - g4) (l.length : Int) = (n : Int)) (X : V27) (e : Int) (h79 : FCall prog 79 [.agg v.l, .int .i64 v.f2, slA 66 (some (l.drop n))] (.tup [.agg X.l, .int .i64 e])) : FCall prog 36 [.agg v.l, .int .i64 c, .agg (V34.mk g0 g1 g2 g3 g4 g5 g6 g7 g8 (some l) g10 g11 g12).l] (if breaksF v c v.f2 (l.drop n) = true then takeV zero27 0 zero34 13 else if e ≠ 0 then takeV zero27 0 zero34 e else takeV X (mxF c (mnF g6 (v.f2 + (((l.drop n)).length : Int)))) (answer true (v.f2 + (((l.drop n)).length : Int))) 0) := by
  obtain ⟨l6, l5⟩ := hl
  have hl : lightH v := ⟨l6, l5⟩
  obtain ⟨b1, b2⟩ := hard_base hh
  obtain ⟨r1, r2, r3, r4, r5, r6, r7⟩ := right_facts hr
  simp only [slL_some] at r3 r4 r5 r6 r7
  have hlast := lastI_eq hh (Nat.le_trans l6 (by decide))
  have hs : seen v v.f2 := ⟨b1, b2, by omega, by omega, by omega⟩
  have h76 := f76 v hv
  rw [hh] at h76
  have h77 := f77 c v.f2 (lastI (slL v.f6) v.f2)
  rw [show withinF c v.f2 (lastI (slL v.f6) v.f2) = true by simp only [withinF, Bool.and_eq_true, decide_eq_true_eq]; omega] at h77
  have h77b := f77 g4 0 1099511627776
  rw [show withinF g4 0 1099511627776 = true by simp only [withinF, Bool.and_eq_true, decide_eq_true_eq]; omega] at h77b
  have d5 : decide (g5 < 0) = false := decide_eq_false (by omega)
  have d6 : decide (g6 < 0) = false := decide_eq_false (by omega)
  have d9 : decide (((l.length : Nat) : Int) > 8) = false := decide_eq_false (by omega)
  have h78 := f78 v hv v.f2 v.f3 hs
  rw [fits_base hh] at h78
  have d0 : decide (g4 < v.f2) = true := decide_eq_true hb
  have hnl : n ≤ l.length := by unfold mnF at hn; split at hn <;> omega
  have ws : IntKind.i64.wrap (v.f2 - g4) = v.f2 - g4 := by simp [IntKind.wrap, IntKind.signed, IntKind.bits]; omega
  have hmn : (if (l.length : Int) < v.f2 - g4 then (l.length : Int) else v.f2 - g4) = (n : Int) := hn
  have q3 : (0 ≤ (n : Int)) = True := eq_true (by omega)
  have q4 : ((n : Int) ≤ ((l.length : Nat) : Int)) = True := eq_true (by omega)
  have hdl : (l.drop n).length ≤ 8 := by rw [List.length_drop]; omega
  obtain ⟨a, hpa⟩ : ∃ a : Nat, v.f2 - v.f2 = (a : Int) := ⟨(v.f2 - v.f2).toNat, by omega⟩
  have hcl : c ≤ v.f2 + (slL v.f6).length := by omega
  generalize hG : (if breaksF v c v.f2 (l.drop n) = true then takeV zero27 0 zero34 13 else if e ≠ 0 then takeV zero27 0 zero34 e else takeV X (mxF c (mnF g6 (v.f2 + (((l.drop n)).length : Int)))) (answer true (v.f2 + (((l.drop n)).length : Int))) 0) = G
  have hG1 : breaksF v c v.f2 (l.drop n) = true → takeV zero27 0 zero34 13 = G := fun h => by rw [← hG, if_pos h]
  have hG2 : breaksF v c v.f2 (l.drop n) = false → (e != 0) = true → takeV zero27 0 zero34 e = G := fun h h2 => by rw [← hG, if_neg (by rw [h]; simp), if_pos (by simpa using h2)]
  have hG3 : breaksF v c v.f2 (l.drop n) = false → (e != 0) = false → takeV X (mxF c (mnF g6 (v.f2 + (((l.drop n)).length : Int)))) (answer true (v.f2 + (((l.drop n)).length : Int))) 0 = G := fun h h2 => by rw [← hG, if_neg (by rw [h]; simp), if_neg (by simpa using h2)]
  clear hG
  have ho : ∀ us ∈ (l.drop n), HasT prog 66 us := (has_drop hm.h9.1)
  have hwl : IntKind.i64.wrap (v.f2 + (((l.drop n)).length : Int)) = v.f2 + (((l.drop n)).length : Int) := by simp [IntKind.wrap, IntKind.signed, IntKind.bits]; omega
  refine fcall mixed t36 (by simp [m36]) (by simp [idsL, idsV, V27.ids, V34.ids]) (f_body ?_)
  simp only [m36, argEnv, List.length_nil, List.nil_append, List.cons_append, Nat.zero_add, V27.l, V23.l, V34.l, zero27, zero34, answer, takeV, slA_none, slA_some]
  repeat' first
    | (with_reducible first | apply c_seq | apply c_reg | apply c_dreg0 | apply c_block | apply c_ret | apply c_exit | apply c_skip | apply ops_nil | apply d_nil | apply k_seq_n | apply k_seq_r | apply k_seq_x | apply k_blk_n | apply k_blk_r | apply k_blk_x | apply k_end_n | apply k_end_r | apply k_loop_x | apply k_loop_r | apply c_dreg1 | apply c_dreg2)
    | ((with_reducible first | apply op_gS | apply op_g0 | apply d_gS | apply d_g0); (focus (simp only [W0, reduceIte, Nat.reduceEqDiff, Nat.reduceAdd, Nat.reduceSub, Nat.reduceLeDiff, d0, d5, d6, d9, ws, hmn, q3, q4, bound, true_and, Int.toNat_natCast, List.take_length, Bool.not_false, Bool.not_true, V27.l, V23.l, V34.l, slA_none, slA_some, slL_some, zero27, beq_self_eq_true, bne_self_eq_false, BEq.rfl]; rfl)); (with_reducible first | apply g_no | apply g_T | apply g_F); all_goals (try (intro hc; first | exact absurd hc (by decide) | subst hc | clear hc)))
    | ((with_reducible apply c_cond); (focus (simp only [W0, reduceIte, Nat.reduceEqDiff, Nat.reduceAdd, Nat.reduceSub, Nat.reduceLeDiff, d0, d5, d6, d9, ws, hmn, q3, q4, bound, true_and, Int.toNat_natCast, List.take_length, Bool.not_false, Bool.not_true, V27.l, V23.l, V34.l, slA_none, slA_some, slL_some, zero27, beq_self_eq_true, bne_self_eq_false, BEq.rfl]; rfl)); all_goals (intro hc; first | exact absurd hc (by decide) | subst hc | clear hc))
    | ((with_reducible first | apply op_fcall (f := 76) | apply d_fcall (f := 76)); (focus ((try simp only [W0, reduceIte, Nat.reduceEqDiff, Nat.reduceAdd, Nat.reduceSub, Nat.reduceLeDiff, d0, d5, d6, d9, ws, hmn, q3, q4, bound, true_and, Int.toNat_natCast, List.take_length, Bool.not_false, Bool.not_true, V27.l, V23.l, V34.l, slA_none, slA_some, slL_some, zero27, beq_self_eq_true, bne_self_eq_false, BEq.rfl]); first | exact h76)); all_goals (try rfl))
    | ((with_reducible first | apply op_fcall (f := 17) | apply d_fcall (f := 17)); (focus ((try simp only [W0, reduceIte, Nat.reduceEqDiff, Nat.reduceAdd, Nat.reduceSub, Nat.reduceLeDiff, d0, d5, d6, d9, ws, hmn, q3, q4, bound, true_and, Int.toNat_natCast, List.take_length, Bool.not_false, Bool.not_true, V27.l, V23.l, V34.l, slA_none, slA_some, slL_some, zero27, beq_self_eq_true, bne_self_eq_false, BEq.rfl]); first | exact f17 v hv)); all_goals (try rfl))
    | ((with_reducible first | apply op_fcall (f := 77) | apply d_fcall (f := 77)); (focus ((try simp only [W0, reduceIte, Nat.reduceEqDiff, Nat.reduceAdd, Nat.reduceSub, Nat.reduceLeDiff, d0, d5, d6, d9, ws, hmn, q3, q4, bound, true_and, Int.toNat_natCast, List.take_length, Bool.not_false, Bool.not_true, V27.l, V23.l, V34.l, slA_none, slA_some, slL_some, zero27, beq_self_eq_true, bne_self_eq_false, BEq.rfl]); first | exact h77 | exact h77b)); all_goals (try rfl))
    | ((with_reducible first | apply op_fcall (f := 78) | apply d_fcall (f := 78)); (focus ((try simp only [W0, reduceIte, Nat.reduceEqDiff, Nat.reduceAdd, Nat.reduceSub, Nat.reduceLeDiff, d0, d5, d6, d9, ws, hmn, q3, q4, bound, true_and, Int.toNat_natCast, List.take_length, Bool.not_false, Bool.not_true, V27.l, V23.l, V34.l, slA_none, slA_some, slL_some, zero27, beq_self_eq_true, bne_self_eq_false, BEq.rfl]); first | exact h78)); all_goals (try rfl))
    | ((with_reducible first | apply op_fcall (f := 33) | apply d_fcall (f := 33)); (focus ((try simp only [W0, reduceIte, Nat.reduceEqDiff, Nat.reduceAdd, Nat.reduceSub, Nat.reduceLeDiff, d0, d5, d6, d9, ws, hmn, q3, q4, bound, true_and, Int.toNat_natCast, List.take_length, Bool.not_false, Bool.not_true, V27.l, V23.l, V34.l, slA_none, slA_some, slL_some, zero27, beq_self_eq_true, bne_self_eq_false, BEq.rfl]); first | exact f33 v hl)); all_goals (try rfl))
    | ((with_reducible first | apply op_isB | apply d_isV); (focus rfl); (focus (simp only [W0, reduceIte, Nat.reduceEqDiff, Nat.reduceAdd, Nat.reduceSub, Nat.reduceLeDiff, d0, d5, d6, d9, ws, hmn, q3, q4, bound, true_and, Int.toNat_natCast, List.take_length, Bool.not_false, Bool.not_true, V27.l, V23.l, V34.l, slA_none, slA_some, slL_some, zero27, beq_self_eq_true, bne_self_eq_false, BEq.rfl]; rfl)); intro c' hc'; try with_reducible first | cases (show true = c' from hc') | cases (show false = c' from hc'))
    | ((with_reducible first | apply op_step | apply op_step0 | apply d_ld | apply d_st | apply d_new | apply d_box | apply d_bsl | apply d_apw | apply d_apa | apply d_v); (focus (simp only [W0, reduceIte, Nat.reduceEqDiff, Nat.reduceAdd, Nat.reduceSub, Nat.reduceLeDiff, d0, d5, d6, d9, ws, hmn, q3, q4, bound, true_and, Int.toNat_natCast, List.take_length, Bool.not_false, Bool.not_true, V27.l, V23.l, V34.l, slA_none, slA_some, slL_some, zero27, beq_self_eq_true, bne_self_eq_false, BEq.rfl]; rfl)); all_goals (try rfl))
  all_goals first | (exfalso; refine Bool.false_ne_true ?_; first | assumption | (symm; assumption)) | (exact absurd ‹true = false› (by decide)) | skip
  refine c_loop [1, 3, 5, 6, 7, 8, 9, 12, 14, 15] (fun z env rows => ∃ k : Nat, k ≤ ((l.drop n)).length ∧ z = ((l.drop n)).length - k ∧ env = [(1, .int .i64 c), (3, .ptr 0 0), (5, .ptr 1 0), (6, .ptr 2 0), (7, .int .i64 0), (8, .ptr 3 0), (9, .int .i64 0), (12, .int .i64 (v.f2)), (14, slA 66 (some (l.drop n))), (15, .int .i64 (k : Int))] ∧ rows = [Row.box 27 [.int .i64 v.f0, .int .i64 v.f1, .int .i64 v.f2, .int .i64 v.f3, .int .i64 v.f4.f0, .int .i64 v.f4.f1, .int .i64 v.f4.f2, .int .i64 v.f4.f3, slA 5 v.f5, slA 66 v.f6], Row.box 34 [.int .i64 g0, .int .i64 g1, .int .i64 g2, .int .i64 g3, .int .i64 g4, .int .i64 g5, .int .i64 g6, .int .i64 g7, .bool g8, .fz 66 l, .int .i64 g10.f0, .int .i64 g10.f1, .int .i64 g10.f2, .int .i64 g10.f3, slA 5 g11, slA 34 g12], Row.box 27 [.int .i64 0, .int .i64 0, .int .i64 0, .int .i64 0, .int .i64 0, .int .i64 0, .int .i64 0, .int .i64 0, .nil 5, .nil 66], Row.box 34 [.int .i64 0, .int .i64 0, .int .i64 0, .int .i64 0, .int .i64 0, .int .i64 0, .int .i64 0, .int .i64 0, .bool false, .nil 66, .int .i64 0, .int .i64 0, .int .i64 0, .int .i64 0, .nil 5, .nil 34]] ∧ ∀ j, j < k → a + j < (slL v.f6).length → tmA (slL v.f6) (a + j) = tmA ((l.drop n)) j) ((l.drop n)).length
    (back_take (k := 4) (Nat.zero_le _) (by simp) (by simp [look, idsL, idsV, slA_ids]) (by simp [idsR, idsL, idsV, slA_ids]) ⟨0, Nat.zero_le _, rfl, rfl, rfl, fun j hj => by omega⟩) ?_
  rintro z env rows ⟨k, hk, rfl, rfl, rfl, hall⟩
  rcases Nat.lt_or_ge k ((l.drop n)).length with hk' | hk'
  · have hd : decide ((k : Int) < ((((l.drop n)).length : Nat) : Int)) = true := decide_eq_true (by omega)
    obtain ⟨x, hx, hxok⟩ := el66 (o := some ((l.drop n))) ho hk'
    have hx' : ((l.drop n))[k]? = some x.l := hx
    have p7 : ((k : Int) < ((((l.drop n)).length : Nat) : Int)) = True := eq_true (by omega)
    have p3 : (0 ≤ (k : Int)) = True := eq_true (by omega)
    have w1 : IntKind.i64.wrap (v.f2 + (k : Int)) = v.f2 + (k : Int) := by simp [IntKind.wrap, IntKind.signed, IntKind.bits]; omega
    have w2 : IntKind.i64.wrap (v.f2 + (k : Int) + 1) = v.f2 + (k : Int) + 1 := by simp [IntKind.wrap, IntKind.signed, IntKind.bits]; omega
    have w3 : IntKind.i64.wrap ((k : Int) + 1) = ((k + 1 : Nat) : Int) := by simp [IntKind.wrap, IntKind.signed, IntKind.bits]; omega
    have hsl : slA_at_fact (some (l.drop n)) k x := by intro kk; exact slA_at 66 _ (k := kk) hx
    have h41 := f41 v hv (v.f2 + (k : Int) + 1) (seen_at hs (by omega) (by omega))
    rcases Nat.lt_or_ge (a + k) (slL v.f6).length with hin | hin
    · obtain ⟨y, hy, hyok⟩ := el66 (o := v.f6) hv.h6.1 hin
      have hib : inB v (v.f2 + (k : Int) + 1) = true := by simp only [inB, Bool.and_eq_true, decide_eq_true_eq]; omega
      have hen : entA v (v.f2 + (k : Int) + 1) = y := by
        unfold entA; rw [if_pos hib]; unfold getE
        rw [show posN v (v.f2 + (k : Int) + 1) = a + k by unfold posN; omega, hy]; exact ent66_l y
      have hte : termF v (v.f2 + (k : Int) + 1) = y.f0 := by
        have := term_next (v := v) (p := v.f2 + k) (a := a + k) (by omega) hy
        rw [this]; exact congrArg V66.f0 (ent66_l y)
      have htx : tmA ((l.drop n)) k = x.f0 := by rw [tmA_some hx']; exact congrArg V66.f0 (ent66_l x)
      have hty : tmA (slL v.f6) (a + k) = y.f0 := by rw [tmA_some hy]; exact congrArg V66.f0 (ent66_l y)
      rw [hib, hen] at h41
      repeat' first
        | (with_reducible first | apply c_seq | apply c_reg | apply c_dreg0 | apply c_block | apply c_ret | apply c_exit | apply c_skip | apply ops_nil | apply d_nil | apply k_seq_n | apply k_seq_r | apply k_seq_x | apply k_blk_n | apply k_blk_r | apply k_blk_x | apply k_end_n | apply k_end_r | apply k_loop_x | apply k_loop_r | apply c_dreg1 | apply c_dreg2)
        | ((with_reducible first | apply op_gS | apply op_g0 | apply d_gS | apply d_g0); (focus (simp only [W0, reduceIte, Nat.reduceEqDiff, Nat.reduceAdd, Nat.reduceSub, Nat.reduceLeDiff, hd, w1, w2, w3, p3, p7, hsl _, hx', Int.toNat_natCast, true_and, V66.l, V64.l, V62.l, V60.l, hwl, d0, d5, d6, d9, ws, hmn, q3, q4, bound, true_and, Int.toNat_natCast, List.take_length, Bool.not_false, Bool.not_true, V27.l, V23.l, V34.l, slA_none, slA_some, slL_some, zero27, beq_self_eq_true, bne_self_eq_false, BEq.rfl]; rfl)); (with_reducible first | apply g_no | apply g_T | apply g_F); all_goals (try (intro hc; first | exact absurd hc (by decide) | subst hc | clear hc)))
        | ((with_reducible apply c_cond); (focus (simp only [W0, reduceIte, Nat.reduceEqDiff, Nat.reduceAdd, Nat.reduceSub, Nat.reduceLeDiff, hd, w1, w2, w3, p3, p7, hsl _, hx', Int.toNat_natCast, true_and, V66.l, V64.l, V62.l, V60.l, hwl, d0, d5, d6, d9, ws, hmn, q3, q4, bound, true_and, Int.toNat_natCast, List.take_length, Bool.not_false, Bool.not_true, V27.l, V23.l, V34.l, slA_none, slA_some, slL_some, zero27, beq_self_eq_true, bne_self_eq_false, BEq.rfl]; rfl)); all_goals (intro hc; first | exact absurd hc (by decide) | subst hc | clear hc))
        | ((with_reducible first | apply op_fcall (f := 41) | apply d_fcall (f := 41)); (focus ((try simp only [W0, reduceIte, Nat.reduceEqDiff, Nat.reduceAdd, Nat.reduceSub, Nat.reduceLeDiff, hd, w1, w2, w3, p3, p7, hsl _, hx', Int.toNat_natCast, true_and, V66.l, V64.l, V62.l, V60.l, hwl, d0, d5, d6, d9, ws, hmn, q3, q4, bound, true_and, Int.toNat_natCast, List.take_length, Bool.not_false, Bool.not_true, V27.l, V23.l, V34.l, slA_none, slA_some, slL_some, zero27, beq_self_eq_true, bne_self_eq_false, BEq.rfl]); first | exact h41)); all_goals (try rfl))
        | ((with_reducible first | apply op_fcall (f := 79) | apply d_fcall (f := 79)); (focus ((try simp only [W0, reduceIte, Nat.reduceEqDiff, Nat.reduceAdd, Nat.reduceSub, Nat.reduceLeDiff, hd, w1, w2, w3, p3, p7, hsl _, hx', Int.toNat_natCast, true_and, V66.l, V64.l, V62.l, V60.l, hwl, d0, d5, d6, d9, ws, hmn, q3, q4, bound, true_and, Int.toNat_natCast, List.take_length, Bool.not_false, Bool.not_true, V27.l, V23.l, V34.l, slA_none, slA_some, slL_some, zero27, beq_self_eq_true, bne_self_eq_false, BEq.rfl]); first | exact h79)); all_goals (try rfl))
        | ((with_reducible first | apply op_isB | apply d_isV); (focus rfl); (focus (simp only [W0, reduceIte, Nat.reduceEqDiff, Nat.reduceAdd, Nat.reduceSub, Nat.reduceLeDiff, hd, w1, w2, w3, p3, p7, hsl _, hx', Int.toNat_natCast, true_and, V66.l, V64.l, V62.l, V60.l, hwl, d0, d5, d6, d9, ws, hmn, q3, q4, bound, true_and, Int.toNat_natCast, List.take_length, Bool.not_false, Bool.not_true, V27.l, V23.l, V34.l, slA_none, slA_some, slL_some, zero27, beq_self_eq_true, bne_self_eq_false, BEq.rfl]; rfl)); intro c' hc'; try with_reducible first | cases (show true = c' from hc') | cases (show false = c' from hc'))
        | ((with_reducible first | apply op_step | apply op_step0 | apply d_ld | apply d_st | apply d_new | apply d_box | apply d_bsl | apply d_apw | apply d_apa | apply d_v); (focus (simp only [W0, reduceIte, Nat.reduceEqDiff, Nat.reduceAdd, Nat.reduceSub, Nat.reduceLeDiff, hd, w1, w2, w3, p3, p7, hsl _, hx', Int.toNat_natCast, true_and, V66.l, V64.l, V62.l, V60.l, hwl, d0, d5, d6, d9, ws, hmn, q3, q4, bound, true_and, Int.toNat_natCast, List.take_length, Bool.not_false, Bool.not_true, V27.l, V23.l, V34.l, slA_none, slA_some, slL_some, zero27, beq_self_eq_true, bne_self_eq_false, BEq.rfl]; rfl)); all_goals (try rfl))
        | ((with_reducible apply k_blk_y); (focus decide))
      all_goals first | (exfalso; refine Bool.false_ne_true ?_; first | assumption | (symm; assumption)) | (exact absurd ‹true = false› (by decide)) | skip
      · have hb1 : breaksF v c v.f2 (l.drop n) = true := breaks_yes hk' (by simp only [decide_eq_true_eq] at *; assumption) (by rw [hte, htx]; simp only [bne_iff_ne] at *; assumption)
        rw [← hG1 hb1]
        ((with_reducible apply ret_plain); (focus (simp only [W0, reduceIte, Nat.reduceEqDiff, Nat.reduceAdd, Nat.reduceSub, Nat.reduceLeDiff, hd, w1, w2, w3, p3, p7, hsl _, hx', Int.toNat_natCast, true_and, V66.l, V64.l, V62.l, V60.l, hwl, d0, d5, d6, d9, ws, hmn, q3, q4, bound, true_and, Int.toNat_natCast, List.take_length, Bool.not_false, Bool.not_true, V27.l, V23.l, V34.l, slA_none, slA_some, slL_some, zero27, beq_self_eq_true, bne_self_eq_false, BEq.rfl]; rfl)); (focus (simp [resV, idsV, idsL, slA_ids])))
        exact ⟨[], by simp [resV, F1, frT, frL, thawV, takeV, zero27, zero34, V27.l, V34.l, V23.l, slA_none]⟩
      · have hb1 : breaksF v c v.f2 (l.drop n) = false := breaks_out hpa (.inr (by simp only [decide_eq_false_iff_not] at *; omega)) hall hcl
        rw [← hG2 hb1 hc']
        ((with_reducible apply ret_plain); (focus (simp only [W0, reduceIte, Nat.reduceEqDiff, Nat.reduceAdd, Nat.reduceSub, Nat.reduceLeDiff, hd, w1, w2, w3, p3, p7, hsl _, hx', Int.toNat_natCast, true_and, V66.l, V64.l, V62.l, V60.l, hwl, d0, d5, d6, d9, ws, hmn, q3, q4, bound, true_and, Int.toNat_natCast, List.take_length, Bool.not_false, Bool.not_true, V27.l, V23.l, V34.l, slA_none, slA_some, slL_some, zero27, beq_self_eq_true, bne_self_eq_false, BEq.rfl]; rfl)); (focus (simp [resV, idsV, idsL, slA_ids])))
        exact ⟨[], by simp [resV, F1, frT, frL, thawV, takeV, zero27, zero34, V27.l, V34.l, V23.l, slA_none]⟩
      · have hb1 : breaksF v c v.f2 (l.drop n) = false := breaks_out hpa (.inr (by simp only [decide_eq_false_iff_not] at *; omega)) hall hcl
        rw [← hG3 hb1 hc']
        ((with_reducible apply ret_plain); (focus (simp only [W0, reduceIte, Nat.reduceEqDiff, Nat.reduceAdd, Nat.reduceSub, Nat.reduceLeDiff, hd, w1, w2, w3, p3, p7, hsl _, hx', Int.toNat_natCast, true_and, V66.l, V64.l, V62.l, V60.l, hwl, d0, d5, d6, d9, ws, hmn, q3, q4, bound, true_and, Int.toNat_natCast, List.take_length, Bool.not_false, Bool.not_true, V27.l, V23.l, V34.l, slA_none, slA_some, slL_some, zero27, beq_self_eq_true, bne_self_eq_false, BEq.rfl]; rfl)); (focus (simp [resV, idsV, idsL, slA_ids])))
        exact ⟨[], by simp [resV, F1, frT, frL, thawV, takeV, answer, V27.l, V34.l, V23.l, slA_none, mnF, mxF] <;> rfl⟩
      · refine k_loop_n (((l.drop n)).length - (k + 1)) (by omega) (back_take (k := 4) (Nat.zero_le _) (by simp) (by simp [look, idsL, idsV, slA_ids]) (by simp [idsR, idsL, idsV, slA_ids]) ⟨k + 1, by omega, rfl, by simp [look, w3], rfl, fun j hj hjl => ?_⟩)
        rcases Nat.lt_or_ge j k with hjk | hjk
        · exact hall j hjk hjl
        · obtain rfl : j = k := by omega
          rw [hty, htx]; simpa using hc'
    · have hib : inB v (v.f2 + (k : Int) + 1) = false := by
        unfold inB; rw [Bool.and_eq_false_iff]; right; exact decide_eq_false (by omega)
      rw [hib] at h41
      generalize entA v (v.f2 + (k : Int) + 1) = y at h41
      repeat' first
        | (with_reducible first | apply c_seq | apply c_reg | apply c_dreg0 | apply c_block | apply c_ret | apply c_exit | apply c_skip | apply ops_nil | apply d_nil | apply k_seq_n | apply k_seq_r | apply k_seq_x | apply k_blk_n | apply k_blk_r | apply k_blk_x | apply k_end_n | apply k_end_r | apply k_loop_x | apply k_loop_r | apply c_dreg1 | apply c_dreg2)
        | ((with_reducible first | apply op_gS | apply op_g0 | apply d_gS | apply d_g0); (focus (simp only [W0, reduceIte, Nat.reduceEqDiff, Nat.reduceAdd, Nat.reduceSub, Nat.reduceLeDiff, hd, w1, w2, w3, p3, p7, hsl _, hx', Int.toNat_natCast, true_and, V66.l, V64.l, V62.l, V60.l, hwl, d0, d5, d6, d9, ws, hmn, q3, q4, bound, true_and, Int.toNat_natCast, List.take_length, Bool.not_false, Bool.not_true, V27.l, V23.l, V34.l, slA_none, slA_some, slL_some, zero27, beq_self_eq_true, bne_self_eq_false, BEq.rfl]; rfl)); (with_reducible first | apply g_no | apply g_T | apply g_F); all_goals (try (intro hc; first | exact absurd hc (by decide) | subst hc | clear hc)))
        | ((with_reducible apply c_cond); (focus (simp only [W0, reduceIte, Nat.reduceEqDiff, Nat.reduceAdd, Nat.reduceSub, Nat.reduceLeDiff, hd, w1, w2, w3, p3, p7, hsl _, hx', Int.toNat_natCast, true_and, V66.l, V64.l, V62.l, V60.l, hwl, d0, d5, d6, d9, ws, hmn, q3, q4, bound, true_and, Int.toNat_natCast, List.take_length, Bool.not_false, Bool.not_true, V27.l, V23.l, V34.l, slA_none, slA_some, slL_some, zero27, beq_self_eq_true, bne_self_eq_false, BEq.rfl]; rfl)); all_goals (intro hc; first | exact absurd hc (by decide) | subst hc | clear hc))
        | ((with_reducible first | apply op_fcall (f := 41) | apply d_fcall (f := 41)); (focus ((try simp only [W0, reduceIte, Nat.reduceEqDiff, Nat.reduceAdd, Nat.reduceSub, Nat.reduceLeDiff, hd, w1, w2, w3, p3, p7, hsl _, hx', Int.toNat_natCast, true_and, V66.l, V64.l, V62.l, V60.l, hwl, d0, d5, d6, d9, ws, hmn, q3, q4, bound, true_and, Int.toNat_natCast, List.take_length, Bool.not_false, Bool.not_true, V27.l, V23.l, V34.l, slA_none, slA_some, slL_some, zero27, beq_self_eq_true, bne_self_eq_false, BEq.rfl]); first | exact h41)); all_goals (try rfl))
        | ((with_reducible first | apply op_isB | apply d_isV); (focus rfl); (focus (simp only [W0, reduceIte, Nat.reduceEqDiff, Nat.reduceAdd, Nat.reduceSub, Nat.reduceLeDiff, hd, w1, w2, w3, p3, p7, hsl _, hx', Int.toNat_natCast, true_and, V66.l, V64.l, V62.l, V60.l, hwl, d0, d5, d6, d9, ws, hmn, q3, q4, bound, true_and, Int.toNat_natCast, List.take_length, Bool.not_false, Bool.not_true, V27.l, V23.l, V34.l, slA_none, slA_some, slL_some, zero27, beq_self_eq_true, bne_self_eq_false, BEq.rfl]; rfl)); intro c' hc'; try with_reducible first | cases (show true = c' from hc') | cases (show false = c' from hc'))
        | ((with_reducible first | apply op_step | apply op_step0 | apply d_ld | apply d_st | apply d_new | apply d_box | apply d_bsl | apply d_apw | apply d_apa | apply d_v); (focus (simp only [W0, reduceIte, Nat.reduceEqDiff, Nat.reduceAdd, Nat.reduceSub, Nat.reduceLeDiff, hd, w1, w2, w3, p3, p7, hsl _, hx', Int.toNat_natCast, true_and, V66.l, V64.l, V62.l, V60.l, hwl, d0, d5, d6, d9, ws, hmn, q3, q4, bound, true_and, Int.toNat_natCast, List.take_length, Bool.not_false, Bool.not_true, V27.l, V23.l, V34.l, slA_none, slA_some, slL_some, zero27, beq_self_eq_true, bne_self_eq_false, BEq.rfl]; rfl)); all_goals (try rfl))
        | ((with_reducible apply k_blk_y); (focus decide))
      all_goals first | (exfalso; refine Bool.false_ne_true ?_; first | assumption | (symm; assumption)) | (exact absurd ‹true = false› (by decide)) | skip
      all_goals (refine k_loop_n (((l.drop n)).length - (k + 1)) (by omega) (back_take (k := 4) (Nat.zero_le _) (by simp) (by simp [look, idsL, idsV, slA_ids]) (by simp [idsR, idsL, idsV, slA_ids]) ⟨k + 1, by omega, rfl, by simp [look, w3], rfl, fun j hj hjl => ?_⟩); rcases Nat.lt_or_ge j k with hjk | hjk; exact hall j hjk hjl; (exfalso; omega))
  · obtain rfl : k = ((l.drop n)).length := by omega
    have hd : decide (((((l.drop n)).length : Nat) : Int) < ((((l.drop n)).length : Nat) : Int)) = false := decide_eq_false (by omega)
    have hbf := breaks_out hpa (.inl rfl) hall hcl
    repeat' first
      | (with_reducible first | apply c_seq | apply c_reg | apply c_dreg0 | apply c_block | apply c_ret | apply c_exit | apply c_skip | apply ops_nil | apply d_nil | apply k_seq_n | apply k_seq_r | apply k_seq_x | apply k_blk_n | apply k_blk_r | apply k_blk_x | apply k_end_n | apply k_end_r | apply k_loop_x | apply k_loop_r | apply c_dreg1 | apply c_dreg2)
      | ((with_reducible first | apply op_gS | apply op_g0 | apply d_gS | apply d_g0); (focus (simp only [W0, reduceIte, Nat.reduceEqDiff, Nat.reduceAdd, Nat.reduceSub, Nat.reduceLeDiff, hd, hwl, d0, d5, d6, d9, ws, hmn, q3, q4, bound, true_and, Int.toNat_natCast, List.take_length, Bool.not_false, Bool.not_true, V27.l, V23.l, V34.l, slA_none, slA_some, slL_some, zero27, beq_self_eq_true, bne_self_eq_false, BEq.rfl]; rfl)); (with_reducible first | apply g_no | apply g_T | apply g_F); all_goals (try (intro hc; first | exact absurd hc (by decide) | subst hc | clear hc)))
      | ((with_reducible apply c_cond); (focus (simp only [W0, reduceIte, Nat.reduceEqDiff, Nat.reduceAdd, Nat.reduceSub, Nat.reduceLeDiff, hd, hwl, d0, d5, d6, d9, ws, hmn, q3, q4, bound, true_and, Int.toNat_natCast, List.take_length, Bool.not_false, Bool.not_true, V27.l, V23.l, V34.l, slA_none, slA_some, slL_some, zero27, beq_self_eq_true, bne_self_eq_false, BEq.rfl]; rfl)); all_goals (intro hc; first | exact absurd hc (by decide) | subst hc | clear hc))
      | ((with_reducible first | apply op_fcall (f := 79) | apply d_fcall (f := 79)); (focus ((try simp only [W0, reduceIte, Nat.reduceEqDiff, Nat.reduceAdd, Nat.reduceSub, Nat.reduceLeDiff, hd, hwl, d0, d5, d6, d9, ws, hmn, q3, q4, bound, true_and, Int.toNat_natCast, List.take_length, Bool.not_false, Bool.not_true, V27.l, V23.l, V34.l, slA_none, slA_some, slL_some, zero27, beq_self_eq_true, bne_self_eq_false, BEq.rfl]); first | exact h79)); all_goals (try rfl))
      | ((with_reducible first | apply op_isB | apply d_isV); (focus rfl); (focus (simp only [W0, reduceIte, Nat.reduceEqDiff, Nat.reduceAdd, Nat.reduceSub, Nat.reduceLeDiff, hd, hwl, d0, d5, d6, d9, ws, hmn, q3, q4, bound, true_and, Int.toNat_natCast, List.take_length, Bool.not_false, Bool.not_true, V27.l, V23.l, V34.l, slA_none, slA_some, slL_some, zero27, beq_self_eq_true, bne_self_eq_false, BEq.rfl]; rfl)); intro c' hc'; try with_reducible first | cases (show true = c' from hc') | cases (show false = c' from hc'))
      | ((with_reducible first | apply op_step | apply op_step0 | apply d_ld | apply d_st | apply d_new | apply d_box | apply d_bsl | apply d_apw | apply d_apa | apply d_v); (focus (simp only [W0, reduceIte, Nat.reduceEqDiff, Nat.reduceAdd, Nat.reduceSub, Nat.reduceLeDiff, hd, hwl, d0, d5, d6, d9, ws, hmn, q3, q4, bound, true_and, Int.toNat_natCast, List.take_length, Bool.not_false, Bool.not_true, V27.l, V23.l, V34.l, slA_none, slA_some, slL_some, zero27, beq_self_eq_true, bne_self_eq_false, BEq.rfl]; rfl)); all_goals (try rfl))
    all_goals first | (exfalso; refine Bool.false_ne_true ?_; first | assumption | (symm; assumption)) | (exact absurd ‹true = false› (by decide)) | skip
    · rw [← hG2 hbf hc']
      ((with_reducible apply ret_plain); (focus (simp only [W0, reduceIte, Nat.reduceEqDiff, Nat.reduceAdd, Nat.reduceSub, Nat.reduceLeDiff, hd, hwl, d0, d5, d6, d9, ws, hmn, q3, q4, bound, true_and, Int.toNat_natCast, List.take_length, Bool.not_false, Bool.not_true, V27.l, V23.l, V34.l, slA_none, slA_some, slL_some, zero27, beq_self_eq_true, bne_self_eq_false, BEq.rfl]; rfl)); (focus (simp [resV, idsV, idsL, slA_ids])))
      exact ⟨[], by simp [resV, F1, frT, frL, thawV, takeV, zero27, zero34, V27.l, V34.l, V23.l, slA_none]⟩
    · rw [← hG3 hbf hc']
      ((with_reducible apply ret_plain); (focus (simp only [W0, reduceIte, Nat.reduceEqDiff, Nat.reduceAdd, Nat.reduceSub, Nat.reduceLeDiff, hd, hwl, d0, d5, d6, d9, ws, hmn, q3, q4, bound, true_and, Int.toNat_natCast, List.take_length, Bool.not_false, Bool.not_true, V27.l, V23.l, V34.l, slA_none, slA_some, slL_some, zero27, beq_self_eq_true, bne_self_eq_false, BEq.rfl]; rfl)); (focus (simp [resV, idsV, idsL, slA_ids])))
      exact ⟨[], by simp [resV, F1, frT, frL, thawV, takeV, answer, V27.l, V34.l, V23.l, slA_none, mnF, mxF] <;> rfl⟩
theorem grow_N (v : V27) (hv : v.ok) (c g0 g1 g2 g3 g4 g5 g6 g7 : Int) (g8 : Bool) (g10 : V23) (g11 g12 : Option (List (List AV))) (hm : (V34.mk g0 g1 g2 g3 g4 g5 g6 g7 g8 none g10 g11 g12).o9) (hl : lightH v) (hh : hardF v = true) (hr : rightF v c (V34.mk g0 g1 g2 g3 g4 g5 g6 g7 g8 none g10 g11 g12) = true) (hb : g4 < v.f2) (X : V27) (h79 : FCall prog 79 [.agg v.l, .int .i64 v.f2, .nil 66] (.tup [.agg X.l, .int .i64 0])) : FCall prog 36 [.agg v.l, .int .i64 c, .agg (V34.mk g0 g1 g2 g3 g4 g5 g6 g7 g8 none g10 g11 g12).l] (takeV X (mxF c (mnF g6 v.f2)) (answer true v.f2) 0) := by
  obtain ⟨l6, l5⟩ := hl
  have hl : lightH v := ⟨l6, l5⟩
  obtain ⟨b1, b2⟩ := hard_base hh
  obtain ⟨r1, r2, r3, r4, r5, r6, r7⟩ := right_facts hr
  simp only at r3 r4 r5 r6 r7
  have hlast := lastI_eq hh (Nat.le_trans l6 (by decide))
  have hs : seen v v.f2 := ⟨b1, b2, by omega, by omega, by omega⟩
  have h76 := f76 v hv
  rw [hh] at h76
  have h77 := f77 c v.f2 (lastI (slL v.f6) v.f2)
  rw [show withinF c v.f2 (lastI (slL v.f6) v.f2) = true by simp only [withinF, Bool.and_eq_true, decide_eq_true_eq]; omega] at h77
  have h77b := f77 g4 0 1099511627776
  rw [show withinF g4 0 1099511627776 = true by simp only [withinF, Bool.and_eq_true, decide_eq_true_eq]; omega] at h77b
  have d5 : decide (g5 < 0) = false := decide_eq_false (by omega)
  have d6 : decide (g6 < 0) = false := decide_eq_false (by omega)
  have d9 : decide ((((slL (none : Option (List (List AV)))).length : Nat) : Int) > 8) = false := decide_eq_false (by omega)
  have h78 := f78 v hv v.f2 v.f3 hs
  rw [fits_base hh] at h78
  have d0 : decide (g4 < v.f2) = true := decide_eq_true hb
  have ws : IntKind.i64.wrap (v.f2 - g4) = v.f2 - g4 := by simp [IntKind.wrap, IntKind.signed, IntKind.bits]; omega
  have hmn : (if (0 : Int) < v.f2 - g4 then (0 : Int) else v.f2 - g4) = 0 := if_pos (by omega)
  have pz : ((0 : Int) ≤ 0) = True := eq_true (by omega)
  have pz2 : ((0 : Int) ≤ ((0 : Nat) : Int)) = True := eq_true (by omega)
  have tz : (0 : Int).toNat = 0 := rfl
  have z0 : decide ((0 : Int) < 0) = false := rfl
  have z9 : decide ((0 : Int) > 8) = false := rfl
  have zn : ((0 : Int) != 0) = false := rfl
  have wl : IntKind.i64.wrap (v.f2 + 0) = v.f2 := by simp [IntKind.wrap, IntKind.signed, IntKind.bits]; omega
  refine fcall mixed t36 (by simp [m36]) (by simp [idsL, idsV, V27.ids, V34.ids]) (f_body ?_)
  simp only [m36, argEnv, List.length_nil, List.nil_append, List.cons_append, Nat.zero_add, V27.l, V23.l, V34.l, zero27, zero34, answer, takeV, slA_none, slA_some]
  repeat' first
    | (with_reducible first | apply c_seq | apply c_reg | apply c_dreg0 | apply c_block | apply c_ret | apply c_exit | apply c_skip | apply ops_nil | apply d_nil | apply k_seq_n | apply k_seq_r | apply k_seq_x | apply k_blk_n | apply k_blk_r | apply k_blk_x | apply k_end_n | apply k_end_r | apply k_loop_x | apply k_loop_r | apply c_dreg1 | apply c_dreg2)
    | ((with_reducible first | apply op_gS | apply op_g0 | apply d_gS | apply d_g0); (focus (simp only [W0, reduceIte, Nat.reduceEqDiff, Nat.reduceAdd, Nat.reduceSub, Nat.reduceLeDiff, d0, d5, d6, d9, ws, hmn, pz, pz2, tz, z0, z9, zn, wl, bound, true_and, Bool.not_false, Bool.not_true, V27.l, V23.l, V34.l, slA_none, slA_some, slL_some, zero27, beq_self_eq_true, bne_self_eq_false, BEq.rfl]; rfl)); (with_reducible first | apply g_no | apply g_T | apply g_F); all_goals (try (intro hc; first | exact absurd hc (by decide) | subst hc | clear hc)))
    | ((with_reducible apply c_cond); (focus (simp only [W0, reduceIte, Nat.reduceEqDiff, Nat.reduceAdd, Nat.reduceSub, Nat.reduceLeDiff, d0, d5, d6, d9, ws, hmn, pz, pz2, tz, z0, z9, zn, wl, bound, true_and, Bool.not_false, Bool.not_true, V27.l, V23.l, V34.l, slA_none, slA_some, slL_some, zero27, beq_self_eq_true, bne_self_eq_false, BEq.rfl]; rfl)); all_goals (intro hc; first | exact absurd hc (by decide) | subst hc | clear hc))
    | ((with_reducible first | apply op_fcall (f := 76) | apply d_fcall (f := 76)); (focus ((try simp only [W0, reduceIte, Nat.reduceEqDiff, Nat.reduceAdd, Nat.reduceSub, Nat.reduceLeDiff, d0, d5, d6, d9, ws, hmn, pz, pz2, tz, z0, z9, zn, wl, bound, true_and, Bool.not_false, Bool.not_true, V27.l, V23.l, V34.l, slA_none, slA_some, slL_some, zero27, beq_self_eq_true, bne_self_eq_false, BEq.rfl]); first | exact h76)); all_goals (try rfl))
    | ((with_reducible first | apply op_fcall (f := 17) | apply d_fcall (f := 17)); (focus ((try simp only [W0, reduceIte, Nat.reduceEqDiff, Nat.reduceAdd, Nat.reduceSub, Nat.reduceLeDiff, d0, d5, d6, d9, ws, hmn, pz, pz2, tz, z0, z9, zn, wl, bound, true_and, Bool.not_false, Bool.not_true, V27.l, V23.l, V34.l, slA_none, slA_some, slL_some, zero27, beq_self_eq_true, bne_self_eq_false, BEq.rfl]); first | exact f17 v hv)); all_goals (try rfl))
    | ((with_reducible first | apply op_fcall (f := 77) | apply d_fcall (f := 77)); (focus ((try simp only [W0, reduceIte, Nat.reduceEqDiff, Nat.reduceAdd, Nat.reduceSub, Nat.reduceLeDiff, d0, d5, d6, d9, ws, hmn, pz, pz2, tz, z0, z9, zn, wl, bound, true_and, Bool.not_false, Bool.not_true, V27.l, V23.l, V34.l, slA_none, slA_some, slL_some, zero27, beq_self_eq_true, bne_self_eq_false, BEq.rfl]); first | exact h77 | exact h77b)); all_goals (try rfl))
    | ((with_reducible first | apply op_fcall (f := 78) | apply d_fcall (f := 78)); (focus ((try simp only [W0, reduceIte, Nat.reduceEqDiff, Nat.reduceAdd, Nat.reduceSub, Nat.reduceLeDiff, d0, d5, d6, d9, ws, hmn, pz, pz2, tz, z0, z9, zn, wl, bound, true_and, Bool.not_false, Bool.not_true, V27.l, V23.l, V34.l, slA_none, slA_some, slL_some, zero27, beq_self_eq_true, bne_self_eq_false, BEq.rfl]); first | exact h78)); all_goals (try rfl))
    | ((with_reducible first | apply op_fcall (f := 33) | apply d_fcall (f := 33)); (focus ((try simp only [W0, reduceIte, Nat.reduceEqDiff, Nat.reduceAdd, Nat.reduceSub, Nat.reduceLeDiff, d0, d5, d6, d9, ws, hmn, pz, pz2, tz, z0, z9, zn, wl, bound, true_and, Bool.not_false, Bool.not_true, V27.l, V23.l, V34.l, slA_none, slA_some, slL_some, zero27, beq_self_eq_true, bne_self_eq_false, BEq.rfl]); first | exact f33 v hl)); all_goals (try rfl))
    | ((with_reducible first | apply op_isB | apply d_isV); (focus rfl); (focus (simp only [W0, reduceIte, Nat.reduceEqDiff, Nat.reduceAdd, Nat.reduceSub, Nat.reduceLeDiff, d0, d5, d6, d9, ws, hmn, pz, pz2, tz, z0, z9, zn, wl, bound, true_and, Bool.not_false, Bool.not_true, V27.l, V23.l, V34.l, slA_none, slA_some, slL_some, zero27, beq_self_eq_true, bne_self_eq_false, BEq.rfl]; rfl)); intro c' hc'; try with_reducible first | cases (show true = c' from hc') | cases (show false = c' from hc'))
    | ((with_reducible first | apply op_step | apply op_step0 | apply d_ld | apply d_st | apply d_new | apply d_box | apply d_bsl | apply d_apw | apply d_apa | apply d_v); (focus (simp only [W0, reduceIte, Nat.reduceEqDiff, Nat.reduceAdd, Nat.reduceSub, Nat.reduceLeDiff, d0, d5, d6, d9, ws, hmn, pz, pz2, tz, z0, z9, zn, wl, bound, true_and, Bool.not_false, Bool.not_true, V27.l, V23.l, V34.l, slA_none, slA_some, slL_some, zero27, beq_self_eq_true, bne_self_eq_false, BEq.rfl]; rfl)); all_goals (try rfl))
  all_goals first | (exfalso; refine Bool.false_ne_true ?_; first | assumption | (symm; assumption)) | (exact absurd ‹true = false› (by decide)) | skip
  refine c_loop [1, 3, 5, 6, 7, 8, 9, 12, 14, 15] (fun n env rows => n = 0 ∧ env = [(1, .int .i64 c), (3, .ptr 0 0), (5, .ptr 1 0), (6, .ptr 2 0), (7, .int .i64 0), (8, .ptr 3 0), (9, .int .i64 0), (12, .int .i64 v.f2), (14, .nil 66), (15, .int .i64 0)] ∧ rows = [Row.box 27 [.int .i64 v.f0, .int .i64 v.f1, .int .i64 v.f2, .int .i64 v.f3, .int .i64 v.f4.f0, .int .i64 v.f4.f1, .int .i64 v.f4.f2, .int .i64 v.f4.f3, slA 5 v.f5, slA 66 v.f6], Row.box 34 [.int .i64 g0, .int .i64 g1, .int .i64 g2, .int .i64 g3, .int .i64 g4, .int .i64 g5, .int .i64 g6, .int .i64 g7, .bool g8, .nil 66, .int .i64 g10.f0, .int .i64 g10.f1, .int .i64 g10.f2, .int .i64 g10.f3, slA 5 g11, slA 34 g12], Row.box 27 [.int .i64 0, .int .i64 0, .int .i64 0, .int .i64 0, .int .i64 0, .int .i64 0, .int .i64 0, .int .i64 0, .nil 5, .nil 66], Row.box 34 [.int .i64 0, .int .i64 0, .int .i64 0, .int .i64 0, .int .i64 0, .int .i64 0, .int .i64 0, .int .i64 0, .bool false, .nil 66, .int .i64 0, .int .i64 0, .int .i64 0, .int .i64 0, .nil 5, .nil 34]]) 0
    (back_take (k := 4) (Nat.zero_le _) (by simp) (by simp [look, idsL, idsV, slA_ids]) (by simp [idsR, idsL, idsV, slA_ids]) ⟨rfl, by simp [look], rfl⟩) ?_
  rintro n env rows ⟨rfl, rfl, rfl⟩
  repeat' first
    | (with_reducible first | apply c_seq | apply c_reg | apply c_dreg0 | apply c_block | apply c_ret | apply c_exit | apply c_skip | apply ops_nil | apply d_nil | apply k_seq_n | apply k_seq_r | apply k_seq_x | apply k_blk_n | apply k_blk_r | apply k_blk_x | apply k_end_n | apply k_end_r | apply k_loop_x | apply k_loop_r | apply c_dreg1 | apply c_dreg2)
    | ((with_reducible first | apply op_gS | apply op_g0 | apply d_gS | apply d_g0); (focus (simp only [W0, reduceIte, Nat.reduceEqDiff, Nat.reduceAdd, Nat.reduceSub, Nat.reduceLeDiff, d0, d5, d6, d9, ws, hmn, pz, pz2, tz, z0, z9, zn, wl, bound, true_and, Bool.not_false, Bool.not_true, V27.l, V23.l, V34.l, slA_none, slA_some, slL_some, zero27, beq_self_eq_true, bne_self_eq_false, BEq.rfl]; rfl)); (with_reducible first | apply g_no | apply g_T | apply g_F); all_goals (try (intro hc; first | exact absurd hc (by decide) | subst hc | clear hc)))
    | ((with_reducible apply c_cond); (focus (simp only [W0, reduceIte, Nat.reduceEqDiff, Nat.reduceAdd, Nat.reduceSub, Nat.reduceLeDiff, d0, d5, d6, d9, ws, hmn, pz, pz2, tz, z0, z9, zn, wl, bound, true_and, Bool.not_false, Bool.not_true, V27.l, V23.l, V34.l, slA_none, slA_some, slL_some, zero27, beq_self_eq_true, bne_self_eq_false, BEq.rfl]; rfl)); all_goals (intro hc; first | exact absurd hc (by decide) | subst hc | clear hc))
    | ((with_reducible first | apply op_fcall (f := 79) | apply d_fcall (f := 79)); (focus ((try simp only [W0, reduceIte, Nat.reduceEqDiff, Nat.reduceAdd, Nat.reduceSub, Nat.reduceLeDiff, d0, d5, d6, d9, ws, hmn, pz, pz2, tz, z0, z9, zn, wl, bound, true_and, Bool.not_false, Bool.not_true, V27.l, V23.l, V34.l, slA_none, slA_some, slL_some, zero27, beq_self_eq_true, bne_self_eq_false, BEq.rfl]); first | exact h79)); all_goals (try rfl))
    | ((with_reducible first | apply op_isB | apply d_isV); (focus rfl); (focus (simp only [W0, reduceIte, Nat.reduceEqDiff, Nat.reduceAdd, Nat.reduceSub, Nat.reduceLeDiff, d0, d5, d6, d9, ws, hmn, pz, pz2, tz, z0, z9, zn, wl, bound, true_and, Bool.not_false, Bool.not_true, V27.l, V23.l, V34.l, slA_none, slA_some, slL_some, zero27, beq_self_eq_true, bne_self_eq_false, BEq.rfl]; rfl)); intro c' hc'; try with_reducible first | cases (show true = c' from hc') | cases (show false = c' from hc'))
    | ((with_reducible first | apply op_step | apply op_step0 | apply d_ld | apply d_st | apply d_new | apply d_box | apply d_bsl | apply d_apw | apply d_apa | apply d_v); (focus (simp only [W0, reduceIte, Nat.reduceEqDiff, Nat.reduceAdd, Nat.reduceSub, Nat.reduceLeDiff, d0, d5, d6, d9, ws, hmn, pz, pz2, tz, z0, z9, zn, wl, bound, true_and, Bool.not_false, Bool.not_true, V27.l, V23.l, V34.l, slA_none, slA_some, slL_some, zero27, beq_self_eq_true, bne_self_eq_false, BEq.rfl]; rfl)); all_goals (try rfl))
  all_goals first | (exfalso; refine Bool.false_ne_true ?_; first | assumption | (symm; assumption)) | (exact absurd ‹true = false› (by decide)) | skip
  all_goals ((with_reducible apply ret_plain); (focus (simp only [W0, reduceIte, Nat.reduceEqDiff, Nat.reduceAdd, Nat.reduceSub, Nat.reduceLeDiff, d0, d5, d6, d9, ws, hmn, pz, pz2, tz, z0, z9, zn, wl, bound, true_and, Bool.not_false, Bool.not_true, V27.l, V23.l, V34.l, slA_none, slA_some, slL_some, zero27, beq_self_eq_true, bne_self_eq_false, BEq.rfl]; rfl)); (focus (simp [resV, idsV, idsL, slA_ids, ints_ids])))
  all_goals exact ⟨[], by simp [resV, F1, frT, frL, thawV, mnF, mxF] <;> rfl⟩
end Go.Sk
