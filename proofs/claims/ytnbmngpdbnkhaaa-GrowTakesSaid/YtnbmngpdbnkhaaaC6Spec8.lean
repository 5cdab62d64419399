/- A log's entries and terms; rows of entries that may stand. Conditions: none. -/
import Derived.Test.YtnbmngpdbnkhaaaC6Spec7
set_option linter.unusedVariables false
set_option linter.unusedSimpArgs false
set_option maxRecDepth 20000
set_option maxHeartbeats 4000000
namespace Go.Sk
open Go.Proofs.Try
def zero66 : V66 := ⟨0, 0, zero64, ⟨0, 0, 0, 0⟩⟩
def ent66 (l : List AV) : V66 := match l with
  | [.int _ a, .int _ b, .int _ c, .int _ d, .int _ e, .str k, .int _ f, .flt g, .str t, .int _ f', .flt g', .str t', .int _ p, .int _ q, .int _ r, .int _ s] => ⟨a, b, ⟨c, d, ⟨e, k, ⟨f, g, t⟩, ⟨f', g', t'⟩⟩⟩, ⟨p, q, r, s⟩⟩
  | _ => zero66
theorem ent66_l (q : V66) : ent66 q.l = q := rfl
def getE (v : V27) (j : Nat) : V66 := ent66 (((slL v.f6)[j]?).getD [])
def inB (v : V27) (i : Int) : Bool := decide (v.f2 < i) && decide (i - v.f2 ≤ (slL v.f6).length)
def posN (v : V27) (i : Int) : Nat := (i - v.f2 - 1).toNat
def entA (v : V27) (i : Int) : V66 := if inB v i then getE v (posN v i) else zero66
def termF (v : V27) (i : Int) : Int := if i = v.f2 then v.f3 else if inB v i then (entA v i).f0 else -1
def seen (v : V27) (i : Int) : Prop := 0 ≤ v.f2 ∧ v.f2 ≤ 1099511627776 ∧ (slL v.f6).length ≤ 1099511627776 ∧ -1152921504606846976 ≤ i ∧ i ≤ 1152921504606846976
theorem seen_wrap {v : V27} {i : Int} (h : seen v i) : IntKind.i64.wrap (i - v.f2) = i - v.f2 ∧ IntKind.i64.wrap (i - v.f2 - 1) = i - v.f2 - 1 ∧ IntKind.i64.wrap (v.f2 + ((slL v.f6).length : Int)) = v.f2 + ((slL v.f6).length : Int) := by
  obtain ⟨h1, h2, h3, h4, h5⟩ := h
  have w : ∀ x : Int, -4611686018427387904 ≤ x → x ≤ 4611686018427387904 → IntKind.i64.wrap x = x := fun x a b => by simp [IntKind.wrap, IntKind.signed, IntKind.bits]; omega
  exact ⟨w _ (by omega) (by omega), w _ (by omega) (by omega), w _ (by omega) (by omega)⟩
theorem in_pos {v : V27} {i : Int} (h : inB v i = true) : i - v.f2 - 1 = ((posN v i : Nat) : Int) ∧ posN v i < (slL v.f6).length ∧ v.f2 < i ∧ i - v.f2 ≤ (slL v.f6).length := by
  have h1 : v.f2 < i ∧ i - v.f2 ≤ (slL v.f6).length := by simpa [inB] using h
  unfold posN; omega
theorem in_no {v : V27} {i : Int} (h : inB v i = false) : i ≤ v.f2 ∨ (slL v.f6).length < i - v.f2 := by
  have h1 : v.f2 < i → (slL v.f6).length < i - v.f2 := by simpa [inB] using h
  omega
theorem f126 (v : V27) (hv : v.ok) (i : Int) (hs : seen v i) : FCall prog 126 [.agg v.l, .int .i64 i] (.tup [.agg (entA v i).l, .bool (inB v i)]) := by
  obtain ⟨hes, hmx⟩ := hv.h6
  obtain ⟨w1, w2, w3⟩ := seen_wrap hs
  cases hin : inB v i
  · have hno := in_no hin
    have he : entA v i = zero66 := by simp [entA, hin]
    rw [he]
    refine fcall mixed t126 (by simp [m126]) (by simp [idsL, idsV, V27.ids]) (f_body ?_)
    simp only [m126, argEnv, List.length_nil, List.nil_append, List.cons_append, Nat.zero_add, V27.l, V23.l, zero66, zero64, zero62, zero60, V66.l, V64.l, V62.l, V60.l, V23.l]
    repeat' first
      | (with_reducible first | apply c_seq | apply c_reg | apply c_dreg0 | apply c_block | apply c_ret | apply c_exit | apply c_skip | apply ops_nil | apply d_nil | apply k_seq_n | apply k_seq_r | apply k_seq_x | apply k_blk_n | apply k_blk_r | apply k_blk_x | apply k_end_n | apply k_end_r | apply k_loop_x | apply k_loop_r | apply c_dreg1 | apply c_dreg2)
      | ((with_reducible first | apply op_gS | apply op_g0 | apply d_gS | apply d_g0); (focus (simp only [W0, reduceIte, Nat.reduceEqDiff, Nat.reduceAdd, Nat.reduceSub, Nat.reduceLeDiff, w1, w2, w3]; rfl)); (with_reducible first | apply g_no | apply g_T | apply g_F); all_goals (try (intro hc; first | exact absurd hc (by decide) | subst hc | clear hc)))
      | ((with_reducible apply c_cond); (focus (simp only [W0, reduceIte, Nat.reduceEqDiff, Nat.reduceAdd, Nat.reduceSub, Nat.reduceLeDiff, w1, w2, w3]; rfl)); all_goals (intro hc; first | exact absurd hc (by decide) | subst hc | clear hc))
      | ((with_reducible first | apply op_isB | apply d_isV); (focus rfl); (focus (simp only [W0, reduceIte, Nat.reduceEqDiff, Nat.reduceAdd, Nat.reduceSub, Nat.reduceLeDiff, w1, w2, w3]; rfl)); intro c' hc')
      | ((with_reducible first | apply op_step | apply op_step0 | apply d_ld | apply d_st | apply d_new | apply d_box | apply d_bsl | apply d_apw | apply d_apa | apply d_v); (focus (simp only [W0, reduceIte, Nat.reduceEqDiff, Nat.reduceAdd, Nat.reduceSub, Nat.reduceLeDiff, w1, w2, w3]; rfl)); all_goals (try rfl))
    any_goals (exfalso; simp only [decide_eq_true_eq, decide_eq_false_iff_not] at *; omega)
    all_goals ((with_reducible apply ret_plain); (focus (simp only [W0, reduceIte, Nat.reduceEqDiff, Nat.reduceAdd, Nat.reduceSub, Nat.reduceLeDiff]; rfl)); (focus (simp [resV, idsV, idsL, slA_ids, ints_ids])))
    all_goals exact ⟨[], by simp [resV, F1, frL, frT]⟩
  · obtain ⟨p1, p2, p3, p4⟩ := in_pos hin
    obtain ⟨q, hq, hqok⟩ := el66 hes p2
    have he : entA v i = q := by simp [entA, hin, getE, hq, ent66_l]
    rw [he]
    have w2' : IntKind.i64.wrap (i - v.f2 - 1) = ((posN v i : Nat) : Int) := w2.trans p1
    refine fcall mixed t126 (by simp [m126]) (by simp [idsL, idsV, V27.ids]) (f_body ?_)
    simp only [m126, argEnv, List.length_nil, List.nil_append, List.cons_append, Nat.zero_add, V27.l, V23.l, V66.l, V64.l, V62.l, V60.l, V23.l]
    repeat' first
      | (with_reducible first | apply c_seq | apply c_reg | apply c_dreg0 | apply c_block | apply c_ret | apply c_exit | apply c_skip | apply ops_nil | apply d_nil | apply k_seq_n | apply k_seq_r | apply k_seq_x | apply k_blk_n | apply k_blk_r | apply k_blk_x | apply k_end_n | apply k_end_r | apply k_loop_x | apply k_loop_r | apply c_dreg1 | apply c_dreg2)
      | ((with_reducible first | apply op_gS | apply op_g0 | apply d_gS | apply d_g0); (focus (simp only [W0, reduceIte, Nat.reduceEqDiff, Nat.reduceAdd, Nat.reduceSub, Nat.reduceLeDiff, w1, w2', w3, slA_at 66 _ (k := .i64) hq, V66.l, V64.l, V62.l, V60.l, V23.l]; rfl)); (with_reducible first | apply g_no | apply g_T | apply g_F); all_goals (try (intro hc; first | exact absurd hc (by decide) | subst hc | clear hc)))
      | ((with_reducible apply c_cond); (focus (simp only [W0, reduceIte, Nat.reduceEqDiff, Nat.reduceAdd, Nat.reduceSub, Nat.reduceLeDiff, w1, w2', w3, slA_at 66 _ (k := .i64) hq, V66.l, V64.l, V62.l, V60.l, V23.l]; rfl)); all_goals (intro hc; first | exact absurd hc (by decide) | subst hc | clear hc))
      | ((with_reducible first | apply op_isB | apply d_isV); (focus rfl); (focus (simp only [W0, reduceIte, Nat.reduceEqDiff, Nat.reduceAdd, Nat.reduceSub, Nat.reduceLeDiff, w1, w2', w3, slA_at 66 _ (k := .i64) hq, V66.l, V64.l, V62.l, V60.l, V23.l]; rfl)); intro c' hc')
      | ((with_reducible first | apply op_step | apply op_step0 | apply d_ld | apply d_st | apply d_new | apply d_box | apply d_bsl | apply d_apw | apply d_apa | apply d_v); (focus (simp only [W0, reduceIte, Nat.reduceEqDiff, Nat.reduceAdd, Nat.reduceSub, Nat.reduceLeDiff, w1, w2', w3, slA_at 66 _ (k := .i64) hq, V66.l, V64.l, V62.l, V60.l, V23.l]; rfl)); all_goals (try rfl))
    any_goals (exfalso; simp only [decide_eq_true_eq, decide_eq_false_iff_not] at *; omega)
    all_goals ((with_reducible apply ret_plain); (focus (simp only [W0, reduceIte, Nat.reduceEqDiff, Nat.reduceAdd, Nat.reduceSub, Nat.reduceLeDiff, V66.l, V64.l, V62.l, V60.l, V23.l]; rfl)); (focus (simp [resV, idsV, idsL, slA_ids, ints_ids])))
    all_goals exact ⟨[], by simp [resV, F1, frL, frT]⟩
theorem f41 (v : V27) (hv : v.ok) (i : Int) (hs : seen v i) : FCall prog 41 [.agg v.l, .int .i64 i] (.tup [.agg (entA v i).l, .bool (inB v i)]) := by
  obtain ⟨hes, hmx⟩ := hv.h6
  obtain ⟨w1, w2, w3⟩ := seen_wrap hs
  cases hin : inB v i
  · have hno := in_no hin
    have he : entA v i = zero66 := by simp [entA, hin]
    rw [he]
    refine fcall mixed t41 (by simp [m41]) (by simp [idsL, idsV, V27.ids]) (f_body ?_)
    simp only [m41, argEnv, List.length_nil, List.nil_append, List.cons_append, Nat.zero_add, V27.l, V23.l, zero66, zero64, zero62, zero60, V66.l, V64.l, V62.l, V60.l, V23.l]
    repeat' first
      | (with_reducible first | apply c_seq | apply c_reg | apply c_dreg0 | apply c_block | apply c_ret | apply c_exit | apply c_skip | apply ops_nil | apply d_nil | apply k_seq_n | apply k_seq_r | apply k_seq_x | apply k_blk_n | apply k_blk_r | apply k_blk_x | apply k_end_n | apply k_end_r | apply k_loop_x | apply k_loop_r | apply c_dreg1 | apply c_dreg2)
      | ((with_reducible first | apply op_gS | apply op_g0 | apply d_gS | apply d_g0); (focus (simp only [W0, reduceIte, Nat.reduceEqDiff, Nat.reduceAdd, Nat.reduceSub, Nat.reduceLeDiff, w1, w2, w3]; rfl)); (with_reducible first | apply g_no | apply g_T | apply g_F); all_goals (try (intro hc; first | exact absurd hc (by decide) | subst hc | clear hc)))
      | ((with_reducible apply c_cond); (focus (simp only [W0, reduceIte, Nat.reduceEqDiff, Nat.reduceAdd, Nat.reduceSub, Nat.reduceLeDiff, w1, w2, w3]; rfl)); all_goals (intro hc; first | exact absurd hc (by decide) | subst hc | clear hc))
      | ((with_reducible first | apply op_isB | apply d_isV); (focus rfl); (focus (simp only [W0, reduceIte, Nat.reduceEqDiff, Nat.reduceAdd, Nat.reduceSub, Nat.reduceLeDiff, w1, w2, w3]; rfl)); intro c' hc')
      | ((with_reducible first | apply op_step | apply op_step0 | apply d_ld | apply d_st | apply d_new | apply d_box | apply d_bsl | apply d_apw | apply d_apa | apply d_v); (focus (simp only [W0, reduceIte, Nat.reduceEqDiff, Nat.reduceAdd, Nat.reduceSub, Nat.reduceLeDiff, w1, w2, w3]; rfl)); all_goals (try rfl))
    any_goals (exfalso; simp only [decide_eq_true_eq, decide_eq_false_iff_not] at *; omega)
    all_goals ((with_reducible apply ret_plain); (focus (simp only [W0, reduceIte, Nat.reduceEqDiff, Nat.reduceAdd, Nat.reduceSub, Nat.reduceLeDiff]; rfl)); (focus (simp [resV, idsV, idsL, slA_ids, ints_ids])))
    all_goals exact ⟨[], by simp [resV, F1, frL, frT]⟩
  · obtain ⟨p1, p2, p3, p4⟩ := in_pos hin
    obtain ⟨q, hq, hqok⟩ := el66 hes p2
    have he : entA v i = q := by simp [entA, hin, getE, hq, ent66_l]
    rw [he]
    have w2' : IntKind.i64.wrap (i - v.f2 - 1) = ((posN v i : Nat) : Int) := w2.trans p1
    refine fcall mixed t41 (by simp [m41]) (by simp [idsL, idsV, V27.ids]) (f_body ?_)
    simp only [m41, argEnv, List.length_nil, List.nil_append, List.cons_append, Nat.zero_add, V27.l, V23.l, V66.l, V64.l, V62.l, V60.l, V23.l]
    repeat' first
      | (with_reducible first | apply c_seq | apply c_reg | apply c_dreg0 | apply c_block | apply c_ret | apply c_exit | apply c_skip | apply ops_nil | apply d_nil | apply k_seq_n | apply k_seq_r | apply k_seq_x | apply k_blk_n | apply k_blk_r | apply k_blk_x | apply k_end_n | apply k_end_r | apply k_loop_x | apply k_loop_r | apply c_dreg1 | apply c_dreg2)
      | ((with_reducible first | apply op_gS | apply op_g0 | apply d_gS | apply d_g0); (focus (simp only [W0, reduceIte, Nat.reduceEqDiff, Nat.reduceAdd, Nat.reduceSub, Nat.reduceLeDiff, w1, w2', w3, slA_at 66 _ (k := .i64) hq, V66.l, V64.l, V62.l, V60.l, V23.l]; rfl)); (with_reducible first | apply g_no | apply g_T | apply g_F); all_goals (try (intro hc; first | exact absurd hc (by decide) | subst hc | clear hc)))
      | ((with_reducible apply c_cond); (focus (simp only [W0, reduceIte, Nat.reduceEqDiff, Nat.reduceAdd, Nat.reduceSub, Nat.reduceLeDiff, w1, w2', w3, slA_at 66 _ (k := .i64) hq, V66.l, V64.l, V62.l, V60.l, V23.l]; rfl)); all_goals (intro hc; first | exact absurd hc (by decide) | subst hc | clear hc))
      | ((with_reducible first | apply op_isB | apply d_isV); (focus rfl); (focus (simp only [W0, reduceIte, Nat.reduceEqDiff, Nat.reduceAdd, Nat.reduceSub, Nat.reduceLeDiff, w1, w2', w3, slA_at 66 _ (k := .i64) hq, V66.l, V64.l, V62.l, V60.l, V23.l]; rfl)); intro c' hc')
      | ((with_reducible first | apply op_step | apply op_step0 | apply d_ld | apply d_st | apply d_new | apply d_box | apply d_bsl | apply d_apw | apply d_apa | apply d_v); (focus (simp only [W0, reduceIte, Nat.reduceEqDiff, Nat.reduceAdd, Nat.reduceSub, Nat.reduceLeDiff, w1, w2', w3, slA_at 66 _ (k := .i64) hq, V66.l, V64.l, V62.l, V60.l, V23.l]; rfl)); all_goals (try rfl))
    any_goals (exfalso; simp only [decide_eq_true_eq, decide_eq_false_iff_not] at *; omega)
    all_goals ((with_reducible apply ret_plain); (focus (simp only [W0, reduceIte, Nat.reduceEqDiff, Nat.reduceAdd, Nat.reduceSub, Nat.reduceLeDiff, V66.l, V64.l, V62.l, V60.l, V23.l]; rfl)); (focus (simp [resV, idsV, idsL, slA_ids, ints_ids])))
    all_goals exact ⟨[], by simp [resV, F1, frL, frT]⟩
theorem f99 (v : V27) (hv : v.ok) (i : Int) (hs : seen v i) : FCall prog 99 [.agg v.l, .int .i64 i] (.int .i64 (termF v i)) := by
  refine fcall mixed t99 (by simp [m99]) (by simp [idsL, idsV, V27.ids]) (f_body ?_)
  simp only [m99, argEnv, List.length_nil, List.nil_append, List.cons_append, Nat.zero_add, V27.l, V23.l]
  repeat' first
    | (with_reducible first | apply c_seq | apply c_reg | apply c_dreg0 | apply c_block | apply c_ret | apply c_exit | apply c_skip | apply ops_nil | apply d_nil | apply k_seq_n | apply k_seq_r | apply k_seq_x | apply k_blk_n | apply k_blk_r | apply k_blk_x | apply k_end_n | apply k_end_r | apply k_loop_x | apply k_loop_r | apply c_dreg1 | apply c_dreg2)
    | ((with_reducible first | apply op_gS | apply op_g0 | apply d_gS | apply d_g0); (focus (simp only [W0, reduceIte, Nat.reduceEqDiff, Nat.reduceAdd, Nat.reduceSub, Nat.reduceLeDiff, V66.l, V64.l, V62.l, V60.l, V23.l]; rfl)); (with_reducible first | apply g_no | apply g_T | apply g_F); all_goals (try (intro hc; first | exact absurd hc (by decide) | subst hc | clear hc)))
    | ((with_reducible apply c_cond); (focus (simp only [W0, reduceIte, Nat.reduceEqDiff, Nat.reduceAdd, Nat.reduceSub, Nat.reduceLeDiff, V66.l, V64.l, V62.l, V60.l, V23.l]; rfl)); all_goals (intro hc; first | exact absurd hc (by decide) | subst hc | clear hc))
    | ((with_reducible first | apply op_fcall (f := 126) | apply d_fcall (f := 126)); (focus ((try simp only [W0, reduceIte, Nat.reduceEqDiff, Nat.reduceAdd, Nat.reduceSub, Nat.reduceLeDiff, V66.l, V64.l, V62.l, V60.l, V23.l]); first | exact f126 v hv i hs)); all_goals (try rfl))
    | ((with_reducible first | apply op_isB | apply d_isV); (focus rfl); (focus (simp only [W0, reduceIte, Nat.reduceEqDiff, Nat.reduceAdd, Nat.reduceSub, Nat.reduceLeDiff, V66.l, V64.l, V62.l, V60.l, V23.l]; rfl)); intro c' hc')
    | ((with_reducible first | apply op_step | apply op_step0 | apply d_ld | apply d_st | apply d_new | apply d_box | apply d_bsl | apply d_apw | apply d_apa | apply d_v); (focus (simp only [W0, reduceIte, Nat.reduceEqDiff, Nat.reduceAdd, Nat.reduceSub, Nat.reduceLeDiff, V66.l, V64.l, V62.l, V60.l, V23.l]; rfl)); all_goals (try rfl))
  all_goals ((with_reducible apply ret_plain); (focus (simp only [W0, reduceIte, Nat.reduceEqDiff, Nat.reduceAdd, Nat.reduceSub, Nat.reduceLeDiff, V66.l, V64.l, V62.l, V60.l, V23.l]; rfl)); (focus (simp [resV, idsV, idsL, slA_ids, ints_ids])))
  all_goals exact ⟨[], by simp_all [resV, F1, frL, frT, termF]⟩
theorem f103 (v : V27) (hv : v.ok) (i : Int) (hs : seen v i) : FCall prog 103 [.agg v.l, .int .i64 i] (.int .i64 (termF v i)) := by
  refine fcall mixed t103 (by simp [m103]) (by simp [idsL, idsV, V27.ids]) (f_body ?_)
  simp only [m103, argEnv, List.length_nil, List.nil_append, List.cons_append, Nat.zero_add, V27.l, V23.l]
  repeat' first
    | (with_reducible first | apply c_seq | apply c_reg | apply c_dreg0 | apply c_block | apply c_ret | apply c_exit | apply c_skip | apply ops_nil | apply d_nil | apply k_seq_n | apply k_seq_r | apply k_seq_x | apply k_blk_n | apply k_blk_r | apply k_blk_x | apply k_end_n | apply k_end_r | apply k_loop_x | apply k_loop_r | apply c_dreg1 | apply c_dreg2)
    | ((with_reducible first | apply op_gS | apply op_g0 | apply d_gS | apply d_g0); (focus (simp only [W0, reduceIte, Nat.reduceEqDiff, Nat.reduceAdd, Nat.reduceSub, Nat.reduceLeDiff, V66.l, V64.l, V62.l, V60.l, V23.l]; rfl)); (with_reducible first | apply g_no | apply g_T | apply g_F); all_goals (try (intro hc; first | exact absurd hc (by decide) | subst hc | clear hc)))
    | ((with_reducible apply c_cond); (focus (simp only [W0, reduceIte, Nat.reduceEqDiff, Nat.reduceAdd, Nat.reduceSub, Nat.reduceLeDiff, V66.l, V64.l, V62.l, V60.l, V23.l]; rfl)); all_goals (intro hc; first | exact absurd hc (by decide) | subst hc | clear hc))
    | ((with_reducible first | apply op_fcall (f := 41) | apply d_fcall (f := 41)); (focus ((try simp only [W0, reduceIte, Nat.reduceEqDiff, Nat.reduceAdd, Nat.reduceSub, Nat.reduceLeDiff, V66.l, V64.l, V62.l, V60.l, V23.l]); first | exact f41 v hv i hs)); all_goals (try rfl))
    | ((with_reducible first | apply op_isB | apply d_isV); (focus rfl); (focus (simp only [W0, reduceIte, Nat.reduceEqDiff, Nat.reduceAdd, Nat.reduceSub, Nat.reduceLeDiff, V66.l, V64.l, V62.l, V60.l, V23.l]; rfl)); intro c' hc')
    | ((with_reducible first | apply op_step | apply op_step0 | apply d_ld | apply d_st | apply d_new | apply d_box | apply d_bsl | apply d_apw | apply d_apa | apply d_v); (focus (simp only [W0, reduceIte, Nat.reduceEqDiff, Nat.reduceAdd, Nat.reduceSub, Nat.reduceLeDiff, V66.l, V64.l, V62.l, V60.l, V23.l]; rfl)); all_goals (try rfl))
  all_goals ((with_reducible apply ret_plain); (focus (simp only [W0, reduceIte, Nat.reduceEqDiff, Nat.reduceAdd, Nat.reduceSub, Nat.reduceLeDiff, V66.l, V64.l, V62.l, V60.l, V23.l]; rfl)); (focus (simp [resV, idsV, idsL, slA_ids, ints_ids])))
  all_goals exact ⟨[], by simp_all [resV, F1, frL, frT, termF]⟩
def mx1 (b : Int) : Int := if b < 1 then 1 else b
/-- May entries stand so? -/
def rowF (t : Int) : Int → List (List AV) → Bool
  | _, [] => true
  | last, e :: es => decide ((ent66 e).f0 ≥ last) && decide ((ent66 e).f0 ≤ t) && entOK (ent66 e) && rowF t (ent66 e).f0 es
theorem row_step {t last : Int} {es : List (List AV)} {k : Nat} {q : V66} (h : es[k]? = some q.l) : rowF t last (es.drop k) = (decide (q.f0 ≥ last) && decide (q.f0 ≤ t) && entOK q && rowF t q.f0 (es.drop (k + 1))) := by
  obtain ⟨hk, e⟩ := List.getElem?_eq_some_iff.1 h
  rw [List.drop_eq_getElem_cons hk, e]
  simp only [rowF, ent66_l]
  rfl
theorem row_end {t last : Int} {es : List (List AV)} : rowF t last (es.drop es.length) = true := by
  rw [List.drop_length]; rfl
theorem f98 (o : Option (List (List AV))) (ho : ∀ us ∈ slL o, HasT prog 66 us) (hm : (slL o).length ≤ maxLen) (b t : Int) : FCall prog 98 [slA 66 o, .int .i64 b, .int .i64 t] (.bool (rowF t (mx1 b) (slL o))) := by
  refine fcall mixed t98 (by simp [m98]) (by simp [idsL, idsV, slA_ids]) (f_body ?_)
  simp only [m98, argEnv, List.length_nil, List.nil_append, List.cons_append, Nat.zero_add]
  repeat' first
    | (with_reducible first | apply c_seq | apply c_reg | apply c_dreg0 | apply c_block | apply c_ret | apply c_exit | apply c_skip | apply ops_nil | apply d_nil | apply k_seq_n | apply k_seq_r | apply k_seq_x | apply k_blk_n | apply k_blk_r | apply k_blk_x | apply k_end_n | apply k_end_r | apply k_loop_x | apply k_loop_r | apply c_dreg1 | apply c_dreg2)
    | ((with_reducible first | apply op_gS | apply op_g0 | apply d_gS | apply d_g0); (focus (simp only [W0, reduceIte, Nat.reduceEqDiff, Nat.reduceAdd, Nat.reduceSub, Nat.reduceLeDiff]; rfl)); (with_reducible first | apply g_no | apply g_T | apply g_F); all_goals (try (intro hc; first | exact absurd hc (by decide) | subst hc | clear hc)))
    | ((with_reducible apply c_cond); (focus (simp only [W0, reduceIte, Nat.reduceEqDiff, Nat.reduceAdd, Nat.reduceSub, Nat.reduceLeDiff]; rfl)); all_goals (intro hc; first | exact absurd hc (by decide) | subst hc | clear hc))
    | ((with_reducible first | apply op_isB | apply d_isV); (focus rfl); (focus (simp only [W0, reduceIte, Nat.reduceEqDiff, Nat.reduceAdd, Nat.reduceSub, Nat.reduceLeDiff]; rfl)); intro c' hc')
    | ((with_reducible first | apply op_step | apply op_step0 | apply d_ld | apply d_st | apply d_new | apply d_box | apply d_bsl | apply d_apw | apply d_apa | apply d_v); (focus (simp only [W0, reduceIte, Nat.reduceEqDiff, Nat.reduceAdd, Nat.reduceSub, Nat.reduceLeDiff]; rfl)); all_goals (try rfl))
  refine c_loop [2, 7, 12, 13, 14] (fun n env rows => ∃ (k : Nat) (last : Int), k ≤ (slL o).length ∧ n = (slL o).length - k ∧ env = [(2, .int .i64 t), (7, .int .i64 last), (12, slA 66 o), (13, .int .i64 ((slL o).length : Int)), (14, .int .i64 (k : Int))] ∧ rows = [] ∧ rowF t (mx1 b) (slL o) = rowF t last ((slL o).drop k)) (slL o).length
    (back_take (k := 0) (Nat.zero_le _) (Nat.zero_le _) (by simp [look, idsL, idsV, slA_ids]) (by simp) ⟨0, mx1 b, by omega, by omega, rfl, rfl, rfl⟩) ?_
  rintro n env rows ⟨k, last, hk, rfl, rfl, rfl, hrow⟩
  rcases Nat.lt_or_ge k (slL o).length with hk' | hk'
  · have hw := wrap_succ hk' hm
    obtain ⟨q, hq, hqok⟩ := el66 ho hk'
    repeat' first
      | (with_reducible first | apply c_seq | apply c_reg | apply c_dreg0 | apply c_block | apply c_ret | apply c_exit | apply c_skip | apply ops_nil | apply d_nil | apply k_seq_n | apply k_seq_r | apply k_seq_x | apply k_blk_n | apply k_blk_r | apply k_blk_x | apply k_end_n | apply k_end_r | apply k_loop_x | apply k_loop_r | apply c_dreg1 | apply c_dreg2)
      | ((with_reducible first | apply op_gS | apply op_g0 | apply d_gS | apply d_g0); (focus (simp only [W0, reduceIte, Nat.reduceEqDiff, Nat.reduceAdd, Nat.reduceSub, Nat.reduceLeDiff, slA_at 66 _ (k := .i64) hq, V66.l, V64.l, V62.l, V60.l, V23.l]; rfl)); (with_reducible first | apply g_no | apply g_T | apply g_F); all_goals (try (intro hc; first | exact absurd hc (by decide) | subst hc | clear hc)))
      | ((with_reducible apply c_cond); (focus (simp only [W0, reduceIte, Nat.reduceEqDiff, Nat.reduceAdd, Nat.reduceSub, Nat.reduceLeDiff, slA_at 66 _ (k := .i64) hq, V66.l, V64.l, V62.l, V60.l, V23.l]; rfl)); all_goals (intro hc; first | exact absurd hc (by decide) | subst hc | clear hc))
      | ((with_reducible first | apply op_fcallb (f := 125) | apply d_fcallb (f := 125)); (focus ((try simp only [W0, reduceIte, Nat.reduceEqDiff, Nat.reduceAdd, Nat.reduceSub, Nat.reduceLeDiff, slA_at 66 _ (k := .i64) hq, V66.l, V64.l, V62.l, V60.l, V23.l]); exact f125 q)); intro c' hc'; all_goals (try rfl))
      | ((with_reducible first | apply op_isB | apply d_isV); (focus rfl); (focus (simp only [W0, reduceIte, Nat.reduceEqDiff, Nat.reduceAdd, Nat.reduceSub, Nat.reduceLeDiff, slA_at 66 _ (k := .i64) hq, V66.l, V64.l, V62.l, V60.l, V23.l]; rfl)); intro c' hc')
      | ((with_reducible first | apply op_step | apply op_step0 | apply d_ld | apply d_st | apply d_new | apply d_box | apply d_bsl | apply d_apw | apply d_apa | apply d_v); (focus (simp only [W0, reduceIte, Nat.reduceEqDiff, Nat.reduceAdd, Nat.reduceSub, Nat.reduceLeDiff, slA_at 66 _ (k := .i64) hq, V66.l, V64.l, V62.l, V60.l, V23.l]; rfl)); all_goals (try rfl))
    any_goals (exfalso; simp only [decide_eq_true_eq, decide_eq_false_iff_not] at *; omega)
    all_goals first
    | (refine k_loop_n ((slL o).length - (k + 1)) (by omega) (back_take (k := 0) (Nat.zero_le _) (Nat.zero_le _) (by simp [look, idsL, idsV, slA_ids]) (by simp) ⟨k + 1, q.f0, by omega, rfl, by simp only [look, List.map, Nat.reduceEqDiff, reduceIte, hw], rfl, ?_⟩)
       rw [hrow, row_step hq]
       simp_all)
    | (((with_reducible apply ret_plain); (focus (simp only [resVs, resV1, look, Option.bind, Option.map, reduceIte, Nat.reduceEqDiff]; rfl)); (focus (simp [resV, idsV, idsL, slA_ids]))); refine ⟨[], ?_⟩; rw [hrow, row_step hq]; first | (simp_all [resV, fr, frV, frT, thawV]; done) | (simp_all [resV, fr, frV, frT, thawV] <;> (intros; omega)))
  · obtain rfl : k = (slL o).length := by omega
    rw [row_end] at hrow
    rw [hrow]
    repeat' first
      | (with_reducible first | apply c_seq | apply c_reg | apply c_dreg0 | apply c_block | apply c_ret | apply c_exit | apply c_skip | apply ops_nil | apply d_nil | apply k_seq_n | apply k_seq_r | apply k_seq_x | apply k_blk_n | apply k_blk_r | apply k_blk_x | apply k_end_n | apply k_end_r | apply k_loop_x | apply k_loop_r | apply c_dreg1 | apply c_dreg2)
      | ((with_reducible first | apply op_gS | apply op_g0 | apply d_gS | apply d_g0); (focus (simp only [W0, reduceIte, Nat.reduceEqDiff, Nat.reduceAdd, Nat.reduceSub, Nat.reduceLeDiff]; rfl)); (with_reducible first | apply g_no | apply g_T | apply g_F); all_goals (try (intro hc; first | exact absurd hc (by decide) | subst hc | clear hc)))
      | ((with_reducible apply c_cond); (focus (simp only [W0, reduceIte, Nat.reduceEqDiff, Nat.reduceAdd, Nat.reduceSub, Nat.reduceLeDiff]; rfl)); all_goals (intro hc; first | exact absurd hc (by decide) | subst hc | clear hc))
      | ((with_reducible first | apply op_isB | apply d_isV); (focus rfl); (focus (simp only [W0, reduceIte, Nat.reduceEqDiff, Nat.reduceAdd, Nat.reduceSub, Nat.reduceLeDiff]; rfl)); intro c' hc')
      | ((with_reducible first | apply op_step | apply op_step0 | apply d_ld | apply d_st | apply d_new | apply d_box | apply d_bsl | apply d_apw | apply d_apa | apply d_v); (focus (simp only [W0, reduceIte, Nat.reduceEqDiff, Nat.reduceAdd, Nat.reduceSub, Nat.reduceLeDiff]; rfl)); all_goals (try rfl))
    any_goals (exfalso; simp only [decide_eq_true_eq, decide_eq_false_iff_not] at *; omega)
    all_goals ((with_reducible apply ret_plain); (focus (simp only [resVs, resV1, look, Option.bind, Option.map, reduceIte, Nat.reduceEqDiff]; rfl)); (focus (simp [resV, idsV, idsL, slA_ids])))
    all_goals exact ⟨[], by simp_all [resV, fr, frV, frT, thawV]⟩
theorem f102 (o : Option (List (List AV))) (ho : ∀ us ∈ slL o, HasT prog 66 us) (hm : (slL o).length ≤ maxLen) (b t : Int) : FCall prog 102 [slA 66 o, .int .i64 b, .int .i64 t] (.bool (rowF t (mx1 b) (slL o))) := by
  refine fcall mixed t102 (by simp [m102]) (by simp [idsL, idsV, slA_ids]) (f_body ?_)
  simp only [m102, argEnv, List.length_nil, List.nil_append, List.cons_append, Nat.zero_add]
  repeat' first
    | (with_reducible first | apply c_seq | apply c_reg | apply c_dreg0 | apply c_block | apply c_ret | apply c_exit | apply c_skip | apply ops_nil | apply d_nil | apply k_seq_n | apply k_seq_r | apply k_seq_x | apply k_blk_n | apply k_blk_r | apply k_blk_x | apply k_end_n | apply k_end_r | apply k_loop_x | apply k_loop_r | apply c_dreg1 | apply c_dreg2)
    | ((with_reducible first | apply op_gS | apply op_g0 | apply d_gS | apply d_g0); (focus (simp only [W0, reduceIte, Nat.reduceEqDiff, Nat.reduceAdd, Nat.reduceSub, Nat.reduceLeDiff]; rfl)); (with_reducible first | apply g_no | apply g_T | apply g_F); all_goals (try (intro hc; first | exact absurd hc (by decide) | subst hc | clear hc)))
    | ((with_reducible apply c_cond); (focus (simp only [W0, reduceIte, Nat.reduceEqDiff, Nat.reduceAdd, Nat.reduceSub, Nat.reduceLeDiff]; rfl)); all_goals (intro hc; first | exact absurd hc (by decide) | subst hc | clear hc))
    | ((with_reducible first | apply op_isB | apply d_isV); (focus rfl); (focus (simp only [W0, reduceIte, Nat.reduceEqDiff, Nat.reduceAdd, Nat.reduceSub, Nat.reduceLeDiff]; rfl)); intro c' hc')
    | ((with_reducible first | apply op_step | apply op_step0 | apply d_ld | apply d_st | apply d_new | apply d_box | apply d_bsl | apply d_apw | apply d_apa | apply d_v); (focus (simp only [W0, reduceIte, Nat.reduceEqDiff, Nat.reduceAdd, Nat.reduceSub, Nat.reduceLeDiff]; rfl)); all_goals (try rfl))
  refine c_loop [0, 1, 2, 7] (fun n env rows => ∃ (k : Nat) (last : Int), k ≤ (slL o).length ∧ n = (slL o).length - k ∧ env = [(0, slA 66 o), (1, .int .i64 last), (2, .int .i64 t), (7, .int .i64 (k : Int))] ∧ rows = [] ∧ rowF t (mx1 b) (slL o) = rowF t (mx1 last) ((slL o).drop k)) (slL o).length
    (back_keep (by simp) (by simp [look, idsL, idsV, slA_ids]) (by simp) ⟨0, b, by omega, by omega, rfl, rfl, rfl⟩) ?_
  rintro n env rows ⟨k, last, hk, rfl, rfl, rfl, hrow⟩
  rcases Nat.lt_or_ge k (slL o).length with hk' | hk'
  · have hw := wrap_succ hk' hm
    obtain ⟨q, hq, hqok⟩ := el66 ho hk'
    repeat' first
      | (with_reducible first | apply c_seq | apply c_reg | apply c_dreg0 | apply c_block | apply c_ret | apply c_exit | apply c_skip | apply ops_nil | apply d_nil | apply k_seq_n | apply k_seq_r | apply k_seq_x | apply k_blk_n | apply k_blk_r | apply k_blk_x | apply k_end_n | apply k_end_r | apply k_loop_x | apply k_loop_r | apply c_dreg1 | apply c_dreg2)
      | ((with_reducible first | apply op_gS | apply op_g0 | apply d_gS | apply d_g0); (focus (simp only [W0, reduceIte, Nat.reduceEqDiff, Nat.reduceAdd, Nat.reduceSub, Nat.reduceLeDiff, slA_at 66 _ (k := .i64) hq, V66.l, V64.l, V62.l, V60.l, V23.l]; rfl)); (with_reducible first | apply g_no | apply g_T | apply g_F); all_goals (try (intro hc; first | exact absurd hc (by decide) | subst hc | clear hc)))
      | ((with_reducible apply c_cond); (focus (simp only [W0, reduceIte, Nat.reduceEqDiff, Nat.reduceAdd, Nat.reduceSub, Nat.reduceLeDiff, slA_at 66 _ (k := .i64) hq, V66.l, V64.l, V62.l, V60.l, V23.l]; rfl)); all_goals (intro hc; first | exact absurd hc (by decide) | subst hc | clear hc))
      | ((with_reducible first | apply op_fcallb (f := 128) | apply d_fcallb (f := 128)); (focus ((try simp only [W0, reduceIte, Nat.reduceEqDiff, Nat.reduceAdd, Nat.reduceSub, Nat.reduceLeDiff, slA_at 66 _ (k := .i64) hq, V66.l, V64.l, V62.l, V60.l, V23.l]); exact f128 q)); intro c' hc'; all_goals (try rfl))
      | ((with_reducible first | apply op_fcallb (f := 94) | apply d_fcallb (f := 94)); (focus ((try simp only [W0, reduceIte, Nat.reduceEqDiff, Nat.reduceAdd, Nat.reduceSub, Nat.reduceLeDiff, slA_at 66 _ (k := .i64) hq, V66.l, V64.l, V62.l, V60.l, V23.l]); exact f94 _ _ _)); intro c' hc'; all_goals (try rfl))
      | ((with_reducible first | apply op_isB | apply d_isV); (focus rfl); (focus (simp only [W0, reduceIte, Nat.reduceEqDiff, Nat.reduceAdd, Nat.reduceSub, Nat.reduceLeDiff, slA_at 66 _ (k := .i64) hq, V66.l, V64.l, V62.l, V60.l, V23.l]; rfl)); intro c' hc')
      | ((with_reducible first | apply op_step | apply op_step0 | apply d_ld | apply d_st | apply d_new | apply d_box | apply d_bsl | apply d_apw | apply d_apa | apply d_v); (focus (simp only [W0, reduceIte, Nat.reduceEqDiff, Nat.reduceAdd, Nat.reduceSub, Nat.reduceLeDiff, slA_at 66 _ (k := .i64) hq, V66.l, V64.l, V62.l, V60.l, V23.l]; rfl)); all_goals (try rfl))
    any_goals (exfalso; simp only [decide_eq_true_eq, decide_eq_false_iff_not] at *; omega)
    all_goals first
    | (refine k_loop_n ((slL o).length - (k + 1)) (by omega) (back_keep (by simp) (by simp [look, idsL, idsV, slA_ids]) (by simp) ⟨k + 1, q.f0, by omega, rfl, by simp only [look, List.map, Nat.reduceEqDiff, reduceIte, hw], rfl, ?_⟩)
       rw [hrow, row_step hq]
       have hq1 : withinF q.f0 (mx1 last) t = true := by simp_all [mx1]
       have hq2 : mx1 last ≤ q.f0 ∧ q.f0 ≤ t := by simpa [withinF] using hq1
       have hq3 : mx1 q.f0 = q.f0 := by have := hq2.1; unfold mx1 at this ⊢; split at this <;> (rw [if_neg (by omega)])
       rw [hq3]
       simp_all)
    | (((with_reducible apply ret_plain); (focus (simp only [resVs, resV1, look, Option.bind, Option.map, reduceIte, Nat.reduceEqDiff]; rfl)); (focus (simp [resV, idsV, idsL, slA_ids]))); refine ⟨[], ?_⟩; rw [hrow, row_step hq]; first | (simp_all [resV, fr, frV, frT, thawV, withinF, mx1]; done) | (simp_all [resV, fr, frV, frT, thawV, withinF, mx1] <;> (intros; omega)))
  · obtain rfl : k = (slL o).length := by omega
    rw [row_end] at hrow
    rw [hrow]
    repeat' first
      | (with_reducible first | apply c_seq | apply c_reg | apply c_dreg0 | apply c_block | apply c_ret | apply c_exit | apply c_skip | apply ops_nil | apply d_nil | apply k_seq_n | apply k_seq_r | apply k_seq_x | apply k_blk_n | apply k_blk_r | apply k_blk_x | apply k_end_n | apply k_end_r | apply k_loop_x | apply k_loop_r | apply c_dreg1 | apply c_dreg2)
      | ((with_reducible first | apply op_gS | apply op_g0 | apply d_gS | apply d_g0); (focus (simp only [W0, reduceIte, Nat.reduceEqDiff, Nat.reduceAdd, Nat.reduceSub, Nat.reduceLeDiff]; rfl)); (with_reducible first | apply g_no | apply g_T | apply g_F); all_goals (try (intro hc; first | exact absurd hc (by decide) | subst hc | clear hc)))
      | ((with_reducible apply c_cond); (focus (simp only [W0, reduceIte, Nat.reduceEqDiff, Nat.reduceAdd, Nat.reduceSub, Nat.reduceLeDiff]; rfl)); all_goals (intro hc; first | exact absurd hc (by decide) | subst hc | clear hc))
      | ((with_reducible first | apply op_isB | apply d_isV); (focus rfl); (focus (simp only [W0, reduceIte, Nat.reduceEqDiff, Nat.reduceAdd, Nat.reduceSub, Nat.reduceLeDiff]; rfl)); intro c' hc')
      | ((with_reducible first | apply op_step | apply op_step0 | apply d_ld | apply d_st | apply d_new | apply d_box | apply d_bsl | apply d_apw | apply d_apa | apply d_v); (focus (simp only [W0, reduceIte, Nat.reduceEqDiff, Nat.reduceAdd, Nat.reduceSub, Nat.reduceLeDiff]; rfl)); all_goals (try rfl))
    any_goals (exfalso; simp only [decide_eq_true_eq, decide_eq_false_iff_not] at *; omega)
    all_goals ((with_reducible apply ret_plain); (focus (simp only [resVs, resV1, look, Option.bind, Option.map, reduceIte, Nat.reduceEqDiff]; rfl)); (focus (simp [resV, idsV, idsL, slA_ids])))
    all_goals exact ⟨[], by simp_all [resV, fr, frV, frT, thawV]⟩
end Go.Sk
