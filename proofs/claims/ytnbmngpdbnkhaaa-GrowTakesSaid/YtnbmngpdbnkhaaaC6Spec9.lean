/- Right logs, messages that may be taken, what fits and what would break. Conditions: none. -/
import Derived.Test.YtnbmngpdbnkhaaaC6Spec8
set_option linter.unusedVariables false
set_option linter.unusedSimpArgs false
set_option maxRecDepth 20000
set_option maxHeartbeats 8000000
namespace Go.Sk
open Go.Proofs.Try
def hardF (v : V27) : Bool := withinF v.f0 0 1099511627776 && withinF v.f1 (-1) 6 && withinF v.f2 0 1099511627776 && withinF v.f3 0 v.f0 && ((v.f3 == 0) == (v.f2 == 0)) && confOK v.f4 && decide (((slL v.f5).length : Int) ≤ 16384) && (decide (v.f2 > 0) || (((slL v.f5).length : Int) == 0)) && rowF v.f0 (mx1 v.f3) (slL v.f6)
theorem if_ne (b : Bool) : ((if b = true then (0 : Int) else 14) != 0) = !b := by cases b <;> rfl
theorem f76 (v : V27) (hv : v.ok) : FCall prog 76 [.agg v.l] (.bool (hardF v)) := by
  refine fcall mixed t76 (by simp [m76]) (by simp [idsL, idsV, V27.ids]) (f_body ?_)
  simp only [m76, argEnv, List.length_nil, List.nil_append, List.cons_append, Nat.zero_add, V27.l, V23.l]
  repeat' first
    | (with_reducible first | apply c_seq | apply c_reg | apply c_dreg0 | apply c_block | apply c_ret | apply c_exit | apply c_skip | apply ops_nil | apply d_nil | apply k_seq_n | apply k_seq_r | apply k_seq_x | apply k_blk_n | apply k_blk_r | apply k_blk_x | apply k_end_n | apply k_end_r | apply k_loop_x | apply k_loop_r | apply c_dreg1 | apply c_dreg2)
    | ((with_reducible first | apply op_gS | apply op_g0 | apply d_gS | apply d_g0); (focus (simp only [W0, reduceIte, Nat.reduceEqDiff, Nat.reduceAdd, Nat.reduceSub, Nat.reduceLeDiff]; rfl)); (with_reducible first | apply g_no | apply g_T | apply g_F); all_goals (try (intro hc; first | exact absurd hc (by decide) | subst hc | clear hc)))
    | ((with_reducible apply c_cond); (focus (simp only [W0, reduceIte, Nat.reduceEqDiff, Nat.reduceAdd, Nat.reduceSub, Nat.reduceLeDiff]; rfl)); all_goals (intro hc; first | exact absurd hc (by decide) | subst hc | clear hc))
    | ((with_reducible first | apply op_fcallb (f := 94) | apply d_fcallb (f := 94)); (focus ((try simp only [W0, reduceIte, Nat.reduceEqDiff, Nat.reduceAdd, Nat.reduceSub, Nat.reduceLeDiff]); exact f94 _ _ _)); intro c' hc'; all_goals (try rfl))
    | ((with_reducible first | apply op_fcallb (f := 101) | apply d_fcallb (f := 101)); (focus ((try simp only [W0, reduceIte, Nat.reduceEqDiff, Nat.reduceAdd, Nat.reduceSub, Nat.reduceLeDiff]); exact f101 v.f4)); intro c' hc'; all_goals (try rfl))
    | ((with_reducible first | apply op_fcallb (f := 102) | apply d_fcallb (f := 102)); (focus ((try simp only [W0, reduceIte, Nat.reduceEqDiff, Nat.reduceAdd, Nat.reduceSub, Nat.reduceLeDiff]); exact f102 v.f6 hv.h6.1 hv.h6.2 _ _)); intro c' hc'; all_goals (try rfl))
    | ((with_reducible first | apply op_isB | apply d_isV); (focus rfl); (focus (simp only [W0, reduceIte, Nat.reduceEqDiff, Nat.reduceAdd, Nat.reduceSub, Nat.reduceLeDiff]; rfl)); intro c' hc')
    | ((with_reducible first | apply op_step | apply op_step0 | apply d_ld | apply d_st | apply d_new | apply d_box | apply d_bsl | apply d_apw | apply d_apa | apply d_v); (focus (simp only [W0, reduceIte, Nat.reduceEqDiff, Nat.reduceAdd, Nat.reduceSub, Nat.reduceLeDiff]; rfl)); all_goals (try rfl))
  all_goals ((with_reducible apply ret_plain); (focus (simp only [resVs, resV1, look, Option.bind, Option.map, reduceIte, Nat.reduceEqDiff]; rfl)); (focus (simp [resV, idsV, idsL, slA_ids])))
  all_goals exact ⟨[], by simp_all [resV, fr, frV, frT, thawV, hardF] <;> (intros; omega)⟩
theorem f71 (v : V27) (hv : v.ok) : FCall prog 71 [.agg v.l] (.int .i64 (if hardF v then 0 else 6)) := by
  have hz := if_ne (confOK v.f4)
  refine fcall mixed t71 (by simp [m71]) (by simp [idsL, idsV, V27.ids]) (f_body ?_)
  simp only [m71, argEnv, List.length_nil, List.nil_append, List.cons_append, Nat.zero_add, V27.l, V23.l]
  repeat' first
    | (with_reducible first | apply c_seq | apply c_reg | apply c_dreg0 | apply c_block | apply c_ret | apply c_exit | apply c_skip | apply ops_nil | apply d_nil | apply k_seq_n | apply k_seq_r | apply k_seq_x | apply k_blk_n | apply k_blk_r | apply k_blk_x | apply k_end_n | apply k_end_r | apply k_loop_x | apply k_loop_r | apply c_dreg1 | apply c_dreg2)
    | ((with_reducible first | apply op_gS | apply op_g0 | apply d_gS | apply d_g0); (focus (simp only [W0, reduceIte, Nat.reduceEqDiff, Nat.reduceAdd, Nat.reduceSub, Nat.reduceLeDiff, hz]; rfl)); (with_reducible first | apply g_no | apply g_T | apply g_F); all_goals (try (intro hc; first | exact absurd hc (by decide) | subst hc | clear hc)))
    | ((with_reducible apply c_cond); (focus (simp only [W0, reduceIte, Nat.reduceEqDiff, Nat.reduceAdd, Nat.reduceSub, Nat.reduceLeDiff, hz]; rfl)); all_goals (intro hc; first | exact absurd hc (by decide) | subst hc | clear hc))
    | ((with_reducible first | apply op_fcallb (f := 98) | apply d_fcallb (f := 98)); (focus ((try simp only [W0, reduceIte, Nat.reduceEqDiff, Nat.reduceAdd, Nat.reduceSub, Nat.reduceLeDiff, hz]); exact f98 v.f6 hv.h6.1 hv.h6.2 _ _)); intro c' hc'; all_goals (try rfl))
    | ((with_reducible first | apply op_fcall (f := 97) | apply d_fcall (f := 97)); (focus ((try simp only [W0, reduceIte, Nat.reduceEqDiff, Nat.reduceAdd, Nat.reduceSub, Nat.reduceLeDiff, hz]); first | exact f97 v.f4)); all_goals (try rfl))
    | ((with_reducible first | apply op_isB | apply d_isV); (focus rfl); (focus (simp only [W0, reduceIte, Nat.reduceEqDiff, Nat.reduceAdd, Nat.reduceSub, Nat.reduceLeDiff, hz]; rfl)); intro c' hc')
    | ((with_reducible first | apply op_step | apply op_step0 | apply d_ld | apply d_st | apply d_new | apply d_box | apply d_bsl | apply d_apw | apply d_apa | apply d_v); (focus (simp only [W0, reduceIte, Nat.reduceEqDiff, Nat.reduceAdd, Nat.reduceSub, Nat.reduceLeDiff, hz]; rfl)); all_goals (try rfl))
  all_goals ((with_reducible apply ret_plain); (focus (simp only [resVs, resV1, look, Option.bind, Option.map, reduceIte, Nat.reduceEqDiff]; rfl)); (focus (simp [resV, idsV, idsL, slA_ids])))
  all_goals refine ⟨[], ?_⟩
  all_goals simp only [resV, F1]
  all_goals have hcl : ∀ b : Bool, b = hardF v → some (AV.int IntKind.i64 (if b then 0 else 6), ([] : List Row)) = some (AV.int IntKind.i64 (if hardF v = true then 0 else 6), ([] : List Row)) := fun b e => by rw [e]
  all_goals first
  | (refine hcl false ?_; symm; simp_all [hardF, withinF] <;> (intros; omega))
  | (refine hcl true ?_; symm; simp_all [hardF, withinF] <;> (intros; omega))
  | (refine hcl false ?_; symm; simp_all [hardF, withinF]; intros; simp_all)
def rightF (v : V27) (c : Int) (m : V34) : Bool := decide (c ≥ v.f2) && decide (c ≤ lastI (slL v.f6) v.f2) && decide (m.f4 ≥ 0) && decide (m.f4 ≤ 1099511627776) && decide (m.f5 ≥ 0) && decide (m.f6 ≥ 0) && decide (((slL m.f9).length : Int) ≤ 8)
theorem f72 (v : V27) (hv : v.ok) (c : Int) (m : V34) : FCall prog 72 [.agg v.l, .int .i64 c, .agg m.l] (.bool (rightF v c m)) := by
  refine fcall mixed t72 (by simp [m72]) (by simp [idsL, idsV, V27.ids, V34.ids]) (f_body ?_)
  simp only [m72, argEnv, List.length_nil, List.nil_append, List.cons_append, Nat.zero_add, V27.l, V34.l, V23.l]
  repeat' first
    | (with_reducible first | apply c_seq | apply c_reg | apply c_dreg0 | apply c_block | apply c_ret | apply c_exit | apply c_skip | apply ops_nil | apply d_nil | apply k_seq_n | apply k_seq_r | apply k_seq_x | apply k_blk_n | apply k_blk_r | apply k_blk_x | apply k_end_n | apply k_end_r | apply k_loop_x | apply k_loop_r | apply c_dreg1 | apply c_dreg2)
    | ((with_reducible first | apply op_gS | apply op_g0 | apply d_gS | apply d_g0); (focus (simp only [W0, reduceIte, Nat.reduceEqDiff, Nat.reduceAdd, Nat.reduceSub, Nat.reduceLeDiff]; rfl)); (with_reducible first | apply g_no | apply g_T | apply g_F); all_goals (try (intro hc; first | exact absurd hc (by decide) | subst hc | clear hc)))
    | ((with_reducible apply c_cond); (focus (simp only [W0, reduceIte, Nat.reduceEqDiff, Nat.reduceAdd, Nat.reduceSub, Nat.reduceLeDiff]; rfl)); all_goals (intro hc; first | exact absurd hc (by decide) | subst hc | clear hc))
    | ((with_reducible first | apply op_fcall (f := 53) | apply d_fcall (f := 53)); (focus ((try simp only [W0, reduceIte, Nat.reduceEqDiff, Nat.reduceAdd, Nat.reduceSub, Nat.reduceLeDiff]); first | exact f53 v hv)); all_goals (try rfl))
    | ((with_reducible first | apply op_isB | apply d_isV); (focus rfl); (focus (simp only [W0, reduceIte, Nat.reduceEqDiff, Nat.reduceAdd, Nat.reduceSub, Nat.reduceLeDiff]; rfl)); intro c' hc')
    | ((with_reducible first | apply op_step | apply op_step0 | apply d_ld | apply d_st | apply d_new | apply d_box | apply d_bsl | apply d_apw | apply d_apa | apply d_v); (focus (simp only [W0, reduceIte, Nat.reduceEqDiff, Nat.reduceAdd, Nat.reduceSub, Nat.reduceLeDiff]; rfl)); all_goals (try rfl))
  all_goals ((with_reducible apply ret_plain); (focus (simp only [resVs, resV1, look, Option.bind, Option.map, reduceIte, Nat.reduceEqDiff]; rfl)); (focus (simp [resV, idsV, idsL, slA_ids])))
  all_goals exact ⟨[], by simp_all [resV, fr, frV, frT, thawV, rightF] <;> (intros; omega)⟩
def fitsF (v : V27) (i t : Int) : Bool := (t != -1) && (termF v i == t)
theorem f74 (v : V27) (hv : v.ok) (i t : Int) (hs : seen v i) : FCall prog 74 [.agg v.l, .int .i64 i, .int .i64 t] (.bool (fitsF v i t)) := by
  refine fcall mixed t74 (by simp [m74]) (by simp [idsL, idsV, V27.ids]) (f_body ?_)
  simp only [m74, argEnv, List.length_nil, List.nil_append, List.cons_append, Nat.zero_add, V27.l, V23.l]
  repeat' first
    | (with_reducible first | apply c_seq | apply c_reg | apply c_dreg0 | apply c_block | apply c_ret | apply c_exit | apply c_skip | apply ops_nil | apply d_nil | apply k_seq_n | apply k_seq_r | apply k_seq_x | apply k_blk_n | apply k_blk_r | apply k_blk_x | apply k_end_n | apply k_end_r | apply k_loop_x | apply k_loop_r | apply c_dreg1 | apply c_dreg2)
    | ((with_reducible first | apply op_gS | apply op_g0 | apply d_gS | apply d_g0); (focus (simp only [W0, reduceIte, Nat.reduceEqDiff, Nat.reduceAdd, Nat.reduceSub, Nat.reduceLeDiff]; rfl)); (with_reducible first | apply g_no | apply g_T | apply g_F); all_goals (try (intro hc; first | exact absurd hc (by decide) | subst hc | clear hc)))
    | ((with_reducible apply c_cond); (focus (simp only [W0, reduceIte, Nat.reduceEqDiff, Nat.reduceAdd, Nat.reduceSub, Nat.reduceLeDiff]; rfl)); all_goals (intro hc; first | exact absurd hc (by decide) | subst hc | clear hc))
    | ((with_reducible first | apply op_fcall (f := 99) | apply d_fcall (f := 99)); (focus ((try simp only [W0, reduceIte, Nat.reduceEqDiff, Nat.reduceAdd, Nat.reduceSub, Nat.reduceLeDiff]); first | exact f99 v hv i hs)); all_goals (try rfl))
    | ((with_reducible first | apply op_isB | apply d_isV); (focus rfl); (focus (simp only [W0, reduceIte, Nat.reduceEqDiff, Nat.reduceAdd, Nat.reduceSub, Nat.reduceLeDiff]; rfl)); intro c' hc')
    | ((with_reducible first | apply op_step | apply op_step0 | apply d_ld | apply d_st | apply d_new | apply d_box | apply d_bsl | apply d_apw | apply d_apa | apply d_v); (focus (simp only [W0, reduceIte, Nat.reduceEqDiff, Nat.reduceAdd, Nat.reduceSub, Nat.reduceLeDiff]; rfl)); all_goals (try rfl))
  all_goals ((with_reducible apply ret_plain); (focus (simp only [resVs, resV1, look, Option.bind, Option.map, reduceIte, Nat.reduceEqDiff]; rfl)); (focus (simp [resV, idsV, idsL, slA_ids])))
  all_goals exact ⟨[], by simp_all [resV, fr, frV, frT, thawV, fitsF]⟩
theorem f78 (v : V27) (hv : v.ok) (i t : Int) (hs : seen v i) : FCall prog 78 [.agg v.l, .int .i64 i, .int .i64 t] (.bool (fitsF v i t)) := by
  refine fcall mixed t78 (by simp [m78]) (by simp [idsL, idsV, V27.ids]) (f_body ?_)
  simp only [m78, argEnv, List.length_nil, List.nil_append, List.cons_append, Nat.zero_add, V27.l, V23.l]
  repeat' first
    | (with_reducible first | apply c_seq | apply c_reg | apply c_dreg0 | apply c_block | apply c_ret | apply c_exit | apply c_skip | apply ops_nil | apply d_nil | apply k_seq_n | apply k_seq_r | apply k_seq_x | apply k_blk_n | apply k_blk_r | apply k_blk_x | apply k_end_n | apply k_end_r | apply k_loop_x | apply k_loop_r | apply c_dreg1 | apply c_dreg2)
    | ((with_reducible first | apply op_gS | apply op_g0 | apply d_gS | apply d_g0); (focus (simp only [W0, reduceIte, Nat.reduceEqDiff, Nat.reduceAdd, Nat.reduceSub, Nat.reduceLeDiff]; rfl)); (with_reducible first | apply g_no | apply g_T | apply g_F); all_goals (try (intro hc; first | exact absurd hc (by decide) | subst hc | clear hc)))
    | ((with_reducible apply c_cond); (focus (simp only [W0, reduceIte, Nat.reduceEqDiff, Nat.reduceAdd, Nat.reduceSub, Nat.reduceLeDiff]; rfl)); all_goals (intro hc; first | exact absurd hc (by decide) | subst hc | clear hc))
    | ((with_reducible first | apply op_fcall (f := 103) | apply d_fcall (f := 103)); (focus ((try simp only [W0, reduceIte, Nat.reduceEqDiff, Nat.reduceAdd, Nat.reduceSub, Nat.reduceLeDiff]); first | exact f103 v hv i hs)); all_goals (try rfl))
    | ((with_reducible first | apply op_isB | apply d_isV); (focus rfl); (focus (simp only [W0, reduceIte, Nat.reduceEqDiff, Nat.reduceAdd, Nat.reduceSub, Nat.reduceLeDiff]; rfl)); intro c' hc')
    | ((with_reducible first | apply op_step | apply op_step0 | apply d_ld | apply d_st | apply d_new | apply d_box | apply d_bsl | apply d_apw | apply d_apa | apply d_v); (focus (simp only [W0, reduceIte, Nat.reduceEqDiff, Nat.reduceAdd, Nat.reduceSub, Nat.reduceLeDiff]; rfl)); all_goals (try rfl))
  all_goals ((with_reducible apply ret_plain); (focus (simp only [resVs, resV1, look, Option.bind, Option.map, reduceIte, Nat.reduceEqDiff]; rfl)); (focus (simp [resV, idsV, idsL, slA_ids])))
  all_goals exact ⟨[], by simp_all [resV, fr, frV, frT, thawV, fitsF]⟩
/-- Would an entry that is committed be another one? -/
def breaksF (v : V27) (c : Int) : Int → List (List AV) → Bool
  | _, [] => false
  | p, e :: es => (decide (p + 1 ≤ c) && (termF v (p + 1) != (ent66 e).f0)) || breaksF v c (p + 1) es
theorem breaks_step {v : V27} {c p : Int} {es : List (List AV)} {k : Nat} {q : V66} (h : es[k]? = some q.l) : breaksF v c (p + k) (es.drop k) = ((decide (p + k + 1 ≤ c) && (termF v (p + k + 1) != q.f0)) || breaksF v c (p + ((k + 1 : Nat) : Int)) (es.drop (k + 1))) := by
  obtain ⟨hk, e⟩ := List.getElem?_eq_some_iff.1 h
  rw [List.drop_eq_getElem_cons hk, e]
  simp only [breaksF, ent66_l]
  rw [show p + ((k + 1 : Nat) : Int) = p + k + 1 by omega]
theorem breaks_end {v : V27} {c p : Int} {es : List (List AV)} : breaksF v c p (es.drop es.length) = false := by
  rw [List.drop_length]; rfl
theorem seen_at {v : V27} {i j : Int} (h : seen v i) (h1 : -1152921504606846976 ≤ j) (h2 : j ≤ 1152921504606846976) : seen v j := ⟨h.1, h.2.1, h.2.2.1, h1, h2⟩
theorem f75 (v : V27) (hv : v.ok) (c p : Int) (o : Option (List (List AV))) (ho : ∀ us ∈ slL o, HasT prog 66 us) (hm : (slL o).length ≤ 1000000) (hs : seen v p) (hp : 0 ≤ p ∧ p ≤ 1125899906842624) : FCall prog 75 [.agg v.l, .int .i64 c, .int .i64 p, slA 66 o] (.bool (breaksF v c p (slL o))) := by
  have hmm : (slL o).length ≤ maxLen := Nat.le_trans hm (by decide)
  refine fcall mixed t75 (by simp [m75]) (by simp [idsL, idsV, slA_ids, V27.ids]) (f_body ?_)
  simp only [m75, argEnv, List.length_nil, List.nil_append, List.cons_append, Nat.zero_add, V27.l, V23.l]
  repeat' first
    | (with_reducible first | apply c_seq | apply c_reg | apply c_dreg0 | apply c_block | apply c_ret | apply c_exit | apply c_skip | apply ops_nil | apply d_nil | apply k_seq_n | apply k_seq_r | apply k_seq_x | apply k_blk_n | apply k_blk_r | apply k_blk_x | apply k_end_n | apply k_end_r | apply k_loop_x | apply k_loop_r | apply c_dreg1 | apply c_dreg2)
    | ((with_reducible first | apply op_gS | apply op_g0 | apply d_gS | apply d_g0); (focus (simp only [W0, reduceIte, Nat.reduceEqDiff, Nat.reduceAdd, Nat.reduceSub, Nat.reduceLeDiff]; rfl)); (with_reducible first | apply g_no | apply g_T | apply g_F); all_goals (try (intro hc; first | exact absurd hc (by decide) | subst hc | clear hc)))
    | ((with_reducible apply c_cond); (focus (simp only [W0, reduceIte, Nat.reduceEqDiff, Nat.reduceAdd, Nat.reduceSub, Nat.reduceLeDiff]; rfl)); all_goals (intro hc; first | exact absurd hc (by decide) | subst hc | clear hc))
    | ((with_reducible first | apply op_isB | apply d_isV); (focus rfl); (focus (simp only [W0, reduceIte, Nat.reduceEqDiff, Nat.reduceAdd, Nat.reduceSub, Nat.reduceLeDiff]; rfl)); intro c' hc')
    | ((with_reducible first | apply op_step | apply op_step0 | apply d_ld | apply d_st | apply d_new | apply d_box | apply d_bsl | apply d_apw | apply d_apa | apply d_v); (focus (simp only [W0, reduceIte, Nat.reduceEqDiff, Nat.reduceAdd, Nat.reduceSub, Nat.reduceLeDiff]; rfl)); all_goals (try rfl))
  refine c_loop [1, 2, 4, 11, 12, 13] (fun n env rows => ∃ k : Nat, k ≤ (slL o).length ∧ n = (slL o).length - k ∧ env = [(1, .int .i64 c), (2, .int .i64 p), (4, .ptr 0 0), (11, slA 66 o), (12, .int .i64 ((slL o).length : Int)), (13, .int .i64 (k : Int))] ∧ rows = [Row.box 27 v.l] ∧ breaksF v c p (slL o) = breaksF v c (p + k) ((slL o).drop k)) (slL o).length
    (back_take (k := 1) (Nat.zero_le _) (by simp) (by simp [look, idsL, idsV, slA_ids]) (by simp [idsR, idsL, idsV, slA_ids, V27.ids]) ⟨0, by omega, by omega, rfl, by simp [V27.l, V23.l], by simp⟩) ?_
  rintro n env rows ⟨k, hk, rfl, rfl, rfl, hrow⟩
  simp only [V27.l, V23.l, List.cons_append, List.nil_append]
  rcases Nat.lt_or_ge k (slL o).length with hk' | hk'
  · have hw := wrap_succ hk' hmm
    obtain ⟨q, hq, hqok⟩ := el66 ho hk'
    have w0 : ∀ x : Int, -4611686018427387904 ≤ x → x ≤ 4611686018427387904 → IntKind.i64.wrap x = x := fun x a b => by simp [IntKind.wrap, IntKind.signed, IntKind.bits]; omega
    have w1 : IntKind.i64.wrap (p + (k : Int)) = p + k := w0 _ (by omega) (by omega)
    have w2 : IntKind.i64.wrap (p + (k : Int) + 1) = p + k + 1 := w0 _ (by omega) (by omega)
    repeat' first
      | (with_reducible first | apply c_seq | apply c_reg | apply c_dreg0 | apply c_block | apply c_ret | apply c_exit | apply c_skip | apply ops_nil | apply d_nil | apply k_seq_n | apply k_seq_r | apply k_seq_x | apply k_blk_n | apply k_blk_r | apply k_blk_x | apply k_end_n | apply k_end_r | apply k_loop_x | apply k_loop_r | apply c_dreg1 | apply c_dreg2)
      | ((with_reducible first | apply op_gS | apply op_g0 | apply d_gS | apply d_g0); (focus (simp only [W0, reduceIte, Nat.reduceEqDiff, Nat.reduceAdd, Nat.reduceSub, Nat.reduceLeDiff, slA_at 66 _ (k := .i64) hq, w1, w2, V66.l, V64.l, V62.l, V60.l, V23.l]; rfl)); (with_reducible first | apply g_no | apply g_T | apply g_F); all_goals (try (intro hc; first | exact absurd hc (by decide) | subst hc | clear hc)))
      | ((with_reducible apply c_cond); (focus (simp only [W0, reduceIte, Nat.reduceEqDiff, Nat.reduceAdd, Nat.reduceSub, Nat.reduceLeDiff, slA_at 66 _ (k := .i64) hq, w1, w2, V66.l, V64.l, V62.l, V60.l, V23.l]; rfl)); all_goals (intro hc; first | exact absurd hc (by decide) | subst hc | clear hc))
      | ((with_reducible first | apply op_fcall (f := 99) | apply d_fcall (f := 99)); (focus ((try simp only [W0, reduceIte, Nat.reduceEqDiff, Nat.reduceAdd, Nat.reduceSub, Nat.reduceLeDiff, slA_at 66 _ (k := .i64) hq, w1, w2, V66.l, V64.l, V62.l, V60.l, V23.l]); first | exact f99 v hv (p + k + 1) (seen_at hs (by omega) (by omega)))); all_goals (try rfl))
      | ((with_reducible first | apply op_isB | apply d_isV); (focus rfl); (focus (simp only [W0, reduceIte, Nat.reduceEqDiff, Nat.reduceAdd, Nat.reduceSub, Nat.reduceLeDiff, slA_at 66 _ (k := .i64) hq, w1, w2, V66.l, V64.l, V62.l, V60.l, V23.l]; rfl)); intro c' hc')
      | ((with_reducible first | apply op_step | apply op_step0 | apply d_ld | apply d_st | apply d_new | apply d_box | apply d_bsl | apply d_apw | apply d_apa | apply d_v); (focus (simp only [W0, reduceIte, Nat.reduceEqDiff, Nat.reduceAdd, Nat.reduceSub, Nat.reduceLeDiff, slA_at 66 _ (k := .i64) hq, w1, w2, V66.l, V64.l, V62.l, V60.l, V23.l]; rfl)); all_goals (try rfl))
    any_goals (exfalso; simp only [decide_eq_true_eq, decide_eq_false_iff_not] at *; omega)
    all_goals first
    | (refine k_loop_n ((slL o).length - (k + 1)) (by omega) (back_take (k := 1) (Nat.zero_le _) (by simp) (by simp [look, idsL, idsV, slA_ids]) (by simp [idsR, idsL, idsV, slA_ids, V27.ids]) ⟨k + 1, by omega, rfl, by simp only [look, List.map, Nat.reduceEqDiff, reduceIte, hw], by simp [V27.l, V23.l], ?_⟩)
       rw [hrow, breaks_step hq]
       first | (simp_all; done) | (simp_all <;> (intros; omega)))
    | (((with_reducible apply ret_plain); (focus (simp only [resVs, resV1, look, Option.bind, Option.map, reduceIte, Nat.reduceEqDiff]; rfl)); (focus (simp [resV, idsV, idsL, slA_ids]))); refine ⟨[], ?_⟩; rw [hrow, breaks_step hq]; first | (simp_all [resV, fr, frV, frT, thawV]; done) | (simp_all [resV, fr, frV, frT, thawV] <;> (intros; omega)))
  · obtain rfl : k = (slL o).length := by omega
    rw [breaks_end] at hrow
    rw [hrow]
    repeat' first
      | (with_reducible first | apply c_seq | apply c_reg | apply c_dreg0 | apply c_block | apply c_ret | apply c_exit | apply c_skip | apply ops_nil | apply d_nil | apply k_seq_n | apply k_seq_r | apply k_seq_x | apply k_blk_n | apply k_blk_r | apply k_blk_x | apply k_end_n | apply k_end_r | apply k_loop_x | apply k_loop_r | apply c_dreg1 | apply c_dreg2)
      | ((with_reducible first | apply op_gS | apply op_g0 | apply d_gS | apply d_g0); (focus (simp only [W0, reduceIte, Nat.reduceEqDiff, Nat.reduceAdd, Nat.reduceSub, Nat.reduceLeDiff]; rfl)); (with_reducible first | apply g_no | apply g_T | apply g_F); all_goals (try (intro hc; first | exact absurd hc (by decide) | subst hc | clear hc)))
      | ((with_reducible apply c_cond); (focus (simp only [W0, reduceIte, Nat.reduceEqDiff, Nat.reduceAdd, Nat.reduceSub, Nat.reduceLeDiff]; rfl)); all_goals (intro hc; first | exact absurd hc (by decide) | subst hc | clear hc))
      | ((with_reducible first | apply op_isB | apply d_isV); (focus rfl); (focus (simp only [W0, reduceIte, Nat.reduceEqDiff, Nat.reduceAdd, Nat.reduceSub, Nat.reduceLeDiff]; rfl)); intro c' hc')
      | ((with_reducible first | apply op_step | apply op_step0 | apply d_ld | apply d_st | apply d_new | apply d_box | apply d_bsl | apply d_apw | apply d_apa | apply d_v); (focus (simp only [W0, reduceIte, Nat.reduceEqDiff, Nat.reduceAdd, Nat.reduceSub, Nat.reduceLeDiff]; rfl)); all_goals (try rfl))
    any_goals (exfalso; simp only [decide_eq_true_eq, decide_eq_false_iff_not] at *; omega)
    all_goals ((with_reducible apply ret_plain); (focus (simp only [resVs, resV1, look, Option.bind, Option.map, reduceIte, Nat.reduceEqDiff]; rfl)); (focus (simp [resV, idsV, idsL, slA_ids])))
    all_goals exact ⟨[], by simp_all [resV, fr, frV, frT, thawV]⟩
end Go.Sk
