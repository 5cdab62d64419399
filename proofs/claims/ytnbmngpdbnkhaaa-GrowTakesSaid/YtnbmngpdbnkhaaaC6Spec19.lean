/- What becomes of a log by a message, and the rows that it lies in. Conditions: none. -/
import Derived.Test.YtnbmngpdbnkhaaaC6Spec16
import Derived.Test.YtnbmngpdbnkhaaaC6Own2
set_option linter.unusedVariables false
set_option linter.unusedSimpArgs false
set_option maxRecDepth 20000
set_option maxHeartbeats 8000000
namespace Go.Sk
open Go.Proofs.Try
def takeS (n : Nat) (r : TR) : AV := .tup [.agg (r.x.s n), .int .i64 r.c, .agg r.y.l, .int .i64 r.e]
theorem put_nilN (v : V27) (hv : v.ok) (hl5 : (slL v.f5).length ≤ 1000000) (hl6 : (slL v.f6).length ≤ 1000000) (hh : hardF v = true) (hlast : v.f2 ≤ lastI (slL v.f6) v.f2) (n : Nat) : FCallN prog 73 [.agg v.l, .int .i64 v.f2, .nil 66] n (.tup [.agg (v.s n), .int .i64 0]) v.rw := by
  obtain ⟨b1, b2⟩ := hard_base hh
  have hs : seen v v.f2 := ⟨b1, b2, by omega, by omega, by omega⟩
  have := put_yesN v hv hl5 hl6 v.f2 none (by simp [slL]) (by simp [slL]) hs hh (by
    show (decide (v.f2 ≤ v.f2) && decide (v.f2 ≤ lastI (slL v.f6) v.f2) && true) = true
    rw [decide_eq_true (Int.le_refl _), decide_eq_true hlast]; rfl) n
  have e : setLog v (putO v.f6 (v.f2 - v.f2).toNat (slL none)) = v := rfl
  rwa [e] at this
theorem take_N {args : List AV} {r : TR} (hy : idsL r.y.l = []) (hi : idsL args = []) (h : CW prog 35 args [] (fun u q => u = takeS 0 r ∧ q = r.x.rw)) (n : Nat) : FCallN prog 35 args n (takeS n r) r.x.rw := by
  have := FCallN.of hi h n
  have e1 : renV (· + n) (takeS 0 r) = takeS n r := by
    unfold takeS V27.s
    simp [renV, renL, slS_ren, renL_none _ _ hy, Nat.add_comm]
  have e2 : r.x.rw.map (renR (· + n)) = r.x.rw := by simp [V27.rw, rwS_ren]
  rwa [e1, e2] at this
theorem takeA_offN (v : V27) (hv : v.ok) (c : Int) (m : V34) (hm : m.o9) (hl5 : (slL v.f5).length ≤ 1000000) (hl6 : (slL v.f6).length ≤ 1000000) (hh : hardF v = true) (hr : rightF v c m = true) (hb : v.f2 ≤ m.f4) (hf : fitsF v m.f4 m.f5 = false) : CW prog 35 [.agg v.l, .int .i64 c, .agg m.l] [] (fun u q => u = takeS 0 (TR.mk v c (answer false (mxF (mnF (lastI (slL v.f6) v.f2) (m.f4 - 1)) v.f2)) 0) ∧ q = ((TR.mk v c (answer false (mxF (mnF (lastI (slL v.f6) v.f2) (m.f4 - 1)) v.f2)) 0) : TR).x.rw) := by
  obtain ⟨b1, b2⟩ := hard_base hh
  obtain ⟨r1, r2, r3, r4, r5, r6, r7⟩ := right_facts hr
  have hs : seen v m.f4 := ⟨b1, b2, by omega, by omega, by omega⟩
  have h71 := f71 v hv
  rw [hh] at h71
  simp only [reduceIte] at h71
  have h72 := f72 v hv c m
  rw [hr] at h72
  have d0 : decide (m.f4 < v.f2) = false := decide_eq_false (by omega)
  have h73 := put_nilN v hv hl5 hl6 hh (by omega)
  have wp : IntKind.i64.wrap (m.f4 - 1) = m.f4 - 1 := by simp [IntKind.wrap, IntKind.signed, IntKind.bits]; omega
  have wl : IntKind.i64.wrap (m.f4 + ((slL m.f9).length : Int)) = m.f4 + ((slL m.f9).length : Int) := by simp [IntKind.wrap, IntKind.signed, IntKind.bits]; omega
  have h74 := f74 v hv m.f4 m.f5 hs
  rw [hf] at h74
  refine trF_ok mixed t35 (by simp [m35]) (f_body ?_)
  simp only [m35, argEnv, List.length_nil, List.nil_append, List.cons_append, Nat.zero_add, V27.l, V23.l, V34.l, zero27, zero34, answer, takeV, slA_none, slA_some]
  repeat' first
    | (with_reducible first | apply c_seq | apply c_reg | apply c_dreg0 | apply c_block | apply c_ret | apply c_exit | apply c_skip | apply ops_nil | apply d_nil | apply k_seq_n | apply k_seq_r | apply k_seq_x | apply k_blk_n | apply k_blk_r | apply k_blk_x | apply k_end_n | apply k_end_r | apply k_loop_x | apply k_loop_r | apply c_dreg1 | apply c_dreg2)
    | ((with_reducible first | apply op_gS | apply op_g0 | apply d_gS | apply d_g0); (focus (simp only [W0, reduceIte, Nat.reduceEqDiff, Nat.reduceAdd, Nat.reduceSub, Nat.reduceLeDiff, Bool.not_false, Bool.not_true, d0, wp, wl, V27.l, V23.l, V34.l, slA_none, zero27, setLog, V27.s, V27.rw, W5, beq_self_eq_true, bne_self_eq_false, BEq.rfl]; rfl)); (with_reducible first | apply g_no | apply g_T | apply g_F); all_goals (try (intro hc; first | exact absurd hc (by decide) | subst hc | clear hc)))
    | ((with_reducible apply c_cond); (focus (simp only [W0, reduceIte, Nat.reduceEqDiff, Nat.reduceAdd, Nat.reduceSub, Nat.reduceLeDiff, Bool.not_false, Bool.not_true, d0, wp, wl, V27.l, V23.l, V34.l, slA_none, zero27, setLog, V27.s, V27.rw, W5, beq_self_eq_true, bne_self_eq_false, BEq.rfl]; rfl)); all_goals (intro hc; first | exact absurd hc (by decide) | subst hc | clear hc))
    | ((with_reducible first | apply op_cn (f := 73) | apply d_cn (f := 73)); (focus ((try simp only [W0, reduceIte, Nat.reduceEqDiff, Nat.reduceAdd, Nat.reduceSub, Nat.reduceLeDiff, Bool.not_false, Bool.not_true, d0, wp, wl, V27.l, V23.l, V34.l, slA_none, zero27, setLog, V27.s, V27.rw, W5, beq_self_eq_true, bne_self_eq_false, BEq.rfl]); exact h73 _)); all_goals (try rfl))
    | ((with_reducible first | apply op_fcall (f := 71) | apply d_fcall (f := 71)); (focus ((try simp only [W0, reduceIte, Nat.reduceEqDiff, Nat.reduceAdd, Nat.reduceSub, Nat.reduceLeDiff, Bool.not_false, Bool.not_true, d0, wp, wl, V27.l, V23.l, V34.l, slA_none, zero27, setLog, V27.s, V27.rw, W5, beq_self_eq_true, bne_self_eq_false, BEq.rfl]); first | exact h71)); all_goals (try rfl))
    | ((with_reducible first | apply op_fcall (f := 72) | apply d_fcall (f := 72)); (focus ((try simp only [W0, reduceIte, Nat.reduceEqDiff, Nat.reduceAdd, Nat.reduceSub, Nat.reduceLeDiff, Bool.not_false, Bool.not_true, d0, wp, wl, V27.l, V23.l, V34.l, slA_none, zero27, setLog, V27.s, V27.rw, W5, beq_self_eq_true, bne_self_eq_false, BEq.rfl]); first | exact h72)); all_goals (try rfl))
    | ((with_reducible first | apply op_fcall (f := 53) | apply d_fcall (f := 53)); (focus ((try simp only [W0, reduceIte, Nat.reduceEqDiff, Nat.reduceAdd, Nat.reduceSub, Nat.reduceLeDiff, Bool.not_false, Bool.not_true, d0, wp, wl, V27.l, V23.l, V34.l, slA_none, zero27, setLog, V27.s, V27.rw, W5, beq_self_eq_true, bne_self_eq_false, BEq.rfl]); first | exact f53 v hv)); all_goals (try rfl))
    | ((with_reducible first | apply op_fcall (f := 74) | apply d_fcall (f := 74)); (focus ((try simp only [W0, reduceIte, Nat.reduceEqDiff, Nat.reduceAdd, Nat.reduceSub, Nat.reduceLeDiff, Bool.not_false, Bool.not_true, d0, wp, wl, V27.l, V23.l, V34.l, slA_none, zero27, setLog, V27.s, V27.rw, W5, beq_self_eq_true, bne_self_eq_false, BEq.rfl]); first | exact h74)); all_goals (try rfl))
    | ((with_reducible first | apply op_isB | apply d_isV); (focus rfl); (focus (simp only [W0, reduceIte, Nat.reduceEqDiff, Nat.reduceAdd, Nat.reduceSub, Nat.reduceLeDiff, Bool.not_false, Bool.not_true, d0, wp, wl, V27.l, V23.l, V34.l, slA_none, zero27, setLog, V27.s, V27.rw, W5, beq_self_eq_true, bne_self_eq_false, BEq.rfl]; rfl)); intro c' hc'; try with_reducible first | cases (show true = c' from hc') | cases (show false = c' from hc'))
    | ((with_reducible first | apply op_step | apply op_step0 | apply d_ld | apply d_st | apply d_new | apply d_box | apply d_bsl | apply d_apw | apply d_apa | apply d_v); (focus (simp only [W0, reduceIte, Nat.reduceEqDiff, Nat.reduceAdd, Nat.reduceSub, Nat.reduceLeDiff, Bool.not_false, Bool.not_true, d0, wp, wl, V27.l, V23.l, V34.l, slA_none, zero27, setLog, V27.s, V27.rw, W5, beq_self_eq_true, bne_self_eq_false, BEq.rfl]; rfl)); all_goals (try rfl))
  all_goals first | (exfalso; refine Bool.false_ne_true ?_; first | assumption | (symm; assumption)) | (exact absurd ‹true = false› (by decide)) | skip
  all_goals ((with_reducible apply ret_two 4 5); (focus (simp only [W0, reduceIte, Nat.reduceEqDiff, Nat.reduceAdd, Nat.reduceSub, Nat.reduceLeDiff, Bool.not_false, Bool.not_true, d0, wp, wl, V27.l, V23.l, V34.l, slA_none, zero27, setLog, V27.s, V27.rw, W5, beq_self_eq_true, bne_self_eq_false, BEq.rfl]; rfl)); (focus rfl); (focus rfl); (focus decide); (focus (simp only [rwS_ids])); (focus (simp only [rwS_ids])); (focus (simp [resV, idsV, idsL]; intro id hid; exact hid.imp slS_ids slS_ids)); (focus (simp only [rwS_ren])); (focus (simp only [rwS_ren])))
  all_goals exact And.intro (by simp [resV, renV, renL, slS_ren, gcF_l, gcF_r, takeS, V27.s, V34.l, V23.l, answer, slA, setLog, mnF, mxF] <;> rfl) rfl
theorem takeA_yesN (v : V27) (hv : v.ok) (c : Int) (m : V34) (hm : m.o9) (hl5 : (slL v.f5).length ≤ 1000000) (hl6 : (slL v.f6).length ≤ 1000000) (hh : hardF v = true) (hr : rightF v c m = true) (hb : v.f2 ≤ m.f4) (hf : fitsF v m.f4 m.f5 = true) (hk : breaksF v c m.f4 (slL m.f9) = false) (hp : putOK v m.f4 (slL m.f9) = true) : CW prog 35 [.agg v.l, .int .i64 c, .agg m.l] [] (fun u q => u = takeS 0 (TR.mk (setLog v (putO v.f6 (m.f4 - v.f2).toNat (slL m.f9))) (mxF c (mnF m.f6 (m.f4 + (slL m.f9).length))) (answer true (m.f4 + (slL m.f9).length)) 0) ∧ q = ((TR.mk (setLog v (putO v.f6 (m.f4 - v.f2).toNat (slL m.f9))) (mxF c (mnF m.f6 (m.f4 + (slL m.f9).length))) (answer true (m.f4 + (slL m.f9).length)) 0) : TR).x.rw) := by
  obtain ⟨b1, b2⟩ := hard_base hh
  obtain ⟨r1, r2, r3, r4, r5, r6, r7⟩ := right_facts hr
  have hs : seen v m.f4 := ⟨b1, b2, by omega, by omega, by omega⟩
  have h71 := f71 v hv
  rw [hh] at h71
  simp only [reduceIte] at h71
  have h72 := f72 v hv c m
  rw [hr] at h72
  have d0 : decide (m.f4 < v.f2) = false := decide_eq_false (by omega)
  have h73 := put_nilN v hv hl5 hl6 hh (by omega)
  have wp : IntKind.i64.wrap (m.f4 - 1) = m.f4 - 1 := by simp [IntKind.wrap, IntKind.signed, IntKind.bits]; omega
  have wl : IntKind.i64.wrap (m.f4 + ((slL m.f9).length : Int)) = m.f4 + ((slL m.f9).length : Int) := by simp [IntKind.wrap, IntKind.signed, IntKind.bits]; omega
  have h74 := f74 v hv m.f4 m.f5 hs
  rw [hf] at h74
  have h75 := f75 v hv c m.f4 m.f9 hm.h9.1 (by omega) hs ⟨r3, by omega⟩
  rw [hk] at h75
  have h73b := put_yesN v hv hl5 hl6 m.f4 m.f9 hm.h9.1 (by omega) hs hh hp
  refine trF_ok mixed t35 (by simp [m35]) (f_body ?_)
  simp only [m35, argEnv, List.length_nil, List.nil_append, List.cons_append, Nat.zero_add, V27.l, V23.l, V34.l, zero27, zero34, answer, takeV, slA_none, slA_some]
  repeat' first
    | (with_reducible first | apply c_seq | apply c_reg | apply c_dreg0 | apply c_block | apply c_ret | apply c_exit | apply c_skip | apply ops_nil | apply d_nil | apply k_seq_n | apply k_seq_r | apply k_seq_x | apply k_blk_n | apply k_blk_r | apply k_blk_x | apply k_end_n | apply k_end_r | apply k_loop_x | apply k_loop_r | apply c_dreg1 | apply c_dreg2)
    | ((with_reducible first | apply op_gS | apply op_g0 | apply d_gS | apply d_g0); (focus (simp only [W0, reduceIte, Nat.reduceEqDiff, Nat.reduceAdd, Nat.reduceSub, Nat.reduceLeDiff, Bool.not_false, Bool.not_true, d0, wp, wl, V27.l, V23.l, V34.l, slA_none, zero27, setLog, V27.s, V27.rw, W5, beq_self_eq_true, bne_self_eq_false, BEq.rfl]; rfl)); (with_reducible first | apply g_no | apply g_T | apply g_F); all_goals (try (intro hc; first | exact absurd hc (by decide) | subst hc | clear hc)))
    | ((with_reducible apply c_cond); (focus (simp only [W0, reduceIte, Nat.reduceEqDiff, Nat.reduceAdd, Nat.reduceSub, Nat.reduceLeDiff, Bool.not_false, Bool.not_true, d0, wp, wl, V27.l, V23.l, V34.l, slA_none, zero27, setLog, V27.s, V27.rw, W5, beq_self_eq_true, bne_self_eq_false, BEq.rfl]; rfl)); all_goals (intro hc; first | exact absurd hc (by decide) | subst hc | clear hc))
    | ((with_reducible first | apply op_cn (f := 73) | apply d_cn (f := 73)); (focus ((try simp only [W0, reduceIte, Nat.reduceEqDiff, Nat.reduceAdd, Nat.reduceSub, Nat.reduceLeDiff, Bool.not_false, Bool.not_true, d0, wp, wl, V27.l, V23.l, V34.l, slA_none, zero27, setLog, V27.s, V27.rw, W5, beq_self_eq_true, bne_self_eq_false, BEq.rfl]); exact h73 _)); all_goals (try rfl))
    | ((with_reducible first | apply op_cn (f := 73) | apply d_cn (f := 73)); (focus ((try simp only [W0, reduceIte, Nat.reduceEqDiff, Nat.reduceAdd, Nat.reduceSub, Nat.reduceLeDiff, Bool.not_false, Bool.not_true, d0, wp, wl, V27.l, V23.l, V34.l, slA_none, zero27, setLog, V27.s, V27.rw, W5, beq_self_eq_true, bne_self_eq_false, BEq.rfl]); exact h73b _)); all_goals (try rfl))
    | ((with_reducible first | apply op_fcall (f := 71) | apply d_fcall (f := 71)); (focus ((try simp only [W0, reduceIte, Nat.reduceEqDiff, Nat.reduceAdd, Nat.reduceSub, Nat.reduceLeDiff, Bool.not_false, Bool.not_true, d0, wp, wl, V27.l, V23.l, V34.l, slA_none, zero27, setLog, V27.s, V27.rw, W5, beq_self_eq_true, bne_self_eq_false, BEq.rfl]); first | exact h71)); all_goals (try rfl))
    | ((with_reducible first | apply op_fcall (f := 72) | apply d_fcall (f := 72)); (focus ((try simp only [W0, reduceIte, Nat.reduceEqDiff, Nat.reduceAdd, Nat.reduceSub, Nat.reduceLeDiff, Bool.not_false, Bool.not_true, d0, wp, wl, V27.l, V23.l, V34.l, slA_none, zero27, setLog, V27.s, V27.rw, W5, beq_self_eq_true, bne_self_eq_false, BEq.rfl]); first | exact h72)); all_goals (try rfl))
    | ((with_reducible first | apply op_fcall (f := 53) | apply d_fcall (f := 53)); (focus ((try simp only [W0, reduceIte, Nat.reduceEqDiff, Nat.reduceAdd, Nat.reduceSub, Nat.reduceLeDiff, Bool.not_false, Bool.not_true, d0, wp, wl, V27.l, V23.l, V34.l, slA_none, zero27, setLog, V27.s, V27.rw, W5, beq_self_eq_true, bne_self_eq_false, BEq.rfl]); first | exact f53 v hv)); all_goals (try rfl))
    | ((with_reducible first | apply op_fcall (f := 74) | apply d_fcall (f := 74)); (focus ((try simp only [W0, reduceIte, Nat.reduceEqDiff, Nat.reduceAdd, Nat.reduceSub, Nat.reduceLeDiff, Bool.not_false, Bool.not_true, d0, wp, wl, V27.l, V23.l, V34.l, slA_none, zero27, setLog, V27.s, V27.rw, W5, beq_self_eq_true, bne_self_eq_false, BEq.rfl]); first | exact h74)); all_goals (try rfl))
    | ((with_reducible first | apply op_fcall (f := 75) | apply d_fcall (f := 75)); (focus ((try simp only [W0, reduceIte, Nat.reduceEqDiff, Nat.reduceAdd, Nat.reduceSub, Nat.reduceLeDiff, Bool.not_false, Bool.not_true, d0, wp, wl, V27.l, V23.l, V34.l, slA_none, zero27, setLog, V27.s, V27.rw, W5, beq_self_eq_true, bne_self_eq_false, BEq.rfl]); first | exact h75)); all_goals (try rfl))
    | ((with_reducible first | apply op_isB | apply d_isV); (focus rfl); (focus (simp only [W0, reduceIte, Nat.reduceEqDiff, Nat.reduceAdd, Nat.reduceSub, Nat.reduceLeDiff, Bool.not_false, Bool.not_true, d0, wp, wl, V27.l, V23.l, V34.l, slA_none, zero27, setLog, V27.s, V27.rw, W5, beq_self_eq_true, bne_self_eq_false, BEq.rfl]; rfl)); intro c' hc'; try with_reducible first | cases (show true = c' from hc') | cases (show false = c' from hc'))
    | ((with_reducible first | apply op_step | apply op_step0 | apply d_ld | apply d_st | apply d_new | apply d_box | apply d_bsl | apply d_apw | apply d_apa | apply d_v); (focus (simp only [W0, reduceIte, Nat.reduceEqDiff, Nat.reduceAdd, Nat.reduceSub, Nat.reduceLeDiff, Bool.not_false, Bool.not_true, d0, wp, wl, V27.l, V23.l, V34.l, slA_none, zero27, setLog, V27.s, V27.rw, W5, beq_self_eq_true, bne_self_eq_false, BEq.rfl]; rfl)); all_goals (try rfl))
  all_goals first | (exfalso; refine Bool.false_ne_true ?_; first | assumption | (symm; assumption)) | (exact absurd ‹true = false› (by decide)) | skip
  all_goals ((with_reducible apply ret_two 7 8); (focus (simp only [W0, reduceIte, Nat.reduceEqDiff, Nat.reduceAdd, Nat.reduceSub, Nat.reduceLeDiff, Bool.not_false, Bool.not_true, d0, wp, wl, V27.l, V23.l, V34.l, slA_none, zero27, setLog, V27.s, V27.rw, W5, beq_self_eq_true, bne_self_eq_false, BEq.rfl]; rfl)); (focus rfl); (focus rfl); (focus decide); (focus (simp only [rwS_ids])); (focus (simp only [rwS_ids])); (focus (simp [resV, idsV, idsL]; intro id hid; exact hid.imp slS_ids slS_ids)); (focus (simp only [rwS_ren])); (focus (simp only [rwS_ren])))
  all_goals exact And.intro (by simp [resV, renV, renL, slS_ren, gcF_l, gcF_r, takeS, V27.s, V34.l, V23.l, answer, slA, setLog, mnF, mxF] <;> rfl) rfl
theorem takeB_yesN (v : V27) (hv : v.ok) (c g0 g1 g2 g3 g4 g5 g6 g7 : Int) (g8 : Bool) (g10 : V23) (g11 g12 : Option (List (List AV))) (l : List (List AV)) (hm : (V34.mk g0 g1 g2 g3 g4 g5 g6 g7 g8 (some l) g10 g11 g12).o9) (hl5 : (slL v.f5).length ≤ 1000000) (hl6 : (slL v.f6).length ≤ 1000000) (hh : hardF v = true) (hr : rightF v c (V34.mk g0 g1 g2 g3 g4 g5 g6 g7 g8 (some l) g10 g11 g12) = true) (hb : g4 < v.f2) (n : Nat) (hn : mnF (v.f2 - g4) (l.length : Int) = (n : Int)) (hk : breaksF v c v.f2 (l.drop n) = false) (hp : putOK v v.f2 (l.drop n) = true) : CW prog 35 [.agg v.l, .int .i64 c, .agg (V34.mk g0 g1 g2 g3 g4 g5 g6 g7 g8 (some l) g10 g11 g12).l] [] (fun u q => u = takeS 0 (TR.mk (setLog v (putO v.f6 0 (l.drop n))) (mxF c (mnF g6 (v.f2 + (l.drop n).length))) (answer true (v.f2 + (l.drop n).length)) 0) ∧ q = ((TR.mk (setLog v (putO v.f6 0 (l.drop n))) (mxF c (mnF g6 (v.f2 + (l.drop n).length))) (answer true (v.f2 + (l.drop n).length)) 0) : TR).x.rw) := by
  obtain ⟨b1, b2⟩ := hard_base hh
  obtain ⟨r1, r2, r3, r4, r5, r6, r7⟩ := right_facts hr
  simp only [slL_some] at r3 r4 r5 r6 r7
  have hs : seen v v.f2 := ⟨b1, b2, by omega, by omega, by omega⟩
  have h71 := f71 v hv
  rw [hh] at h71
  simp only [reduceIte] at h71
  have h72 := f72 v hv c (V34.mk g0 g1 g2 g3 g4 g5 g6 g7 g8 (some l) g10 g11 g12)
  rw [hr] at h72
  have d0 : decide (g4 < v.f2) = true := decide_eq_true hb
  have h73 := put_nilN v hv hl5 hl6 hh (by omega)
  have hnl : n ≤ l.length := by unfold mnF at hn; split at hn <;> omega
  have w1 : IntKind.i64.wrap (v.f2 - g4) = v.f2 - g4 := by simp [IntKind.wrap, IntKind.signed, IntKind.bits]; omega
  have hmn : (if (l.length : Int) < v.f2 - g4 then (l.length : Int) else v.f2 - g4) = (n : Int) := hn
  have p3 : (0 ≤ (n : Int)) = True := eq_true (by omega)
  have p4 : ((n : Int) ≤ ((l.length : Nat) : Int)) = True := eq_true (by omega)
  have hdl : (l.drop n).length ≤ 8 := by rw [List.length_drop]; omega
  have wl : IntKind.i64.wrap (v.f2 + ((l.drop n).length : Int)) = v.f2 + ((l.drop n).length : Int) := by simp only [List.length_drop]; simp [IntKind.wrap, IntKind.signed, IntKind.bits]; omega
  have h74 := f74 v hv v.f2 v.f3 hs
  rw [fits_base hh] at h74
  have ho : ∀ us ∈ slL (some (l.drop n)), HasT prog 66 us := has_drop hm.h9.1
  have hol : (slL (some (l.drop n))).length ≤ 1000000 := by simp only [slL_some]; omega
  have h75 := f75 v hv c v.f2 (some (l.drop n)) ho hol hs ⟨b1, by omega⟩
  rw [show slL (some (l.drop n)) = l.drop n from rfl, hk] at h75
  have h73b := put_yesN v hv hl5 hl6 v.f2 (some (l.drop n)) ho hol hs hh hp
  rw [show (v.f2 - v.f2).toNat = 0 by omega, show slL (some (l.drop n)) = l.drop n from rfl] at h73b
  refine trF_ok mixed t35 (by simp [m35]) (f_body ?_)
  simp only [m35, argEnv, List.length_nil, List.nil_append, List.cons_append, Nat.zero_add, V27.l, V23.l, V34.l, zero27, zero34, answer, takeV, slA_none, slA_some]
  repeat' first
    | (with_reducible first | apply c_seq | apply c_reg | apply c_dreg0 | apply c_block | apply c_ret | apply c_exit | apply c_skip | apply ops_nil | apply d_nil | apply k_seq_n | apply k_seq_r | apply k_seq_x | apply k_blk_n | apply k_blk_r | apply k_blk_x | apply k_end_n | apply k_end_r | apply k_loop_x | apply k_loop_r | apply c_dreg1 | apply c_dreg2)
    | ((with_reducible first | apply op_gS | apply op_g0 | apply d_gS | apply d_g0); (focus (simp only [W0, reduceIte, Nat.reduceEqDiff, Nat.reduceAdd, Nat.reduceSub, Nat.reduceLeDiff, Bool.not_false, Bool.not_true, d0, wl, w1, hmn, p3, p4, bound, true_and, Int.toNat_natCast, List.take_length, V27.l, V23.l, V34.l, slA_none, slA_some, slL_some, zero27, setLog, V27.s, V27.rw, W5, beq_self_eq_true, bne_self_eq_false, BEq.rfl]; rfl)); (with_reducible first | apply g_no | apply g_T | apply g_F); all_goals (try (intro hc; first | exact absurd hc (by decide) | subst hc | clear hc)))
    | ((with_reducible apply c_cond); (focus (simp only [W0, reduceIte, Nat.reduceEqDiff, Nat.reduceAdd, Nat.reduceSub, Nat.reduceLeDiff, Bool.not_false, Bool.not_true, d0, wl, w1, hmn, p3, p4, bound, true_and, Int.toNat_natCast, List.take_length, V27.l, V23.l, V34.l, slA_none, slA_some, slL_some, zero27, setLog, V27.s, V27.rw, W5, beq_self_eq_true, bne_self_eq_false, BEq.rfl]; rfl)); all_goals (intro hc; first | exact absurd hc (by decide) | subst hc | clear hc))
    | ((with_reducible first | apply op_cn (f := 73) | apply d_cn (f := 73)); (focus ((try simp only [W0, reduceIte, Nat.reduceEqDiff, Nat.reduceAdd, Nat.reduceSub, Nat.reduceLeDiff, Bool.not_false, Bool.not_true, d0, wl, w1, hmn, p3, p4, bound, true_and, Int.toNat_natCast, List.take_length, V27.l, V23.l, V34.l, slA_none, slA_some, slL_some, zero27, setLog, V27.s, V27.rw, W5, beq_self_eq_true, bne_self_eq_false, BEq.rfl]); exact h73 _)); all_goals (try rfl))
    | ((with_reducible first | apply op_cn (f := 73) | apply d_cn (f := 73)); (focus ((try simp only [W0, reduceIte, Nat.reduceEqDiff, Nat.reduceAdd, Nat.reduceSub, Nat.reduceLeDiff, Bool.not_false, Bool.not_true, d0, wl, w1, hmn, p3, p4, bound, true_and, Int.toNat_natCast, List.take_length, V27.l, V23.l, V34.l, slA_none, slA_some, slL_some, zero27, setLog, V27.s, V27.rw, W5, beq_self_eq_true, bne_self_eq_false, BEq.rfl]); exact h73b _)); all_goals (try rfl))
    | ((with_reducible first | apply op_fcall (f := 71) | apply d_fcall (f := 71)); (focus ((try simp only [W0, reduceIte, Nat.reduceEqDiff, Nat.reduceAdd, Nat.reduceSub, Nat.reduceLeDiff, Bool.not_false, Bool.not_true, d0, wl, w1, hmn, p3, p4, bound, true_and, Int.toNat_natCast, List.take_length, V27.l, V23.l, V34.l, slA_none, slA_some, slL_some, zero27, setLog, V27.s, V27.rw, W5, beq_self_eq_true, bne_self_eq_false, BEq.rfl]); first | exact h71)); all_goals (try rfl))
    | ((with_reducible first | apply op_fcall (f := 72) | apply d_fcall (f := 72)); (focus ((try simp only [W0, reduceIte, Nat.reduceEqDiff, Nat.reduceAdd, Nat.reduceSub, Nat.reduceLeDiff, Bool.not_false, Bool.not_true, d0, wl, w1, hmn, p3, p4, bound, true_and, Int.toNat_natCast, List.take_length, V27.l, V23.l, V34.l, slA_none, slA_some, slL_some, zero27, setLog, V27.s, V27.rw, W5, beq_self_eq_true, bne_self_eq_false, BEq.rfl]); first | exact h72)); all_goals (try rfl))
    | ((with_reducible first | apply op_fcall (f := 53) | apply d_fcall (f := 53)); (focus ((try simp only [W0, reduceIte, Nat.reduceEqDiff, Nat.reduceAdd, Nat.reduceSub, Nat.reduceLeDiff, Bool.not_false, Bool.not_true, d0, wl, w1, hmn, p3, p4, bound, true_and, Int.toNat_natCast, List.take_length, V27.l, V23.l, V34.l, slA_none, slA_some, slL_some, zero27, setLog, V27.s, V27.rw, W5, beq_self_eq_true, bne_self_eq_false, BEq.rfl]); first | exact f53 v hv)); all_goals (try rfl))
    | ((with_reducible first | apply op_fcall (f := 74) | apply d_fcall (f := 74)); (focus ((try simp only [W0, reduceIte, Nat.reduceEqDiff, Nat.reduceAdd, Nat.reduceSub, Nat.reduceLeDiff, Bool.not_false, Bool.not_true, d0, wl, w1, hmn, p3, p4, bound, true_and, Int.toNat_natCast, List.take_length, V27.l, V23.l, V34.l, slA_none, slA_some, slL_some, zero27, setLog, V27.s, V27.rw, W5, beq_self_eq_true, bne_self_eq_false, BEq.rfl]); first | exact h74)); all_goals (try rfl))
    | ((with_reducible first | apply op_fcall (f := 75) | apply d_fcall (f := 75)); (focus ((try simp only [W0, reduceIte, Nat.reduceEqDiff, Nat.reduceAdd, Nat.reduceSub, Nat.reduceLeDiff, Bool.not_false, Bool.not_true, d0, wl, w1, hmn, p3, p4, bound, true_and, Int.toNat_natCast, List.take_length, V27.l, V23.l, V34.l, slA_none, slA_some, slL_some, zero27, setLog, V27.s, V27.rw, W5, beq_self_eq_true, bne_self_eq_false, BEq.rfl]); first | exact h75)); all_goals (try rfl))
    | ((with_reducible first | apply op_isB | apply d_isV); (focus rfl); (focus (simp only [W0, reduceIte, Nat.reduceEqDiff, Nat.reduceAdd, Nat.reduceSub, Nat.reduceLeDiff, Bool.not_false, Bool.not_true, d0, wl, w1, hmn, p3, p4, bound, true_and, Int.toNat_natCast, List.take_length, V27.l, V23.l, V34.l, slA_none, slA_some, slL_some, zero27, setLog, V27.s, V27.rw, W5, beq_self_eq_true, bne_self_eq_false, BEq.rfl]; rfl)); intro c' hc'; try with_reducible first | cases (show true = c' from hc') | cases (show false = c' from hc'))
    | ((with_reducible first | apply op_step | apply op_step0 | apply d_ld | apply d_st | apply d_new | apply d_box | apply d_bsl | apply d_apw | apply d_apa | apply d_v); (focus (simp only [W0, reduceIte, Nat.reduceEqDiff, Nat.reduceAdd, Nat.reduceSub, Nat.reduceLeDiff, Bool.not_false, Bool.not_true, d0, wl, w1, hmn, p3, p4, bound, true_and, Int.toNat_natCast, List.take_length, V27.l, V23.l, V34.l, slA_none, slA_some, slL_some, zero27, setLog, V27.s, V27.rw, W5, beq_self_eq_true, bne_self_eq_false, BEq.rfl]; rfl)); all_goals (try rfl))
  all_goals first | (exfalso; refine Bool.false_ne_true ?_; first | assumption | (symm; assumption)) | (exact absurd ‹true = false› (by decide)) | skip
  all_goals ((with_reducible apply ret_two 7 8); (focus (simp only [W0, reduceIte, Nat.reduceEqDiff, Nat.reduceAdd, Nat.reduceSub, Nat.reduceLeDiff, Bool.not_false, Bool.not_true, d0, wl, w1, hmn, p3, p4, bound, true_and, Int.toNat_natCast, List.take_length, V27.l, V23.l, V34.l, slA_none, slA_some, slL_some, zero27, setLog, V27.s, V27.rw, W5, beq_self_eq_true, bne_self_eq_false, BEq.rfl]; rfl)); (focus rfl); (focus rfl); (focus decide); (focus (simp only [rwS_ids])); (focus (simp only [rwS_ids])); (focus (simp [resV, idsV, idsL]; intro id hid; exact hid.imp slS_ids slS_ids)); (focus (simp only [rwS_ren])); (focus (simp only [rwS_ren])))
  all_goals exact And.intro (by simp [resV, renV, renL, slS_ren, gcF_l, gcF_r, takeS, V27.s, V34.l, V23.l, answer, slA, setLog, mnF, mxF] <;> rfl) rfl
theorem takeN_yesN (v : V27) (hv : v.ok) (c g0 g1 g2 g3 g4 g5 g6 g7 : Int) (g8 : Bool) (g10 : V23) (g11 g12 : Option (List (List AV))) (hm : (V34.mk g0 g1 g2 g3 g4 g5 g6 g7 g8 none g10 g11 g12).o9) (hl5 : (slL v.f5).length ≤ 1000000) (hl6 : (slL v.f6).length ≤ 1000000) (hh : hardF v = true) (hr : rightF v c (V34.mk g0 g1 g2 g3 g4 g5 g6 g7 g8 none g10 g11 g12) = true) (hb : g4 < v.f2) : CW prog 35 [.agg v.l, .int .i64 c, .agg (V34.mk g0 g1 g2 g3 g4 g5 g6 g7 g8 none g10 g11 g12).l] [] (fun u q => u = takeS 0 (TR.mk v (mxF c (mnF g6 v.f2)) (answer true v.f2) 0) ∧ q = ((TR.mk v (mxF c (mnF g6 v.f2)) (answer true v.f2) 0) : TR).x.rw) := by
  obtain ⟨b1, b2⟩ := hard_base hh
  obtain ⟨r1, r2, r3, r4, r5, r6, r7⟩ := right_facts hr
  simp only at r3 r4 r5 r6 r7
  have hs : seen v v.f2 := ⟨b1, b2, by omega, by omega, by omega⟩
  have h71 := f71 v hv
  rw [hh] at h71
  simp only [reduceIte] at h71
  have h72 := f72 v hv c (V34.mk g0 g1 g2 g3 g4 g5 g6 g7 g8 none g10 g11 g12)
  rw [hr] at h72
  have d0 : decide (g4 < v.f2) = true := decide_eq_true hb
  have h73 := put_nilN v hv hl5 hl6 hh (by omega)
  have w1 : IntKind.i64.wrap (v.f2 - g4) = v.f2 - g4 := by simp [IntKind.wrap, IntKind.signed, IntKind.bits]; omega
  have hmn : (if (0 : Int) < v.f2 - g4 then (0 : Int) else v.f2 - g4) = 0 := if_pos (by omega)
  have pz : ((0 : Int) ≤ 0) = True := eq_true (by omega)
  have pz2 : ((0 : Int) ≤ ((0 : Nat) : Int)) = True := eq_true (by omega)
  have tz : (0 : Int).toNat = 0 := rfl
  have wl : IntKind.i64.wrap (v.f2 + 0) = v.f2 := by simp [IntKind.wrap, IntKind.signed, IntKind.bits]; omega
  have h74 := f74 v hv v.f2 v.f3 hs
  rw [fits_base hh] at h74
  have h75 : FCall prog 75 [.agg v.l, .int .i64 c, .int .i64 v.f2, .nil 66] (.bool false) := f75 v hv c v.f2 none (by simp [slL]) (by simp [slL]) hs ⟨b1, by omega⟩
  refine trF_ok mixed t35 (by simp [m35]) (f_body ?_)
  simp only [m35, argEnv, List.length_nil, List.nil_append, List.cons_append, Nat.zero_add, V27.l, V23.l, V34.l, zero27, zero34, answer, takeV, slA_none, slA_some]
  repeat' first
    | (with_reducible first | apply c_seq | apply c_reg | apply c_dreg0 | apply c_block | apply c_ret | apply c_exit | apply c_skip | apply ops_nil | apply d_nil | apply k_seq_n | apply k_seq_r | apply k_seq_x | apply k_blk_n | apply k_blk_r | apply k_blk_x | apply k_end_n | apply k_end_r | apply k_loop_x | apply k_loop_r | apply c_dreg1 | apply c_dreg2)
    | ((with_reducible first | apply op_gS | apply op_g0 | apply d_gS | apply d_g0); (focus (simp only [W0, reduceIte, Nat.reduceEqDiff, Nat.reduceAdd, Nat.reduceSub, Nat.reduceLeDiff, Bool.not_false, Bool.not_true, d0, wl, w1, hmn, pz, pz2, tz, bound, true_and, Int.toNat_natCast, List.take_length, V27.l, V23.l, V34.l, slA_none, slA_some, slL_some, zero27, setLog, V27.s, V27.rw, W5, beq_self_eq_true, bne_self_eq_false, BEq.rfl]; rfl)); (with_reducible first | apply g_no | apply g_T | apply g_F); all_goals (try (intro hc; first | exact absurd hc (by decide) | subst hc | clear hc)))
    | ((with_reducible apply c_cond); (focus (simp only [W0, reduceIte, Nat.reduceEqDiff, Nat.reduceAdd, Nat.reduceSub, Nat.reduceLeDiff, Bool.not_false, Bool.not_true, d0, wl, w1, hmn, pz, pz2, tz, bound, true_and, Int.toNat_natCast, List.take_length, V27.l, V23.l, V34.l, slA_none, slA_some, slL_some, zero27, setLog, V27.s, V27.rw, W5, beq_self_eq_true, bne_self_eq_false, BEq.rfl]; rfl)); all_goals (intro hc; first | exact absurd hc (by decide) | subst hc | clear hc))
    | ((with_reducible first | apply op_cn (f := 73) | apply d_cn (f := 73)); (focus ((try simp only [W0, reduceIte, Nat.reduceEqDiff, Nat.reduceAdd, Nat.reduceSub, Nat.reduceLeDiff, Bool.not_false, Bool.not_true, d0, wl, w1, hmn, pz, pz2, tz, bound, true_and, Int.toNat_natCast, List.take_length, V27.l, V23.l, V34.l, slA_none, slA_some, slL_some, zero27, setLog, V27.s, V27.rw, W5, beq_self_eq_true, bne_self_eq_false, BEq.rfl]); exact h73 _)); all_goals (try rfl))
    | ((with_reducible first | apply op_fcall (f := 71) | apply d_fcall (f := 71)); (focus ((try simp only [W0, reduceIte, Nat.reduceEqDiff, Nat.reduceAdd, Nat.reduceSub, Nat.reduceLeDiff, Bool.not_false, Bool.not_true, d0, wl, w1, hmn, pz, pz2, tz, bound, true_and, Int.toNat_natCast, List.take_length, V27.l, V23.l, V34.l, slA_none, slA_some, slL_some, zero27, setLog, V27.s, V27.rw, W5, beq_self_eq_true, bne_self_eq_false, BEq.rfl]); first | exact h71)); all_goals (try rfl))
    | ((with_reducible first | apply op_fcall (f := 72) | apply d_fcall (f := 72)); (focus ((try simp only [W0, reduceIte, Nat.reduceEqDiff, Nat.reduceAdd, Nat.reduceSub, Nat.reduceLeDiff, Bool.not_false, Bool.not_true, d0, wl, w1, hmn, pz, pz2, tz, bound, true_and, Int.toNat_natCast, List.take_length, V27.l, V23.l, V34.l, slA_none, slA_some, slL_some, zero27, setLog, V27.s, V27.rw, W5, beq_self_eq_true, bne_self_eq_false, BEq.rfl]); first | exact h72)); all_goals (try rfl))
    | ((with_reducible first | apply op_fcall (f := 53) | apply d_fcall (f := 53)); (focus ((try simp only [W0, reduceIte, Nat.reduceEqDiff, Nat.reduceAdd, Nat.reduceSub, Nat.reduceLeDiff, Bool.not_false, Bool.not_true, d0, wl, w1, hmn, pz, pz2, tz, bound, true_and, Int.toNat_natCast, List.take_length, V27.l, V23.l, V34.l, slA_none, slA_some, slL_some, zero27, setLog, V27.s, V27.rw, W5, beq_self_eq_true, bne_self_eq_false, BEq.rfl]); first | exact f53 v hv)); all_goals (try rfl))
    | ((with_reducible first | apply op_fcall (f := 74) | apply d_fcall (f := 74)); (focus ((try simp only [W0, reduceIte, Nat.reduceEqDiff, Nat.reduceAdd, Nat.reduceSub, Nat.reduceLeDiff, Bool.not_false, Bool.not_true, d0, wl, w1, hmn, pz, pz2, tz, bound, true_and, Int.toNat_natCast, List.take_length, V27.l, V23.l, V34.l, slA_none, slA_some, slL_some, zero27, setLog, V27.s, V27.rw, W5, beq_self_eq_true, bne_self_eq_false, BEq.rfl]); first | exact h74)); all_goals (try rfl))
    | ((with_reducible first | apply op_fcall (f := 75) | apply d_fcall (f := 75)); (focus ((try simp only [W0, reduceIte, Nat.reduceEqDiff, Nat.reduceAdd, Nat.reduceSub, Nat.reduceLeDiff, Bool.not_false, Bool.not_true, d0, wl, w1, hmn, pz, pz2, tz, bound, true_and, Int.toNat_natCast, List.take_length, V27.l, V23.l, V34.l, slA_none, slA_some, slL_some, zero27, setLog, V27.s, V27.rw, W5, beq_self_eq_true, bne_self_eq_false, BEq.rfl]); first | exact h75)); all_goals (try rfl))
    | ((with_reducible first | apply op_isB | apply d_isV); (focus rfl); (focus (simp only [W0, reduceIte, Nat.reduceEqDiff, Nat.reduceAdd, Nat.reduceSub, Nat.reduceLeDiff, Bool.not_false, Bool.not_true, d0, wl, w1, hmn, pz, pz2, tz, bound, true_and, Int.toNat_natCast, List.take_length, V27.l, V23.l, V34.l, slA_none, slA_some, slL_some, zero27, setLog, V27.s, V27.rw, W5, beq_self_eq_true, bne_self_eq_false, BEq.rfl]; rfl)); intro c' hc'; try with_reducible first | cases (show true = c' from hc') | cases (show false = c' from hc'))
    | ((with_reducible first | apply op_step | apply op_step0 | apply d_ld | apply d_st | apply d_new | apply d_box | apply d_bsl | apply d_apw | apply d_apa | apply d_v); (focus (simp only [W0, reduceIte, Nat.reduceEqDiff, Nat.reduceAdd, Nat.reduceSub, Nat.reduceLeDiff, Bool.not_false, Bool.not_true, d0, wl, w1, hmn, pz, pz2, tz, bound, true_and, Int.toNat_natCast, List.take_length, V27.l, V23.l, V34.l, slA_none, slA_some, slL_some, zero27, setLog, V27.s, V27.rw, W5, beq_self_eq_true, bne_self_eq_false, BEq.rfl]; rfl)); all_goals (try rfl))
  all_goals first | (exfalso; refine Bool.false_ne_true ?_; first | assumption | (symm; assumption)) | (exact absurd ‹true = false› (by decide)) | skip
  all_goals ((with_reducible apply ret_two 7 8); (focus (simp only [W0, reduceIte, Nat.reduceEqDiff, Nat.reduceAdd, Nat.reduceSub, Nat.reduceLeDiff, Bool.not_false, Bool.not_true, d0, wl, w1, hmn, pz, pz2, tz, bound, true_and, Int.toNat_natCast, List.take_length, V27.l, V23.l, V34.l, slA_none, slA_some, slL_some, zero27, setLog, V27.s, V27.rw, W5, beq_self_eq_true, bne_self_eq_false, BEq.rfl]; rfl)); (focus rfl); (focus rfl); (focus decide); (focus (simp only [rwS_ids])); (focus (simp only [rwS_ids])); (focus (simp [resV, idsV, idsL]; intro id hid; exact hid.imp slS_ids slS_ids)); (focus (simp only [rwS_ren])); (focus (simp only [rwS_ren])))
  all_goals exact And.intro (by simp [resV, renV, renL, slS_ren, gcF_l, gcF_r, takeS, V27.s, V34.l, V23.l, answer, slA, setLog, mnF, mxF] <;> rfl) rfl
theorem f35N (v : V27) (hv : v.ok) (c : Int) (m : V34) (hm : m.o9) (hl5 : (slL v.f5).length ≤ 1000000) (hl6 : (slL v.f6).length ≤ 1000000) (n : Nat) : FCallN prog 35 [.agg v.l, .int .i64 c, .agg m.l] n (takeS n (takeR v c m)) (takeR v c m).x.rw := by
  have hi : idsL [.agg v.l, .int .i64 c, .agg m.l] = [] := by simp [idsL, idsV, V27.ids, V34.ids]
  have bad : ∀ e, FCall prog 35 [.agg v.l, .int .i64 c, .agg m.l] (takeV zero27 0 zero34 e) → FCallN prog 35 [.agg v.l, .int .i64 c, .agg m.l] n (takeS n ⟨zero27, 0, zero34, e⟩) [.dead, .dead] := fun e h => ((h.toN n).post 2 : _)
  unfold takeR
  by_cases hh : hardF v = false
  · rw [if_pos hh]; exact bad 6 (take_bad v hv c m hm hh)
  rw [if_neg hh]
  rw [Bool.not_eq_false] at hh
  by_cases hr : rightF v c m = false
  · rw [if_pos hr]; exact bad 1 (take_no v hv c m hm hh hr)
  rw [if_neg hr]
  rw [Bool.not_eq_false] at hr
  by_cases hb : m.f4 < v.f2
  · have e1 : cutP v m = v.f2 := if_pos hb
    have e2 : cutT v m = v.f3 := if_pos hb
    have e3 : cutL v m = (slL m.f9).drop (v.f2 - m.f4).toNat := if_pos hb
    have ez : (v.f2 - v.f2).toNat = 0 := by omega
    obtain ⟨g0, g1, g2, g3, g4, g5, g6, g7, g8, g9, g10, g11, g12⟩ := m
    cases g9 with
    | none =>
      have e4 : cutL v (V34.mk g0 g1 g2 g3 g4 g5 g6 g7 g8 none g10 g11 g12) = [] := e3.trans (by simp [slL])
      rw [e1, e2, e4, ez, if_neg (by rw [fits_base hh]; simp)]
      have r := right_facts hr
      rw [if_neg (by simp [breaksF]), if_neg]
      · have hp : putO v.f6 0 [] = v.f6 := rfl
        have hv' : setLog v v.f6 = v := rfl
        rw [hp, hv']
        have := take_N (V34.ids _) hi (takeN_yesN v hv c g0 g1 g2 g3 g4 g5 g6 g7 g8 g10 g11 g12 hm hl5 hl6 hh hr hb) n
        simpa using this
      · unfold putOK rowF
        rw [decide_eq_true (Int.le_refl _), decide_eq_true (by omega)]; simp
    | some l =>
      obtain ⟨k, hn⟩ : ∃ k : Nat, mnF (v.f2 - g4) (l.length : Int) = (k : Int) := by
        refine ⟨(mnF (v.f2 - g4) (l.length : Int)).toNat, ?_⟩
        simp only at hb
        unfold mnF; split <;> omega
      have e4 : cutL v (V34.mk g0 g1 g2 g3 g4 g5 g6 g7 g8 (some l) g10 g11 g12) = l.drop k := e3.trans (drop_mn l (by show 0 < v.f2 - g4; simp only at hb; omega) hn)
      rw [e1, e2, e4, ez, if_neg (by rw [fits_base hh]; simp)]
      by_cases hk : breaksF v c v.f2 (l.drop k) = true
      · rw [if_pos hk]; exact bad 13 (takeB_breaks v hv c g0 g1 g2 g3 g4 g5 g6 g7 g8 g10 g11 g12 l hm hl5 hl6 hh hr hb k hn hk)
      rw [if_neg hk]
      rw [Bool.not_eq_true] at hk
      by_cases hp : putOK v v.f2 (l.drop k) = false
      · rw [if_pos hp]; exact bad 1 (takeB_no v hv c g0 g1 g2 g3 g4 g5 g6 g7 g8 g10 g11 g12 l hm hl5 hl6 hh hr hb k hn hk hp)
      rw [if_neg hp]
      rw [Bool.not_eq_false] at hp
      exact take_N (V34.ids _) hi (takeB_yesN v hv c g0 g1 g2 g3 g4 g5 g6 g7 g8 g10 g11 g12 l hm hl5 hl6 hh hr hb k hn hk hp) n
  · have e1 : cutP v m = m.f4 := if_neg hb
    have e2 : cutT v m = m.f5 := if_neg hb
    have e3 : cutL v m = slL m.f9 := if_neg hb
    rw [e1, e2, e3]
    by_cases hf : fitsF v m.f4 m.f5 = false
    · rw [if_pos hf]; exact take_N (V34.ids _) hi (takeA_offN v hv c m hm hl5 hl6 hh hr (by omega) hf) n
    rw [if_neg hf]
    rw [Bool.not_eq_false] at hf
    by_cases hk : breaksF v c m.f4 (slL m.f9) = true
    · rw [if_pos hk]; exact bad 13 (takeA_breaks v hv c m hm hl5 hl6 hh hr (by omega) hf hk)
    rw [if_neg hk]
    rw [Bool.not_eq_true] at hk
    by_cases hp : putOK v m.f4 (slL m.f9) = false
    · rw [if_pos hp]; exact bad 1 (takeA_no v hv c m hm hl5 hl6 hh hr (by omega) hf hk hp)
    rw [if_neg hp]
    rw [Bool.not_eq_false] at hp
    exact take_N (V34.ids _) hi (takeA_yesN v hv c m hm hl5 hl6 hh hr (by omega) hf hk hp) n
end Go.Sk
