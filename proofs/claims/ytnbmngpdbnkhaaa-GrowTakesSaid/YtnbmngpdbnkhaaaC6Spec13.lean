/- What becomes of a log by a message. Conditions: none. -/
import Derived.Test.YtnbmngpdbnkhaaaC6Spec12
set_option linter.unusedVariables false
set_option linter.unusedSimpArgs false
set_option maxRecDepth 20000
set_option maxHeartbeats 8000000
namespace Go.Sk
open Go.Proofs.Try
/-- A message's entries are right ones. -/
structure V34.o9 (m : V34) : Prop where
  h9 : (∀ us ∈ slL m.f9, HasT prog 66 us) ∧ (slL m.f9).length ≤ maxLen
theorem V34.ok.o9 {m : V34} (h : m.ok) : m.o9 := ⟨h.h9⟩
def zero34 : V34 := ⟨0, 0, 0, 0, 0, 0, 0, 0, false, none, ⟨0, 0, 0, 0⟩, none, none⟩
def answer (yes : Bool) (i : Int) : V34 := ⟨6, 0, 0, 0, i, 0, 0, 0, yes, none, ⟨0, 0, 0, 0⟩, none, none⟩
def mnF (a b : Int) : Int := if b < a then b else a
def mxF (a b : Int) : Int := if a < b then b else a
def takeV (x : V27) (c : Int) (y : V34) (e : Int) : AV := .tup [.agg x.l, .int .i64 c, .agg y.l, .int .i64 e]
theorem take_bad (v : V27) (hv : v.ok) (c : Int) (m : V34) (hm : m.o9) (hh : hardF v = false) : FCall prog 35 [.agg v.l, .int .i64 c, .agg m.l] (takeV zero27 0 zero34 6) := by
  have h71 := f71 v hv
  rw [hh] at h71
  simp only [Bool.false_eq_true, reduceIte] at h71
  have z6 : ((6 : Int) == 0) = false := rfl
  have z6' : ((6 : Int) != 0) = true := rfl
  refine fcall mixed t35 (by simp [m35]) (by simp [idsL, idsV, V27.ids, V34.ids]) (f_body ?_)
  simp only [m35, argEnv, List.length_nil, List.nil_append, List.cons_append, Nat.zero_add, V27.l, V23.l, V34.l, zero27, zero34, answer, takeV, slA_none]
  repeat' first
    | (with_reducible first | apply c_seq | apply c_reg | apply c_dreg0 | apply c_block | apply c_ret | apply c_exit | apply c_skip | apply ops_nil | apply d_nil | apply k_seq_n | apply k_seq_r | apply k_seq_x | apply k_blk_n | apply k_blk_r | apply k_blk_x | apply k_end_n | apply k_end_r | apply k_loop_x | apply k_loop_r | apply c_dreg1 | apply c_dreg2)
    | ((with_reducible first | apply op_gS | apply op_g0 | apply d_gS | apply d_g0); (focus (simp only [W0, reduceIte, Nat.reduceEqDiff, Nat.reduceAdd, Nat.reduceSub, Nat.reduceLeDiff, z6, z6']; rfl)); (with_reducible first | apply g_no | apply g_T | apply g_F); all_goals (try (intro hc; first | exact absurd hc (by decide) | subst hc | clear hc)))
    | ((with_reducible apply c_cond); (focus (simp only [W0, reduceIte, Nat.reduceEqDiff, Nat.reduceAdd, Nat.reduceSub, Nat.reduceLeDiff, z6, z6']; rfl)); all_goals (intro hc; first | exact absurd hc (by decide) | subst hc | clear hc))
    | ((with_reducible first | apply op_fcallb (f := 72) | apply d_fcallb (f := 72)); (focus ((try simp only [W0, reduceIte, Nat.reduceEqDiff, Nat.reduceAdd, Nat.reduceSub, Nat.reduceLeDiff, z6, z6']); exact f72 v hv c m)); intro c' hc'; (try with_reducible first | cases (show true = c' from hc') | cases (show false = c' from hc')); all_goals (try rfl))
    | ((with_reducible first | apply op_fcall (f := 71) | apply d_fcall (f := 71)); (focus ((try simp only [W0, reduceIte, Nat.reduceEqDiff, Nat.reduceAdd, Nat.reduceSub, Nat.reduceLeDiff, z6, z6']); first | exact h71)); all_goals (try rfl))
    | ((with_reducible first | apply op_isB | apply d_isV); (focus rfl); (focus (simp only [W0, reduceIte, Nat.reduceEqDiff, Nat.reduceAdd, Nat.reduceSub, Nat.reduceLeDiff, z6, z6']; rfl)); intro c' hc'; try with_reducible first | cases (show true = c' from hc') | cases (show false = c' from hc'))
    | ((with_reducible first | apply op_step | apply op_step0 | apply d_ld | apply d_st | apply d_new | apply d_box | apply d_bsl | apply d_apw | apply d_apa | apply d_v); (focus (simp only [W0, reduceIte, Nat.reduceEqDiff, Nat.reduceAdd, Nat.reduceSub, Nat.reduceLeDiff, z6, z6']; rfl)); all_goals (try rfl))
  all_goals first | (exfalso; refine Bool.false_ne_true ?_; first | assumption | (symm; assumption)) | (exact absurd ‹true = false› (by decide)) | skip
  all_goals ((with_reducible apply ret_plain); (focus (simp only [W0, reduceIte, Nat.reduceEqDiff, Nat.reduceAdd, Nat.reduceSub, Nat.reduceLeDiff]; rfl)); (focus (simp [resV, idsV, idsL, slA_ids, ints_ids])))
  all_goals exact ⟨[], by simp [resV, F1, frT, frL, thawV]⟩
theorem take_no (v : V27) (hv : v.ok) (c : Int) (m : V34) (hm : m.o9) (hh : hardF v = true) (hr : rightF v c m = false) : FCall prog 35 [.agg v.l, .int .i64 c, .agg m.l] (takeV zero27 0 zero34 1) := by
  have h71 := f71 v hv
  rw [hh] at h71
  simp only [reduceIte] at h71
  have h72 := f72 v hv c m
  rw [hr] at h72
  have z1 : ((1 : Int) != 0) = true := rfl
  refine fcall mixed t35 (by simp [m35]) (by simp [idsL, idsV, V27.ids, V34.ids]) (f_body ?_)
  simp only [m35, argEnv, List.length_nil, List.nil_append, List.cons_append, Nat.zero_add, V27.l, V23.l, V34.l, zero27, zero34, answer, takeV, slA_none]
  repeat' first
    | (with_reducible first | apply c_seq | apply c_reg | apply c_dreg0 | apply c_block | apply c_ret | apply c_exit | apply c_skip | apply ops_nil | apply d_nil | apply k_seq_n | apply k_seq_r | apply k_seq_x | apply k_blk_n | apply k_blk_r | apply k_blk_x | apply k_end_n | apply k_end_r | apply k_loop_x | apply k_loop_r | apply c_dreg1 | apply c_dreg2)
    | ((with_reducible first | apply op_gS | apply op_g0 | apply d_gS | apply d_g0); (focus (simp only [W0, reduceIte, Nat.reduceEqDiff, Nat.reduceAdd, Nat.reduceSub, Nat.reduceLeDiff, z1, Bool.not_false, beq_self_eq_true, bne_self_eq_false, BEq.rfl]; rfl)); (with_reducible first | apply g_no | apply g_T | apply g_F); all_goals (try (intro hc; first | exact absurd hc (by decide) | subst hc | clear hc)))
    | ((with_reducible apply c_cond); (focus (simp only [W0, reduceIte, Nat.reduceEqDiff, Nat.reduceAdd, Nat.reduceSub, Nat.reduceLeDiff, z1, Bool.not_false, beq_self_eq_true, bne_self_eq_false, BEq.rfl]; rfl)); all_goals (intro hc; first | exact absurd hc (by decide) | subst hc | clear hc))
    | ((with_reducible first | apply op_fcall (f := 71) | apply d_fcall (f := 71)); (focus ((try simp only [W0, reduceIte, Nat.reduceEqDiff, Nat.reduceAdd, Nat.reduceSub, Nat.reduceLeDiff, z1, Bool.not_false, beq_self_eq_true, bne_self_eq_false, BEq.rfl]); first | exact h71)); all_goals (try rfl))
    | ((with_reducible first | apply op_fcall (f := 72) | apply d_fcall (f := 72)); (focus ((try simp only [W0, reduceIte, Nat.reduceEqDiff, Nat.reduceAdd, Nat.reduceSub, Nat.reduceLeDiff, z1, Bool.not_false, beq_self_eq_true, bne_self_eq_false, BEq.rfl]); first | exact h72)); all_goals (try rfl))
    | ((with_reducible first | apply op_isB | apply d_isV); (focus rfl); (focus (simp only [W0, reduceIte, Nat.reduceEqDiff, Nat.reduceAdd, Nat.reduceSub, Nat.reduceLeDiff, z1, Bool.not_false, beq_self_eq_true, bne_self_eq_false, BEq.rfl]; rfl)); intro c' hc'; try with_reducible first | cases (show true = c' from hc') | cases (show false = c' from hc'))
    | ((with_reducible first | apply op_step | apply op_step0 | apply d_ld | apply d_st | apply d_new | apply d_box | apply d_bsl | apply d_apw | apply d_apa | apply d_v); (focus (simp only [W0, reduceIte, Nat.reduceEqDiff, Nat.reduceAdd, Nat.reduceSub, Nat.reduceLeDiff, z1, Bool.not_false, beq_self_eq_true, bne_self_eq_false, BEq.rfl]; rfl)); all_goals (try rfl))
  all_goals first | (exfalso; refine Bool.false_ne_true ?_; first | assumption | (symm; assumption)) | (exact absurd ‹true = false› (by decide)) | skip
  all_goals ((with_reducible apply ret_plain); (focus (simp only [W0, reduceIte, Nat.reduceEqDiff, Nat.reduceAdd, Nat.reduceSub, Nat.reduceLeDiff]; rfl)); (focus (simp [resV, idsV, idsL, slA_ids, ints_ids])))
  all_goals exact ⟨[], by simp [resV, F1, frT, frL, thawV]⟩
theorem hard_base {v : V27} (h : hardF v = true) : 0 ≤ v.f2 ∧ v.f2 ≤ 1099511627776 := by
  simp only [hardF, Bool.and_eq_true] at h
  have := h.1.1.1.1.1.1.2
  simpa [withinF] using this
theorem right_facts {v : V27} {c : Int} {m : V34} (h : rightF v c m = true) : v.f2 ≤ c ∧ c ≤ lastI (slL v.f6) v.f2 ∧ 0 ≤ m.f4 ∧ m.f4 ≤ 1099511627776 ∧ 0 ≤ m.f5 ∧ 0 ≤ m.f6 ∧ (slL m.f9).length ≤ 8 := by
  simp only [rightF, Bool.and_eq_true, decide_eq_true_eq] at h
  obtain ⟨⟨⟨⟨⟨⟨a, b⟩, c1⟩, d⟩, e⟩, f⟩, g⟩ := h
  exact ⟨a, b, c1, d, e, f, by omega⟩
theorem put_nil (v : V27) (hv : v.ok) (hl5 : (slL v.f5).length ≤ 1000000) (hl6 : (slL v.f6).length ≤ 1000000) (hh : hardF v = true) (hlast : v.f2 ≤ lastI (slL v.f6) v.f2) : FCall prog 73 [.agg v.l, .int .i64 v.f2, .nil 66] (.tup [.agg v.l, .int .i64 0]) := by
  obtain ⟨b1, b2⟩ := hard_base hh
  have hs : seen v v.f2 := ⟨b1, b2, by omega, by omega, by omega⟩
  have := put_yes v hv hl5 hl6 v.f2 none (by simp [slL]) (by simp [slL]) hs hh (by
    show (decide (v.f2 ≤ v.f2) && decide (v.f2 ≤ lastI (slL v.f6) v.f2) && true) = true
    rw [decide_eq_true (Int.le_refl _), decide_eq_true hlast]; rfl)
  have e : setLog v (putO v.f6 (v.f2 - v.f2).toNat (slL none)) = v := rfl
  rwa [e] at this
theorem takeA_breaks (v : V27) (hv : v.ok) (c : Int) (m : V34) (hm : m.o9) (hl5 : (slL v.f5).length ≤ 1000000) (hl6 : (slL v.f6).length ≤ 1000000) (hh : hardF v = true) (hr : rightF v c m = true) (hb : v.f2 ≤ m.f4) (hf : fitsF v m.f4 m.f5 = true) (hk : breaksF v c m.f4 (slL m.f9) = true) : FCall prog 35 [.agg v.l, .int .i64 c, .agg m.l] (takeV zero27 0 zero34 13) := by
  obtain ⟨b1, b2⟩ := hard_base hh
  obtain ⟨r1, r2, r3, r4, r5, r6, r7⟩ := right_facts hr
  have hs : seen v m.f4 := ⟨b1, b2, by omega, by omega, by omega⟩
  have h71 := f71 v hv
  rw [hh] at h71
  simp only [reduceIte] at h71
  have h72 := f72 v hv c m
  rw [hr] at h72
  have d0 : decide (m.f4 < v.f2) = false := decide_eq_false (by omega)
  have h73 := put_nil v hv hl5 hl6 hh (by omega)
  have wp : IntKind.i64.wrap (m.f4 - 1) = m.f4 - 1 := by simp [IntKind.wrap, IntKind.signed, IntKind.bits]; omega
  have wl : IntKind.i64.wrap (m.f4 + ((slL m.f9).length : Int)) = m.f4 + ((slL m.f9).length : Int) := by simp [IntKind.wrap, IntKind.signed, IntKind.bits]; omega
  have h74 := f74 v hv m.f4 m.f5 hs
  rw [hf] at h74
  have h75 := f75 v hv c m.f4 m.f9 hm.h9.1 (by omega) hs ⟨r3, by omega⟩
  rw [hk] at h75
  refine fcall mixed t35 (by simp [m35]) (by simp [idsL, idsV, V27.ids, V34.ids]) (f_body ?_)
  simp only [m35, argEnv, List.length_nil, List.nil_append, List.cons_append, Nat.zero_add, V27.l, V23.l, V34.l, zero27, zero34, answer, takeV, slA_none]
  repeat' first
    | (with_reducible first | apply c_seq | apply c_reg | apply c_dreg0 | apply c_block | apply c_ret | apply c_exit | apply c_skip | apply ops_nil | apply d_nil | apply k_seq_n | apply k_seq_r | apply k_seq_x | apply k_blk_n | apply k_blk_r | apply k_blk_x | apply k_end_n | apply k_end_r | apply k_loop_x | apply k_loop_r | apply c_dreg1 | apply c_dreg2)
    | ((with_reducible first | apply op_gS | apply op_g0 | apply d_gS | apply d_g0); (focus (simp only [W0, reduceIte, Nat.reduceEqDiff, Nat.reduceAdd, Nat.reduceSub, Nat.reduceLeDiff, Bool.not_false, Bool.not_true, d0, wp, wl, V27.l, V23.l, V34.l, slA_none, zero27, setLog, beq_self_eq_true, bne_self_eq_false, BEq.rfl]; rfl)); (with_reducible first | apply g_no | apply g_T | apply g_F); all_goals (try (intro hc; first | exact absurd hc (by decide) | subst hc | clear hc)))
    | ((with_reducible apply c_cond); (focus (simp only [W0, reduceIte, Nat.reduceEqDiff, Nat.reduceAdd, Nat.reduceSub, Nat.reduceLeDiff, Bool.not_false, Bool.not_true, d0, wp, wl, V27.l, V23.l, V34.l, slA_none, zero27, setLog, beq_self_eq_true, bne_self_eq_false, BEq.rfl]; rfl)); all_goals (intro hc; first | exact absurd hc (by decide) | subst hc | clear hc))
    | ((with_reducible first | apply op_fcall (f := 71) | apply d_fcall (f := 71)); (focus ((try simp only [W0, reduceIte, Nat.reduceEqDiff, Nat.reduceAdd, Nat.reduceSub, Nat.reduceLeDiff, Bool.not_false, Bool.not_true, d0, wp, wl, V27.l, V23.l, V34.l, slA_none, zero27, setLog, beq_self_eq_true, bne_self_eq_false, BEq.rfl]); first | exact h71)); all_goals (try rfl))
    | ((with_reducible first | apply op_fcall (f := 72) | apply d_fcall (f := 72)); (focus ((try simp only [W0, reduceIte, Nat.reduceEqDiff, Nat.reduceAdd, Nat.reduceSub, Nat.reduceLeDiff, Bool.not_false, Bool.not_true, d0, wp, wl, V27.l, V23.l, V34.l, slA_none, zero27, setLog, beq_self_eq_true, bne_self_eq_false, BEq.rfl]); first | exact h72)); all_goals (try rfl))
    | ((with_reducible first | apply op_fcall (f := 73) | apply d_fcall (f := 73)); (focus ((try simp only [W0, reduceIte, Nat.reduceEqDiff, Nat.reduceAdd, Nat.reduceSub, Nat.reduceLeDiff, Bool.not_false, Bool.not_true, d0, wp, wl, V27.l, V23.l, V34.l, slA_none, zero27, setLog, beq_self_eq_true, bne_self_eq_false, BEq.rfl]); first | exact h73)); all_goals (try rfl))
    | ((with_reducible first | apply op_fcall (f := 53) | apply d_fcall (f := 53)); (focus ((try simp only [W0, reduceIte, Nat.reduceEqDiff, Nat.reduceAdd, Nat.reduceSub, Nat.reduceLeDiff, Bool.not_false, Bool.not_true, d0, wp, wl, V27.l, V23.l, V34.l, slA_none, zero27, setLog, beq_self_eq_true, bne_self_eq_false, BEq.rfl]); first | exact f53 v hv)); all_goals (try rfl))
    | ((with_reducible first | apply op_fcall (f := 74) | apply d_fcall (f := 74)); (focus ((try simp only [W0, reduceIte, Nat.reduceEqDiff, Nat.reduceAdd, Nat.reduceSub, Nat.reduceLeDiff, Bool.not_false, Bool.not_true, d0, wp, wl, V27.l, V23.l, V34.l, slA_none, zero27, setLog, beq_self_eq_true, bne_self_eq_false, BEq.rfl]); first | exact h74)); all_goals (try rfl))
    | ((with_reducible first | apply op_fcall (f := 75) | apply d_fcall (f := 75)); (focus ((try simp only [W0, reduceIte, Nat.reduceEqDiff, Nat.reduceAdd, Nat.reduceSub, Nat.reduceLeDiff, Bool.not_false, Bool.not_true, d0, wp, wl, V27.l, V23.l, V34.l, slA_none, zero27, setLog, beq_self_eq_true, bne_self_eq_false, BEq.rfl]); first | exact h75)); all_goals (try rfl))
    | ((with_reducible first | apply op_isB | apply d_isV); (focus rfl); (focus (simp only [W0, reduceIte, Nat.reduceEqDiff, Nat.reduceAdd, Nat.reduceSub, Nat.reduceLeDiff, Bool.not_false, Bool.not_true, d0, wp, wl, V27.l, V23.l, V34.l, slA_none, zero27, setLog, beq_self_eq_true, bne_self_eq_false, BEq.rfl]; rfl)); intro c' hc'; try with_reducible first | cases (show true = c' from hc') | cases (show false = c' from hc'))
    | ((with_reducible first | apply op_step | apply op_step0 | apply d_ld | apply d_st | apply d_new | apply d_box | apply d_bsl | apply d_apw | apply d_apa | apply d_v); (focus (simp only [W0, reduceIte, Nat.reduceEqDiff, Nat.reduceAdd, Nat.reduceSub, Nat.reduceLeDiff, Bool.not_false, Bool.not_true, d0, wp, wl, V27.l, V23.l, V34.l, slA_none, zero27, setLog, beq_self_eq_true, bne_self_eq_false, BEq.rfl]; rfl)); all_goals (try rfl))
  all_goals first | (exfalso; refine Bool.false_ne_true ?_; first | assumption | (symm; assumption)) | (exact absurd ‹true = false› (by decide)) | skip
  all_goals ((with_reducible apply ret_plain); (focus (simp only [W0, reduceIte, Nat.reduceEqDiff, Nat.reduceAdd, Nat.reduceSub, Nat.reduceLeDiff]; rfl)); (focus (simp [resV, idsV, idsL, slA_ids, ints_ids])))
  all_goals exact ⟨[], by simp [resV, F1, frT, frL, thawV]⟩
theorem takeA_no (v : V27) (hv : v.ok) (c : Int) (m : V34) (hm : m.o9) (hl5 : (slL v.f5).length ≤ 1000000) (hl6 : (slL v.f6).length ≤ 1000000) (hh : hardF v = true) (hr : rightF v c m = true) (hb : v.f2 ≤ m.f4) (hf : fitsF v m.f4 m.f5 = true) (hk : breaksF v c m.f4 (slL m.f9) = false) (hp : putOK v m.f4 (slL m.f9) = false) : FCall prog 35 [.agg v.l, .int .i64 c, .agg m.l] (takeV zero27 0 zero34 1) := by
  obtain ⟨b1, b2⟩ := hard_base hh
  obtain ⟨r1, r2, r3, r4, r5, r6, r7⟩ := right_facts hr
  have hs : seen v m.f4 := ⟨b1, b2, by omega, by omega, by omega⟩
  have h71 := f71 v hv
  rw [hh] at h71
  simp only [reduceIte] at h71
  have h72 := f72 v hv c m
  rw [hr] at h72
  have d0 : decide (m.f4 < v.f2) = false := decide_eq_false (by omega)
  have h73 := put_nil v hv hl5 hl6 hh (by omega)
  have wp : IntKind.i64.wrap (m.f4 - 1) = m.f4 - 1 := by simp [IntKind.wrap, IntKind.signed, IntKind.bits]; omega
  have wl : IntKind.i64.wrap (m.f4 + ((slL m.f9).length : Int)) = m.f4 + ((slL m.f9).length : Int) := by simp [IntKind.wrap, IntKind.signed, IntKind.bits]; omega
  have h74 := f74 v hv m.f4 m.f5 hs
  rw [hf] at h74
  have h75 := f75 v hv c m.f4 m.f9 hm.h9.1 (by omega) hs ⟨r3, by omega⟩
  rw [hk] at h75
  have h73b := put_no v hv m.f4 m.f9 hm.h9.1 (by omega) hs hh hp
  have z1 : ((1 : Int) != 0) = true := rfl
  refine fcall mixed t35 (by simp [m35]) (by simp [idsL, idsV, V27.ids, V34.ids]) (f_body ?_)
  simp only [m35, argEnv, List.length_nil, List.nil_append, List.cons_append, Nat.zero_add, V27.l, V23.l, V34.l, zero27, zero34, answer, takeV, slA_none]
  repeat' first
    | (with_reducible first | apply c_seq | apply c_reg | apply c_dreg0 | apply c_block | apply c_ret | apply c_exit | apply c_skip | apply ops_nil | apply d_nil | apply k_seq_n | apply k_seq_r | apply k_seq_x | apply k_blk_n | apply k_blk_r | apply k_blk_x | apply k_end_n | apply k_end_r | apply k_loop_x | apply k_loop_r | apply c_dreg1 | apply c_dreg2)
    | ((with_reducible first | apply op_gS | apply op_g0 | apply d_gS | apply d_g0); (focus (simp only [W0, reduceIte, Nat.reduceEqDiff, Nat.reduceAdd, Nat.reduceSub, Nat.reduceLeDiff, Bool.not_false, Bool.not_true, d0, wp, wl, V27.l, V23.l, V34.l, slA_none, zero27, setLog, beq_self_eq_true, bne_self_eq_false, BEq.rfl, z1]; rfl)); (with_reducible first | apply g_no | apply g_T | apply g_F); all_goals (try (intro hc; first | exact absurd hc (by decide) | subst hc | clear hc)))
    | ((with_reducible apply c_cond); (focus (simp only [W0, reduceIte, Nat.reduceEqDiff, Nat.reduceAdd, Nat.reduceSub, Nat.reduceLeDiff, Bool.not_false, Bool.not_true, d0, wp, wl, V27.l, V23.l, V34.l, slA_none, zero27, setLog, beq_self_eq_true, bne_self_eq_false, BEq.rfl, z1]; rfl)); all_goals (intro hc; first | exact absurd hc (by decide) | subst hc | clear hc))
    | ((with_reducible first | apply op_fcall (f := 71) | apply d_fcall (f := 71)); (focus ((try simp only [W0, reduceIte, Nat.reduceEqDiff, Nat.reduceAdd, Nat.reduceSub, Nat.reduceLeDiff, Bool.not_false, Bool.not_true, d0, wp, wl, V27.l, V23.l, V34.l, slA_none, zero27, setLog, beq_self_eq_true, bne_self_eq_false, BEq.rfl, z1]); first | exact h71)); all_goals (try rfl))
    | ((with_reducible first | apply op_fcall (f := 72) | apply d_fcall (f := 72)); (focus ((try simp only [W0, reduceIte, Nat.reduceEqDiff, Nat.reduceAdd, Nat.reduceSub, Nat.reduceLeDiff, Bool.not_false, Bool.not_true, d0, wp, wl, V27.l, V23.l, V34.l, slA_none, zero27, setLog, beq_self_eq_true, bne_self_eq_false, BEq.rfl, z1]); first | exact h72)); all_goals (try rfl))
    | ((with_reducible first | apply op_fcall (f := 73) | apply d_fcall (f := 73)); (focus ((try simp only [W0, reduceIte, Nat.reduceEqDiff, Nat.reduceAdd, Nat.reduceSub, Nat.reduceLeDiff, Bool.not_false, Bool.not_true, d0, wp, wl, V27.l, V23.l, V34.l, slA_none, zero27, setLog, beq_self_eq_true, bne_self_eq_false, BEq.rfl, z1]); first | exact h73 | exact h73b)); all_goals (try rfl))
    | ((with_reducible first | apply op_fcall (f := 53) | apply d_fcall (f := 53)); (focus ((try simp only [W0, reduceIte, Nat.reduceEqDiff, Nat.reduceAdd, Nat.reduceSub, Nat.reduceLeDiff, Bool.not_false, Bool.not_true, d0, wp, wl, V27.l, V23.l, V34.l, slA_none, zero27, setLog, beq_self_eq_true, bne_self_eq_false, BEq.rfl, z1]); first | exact f53 v hv)); all_goals (try rfl))
    | ((with_reducible first | apply op_fcall (f := 74) | apply d_fcall (f := 74)); (focus ((try simp only [W0, reduceIte, Nat.reduceEqDiff, Nat.reduceAdd, Nat.reduceSub, Nat.reduceLeDiff, Bool.not_false, Bool.not_true, d0, wp, wl, V27.l, V23.l, V34.l, slA_none, zero27, setLog, beq_self_eq_true, bne_self_eq_false, BEq.rfl, z1]); first | exact h74)); all_goals (try rfl))
    | ((with_reducible first | apply op_fcall (f := 75) | apply d_fcall (f := 75)); (focus ((try simp only [W0, reduceIte, Nat.reduceEqDiff, Nat.reduceAdd, Nat.reduceSub, Nat.reduceLeDiff, Bool.not_false, Bool.not_true, d0, wp, wl, V27.l, V23.l, V34.l, slA_none, zero27, setLog, beq_self_eq_true, bne_self_eq_false, BEq.rfl, z1]); first | exact h75)); all_goals (try rfl))
    | ((with_reducible first | apply op_isB | apply d_isV); (focus rfl); (focus (simp only [W0, reduceIte, Nat.reduceEqDiff, Nat.reduceAdd, Nat.reduceSub, Nat.reduceLeDiff, Bool.not_false, Bool.not_true, d0, wp, wl, V27.l, V23.l, V34.l, slA_none, zero27, setLog, beq_self_eq_true, bne_self_eq_false, BEq.rfl, z1]; rfl)); intro c' hc'; try with_reducible first | cases (show true = c' from hc') | cases (show false = c' from hc'))
    | ((with_reducible first | apply op_step | apply op_step0 | apply d_ld | apply d_st | apply d_new | apply d_box | apply d_bsl | apply d_apw | apply d_apa | apply d_v); (focus (simp only [W0, reduceIte, Nat.reduceEqDiff, Nat.reduceAdd, Nat.reduceSub, Nat.reduceLeDiff, Bool.not_false, Bool.not_true, d0, wp, wl, V27.l, V23.l, V34.l, slA_none, zero27, setLog, beq_self_eq_true, bne_self_eq_false, BEq.rfl, z1]; rfl)); all_goals (try rfl))
  all_goals first | (exfalso; refine Bool.false_ne_true ?_; first | assumption | (symm; assumption)) | (exact absurd ‹true = false› (by decide)) | skip
  all_goals ((with_reducible apply ret_plain); (focus (simp only [W0, reduceIte, Nat.reduceEqDiff, Nat.reduceAdd, Nat.reduceSub, Nat.reduceLeDiff]; rfl)); (focus (simp [resV, idsV, idsL, slA_ids, ints_ids])))
  all_goals exact ⟨[], by simp [resV, F1, frT, frL, thawV]⟩
end Go.Sk
