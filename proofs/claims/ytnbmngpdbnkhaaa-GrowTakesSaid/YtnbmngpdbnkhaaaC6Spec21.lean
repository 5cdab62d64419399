/- Entries put into a log, as the page puts them. Conditions: none. -/
import Derived.Test.YtnbmngpdbnkhaaaC6Spec20
import Derived.Test.YtnbmngpdbnkhaaaC6Spec16
import Derived.Test.YtnbmngpdbnkhaaaC6Code4
set_option linter.unusedVariables false
set_option linter.unusedSimpArgs false
set_option maxRecDepth 200000
set_option maxHeartbeats 8000000
namespace Go.Sk
open Go.Proofs.Try
theorem slL_none0 : slL none = [] := rfl
theorem f69w (o : Option (List (List AV))) (h : (slL o).length ≤ 925904528653) : CW prog 69 [slA 66 o] [] (fun r q => r = slS 66 0 (nz (slL o)) ∧ q = if (slL o).isEmpty then [] else [rwS 66 (nz (slL o))]) := by
  cases he : (slL o).isEmpty
  all_goals
    refine trF_ok mixed t69 (by simp [m69]) (f_body ?_)
    simp only [m69, argEnv, List.length_nil, List.nil_append, List.cons_append, Nat.zero_add]
  repeat' first
    | (with_reducible first | apply c_seq | apply c_reg | apply c_dreg0 | apply c_block | apply c_ret | apply c_exit | apply c_skip | apply ops_nil | apply d_nil | apply k_seq_n | apply k_seq_r | apply k_seq_x | apply k_blk_n | apply k_blk_r | apply k_blk_x | apply k_end_n | apply k_end_r | apply k_loop_x | apply k_loop_r | apply c_dreg1 | apply c_dreg2)
    | ((with_reducible first | apply op_gS | apply op_g0 | apply d_gS | apply d_g0); (focus (simp only [W0, reduceIte, Nat.reduceEqDiff, Nat.reduceAdd, Nat.reduceSub, Nat.reduceLeDiff, if_pos h, he]; rfl)); (with_reducible first | apply g_no | apply g_T | apply g_F); all_goals (try (intro hc; first | exact absurd hc (by decide) | subst hc | clear hc)))
    | ((with_reducible apply c_cond); (focus (simp only [W0, reduceIte, Nat.reduceEqDiff, Nat.reduceAdd, Nat.reduceSub, Nat.reduceLeDiff, if_pos h, he]; rfl)); all_goals (intro hc; first | exact absurd hc (by decide) | subst hc | clear hc))
    | ((with_reducible first | apply op_isB | apply d_isV); (focus rfl); (focus (simp only [W0, reduceIte, Nat.reduceEqDiff, Nat.reduceAdd, Nat.reduceSub, Nat.reduceLeDiff, if_pos h, he]; rfl)); intro c' hc'; try with_reducible first | cases (show true = c' from hc') | cases (show false = c' from hc'))
    | ((with_reducible first | apply op_step | apply op_step0 | apply d_ld | apply d_st | apply d_new | apply d_box | apply d_bsl | apply d_apw | apply d_apa | apply d_v); (focus (simp only [W0, reduceIte, Nat.reduceEqDiff, Nat.reduceAdd, Nat.reduceSub, Nat.reduceLeDiff, if_pos h, he]; rfl)); all_goals (try rfl))
  · ((with_reducible apply ret_row 0); (focus (simp only [W0, reduceIte, Nat.reduceEqDiff, Nat.reduceAdd, Nat.reduceSub, Nat.reduceLeDiff]; rfl)); (focus rfl); (focus rfl); (focus (simp [resV, idsV, idsL])); (focus rfl))
    rw [nz_some he]
    exact And.intro (by simp [resV, renV, gcF_1, slS]) rfl
  · ((with_reducible apply ret_plain); (focus (simp only [W0, reduceIte, Nat.reduceEqDiff, Nat.reduceAdd, Nat.reduceSub, Nat.reduceLeDiff]; rfl)); (focus (simp [resV, idsV, idsL])))
    have h0 : slL o = [] := by simpa using he
    rw [h0, nz_nil]
    exact And.intro rfl rfl
theorem f69N (o : Option (List (List AV))) (h : (slL o).length ≤ 925904528653) (n : Nat) : FCallN prog 69 [slA 66 o] n (slS 66 n (nz (slL o))) [rwS 66 (nz (slL o))] := by
  have hw := f69w o h
  cases he : (slL o).isEmpty with
  | true =>
    simp only [he, if_true] at hw
    have h0 : slL o = [] := by simpa using he
    rw [h0, nz_nil] at hw ⊢
    exact ((FCallN.of (by simp [idsL, slA_ids]) hw n).post 1 : _)
  | false =>
    simp only [he, Bool.false_eq_true, if_false] at hw
    have := FCallN.of (by simp [idsL, slA_ids]) hw n
    simpa [slS_ren, rwS_ren] using this
/-- The log that the page puts. -/
def pputO (es : List (List AV)) (a : Nat) (l : List (List AV)) : Option (List (List AV)) := match putN es a l with
  | none => nz es
  | some l' => some l'
theorem pput_sl (o : Option (List (List AV))) (a : Nat) (l : List (List AV)) : slL (pputO (slL o) a l) = slL (putO o a l) := by
  unfold pputO putO
  cases putN (slL o) a l with
  | none => exact slL_nz _
  | some l' => rfl
/-- A log whose slices lie elsewhere. -/
def sameS (v w : V27) : Prop := w.f0 = v.f0 ∧ w.f1 = v.f1 ∧ w.f2 = v.f2 ∧ w.f3 = v.f3 ∧ w.f4 = v.f4 ∧ slL w.f5 = slL v.f5 ∧ slL w.f6 = slL v.f6
theorem same_in {v w : V27} (h : sameS v w) (i : Int) : inB w i = inB v i := by obtain ⟨h0, h1, h2, h3, h4, h5, h6⟩ := h; unfold inB; rw [h2, h6]
theorem same_pos {v w : V27} (h : sameS v w) (i : Int) : posN w i = posN v i := by obtain ⟨h0, h1, h2, h3, h4, h5, h6⟩ := h; unfold posN; rw [h2]
theorem same_ent {v w : V27} (h : sameS v w) (i : Int) : entA w i = entA v i := by
  unfold entA; rw [same_in h, same_pos h]; unfold getE; rw [h.2.2.2.2.2.2]
theorem same_term {v w : V27} (h : sameS v w) (i : Int) : termF w i = termF v i := by
  unfold termF; rw [same_in h, same_ent h, h.2.2.1, h.2.2.2.1]
theorem same_fits {v w : V27} (h : sameS v w) (i t : Int) : fitsF w i t = fitsF v i t := by unfold fitsF; rw [same_term h]
theorem same_breaks {v w : V27} (h : sameS v w) (c : Int) : ∀ (l : List (List AV)) (p : Int), breaksF w c p l = breaksF v c p l
  | [], p => rfl
  | x :: xs, p => by simp only [breaksF, same_term h, same_breaks h c xs]
theorem same_hard {v w : V27} (h : sameS v w) : hardF w = hardF v := by
  obtain ⟨h0, h1, h2, h3, h4, h5, h6⟩ := h; unfold hardF; rw [h0, h1, h2, h3, h4, h5, h6]
theorem same_put {v w : V27} (h : sameS v w) (i : Int) (l : List (List AV)) : putOK w i l = putOK v i l := by
  unfold putOK; rw [same_term h, h.1, h.2.2.1, h.2.2.2.2.2.2]
theorem same_seen {v w : V27} (h : sameS v w) {i : Int} (hs : seen v i) : seen w i := by
  obtain ⟨h0, h1, h2, h3, h4, h5, h6⟩ := h; unfold seen at *; rw [h2, h6]; exact hs
theorem same_twin (v : V27) : sameS v (twinH v) := ⟨rfl, rfl, rfl, rfl, rfl, slL_nz _, slL_nz _⟩
theorem appR_slSl {e id lim : Nat} {o : Option (List (List AV))} {rows : List Row} {ys : List (List AV)} (hy : ys.isEmpty = false) (h : rows[id]? = some (rwS e o)) (hl : (slL o).length + ys.length ≤ lim) : appR e lim rows (slS e id o) ys = some (slS e rows.length (some (slL o ++ ys)), rows.set id .dead ++ [rwS e (some (slL o ++ ys))]) := by
  cases o with
  | none =>
    have : rows.set id .dead = rows := set_same (by simpa [rwS] using h)
    simp only [slS, appR, slL, List.length_nil, Nat.zero_add] at hl ⊢
    simp [hl, this, rwS, hy]
  | some l =>
    simp only [rwS] at h
    simp only [slL] at hl
    simp [slS, appR, h, slL, rwS, hl]
theorem pput_no (v : V27) (hv : v.ok) (i : Int) (o : Option (List (List AV))) (ho : ∀ us ∈ slL o, HasT prog 66 us) (hlo : (slL o).length ≤ 1000000) (hs : seen v i) (hh : hardF v = true) (hp : putOK v i (slL o) = false) : FCall prog 79 [.agg v.l, .int .i64 i, slA 66 o] (.tup [.agg zero27.l, .int .i64 1]) := by
  have hlm : (slL o).length ≤ maxLen := Nat.le_trans hlo (by decide)
  have h76 := f76 v hv
  rw [hh] at h76
  have h102 := f102 o ho hlm (termF v i) v.f0
  have h94 := f94 i v.f2 (lastI (slL v.f6) v.f2)
  refine fcall mixed t79 (by simp [m79]) (by simp [idsL, idsV, V27.ids, slA_ids]) (f_body ?_)
  simp only [m79, argEnv, List.length_nil, List.nil_append, List.cons_append, Nat.zero_add, V27.l, V23.l, zero27, slA_none]
  repeat' first
    | (with_reducible first | apply c_seq | apply c_reg | apply c_dreg0 | apply c_block | apply c_ret | apply c_exit | apply c_skip | apply ops_nil | apply d_nil | apply k_seq_n | apply k_seq_r | apply k_seq_x | apply k_blk_n | apply k_blk_r | apply k_blk_x | apply k_end_n | apply k_end_r | apply k_loop_x | apply k_loop_r | apply c_dreg1 | apply c_dreg2)
    | ((with_reducible first | apply op_gS | apply op_g0 | apply d_gS | apply d_g0); (focus (simp only [W0, reduceIte, Nat.reduceEqDiff, Nat.reduceAdd, Nat.reduceSub, Nat.reduceLeDiff, beq_self_eq_true, bne_self_eq_false, BEq.rfl]; rfl)); (with_reducible first | apply g_no | apply g_T | apply g_F); all_goals (try (intro hc; first | exact absurd hc (by decide) | subst hc | clear hc)))
    | ((with_reducible apply c_cond); (focus (simp only [W0, reduceIte, Nat.reduceEqDiff, Nat.reduceAdd, Nat.reduceSub, Nat.reduceLeDiff, beq_self_eq_true, bne_self_eq_false, BEq.rfl]; rfl)); all_goals (intro hc; first | exact absurd hc (by decide) | subst hc | clear hc))
    | ((with_reducible first | apply op_fcallb (f := 94) | apply d_fcallb (f := 94)); (focus ((try simp only [W0, reduceIte, Nat.reduceEqDiff, Nat.reduceAdd, Nat.reduceSub, Nat.reduceLeDiff, beq_self_eq_true, bne_self_eq_false, BEq.rfl]); exact h94)); intro c' hc'; (try with_reducible first | cases (show true = c' from hc') | cases (show false = c' from hc')); all_goals (try rfl))
    | ((with_reducible first | apply op_fcallb (f := 102) | apply d_fcallb (f := 102)); (focus ((try simp only [W0, reduceIte, Nat.reduceEqDiff, Nat.reduceAdd, Nat.reduceSub, Nat.reduceLeDiff, beq_self_eq_true, bne_self_eq_false, BEq.rfl]); exact h102)); intro c' hc'; (try with_reducible first | cases (show true = c' from hc') | cases (show false = c' from hc')); all_goals (try rfl))
    | ((with_reducible first | apply op_fcall (f := 76) | apply d_fcall (f := 76)); (focus ((try simp only [W0, reduceIte, Nat.reduceEqDiff, Nat.reduceAdd, Nat.reduceSub, Nat.reduceLeDiff, beq_self_eq_true, bne_self_eq_false, BEq.rfl]); first | exact h76)); all_goals (try rfl))
    | ((with_reducible first | apply op_fcall (f := 17) | apply d_fcall (f := 17)); (focus ((try simp only [W0, reduceIte, Nat.reduceEqDiff, Nat.reduceAdd, Nat.reduceSub, Nat.reduceLeDiff, beq_self_eq_true, bne_self_eq_false, BEq.rfl]); first | exact f17 v hv)); all_goals (try rfl))
    | ((with_reducible first | apply op_fcall (f := 103) | apply d_fcall (f := 103)); (focus ((try simp only [W0, reduceIte, Nat.reduceEqDiff, Nat.reduceAdd, Nat.reduceSub, Nat.reduceLeDiff, beq_self_eq_true, bne_self_eq_false, BEq.rfl]); first | exact f103 v hv i hs)); all_goals (try rfl))
    | ((with_reducible first | apply op_isB | apply d_isV); (focus rfl); (focus (simp only [W0, reduceIte, Nat.reduceEqDiff, Nat.reduceAdd, Nat.reduceSub, Nat.reduceLeDiff, beq_self_eq_true, bne_self_eq_false, BEq.rfl]; rfl)); intro c' hc'; try with_reducible first | cases (show true = c' from hc') | cases (show false = c' from hc'))
    | ((with_reducible first | apply op_step | apply op_step0 | apply d_ld | apply d_st | apply d_new | apply d_box | apply d_bsl | apply d_apw | apply d_apa | apply d_v); (focus (simp only [W0, reduceIte, Nat.reduceEqDiff, Nat.reduceAdd, Nat.reduceSub, Nat.reduceLeDiff, beq_self_eq_true, bne_self_eq_false, BEq.rfl]; rfl)); all_goals (try rfl))
    | ((with_reducible apply k_blk_y); (focus decide))
  all_goals first | (exfalso; refine Bool.false_ne_true ?_; first | assumption | (symm; assumption)) | (exact absurd ‹true = false› (by decide)) | skip
  all_goals first | (((with_reducible apply ret_plain); (focus (simp only [W0, reduceIte, Nat.reduceEqDiff, Nat.reduceAdd, Nat.reduceSub, Nat.reduceLeDiff]; rfl)); (focus (simp [resV, idsV, idsL, slA_ids, ints_ids]))); exact ⟨[], by simp [resV, F1, frT, frL, thawV]⟩) | (exfalso; simp_all [putOK, withinF]; done) | (exfalso; simp_all [putOK, withinF] <;> omega)
theorem pput_e (v : V27) (hv : v.ok) (i : Int) (o : Option (List (List AV))) (ho : ∀ us ∈ slL o, HasT prog 66 us) (hlo : (slL o).length ≤ 1000000) (hlv : lightH v) (hs : seen v i) (hh : hardF v = true) (hp : putOK v i (slL o) = true) (a : Nat) (ha : i - v.f2 = (a : Int)) (hae : a ≤ (slL v.f6).length) (hnz : nz (slL v.f6) = none) :
    FCall prog 79 [.agg v.l, .int .i64 i, slA 66 o] (.tup [.agg (reH v (nz (slL v.f5)) (pputO (slL v.f6) a (slL o))).l, .int .i64 0]) := by
  obtain ⟨l6, l5⟩ := hlv
  have hlv : lightH v := ⟨l6, l5⟩
  have hlm : (slL o).length ≤ maxLen := Nat.le_trans hlo (by decide)
  have w0 : ∀ x : Int, -4611686018427387904 ≤ x → x ≤ 4611686018427387904 → IntKind.i64.wrap x = x := fun x a b => by simp [IntKind.wrap, IntKind.signed, IntKind.bits]; omega
  obtain ⟨s1, s2, s3, s4, s5⟩ := hs
  have hs : seen v i := ⟨s1, s2, s3, s4, s5⟩
  have h76 := f76 v hv
  rw [hh] at h76
  have hp' := hp
  simp only [putOK, Bool.and_eq_true] at hp'
  obtain ⟨⟨hp1, hp2⟩, hp3⟩ := hp'
  have h102 := f102 o ho hlm (termF v i) v.f0
  rw [hp3] at h102
  have h94 := f94 i v.f2 (lastI (slL v.f6) v.f2)
  have hwi : withinF i v.f2 (lastI (slL v.f6) v.f2) = true := by
    simp only [withinF, Bool.and_eq_true, decide_eq_true_eq] at hp1 hp2 ⊢; omega
  rw [hwi] at h94
  have h33 := f33 v hlv
  have htw : (twinH v).l = [.int .i64 v.f0, .int .i64 v.f1, .int .i64 v.f2, .int .i64 v.f3, .int .i64 v.f4.f0, .int .i64 v.f4.f1, .int .i64 v.f4.f2, .int .i64 v.f4.f3, slA 5 (nz (slL v.f5)), .nil 66] := by
    unfold twinH; rw [hnz]; rfl
  rw [htw] at h33
  refine fcall mixed t79 (by simp [m79]) (by simp [idsL, idsV, V27.ids, slA_ids]) (f_body ?_)
  simp only [m79, argEnv, List.length_nil, List.nil_append, List.cons_append, Nat.zero_add, V27.l, V23.l, zero27, slA_none]
  repeat' first
    | (with_reducible first | apply c_seq | apply c_reg | apply c_dreg0 | apply c_block | apply c_ret | apply c_exit | apply c_skip | apply ops_nil | apply d_nil | apply k_seq_n | apply k_seq_r | apply k_seq_x | apply k_blk_n | apply k_blk_r | apply k_blk_x | apply k_end_n | apply k_end_r | apply k_loop_x | apply k_loop_r | apply c_dreg1 | apply c_dreg2)
    | ((with_reducible first | apply op_gS | apply op_g0 | apply d_gS | apply d_g0); (focus (simp only [W0, reduceIte, Nat.reduceEqDiff, Nat.reduceAdd, Nat.reduceSub, Nat.reduceLeDiff, beq_self_eq_true, bne_self_eq_false, BEq.rfl, Bool.and_self]; rfl)); (with_reducible first | apply g_no | apply g_T | apply g_F); all_goals (try (intro hc; first | exact absurd hc (by decide) | subst hc | clear hc)))
    | ((with_reducible apply c_cond); (focus (simp only [W0, reduceIte, Nat.reduceEqDiff, Nat.reduceAdd, Nat.reduceSub, Nat.reduceLeDiff, beq_self_eq_true, bne_self_eq_false, BEq.rfl, Bool.and_self]; rfl)); all_goals (intro hc; first | exact absurd hc (by decide) | subst hc | clear hc))
    | ((with_reducible first | apply op_fcall (f := 76) | apply d_fcall (f := 76)); (focus ((try simp only [W0, reduceIte, Nat.reduceEqDiff, Nat.reduceAdd, Nat.reduceSub, Nat.reduceLeDiff, beq_self_eq_true, bne_self_eq_false, BEq.rfl, Bool.and_self]); first | exact h76)); all_goals (try rfl))
    | ((with_reducible first | apply op_fcall (f := 17) | apply d_fcall (f := 17)); (focus ((try simp only [W0, reduceIte, Nat.reduceEqDiff, Nat.reduceAdd, Nat.reduceSub, Nat.reduceLeDiff, beq_self_eq_true, bne_self_eq_false, BEq.rfl, Bool.and_self]); first | exact f17 v hv)); all_goals (try rfl))
    | ((with_reducible first | apply op_fcall (f := 94) | apply d_fcall (f := 94)); (focus ((try simp only [W0, reduceIte, Nat.reduceEqDiff, Nat.reduceAdd, Nat.reduceSub, Nat.reduceLeDiff, beq_self_eq_true, bne_self_eq_false, BEq.rfl, Bool.and_self]); first | exact h94)); all_goals (try rfl))
    | ((with_reducible first | apply op_fcall (f := 103) | apply d_fcall (f := 103)); (focus ((try simp only [W0, reduceIte, Nat.reduceEqDiff, Nat.reduceAdd, Nat.reduceSub, Nat.reduceLeDiff, beq_self_eq_true, bne_self_eq_false, BEq.rfl, Bool.and_self]); first | exact f103 v hv i hs)); all_goals (try rfl))
    | ((with_reducible first | apply op_fcall (f := 102) | apply d_fcall (f := 102)); (focus ((try simp only [W0, reduceIte, Nat.reduceEqDiff, Nat.reduceAdd, Nat.reduceSub, Nat.reduceLeDiff, beq_self_eq_true, bne_self_eq_false, BEq.rfl, Bool.and_self]); first | exact h102)); all_goals (try rfl))
    | ((with_reducible first | apply op_fcall (f := 33) | apply d_fcall (f := 33)); (focus ((try simp only [W0, reduceIte, Nat.reduceEqDiff, Nat.reduceAdd, Nat.reduceSub, Nat.reduceLeDiff, beq_self_eq_true, bne_self_eq_false, BEq.rfl, Bool.and_self]); first | exact h33)); all_goals (try rfl))
    | ((with_reducible first | apply op_isB | apply d_isV); (focus rfl); (focus (simp only [W0, reduceIte, Nat.reduceEqDiff, Nat.reduceAdd, Nat.reduceSub, Nat.reduceLeDiff, beq_self_eq_true, bne_self_eq_false, BEq.rfl, Bool.and_self]; rfl)); intro c' hc'; try with_reducible first | cases (show true = c' from hc') | cases (show false = c' from hc'))
    | ((with_reducible first | apply op_step | apply op_step0 | apply d_ld | apply d_st | apply d_new | apply d_box | apply d_bsl | apply d_apw | apply d_apa | apply d_v); (focus (simp only [W0, reduceIte, Nat.reduceEqDiff, Nat.reduceAdd, Nat.reduceSub, Nat.reduceLeDiff, beq_self_eq_true, bne_self_eq_false, BEq.rfl, Bool.and_self]; rfl)); all_goals (try rfl))
    | ((with_reducible apply k_blk_y); (focus decide))
  all_goals first | (exfalso; refine Bool.false_ne_true ?_; first | assumption | (symm; assumption)) | (exact absurd ‹true = false› (by decide)) | skip
  refine c_loop [1, 2, 3, 6, 7, 10, 11] (fun n env rows => ∃ k : Nat, k ≤ (slL o).length ∧ n = (slL o).length - k ∧ env = [(1, .int .i64 i), (2, slA 66 o), (3, .ptr 0 0), (6, .ptr 1 0), (7, .int .i64 0), (10, .ptr 2 0), (11, .int .i64 (k : Int))] ∧ rows = [Row.box 27 [.int .i64 v.f0, .int .i64 v.f1, .int .i64 v.f2, .int .i64 v.f3, .int .i64 v.f4.f0, .int .i64 v.f4.f1, .int .i64 v.f4.f2, .int .i64 v.f4.f3, slA 5 v.f5, slA 66 v.f6], Row.box 27 [.int .i64 0, .int .i64 0, .int .i64 0, .int .i64 0, .int .i64 0, .int .i64 0, .int .i64 0, .int .i64 0, .nil 5, .nil 66], Row.box 27 [.int .i64 v.f0, .int .i64 v.f1, .int .i64 v.f2, .int .i64 v.f3, .int .i64 v.f4.f0, .int .i64 v.f4.f1, .int .i64 v.f4.f2, .int .i64 v.f4.f3, slA 5 (nz (slL v.f5)), .nil 66]] ∧ a + k ≤ (slL v.f6).length ∧ putN (slL v.f6) a (slL o) = putN (slL v.f6) (a + k) ((slL o).drop k)) (slL o).length
    (back_take (k := 3) (Nat.zero_le _) (by simp) (by simp [look, idsL, idsV, slA_ids]) (by simp [idsR, idsL, idsV, slA_ids]) ⟨0, Nat.zero_le _, rfl, rfl, rfl, by omega, by simp⟩) ?_
  rintro n env rows ⟨k, hk, rfl, rfl, rfl, hak, hput⟩
  rcases Nat.lt_or_ge k (slL o).length with hk' | hk'
  · obtain ⟨l, rfl⟩ : ∃ l, o = some l := by
      cases o with
      | none => simp [slL] at hk'
      | some l => exact ⟨l, rfl⟩
    have hw := wrap_succ hk' hlm
    obtain ⟨x, hx, hxok⟩ := el66 ho hk'
    simp only [slL_some] at hk hk' hx hput hlo hw
    have w2 : IntKind.i64.wrap (i + (k : Int)) = i + (k : Int) := w0 _ (by omega) (by omega)
    have w3 : IntKind.i64.wrap (i + (k : Int) + 1) = i + (k : Int) + 1 := w0 _ (by omega) (by omega)
    have w4 : IntKind.i64.wrap (i + (k : Int) - v.f2) = ((a + k : Nat) : Int) := by rw [w0 _ (by omega) (by omega)]; omega
    have hsk : seen (twinH v) (i + (k : Int) + 1) := same_seen (same_twin v) (seen_at hs (by omega) (by omega))
    have h41 := f41 (twinH v) (twinH_ok hv) _ hsk
    rw [same_ent (same_twin v), same_in (same_twin v), htw] at h41
    have hd : decide ((k : Int) < (l.length : Int)) = true := decide_eq_true (by omega)
    have p1 : (0 ≤ ((a + k : Nat) : Int)) = True := eq_true (by omega)
    have p3 : (0 ≤ (k : Int)) = True := eq_true (by omega)
    have p4 : ((k : Int) ≤ ((l.length : Nat) : Int)) = True := eq_true (by omega)
    have p7 : ((k : Int) < ((l.length : Nat) : Int)) = True := eq_true (by omega)
    have hdl : (l.drop k).length ≤ 1000000 := by rw [List.length_drop]; omega
    have hde : (l.drop k).isEmpty = false := by
      cases hq : l.drop k with
      | nil => simp at hq; omega
      | cons => rfl
    have h0 : slL v.f6 = [] := by
      cases hq : slL v.f6 with
      | nil => rfl
      | cons y ys => rw [hq] at hnz; simp [nz] at hnz
    have hak0 : a + k = 0 := by rw [h0] at hak; simpa using hak
    have h69 := f69N none (by simp [slL]) 4
    have hnn : nz (slL none) = none := rfl
    rw [hnn] at h69
    have pl : ((slL none).length + (l.drop k).length ≤ 925904528653) = True := eq_true (by simp [slL]; omega)
    have ek : ((a + k : Nat) : Int) = 0 := by omega
    rw [ek] at w4
    have pz : ((0 : Int) ≤ 0) = True := eq_true (by omega)
    have pz2 : ((0 : Int) ≤ ((0 : Nat) : Int)) = True := eq_true (by omega)
    have tz : (0 : Int).toNat = 0 := rfl
    · have hin : (slL v.f6).length ≤ a + k := by rw [h0]; simp
      have hib : inB v (i + (k : Int) + 1) = false := by
        unfold inB; rw [Bool.and_eq_false_iff]; right; exact decide_eq_false (by omega)
      rw [hib] at h41
      generalize entA v (i + (k : Int) + 1) = e at h41
      repeat' first
        | (with_reducible first | apply c_seq | apply c_reg | apply c_dreg0 | apply c_block | apply c_ret | apply c_exit | apply c_skip | apply ops_nil | apply d_nil | apply k_seq_n | apply k_seq_r | apply k_seq_x | apply k_blk_n | apply k_blk_r | apply k_blk_x | apply k_end_n | apply k_end_r | apply k_loop_x | apply k_loop_r | apply c_dreg1 | apply c_dreg2)
        | ((with_reducible first | apply op_gS | apply op_g0 | apply d_gS | apply d_g0); (focus (simp only [W0, reduceIte, Nat.reduceEqDiff, Nat.reduceAdd, Nat.reduceSub, Nat.reduceLeDiff, hd, w2, w3, w4, p3, p4, p7, hx, bound, true_and, Int.toNat_natCast, List.take_length, slA_some, slL_some, slA_none, elems, pz, pz2, tz, pl, hde, appR_slSl, slS_items, slS_width, slS_one, beq_self_eq_true, bne_self_eq_false, BEq.rfl, V66.l, V64.l, V62.l, V60.l, V23.l]; rfl)); (with_reducible first | apply g_no | apply g_T | apply g_F); all_goals (try (intro hc; first | exact absurd hc (by decide) | subst hc | clear hc)))
        | ((with_reducible apply c_cond); (focus (simp only [W0, reduceIte, Nat.reduceEqDiff, Nat.reduceAdd, Nat.reduceSub, Nat.reduceLeDiff, hd, w2, w3, w4, p3, p4, p7, hx, bound, true_and, Int.toNat_natCast, List.take_length, slA_some, slL_some, slA_none, elems, pz, pz2, tz, pl, hde, appR_slSl, slS_items, slS_width, slS_one, beq_self_eq_true, bne_self_eq_false, BEq.rfl, V66.l, V64.l, V62.l, V60.l, V23.l]; rfl)); all_goals (intro hc; first | exact absurd hc (by decide) | subst hc | clear hc))
        | ((with_reducible first | apply op_cn (f := 69) | apply d_cn (f := 69)); (focus ((try simp only [W0, reduceIte, Nat.reduceEqDiff, Nat.reduceAdd, Nat.reduceSub, Nat.reduceLeDiff, hd, w2, w3, w4, p3, p4, p7, hx, bound, true_and, Int.toNat_natCast, List.take_length, slA_some, slL_some, slA_none, elems, pz, pz2, tz, pl, hde, appR_slSl, slS_items, slS_width, slS_one, beq_self_eq_true, bne_self_eq_false, BEq.rfl, V66.l, V64.l, V62.l, V60.l, V23.l]); exact h69)); all_goals (try rfl))
        | ((with_reducible first | apply op_fcall (f := 41) | apply d_fcall (f := 41)); (focus ((try simp only [W0, reduceIte, Nat.reduceEqDiff, Nat.reduceAdd, Nat.reduceSub, Nat.reduceLeDiff, hd, w2, w3, w4, p3, p4, p7, hx, bound, true_and, Int.toNat_natCast, List.take_length, slA_some, slL_some, slA_none, elems, pz, pz2, tz, pl, hde, appR_slSl, slS_items, slS_width, slS_one, beq_self_eq_true, bne_self_eq_false, BEq.rfl, V66.l, V64.l, V62.l, V60.l, V23.l]); first | exact h41)); all_goals (try rfl))
        | ((with_reducible first | apply op_isB | apply d_isV); (focus rfl); (focus (simp only [W0, reduceIte, Nat.reduceEqDiff, Nat.reduceAdd, Nat.reduceSub, Nat.reduceLeDiff, hd, w2, w3, w4, p3, p4, p7, hx, bound, true_and, Int.toNat_natCast, List.take_length, slA_some, slL_some, slA_none, elems, pz, pz2, tz, pl, hde, appR_slSl, slS_items, slS_width, slS_one, beq_self_eq_true, bne_self_eq_false, BEq.rfl, V66.l, V64.l, V62.l, V60.l, V23.l]; rfl)); intro c' hc'; try with_reducible first | cases (show true = c' from hc') | cases (show false = c' from hc'))
        | ((with_reducible first | apply op_step | apply op_step0 | apply d_ld | apply d_st | apply d_new | apply d_box | apply d_bsl | apply d_apw | apply d_apa | apply d_v); (focus (simp only [W0, reduceIte, Nat.reduceEqDiff, Nat.reduceAdd, Nat.reduceSub, Nat.reduceLeDiff, hd, w2, w3, w4, p3, p4, p7, hx, bound, true_and, Int.toNat_natCast, List.take_length, slA_some, slL_some, slA_none, elems, pz, pz2, tz, pl, hde, appR_slSl, slS_items, slS_width, slS_one, beq_self_eq_true, bne_self_eq_false, BEq.rfl, V66.l, V64.l, V62.l, V60.l, V23.l]; rfl)); all_goals (try rfl))
        | ((with_reducible apply k_blk_y); (focus decide))
      all_goals first | (exfalso; refine Bool.false_ne_true ?_; first | assumption | (symm; assumption)) | (exact absurd ‹true = false› (by decide)) | skip
      · have hpo : pputO (slL v.f6) a (slL (some l)) = some ((slL v.f6).take (a + k) ++ l.drop k) := by
          show (match putN (slL v.f6) a l with | none => nz (slL v.f6) | some l' => some l') = _
          rw [hput, put_off hx hin]
        rw [hpo]
        rw [h0, List.take_nil]; simp only [slL_none0, List.nil_append]
        ((with_reducible apply ret_row 5); (focus (simp only [W0, reduceIte, Nat.reduceEqDiff, Nat.reduceAdd, Nat.reduceSub, Nat.reduceLeDiff, W5]; rfl)); (focus rfl); (focus (simp only [rwS_ids])); (focus (simp [resV, idsV, idsL, slA_ids]; intro id hid; exact slS_ids hid)); (focus (simp only [rwS_ren])))
        exact ⟨_, by simp [resV, renV, renL, slS_ren, slA_ren, gcF_1, F1, frT, frL, fr1_slS, thawV, reH, V27.l, V23.l]; rfl⟩
  · obtain rfl : k = (slL o).length := by omega
    have hd : decide (((slL o).length : Int) < ((slL o).length : Int)) = false := decide_eq_false (by omega)
    have hpo : pputO (slL v.f6) a (slL o) = none := by
      show (match putN (slL v.f6) a (slL o) with | none => nz (slL v.f6) | some l' => some l') = _
      rw [hput, put_end]; exact hnz
    rw [hpo]
    repeat' first
      | (with_reducible first | apply c_seq | apply c_reg | apply c_dreg0 | apply c_block | apply c_ret | apply c_exit | apply c_skip | apply ops_nil | apply d_nil | apply k_seq_n | apply k_seq_r | apply k_seq_x | apply k_blk_n | apply k_blk_r | apply k_blk_x | apply k_end_n | apply k_end_r | apply k_loop_x | apply k_loop_r | apply c_dreg1 | apply c_dreg2)
      | ((with_reducible first | apply op_gS | apply op_g0 | apply d_gS | apply d_g0); (focus (simp only [W0, reduceIte, Nat.reduceEqDiff, Nat.reduceAdd, Nat.reduceSub, Nat.reduceLeDiff, hd, beq_self_eq_true, bne_self_eq_false, BEq.rfl]; rfl)); (with_reducible first | apply g_no | apply g_T | apply g_F); all_goals (try (intro hc; first | exact absurd hc (by decide) | subst hc | clear hc)))
      | ((with_reducible apply c_cond); (focus (simp only [W0, reduceIte, Nat.reduceEqDiff, Nat.reduceAdd, Nat.reduceSub, Nat.reduceLeDiff, hd, beq_self_eq_true, bne_self_eq_false, BEq.rfl]; rfl)); all_goals (intro hc; first | exact absurd hc (by decide) | subst hc | clear hc))
      | ((with_reducible first | apply op_isB | apply d_isV); (focus rfl); (focus (simp only [W0, reduceIte, Nat.reduceEqDiff, Nat.reduceAdd, Nat.reduceSub, Nat.reduceLeDiff, hd, beq_self_eq_true, bne_self_eq_false, BEq.rfl]; rfl)); intro c' hc'; try with_reducible first | cases (show true = c' from hc') | cases (show false = c' from hc'))
      | ((with_reducible first | apply op_step | apply op_step0 | apply d_ld | apply d_st | apply d_new | apply d_box | apply d_bsl | apply d_apw | apply d_apa | apply d_v); (focus (simp only [W0, reduceIte, Nat.reduceEqDiff, Nat.reduceAdd, Nat.reduceSub, Nat.reduceLeDiff, hd, beq_self_eq_true, bne_self_eq_false, BEq.rfl]; rfl)); all_goals (try rfl))
      | ((with_reducible apply k_blk_y); (focus decide))
    all_goals first | (exfalso; refine Bool.false_ne_true ?_; first | assumption | (symm; assumption)) | (exact absurd ‹true = false› (by decide)) | skip
    all_goals ((with_reducible apply ret_plain); (focus (simp only [W0, reduceIte, Nat.reduceEqDiff, Nat.reduceAdd, Nat.reduceSub, Nat.reduceLeDiff]; rfl)); (focus (simp [resV, idsV, idsL, slA_ids, ints_ids])))
    all_goals exact ⟨[], by simp [resV, F1, frT, frL, thawV, reH, V27.l, V23.l, slA_none, slA_some]⟩
theorem pput_s (v : V27) (hv : v.ok) (i : Int) (o : Option (List (List AV))) (ho : ∀ us ∈ slL o, HasT prog 66 us) (hlo : (slL o).length ≤ 1000000) (hlv : lightH v) (hs : seen v i) (hh : hardF v = true) (hp : putOK v i (slL o) = true) (a : Nat) (ha : i - v.f2 = (a : Int)) (hae : a ≤ (slL v.f6).length) (hnz : nz (slL v.f6) = some (slL v.f6)) :
    FCall prog 79 [.agg v.l, .int .i64 i, slA 66 o] (.tup [.agg (reH v (nz (slL v.f5)) (pputO (slL v.f6) a (slL o))).l, .int .i64 0]) := by
  obtain ⟨l6, l5⟩ := hlv
  have hlv : lightH v := ⟨l6, l5⟩
  have hlm : (slL o).length ≤ maxLen := Nat.le_trans hlo (by decide)
  have w0 : ∀ x : Int, -4611686018427387904 ≤ x → x ≤ 4611686018427387904 → IntKind.i64.wrap x = x := fun x a b => by simp [IntKind.wrap, IntKind.signed, IntKind.bits]; omega
  obtain ⟨s1, s2, s3, s4, s5⟩ := hs
  have hs : seen v i := ⟨s1, s2, s3, s4, s5⟩
  have h76 := f76 v hv
  rw [hh] at h76
  have hp' := hp
  simp only [putOK, Bool.and_eq_true] at hp'
  obtain ⟨⟨hp1, hp2⟩, hp3⟩ := hp'
  have h102 := f102 o ho hlm (termF v i) v.f0
  rw [hp3] at h102
  have h94 := f94 i v.f2 (lastI (slL v.f6) v.f2)
  have hwi : withinF i v.f2 (lastI (slL v.f6) v.f2) = true := by
    simp only [withinF, Bool.and_eq_true, decide_eq_true_eq] at hp1 hp2 ⊢; omega
  rw [hwi] at h94
  have h33 := f33 v hlv
  have htw : (twinH v).l = [.int .i64 v.f0, .int .i64 v.f1, .int .i64 v.f2, .int .i64 v.f3, .int .i64 v.f4.f0, .int .i64 v.f4.f1, .int .i64 v.f4.f2, .int .i64 v.f4.f3, slA 5 (nz (slL v.f5)), .fz 66 (slL v.f6)] := by
    unfold twinH; rw [hnz]; rfl
  rw [htw] at h33
  refine fcall mixed t79 (by simp [m79]) (by simp [idsL, idsV, V27.ids, slA_ids]) (f_body ?_)
  simp only [m79, argEnv, List.length_nil, List.nil_append, List.cons_append, Nat.zero_add, V27.l, V23.l, zero27, slA_none]
  repeat' first
    | (with_reducible first | apply c_seq | apply c_reg | apply c_dreg0 | apply c_block | apply c_ret | apply c_exit | apply c_skip | apply ops_nil | apply d_nil | apply k_seq_n | apply k_seq_r | apply k_seq_x | apply k_blk_n | apply k_blk_r | apply k_blk_x | apply k_end_n | apply k_end_r | apply k_loop_x | apply k_loop_r | apply c_dreg1 | apply c_dreg2)
    | ((with_reducible first | apply op_gS | apply op_g0 | apply d_gS | apply d_g0); (focus (simp only [W0, reduceIte, Nat.reduceEqDiff, Nat.reduceAdd, Nat.reduceSub, Nat.reduceLeDiff, beq_self_eq_true, bne_self_eq_false, BEq.rfl, Bool.and_self]; rfl)); (with_reducible first | apply g_no | apply g_T | apply g_F); all_goals (try (intro hc; first | exact absurd hc (by decide) | subst hc | clear hc)))
    | ((with_reducible apply c_cond); (focus (simp only [W0, reduceIte, Nat.reduceEqDiff, Nat.reduceAdd, Nat.reduceSub, Nat.reduceLeDiff, beq_self_eq_true, bne_self_eq_false, BEq.rfl, Bool.and_self]; rfl)); all_goals (intro hc; first | exact absurd hc (by decide) | subst hc | clear hc))
    | ((with_reducible first | apply op_fcall (f := 76) | apply d_fcall (f := 76)); (focus ((try simp only [W0, reduceIte, Nat.reduceEqDiff, Nat.reduceAdd, Nat.reduceSub, Nat.reduceLeDiff, beq_self_eq_true, bne_self_eq_false, BEq.rfl, Bool.and_self]); first | exact h76)); all_goals (try rfl))
    | ((with_reducible first | apply op_fcall (f := 17) | apply d_fcall (f := 17)); (focus ((try simp only [W0, reduceIte, Nat.reduceEqDiff, Nat.reduceAdd, Nat.reduceSub, Nat.reduceLeDiff, beq_self_eq_true, bne_self_eq_false, BEq.rfl, Bool.and_self]); first | exact f17 v hv)); all_goals (try rfl))
    | ((with_reducible first | apply op_fcall (f := 94) | apply d_fcall (f := 94)); (focus ((try simp only [W0, reduceIte, Nat.reduceEqDiff, Nat.reduceAdd, Nat.reduceSub, Nat.reduceLeDiff, beq_self_eq_true, bne_self_eq_false, BEq.rfl, Bool.and_self]); first | exact h94)); all_goals (try rfl))
    | ((with_reducible first | apply op_fcall (f := 103) | apply d_fcall (f := 103)); (focus ((try simp only [W0, reduceIte, Nat.reduceEqDiff, Nat.reduceAdd, Nat.reduceSub, Nat.reduceLeDiff, beq_self_eq_true, bne_self_eq_false, BEq.rfl, Bool.and_self]); first | exact f103 v hv i hs)); all_goals (try rfl))
    | ((with_reducible first | apply op_fcall (f := 102) | apply d_fcall (f := 102)); (focus ((try simp only [W0, reduceIte, Nat.reduceEqDiff, Nat.reduceAdd, Nat.reduceSub, Nat.reduceLeDiff, beq_self_eq_true, bne_self_eq_false, BEq.rfl, Bool.and_self]); first | exact h102)); all_goals (try rfl))
    | ((with_reducible first | apply op_fcall (f := 33) | apply d_fcall (f := 33)); (focus ((try simp only [W0, reduceIte, Nat.reduceEqDiff, Nat.reduceAdd, Nat.reduceSub, Nat.reduceLeDiff, beq_self_eq_true, bne_self_eq_false, BEq.rfl, Bool.and_self]); first | exact h33)); all_goals (try rfl))
    | ((with_reducible first | apply op_isB | apply d_isV); (focus rfl); (focus (simp only [W0, reduceIte, Nat.reduceEqDiff, Nat.reduceAdd, Nat.reduceSub, Nat.reduceLeDiff, beq_self_eq_true, bne_self_eq_false, BEq.rfl, Bool.and_self]; rfl)); intro c' hc'; try with_reducible first | cases (show true = c' from hc') | cases (show false = c' from hc'))
    | ((with_reducible first | apply op_step | apply op_step0 | apply d_ld | apply d_st | apply d_new | apply d_box | apply d_bsl | apply d_apw | apply d_apa | apply d_v); (focus (simp only [W0, reduceIte, Nat.reduceEqDiff, Nat.reduceAdd, Nat.reduceSub, Nat.reduceLeDiff, beq_self_eq_true, bne_self_eq_false, BEq.rfl, Bool.and_self]; rfl)); all_goals (try rfl))
    | ((with_reducible apply k_blk_y); (focus decide))
  all_goals first | (exfalso; refine Bool.false_ne_true ?_; first | assumption | (symm; assumption)) | (exact absurd ‹true = false› (by decide)) | skip
  refine c_loop [1, 2, 3, 6, 7, 10, 11] (fun n env rows => ∃ k : Nat, k ≤ (slL o).length ∧ n = (slL o).length - k ∧ env = [(1, .int .i64 i), (2, slA 66 o), (3, .ptr 0 0), (6, .ptr 1 0), (7, .int .i64 0), (10, .ptr 2 0), (11, .int .i64 (k : Int))] ∧ rows = [Row.box 27 [.int .i64 v.f0, .int .i64 v.f1, .int .i64 v.f2, .int .i64 v.f3, .int .i64 v.f4.f0, .int .i64 v.f4.f1, .int .i64 v.f4.f2, .int .i64 v.f4.f3, slA 5 v.f5, slA 66 v.f6], Row.box 27 [.int .i64 0, .int .i64 0, .int .i64 0, .int .i64 0, .int .i64 0, .int .i64 0, .int .i64 0, .int .i64 0, .nil 5, .nil 66], Row.box 27 [.int .i64 v.f0, .int .i64 v.f1, .int .i64 v.f2, .int .i64 v.f3, .int .i64 v.f4.f0, .int .i64 v.f4.f1, .int .i64 v.f4.f2, .int .i64 v.f4.f3, slA 5 (nz (slL v.f5)), .fz 66 (slL v.f6)]] ∧ a + k ≤ (slL v.f6).length ∧ putN (slL v.f6) a (slL o) = putN (slL v.f6) (a + k) ((slL o).drop k)) (slL o).length
    (back_take (k := 3) (Nat.zero_le _) (by simp) (by simp [look, idsL, idsV, slA_ids]) (by simp [idsR, idsL, idsV, slA_ids]) ⟨0, Nat.zero_le _, rfl, rfl, rfl, by omega, by simp⟩) ?_
  rintro n env rows ⟨k, hk, rfl, rfl, rfl, hak, hput⟩
  rcases Nat.lt_or_ge k (slL o).length with hk' | hk'
  · obtain ⟨l, rfl⟩ : ∃ l, o = some l := by
      cases o with
      | none => simp [slL] at hk'
      | some l => exact ⟨l, rfl⟩
    have hw := wrap_succ hk' hlm
    obtain ⟨x, hx, hxok⟩ := el66 ho hk'
    simp only [slL_some] at hk hk' hx hput hlo hw
    have w2 : IntKind.i64.wrap (i + (k : Int)) = i + (k : Int) := w0 _ (by omega) (by omega)
    have w3 : IntKind.i64.wrap (i + (k : Int) + 1) = i + (k : Int) + 1 := w0 _ (by omega) (by omega)
    have w4 : IntKind.i64.wrap (i + (k : Int) - v.f2) = ((a + k : Nat) : Int) := by rw [w0 _ (by omega) (by omega)]; omega
    have hsk : seen (twinH v) (i + (k : Int) + 1) := same_seen (same_twin v) (seen_at hs (by omega) (by omega))
    have h41 := f41 (twinH v) (twinH_ok hv) _ hsk
    rw [same_ent (same_twin v), same_in (same_twin v), htw] at h41
    have hd : decide ((k : Int) < (l.length : Int)) = true := decide_eq_true (by omega)
    have p1 : (0 ≤ ((a + k : Nat) : Int)) = True := eq_true (by omega)
    have p3 : (0 ≤ (k : Int)) = True := eq_true (by omega)
    have p4 : ((k : Int) ≤ ((l.length : Nat) : Int)) = True := eq_true (by omega)
    have p7 : ((k : Int) < ((l.length : Nat) : Int)) = True := eq_true (by omega)
    have hdl : (l.drop k).length ≤ 1000000 := by rw [List.length_drop]; omega
    have hde : (l.drop k).isEmpty = false := by
      cases hq : l.drop k with
      | nil => simp at hq; omega
      | cons => rfl
    have h69 := f69N (some ((slL v.f6).take (a + k))) (by rw [slL_some, List.length_take]; omega) 4
    rw [slL_some] at h69
    have p2 : (((a + k : Nat) : Int) ≤ (((slL v.f6).length : Nat) : Int)) = True := eq_true (by omega)
    have pl : ((slL (nz ((slL v.f6).take (a + k)))).length + (l.drop k).length ≤ 925904528653) = True := eq_true (by rw [slL_nz, List.length_take]; omega)
    rw [slA_some] at h69
    rcases Nat.lt_or_ge (a + k) (slL v.f6).length with hin | hin
    · obtain ⟨e, he, heok⟩ := el66 (o := v.f6) hv.h6.1 hin
      have hib : inB v (i + (k : Int) + 1) = true := by simp only [inB, Bool.and_eq_true, decide_eq_true_eq]; omega
      have hen : entA v (i + (k : Int) + 1) = e := by
        unfold entA; rw [if_pos hib]; unfold getE
        rw [show posN v (i + (k : Int) + 1) = a + k by unfold posN; omega, he]; exact ent66_l e
      rw [hib, hen] at h41
      repeat' first
        | (with_reducible first | apply c_seq | apply c_reg | apply c_dreg0 | apply c_block | apply c_ret | apply c_exit | apply c_skip | apply ops_nil | apply d_nil | apply k_seq_n | apply k_seq_r | apply k_seq_x | apply k_blk_n | apply k_blk_r | apply k_blk_x | apply k_end_n | apply k_end_r | apply k_loop_x | apply k_loop_r | apply c_dreg1 | apply c_dreg2)
        | ((with_reducible first | apply op_gS | apply op_g0 | apply d_gS | apply d_g0); (focus (simp only [W0, reduceIte, Nat.reduceEqDiff, Nat.reduceAdd, Nat.reduceSub, Nat.reduceLeDiff, hd, w2, w3, w4, p3, p4, p7, hx, bound, true_and, Int.toNat_natCast, List.take_length, slA_some, slL_some, slA_none, elems, p1, p2, pl, hde, appR_slSl, slS_items, slS_width, slS_one, List.drop_zero, beq_self_eq_true, bne_self_eq_false, BEq.rfl, V66.l, V64.l, V62.l, V60.l, V23.l]; rfl)); (with_reducible first | apply g_no | apply g_T | apply g_F); all_goals (try (intro hc; first | exact absurd hc (by decide) | subst hc | clear hc)))
        | ((with_reducible apply c_cond); (focus (simp only [W0, reduceIte, Nat.reduceEqDiff, Nat.reduceAdd, Nat.reduceSub, Nat.reduceLeDiff, hd, w2, w3, w4, p3, p4, p7, hx, bound, true_and, Int.toNat_natCast, List.take_length, slA_some, slL_some, slA_none, elems, p1, p2, pl, hde, appR_slSl, slS_items, slS_width, slS_one, List.drop_zero, beq_self_eq_true, bne_self_eq_false, BEq.rfl, V66.l, V64.l, V62.l, V60.l, V23.l]; rfl)); all_goals (intro hc; first | exact absurd hc (by decide) | subst hc | clear hc))
        | ((with_reducible first | apply op_cn (f := 69) | apply d_cn (f := 69)); (focus ((try simp only [W0, reduceIte, Nat.reduceEqDiff, Nat.reduceAdd, Nat.reduceSub, Nat.reduceLeDiff, hd, w2, w3, w4, p3, p4, p7, hx, bound, true_and, Int.toNat_natCast, List.take_length, slA_some, slL_some, slA_none, elems, p1, p2, pl, hde, appR_slSl, slS_items, slS_width, slS_one, List.drop_zero, beq_self_eq_true, bne_self_eq_false, BEq.rfl, V66.l, V64.l, V62.l, V60.l, V23.l]); exact h69)); all_goals (try rfl))
        | ((with_reducible first | apply op_fcall (f := 41) | apply d_fcall (f := 41)); (focus ((try simp only [W0, reduceIte, Nat.reduceEqDiff, Nat.reduceAdd, Nat.reduceSub, Nat.reduceLeDiff, hd, w2, w3, w4, p3, p4, p7, hx, bound, true_and, Int.toNat_natCast, List.take_length, slA_some, slL_some, slA_none, elems, p1, p2, pl, hde, appR_slSl, slS_items, slS_width, slS_one, List.drop_zero, beq_self_eq_true, bne_self_eq_false, BEq.rfl, V66.l, V64.l, V62.l, V60.l, V23.l]); first | exact h41)); all_goals (try rfl))
        | ((with_reducible first | apply op_isB | apply d_isV); (focus rfl); (focus (simp only [W0, reduceIte, Nat.reduceEqDiff, Nat.reduceAdd, Nat.reduceSub, Nat.reduceLeDiff, hd, w2, w3, w4, p3, p4, p7, hx, bound, true_and, Int.toNat_natCast, List.take_length, slA_some, slL_some, slA_none, elems, p1, p2, pl, hde, appR_slSl, slS_items, slS_width, slS_one, List.drop_zero, beq_self_eq_true, bne_self_eq_false, BEq.rfl, V66.l, V64.l, V62.l, V60.l, V23.l]; rfl)); intro c' hc'; try with_reducible first | cases (show true = c' from hc') | cases (show false = c' from hc'))
        | ((with_reducible first | apply op_step | apply op_step0 | apply d_ld | apply d_st | apply d_new | apply d_box | apply d_bsl | apply d_apw | apply d_apa | apply d_v); (focus (simp only [W0, reduceIte, Nat.reduceEqDiff, Nat.reduceAdd, Nat.reduceSub, Nat.reduceLeDiff, hd, w2, w3, w4, p3, p4, p7, hx, bound, true_and, Int.toNat_natCast, List.take_length, slA_some, slL_some, slA_none, elems, p1, p2, pl, hde, appR_slSl, slS_items, slS_width, slS_one, List.drop_zero, beq_self_eq_true, bne_self_eq_false, BEq.rfl, V66.l, V64.l, V62.l, V60.l, V23.l]; rfl)); all_goals (try rfl))
        | ((with_reducible apply k_blk_y); (focus decide))
      all_goals first | (exfalso; refine Bool.false_ne_true ?_; first | assumption | (symm; assumption)) | (exact absurd ‹true = false› (by decide)) | skip
      · refine k_loop_n ((slL (some l)).length - (k + 1)) (by simp only [slL_some]; omega) (back_take (k := 3) (Nat.zero_le _) (by simp) (by simp [look, idsL, idsV, slA_ids]) (by simp [idsR, idsL, idsV, slA_ids]) ⟨k + 1, by simp only [slL_some]; omega, rfl, by simp only [look, List.map, Nat.reduceEqDiff, reduceIte, hw, slA_some, slL_some], rfl, by omega, ?_⟩)
        show putN (slL v.f6) a l = putN (slL v.f6) (a + (k + 1)) (l.drop (k + 1))
        rw [hput, put_same hx he (by simpa using hc')]
      · have hpo : pputO (slL v.f6) a (slL (some l)) = some ((slL v.f6).take (a + k) ++ l.drop k) := by
          show (match putN (slL v.f6) a l with | none => nz (slL v.f6) | some l' => some l') = _
          rw [hput, put_diff hx he (by simpa using hc')]
        rw [hpo]
        rw [slL_nz]
        ((with_reducible apply ret_row 5); (focus (simp only [W0, reduceIte, Nat.reduceEqDiff, Nat.reduceAdd, Nat.reduceSub, Nat.reduceLeDiff, W5]; rfl)); (focus rfl); (focus (simp only [rwS_ids])); (focus (simp [resV, idsV, idsL, slA_ids]; intro id hid; exact slS_ids hid)); (focus (simp only [rwS_ren])))
        exact ⟨_, by simp [resV, renV, renL, slS_ren, slA_ren, gcF_1, F1, frT, frL, fr1_slS, thawV, reH, V27.l, V23.l]; rfl⟩
    · have hib : inB v (i + (k : Int) + 1) = false := by
        unfold inB; rw [Bool.and_eq_false_iff]; right; exact decide_eq_false (by omega)
      rw [hib] at h41
      generalize entA v (i + (k : Int) + 1) = e at h41
      repeat' first
        | (with_reducible first | apply c_seq | apply c_reg | apply c_dreg0 | apply c_block | apply c_ret | apply c_exit | apply c_skip | apply ops_nil | apply d_nil | apply k_seq_n | apply k_seq_r | apply k_seq_x | apply k_blk_n | apply k_blk_r | apply k_blk_x | apply k_end_n | apply k_end_r | apply k_loop_x | apply k_loop_r | apply c_dreg1 | apply c_dreg2)
        | ((with_reducible first | apply op_gS | apply op_g0 | apply d_gS | apply d_g0); (focus (simp only [W0, reduceIte, Nat.reduceEqDiff, Nat.reduceAdd, Nat.reduceSub, Nat.reduceLeDiff, hd, w2, w3, w4, p3, p4, p7, hx, bound, true_and, Int.toNat_natCast, List.take_length, slA_some, slL_some, slA_none, elems, p1, p2, pl, hde, appR_slSl, slS_items, slS_width, slS_one, List.drop_zero, beq_self_eq_true, bne_self_eq_false, BEq.rfl, V66.l, V64.l, V62.l, V60.l, V23.l]; rfl)); (with_reducible first | apply g_no | apply g_T | apply g_F); all_goals (try (intro hc; first | exact absurd hc (by decide) | subst hc | clear hc)))
        | ((with_reducible apply c_cond); (focus (simp only [W0, reduceIte, Nat.reduceEqDiff, Nat.reduceAdd, Nat.reduceSub, Nat.reduceLeDiff, hd, w2, w3, w4, p3, p4, p7, hx, bound, true_and, Int.toNat_natCast, List.take_length, slA_some, slL_some, slA_none, elems, p1, p2, pl, hde, appR_slSl, slS_items, slS_width, slS_one, List.drop_zero, beq_self_eq_true, bne_self_eq_false, BEq.rfl, V66.l, V64.l, V62.l, V60.l, V23.l]; rfl)); all_goals (intro hc; first | exact absurd hc (by decide) | subst hc | clear hc))
        | ((with_reducible first | apply op_cn (f := 69) | apply d_cn (f := 69)); (focus ((try simp only [W0, reduceIte, Nat.reduceEqDiff, Nat.reduceAdd, Nat.reduceSub, Nat.reduceLeDiff, hd, w2, w3, w4, p3, p4, p7, hx, bound, true_and, Int.toNat_natCast, List.take_length, slA_some, slL_some, slA_none, elems, p1, p2, pl, hde, appR_slSl, slS_items, slS_width, slS_one, List.drop_zero, beq_self_eq_true, bne_self_eq_false, BEq.rfl, V66.l, V64.l, V62.l, V60.l, V23.l]); exact h69)); all_goals (try rfl))
        | ((with_reducible first | apply op_fcall (f := 41) | apply d_fcall (f := 41)); (focus ((try simp only [W0, reduceIte, Nat.reduceEqDiff, Nat.reduceAdd, Nat.reduceSub, Nat.reduceLeDiff, hd, w2, w3, w4, p3, p4, p7, hx, bound, true_and, Int.toNat_natCast, List.take_length, slA_some, slL_some, slA_none, elems, p1, p2, pl, hde, appR_slSl, slS_items, slS_width, slS_one, List.drop_zero, beq_self_eq_true, bne_self_eq_false, BEq.rfl, V66.l, V64.l, V62.l, V60.l, V23.l]); first | exact h41)); all_goals (try rfl))
        | ((with_reducible first | apply op_isB | apply d_isV); (focus rfl); (focus (simp only [W0, reduceIte, Nat.reduceEqDiff, Nat.reduceAdd, Nat.reduceSub, Nat.reduceLeDiff, hd, w2, w3, w4, p3, p4, p7, hx, bound, true_and, Int.toNat_natCast, List.take_length, slA_some, slL_some, slA_none, elems, p1, p2, pl, hde, appR_slSl, slS_items, slS_width, slS_one, List.drop_zero, beq_self_eq_true, bne_self_eq_false, BEq.rfl, V66.l, V64.l, V62.l, V60.l, V23.l]; rfl)); intro c' hc'; try with_reducible first | cases (show true = c' from hc') | cases (show false = c' from hc'))
        | ((with_reducible first | apply op_step | apply op_step0 | apply d_ld | apply d_st | apply d_new | apply d_box | apply d_bsl | apply d_apw | apply d_apa | apply d_v); (focus (simp only [W0, reduceIte, Nat.reduceEqDiff, Nat.reduceAdd, Nat.reduceSub, Nat.reduceLeDiff, hd, w2, w3, w4, p3, p4, p7, hx, bound, true_and, Int.toNat_natCast, List.take_length, slA_some, slL_some, slA_none, elems, p1, p2, pl, hde, appR_slSl, slS_items, slS_width, slS_one, List.drop_zero, beq_self_eq_true, bne_self_eq_false, BEq.rfl, V66.l, V64.l, V62.l, V60.l, V23.l]; rfl)); all_goals (try rfl))
        | ((with_reducible apply k_blk_y); (focus decide))
      all_goals first | (exfalso; refine Bool.false_ne_true ?_; first | assumption | (symm; assumption)) | (exact absurd ‹true = false› (by decide)) | skip
      · have hpo : pputO (slL v.f6) a (slL (some l)) = some ((slL v.f6).take (a + k) ++ l.drop k) := by
          show (match putN (slL v.f6) a l with | none => nz (slL v.f6) | some l' => some l') = _
          rw [hput, put_off hx hin]
        rw [hpo]
        rw [slL_nz]
        ((with_reducible apply ret_row 5); (focus (simp only [W0, reduceIte, Nat.reduceEqDiff, Nat.reduceAdd, Nat.reduceSub, Nat.reduceLeDiff, W5]; rfl)); (focus rfl); (focus (simp only [rwS_ids])); (focus (simp [resV, idsV, idsL, slA_ids]; intro id hid; exact slS_ids hid)); (focus (simp only [rwS_ren])))
        exact ⟨_, by simp [resV, renV, renL, slS_ren, slA_ren, gcF_1, F1, frT, frL, fr1_slS, thawV, reH, V27.l, V23.l]; rfl⟩
  · obtain rfl : k = (slL o).length := by omega
    have hd : decide (((slL o).length : Int) < ((slL o).length : Int)) = false := decide_eq_false (by omega)
    have hpo : pputO (slL v.f6) a (slL o) = some (slL v.f6) := by
      show (match putN (slL v.f6) a (slL o) with | none => nz (slL v.f6) | some l' => some l') = _
      rw [hput, put_end]; exact hnz
    rw [hpo]
    repeat' first
      | (with_reducible first | apply c_seq | apply c_reg | apply c_dreg0 | apply c_block | apply c_ret | apply c_exit | apply c_skip | apply ops_nil | apply d_nil | apply k_seq_n | apply k_seq_r | apply k_seq_x | apply k_blk_n | apply k_blk_r | apply k_blk_x | apply k_end_n | apply k_end_r | apply k_loop_x | apply k_loop_r | apply c_dreg1 | apply c_dreg2)
      | ((with_reducible first | apply op_gS | apply op_g0 | apply d_gS | apply d_g0); (focus (simp only [W0, reduceIte, Nat.reduceEqDiff, Nat.reduceAdd, Nat.reduceSub, Nat.reduceLeDiff, hd, beq_self_eq_true, bne_self_eq_false, BEq.rfl]; rfl)); (with_reducible first | apply g_no | apply g_T | apply g_F); all_goals (try (intro hc; first | exact absurd hc (by decide) | subst hc | clear hc)))
      | ((with_reducible apply c_cond); (focus (simp only [W0, reduceIte, Nat.reduceEqDiff, Nat.reduceAdd, Nat.reduceSub, Nat.reduceLeDiff, hd, beq_self_eq_true, bne_self_eq_false, BEq.rfl]; rfl)); all_goals (intro hc; first | exact absurd hc (by decide) | subst hc | clear hc))
      | ((with_reducible first | apply op_isB | apply d_isV); (focus rfl); (focus (simp only [W0, reduceIte, Nat.reduceEqDiff, Nat.reduceAdd, Nat.reduceSub, Nat.reduceLeDiff, hd, beq_self_eq_true, bne_self_eq_false, BEq.rfl]; rfl)); intro c' hc'; try with_reducible first | cases (show true = c' from hc') | cases (show false = c' from hc'))
      | ((with_reducible first | apply op_step | apply op_step0 | apply d_ld | apply d_st | apply d_new | apply d_box | apply d_bsl | apply d_apw | apply d_apa | apply d_v); (focus (simp only [W0, reduceIte, Nat.reduceEqDiff, Nat.reduceAdd, Nat.reduceSub, Nat.reduceLeDiff, hd, beq_self_eq_true, bne_self_eq_false, BEq.rfl]; rfl)); all_goals (try rfl))
      | ((with_reducible apply k_blk_y); (focus decide))
    all_goals first | (exfalso; refine Bool.false_ne_true ?_; first | assumption | (symm; assumption)) | (exact absurd ‹true = false› (by decide)) | skip
    all_goals ((with_reducible apply ret_plain); (focus (simp only [W0, reduceIte, Nat.reduceEqDiff, Nat.reduceAdd, Nat.reduceSub, Nat.reduceLeDiff]; rfl)); (focus (simp [resV, idsV, idsL, slA_ids, ints_ids])))
    all_goals exact ⟨[], by simp [resV, F1, frT, frL, thawV, reH, V27.l, V23.l, slA_none, slA_some]⟩
theorem pput_yes (v : V27) (hv : v.ok) (i : Int) (o : Option (List (List AV))) (ho : ∀ us ∈ slL o, HasT prog 66 us) (hlo : (slL o).length ≤ 1000000) (hlv : lightH v) (hs : seen v i) (hh : hardF v = true) (hp : putOK v i (slL o) = true) (a : Nat) (ha : i - v.f2 = (a : Int)) (hae : a ≤ (slL v.f6).length) :
    FCall prog 79 [.agg v.l, .int .i64 i, slA 66 o] (.tup [.agg (reH v (nz (slL v.f5)) (pputO (slL v.f6) a (slL o))).l, .int .i64 0]) := by
  cases he : (slL v.f6).isEmpty with
  | true =>
    have h0 : slL v.f6 = [] := by simpa using he
    exact pput_e v hv i o ho hlo hlv hs hh hp a ha hae (by rw [h0, nz_nil])
  | false => exact pput_s v hv i o ho hlo hlv hs hh hp a ha hae (nz_some he)
end Go.Sk
