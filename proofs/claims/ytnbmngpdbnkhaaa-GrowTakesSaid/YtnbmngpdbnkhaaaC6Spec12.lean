/- Entries put into a log: all cases. Conditions: none. -/
import Derived.Test.YtnbmngpdbnkhaaaC6Spec11
set_option linter.unusedVariables false
set_option linter.unusedSimpArgs false
set_option maxRecDepth 20000
set_option maxHeartbeats 8000000
namespace Go.Sk
open Go.Proofs.Try
def setLog (v : V27) (o : Option (List (List AV))) : V27 := ⟨v.f0, v.f1, v.f2, v.f3, v.f4, v.f5, o⟩
def zero27 : V27 := ⟨0, 0, 0, 0, ⟨0, 0, 0, 0⟩, none, none⟩
/-- May entries be put behind an index? -/
def putOK (v : V27) (i : Int) (l : List (List AV)) : Bool := decide (v.f2 ≤ i) && decide (i ≤ lastI (slL v.f6) v.f2) && rowF v.f0 (mx1 (termF v i)) l
/-- A log and its snapshot, whose slices have rows of their own. -/
def V27.s (x : V27) (n : Nat) : List AV := [.int .i64 x.f0, .int .i64 x.f1, .int .i64 x.f2, .int .i64 x.f3, .int .i64 x.f4.f0, .int .i64 x.f4.f1, .int .i64 x.f4.f2, .int .i64 x.f4.f3, slS 5 n x.f5, slS 66 (n + 1) x.f6]
def V27.rw (x : V27) : List Row := [rwS 5 x.f5, rwS 66 x.f6]
def V27.h (x : V27) : List AV := [.int .i64 x.f0, .int .i64 x.f1, .int .i64 x.f2, .int .i64 x.f3, .int .i64 x.f4.f0, .int .i64 x.f4.f1, .int .i64 x.f4.f2, .int .i64 x.f4.f3]
theorem made_N {f : Nat} {args : List AV} {x : V27} (hi : idsL args = []) (h : CW prog f args [] (Made x.h x.f5 x.f6)) (n : Nat) : FCallN prog f args n (.tup [.agg (x.s n), .int .i64 0]) x.rw := by
  obtain ⟨f0, f1, f2, f3, f4, f5, f6⟩ := x
  cases f5 with
  | none => cases f6 with
    | none => exact ((FCallN.of hi h n).post 2 : _)
    | some l =>
      have := (FCallN.of hi h (n + 1)).pre 1
      simpa [renV, renL, V27.h, V27.s, V27.rw, slS, rwS, renR] using this
  | some b => cases f6 with
    | none =>
      have := (FCallN.of hi h n).post 1
      simpa [renV, renL, V27.h, V27.s, V27.rw, slS, rwS, renR] using this
    | some l =>
      have := FCallN.of hi h n
      simpa [renV, renL, V27.h, V27.s, V27.rw, slS, rwS, renR, Nat.add_comm] using this
theorem made_fr (x : V27) : ∃ r, fr x.rw (.tup [.agg (x.s 0), .int .i64 0]) = some (.tup [.agg x.l, .int .i64 0], r) := by
  obtain ⟨f0, f1, f2, f3, f4, f5, f6⟩ := x
  cases f5 <;> cases f6 <;> exact ⟨_, by simp [V27.rw, V27.s, V27.l, V23.l, rwS, slS, slA, fr, frT, frL, frV, fr1, thawV]; rfl⟩
theorem put_yesN (v : V27) (hv : v.ok) (hl5 : (slL v.f5).length ≤ 1000000) (hl6 : (slL v.f6).length ≤ 1000000) (i : Int) (o : Option (List (List AV))) (ho : ∀ us ∈ slL o, HasT prog 66 us) (hlo : (slL o).length ≤ 1000000) (hs : seen v i) (hh : hardF v = true) (hp : putOK v i (slL o) = true) (n : Nat) :
    FCallN prog 73 [.agg v.l, .int .i64 i, slA 66 o] n (.tup [.agg ((setLog v (putO v.f6 (i - v.f2).toNat (slL o))).s n), .int .i64 0]) (setLog v (putO v.f6 (i - v.f2).toNat (slL o))).rw := by
  refine made_N (by simp [idsL, idsV, V27.ids, slA_ids]) ?_ n
  simp only [putOK, Bool.and_eq_true, decide_eq_true_eq] at hp
  obtain ⟨⟨h1, h2⟩, h3⟩ := hp
  have ha : i - v.f2 = (((i - v.f2).toNat : Nat) : Int) := by omega
  have hae : (i - v.f2).toNat ≤ (slL v.f6).length := by
    have w := (seen_wrap hs).2.2
    have h2' := h2
    unfold lastI at h2'
    split at h2'
    · omega
    · rw [w] at h2'; omega
  obtain ⟨f0, f1, f2, f3, f4, f5, f6⟩ := v
  simp only at h1 h2 ha hae
  generalize (i - f2).toNat = a at ha hae ⊢
  cases f6 with
  | none =>
    have ha0 : a = 0 := by simpa [slL] using hae
    subst ha0
    cases f5 with
    | none => exact putnn f0 f1 f2 f3 f4 hv i o ho hlo hs hh h1 h2 h3 ha
    | some b5 => exact putsn f0 f1 f2 f3 f4 b5 (Nat.le_trans hl5 (by decide)) hv i o ho hlo hs hh h1 h2 h3 ha
  | some es =>
    cases f5 with
    | none => exact putns f0 f1 f2 f3 f4 es hl6 hv i o ho hlo hs hh h1 h2 h3 a ha hae
    | some b5 => exact putss f0 f1 f2 f3 f4 b5 (Nat.le_trans hl5 (by decide)) es hl6 hv i o ho hlo hs hh h1 h2 h3 a ha hae
theorem put_yes (v : V27) (hv : v.ok) (hl5 : (slL v.f5).length ≤ 1000000) (hl6 : (slL v.f6).length ≤ 1000000) (i : Int) (o : Option (List (List AV))) (ho : ∀ us ∈ slL o, HasT prog 66 us) (hlo : (slL o).length ≤ 1000000) (hs : seen v i) (hh : hardF v = true) (hp : putOK v i (slL o) = true) :
    FCall prog 73 [.agg v.l, .int .i64 i, slA 66 o] (.tup [.agg (setLog v (putO v.f6 (i - v.f2).toNat (slL o))).l, .int .i64 0]) := by
  obtain ⟨r, hr⟩ := made_fr (setLog v (putO v.f6 (i - v.f2).toNat (slL o)))
  exact (put_yesN v hv hl5 hl6 i o ho hlo hs hh hp 0).freeze (by simp [idsL, idsV, V27.ids, slA_ids]) hr
theorem put_no (v : V27) (hv : v.ok) (i : Int) (o : Option (List (List AV))) (ho : ∀ us ∈ slL o, HasT prog 66 us) (hlo : (slL o).length ≤ 1000000) (hs : seen v i) (hh : hardF v = true) (hp : putOK v i (slL o) = false) : FCall prog 73 [.agg v.l, .int .i64 i, slA 66 o] (.tup [.agg zero27.l, .int .i64 1]) := by
  have hlm : (slL o).length ≤ maxLen := Nat.le_trans hlo (by decide)
  have h71 := f71 v hv
  rw [hh] at h71
  simp only [reduceIte] at h71
  refine fcall mixed t73 (by simp [m73]) (by simp [idsL, idsV, V27.ids, slA_ids]) (f_body ?_)
  simp only [m73, argEnv, List.length_nil, List.nil_append, List.cons_append, Nat.zero_add, V27.l, V23.l, zero27, slA_none]
  repeat' first
    | (with_reducible first | apply c_seq | apply c_reg | apply c_dreg0 | apply c_block | apply c_ret | apply c_exit | apply c_skip | apply ops_nil | apply d_nil | apply k_seq_n | apply k_seq_r | apply k_seq_x | apply k_blk_n | apply k_blk_r | apply k_blk_x | apply k_end_n | apply k_end_r | apply k_loop_x | apply k_loop_r | apply c_dreg1 | apply c_dreg2)
    | ((with_reducible first | apply op_gS | apply op_g0 | apply d_gS | apply d_g0); (focus (simp only [W0, reduceIte, Nat.reduceEqDiff, Nat.reduceAdd, Nat.reduceSub, Nat.reduceLeDiff, beq_self_eq_true, bne_self_eq_false, BEq.rfl]; rfl)); (with_reducible first | apply g_no | apply g_T | apply g_F); all_goals (try (intro hc; first | exact absurd hc (by decide) | subst hc | clear hc)))
    | ((with_reducible apply c_cond); (focus (simp only [W0, reduceIte, Nat.reduceEqDiff, Nat.reduceAdd, Nat.reduceSub, Nat.reduceLeDiff, beq_self_eq_true, bne_self_eq_false, BEq.rfl]; rfl)); all_goals (intro hc; first | exact absurd hc (by decide) | subst hc | clear hc))
    | ((with_reducible first | apply op_fcallb (f := 98) | apply d_fcallb (f := 98)); (focus ((try simp only [W0, reduceIte, Nat.reduceEqDiff, Nat.reduceAdd, Nat.reduceSub, Nat.reduceLeDiff, beq_self_eq_true, bne_self_eq_false, BEq.rfl]); exact f98 o ho hlm _ _)); intro c' hc'; all_goals (try rfl))
    | ((with_reducible first | apply op_fcall (f := 71) | apply d_fcall (f := 71)); (focus ((try simp only [W0, reduceIte, Nat.reduceEqDiff, Nat.reduceAdd, Nat.reduceSub, Nat.reduceLeDiff, beq_self_eq_true, bne_self_eq_false, BEq.rfl]); first | exact h71)); all_goals (try rfl))
    | ((with_reducible first | apply op_fcall (f := 53) | apply d_fcall (f := 53)); (focus ((try simp only [W0, reduceIte, Nat.reduceEqDiff, Nat.reduceAdd, Nat.reduceSub, Nat.reduceLeDiff, beq_self_eq_true, bne_self_eq_false, BEq.rfl]); first | exact f53 v hv)); all_goals (try rfl))
    | ((with_reducible first | apply op_fcall (f := 99) | apply d_fcall (f := 99)); (focus ((try simp only [W0, reduceIte, Nat.reduceEqDiff, Nat.reduceAdd, Nat.reduceSub, Nat.reduceLeDiff, beq_self_eq_true, bne_self_eq_false, BEq.rfl]); first | exact f99 v hv i hs)); all_goals (try rfl))
    | ((with_reducible first | apply op_isB | apply d_isV); (focus rfl); (focus (simp only [W0, reduceIte, Nat.reduceEqDiff, Nat.reduceAdd, Nat.reduceSub, Nat.reduceLeDiff, beq_self_eq_true, bne_self_eq_false, BEq.rfl]; rfl)); intro c' hc')
    | ((with_reducible first | apply op_step | apply op_step0 | apply d_ld | apply d_st | apply d_new | apply d_box | apply d_bsl | apply d_apw | apply d_apa | apply d_v); (focus (simp only [W0, reduceIte, Nat.reduceEqDiff, Nat.reduceAdd, Nat.reduceSub, Nat.reduceLeDiff, beq_self_eq_true, bne_self_eq_false, BEq.rfl]; rfl)); all_goals (try rfl))
  all_goals first | (exfalso; refine Bool.false_ne_true ?_; first | assumption | (symm; assumption)) | skip
  all_goals first | (((with_reducible apply ret_plain); (focus (simp only [W0, reduceIte, Nat.reduceEqDiff, Nat.reduceAdd, Nat.reduceSub, Nat.reduceLeDiff]; rfl)); (focus (simp [resV, idsV, idsL, slA_ids, ints_ids]))); exact ⟨[], by simp [resV, F1, frT, frL, thawV]⟩) | (exfalso; simp_all [putOK]; done) | (exfalso; simp_all [putOK] <;> omega)
end Go.Sk
