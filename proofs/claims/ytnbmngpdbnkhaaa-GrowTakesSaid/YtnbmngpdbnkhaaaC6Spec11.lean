/- Entries put into a log. Conditions: none. -/
import Derived.Test.YtnbmngpdbnkhaaaC6Spec10
import Derived.Test.YtnbmngpdbnkhaaaC6Own2
set_option linter.unusedVariables false
set_option linter.unusedSimpArgs false
set_option maxRecDepth 20000
set_option maxHeartbeats 8000000
namespace Go.Sk
open Go.Proofs.Try
/-- What a log comes to by entries behind its first a ones; none: it stays. -/
def putN (es : List (List AV)) : Nat → List (List AV) → Option (List (List AV))
  | _, [] => none
  | a, x :: xs => match es[a]? with
    | some e => if (ent66 e).f0 = (ent66 x).f0 then putN es (a + 1) xs else some (es.take a ++ x :: xs)
    | none => some (es.take a ++ x :: xs)
section
variable {es l : List (List AV)} {a k : Nat} {x e : V66}
theorem put_same (hx : l[k]? = some x.l) (he : es[a + k]? = some e.l) (h : e.f0 = x.f0) : putN es (a + k) (l.drop k) = putN es (a + (k + 1)) (l.drop (k + 1)) := by
  obtain ⟨hk, ex⟩ := List.getElem?_eq_some_iff.1 hx
  rw [List.drop_eq_getElem_cons hk, ex]
  simp only [putN, he]
  rw [if_pos (show (ent66 e.l).f0 = (ent66 x.l).f0 from h), Nat.add_assoc]
theorem put_diff (hx : l[k]? = some x.l) (he : es[a + k]? = some e.l) (h : e.f0 ≠ x.f0) : putN es (a + k) (l.drop k) = some (es.take (a + k) ++ l.drop k) := by
  obtain ⟨hk, ex⟩ := List.getElem?_eq_some_iff.1 hx
  rw [List.drop_eq_getElem_cons hk, ex]
  simp only [putN, he]
  rw [if_neg (show (ent66 e.l).f0 ≠ (ent66 x.l).f0 from h)]
theorem put_off (hx : l[k]? = some x.l) (he : es.length ≤ a + k) : putN es (a + k) (l.drop k) = some (es.take (a + k) ++ l.drop k) := by
  obtain ⟨hk, ex⟩ := List.getElem?_eq_some_iff.1 hx
  rw [List.drop_eq_getElem_cons hk, ex]
  simp only [putN, List.getElem?_eq_none he]
theorem put_end : putN es a (l.drop l.length) = none := by rw [List.drop_length]; rfl
end
theorem slA_none (e : Nat) : slA e none = .nil e := rfl
theorem slA_some (e : Nat) (l : List (List AV)) : slA e (some l) = .fz e l := rfl
theorem slL_some (l : List (List AV)) : slL (some l) = l := rfl
def putO (o : Option (List (List AV))) (a : Nat) (l : List (List AV)) : Option (List (List AV)) := match putN (slL o) a l with
  | none => o
  | some l' => some l'
/-- What a call makes, of a log and its snapshot. -/
def Made (H : List AV) (x5 x6 : Option (List (List AV))) (r : AV) (q : List Row) : Prop := match x5, x6 with
  | none, none => r = .tup [.agg (H ++ [.nil 5, .nil 66]), .int .i64 0] ∧ q = []
  | some b, none => r = .tup [.agg (H ++ [.sref 0 b.length, .nil 66]), .int .i64 0] ∧ q = [.vec 5 b]
  | none, some l => r = .tup [.agg (H ++ [.nil 5, .sref 0 l.length]), .int .i64 0] ∧ q = [.vec 66 l]
  | some b, some l => r = .tup [.agg (H ++ [.sref 0 b.length, .sref 1 l.length]), .int .i64 0] ∧ q = [.vec 5 b, .vec 66 l]
theorem putns (f0 f1 f2 f3 : Int) (f4 : V23) (es : List (List AV)) (hes : es.length ≤ 1000000) (hv : (V27.mk f0 f1 f2 f3 f4 (none) (some es)).ok) (i : Int) (o : Option (List (List AV))) (ho : ∀ us ∈ slL o, HasT prog 66 us) (hlo : (slL o).length ≤ 1000000) (hs : seen (V27.mk f0 f1 f2 f3 f4 (none) (some es)) i)
    (hh : hardF (V27.mk f0 f1 f2 f3 f4 (none) (some es)) = true) (hi1 : f2 ≤ i) (hi2 : i ≤ lastI es f2) (hr : rowF f0 (mx1 (termF (V27.mk f0 f1 f2 f3 f4 (none) (some es)) i)) (slL o) = true) (a : Nat) (ha : i - f2 = (a : Int)) (hae : a ≤ es.length) :
    CW prog 73 [.agg (V27.mk f0 f1 f2 f3 f4 (none) (some es)).l, .int .i64 i, slA 66 o] [] (Made [.int .i64 f0, .int .i64 f1, .int .i64 f2, .int .i64 f3, .int .i64 f4.f0, .int .i64 f4.f1, .int .i64 f4.f2, .int .i64 f4.f3] (none) (putO (some es) a (slL o))) := by
  have hlm : (slL o).length ≤ maxLen := Nat.le_trans hlo (by decide)
  have w0 : ∀ x : Int, -4611686018427387904 ≤ x → x ≤ 4611686018427387904 → IntKind.i64.wrap x = x := fun x a b => by simp [IntKind.wrap, IntKind.signed, IntKind.bits]; omega
  have w1 : IntKind.i64.wrap (i - f2) = (a : Int) := by rw [w0 _ (by omega) (by omega), ha]
  have d1 : decide (i < f2) = false := decide_eq_false (by omega)
  have d2 : decide (i > lastI es f2) = false := decide_eq_false (by omega)
  have h71 := f71 (V27.mk f0 f1 f2 f3 f4 (none) (some es)) hv
  rw [hh] at h71
  have h98 := f98 o ho hlm (termF (V27.mk f0 f1 f2 f3 f4 (none) (some es)) i) f0
  rw [hr] at h98
  have h53 := f53 (V27.mk f0 f1 f2 f3 f4 (none) (some es)) hv
  have h99 := f99 (V27.mk f0 f1 f2 f3 f4 (none) (some es)) hv i hs
  have h100 := f100 (V27.mk f0 f1 f2 f3 f4 (none) (some es)) (Nat.zero_le _) (Nat.le_trans hes (by decide)) 2
  simp only [twU, twR, V27.l, V23.l, slA_none, slA_some, slL_some, List.cons_append, List.nil_append, Nat.reduceAdd, reduceIte] at h71 h53 h99 h100
  refine trF_ok mixed t73 (by simp [m73]) (f_body ?_)
  simp only [m73, argEnv, List.length_nil, List.nil_append, List.cons_append, Nat.zero_add, V27.l, V23.l, slA_none, slA_some]
  repeat' first
    | (with_reducible first | apply c_seq | apply c_reg | apply c_dreg0 | apply c_block | apply c_ret | apply c_exit | apply c_skip | apply ops_nil | apply d_nil | apply k_seq_n | apply k_seq_r | apply k_seq_x | apply k_blk_n | apply k_blk_r | apply k_blk_x | apply k_end_n | apply k_end_r | apply k_loop_x | apply k_loop_r | apply c_dreg1 | apply c_dreg2)
    | ((with_reducible first | apply op_gS | apply op_g0 | apply d_gS | apply d_g0); (focus (simp only [W0, reduceIte, Nat.reduceEqDiff, Nat.reduceAdd, Nat.reduceSub, Nat.reduceLeDiff, d1, d2, Bool.not_true, beq_self_eq_true, bne_self_eq_false, BEq.rfl]; rfl)); (with_reducible first | apply g_no | apply g_T | apply g_F); all_goals (try (intro hc; first | exact absurd hc (by decide) | subst hc | clear hc)))
    | ((with_reducible apply c_cond); (focus (simp only [W0, reduceIte, Nat.reduceEqDiff, Nat.reduceAdd, Nat.reduceSub, Nat.reduceLeDiff, d1, d2, Bool.not_true, beq_self_eq_true, bne_self_eq_false, BEq.rfl]; rfl)); all_goals (intro hc; first | exact absurd hc (by decide) | subst hc | clear hc))
    | ((with_reducible first | apply op_cn (f := 100) | apply d_cn (f := 100)); (focus ((try simp only [W0, reduceIte, Nat.reduceEqDiff, Nat.reduceAdd, Nat.reduceSub, Nat.reduceLeDiff, d1, d2, Bool.not_true, beq_self_eq_true, bne_self_eq_false, BEq.rfl]); exact h100)); all_goals (try rfl))
    | ((with_reducible first | apply op_fcall (f := 71) | apply d_fcall (f := 71)); (focus ((try simp only [W0, reduceIte, Nat.reduceEqDiff, Nat.reduceAdd, Nat.reduceSub, Nat.reduceLeDiff, d1, d2, Bool.not_true, beq_self_eq_true, bne_self_eq_false, BEq.rfl]); first | exact h71)); all_goals (try rfl))
    | ((with_reducible first | apply op_fcall (f := 53) | apply d_fcall (f := 53)); (focus ((try simp only [W0, reduceIte, Nat.reduceEqDiff, Nat.reduceAdd, Nat.reduceSub, Nat.reduceLeDiff, d1, d2, Bool.not_true, beq_self_eq_true, bne_self_eq_false, BEq.rfl]); first | exact h53)); all_goals (try rfl))
    | ((with_reducible first | apply op_fcall (f := 99) | apply d_fcall (f := 99)); (focus ((try simp only [W0, reduceIte, Nat.reduceEqDiff, Nat.reduceAdd, Nat.reduceSub, Nat.reduceLeDiff, d1, d2, Bool.not_true, beq_self_eq_true, bne_self_eq_false, BEq.rfl]); first | exact h99)); all_goals (try rfl))
    | ((with_reducible first | apply op_fcall (f := 98) | apply d_fcall (f := 98)); (focus ((try simp only [W0, reduceIte, Nat.reduceEqDiff, Nat.reduceAdd, Nat.reduceSub, Nat.reduceLeDiff, d1, d2, Bool.not_true, beq_self_eq_true, bne_self_eq_false, BEq.rfl]); first | exact h98)); all_goals (try rfl))
    | ((with_reducible first | apply op_isB | apply d_isV); (focus rfl); (focus (simp only [W0, reduceIte, Nat.reduceEqDiff, Nat.reduceAdd, Nat.reduceSub, Nat.reduceLeDiff, d1, d2, Bool.not_true, beq_self_eq_true, bne_self_eq_false, BEq.rfl]; rfl)); intro c' hc')
    | ((with_reducible first | apply op_step | apply op_step0 | apply d_ld | apply d_st | apply d_new | apply d_box | apply d_bsl | apply d_apw | apply d_apa | apply d_v); (focus (simp only [W0, reduceIte, Nat.reduceEqDiff, Nat.reduceAdd, Nat.reduceSub, Nat.reduceLeDiff, d1, d2, Bool.not_true, beq_self_eq_true, bne_self_eq_false, BEq.rfl]; rfl)); all_goals (try rfl))
    | ((with_reducible apply k_blk_y); (focus decide))
    | ((with_reducible apply d_step); (focus ((with_reducible apply o_w); (focus rfl); (focus (simp only [stepOp, Opd.get, look, behind, skip, firsts, putAt, putParts, thawL, storeAt, loadR, widths, binV, intBin, idx, Option.bind, Option.map, reduceIte, Nat.reduceEqDiff, Nat.reduceAdd, Nat.reduceSub, Nat.reduceLeDiff, W1, d1, d2, Bool.not_true, beq_self_eq_true, bne_self_eq_false, BEq.rfl]; rfl)))))
  any_goals (exfalso; refine Bool.false_ne_true ?_; assumption)
  refine c_loop [1, 2, 3, 6, 7, 47, 48, 49] (fun n env rows => ∃ k : Nat, k ≤ (slL o).length ∧ n = (slL o).length - k ∧ env = [(1, .int .i64 i), (2, slA 66 o), (3, .ptr 0 0), (6, .ptr 1 0), (7, .int .i64 0), (47, slA 66 o), (48, .int .i64 ((slL o).length : Int)), (49, .int .i64 (k : Int))] ∧ rows = [Row.box 27 [.int .i64 f0, .int .i64 f1, .int .i64 f2, .int .i64 f3, .int .i64 f4.f0, .int .i64 f4.f1, .int .i64 f4.f2, .int .i64 f4.f3, .nil 5, .sref 2 es.length], Row.box 27 [.int .i64 0, .int .i64 0, .int .i64 0, .int .i64 0, .int .i64 0, .int .i64 0, .int .i64 0, .int .i64 0, .nil 5, .nil 66], Row.vec 66 es] ∧ a + k ≤ es.length ∧ putN es a (slL o) = putN es (a + k) ((slL o).drop k)) (slL o).length
    (back_take (k := 3) (Nat.zero_le _) (by simp) (by simp [look, idsL, idsV, slA_ids]) (by simp [idsR, idsL, idsV, slA_ids]) ⟨0, by omega, by omega, rfl, rfl, by omega, by simp⟩) ?_
  rintro n env rows ⟨k, hk, rfl, rfl, rfl, hak, hput⟩
  rcases Nat.lt_or_ge k (slL o).length with hk' | hk'
  · obtain ⟨l, rfl⟩ : ∃ l, o = some l := by
      cases o with
      | none => simp [slL] at hk'
      | some l => exact ⟨l, rfl⟩
    have hw := wrap_succ hk' hlm
    obtain ⟨x, hx, hxok⟩ := el66 ho hk'
    simp only [slL_some] at hk hk' hx hput hlo hw
    have w2 : IntKind.i64.wrap ((a : Int) + (k : Int)) = ((a + k : Nat) : Int) := w0 _ (by omega) (by omega)
    have p1 : (0 ≤ ((a + k : Nat) : Int)) = True := eq_true (by omega)
    have p2 : (((a + k : Nat) : Int) ≤ ((es.length : Nat) : Int)) = True := eq_true (by omega)
    have p3 : (0 ≤ (k : Int)) = True := eq_true (by omega)
    have p4 : ((k : Int) ≤ ((l.length : Nat) : Int)) = True := eq_true (by omega)
    have p7 : ((k : Int) < ((l.length : Nat) : Int)) = True := eq_true (by omega)
    have p5 : (a + k ≤ es.length) = True := eq_true hak
    have hdl : (l.drop k).length ≤ 1000000 := by rw [List.length_drop]; omega
    have p6 : (a + k + (l.drop k).length ≤ 925904528653) = True := eq_true (by omega)
    have hnew : (es.take (a + k) ++ l.drop k).length = a + k + (l.drop k).length := by rw [List.length_append, List.length_take, Nat.min_eq_left hak]
    rcases Nat.lt_or_ge (a + k) es.length with hin | hin
    · obtain ⟨e, he, heok⟩ := el66 (o := some es) hv.h6.1 hin
      have he' : es[a + k]? = some e.l := he
      have hidx : ∀ id, idxSV 66 (.sref id es.length) (.int .i64 ((a + k : Nat) : Int)) = some (.ptrE id 66 (a + k) 0) := fun id => by simp only [idxSV]; rw [idx_ok hin]; rfl
      have p8 : (((a + k : Nat) : Int) < ((es.length : Nat) : Int)) = True := eq_true (by omega)
      have d3 : decide (((a + k : Nat) : Int) < (es.length : Int)) = true := decide_eq_true (by omega)
      repeat' first
        | (with_reducible first | apply c_seq | apply c_reg | apply c_dreg0 | apply c_block | apply c_ret | apply c_exit | apply c_skip | apply ops_nil | apply d_nil | apply k_seq_n | apply k_seq_r | apply k_seq_x | apply k_blk_n | apply k_blk_r | apply k_blk_x | apply k_end_n | apply k_end_r | apply k_loop_x | apply k_loop_r | apply c_dreg1 | apply c_dreg2)
        | ((with_reducible first | apply op_gS | apply op_g0 | apply d_gS | apply d_g0); (focus (simp only [W0, reduceIte, Nat.reduceEqDiff, Nat.reduceAdd, Nat.reduceSub, Nat.reduceLeDiff, w1, w2, d3, p8, p7, hx, he', decide_true, beq_self_eq_true, bne_self_eq_false, BEq.rfl, V66.l, V64.l, V62.l, V60.l, V23.l, bound, appR, elems, p1, p2, p3, p4, p5, p6, true_and, Int.toNat_natCast, List.take_length, slA_some, slL_some]; rfl)); (with_reducible first | apply g_no | apply g_T | apply g_F); all_goals (try (intro hc; first | exact absurd hc (by decide) | subst hc | clear hc)))
        | ((with_reducible apply c_cond); (focus (simp only [W0, reduceIte, Nat.reduceEqDiff, Nat.reduceAdd, Nat.reduceSub, Nat.reduceLeDiff, w1, w2, d3, p8, p7, hx, he', decide_true, beq_self_eq_true, bne_self_eq_false, BEq.rfl, V66.l, V64.l, V62.l, V60.l, V23.l, bound, appR, elems, p1, p2, p3, p4, p5, p6, true_and, Int.toNat_natCast, List.take_length, slA_some, slL_some]; rfl)); all_goals (intro hc; first | exact absurd hc (by decide) | subst hc | clear hc))
        | ((with_reducible first | apply op_isB | apply d_isV); (focus rfl); (focus (simp only [W0, reduceIte, Nat.reduceEqDiff, Nat.reduceAdd, Nat.reduceSub, Nat.reduceLeDiff, w1, w2, d3, p8, p7, hx, he', decide_true, beq_self_eq_true, bne_self_eq_false, BEq.rfl, V66.l, V64.l, V62.l, V60.l, V23.l, bound, appR, elems, p1, p2, p3, p4, p5, p6, true_and, Int.toNat_natCast, List.take_length, slA_some, slL_some]; rfl)); intro c' hc')
        | ((with_reducible first | apply op_step | apply op_step0 | apply d_ld | apply d_st | apply d_new | apply d_box | apply d_bsl | apply d_apw | apply d_apa | apply d_v); (focus (simp only [W0, reduceIte, Nat.reduceEqDiff, Nat.reduceAdd, Nat.reduceSub, Nat.reduceLeDiff, w1, w2, d3, p8, p7, hx, he', decide_true, beq_self_eq_true, bne_self_eq_false, BEq.rfl, V66.l, V64.l, V62.l, V60.l, V23.l, bound, appR, elems, p1, p2, p3, p4, p5, p6, true_and, Int.toNat_natCast, List.take_length, slA_some, slL_some]; rfl)); all_goals (try rfl))
        | ((with_reducible apply k_blk_y); (focus decide))
        | ((with_reducible apply d_step); (focus ((with_reducible apply o_w); (focus rfl); (focus (simp only [stepOp, Opd.get, look, behind, skip, firsts, putAt, putParts, thawL, storeAt, loadR, widths, binV, intBin, idx, Option.bind, Option.map, reduceIte, Nat.reduceEqDiff, Nat.reduceAdd, Nat.reduceSub, Nat.reduceLeDiff, W1, w1, w2, d3, p8, p7, hx, he', decide_true, beq_self_eq_true, bne_self_eq_false, BEq.rfl, V66.l, V64.l, V62.l, V60.l, V23.l, bound, appR, elems, p1, p2, p3, p4, p5, p6, true_and, Int.toNat_natCast, List.take_length, slA_some, slL_some]; rfl)))))
      all_goals first | (exfalso; refine Bool.false_ne_true ?_; first | assumption | (symm; assumption)) | (exfalso; simp only [decide_eq_true_eq, decide_eq_false_iff_not] at *; omega) | skip
      · refine k_loop_n ((slL (some l)).length - (k + 1)) (by simp only [slL_some]; omega) (back_take (k := 3) (Nat.zero_le _) (by simp) (by simp [look, idsL, idsV, slA_ids]) (by simp [idsR, idsL, idsV, slA_ids]) ⟨k + 1, by simp only [slL_some]; omega, rfl, by simp only [look, List.map, Nat.reduceEqDiff, reduceIte, hw, slA_some, slL_some], rfl, by omega, ?_⟩)
        show putN es a l = putN es (a + (k + 1)) (l.drop (k + 1))
        rw [hput, put_same hx he' (by simpa using hc')]
      · have hpo : putO (some es) a (slL (some l)) = some (es.take (a + k) ++ l.drop k) := by
          show (match putN es a l with | none => some es | some l' => some l') = _
          rw [hput, put_diff hx he' (by simpa using hc')]
        rw [hpo]
        rw [← hnew]
        generalize es.take (a + k) ++ l.drop k = ne
        ((with_reducible apply ret_row 4); (focus (simp only [W0, reduceIte, Nat.reduceEqDiff, Nat.reduceAdd, Nat.reduceSub, Nat.reduceLeDiff]; rfl)); (focus rfl); (focus rfl); (focus (simp [resV, idsV, idsL])); (focus rfl))
        exact And.intro (by simp [resV, renV, renL, gcF_1]) rfl
    · have p8 : (((a + k : Nat) : Int) < ((es.length : Nat) : Int)) = False := eq_false (by omega)
      have d3 : decide (((a + k : Nat) : Int) < (es.length : Int)) = false := decide_eq_false (by omega)
      repeat' first
        | (with_reducible first | apply c_seq | apply c_reg | apply c_dreg0 | apply c_block | apply c_ret | apply c_exit | apply c_skip | apply ops_nil | apply d_nil | apply k_seq_n | apply k_seq_r | apply k_seq_x | apply k_blk_n | apply k_blk_r | apply k_blk_x | apply k_end_n | apply k_end_r | apply k_loop_x | apply k_loop_r | apply c_dreg1 | apply c_dreg2)
        | ((with_reducible first | apply op_gS | apply op_g0 | apply d_gS | apply d_g0); (focus (simp only [W0, reduceIte, Nat.reduceEqDiff, Nat.reduceAdd, Nat.reduceSub, Nat.reduceLeDiff, w1, w2, d3, p7, hx, decide_true, beq_self_eq_true, bne_self_eq_false, BEq.rfl, V66.l, V64.l, V62.l, V60.l, V23.l, bound, appR, elems, p1, p2, p3, p4, p5, p6, true_and, Int.toNat_natCast, List.take_length, slA_some, slL_some]; rfl)); (with_reducible first | apply g_no | apply g_T | apply g_F); all_goals (try (intro hc; first | exact absurd hc (by decide) | subst hc | clear hc)))
        | ((with_reducible apply c_cond); (focus (simp only [W0, reduceIte, Nat.reduceEqDiff, Nat.reduceAdd, Nat.reduceSub, Nat.reduceLeDiff, w1, w2, d3, p7, hx, decide_true, beq_self_eq_true, bne_self_eq_false, BEq.rfl, V66.l, V64.l, V62.l, V60.l, V23.l, bound, appR, elems, p1, p2, p3, p4, p5, p6, true_and, Int.toNat_natCast, List.take_length, slA_some, slL_some]; rfl)); all_goals (intro hc; first | exact absurd hc (by decide) | subst hc | clear hc))
        | ((with_reducible first | apply op_isB | apply d_isV); (focus rfl); (focus (simp only [W0, reduceIte, Nat.reduceEqDiff, Nat.reduceAdd, Nat.reduceSub, Nat.reduceLeDiff, w1, w2, d3, p7, hx, decide_true, beq_self_eq_true, bne_self_eq_false, BEq.rfl, V66.l, V64.l, V62.l, V60.l, V23.l, bound, appR, elems, p1, p2, p3, p4, p5, p6, true_and, Int.toNat_natCast, List.take_length, slA_some, slL_some]; rfl)); intro c' hc')
        | ((with_reducible first | apply op_step | apply op_step0 | apply d_ld | apply d_st | apply d_new | apply d_box | apply d_bsl | apply d_apw | apply d_apa | apply d_v); (focus (simp only [W0, reduceIte, Nat.reduceEqDiff, Nat.reduceAdd, Nat.reduceSub, Nat.reduceLeDiff, w1, w2, d3, p7, hx, decide_true, beq_self_eq_true, bne_self_eq_false, BEq.rfl, V66.l, V64.l, V62.l, V60.l, V23.l, bound, appR, elems, p1, p2, p3, p4, p5, p6, true_and, Int.toNat_natCast, List.take_length, slA_some, slL_some]; rfl)); all_goals (try rfl))
        | ((with_reducible apply k_blk_y); (focus decide))
        | ((with_reducible apply d_step); (focus ((with_reducible apply o_w); (focus rfl); (focus (simp only [stepOp, Opd.get, look, behind, skip, firsts, putAt, putParts, thawL, storeAt, loadR, widths, binV, intBin, idx, Option.bind, Option.map, reduceIte, Nat.reduceEqDiff, Nat.reduceAdd, Nat.reduceSub, Nat.reduceLeDiff, W1, w1, w2, d3, p7, hx, decide_true, beq_self_eq_true, bne_self_eq_false, BEq.rfl, V66.l, V64.l, V62.l, V60.l, V23.l, bound, appR, elems, p1, p2, p3, p4, p5, p6, true_and, Int.toNat_natCast, List.take_length, slA_some, slL_some]; rfl)))))
      all_goals first | (exfalso; refine Bool.false_ne_true ?_; first | assumption | (symm; assumption)) | (exfalso; simp only [decide_eq_true_eq, decide_eq_false_iff_not] at *; omega) | skip
      · have hpo : putO (some es) a (slL (some l)) = some (es.take (a + k) ++ l.drop k) := by
          show (match putN es a l with | none => some es | some l' => some l') = _
          rw [hput, put_off hx hin]
        rw [hpo]
        rw [← hnew]
        generalize es.take (a + k) ++ l.drop k = ne
        ((with_reducible apply ret_row 4); (focus (simp only [W0, reduceIte, Nat.reduceEqDiff, Nat.reduceAdd, Nat.reduceSub, Nat.reduceLeDiff]; rfl)); (focus rfl); (focus rfl); (focus (simp [resV, idsV, idsL])); (focus rfl))
        exact And.intro (by simp [resV, renV, renL, gcF_1]) rfl
  · obtain rfl : k = (slL o).length := by omega
    have hpo : putO (some es) a (slL o) = some es := by
      show (match putN es a (slL o) with | none => some es | some l' => some l') = _
      rw [hput, put_end]
    rw [hpo]
    repeat' first
      | (with_reducible first | apply c_seq | apply c_reg | apply c_dreg0 | apply c_block | apply c_ret | apply c_exit | apply c_skip | apply ops_nil | apply d_nil | apply k_seq_n | apply k_seq_r | apply k_seq_x | apply k_blk_n | apply k_blk_r | apply k_blk_x | apply k_end_n | apply k_end_r | apply k_loop_x | apply k_loop_r | apply c_dreg1 | apply c_dreg2)
      | ((with_reducible first | apply op_gS | apply op_g0 | apply d_gS | apply d_g0); (focus (simp only [W0, reduceIte, Nat.reduceEqDiff, Nat.reduceAdd, Nat.reduceSub, Nat.reduceLeDiff]; rfl)); (with_reducible first | apply g_no | apply g_T | apply g_F); all_goals (try (intro hc; first | exact absurd hc (by decide) | subst hc | clear hc)))
      | ((with_reducible apply c_cond); (focus (simp only [W0, reduceIte, Nat.reduceEqDiff, Nat.reduceAdd, Nat.reduceSub, Nat.reduceLeDiff]; rfl)); all_goals (intro hc; first | exact absurd hc (by decide) | subst hc | clear hc))
      | ((with_reducible first | apply op_isB | apply d_isV); (focus rfl); (focus (simp only [W0, reduceIte, Nat.reduceEqDiff, Nat.reduceAdd, Nat.reduceSub, Nat.reduceLeDiff]; rfl)); intro c' hc')
      | ((with_reducible first | apply op_step | apply op_step0 | apply d_ld | apply d_st | apply d_new | apply d_box | apply d_bsl | apply d_apw | apply d_apa | apply d_v); (focus (simp only [W0, reduceIte, Nat.reduceEqDiff, Nat.reduceAdd, Nat.reduceSub, Nat.reduceLeDiff]; rfl)); all_goals (try rfl))
      | ((with_reducible apply k_blk_y); (focus decide))
      | ((with_reducible apply d_step); (focus ((with_reducible apply o_w); (focus rfl); (focus (simp only [stepOp, Opd.get, look, behind, skip, firsts, putAt, putParts, thawL, storeAt, loadR, widths, binV, intBin, idx, Option.bind, Option.map, reduceIte, Nat.reduceEqDiff, Nat.reduceAdd, Nat.reduceSub, Nat.reduceLeDiff, W1]; rfl)))))
    all_goals first | (exfalso; refine Bool.false_ne_true ?_; first | assumption | (symm; assumption)) | (exfalso; simp only [decide_eq_true_eq, decide_eq_false_iff_not] at *; omega) | skip
    · ((with_reducible apply ret_row 2); (focus (simp only [W0, reduceIte, Nat.reduceEqDiff, Nat.reduceAdd, Nat.reduceSub, Nat.reduceLeDiff]; rfl)); (focus rfl); (focus rfl); (focus (simp [resV, idsV, idsL])); (focus rfl))
      exact And.intro (by simp [resV, renV, renL, gcF_1]) rfl
theorem putss (f0 f1 f2 f3 : Int) (f4 : V23) (b5 : List (List AV)) (hb5 : b5.length ≤ 140737488355328) (es : List (List AV)) (hes : es.length ≤ 1000000) (hv : (V27.mk f0 f1 f2 f3 f4 (some b5) (some es)).ok) (i : Int) (o : Option (List (List AV))) (ho : ∀ us ∈ slL o, HasT prog 66 us) (hlo : (slL o).length ≤ 1000000) (hs : seen (V27.mk f0 f1 f2 f3 f4 (some b5) (some es)) i)
    (hh : hardF (V27.mk f0 f1 f2 f3 f4 (some b5) (some es)) = true) (hi1 : f2 ≤ i) (hi2 : i ≤ lastI es f2) (hr : rowF f0 (mx1 (termF (V27.mk f0 f1 f2 f3 f4 (some b5) (some es)) i)) (slL o) = true) (a : Nat) (ha : i - f2 = (a : Int)) (hae : a ≤ es.length) :
    CW prog 73 [.agg (V27.mk f0 f1 f2 f3 f4 (some b5) (some es)).l, .int .i64 i, slA 66 o] [] (Made [.int .i64 f0, .int .i64 f1, .int .i64 f2, .int .i64 f3, .int .i64 f4.f0, .int .i64 f4.f1, .int .i64 f4.f2, .int .i64 f4.f3] (some b5) (putO (some es) a (slL o))) := by
  have hlm : (slL o).length ≤ maxLen := Nat.le_trans hlo (by decide)
  have w0 : ∀ x : Int, -4611686018427387904 ≤ x → x ≤ 4611686018427387904 → IntKind.i64.wrap x = x := fun x a b => by simp [IntKind.wrap, IntKind.signed, IntKind.bits]; omega
  have w1 : IntKind.i64.wrap (i - f2) = (a : Int) := by rw [w0 _ (by omega) (by omega), ha]
  have d1 : decide (i < f2) = false := decide_eq_false (by omega)
  have d2 : decide (i > lastI es f2) = false := decide_eq_false (by omega)
  have h71 := f71 (V27.mk f0 f1 f2 f3 f4 (some b5) (some es)) hv
  rw [hh] at h71
  have h98 := f98 o ho hlm (termF (V27.mk f0 f1 f2 f3 f4 (some b5) (some es)) i) f0
  rw [hr] at h98
  have h53 := f53 (V27.mk f0 f1 f2 f3 f4 (some b5) (some es)) hv
  have h99 := f99 (V27.mk f0 f1 f2 f3 f4 (some b5) (some es)) hv i hs
  have h100 := f100 (V27.mk f0 f1 f2 f3 f4 (some b5) (some es)) hb5 (Nat.le_trans hes (by decide)) 2
  simp only [twU, twR, V27.l, V23.l, slA_none, slA_some, slL_some, List.cons_append, List.nil_append, Nat.reduceAdd, reduceIte] at h71 h53 h99 h100
  refine trF_ok mixed t73 (by simp [m73]) (f_body ?_)
  simp only [m73, argEnv, List.length_nil, List.nil_append, List.cons_append, Nat.zero_add, V27.l, V23.l, slA_none, slA_some]
  repeat' first
    | (with_reducible first | apply c_seq | apply c_reg | apply c_dreg0 | apply c_block | apply c_ret | apply c_exit | apply c_skip | apply ops_nil | apply d_nil | apply k_seq_n | apply k_seq_r | apply k_seq_x | apply k_blk_n | apply k_blk_r | apply k_blk_x | apply k_end_n | apply k_end_r | apply k_loop_x | apply k_loop_r | apply c_dreg1 | apply c_dreg2)
    | ((with_reducible first | apply op_gS | apply op_g0 | apply d_gS | apply d_g0); (focus (simp only [W0, reduceIte, Nat.reduceEqDiff, Nat.reduceAdd, Nat.reduceSub, Nat.reduceLeDiff, d1, d2, Bool.not_true, beq_self_eq_true, bne_self_eq_false, BEq.rfl]; rfl)); (with_reducible first | apply g_no | apply g_T | apply g_F); all_goals (try (intro hc; first | exact absurd hc (by decide) | subst hc | clear hc)))
    | ((with_reducible apply c_cond); (focus (simp only [W0, reduceIte, Nat.reduceEqDiff, Nat.reduceAdd, Nat.reduceSub, Nat.reduceLeDiff, d1, d2, Bool.not_true, beq_self_eq_true, bne_self_eq_false, BEq.rfl]; rfl)); all_goals (intro hc; first | exact absurd hc (by decide) | subst hc | clear hc))
    | ((with_reducible first | apply op_cn (f := 100) | apply d_cn (f := 100)); (focus ((try simp only [W0, reduceIte, Nat.reduceEqDiff, Nat.reduceAdd, Nat.reduceSub, Nat.reduceLeDiff, d1, d2, Bool.not_true, beq_self_eq_true, bne_self_eq_false, BEq.rfl]); exact h100)); all_goals (try rfl))
    | ((with_reducible first | apply op_fcall (f := 71) | apply d_fcall (f := 71)); (focus ((try simp only [W0, reduceIte, Nat.reduceEqDiff, Nat.reduceAdd, Nat.reduceSub, Nat.reduceLeDiff, d1, d2, Bool.not_true, beq_self_eq_true, bne_self_eq_false, BEq.rfl]); first | exact h71)); all_goals (try rfl))
    | ((with_reducible first | apply op_fcall (f := 53) | apply d_fcall (f := 53)); (focus ((try simp only [W0, reduceIte, Nat.reduceEqDiff, Nat.reduceAdd, Nat.reduceSub, Nat.reduceLeDiff, d1, d2, Bool.not_true, beq_self_eq_true, bne_self_eq_false, BEq.rfl]); first | exact h53)); all_goals (try rfl))
    | ((with_reducible first | apply op_fcall (f := 99) | apply d_fcall (f := 99)); (focus ((try simp only [W0, reduceIte, Nat.reduceEqDiff, Nat.reduceAdd, Nat.reduceSub, Nat.reduceLeDiff, d1, d2, Bool.not_true, beq_self_eq_true, bne_self_eq_false, BEq.rfl]); first | exact h99)); all_goals (try rfl))
    | ((with_reducible first | apply op_fcall (f := 98) | apply d_fcall (f := 98)); (focus ((try simp only [W0, reduceIte, Nat.reduceEqDiff, Nat.reduceAdd, Nat.reduceSub, Nat.reduceLeDiff, d1, d2, Bool.not_true, beq_self_eq_true, bne_self_eq_false, BEq.rfl]); first | exact h98)); all_goals (try rfl))
    | ((with_reducible first | apply op_isB | apply d_isV); (focus rfl); (focus (simp only [W0, reduceIte, Nat.reduceEqDiff, Nat.reduceAdd, Nat.reduceSub, Nat.reduceLeDiff, d1, d2, Bool.not_true, beq_self_eq_true, bne_self_eq_false, BEq.rfl]; rfl)); intro c' hc')
    | ((with_reducible first | apply op_step | apply op_step0 | apply d_ld | apply d_st | apply d_new | apply d_box | apply d_bsl | apply d_apw | apply d_apa | apply d_v); (focus (simp only [W0, reduceIte, Nat.reduceEqDiff, Nat.reduceAdd, Nat.reduceSub, Nat.reduceLeDiff, d1, d2, Bool.not_true, beq_self_eq_true, bne_self_eq_false, BEq.rfl]; rfl)); all_goals (try rfl))
    | ((with_reducible apply k_blk_y); (focus decide))
    | ((with_reducible apply d_step); (focus ((with_reducible apply o_w); (focus rfl); (focus (simp only [stepOp, Opd.get, look, behind, skip, firsts, putAt, putParts, thawL, storeAt, loadR, widths, binV, intBin, idx, Option.bind, Option.map, reduceIte, Nat.reduceEqDiff, Nat.reduceAdd, Nat.reduceSub, Nat.reduceLeDiff, W1, d1, d2, Bool.not_true, beq_self_eq_true, bne_self_eq_false, BEq.rfl]; rfl)))))
  any_goals (exfalso; refine Bool.false_ne_true ?_; assumption)
  refine c_loop [1, 2, 3, 6, 7, 47, 48, 49] (fun n env rows => ∃ k : Nat, k ≤ (slL o).length ∧ n = (slL o).length - k ∧ env = [(1, .int .i64 i), (2, slA 66 o), (3, .ptr 0 0), (6, .ptr 1 0), (7, .int .i64 0), (47, slA 66 o), (48, .int .i64 ((slL o).length : Int)), (49, .int .i64 (k : Int))] ∧ rows = [Row.box 27 [.int .i64 f0, .int .i64 f1, .int .i64 f2, .int .i64 f3, .int .i64 f4.f0, .int .i64 f4.f1, .int .i64 f4.f2, .int .i64 f4.f3, .sref 2 b5.length, .sref 3 es.length], Row.box 27 [.int .i64 0, .int .i64 0, .int .i64 0, .int .i64 0, .int .i64 0, .int .i64 0, .int .i64 0, .int .i64 0, .nil 5, .nil 66], Row.vec 5 b5, Row.vec 66 es] ∧ a + k ≤ es.length ∧ putN es a (slL o) = putN es (a + k) ((slL o).drop k)) (slL o).length
    (back_take (k := 4) (Nat.zero_le _) (by simp) (by simp [look, idsL, idsV, slA_ids]) (by simp [idsR, idsL, idsV, slA_ids]) ⟨0, by omega, by omega, rfl, rfl, by omega, by simp⟩) ?_
  rintro n env rows ⟨k, hk, rfl, rfl, rfl, hak, hput⟩
  rcases Nat.lt_or_ge k (slL o).length with hk' | hk'
  · obtain ⟨l, rfl⟩ : ∃ l, o = some l := by
      cases o with
      | none => simp [slL] at hk'
      | some l => exact ⟨l, rfl⟩
    have hw := wrap_succ hk' hlm
    obtain ⟨x, hx, hxok⟩ := el66 ho hk'
    simp only [slL_some] at hk hk' hx hput hlo hw
    have w2 : IntKind.i64.wrap ((a : Int) + (k : Int)) = ((a + k : Nat) : Int) := w0 _ (by omega) (by omega)
    have p1 : (0 ≤ ((a + k : Nat) : Int)) = True := eq_true (by omega)
    have p2 : (((a + k : Nat) : Int) ≤ ((es.length : Nat) : Int)) = True := eq_true (by omega)
    have p3 : (0 ≤ (k : Int)) = True := eq_true (by omega)
    have p4 : ((k : Int) ≤ ((l.length : Nat) : Int)) = True := eq_true (by omega)
    have p7 : ((k : Int) < ((l.length : Nat) : Int)) = True := eq_true (by omega)
    have p5 : (a + k ≤ es.length) = True := eq_true hak
    have hdl : (l.drop k).length ≤ 1000000 := by rw [List.length_drop]; omega
    have p6 : (a + k + (l.drop k).length ≤ 925904528653) = True := eq_true (by omega)
    have hnew : (es.take (a + k) ++ l.drop k).length = a + k + (l.drop k).length := by rw [List.length_append, List.length_take, Nat.min_eq_left hak]
    rcases Nat.lt_or_ge (a + k) es.length with hin | hin
    · obtain ⟨e, he, heok⟩ := el66 (o := some es) hv.h6.1 hin
      have he' : es[a + k]? = some e.l := he
      have hidx : ∀ id, idxSV 66 (.sref id es.length) (.int .i64 ((a + k : Nat) : Int)) = some (.ptrE id 66 (a + k) 0) := fun id => by simp only [idxSV]; rw [idx_ok hin]; rfl
      have p8 : (((a + k : Nat) : Int) < ((es.length : Nat) : Int)) = True := eq_true (by omega)
      have d3 : decide (((a + k : Nat) : Int) < (es.length : Int)) = true := decide_eq_true (by omega)
      repeat' first
        | (with_reducible first | apply c_seq | apply c_reg | apply c_dreg0 | apply c_block | apply c_ret | apply c_exit | apply c_skip | apply ops_nil | apply d_nil | apply k_seq_n | apply k_seq_r | apply k_seq_x | apply k_blk_n | apply k_blk_r | apply k_blk_x | apply k_end_n | apply k_end_r | apply k_loop_x | apply k_loop_r | apply c_dreg1 | apply c_dreg2)
        | ((with_reducible first | apply op_gS | apply op_g0 | apply d_gS | apply d_g0); (focus (simp only [W0, reduceIte, Nat.reduceEqDiff, Nat.reduceAdd, Nat.reduceSub, Nat.reduceLeDiff, w1, w2, d3, p8, p7, hx, he', decide_true, beq_self_eq_true, bne_self_eq_false, BEq.rfl, V66.l, V64.l, V62.l, V60.l, V23.l, bound, appR, elems, p1, p2, p3, p4, p5, p6, true_and, Int.toNat_natCast, List.take_length, slA_some, slL_some]; rfl)); (with_reducible first | apply g_no | apply g_T | apply g_F); all_goals (try (intro hc; first | exact absurd hc (by decide) | subst hc | clear hc)))
        | ((with_reducible apply c_cond); (focus (simp only [W0, reduceIte, Nat.reduceEqDiff, Nat.reduceAdd, Nat.reduceSub, Nat.reduceLeDiff, w1, w2, d3, p8, p7, hx, he', decide_true, beq_self_eq_true, bne_self_eq_false, BEq.rfl, V66.l, V64.l, V62.l, V60.l, V23.l, bound, appR, elems, p1, p2, p3, p4, p5, p6, true_and, Int.toNat_natCast, List.take_length, slA_some, slL_some]; rfl)); all_goals (intro hc; first | exact absurd hc (by decide) | subst hc | clear hc))
        | ((with_reducible first | apply op_isB | apply d_isV); (focus rfl); (focus (simp only [W0, reduceIte, Nat.reduceEqDiff, Nat.reduceAdd, Nat.reduceSub, Nat.reduceLeDiff, w1, w2, d3, p8, p7, hx, he', decide_true, beq_self_eq_true, bne_self_eq_false, BEq.rfl, V66.l, V64.l, V62.l, V60.l, V23.l, bound, appR, elems, p1, p2, p3, p4, p5, p6, true_and, Int.toNat_natCast, List.take_length, slA_some, slL_some]; rfl)); intro c' hc')
        | ((with_reducible first | apply op_step | apply op_step0 | apply d_ld | apply d_st | apply d_new | apply d_box | apply d_bsl | apply d_apw | apply d_apa | apply d_v); (focus (simp only [W0, reduceIte, Nat.reduceEqDiff, Nat.reduceAdd, Nat.reduceSub, Nat.reduceLeDiff, w1, w2, d3, p8, p7, hx, he', decide_true, beq_self_eq_true, bne_self_eq_false, BEq.rfl, V66.l, V64.l, V62.l, V60.l, V23.l, bound, appR, elems, p1, p2, p3, p4, p5, p6, true_and, Int.toNat_natCast, List.take_length, slA_some, slL_some]; rfl)); all_goals (try rfl))
        | ((with_reducible apply k_blk_y); (focus decide))
        | ((with_reducible apply d_step); (focus ((with_reducible apply o_w); (focus rfl); (focus (simp only [stepOp, Opd.get, look, behind, skip, firsts, putAt, putParts, thawL, storeAt, loadR, widths, binV, intBin, idx, Option.bind, Option.map, reduceIte, Nat.reduceEqDiff, Nat.reduceAdd, Nat.reduceSub, Nat.reduceLeDiff, W1, w1, w2, d3, p8, p7, hx, he', decide_true, beq_self_eq_true, bne_self_eq_false, BEq.rfl, V66.l, V64.l, V62.l, V60.l, V23.l, bound, appR, elems, p1, p2, p3, p4, p5, p6, true_and, Int.toNat_natCast, List.take_length, slA_some, slL_some]; rfl)))))
      all_goals first | (exfalso; refine Bool.false_ne_true ?_; first | assumption | (symm; assumption)) | (exfalso; simp only [decide_eq_true_eq, decide_eq_false_iff_not] at *; omega) | skip
      · refine k_loop_n ((slL (some l)).length - (k + 1)) (by simp only [slL_some]; omega) (back_take (k := 4) (Nat.zero_le _) (by simp) (by simp [look, idsL, idsV, slA_ids]) (by simp [idsR, idsL, idsV, slA_ids]) ⟨k + 1, by simp only [slL_some]; omega, rfl, by simp only [look, List.map, Nat.reduceEqDiff, reduceIte, hw, slA_some, slL_some], rfl, by omega, ?_⟩)
        show putN es a l = putN es (a + (k + 1)) (l.drop (k + 1))
        rw [hput, put_same hx he' (by simpa using hc')]
      · have hpo : putO (some es) a (slL (some l)) = some (es.take (a + k) ++ l.drop k) := by
          show (match putN es a l with | none => some es | some l' => some l') = _
          rw [hput, put_diff hx he' (by simpa using hc')]
        rw [hpo]
        rw [← hnew]
        generalize es.take (a + k) ++ l.drop k = ne
        ((with_reducible apply ret_two 2 5); (focus (simp only [W0, reduceIte, Nat.reduceEqDiff, Nat.reduceAdd, Nat.reduceSub, Nat.reduceLeDiff]; rfl)); (focus rfl); (focus rfl); (focus decide); (focus rfl); (focus rfl); (focus (simp [resV, idsV, idsL])); (focus rfl); (focus rfl))
        exact And.intro (by simp [resV, renV, renL, gcF_l, gcF_r]) rfl
    · have p8 : (((a + k : Nat) : Int) < ((es.length : Nat) : Int)) = False := eq_false (by omega)
      have d3 : decide (((a + k : Nat) : Int) < (es.length : Int)) = false := decide_eq_false (by omega)
      repeat' first
        | (with_reducible first | apply c_seq | apply c_reg | apply c_dreg0 | apply c_block | apply c_ret | apply c_exit | apply c_skip | apply ops_nil | apply d_nil | apply k_seq_n | apply k_seq_r | apply k_seq_x | apply k_blk_n | apply k_blk_r | apply k_blk_x | apply k_end_n | apply k_end_r | apply k_loop_x | apply k_loop_r | apply c_dreg1 | apply c_dreg2)
        | ((with_reducible first | apply op_gS | apply op_g0 | apply d_gS | apply d_g0); (focus (simp only [W0, reduceIte, Nat.reduceEqDiff, Nat.reduceAdd, Nat.reduceSub, Nat.reduceLeDiff, w1, w2, d3, p7, hx, decide_true, beq_self_eq_true, bne_self_eq_false, BEq.rfl, V66.l, V64.l, V62.l, V60.l, V23.l, bound, appR, elems, p1, p2, p3, p4, p5, p6, true_and, Int.toNat_natCast, List.take_length, slA_some, slL_some]; rfl)); (with_reducible first | apply g_no | apply g_T | apply g_F); all_goals (try (intro hc; first | exact absurd hc (by decide) | subst hc | clear hc)))
        | ((with_reducible apply c_cond); (focus (simp only [W0, reduceIte, Nat.reduceEqDiff, Nat.reduceAdd, Nat.reduceSub, Nat.reduceLeDiff, w1, w2, d3, p7, hx, decide_true, beq_self_eq_true, bne_self_eq_false, BEq.rfl, V66.l, V64.l, V62.l, V60.l, V23.l, bound, appR, elems, p1, p2, p3, p4, p5, p6, true_and, Int.toNat_natCast, List.take_length, slA_some, slL_some]; rfl)); all_goals (intro hc; first | exact absurd hc (by decide) | subst hc | clear hc))
        | ((with_reducible first | apply op_isB | apply d_isV); (focus rfl); (focus (simp only [W0, reduceIte, Nat.reduceEqDiff, Nat.reduceAdd, Nat.reduceSub, Nat.reduceLeDiff, w1, w2, d3, p7, hx, decide_true, beq_self_eq_true, bne_self_eq_false, BEq.rfl, V66.l, V64.l, V62.l, V60.l, V23.l, bound, appR, elems, p1, p2, p3, p4, p5, p6, true_and, Int.toNat_natCast, List.take_length, slA_some, slL_some]; rfl)); intro c' hc')
        | ((with_reducible first | apply op_step | apply op_step0 | apply d_ld | apply d_st | apply d_new | apply d_box | apply d_bsl | apply d_apw | apply d_apa | apply d_v); (focus (simp only [W0, reduceIte, Nat.reduceEqDiff, Nat.reduceAdd, Nat.reduceSub, Nat.reduceLeDiff, w1, w2, d3, p7, hx, decide_true, beq_self_eq_true, bne_self_eq_false, BEq.rfl, V66.l, V64.l, V62.l, V60.l, V23.l, bound, appR, elems, p1, p2, p3, p4, p5, p6, true_and, Int.toNat_natCast, List.take_length, slA_some, slL_some]; rfl)); all_goals (try rfl))
        | ((with_reducible apply k_blk_y); (focus decide))
        | ((with_reducible apply d_step); (focus ((with_reducible apply o_w); (focus rfl); (focus (simp only [stepOp, Opd.get, look, behind, skip, firsts, putAt, putParts, thawL, storeAt, loadR, widths, binV, intBin, idx, Option.bind, Option.map, reduceIte, Nat.reduceEqDiff, Nat.reduceAdd, Nat.reduceSub, Nat.reduceLeDiff, W1, w1, w2, d3, p7, hx, decide_true, beq_self_eq_true, bne_self_eq_false, BEq.rfl, V66.l, V64.l, V62.l, V60.l, V23.l, bound, appR, elems, p1, p2, p3, p4, p5, p6, true_and, Int.toNat_natCast, List.take_length, slA_some, slL_some]; rfl)))))
      all_goals first | (exfalso; refine Bool.false_ne_true ?_; first | assumption | (symm; assumption)) | (exfalso; simp only [decide_eq_true_eq, decide_eq_false_iff_not] at *; omega) | skip
      · have hpo : putO (some es) a (slL (some l)) = some (es.take (a + k) ++ l.drop k) := by
          show (match putN es a l with | none => some es | some l' => some l') = _
          rw [hput, put_off hx hin]
        rw [hpo]
        rw [← hnew]
        generalize es.take (a + k) ++ l.drop k = ne
        ((with_reducible apply ret_two 2 5); (focus (simp only [W0, reduceIte, Nat.reduceEqDiff, Nat.reduceAdd, Nat.reduceSub, Nat.reduceLeDiff]; rfl)); (focus rfl); (focus rfl); (focus decide); (focus rfl); (focus rfl); (focus (simp [resV, idsV, idsL])); (focus rfl); (focus rfl))
        exact And.intro (by simp [resV, renV, renL, gcF_l, gcF_r]) rfl
  · obtain rfl : k = (slL o).length := by omega
    have hpo : putO (some es) a (slL o) = some es := by
      show (match putN es a (slL o) with | none => some es | some l' => some l') = _
      rw [hput, put_end]
    rw [hpo]
    repeat' first
      | (with_reducible first | apply c_seq | apply c_reg | apply c_dreg0 | apply c_block | apply c_ret | apply c_exit | apply c_skip | apply ops_nil | apply d_nil | apply k_seq_n | apply k_seq_r | apply k_seq_x | apply k_blk_n | apply k_blk_r | apply k_blk_x | apply k_end_n | apply k_end_r | apply k_loop_x | apply k_loop_r | apply c_dreg1 | apply c_dreg2)
      | ((with_reducible first | apply op_gS | apply op_g0 | apply d_gS | apply d_g0); (focus (simp only [W0, reduceIte, Nat.reduceEqDiff, Nat.reduceAdd, Nat.reduceSub, Nat.reduceLeDiff]; rfl)); (with_reducible first | apply g_no | apply g_T | apply g_F); all_goals (try (intro hc; first | exact absurd hc (by decide) | subst hc | clear hc)))
      | ((with_reducible apply c_cond); (focus (simp only [W0, reduceIte, Nat.reduceEqDiff, Nat.reduceAdd, Nat.reduceSub, Nat.reduceLeDiff]; rfl)); all_goals (intro hc; first | exact absurd hc (by decide) | subst hc | clear hc))
      | ((with_reducible first | apply op_isB | apply d_isV); (focus rfl); (focus (simp only [W0, reduceIte, Nat.reduceEqDiff, Nat.reduceAdd, Nat.reduceSub, Nat.reduceLeDiff]; rfl)); intro c' hc')
      | ((with_reducible first | apply op_step | apply op_step0 | apply d_ld | apply d_st | apply d_new | apply d_box | apply d_bsl | apply d_apw | apply d_apa | apply d_v); (focus (simp only [W0, reduceIte, Nat.reduceEqDiff, Nat.reduceAdd, Nat.reduceSub, Nat.reduceLeDiff]; rfl)); all_goals (try rfl))
      | ((with_reducible apply k_blk_y); (focus decide))
      | ((with_reducible apply d_step); (focus ((with_reducible apply o_w); (focus rfl); (focus (simp only [stepOp, Opd.get, look, behind, skip, firsts, putAt, putParts, thawL, storeAt, loadR, widths, binV, intBin, idx, Option.bind, Option.map, reduceIte, Nat.reduceEqDiff, Nat.reduceAdd, Nat.reduceSub, Nat.reduceLeDiff, W1]; rfl)))))
    all_goals first | (exfalso; refine Bool.false_ne_true ?_; first | assumption | (symm; assumption)) | (exfalso; simp only [decide_eq_true_eq, decide_eq_false_iff_not] at *; omega) | skip
    · ((with_reducible apply ret_two 2 3); (focus (simp only [W0, reduceIte, Nat.reduceEqDiff, Nat.reduceAdd, Nat.reduceSub, Nat.reduceLeDiff]; rfl)); (focus rfl); (focus rfl); (focus decide); (focus rfl); (focus rfl); (focus (simp [resV, idsV, idsL])); (focus rfl); (focus rfl))
      exact And.intro (by simp [resV, renV, renL, gcF_l, gcF_r]) rfl
theorem putnn (f0 f1 f2 f3 : Int) (f4 : V23) (hv : (V27.mk f0 f1 f2 f3 f4 (none) none).ok) (i : Int) (o : Option (List (List AV))) (ho : ∀ us ∈ slL o, HasT prog 66 us) (hlo : (slL o).length ≤ 1000000) (hs : seen (V27.mk f0 f1 f2 f3 f4 (none) none) i)
    (hh : hardF (V27.mk f0 f1 f2 f3 f4 (none) none) = true) (hi1 : f2 ≤ i) (hi2 : i ≤ lastI [] f2) (hr : rowF f0 (mx1 (termF (V27.mk f0 f1 f2 f3 f4 (none) none) i)) (slL o) = true) (ha : i - f2 = 0) :
    CW prog 73 [.agg (V27.mk f0 f1 f2 f3 f4 (none) none).l, .int .i64 i, slA 66 o] [] (Made [.int .i64 f0, .int .i64 f1, .int .i64 f2, .int .i64 f3, .int .i64 f4.f0, .int .i64 f4.f1, .int .i64 f4.f2, .int .i64 f4.f3] (none) (putO none 0 (slL o))) := by
  have hlm : (slL o).length ≤ maxLen := Nat.le_trans hlo (by decide)
  have w0 : ∀ x : Int, -4611686018427387904 ≤ x → x ≤ 4611686018427387904 → IntKind.i64.wrap x = x := fun x a b => by simp [IntKind.wrap, IntKind.signed, IntKind.bits]; omega
  have w1 : IntKind.i64.wrap (i - f2) = 0 := by rw [w0 _ (by omega) (by omega), ha]
  have d1 : decide (i < f2) = false := decide_eq_false (by omega)
  have d2 : decide (i > lastI [] f2) = false := decide_eq_false (by omega)
  have h71 := f71 (V27.mk f0 f1 f2 f3 f4 (none) none) hv
  rw [hh] at h71
  have h98 := f98 o ho hlm (termF (V27.mk f0 f1 f2 f3 f4 (none) none) i) f0
  rw [hr] at h98
  have h53 := f53 (V27.mk f0 f1 f2 f3 f4 (none) none) hv
  have h99 := f99 (V27.mk f0 f1 f2 f3 f4 (none) none) hv i hs
  have h100 := f100 (V27.mk f0 f1 f2 f3 f4 (none) none) (Nat.zero_le _) (Nat.zero_le _) 2
  have slL_none : slL none = [] := rfl
  simp only [twU, twR, V27.l, V23.l, slA_none, slA_some, slL_some, slL_none, List.cons_append, List.nil_append, Nat.reduceAdd, reduceIte] at h71 h53 h99 h100
  refine trF_ok mixed t73 (by simp [m73]) (f_body ?_)
  simp only [m73, argEnv, List.length_nil, List.nil_append, List.cons_append, Nat.zero_add, V27.l, V23.l, slA_none, slA_some]
  repeat' first
    | (with_reducible first | apply c_seq | apply c_reg | apply c_dreg0 | apply c_block | apply c_ret | apply c_exit | apply c_skip | apply ops_nil | apply d_nil | apply k_seq_n | apply k_seq_r | apply k_seq_x | apply k_blk_n | apply k_blk_r | apply k_blk_x | apply k_end_n | apply k_end_r | apply k_loop_x | apply k_loop_r | apply c_dreg1 | apply c_dreg2)
    | ((with_reducible first | apply op_gS | apply op_g0 | apply d_gS | apply d_g0); (focus (simp only [W0, reduceIte, Nat.reduceEqDiff, Nat.reduceAdd, Nat.reduceSub, Nat.reduceLeDiff, d1, d2, Bool.not_true, beq_self_eq_true, bne_self_eq_false, BEq.rfl]; rfl)); (with_reducible first | apply g_no | apply g_T | apply g_F); all_goals (try (intro hc; first | exact absurd hc (by decide) | subst hc | clear hc)))
    | ((with_reducible apply c_cond); (focus (simp only [W0, reduceIte, Nat.reduceEqDiff, Nat.reduceAdd, Nat.reduceSub, Nat.reduceLeDiff, d1, d2, Bool.not_true, beq_self_eq_true, bne_self_eq_false, BEq.rfl]; rfl)); all_goals (intro hc; first | exact absurd hc (by decide) | subst hc | clear hc))
    | ((with_reducible first | apply op_cn (f := 100) | apply d_cn (f := 100)); (focus ((try simp only [W0, reduceIte, Nat.reduceEqDiff, Nat.reduceAdd, Nat.reduceSub, Nat.reduceLeDiff, d1, d2, Bool.not_true, beq_self_eq_true, bne_self_eq_false, BEq.rfl]); exact h100)); all_goals (try rfl))
    | ((with_reducible first | apply op_fcall (f := 71) | apply d_fcall (f := 71)); (focus ((try simp only [W0, reduceIte, Nat.reduceEqDiff, Nat.reduceAdd, Nat.reduceSub, Nat.reduceLeDiff, d1, d2, Bool.not_true, beq_self_eq_true, bne_self_eq_false, BEq.rfl]); first | exact h71)); all_goals (try rfl))
    | ((with_reducible first | apply op_fcall (f := 53) | apply d_fcall (f := 53)); (focus ((try simp only [W0, reduceIte, Nat.reduceEqDiff, Nat.reduceAdd, Nat.reduceSub, Nat.reduceLeDiff, d1, d2, Bool.not_true, beq_self_eq_true, bne_self_eq_false, BEq.rfl]); first | exact h53)); all_goals (try rfl))
    | ((with_reducible first | apply op_fcall (f := 99) | apply d_fcall (f := 99)); (focus ((try simp only [W0, reduceIte, Nat.reduceEqDiff, Nat.reduceAdd, Nat.reduceSub, Nat.reduceLeDiff, d1, d2, Bool.not_true, beq_self_eq_true, bne_self_eq_false, BEq.rfl]); first | exact h99)); all_goals (try rfl))
    | ((with_reducible first | apply op_fcall (f := 98) | apply d_fcall (f := 98)); (focus ((try simp only [W0, reduceIte, Nat.reduceEqDiff, Nat.reduceAdd, Nat.reduceSub, Nat.reduceLeDiff, d1, d2, Bool.not_true, beq_self_eq_true, bne_self_eq_false, BEq.rfl]); first | exact h98)); all_goals (try rfl))
    | ((with_reducible first | apply op_isB | apply d_isV); (focus rfl); (focus (simp only [W0, reduceIte, Nat.reduceEqDiff, Nat.reduceAdd, Nat.reduceSub, Nat.reduceLeDiff, d1, d2, Bool.not_true, beq_self_eq_true, bne_self_eq_false, BEq.rfl]; rfl)); intro c' hc')
    | ((with_reducible first | apply op_step | apply op_step0 | apply d_ld | apply d_st | apply d_new | apply d_box | apply d_bsl | apply d_apw | apply d_apa | apply d_v); (focus (simp only [W0, reduceIte, Nat.reduceEqDiff, Nat.reduceAdd, Nat.reduceSub, Nat.reduceLeDiff, d1, d2, Bool.not_true, beq_self_eq_true, bne_self_eq_false, BEq.rfl]; rfl)); all_goals (try rfl))
    | ((with_reducible apply k_blk_y); (focus decide))
    | ((with_reducible apply d_step); (focus ((with_reducible apply o_w); (focus rfl); (focus (simp only [stepOp, Opd.get, look, behind, skip, firsts, putAt, putParts, thawL, storeAt, loadR, widths, binV, intBin, idx, Option.bind, Option.map, reduceIte, Nat.reduceEqDiff, Nat.reduceAdd, Nat.reduceSub, Nat.reduceLeDiff, W1, d1, d2, Bool.not_true, beq_self_eq_true, bne_self_eq_false, BEq.rfl]; rfl)))))
  any_goals (exfalso; refine Bool.false_ne_true ?_; assumption)
  refine c_loop [1, 2, 3, 6, 7, 47, 48, 49] (fun n env rows => n = (slL o).length ∧ env = [(1, .int .i64 i), (2, slA 66 o), (3, .ptr 0 0), (6, .ptr 1 0), (7, .int .i64 0), (47, slA 66 o), (48, .int .i64 ((slL o).length : Int)), (49, .int .i64 0)] ∧ rows = [Row.box 27 [.int .i64 f0, .int .i64 f1, .int .i64 f2, .int .i64 f3, .int .i64 f4.f0, .int .i64 f4.f1, .int .i64 f4.f2, .int .i64 f4.f3, .nil 5, .nil 66], Row.box 27 [.int .i64 0, .int .i64 0, .int .i64 0, .int .i64 0, .int .i64 0, .int .i64 0, .int .i64 0, .int .i64 0, .nil 5, .nil 66]]) (slL o).length
    (back_take (k := 2) (Nat.zero_le _) (by simp) (by simp [look, idsL, idsV, slA_ids]) (by simp [idsR, idsL, idsV, slA_ids]) ⟨rfl, rfl, rfl⟩) ?_
  rintro n env rows ⟨rfl, rfl, rfl⟩
  have z0 : decide ((0 : Int) < 0) = false := rfl
  have z1 : ((([] : List (List AV)).length : Nat) : Int) = 0 := rfl
  have wz : IntKind.i64.wrap ((0 : Int) + 0) = 0 := by decide
  have pz : ((0 : Int) ≤ 0) = True := eq_true (by omega)
  have pz2 : ((0 : Int) ≤ ((0 : Nat) : Int)) = True := eq_true (by omega)
  have tz : (0 : Int).toNat = 0 := rfl
  cases o with
  | none =>
    have hpo : putO none 0 (slL none) = none := rfl
    rw [hpo]
    simp only [slA_none, slL_none, z1]
    repeat' first
      | (with_reducible first | apply c_seq | apply c_reg | apply c_dreg0 | apply c_block | apply c_ret | apply c_exit | apply c_skip | apply ops_nil | apply d_nil | apply k_seq_n | apply k_seq_r | apply k_seq_x | apply k_blk_n | apply k_blk_r | apply k_blk_x | apply k_end_n | apply k_end_r | apply k_loop_x | apply k_loop_r | apply c_dreg1 | apply c_dreg2)
      | ((with_reducible first | apply op_gS | apply op_g0 | apply d_gS | apply d_g0); (focus (simp only [W0, reduceIte, Nat.reduceEqDiff, Nat.reduceAdd, Nat.reduceSub, Nat.reduceLeDiff, z0, z1]; rfl)); (with_reducible first | apply g_no | apply g_T | apply g_F); all_goals (try (intro hc; first | exact absurd hc (by decide) | subst hc | clear hc)))
      | ((with_reducible apply c_cond); (focus (simp only [W0, reduceIte, Nat.reduceEqDiff, Nat.reduceAdd, Nat.reduceSub, Nat.reduceLeDiff, z0, z1]; rfl)); all_goals (intro hc; first | exact absurd hc (by decide) | subst hc | clear hc))
      | ((with_reducible first | apply op_isB | apply d_isV); (focus rfl); (focus (simp only [W0, reduceIte, Nat.reduceEqDiff, Nat.reduceAdd, Nat.reduceSub, Nat.reduceLeDiff, z0, z1]; rfl)); intro c' hc')
      | ((with_reducible first | apply op_step | apply op_step0 | apply d_ld | apply d_st | apply d_new | apply d_box | apply d_bsl | apply d_apw | apply d_apa | apply d_v); (focus (simp only [W0, reduceIte, Nat.reduceEqDiff, Nat.reduceAdd, Nat.reduceSub, Nat.reduceLeDiff, z0, z1]; rfl)); all_goals (try rfl))
      | ((with_reducible apply k_blk_y); (focus decide))
      | ((with_reducible apply d_step); (focus ((with_reducible apply o_w); (focus rfl); (focus (simp only [stepOp, Opd.get, look, behind, skip, firsts, putAt, putParts, thawL, storeAt, loadR, widths, binV, intBin, idx, Option.bind, Option.map, reduceIte, Nat.reduceEqDiff, Nat.reduceAdd, Nat.reduceSub, Nat.reduceLeDiff, W1, z0, z1]; rfl)))))
    all_goals first | (exfalso; refine Bool.false_ne_true ?_; first | assumption | (symm; assumption)) | (exfalso; simp only [decide_eq_true_eq, decide_eq_false_iff_not] at *; omega) | skip
    · ((with_reducible apply ret_plain); (focus (simp only [W0, reduceIte, Nat.reduceEqDiff, Nat.reduceAdd, Nat.reduceSub, Nat.reduceLeDiff]; rfl)); (focus (simp [resV, idsV, idsL])))
      exact And.intro (by simp [resV]) rfl
  | some l =>
    simp only [slL_some] at hlo
    rcases Nat.lt_or_ge 0 l.length with hl | hl
    · have p7 : ((0 : Int) < ((l.length : Nat) : Int)) = True := eq_true (by omega)
      have p4 : ((0 : Int) ≤ ((l.length : Nat) : Int)) = True := eq_true (by omega)
      obtain ⟨x, hx, hxok⟩ := el66 (o := some l) ho hl
      simp only [slL_some] at hx
      have q1 : (l.length ≤ 925904528653) = True := eq_true (by omega)
      have q2 : l.isEmpty = false := by cases l with | nil => simp at hl | cons => rfl
      have hpo : putO none 0 (slL (some l)) = some l := by
        have h0 := put_off (es := []) (a := 0) (k := 0) (l := l) hx (Nat.le_refl _)
        simp only [List.take_nil, List.nil_append, List.drop_zero, Nat.zero_add] at h0
        show (match putN [] 0 l with | none => none | some l' => some l') = _
        rw [h0]
      rw [hpo]
      simp only [slA_some, slL_some]
      repeat' first
        | (with_reducible first | apply c_seq | apply c_reg | apply c_dreg0 | apply c_block | apply c_ret | apply c_exit | apply c_skip | apply ops_nil | apply d_nil | apply k_seq_n | apply k_seq_r | apply k_seq_x | apply k_blk_n | apply k_blk_r | apply k_blk_x | apply k_end_n | apply k_end_r | apply k_loop_x | apply k_loop_r | apply c_dreg1 | apply c_dreg2)
        | ((with_reducible first | apply op_gS | apply op_g0 | apply d_gS | apply d_g0); (focus (simp only [W0, reduceIte, Nat.reduceEqDiff, Nat.reduceAdd, Nat.reduceSub, Nat.reduceLeDiff, w1, z0, z1, wz, pz, pz2, tz, p7, p4, q1, q2, hx, decide_true, bound, appR, elems, true_and, List.take_length, List.drop_zero, slL_some, Bool.false_eq_true, beq_self_eq_true, bne_self_eq_false, BEq.rfl, V66.l, V64.l, V62.l, V60.l, V23.l]; rfl)); (with_reducible first | apply g_no | apply g_T | apply g_F); all_goals (try (intro hc; first | exact absurd hc (by decide) | subst hc | clear hc)))
        | ((with_reducible apply c_cond); (focus (simp only [W0, reduceIte, Nat.reduceEqDiff, Nat.reduceAdd, Nat.reduceSub, Nat.reduceLeDiff, w1, z0, z1, wz, pz, pz2, tz, p7, p4, q1, q2, hx, decide_true, bound, appR, elems, true_and, List.take_length, List.drop_zero, slL_some, Bool.false_eq_true, beq_self_eq_true, bne_self_eq_false, BEq.rfl, V66.l, V64.l, V62.l, V60.l, V23.l]; rfl)); all_goals (intro hc; first | exact absurd hc (by decide) | subst hc | clear hc))
        | ((with_reducible first | apply op_isB | apply d_isV); (focus rfl); (focus (simp only [W0, reduceIte, Nat.reduceEqDiff, Nat.reduceAdd, Nat.reduceSub, Nat.reduceLeDiff, w1, z0, z1, wz, pz, pz2, tz, p7, p4, q1, q2, hx, decide_true, bound, appR, elems, true_and, List.take_length, List.drop_zero, slL_some, Bool.false_eq_true, beq_self_eq_true, bne_self_eq_false, BEq.rfl, V66.l, V64.l, V62.l, V60.l, V23.l]; rfl)); intro c' hc')
        | ((with_reducible first | apply op_step | apply op_step0 | apply d_ld | apply d_st | apply d_new | apply d_box | apply d_bsl | apply d_apw | apply d_apa | apply d_v); (focus (simp only [W0, reduceIte, Nat.reduceEqDiff, Nat.reduceAdd, Nat.reduceSub, Nat.reduceLeDiff, w1, z0, z1, wz, pz, pz2, tz, p7, p4, q1, q2, hx, decide_true, bound, appR, elems, true_and, List.take_length, List.drop_zero, slL_some, Bool.false_eq_true, beq_self_eq_true, bne_self_eq_false, BEq.rfl, V66.l, V64.l, V62.l, V60.l, V23.l]; rfl)); all_goals (try rfl))
        | ((with_reducible apply k_blk_y); (focus decide))
        | ((with_reducible apply d_step); (focus ((with_reducible apply o_w); (focus rfl); (focus (simp only [stepOp, Opd.get, look, behind, skip, firsts, putAt, putParts, thawL, storeAt, loadR, widths, binV, intBin, idx, Option.bind, Option.map, reduceIte, Nat.reduceEqDiff, Nat.reduceAdd, Nat.reduceSub, Nat.reduceLeDiff, W1, w1, z0, z1, wz, pz, pz2, tz, p7, p4, q1, q2, hx, decide_true, bound, appR, elems, true_and, List.take_length, List.drop_zero, slL_some, Bool.false_eq_true, beq_self_eq_true, bne_self_eq_false, BEq.rfl, V66.l, V64.l, V62.l, V60.l, V23.l]; rfl)))))
      all_goals first | (exfalso; refine Bool.false_ne_true ?_; first | assumption | (symm; assumption)) | (exfalso; simp only [decide_eq_true_eq, decide_eq_false_iff_not] at *; omega) | skip
      · ((with_reducible apply ret_row 3); (focus (simp only [W0, reduceIte, Nat.reduceEqDiff, Nat.reduceAdd, Nat.reduceSub, Nat.reduceLeDiff]; rfl)); (focus rfl); (focus rfl); (focus (simp [resV, idsV, idsL])); (focus rfl))
        exact And.intro (by simp [resV, renV, renL, gcF_1]) rfl
    · have hl0 : l = [] := List.eq_nil_of_length_eq_zero (by omega)
      subst hl0
      have hpo : putO none 0 (slL (some [])) = none := rfl
      rw [hpo]
      simp only [slA_some, slL_some, z1]
      repeat' first
        | (with_reducible first | apply c_seq | apply c_reg | apply c_dreg0 | apply c_block | apply c_ret | apply c_exit | apply c_skip | apply ops_nil | apply d_nil | apply k_seq_n | apply k_seq_r | apply k_seq_x | apply k_blk_n | apply k_blk_r | apply k_blk_x | apply k_end_n | apply k_end_r | apply k_loop_x | apply k_loop_r | apply c_dreg1 | apply c_dreg2)
        | ((with_reducible first | apply op_gS | apply op_g0 | apply d_gS | apply d_g0); (focus (simp only [W0, reduceIte, Nat.reduceEqDiff, Nat.reduceAdd, Nat.reduceSub, Nat.reduceLeDiff, z0, z1]; rfl)); (with_reducible first | apply g_no | apply g_T | apply g_F); all_goals (try (intro hc; first | exact absurd hc (by decide) | subst hc | clear hc)))
        | ((with_reducible apply c_cond); (focus (simp only [W0, reduceIte, Nat.reduceEqDiff, Nat.reduceAdd, Nat.reduceSub, Nat.reduceLeDiff, z0, z1]; rfl)); all_goals (intro hc; first | exact absurd hc (by decide) | subst hc | clear hc))
        | ((with_reducible first | apply op_isB | apply d_isV); (focus rfl); (focus (simp only [W0, reduceIte, Nat.reduceEqDiff, Nat.reduceAdd, Nat.reduceSub, Nat.reduceLeDiff, z0, z1]; rfl)); intro c' hc')
        | ((with_reducible first | apply op_step | apply op_step0 | apply d_ld | apply d_st | apply d_new | apply d_box | apply d_bsl | apply d_apw | apply d_apa | apply d_v); (focus (simp only [W0, reduceIte, Nat.reduceEqDiff, Nat.reduceAdd, Nat.reduceSub, Nat.reduceLeDiff, z0, z1]; rfl)); all_goals (try rfl))
        | ((with_reducible apply k_blk_y); (focus decide))
        | ((with_reducible apply d_step); (focus ((with_reducible apply o_w); (focus rfl); (focus (simp only [stepOp, Opd.get, look, behind, skip, firsts, putAt, putParts, thawL, storeAt, loadR, widths, binV, intBin, idx, Option.bind, Option.map, reduceIte, Nat.reduceEqDiff, Nat.reduceAdd, Nat.reduceSub, Nat.reduceLeDiff, W1, z0, z1]; rfl)))))
      all_goals first | (exfalso; refine Bool.false_ne_true ?_; first | assumption | (symm; assumption)) | (exfalso; simp only [decide_eq_true_eq, decide_eq_false_iff_not] at *; omega) | skip
      · ((with_reducible apply ret_plain); (focus (simp only [W0, reduceIte, Nat.reduceEqDiff, Nat.reduceAdd, Nat.reduceSub, Nat.reduceLeDiff]; rfl)); (focus (simp [resV, idsV, idsL])))
        exact And.intro (by simp [resV]) rfl
theorem putsn (f0 f1 f2 f3 : Int) (f4 : V23) (b5 : List (List AV)) (hb5 : b5.length ≤ 140737488355328) (hv : (V27.mk f0 f1 f2 f3 f4 (some b5) none).ok) (i : Int) (o : Option (List (List AV))) (ho : ∀ us ∈ slL o, HasT prog 66 us) (hlo : (slL o).length ≤ 1000000) (hs : seen (V27.mk f0 f1 f2 f3 f4 (some b5) none) i)
    (hh : hardF (V27.mk f0 f1 f2 f3 f4 (some b5) none) = true) (hi1 : f2 ≤ i) (hi2 : i ≤ lastI [] f2) (hr : rowF f0 (mx1 (termF (V27.mk f0 f1 f2 f3 f4 (some b5) none) i)) (slL o) = true) (ha : i - f2 = 0) :
    CW prog 73 [.agg (V27.mk f0 f1 f2 f3 f4 (some b5) none).l, .int .i64 i, slA 66 o] [] (Made [.int .i64 f0, .int .i64 f1, .int .i64 f2, .int .i64 f3, .int .i64 f4.f0, .int .i64 f4.f1, .int .i64 f4.f2, .int .i64 f4.f3] (some b5) (putO none 0 (slL o))) := by
  have hlm : (slL o).length ≤ maxLen := Nat.le_trans hlo (by decide)
  have w0 : ∀ x : Int, -4611686018427387904 ≤ x → x ≤ 4611686018427387904 → IntKind.i64.wrap x = x := fun x a b => by simp [IntKind.wrap, IntKind.signed, IntKind.bits]; omega
  have w1 : IntKind.i64.wrap (i - f2) = 0 := by rw [w0 _ (by omega) (by omega), ha]
  have d1 : decide (i < f2) = false := decide_eq_false (by omega)
  have d2 : decide (i > lastI [] f2) = false := decide_eq_false (by omega)
  have h71 := f71 (V27.mk f0 f1 f2 f3 f4 (some b5) none) hv
  rw [hh] at h71
  have h98 := f98 o ho hlm (termF (V27.mk f0 f1 f2 f3 f4 (some b5) none) i) f0
  rw [hr] at h98
  have h53 := f53 (V27.mk f0 f1 f2 f3 f4 (some b5) none) hv
  have h99 := f99 (V27.mk f0 f1 f2 f3 f4 (some b5) none) hv i hs
  have h100 := f100 (V27.mk f0 f1 f2 f3 f4 (some b5) none) hb5 (Nat.zero_le _) 2
  have slL_none : slL none = [] := rfl
  simp only [twU, twR, V27.l, V23.l, slA_none, slA_some, slL_some, slL_none, List.cons_append, List.nil_append, Nat.reduceAdd, reduceIte] at h71 h53 h99 h100
  refine trF_ok mixed t73 (by simp [m73]) (f_body ?_)
  simp only [m73, argEnv, List.length_nil, List.nil_append, List.cons_append, Nat.zero_add, V27.l, V23.l, slA_none, slA_some]
  repeat' first
    | (with_reducible first | apply c_seq | apply c_reg | apply c_dreg0 | apply c_block | apply c_ret | apply c_exit | apply c_skip | apply ops_nil | apply d_nil | apply k_seq_n | apply k_seq_r | apply k_seq_x | apply k_blk_n | apply k_blk_r | apply k_blk_x | apply k_end_n | apply k_end_r | apply k_loop_x | apply k_loop_r | apply c_dreg1 | apply c_dreg2)
    | ((with_reducible first | apply op_gS | apply op_g0 | apply d_gS | apply d_g0); (focus (simp only [W0, reduceIte, Nat.reduceEqDiff, Nat.reduceAdd, Nat.reduceSub, Nat.reduceLeDiff, d1, d2, Bool.not_true, beq_self_eq_true, bne_self_eq_false, BEq.rfl]; rfl)); (with_reducible first | apply g_no | apply g_T | apply g_F); all_goals (try (intro hc; first | exact absurd hc (by decide) | subst hc | clear hc)))
    | ((with_reducible apply c_cond); (focus (simp only [W0, reduceIte, Nat.reduceEqDiff, Nat.reduceAdd, Nat.reduceSub, Nat.reduceLeDiff, d1, d2, Bool.not_true, beq_self_eq_true, bne_self_eq_false, BEq.rfl]; rfl)); all_goals (intro hc; first | exact absurd hc (by decide) | subst hc | clear hc))
    | ((with_reducible first | apply op_cn (f := 100) | apply d_cn (f := 100)); (focus ((try simp only [W0, reduceIte, Nat.reduceEqDiff, Nat.reduceAdd, Nat.reduceSub, Nat.reduceLeDiff, d1, d2, Bool.not_true, beq_self_eq_true, bne_self_eq_false, BEq.rfl]); exact h100)); all_goals (try rfl))
    | ((with_reducible first | apply op_fcall (f := 71) | apply d_fcall (f := 71)); (focus ((try simp only [W0, reduceIte, Nat.reduceEqDiff, Nat.reduceAdd, Nat.reduceSub, Nat.reduceLeDiff, d1, d2, Bool.not_true, beq_self_eq_true, bne_self_eq_false, BEq.rfl]); first | exact h71)); all_goals (try rfl))
    | ((with_reducible first | apply op_fcall (f := 53) | apply d_fcall (f := 53)); (focus ((try simp only [W0, reduceIte, Nat.reduceEqDiff, Nat.reduceAdd, Nat.reduceSub, Nat.reduceLeDiff, d1, d2, Bool.not_true, beq_self_eq_true, bne_self_eq_false, BEq.rfl]); first | exact h53)); all_goals (try rfl))
    | ((with_reducible first | apply op_fcall (f := 99) | apply d_fcall (f := 99)); (focus ((try simp only [W0, reduceIte, Nat.reduceEqDiff, Nat.reduceAdd, Nat.reduceSub, Nat.reduceLeDiff, d1, d2, Bool.not_true, beq_self_eq_true, bne_self_eq_false, BEq.rfl]); first | exact h99)); all_goals (try rfl))
    | ((with_reducible first | apply op_fcall (f := 98) | apply d_fcall (f := 98)); (focus ((try simp only [W0, reduceIte, Nat.reduceEqDiff, Nat.reduceAdd, Nat.reduceSub, Nat.reduceLeDiff, d1, d2, Bool.not_true, beq_self_eq_true, bne_self_eq_false, BEq.rfl]); first | exact h98)); all_goals (try rfl))
    | ((with_reducible first | apply op_isB | apply d_isV); (focus rfl); (focus (simp only [W0, reduceIte, Nat.reduceEqDiff, Nat.reduceAdd, Nat.reduceSub, Nat.reduceLeDiff, d1, d2, Bool.not_true, beq_self_eq_true, bne_self_eq_false, BEq.rfl]; rfl)); intro c' hc')
    | ((with_reducible first | apply op_step | apply op_step0 | apply d_ld | apply d_st | apply d_new | apply d_box | apply d_bsl | apply d_apw | apply d_apa | apply d_v); (focus (simp only [W0, reduceIte, Nat.reduceEqDiff, Nat.reduceAdd, Nat.reduceSub, Nat.reduceLeDiff, d1, d2, Bool.not_true, beq_self_eq_true, bne_self_eq_false, BEq.rfl]; rfl)); all_goals (try rfl))
    | ((with_reducible apply k_blk_y); (focus decide))
    | ((with_reducible apply d_step); (focus ((with_reducible apply o_w); (focus rfl); (focus (simp only [stepOp, Opd.get, look, behind, skip, firsts, putAt, putParts, thawL, storeAt, loadR, widths, binV, intBin, idx, Option.bind, Option.map, reduceIte, Nat.reduceEqDiff, Nat.reduceAdd, Nat.reduceSub, Nat.reduceLeDiff, W1, d1, d2, Bool.not_true, beq_self_eq_true, bne_self_eq_false, BEq.rfl]; rfl)))))
  any_goals (exfalso; refine Bool.false_ne_true ?_; assumption)
  refine c_loop [1, 2, 3, 6, 7, 47, 48, 49] (fun n env rows => n = (slL o).length ∧ env = [(1, .int .i64 i), (2, slA 66 o), (3, .ptr 0 0), (6, .ptr 1 0), (7, .int .i64 0), (47, slA 66 o), (48, .int .i64 ((slL o).length : Int)), (49, .int .i64 0)] ∧ rows = [Row.box 27 [.int .i64 f0, .int .i64 f1, .int .i64 f2, .int .i64 f3, .int .i64 f4.f0, .int .i64 f4.f1, .int .i64 f4.f2, .int .i64 f4.f3, .sref 2 b5.length, .nil 66], Row.box 27 [.int .i64 0, .int .i64 0, .int .i64 0, .int .i64 0, .int .i64 0, .int .i64 0, .int .i64 0, .int .i64 0, .nil 5, .nil 66], Row.vec 5 b5]) (slL o).length
    (back_take (k := 3) (Nat.zero_le _) (by simp) (by simp [look, idsL, idsV, slA_ids]) (by simp [idsR, idsL, idsV, slA_ids]) ⟨rfl, rfl, rfl⟩) ?_
  rintro n env rows ⟨rfl, rfl, rfl⟩
  have z0 : decide ((0 : Int) < 0) = false := rfl
  have z1 : ((([] : List (List AV)).length : Nat) : Int) = 0 := rfl
  have wz : IntKind.i64.wrap ((0 : Int) + 0) = 0 := by decide
  have pz : ((0 : Int) ≤ 0) = True := eq_true (by omega)
  have pz2 : ((0 : Int) ≤ ((0 : Nat) : Int)) = True := eq_true (by omega)
  have tz : (0 : Int).toNat = 0 := rfl
  cases o with
  | none =>
    have hpo : putO none 0 (slL none) = none := rfl
    rw [hpo]
    simp only [slA_none, slL_none, z1]
    repeat' first
      | (with_reducible first | apply c_seq | apply c_reg | apply c_dreg0 | apply c_block | apply c_ret | apply c_exit | apply c_skip | apply ops_nil | apply d_nil | apply k_seq_n | apply k_seq_r | apply k_seq_x | apply k_blk_n | apply k_blk_r | apply k_blk_x | apply k_end_n | apply k_end_r | apply k_loop_x | apply k_loop_r | apply c_dreg1 | apply c_dreg2)
      | ((with_reducible first | apply op_gS | apply op_g0 | apply d_gS | apply d_g0); (focus (simp only [W0, reduceIte, Nat.reduceEqDiff, Nat.reduceAdd, Nat.reduceSub, Nat.reduceLeDiff, z0, z1]; rfl)); (with_reducible first | apply g_no | apply g_T | apply g_F); all_goals (try (intro hc; first | exact absurd hc (by decide) | subst hc | clear hc)))
      | ((with_reducible apply c_cond); (focus (simp only [W0, reduceIte, Nat.reduceEqDiff, Nat.reduceAdd, Nat.reduceSub, Nat.reduceLeDiff, z0, z1]; rfl)); all_goals (intro hc; first | exact absurd hc (by decide) | subst hc | clear hc))
      | ((with_reducible first | apply op_isB | apply d_isV); (focus rfl); (focus (simp only [W0, reduceIte, Nat.reduceEqDiff, Nat.reduceAdd, Nat.reduceSub, Nat.reduceLeDiff, z0, z1]; rfl)); intro c' hc')
      | ((with_reducible first | apply op_step | apply op_step0 | apply d_ld | apply d_st | apply d_new | apply d_box | apply d_bsl | apply d_apw | apply d_apa | apply d_v); (focus (simp only [W0, reduceIte, Nat.reduceEqDiff, Nat.reduceAdd, Nat.reduceSub, Nat.reduceLeDiff, z0, z1]; rfl)); all_goals (try rfl))
      | ((with_reducible apply k_blk_y); (focus decide))
      | ((with_reducible apply d_step); (focus ((with_reducible apply o_w); (focus rfl); (focus (simp only [stepOp, Opd.get, look, behind, skip, firsts, putAt, putParts, thawL, storeAt, loadR, widths, binV, intBin, idx, Option.bind, Option.map, reduceIte, Nat.reduceEqDiff, Nat.reduceAdd, Nat.reduceSub, Nat.reduceLeDiff, W1, z0, z1]; rfl)))))
    all_goals first | (exfalso; refine Bool.false_ne_true ?_; first | assumption | (symm; assumption)) | (exfalso; simp only [decide_eq_true_eq, decide_eq_false_iff_not] at *; omega) | skip
    · ((with_reducible apply ret_row 2); (focus (simp only [W0, reduceIte, Nat.reduceEqDiff, Nat.reduceAdd, Nat.reduceSub, Nat.reduceLeDiff]; rfl)); (focus rfl); (focus rfl); (focus (simp [resV, idsV, idsL])); (focus rfl))
      exact And.intro (by simp [resV, renV, renL, gcF_1]) rfl
  | some l =>
    simp only [slL_some] at hlo
    rcases Nat.lt_or_ge 0 l.length with hl | hl
    · have p7 : ((0 : Int) < ((l.length : Nat) : Int)) = True := eq_true (by omega)
      have p4 : ((0 : Int) ≤ ((l.length : Nat) : Int)) = True := eq_true (by omega)
      obtain ⟨x, hx, hxok⟩ := el66 (o := some l) ho hl
      simp only [slL_some] at hx
      have q1 : (l.length ≤ 925904528653) = True := eq_true (by omega)
      have q2 : l.isEmpty = false := by cases l with | nil => simp at hl | cons => rfl
      have hpo : putO none 0 (slL (some l)) = some l := by
        have h0 := put_off (es := []) (a := 0) (k := 0) (l := l) hx (Nat.le_refl _)
        simp only [List.take_nil, List.nil_append, List.drop_zero, Nat.zero_add] at h0
        show (match putN [] 0 l with | none => none | some l' => some l') = _
        rw [h0]
      rw [hpo]
      simp only [slA_some, slL_some]
      repeat' first
        | (with_reducible first | apply c_seq | apply c_reg | apply c_dreg0 | apply c_block | apply c_ret | apply c_exit | apply c_skip | apply ops_nil | apply d_nil | apply k_seq_n | apply k_seq_r | apply k_seq_x | apply k_blk_n | apply k_blk_r | apply k_blk_x | apply k_end_n | apply k_end_r | apply k_loop_x | apply k_loop_r | apply c_dreg1 | apply c_dreg2)
        | ((with_reducible first | apply op_gS | apply op_g0 | apply d_gS | apply d_g0); (focus (simp only [W0, reduceIte, Nat.reduceEqDiff, Nat.reduceAdd, Nat.reduceSub, Nat.reduceLeDiff, w1, z0, z1, wz, pz, pz2, tz, p7, p4, q1, q2, hx, decide_true, bound, appR, elems, true_and, List.take_length, List.drop_zero, slL_some, Bool.false_eq_true, beq_self_eq_true, bne_self_eq_false, BEq.rfl, V66.l, V64.l, V62.l, V60.l, V23.l]; rfl)); (with_reducible first | apply g_no | apply g_T | apply g_F); all_goals (try (intro hc; first | exact absurd hc (by decide) | subst hc | clear hc)))
        | ((with_reducible apply c_cond); (focus (simp only [W0, reduceIte, Nat.reduceEqDiff, Nat.reduceAdd, Nat.reduceSub, Nat.reduceLeDiff, w1, z0, z1, wz, pz, pz2, tz, p7, p4, q1, q2, hx, decide_true, bound, appR, elems, true_and, List.take_length, List.drop_zero, slL_some, Bool.false_eq_true, beq_self_eq_true, bne_self_eq_false, BEq.rfl, V66.l, V64.l, V62.l, V60.l, V23.l]; rfl)); all_goals (intro hc; first | exact absurd hc (by decide) | subst hc | clear hc))
        | ((with_reducible first | apply op_isB | apply d_isV); (focus rfl); (focus (simp only [W0, reduceIte, Nat.reduceEqDiff, Nat.reduceAdd, Nat.reduceSub, Nat.reduceLeDiff, w1, z0, z1, wz, pz, pz2, tz, p7, p4, q1, q2, hx, decide_true, bound, appR, elems, true_and, List.take_length, List.drop_zero, slL_some, Bool.false_eq_true, beq_self_eq_true, bne_self_eq_false, BEq.rfl, V66.l, V64.l, V62.l, V60.l, V23.l]; rfl)); intro c' hc')
        | ((with_reducible first | apply op_step | apply op_step0 | apply d_ld | apply d_st | apply d_new | apply d_box | apply d_bsl | apply d_apw | apply d_apa | apply d_v); (focus (simp only [W0, reduceIte, Nat.reduceEqDiff, Nat.reduceAdd, Nat.reduceSub, Nat.reduceLeDiff, w1, z0, z1, wz, pz, pz2, tz, p7, p4, q1, q2, hx, decide_true, bound, appR, elems, true_and, List.take_length, List.drop_zero, slL_some, Bool.false_eq_true, beq_self_eq_true, bne_self_eq_false, BEq.rfl, V66.l, V64.l, V62.l, V60.l, V23.l]; rfl)); all_goals (try rfl))
        | ((with_reducible apply k_blk_y); (focus decide))
        | ((with_reducible apply d_step); (focus ((with_reducible apply o_w); (focus rfl); (focus (simp only [stepOp, Opd.get, look, behind, skip, firsts, putAt, putParts, thawL, storeAt, loadR, widths, binV, intBin, idx, Option.bind, Option.map, reduceIte, Nat.reduceEqDiff, Nat.reduceAdd, Nat.reduceSub, Nat.reduceLeDiff, W1, w1, z0, z1, wz, pz, pz2, tz, p7, p4, q1, q2, hx, decide_true, bound, appR, elems, true_and, List.take_length, List.drop_zero, slL_some, Bool.false_eq_true, beq_self_eq_true, bne_self_eq_false, BEq.rfl, V66.l, V64.l, V62.l, V60.l, V23.l]; rfl)))))
      all_goals first | (exfalso; refine Bool.false_ne_true ?_; first | assumption | (symm; assumption)) | (exfalso; simp only [decide_eq_true_eq, decide_eq_false_iff_not] at *; omega) | skip
      · ((with_reducible apply ret_two 2 4); (focus (simp only [W0, reduceIte, Nat.reduceEqDiff, Nat.reduceAdd, Nat.reduceSub, Nat.reduceLeDiff]; rfl)); (focus rfl); (focus rfl); (focus decide); (focus rfl); (focus rfl); (focus (simp [resV, idsV, idsL])); (focus rfl); (focus rfl))
        exact And.intro (by simp [resV, renV, renL, gcF_l, gcF_r]) rfl
    · have hl0 : l = [] := List.eq_nil_of_length_eq_zero (by omega)
      subst hl0
      have hpo : putO none 0 (slL (some [])) = none := rfl
      rw [hpo]
      simp only [slA_some, slL_some, z1]
      repeat' first
        | (with_reducible first | apply c_seq | apply c_reg | apply c_dreg0 | apply c_block | apply c_ret | apply c_exit | apply c_skip | apply ops_nil | apply d_nil | apply k_seq_n | apply k_seq_r | apply k_seq_x | apply k_blk_n | apply k_blk_r | apply k_blk_x | apply k_end_n | apply k_end_r | apply k_loop_x | apply k_loop_r | apply c_dreg1 | apply c_dreg2)
        | ((with_reducible first | apply op_gS | apply op_g0 | apply d_gS | apply d_g0); (focus (simp only [W0, reduceIte, Nat.reduceEqDiff, Nat.reduceAdd, Nat.reduceSub, Nat.reduceLeDiff, z0, z1]; rfl)); (with_reducible first | apply g_no | apply g_T | apply g_F); all_goals (try (intro hc; first | exact absurd hc (by decide) | subst hc | clear hc)))
        | ((with_reducible apply c_cond); (focus (simp only [W0, reduceIte, Nat.reduceEqDiff, Nat.reduceAdd, Nat.reduceSub, Nat.reduceLeDiff, z0, z1]; rfl)); all_goals (intro hc; first | exact absurd hc (by decide) | subst hc | clear hc))
        | ((with_reducible first | apply op_isB | apply d_isV); (focus rfl); (focus (simp only [W0, reduceIte, Nat.reduceEqDiff, Nat.reduceAdd, Nat.reduceSub, Nat.reduceLeDiff, z0, z1]; rfl)); intro c' hc')
        | ((with_reducible first | apply op_step | apply op_step0 | apply d_ld | apply d_st | apply d_new | apply d_box | apply d_bsl | apply d_apw | apply d_apa | apply d_v); (focus (simp only [W0, reduceIte, Nat.reduceEqDiff, Nat.reduceAdd, Nat.reduceSub, Nat.reduceLeDiff, z0, z1]; rfl)); all_goals (try rfl))
        | ((with_reducible apply k_blk_y); (focus decide))
        | ((with_reducible apply d_step); (focus ((with_reducible apply o_w); (focus rfl); (focus (simp only [stepOp, Opd.get, look, behind, skip, firsts, putAt, putParts, thawL, storeAt, loadR, widths, binV, intBin, idx, Option.bind, Option.map, reduceIte, Nat.reduceEqDiff, Nat.reduceAdd, Nat.reduceSub, Nat.reduceLeDiff, W1, z0, z1]; rfl)))))
      all_goals first | (exfalso; refine Bool.false_ne_true ?_; first | assumption | (symm; assumption)) | (exfalso; simp only [decide_eq_true_eq, decide_eq_false_iff_not] at *; omega) | skip
      · ((with_reducible apply ret_row 2); (focus (simp only [W0, reduceIte, Nat.reduceEqDiff, Nat.reduceAdd, Nat.reduceSub, Nat.reduceLeDiff]; rfl)); (focus rfl); (focus rfl); (focus (simp [resV, idsV, idsL])); (focus rfl))
        exact And.intro (by simp [resV, renV, renL, gcF_1]) rfl
end Go.Sk
