/- What is written over. Conditions: none. -/
import Derived.Test.YtnbmngpdbnkhaaaC6Own2
import Derived.Test.YtnbmngpdbnkhaaaC6Spec20
import Derived.Test.YtnbmngpdbnkhaaaC6Code3
import Derived.Test.YtnbmngpdbnkhaaaC6Spec2
set_option linter.unusedVariables false
set_option linter.unusedSimpArgs false
set_option maxRecDepth 200000
set_option maxHeartbeats 8000000
namespace Go.Sk
open Go.Proofs.Try
/-- All rows lead to rows that there are. -/
def okR (rows : List Row) : Prop := ∀ r ∈ rows, ∀ j ∈ idsR r, j < rows.length
theorem okR_set {rows : List Row} {i : Nat} {x : Row} (h : okR rows) (hx : idsR x = []) : okR (rows.set i x) := by
  intro r hr j hj
  rw [List.length_set]
  rcases List.mem_or_eq_of_mem_set hr with h1 | rfl
  · exact h r h1 j hj
  · rw [hx] at hj; cases hj
theorem ret_void {kf : Nat} {Q : AV → List Row → Prop} {env : Env} {rows : List Row} (hk : kf ≤ rows.length) (h : okR rows) (k : Q (.tup []) rows) : RetW kf [] Q env rows := by
  refine ret_all (vs := []) rfl ?_ k
  simp only [okAll, resV, idsV, idsL, List.all_nil, Bool.and_true, Bool.and_eq_true, decide_eq_true_eq, List.all_eq_true]
  exact ⟨hk, h⟩
/-- The rows that were lent stay alone. -/
theorem ret_lent {kf : Nat} {Q : AV → List Row → Prop} {env : Env} {rows : List Row} (hk : kf ≤ rows.length) (h : okR (rows.take kf)) (k : Q (.tup []) (rows.take kf)) : RetW kf [] Q env rows := by
  refine ⟨[], rfl, List.range kf, ⟨by simp, fun i hi => by rw [List.getElem?_range hi], List.nodup_range, by simp [resV, idsV, idsL], fun id hid => ?_⟩, ?_⟩
  · simp only [List.mem_range] at hid
    have hid' : id < rows.length := by omega
    refine ⟨rows[id], List.getElem?_eq_getElem hid', fun j hj => ?_⟩
    have hm : rows[id] ∈ rows.take kf := by rw [List.mem_take_iff_getElem]; exact ⟨id, by omega, rfl⟩
    have := h _ hm j hj
    simp only [List.length_take] at this
    simp; omega
  · have e2 : gcRows (List.range kf) rows = rows.take kf := by
      apply List.ext_getElem?
      intro i
      simp only [gcRows, List.getElem?_map]
      rcases Nat.lt_or_ge i kf with hi | hi
      · have hi' : i < rows.length := by omega
        rw [List.getElem?_range hi, List.getElem?_take, if_pos hi, List.getElem?_eq_getElem hi']
        simp only [Option.map_some, List.getD_eq_getElem?_getD, List.getElem?_eq_getElem hi', Option.getD_some]
        have hm : rows[i] ∈ rows.take kf := by rw [List.mem_take_iff_getElem]; exact ⟨i, by omega, rfl⟩
        rw [renR_of _ (fun id hid => gcF_range (by have := h _ hm id hid; simp only [List.length_take] at this; omega))]
      · rw [List.getElem?_eq_none (by simpa using hi), List.getElem?_eq_none (by simp; omega)]; rfl
    rw [e2]; exact k
theorem f82 (rows : List Row) (id : Nat) (o : Option (List (List AV))) (hr : rows[id]? = some (rwS 5 o)) (hel : ∀ us ∈ slL o, HasT prog 5 us) (hm : (slL o).length ≤ maxLen) (hok : okR rows) : CW prog 82 [slS 5 id o] rows (fun r rs => ∃ o', rs = rows.set id (rwS 5 o')) := by
  have hid : id < rows.length := (List.getElem?_eq_some_iff.1 hr).1
  cases o with
  | none =>
    refine trF_ok mixed t82 (by simp [m82]) (f_body ?_)
    simp only [m82, argEnv, List.length_nil, List.nil_append, List.cons_append, Nat.zero_add, slS_none]
    have z0 : decide ((0 : Int) < 0) = false := rfl
    repeat' first
      | (with_reducible first | apply c_seq | apply c_reg | apply c_dreg0 | apply c_block | apply c_ret | apply c_exit | apply c_skip | apply ops_nil | apply d_nil | apply k_seq_n | apply k_seq_r | apply k_seq_x | apply k_blk_n | apply k_blk_r | apply k_blk_x | apply k_end_n | apply k_end_r | apply k_loop_x | apply k_loop_r | apply c_dreg1 | apply c_dreg2)
      | ((with_reducible first | apply op_gS | apply op_g0 | apply d_gS | apply d_g0); (focus (simp only [W0, reduceIte, Nat.reduceEqDiff, Nat.reduceAdd, Nat.reduceSub, Nat.reduceLeDiff, z0, beq_self_eq_true, bne_self_eq_false, BEq.rfl]; rfl)); (with_reducible first | apply g_no | apply g_T | apply g_F); all_goals (try (intro hc; first | exact absurd hc (by decide) | subst hc | clear hc)))
      | ((with_reducible apply c_cond); (focus (simp only [W0, reduceIte, Nat.reduceEqDiff, Nat.reduceAdd, Nat.reduceSub, Nat.reduceLeDiff, z0, beq_self_eq_true, bne_self_eq_false, BEq.rfl]; rfl)); all_goals (intro hc; first | exact absurd hc (by decide) | subst hc | clear hc))
      | ((with_reducible first | apply op_isB | apply d_isV); (focus rfl); (focus (simp only [W0, reduceIte, Nat.reduceEqDiff, Nat.reduceAdd, Nat.reduceSub, Nat.reduceLeDiff, z0, beq_self_eq_true, bne_self_eq_false, BEq.rfl]; rfl)); intro c' hc'; try with_reducible first | cases (show true = c' from hc') | cases (show false = c' from hc'))
      | ((with_reducible first | apply op_step | apply op_step0 | apply d_ld | apply d_st | apply d_new | apply d_box | apply d_bsl | apply d_apw | apply d_apa | apply d_v); (focus (simp only [W0, reduceIte, Nat.reduceEqDiff, Nat.reduceAdd, Nat.reduceSub, Nat.reduceLeDiff, z0, beq_self_eq_true, bne_self_eq_false, BEq.rfl]; rfl)); all_goals (try rfl))
    refine c_loop [0, 2] (fun n env rs => n = 0 ∧ env = [(0, .nil 5), (2, .int .i64 0)] ∧ rs = rows) 0
      (back_keep (Nat.le_refl _) (by simp [look, idsL, idsV]) hok ⟨rfl, by simp [look], rfl⟩) ?_
    rintro n env rs ⟨rfl, rfl, rfl⟩
    repeat' first
      | (with_reducible first | apply c_seq | apply c_reg | apply c_dreg0 | apply c_block | apply c_ret | apply c_exit | apply c_skip | apply ops_nil | apply d_nil | apply k_seq_n | apply k_seq_r | apply k_seq_x | apply k_blk_n | apply k_blk_r | apply k_blk_x | apply k_end_n | apply k_end_r | apply k_loop_x | apply k_loop_r | apply c_dreg1 | apply c_dreg2)
      | ((with_reducible first | apply op_gS | apply op_g0 | apply d_gS | apply d_g0); (focus (simp only [W0, reduceIte, Nat.reduceEqDiff, Nat.reduceAdd, Nat.reduceSub, Nat.reduceLeDiff, z0, beq_self_eq_true, bne_self_eq_false, BEq.rfl]; rfl)); (with_reducible first | apply g_no | apply g_T | apply g_F); all_goals (try (intro hc; first | exact absurd hc (by decide) | subst hc | clear hc)))
      | ((with_reducible apply c_cond); (focus (simp only [W0, reduceIte, Nat.reduceEqDiff, Nat.reduceAdd, Nat.reduceSub, Nat.reduceLeDiff, z0, beq_self_eq_true, bne_self_eq_false, BEq.rfl]; rfl)); all_goals (intro hc; first | exact absurd hc (by decide) | subst hc | clear hc))
      | ((with_reducible first | apply op_isB | apply d_isV); (focus rfl); (focus (simp only [W0, reduceIte, Nat.reduceEqDiff, Nat.reduceAdd, Nat.reduceSub, Nat.reduceLeDiff, z0, beq_self_eq_true, bne_self_eq_false, BEq.rfl]; rfl)); intro c' hc'; try with_reducible first | cases (show true = c' from hc') | cases (show false = c' from hc'))
      | ((with_reducible first | apply op_step | apply op_step0 | apply d_ld | apply d_st | apply d_new | apply d_box | apply d_bsl | apply d_apw | apply d_apa | apply d_v); (focus (simp only [W0, reduceIte, Nat.reduceEqDiff, Nat.reduceAdd, Nat.reduceSub, Nat.reduceLeDiff, z0, beq_self_eq_true, bne_self_eq_false, BEq.rfl]; rfl)); all_goals (try rfl))
    all_goals first | (exfalso; refine Bool.false_ne_true ?_; first | assumption | (symm; assumption)) | (exact absurd ‹true = false› (by decide)) | skip
    · exact ret_void (Nat.le_refl _) hok ⟨none, (set_same hr).symm⟩
  | some l =>
    simp only [slL_some] at hel hm
    have hel' : ∀ us ∈ l, ∃ x : Int, us = [.int .u8 x] := by
      intro us hus
      obtain ⟨n, h1, _⟩ := (hel us hus).int u5
      exact ⟨n, h1⟩
    refine trF_ok mixed t82 (by simp [m82]) (f_body ?_)
    simp only [m82, argEnv, List.length_nil, List.nil_append, List.cons_append, Nat.zero_add, slS_some]
    repeat' first
      | (with_reducible first | apply c_seq | apply c_reg | apply c_dreg0 | apply c_block | apply c_ret | apply c_exit | apply c_skip | apply ops_nil | apply d_nil | apply k_seq_n | apply k_seq_r | apply k_seq_x | apply k_blk_n | apply k_blk_r | apply k_blk_x | apply k_end_n | apply k_end_r | apply k_loop_x | apply k_loop_r | apply c_dreg1 | apply c_dreg2)
      | ((with_reducible first | apply op_gS | apply op_g0 | apply d_gS | apply d_g0); (focus (simp only [W0, reduceIte, Nat.reduceEqDiff, Nat.reduceAdd, Nat.reduceSub, Nat.reduceLeDiff, beq_self_eq_true, bne_self_eq_false, BEq.rfl]; rfl)); (with_reducible first | apply g_no | apply g_T | apply g_F); all_goals (try (intro hc; first | exact absurd hc (by decide) | subst hc | clear hc)))
      | ((with_reducible apply c_cond); (focus (simp only [W0, reduceIte, Nat.reduceEqDiff, Nat.reduceAdd, Nat.reduceSub, Nat.reduceLeDiff, beq_self_eq_true, bne_self_eq_false, BEq.rfl]; rfl)); all_goals (intro hc; first | exact absurd hc (by decide) | subst hc | clear hc))
      | ((with_reducible first | apply op_isB | apply d_isV); (focus rfl); (focus (simp only [W0, reduceIte, Nat.reduceEqDiff, Nat.reduceAdd, Nat.reduceSub, Nat.reduceLeDiff, beq_self_eq_true, bne_self_eq_false, BEq.rfl]; rfl)); intro c' hc'; try with_reducible first | cases (show true = c' from hc') | cases (show false = c' from hc'))
      | ((with_reducible first | apply op_step | apply op_step0 | apply d_ld | apply d_st | apply d_new | apply d_box | apply d_bsl | apply d_apw | apply d_apa | apply d_v); (focus (simp only [W0, reduceIte, Nat.reduceEqDiff, Nat.reduceAdd, Nat.reduceSub, Nat.reduceLeDiff, beq_self_eq_true, bne_self_eq_false, BEq.rfl]; rfl)); all_goals (try rfl))
    refine c_loop [0, 2] (fun n env rs => ∃ (k : Nat) (l' : List (List AV)), k ≤ l.length ∧ n = l.length - k ∧ env = [(0, .sref id l.length), (2, .int .i64 (k : Int))] ∧ rs = rows.set id (.vec 5 l') ∧ l'.length = l.length ∧ ∀ us ∈ l', ∃ x : Int, us = [.int .u8 x]) l.length
      (back_keep (Nat.le_refl _) (by simp [look, idsL, idsV]; exact hid) hok ⟨0, l, Nat.zero_le _, rfl, by simp [look], (set_same hr).symm, rfl, hel'⟩) ?_
    rintro n env rs ⟨k, l', hk, rfl, rfl, rfl, hll, hin⟩
    have hok' : okR (rows.set id (.vec 5 l')) := okR_set hok rfl
    have hrow : (rows.set id (.vec 5 l'))[id]? = some (.vec 5 l') := by rw [List.getElem?_set_self hid]
    rcases Nat.lt_or_ge k l.length with hk' | hk'
    · have hd : decide ((k : Int) < (l.length : Int)) = true := decide_eq_true (by omega)
      have p3 : (0 ≤ (k : Int)) = True := eq_true (by omega)
      have p7 : ((k : Int) < (l.length : Int)) = True := eq_true (by omega)
      have hk2 : k < l'.length := by omega
      have hx := hin _ (List.getElem_mem hk2)
      have hx0 : l'[k]? = some l'[k] := List.getElem?_eq_getElem hk2
      generalize l'[k] = us at hx hx0
      obtain ⟨x, rfl⟩ := hx
      have w3 : IntKind.i64.wrap ((k : Int) + 1) = ((k + 1 : Nat) : Int) := wrap_succ hk' hm
      repeat' first
        | (with_reducible first | apply c_seq | apply c_reg | apply c_dreg0 | apply c_block | apply c_ret | apply c_exit | apply c_skip | apply ops_nil | apply d_nil | apply k_seq_n | apply k_seq_r | apply k_seq_x | apply k_blk_n | apply k_blk_r | apply k_blk_x | apply k_end_n | apply k_end_r | apply k_loop_x | apply k_loop_r | apply c_dreg1 | apply c_dreg2)
        | ((with_reducible first | apply op_gS | apply op_g0 | apply d_gS | apply d_g0); (focus (simp only [W0, reduceIte, Nat.reduceEqDiff, Nat.reduceAdd, Nat.reduceSub, Nat.reduceLeDiff, hd, p3, p7, hrow, Int.toNat_natCast, true_and, hx0, beq_self_eq_true, bne_self_eq_false, BEq.rfl]; rfl)); (with_reducible first | apply g_no | apply g_T | apply g_F); all_goals (try (intro hc; first | exact absurd hc (by decide) | subst hc | clear hc)))
        | ((with_reducible apply c_cond); (focus (simp only [W0, reduceIte, Nat.reduceEqDiff, Nat.reduceAdd, Nat.reduceSub, Nat.reduceLeDiff, hd, p3, p7, hrow, Int.toNat_natCast, true_and, hx0, beq_self_eq_true, bne_self_eq_false, BEq.rfl]; rfl)); all_goals (intro hc; first | exact absurd hc (by decide) | subst hc | clear hc))
        | ((with_reducible first | apply op_isB | apply d_isV); (focus rfl); (focus (simp only [W0, reduceIte, Nat.reduceEqDiff, Nat.reduceAdd, Nat.reduceSub, Nat.reduceLeDiff, hd, p3, p7, hrow, Int.toNat_natCast, true_and, hx0, beq_self_eq_true, bne_self_eq_false, BEq.rfl]; rfl)); intro c' hc'; try with_reducible first | cases (show true = c' from hc') | cases (show false = c' from hc'))
        | ((with_reducible first | apply op_step | apply op_step0 | apply d_ld | apply d_st | apply d_new | apply d_box | apply d_bsl | apply d_apw | apply d_apa | apply d_v); (focus (simp only [W0, reduceIte, Nat.reduceEqDiff, Nat.reduceAdd, Nat.reduceSub, Nat.reduceLeDiff, hd, p3, p7, hrow, Int.toNat_natCast, true_and, hx0, beq_self_eq_true, bne_self_eq_false, BEq.rfl]; rfl)); all_goals (try rfl))
      all_goals first | (exfalso; refine Bool.false_ne_true ?_; first | assumption | (symm; assumption)) | (exact absurd ‹true = false› (by decide)) | skip
      · refine k_loop_n (l.length - (k + 1)) (by omega) (back_keep (by simp) (by simp [look, idsL, idsV]; exact hid) (okR_set hok' rfl) ⟨k + 1, l'.set k [.int .u8 (IntKind.u8.wrap (x + 101))], by omega, rfl, by simp [look, w3], by rw [List.set_set] <;> rfl, by simp [hll], fun us hus => ?_⟩)
        rcases List.mem_or_eq_of_mem_set hus with h1 | rfl
        · exact hin us h1
        · exact ⟨_, rfl⟩
    · have hd : decide ((k : Int) < (l.length : Int)) = false := decide_eq_false (by omega)
      repeat' first
        | (with_reducible first | apply c_seq | apply c_reg | apply c_dreg0 | apply c_block | apply c_ret | apply c_exit | apply c_skip | apply ops_nil | apply d_nil | apply k_seq_n | apply k_seq_r | apply k_seq_x | apply k_blk_n | apply k_blk_r | apply k_blk_x | apply k_end_n | apply k_end_r | apply k_loop_x | apply k_loop_r | apply c_dreg1 | apply c_dreg2)
        | ((with_reducible first | apply op_gS | apply op_g0 | apply d_gS | apply d_g0); (focus (simp only [W0, reduceIte, Nat.reduceEqDiff, Nat.reduceAdd, Nat.reduceSub, Nat.reduceLeDiff, hd, beq_self_eq_true, bne_self_eq_false, BEq.rfl]; rfl)); (with_reducible first | apply g_no | apply g_T | apply g_F); all_goals (try (intro hc; first | exact absurd hc (by decide) | subst hc | clear hc)))
        | ((with_reducible apply c_cond); (focus (simp only [W0, reduceIte, Nat.reduceEqDiff, Nat.reduceAdd, Nat.reduceSub, Nat.reduceLeDiff, hd, beq_self_eq_true, bne_self_eq_false, BEq.rfl]; rfl)); all_goals (intro hc; first | exact absurd hc (by decide) | subst hc | clear hc))
        | ((with_reducible first | apply op_isB | apply d_isV); (focus rfl); (focus (simp only [W0, reduceIte, Nat.reduceEqDiff, Nat.reduceAdd, Nat.reduceSub, Nat.reduceLeDiff, hd, beq_self_eq_true, bne_self_eq_false, BEq.rfl]; rfl)); intro c' hc'; try with_reducible first | cases (show true = c' from hc') | cases (show false = c' from hc'))
        | ((with_reducible first | apply op_step | apply op_step0 | apply d_ld | apply d_st | apply d_new | apply d_box | apply d_bsl | apply d_apw | apply d_apa | apply d_v); (focus (simp only [W0, reduceIte, Nat.reduceEqDiff, Nat.reduceAdd, Nat.reduceSub, Nat.reduceLeDiff, hd, beq_self_eq_true, bne_self_eq_false, BEq.rfl]; rfl)); all_goals (try rfl))
      all_goals first | (exfalso; refine Bool.false_ne_true ?_; first | assumption | (symm; assumption)) | (exact absurd ‹true = false› (by decide)) | skip
      · exact ret_void (by simp) hok' ⟨some l', rfl⟩
theorem f83 (rows : List Row) (id : Nat) (o : Option (List (List AV))) (hr : rows[id]? = some (rwS 66 o)) (hel : ∀ us ∈ slL o, HasT prog 66 us) (hm : (slL o).length ≤ maxLen) (hok : okR rows) : CW prog 83 [slS 66 id o] rows (fun r rs => ∃ o', rs = rows.set id (rwS 66 o')) := by
  have hid : id < rows.length := (List.getElem?_eq_some_iff.1 hr).1
  cases o with
  | none =>
    refine trF_ok mixed t83 (by simp [m83]) (f_body ?_)
    simp only [m83, argEnv, List.length_nil, List.nil_append, List.cons_append, Nat.zero_add, slS_none]
    have z0 : decide ((0 : Int) < 0) = false := rfl
    repeat' first
      | (with_reducible first | apply c_seq | apply c_reg | apply c_dreg0 | apply c_block | apply c_ret | apply c_exit | apply c_skip | apply ops_nil | apply d_nil | apply k_seq_n | apply k_seq_r | apply k_seq_x | apply k_blk_n | apply k_blk_r | apply k_blk_x | apply k_end_n | apply k_end_r | apply k_loop_x | apply k_loop_r | apply c_dreg1 | apply c_dreg2)
      | ((with_reducible first | apply op_gS | apply op_g0 | apply d_gS | apply d_g0); (focus (simp only [W0, reduceIte, Nat.reduceEqDiff, Nat.reduceAdd, Nat.reduceSub, Nat.reduceLeDiff, z0, beq_self_eq_true, bne_self_eq_false, BEq.rfl]; rfl)); (with_reducible first | apply g_no | apply g_T | apply g_F); all_goals (try (intro hc; first | exact absurd hc (by decide) | subst hc | clear hc)))
      | ((with_reducible apply c_cond); (focus (simp only [W0, reduceIte, Nat.reduceEqDiff, Nat.reduceAdd, Nat.reduceSub, Nat.reduceLeDiff, z0, beq_self_eq_true, bne_self_eq_false, BEq.rfl]; rfl)); all_goals (intro hc; first | exact absurd hc (by decide) | subst hc | clear hc))
      | ((with_reducible first | apply op_isB | apply d_isV); (focus rfl); (focus (simp only [W0, reduceIte, Nat.reduceEqDiff, Nat.reduceAdd, Nat.reduceSub, Nat.reduceLeDiff, z0, beq_self_eq_true, bne_self_eq_false, BEq.rfl]; rfl)); intro c' hc'; try with_reducible first | cases (show true = c' from hc') | cases (show false = c' from hc'))
      | ((with_reducible first | apply op_step | apply op_step0 | apply d_ld | apply d_st | apply d_new | apply d_box | apply d_bsl | apply d_apw | apply d_apa | apply d_v); (focus (simp only [W0, reduceIte, Nat.reduceEqDiff, Nat.reduceAdd, Nat.reduceSub, Nat.reduceLeDiff, z0, beq_self_eq_true, bne_self_eq_false, BEq.rfl]; rfl)); all_goals (try rfl))
    refine c_loop [0, 2] (fun n env rs => n = 0 ∧ env = [(0, .nil 66), (2, .int .i64 0)] ∧ rs = rows) 0
      (back_keep (Nat.le_refl _) (by simp [look, idsL, idsV]) hok ⟨rfl, by simp [look], rfl⟩) ?_
    rintro n env rs ⟨rfl, rfl, rfl⟩
    repeat' first
      | (with_reducible first | apply c_seq | apply c_reg | apply c_dreg0 | apply c_block | apply c_ret | apply c_exit | apply c_skip | apply ops_nil | apply d_nil | apply k_seq_n | apply k_seq_r | apply k_seq_x | apply k_blk_n | apply k_blk_r | apply k_blk_x | apply k_end_n | apply k_end_r | apply k_loop_x | apply k_loop_r | apply c_dreg1 | apply c_dreg2)
      | ((with_reducible first | apply op_gS | apply op_g0 | apply d_gS | apply d_g0); (focus (simp only [W0, reduceIte, Nat.reduceEqDiff, Nat.reduceAdd, Nat.reduceSub, Nat.reduceLeDiff, z0, beq_self_eq_true, bne_self_eq_false, BEq.rfl]; rfl)); (with_reducible first | apply g_no | apply g_T | apply g_F); all_goals (try (intro hc; first | exact absurd hc (by decide) | subst hc | clear hc)))
      | ((with_reducible apply c_cond); (focus (simp only [W0, reduceIte, Nat.reduceEqDiff, Nat.reduceAdd, Nat.reduceSub, Nat.reduceLeDiff, z0, beq_self_eq_true, bne_self_eq_false, BEq.rfl]; rfl)); all_goals (intro hc; first | exact absurd hc (by decide) | subst hc | clear hc))
      | ((with_reducible first | apply op_isB | apply d_isV); (focus rfl); (focus (simp only [W0, reduceIte, Nat.reduceEqDiff, Nat.reduceAdd, Nat.reduceSub, Nat.reduceLeDiff, z0, beq_self_eq_true, bne_self_eq_false, BEq.rfl]; rfl)); intro c' hc'; try with_reducible first | cases (show true = c' from hc') | cases (show false = c' from hc'))
      | ((with_reducible first | apply op_step | apply op_step0 | apply d_ld | apply d_st | apply d_new | apply d_box | apply d_bsl | apply d_apw | apply d_apa | apply d_v); (focus (simp only [W0, reduceIte, Nat.reduceEqDiff, Nat.reduceAdd, Nat.reduceSub, Nat.reduceLeDiff, z0, beq_self_eq_true, bne_self_eq_false, BEq.rfl]; rfl)); all_goals (try rfl))
    all_goals first | (exfalso; refine Bool.false_ne_true ?_; first | assumption | (symm; assumption)) | (exact absurd ‹true = false› (by decide)) | skip
    · exact ret_void (Nat.le_refl _) hok ⟨none, (set_same hr).symm⟩
  | some l =>
    simp only [slL_some] at hel hm
    have hel' : ∀ us ∈ l, ∃ x : V66, us = x.l := by
      intro us hus
      obtain ⟨q, h1, _⟩ := has66 (hel us hus)
      exact ⟨q, h1⟩
    refine trF_ok mixed t83 (by simp [m83]) (f_body ?_)
    simp only [m83, argEnv, List.length_nil, List.nil_append, List.cons_append, Nat.zero_add, slS_some]
    repeat' first
      | (with_reducible first | apply c_seq | apply c_reg | apply c_dreg0 | apply c_block | apply c_ret | apply c_exit | apply c_skip | apply ops_nil | apply d_nil | apply k_seq_n | apply k_seq_r | apply k_seq_x | apply k_blk_n | apply k_blk_r | apply k_blk_x | apply k_end_n | apply k_end_r | apply k_loop_x | apply k_loop_r | apply c_dreg1 | apply c_dreg2)
      | ((with_reducible first | apply op_gS | apply op_g0 | apply d_gS | apply d_g0); (focus (simp only [W0, reduceIte, Nat.reduceEqDiff, Nat.reduceAdd, Nat.reduceSub, Nat.reduceLeDiff, beq_self_eq_true, bne_self_eq_false, BEq.rfl]; rfl)); (with_reducible first | apply g_no | apply g_T | apply g_F); all_goals (try (intro hc; first | exact absurd hc (by decide) | subst hc | clear hc)))
      | ((with_reducible apply c_cond); (focus (simp only [W0, reduceIte, Nat.reduceEqDiff, Nat.reduceAdd, Nat.reduceSub, Nat.reduceLeDiff, beq_self_eq_true, bne_self_eq_false, BEq.rfl]; rfl)); all_goals (intro hc; first | exact absurd hc (by decide) | subst hc | clear hc))
      | ((with_reducible first | apply op_isB | apply d_isV); (focus rfl); (focus (simp only [W0, reduceIte, Nat.reduceEqDiff, Nat.reduceAdd, Nat.reduceSub, Nat.reduceLeDiff, beq_self_eq_true, bne_self_eq_false, BEq.rfl]; rfl)); intro c' hc'; try with_reducible first | cases (show true = c' from hc') | cases (show false = c' from hc'))
      | ((with_reducible first | apply op_step | apply op_step0 | apply d_ld | apply d_st | apply d_new | apply d_box | apply d_bsl | apply d_apw | apply d_apa | apply d_v); (focus (simp only [W0, reduceIte, Nat.reduceEqDiff, Nat.reduceAdd, Nat.reduceSub, Nat.reduceLeDiff, beq_self_eq_true, bne_self_eq_false, BEq.rfl]; rfl)); all_goals (try rfl))
    refine c_loop [0, 2] (fun n env rs => ∃ (k : Nat) (l' : List (List AV)), k ≤ l.length ∧ n = l.length - k ∧ env = [(0, .sref id l.length), (2, .int .i64 (k : Int))] ∧ rs = rows.set id (.vec 66 l') ∧ l'.length = l.length ∧ ∀ us ∈ l', ∃ x : V66, us = x.l) l.length
      (back_keep (Nat.le_refl _) (by simp [look, idsL, idsV]; exact hid) hok ⟨0, l, Nat.zero_le _, rfl, by simp [look], (set_same hr).symm, rfl, hel'⟩) ?_
    rintro n env rs ⟨k, l', hk, rfl, rfl, rfl, hll, hin⟩
    have hok' : okR (rows.set id (.vec 66 l')) := okR_set hok rfl
    have hrow : (rows.set id (.vec 66 l'))[id]? = some (.vec 66 l') := by rw [List.getElem?_set_self hid]
    rcases Nat.lt_or_ge k l.length with hk' | hk'
    · have hd : decide ((k : Int) < (l.length : Int)) = true := decide_eq_true (by omega)
      have p3 : (0 ≤ (k : Int)) = True := eq_true (by omega)
      have p7 : ((k : Int) < (l.length : Int)) = True := eq_true (by omega)
      have hk2 : k < l'.length := by omega
      have hx := hin _ (List.getElem_mem hk2)
      have hx0 : l'[k]? = some l'[k] := List.getElem?_eq_getElem hk2
      generalize l'[k] = us at hx hx0
      obtain ⟨x, rfl⟩ := hx
      have w3 : IntKind.i64.wrap ((k : Int) + 1) = ((k + 1 : Nat) : Int) := wrap_succ hk' hm
      simp only [V66.l, V64.l, V62.l, V60.l, V23.l, List.cons_append, List.nil_append] at hx0
      repeat' first
        | (with_reducible first | apply c_seq | apply c_reg | apply c_dreg0 | apply c_block | apply c_ret | apply c_exit | apply c_skip | apply ops_nil | apply d_nil | apply k_seq_n | apply k_seq_r | apply k_seq_x | apply k_blk_n | apply k_blk_r | apply k_blk_x | apply k_end_n | apply k_end_r | apply k_loop_x | apply k_loop_r | apply c_dreg1 | apply c_dreg2)
        | ((with_reducible first | apply op_gS | apply op_g0 | apply d_gS | apply d_g0); (focus (simp only [W0, reduceIte, Nat.reduceEqDiff, Nat.reduceAdd, Nat.reduceSub, Nat.reduceLeDiff, hd, p3, p7, hrow, Int.toNat_natCast, true_and, hx0, V66.l, V64.l, V62.l, V60.l, V23.l, beq_self_eq_true, bne_self_eq_false, BEq.rfl]; rfl)); (with_reducible first | apply g_no | apply g_T | apply g_F); all_goals (try (intro hc; first | exact absurd hc (by decide) | subst hc | clear hc)))
        | ((with_reducible apply c_cond); (focus (simp only [W0, reduceIte, Nat.reduceEqDiff, Nat.reduceAdd, Nat.reduceSub, Nat.reduceLeDiff, hd, p3, p7, hrow, Int.toNat_natCast, true_and, hx0, V66.l, V64.l, V62.l, V60.l, V23.l, beq_self_eq_true, bne_self_eq_false, BEq.rfl]; rfl)); all_goals (intro hc; first | exact absurd hc (by decide) | subst hc | clear hc))
        | ((with_reducible first | apply op_isB | apply d_isV); (focus rfl); (focus (simp only [W0, reduceIte, Nat.reduceEqDiff, Nat.reduceAdd, Nat.reduceSub, Nat.reduceLeDiff, hd, p3, p7, hrow, Int.toNat_natCast, true_and, hx0, V66.l, V64.l, V62.l, V60.l, V23.l, beq_self_eq_true, bne_self_eq_false, BEq.rfl]; rfl)); intro c' hc'; try with_reducible first | cases (show true = c' from hc') | cases (show false = c' from hc'))
        | ((with_reducible first | apply op_step | apply op_step0 | apply d_ld | apply d_st | apply d_new | apply d_box | apply d_bsl | apply d_apw | apply d_apa | apply d_v); (focus (simp only [W0, reduceIte, Nat.reduceEqDiff, Nat.reduceAdd, Nat.reduceSub, Nat.reduceLeDiff, hd, p3, p7, hrow, Int.toNat_natCast, true_and, hx0, V66.l, V64.l, V62.l, V60.l, V23.l, beq_self_eq_true, bne_self_eq_false, BEq.rfl]; rfl)); all_goals (try rfl))
      all_goals first | (exfalso; refine Bool.false_ne_true ?_; first | assumption | (symm; assumption)) | (exact absurd ‹true = false› (by decide)) | skip
      · refine k_loop_n (l.length - (k + 1)) (by omega) (back_keep (by simp) (by simp [look, idsL, idsV]; exact hid) (okR_set hok' rfl) ⟨k + 1, l'.set k (V66.mk (-77) x.f1 x.f2 x.f3).l, by omega, rfl, by simp [look, w3], by rw [List.set_set] <;> rfl, by simp [hll], fun us hus => ?_⟩)
        rcases List.mem_or_eq_of_mem_set hus with h1 | rfl
        · exact hin us h1
        · exact ⟨_, rfl⟩
    · have hd : decide ((k : Int) < (l.length : Int)) = false := decide_eq_false (by omega)
      repeat' first
        | (with_reducible first | apply c_seq | apply c_reg | apply c_dreg0 | apply c_block | apply c_ret | apply c_exit | apply c_skip | apply ops_nil | apply d_nil | apply k_seq_n | apply k_seq_r | apply k_seq_x | apply k_blk_n | apply k_blk_r | apply k_blk_x | apply k_end_n | apply k_end_r | apply k_loop_x | apply k_loop_r | apply c_dreg1 | apply c_dreg2)
        | ((with_reducible first | apply op_gS | apply op_g0 | apply d_gS | apply d_g0); (focus (simp only [W0, reduceIte, Nat.reduceEqDiff, Nat.reduceAdd, Nat.reduceSub, Nat.reduceLeDiff, hd, beq_self_eq_true, bne_self_eq_false, BEq.rfl]; rfl)); (with_reducible first | apply g_no | apply g_T | apply g_F); all_goals (try (intro hc; first | exact absurd hc (by decide) | subst hc | clear hc)))
        | ((with_reducible apply c_cond); (focus (simp only [W0, reduceIte, Nat.reduceEqDiff, Nat.reduceAdd, Nat.reduceSub, Nat.reduceLeDiff, hd, beq_self_eq_true, bne_self_eq_false, BEq.rfl]; rfl)); all_goals (intro hc; first | exact absurd hc (by decide) | subst hc | clear hc))
        | ((with_reducible first | apply op_isB | apply d_isV); (focus rfl); (focus (simp only [W0, reduceIte, Nat.reduceEqDiff, Nat.reduceAdd, Nat.reduceSub, Nat.reduceLeDiff, hd, beq_self_eq_true, bne_self_eq_false, BEq.rfl]; rfl)); intro c' hc'; try with_reducible first | cases (show true = c' from hc') | cases (show false = c' from hc'))
        | ((with_reducible first | apply op_step | apply op_step0 | apply d_ld | apply d_st | apply d_new | apply d_box | apply d_bsl | apply d_apw | apply d_apa | apply d_v); (focus (simp only [W0, reduceIte, Nat.reduceEqDiff, Nat.reduceAdd, Nat.reduceSub, Nat.reduceLeDiff, hd, beq_self_eq_true, bne_self_eq_false, BEq.rfl]; rfl)); all_goals (try rfl))
      all_goals first | (exfalso; refine Bool.false_ne_true ?_; first | assumption | (symm; assumption)) | (exact absurd ‹true = false› (by decide)) | skip
      · exact ret_void (by simp) hok' ⟨some l', rfl⟩
theorem f39 (rows : List Row) (H : List AV) (i j : Nat) (x : V27) (h5 : (∀ us ∈ slL x.f5, HasT prog 5 us) ∧ (slL x.f5).length ≤ maxLen) (h6 : (∀ us ∈ slL x.f6, HasT prog 66 us) ∧ (slL x.f6).length ≤ maxLen) (hij : i ≠ j) (hi : rows[i]? = some (rwS 5 x.f5)) (hj : rows[j]? = some (rwS 66 x.f6)) (hok : okR rows) :
    CW prog 39 [.agg [.int .i64 x.f0, .int .i64 x.f1, .int .i64 x.f2, .int .i64 x.f3, .int .i64 x.f4.f0, .int .i64 x.f4.f1, .int .i64 x.f4.f2, .int .i64 x.f4.f3, slS 5 i x.f5, slS 66 j x.f6]] rows (fun r rs => ∃ o5 o6, rs = (rows.set i (rwS 5 o5)).set j (rwS 66 o6)) := by
  have hil : i < rows.length := (List.getElem?_eq_some_iff.1 hi).1
  have hjl : j < rows.length := (List.getElem?_eq_some_iff.1 hj).1
  have hbx : (rows ++ [Row.box 27 [.int .i64 x.f0, .int .i64 x.f1, .int .i64 x.f2, .int .i64 x.f3, .int .i64 x.f4.f0, .int .i64 x.f4.f1, .int .i64 x.f4.f2, .int .i64 x.f4.f3, slS 5 i x.f5, slS 66 j x.f6]])[rows.length]? = some (Row.box 27 [.int .i64 x.f0, .int .i64 x.f1, .int .i64 x.f2, .int .i64 x.f3, .int .i64 x.f4.f0, .int .i64 x.f4.f1, .int .i64 x.f4.f2, .int .i64 x.f4.f3, slS 5 i x.f5, slS 66 j x.f6]) := by simp
  generalize hB : Row.box 27 [.int .i64 x.f0, .int .i64 x.f1, .int .i64 x.f2, .int .i64 x.f3, .int .i64 x.f4.f0, .int .i64 x.f4.f1, .int .i64 x.f4.f2, .int .i64 x.f4.f3, slS 5 i x.f5, slS 66 j x.f6] = B at hbx
  have hB' := hB.symm
  have hbx' : (rows ++ [B])[rows.length]? = some (Row.box 27 [.int .i64 x.f0, .int .i64 x.f1, .int .i64 x.f2, .int .i64 x.f3, .int .i64 x.f4.f0, .int .i64 x.f4.f1, .int .i64 x.f4.f2, .int .i64 x.f4.f3, slS 5 i x.f5, slS 66 j x.f6]) := by rw [hbx, hB']
  have hokB : okR (rows ++ [B]) := by
    intro r hr k hk
    simp only [List.length_append, List.length_cons, List.length_nil]
    rcases List.mem_append.1 hr with h1 | h1
    · have := hok r h1 k hk; omega
    · simp only [List.mem_cons, List.not_mem_nil, or_false] at h1
      subst h1; rw [hB'] at hk
      simp only [idsR_box, idsL, idsV, List.nil_append, List.append_nil, List.mem_append] at hk
      rcases hk with h2 | h2
      · have := slS_ids h2; omega
      · have := slS_ids h2; omega
  have h82 := f82 (rows ++ [B]) i x.f5 (by rw [List.getElem?_append_left hil]; exact hi) h5.1 h5.2 hokB
  refine trF_ok mixed t39 (by simp [m39]) (f_body ?_)
  simp only [m39, argEnv, List.length_nil, List.nil_append, List.cons_append, Nat.zero_add]
  repeat' first
    | (with_reducible first | apply c_seq | apply c_reg | apply c_dreg0 | apply c_block | apply c_ret | apply c_exit | apply c_skip | apply ops_nil | apply d_nil | apply k_seq_n | apply k_seq_r | apply k_seq_x | apply k_blk_n | apply k_blk_r | apply k_blk_x | apply k_end_n | apply k_end_r | apply k_loop_x | apply k_loop_r | apply c_dreg1 | apply c_dreg2)
    | ((with_reducible first | apply op_gS | apply op_g0 | apply d_gS | apply d_g0); (focus (simp only [W0, reduceIte, Nat.reduceEqDiff, Nat.reduceAdd, Nat.reduceSub, Nat.reduceLeDiff, hB, slS_width, slS_one, slS_items, beq_self_eq_true, bne_self_eq_false, BEq.rfl]; rfl)); (with_reducible first | apply g_no | apply g_T | apply g_F); all_goals (try (intro hc; first | exact absurd hc (by decide) | subst hc | clear hc)))
    | ((with_reducible apply c_cond); (focus (simp only [W0, reduceIte, Nat.reduceEqDiff, Nat.reduceAdd, Nat.reduceSub, Nat.reduceLeDiff, hB, slS_width, slS_one, slS_items, beq_self_eq_true, bne_self_eq_false, BEq.rfl]; rfl)); all_goals (intro hc; first | exact absurd hc (by decide) | subst hc | clear hc))
    | ((with_reducible first | apply op_isB | apply d_isV); (focus rfl); (focus (simp only [W0, reduceIte, Nat.reduceEqDiff, Nat.reduceAdd, Nat.reduceSub, Nat.reduceLeDiff, hB, slS_width, slS_one, slS_items, beq_self_eq_true, bne_self_eq_false, BEq.rfl]; rfl)); intro c' hc'; try with_reducible first | cases (show true = c' from hc') | cases (show false = c' from hc'))
    | ((with_reducible first | apply op_step | apply op_step0 | apply d_ld | apply d_st | apply d_new | apply d_box | apply d_bsl | apply d_apw | apply d_apa | apply d_v); (focus (simp only [W0, reduceIte, Nat.reduceEqDiff, Nat.reduceAdd, Nat.reduceSub, Nat.reduceLeDiff, hB, slS_width, slS_one, slS_items, beq_self_eq_true, bne_self_eq_false, BEq.rfl]; rfl)); all_goals (try rfl))
  repeat' first
    | (with_reducible first | apply c_seq | apply c_reg | apply c_dreg0 | apply c_block | apply c_ret | apply c_exit | apply c_skip | apply ops_nil | apply d_nil | apply k_seq_n | apply k_seq_r | apply k_seq_x | apply k_blk_n | apply k_blk_r | apply k_blk_x | apply k_end_n | apply k_end_r | apply k_loop_x | apply k_loop_r | apply c_dreg1 | apply c_dreg2)
    | ((with_reducible first | apply op_gS | apply op_g0 | apply d_gS | apply d_g0); (focus (simp only [W0, reduceIte, Nat.reduceEqDiff, Nat.reduceAdd, Nat.reduceSub, Nat.reduceLeDiff, hbx', slS_width, slS_one, slS_items, beq_self_eq_true, bne_self_eq_false, BEq.rfl]; rfl)); (with_reducible first | apply g_no | apply g_T | apply g_F); all_goals (try (intro hc; first | exact absurd hc (by decide) | subst hc | clear hc)))
    | ((with_reducible apply c_cond); (focus (simp only [W0, reduceIte, Nat.reduceEqDiff, Nat.reduceAdd, Nat.reduceSub, Nat.reduceLeDiff, hbx', slS_width, slS_one, slS_items, beq_self_eq_true, bne_self_eq_false, BEq.rfl]; rfl)); all_goals (intro hc; first | exact absurd hc (by decide) | subst hc | clear hc))
    | ((with_reducible first | apply op_isB | apply d_isV); (focus rfl); (focus (simp only [W0, reduceIte, Nat.reduceEqDiff, Nat.reduceAdd, Nat.reduceSub, Nat.reduceLeDiff, hbx', slS_width, slS_one, slS_items, beq_self_eq_true, bne_self_eq_false, BEq.rfl]; rfl)); intro c' hc'; try with_reducible first | cases (show true = c' from hc') | cases (show false = c' from hc'))
    | ((with_reducible first | apply op_step | apply op_step0 | apply d_ld | apply d_st | apply d_new | apply d_box | apply d_bsl | apply d_apw | apply d_apa | apply d_v); (focus (simp only [W0, reduceIte, Nat.reduceEqDiff, Nat.reduceAdd, Nat.reduceSub, Nat.reduceLeDiff, hbx', slS_width, slS_one, slS_items, beq_self_eq_true, bne_self_eq_false, BEq.rfl]; rfl)); all_goals (try rfl))
  refine op_cwk h82 ?_
  rintro v rs ⟨o5, rfl⟩
  have hbx2 : ((rows ++ [B]).set i (rwS 5 o5))[rows.length]? = some B := by rw [List.getElem?_set_ne (by omega)]; exact hbx
  have hok2 : okR ((rows ++ [B]).set i (rwS 5 o5)) := okR_set hokB rwS_ids
  have h83 := f83 ((rows ++ [B]).set i (rwS 5 o5)) j x.f6 (by rw [List.getElem?_set_ne hij, List.getElem?_append_left hjl]; exact hj) h6.1 h6.2 hok2
  have hbx3 : ((rows ++ [B]).set i (rwS 5 o5))[rows.length]? = some (Row.box 27 [.int .i64 x.f0, .int .i64 x.f1, .int .i64 x.f2, .int .i64 x.f3, .int .i64 x.f4.f0, .int .i64 x.f4.f1, .int .i64 x.f4.f2, .int .i64 x.f4.f3, slS 5 i x.f5, slS 66 j x.f6]) := by rw [hbx2, hB']
  repeat' first
    | (with_reducible first | apply c_seq | apply c_reg | apply c_dreg0 | apply c_block | apply c_ret | apply c_exit | apply c_skip | apply ops_nil | apply d_nil | apply k_seq_n | apply k_seq_r | apply k_seq_x | apply k_blk_n | apply k_blk_r | apply k_blk_x | apply k_end_n | apply k_end_r | apply k_loop_x | apply k_loop_r | apply c_dreg1 | apply c_dreg2)
    | ((with_reducible first | apply op_gS | apply op_g0 | apply d_gS | apply d_g0); (focus (simp only [W0, reduceIte, Nat.reduceEqDiff, Nat.reduceAdd, Nat.reduceSub, Nat.reduceLeDiff, hbx3, slS_width, slS_one, slS_items, beq_self_eq_true, bne_self_eq_false, BEq.rfl]; rfl)); (with_reducible first | apply g_no | apply g_T | apply g_F); all_goals (try (intro hc; first | exact absurd hc (by decide) | subst hc | clear hc)))
    | ((with_reducible apply c_cond); (focus (simp only [W0, reduceIte, Nat.reduceEqDiff, Nat.reduceAdd, Nat.reduceSub, Nat.reduceLeDiff, hbx3, slS_width, slS_one, slS_items, beq_self_eq_true, bne_self_eq_false, BEq.rfl]; rfl)); all_goals (intro hc; first | exact absurd hc (by decide) | subst hc | clear hc))
    | ((with_reducible first | apply op_isB | apply d_isV); (focus rfl); (focus (simp only [W0, reduceIte, Nat.reduceEqDiff, Nat.reduceAdd, Nat.reduceSub, Nat.reduceLeDiff, hbx3, slS_width, slS_one, slS_items, beq_self_eq_true, bne_self_eq_false, BEq.rfl]; rfl)); intro c' hc'; try with_reducible first | cases (show true = c' from hc') | cases (show false = c' from hc'))
    | ((with_reducible first | apply op_step | apply op_step0 | apply d_ld | apply d_st | apply d_new | apply d_box | apply d_bsl | apply d_apw | apply d_apa | apply d_v); (focus (simp only [W0, reduceIte, Nat.reduceEqDiff, Nat.reduceAdd, Nat.reduceSub, Nat.reduceLeDiff, hbx3, slS_width, slS_one, slS_items, beq_self_eq_true, bne_self_eq_false, BEq.rfl]; rfl)); all_goals (try rfl))
  refine op_cwk h83 ?_
  rintro v' rs ⟨o6, rfl⟩
  repeat' first
    | (with_reducible first | apply c_seq | apply c_reg | apply c_dreg0 | apply c_block | apply c_ret | apply c_exit | apply c_skip | apply ops_nil | apply d_nil | apply k_seq_n | apply k_seq_r | apply k_seq_x | apply k_blk_n | apply k_blk_r | apply k_blk_x | apply k_end_n | apply k_end_r | apply k_loop_x | apply k_loop_r | apply c_dreg1 | apply c_dreg2)
    | ((with_reducible first | apply op_gS | apply op_g0 | apply d_gS | apply d_g0); (focus (simp only [W0, reduceIte, Nat.reduceEqDiff, Nat.reduceAdd, Nat.reduceSub, Nat.reduceLeDiff]; rfl)); (with_reducible first | apply g_no | apply g_T | apply g_F); all_goals (try (intro hc; first | exact absurd hc (by decide) | subst hc | clear hc)))
    | ((with_reducible apply c_cond); (focus (simp only [W0, reduceIte, Nat.reduceEqDiff, Nat.reduceAdd, Nat.reduceSub, Nat.reduceLeDiff]; rfl)); all_goals (intro hc; first | exact absurd hc (by decide) | subst hc | clear hc))
    | ((with_reducible first | apply op_isB | apply d_isV); (focus rfl); (focus (simp only [W0, reduceIte, Nat.reduceEqDiff, Nat.reduceAdd, Nat.reduceSub, Nat.reduceLeDiff]; rfl)); intro c' hc'; try with_reducible first | cases (show true = c' from hc') | cases (show false = c' from hc'))
    | ((with_reducible first | apply op_step | apply op_step0 | apply d_ld | apply d_st | apply d_new | apply d_box | apply d_bsl | apply d_apw | apply d_apa | apply d_v); (focus (simp only [W0, reduceIte, Nat.reduceEqDiff, Nat.reduceAdd, Nat.reduceSub, Nat.reduceLeDiff]; rfl)); all_goals (try rfl))
  have e1 : (((rows ++ [B]).set i (rwS 5 o5)).set j (rwS 66 o6)).take rows.length = (rows.set i (rwS 5 o5)).set j (rwS 66 o6) := by
    rw [List.set_append_left _ _ hil, List.set_append_left _ _ (by simpa using hjl), List.take_append_of_le_length (by simp), List.take_of_length_le (by simp)]
  exact ret_lent (by simp) (by rw [e1]; exact okR_set (okR_set hok rwS_ids) rwS_ids) (by rw [e1]; exact ⟨o5, o6, rfl⟩)
end Go.Sk
