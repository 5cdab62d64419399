/- More rules for walking: results that lead to rows, drawn regions with new rows. Conditions: none (a library text). -/
import Derived.Test.YtnbmngpdbnkhaaaC7Loops
set_option linter.unusedVariables false
set_option linter.unusedSimpArgs false
namespace Go.Sk
open Go.RowKit

/-- What reading and writing come to, by the kind of value: rules for simp, all in one. -/
theorem W1 : type_of% (And.intro @width_int (And.intro @one_int (And.intro @items_int (And.intro @width_bool (And.intro @one_bool (And.intro @items_bool (And.intro @width_str (And.intro @one_str (And.intro @items_str (And.intro @width_flt (And.intro @one_flt (And.intro @items_flt (And.intro @width_nil (And.intro @one_nil (And.intro @items_nil (And.intro @width_fz (And.intro @one_fz (And.intro @items_fz (And.intro @width_sref (And.intro @one_sref (And.intro @items_sref (And.intro @width_ptr (And.intro @one_ptr (And.intro @items_ptr (And.intro @width_ptrA (And.intro @one_ptrA (And.intro @items_ptrA (And.intro @width_ptrE (And.intro @one_ptrE (And.intro @items_ptrE (And.intro @width_pz (And.intro @one_pz (And.intro @items_pz (And.intro @width_nilp (And.intro @one_nilp (And.intro @items_nilp (And.intro @width_arr (And.intro @one_arr (And.intro @items_agg (And.intro @len_nil (And.intro @len_fz (And.intro @len_sref (And.intro @idxS_sref (And.intro @idxS_fz (And.intro @elems_nil' (And.intro @elems_fz (And.intro @thaw_int (And.intro @thaw_bool (And.intro @thaw_str (And.intro @thaw_flt (And.intro @thaw_nil (And.intro @thaw_fz (And.intro @thaw_nilp (And.intro @slA_width (And.intro @slA_one (And.intro @slA_items (And.intro @slA_len (And.intro @slA_elems (And.intro @slA_thaw (And.intro @_root_.List.nil_append.{0} (And.intro @_root_.List.cons_append.{0} (And.intro @_root_.List.length_cons.{0} (And.intro @_root_.List.length_nil.{0} (And.intro @_root_.List.length_map.{0, 0} (And.intro @_root_.List.map_cons.{0, 0} (And.intro @_root_.List.map_nil.{0, 0} (And.intro @_root_.List.getElem?_cons_zero.{0} (And.intro @_root_.List.getElem?_cons_succ.{0} (And.intro @_root_.List.set_cons_zero.{0} (And.intro @_root_.List.set_cons_succ.{0} (And.intro @Nat.zero_add (And.intro @Nat.add_zero (And.intro @Bool.false_eq_true (And.intro @and_self (@eq_self.{1}))))))))))))))))))))))))))))))))))))))))))))))))))))))))))))))))))))))))))) := And.intro @width_int (And.intro @one_int (And.intro @items_int (And.intro @width_bool (And.intro @one_bool (And.intro @items_bool (And.intro @width_str (And.intro @one_str (And.intro @items_str (And.intro @width_flt (And.intro @one_flt (And.intro @items_flt (And.intro @width_nil (And.intro @one_nil (And.intro @items_nil (And.intro @width_fz (And.intro @one_fz (And.intro @items_fz (And.intro @width_sref (And.intro @one_sref (And.intro @items_sref (And.intro @width_ptr (And.intro @one_ptr (And.intro @items_ptr (And.intro @width_ptrA (And.intro @one_ptrA (And.intro @items_ptrA (And.intro @width_ptrE (And.intro @one_ptrE (And.intro @items_ptrE (And.intro @width_pz (And.intro @one_pz (And.intro @items_pz (And.intro @width_nilp (And.intro @one_nilp (And.intro @items_nilp (And.intro @width_arr (And.intro @one_arr (And.intro @items_agg (And.intro @len_nil (And.intro @len_fz (And.intro @len_sref (And.intro @idxS_sref (And.intro @idxS_fz (And.intro @elems_nil' (And.intro @elems_fz (And.intro @thaw_int (And.intro @thaw_bool (And.intro @thaw_str (And.intro @thaw_flt (And.intro @thaw_nil (And.intro @thaw_fz (And.intro @thaw_nilp (And.intro @slA_width (And.intro @slA_one (And.intro @slA_items (And.intro @slA_len (And.intro @slA_elems (And.intro @slA_thaw (And.intro @_root_.List.nil_append.{0} (And.intro @_root_.List.cons_append.{0} (And.intro @_root_.List.length_cons.{0} (And.intro @_root_.List.length_nil.{0} (And.intro @_root_.List.length_map.{0, 0} (And.intro @_root_.List.map_cons.{0, 0} (And.intro @_root_.List.map_nil.{0, 0} (And.intro @_root_.List.getElem?_cons_zero.{0} (And.intro @_root_.List.getElem?_cons_succ.{0} (And.intro @_root_.List.set_cons_zero.{0} (And.intro @_root_.List.set_cons_succ.{0} (And.intro @Nat.zero_add (And.intro @Nat.add_zero (And.intro @Bool.false_eq_true (And.intro @and_self (@eq_self.{1}))))))))))))))))))))))))))))))))))))))))))))))))))))))))))))))))))))))))))

theorem fr1_int (rows : List Row) (k : IntKind) (n : Int) : fr1 rows (.int k n) = some (.int k n, rows) := rfl
theorem fr1_bool (rows : List Row) (b : Bool) : fr1 rows (.bool b) = some (.bool b, rows) := rfl
theorem fr1_str (rows : List Row) (b : ByteArray) : fr1 rows (.str b) = some (.str b, rows) := rfl
theorem fr1_flt (rows : List Row) (b : Nat) : fr1 rows (.flt b) = some (.flt b, rows) := rfl
theorem fr1_nil (rows : List Row) (e : Nat) : fr1 rows (.nil e) = some (.nil e, rows) := rfl
theorem fr1_fz (rows : List Row) (e : Nat) (l : List (List AV)) : fr1 rows (.fz e l) = some (.fz e l, rows) := rfl
theorem fr1_sref (rows : List Row) (i n : Nat) : fr1 rows (.sref i n) = thawV rows (.sref i n) := rfl
theorem fr1_arr (rows : List Row) (l : List AV) : fr1 rows (.arr l) = if (idsL l).isEmpty then some (.arr l, rows) else none := rfl
theorem fr_agg (rows : List Row) (l : List AV) : fr rows (.agg l) = (frL rows l).map fun q => (.agg q.1, q.2) := rfl
theorem fr_tup (rows : List Row) (l : List AV) : fr rows (.tup l) = (frT rows l).map fun q => (.tup q.1, q.2) := rfl
theorem fr_int (rows : List Row) (k : IntKind) (n : Int) : fr rows (.int k n) = some (.int k n, rows) := rfl
theorem fr_bool (rows : List Row) (b : Bool) : fr rows (.bool b) = some (.bool b, rows) := rfl
theorem frV_agg (rows : List Row) (l : List AV) : frV rows (.agg l) = (frL rows l).map fun q => (.agg q.1, q.2) := rfl
theorem frV_int (rows : List Row) (k : IntKind) (n : Int) : frV rows (.int k n) = some (.int k n, rows) := rfl
theorem frV_bool (rows : List Row) (b : Bool) : frV rows (.bool b) = some (.bool b, rows) := rfl
/-- What a result comes to, by the kind of value: rules for simp, all in one. -/
theorem F1 : type_of% (And.intro @fr1_int (And.intro @fr1_bool (And.intro @fr1_str (And.intro @fr1_flt (And.intro @fr1_nil (And.intro @fr1_fz (And.intro @fr1_sref (And.intro @fr1_arr (And.intro @fr_agg (And.intro @fr_tup (And.intro @fr_int (And.intro @fr_bool (And.intro @frV_agg (And.intro @frV_int (And.intro @frV_bool (And.intro @slA_fr1 (And.intro @slA_frV @slA_fr))))))))))))))))) := And.intro @fr1_int (And.intro @fr1_bool (And.intro @fr1_str (And.intro @fr1_flt (And.intro @fr1_nil (And.intro @fr1_fz (And.intro @fr1_sref (And.intro @fr1_arr (And.intro @fr_agg (And.intro @fr_tup (And.intro @fr_int (And.intro @fr_bool (And.intro @frV_agg (And.intro @frV_int (And.intro @frV_bool (And.intro @slA_fr1 (And.intro @slA_frV @slA_fr))))))))))))))))

section
variable {P : Program} {kf : Nat} {env : Env} {rows rows' : List Row} {os : List MOper} {ds : List DOp} {op : MOp} {d t : Nat} {b c : Bool} {v : AV} {K : Env → List Row → Prop} {KC : Ex → Env → List Row → Prop}

/-- A result that leads to rows: all stay. -/
theorem ret_keep {res : List MRes} {Q : AV → List Row → Prop} {vs : List AV} (h : resVs env rows res = some vs) (h1 : ∀ id ∈ idsV (resV vs), id < rows.length) (h2 : ∀ r ∈ rows, ∀ j ∈ idsR r, j < rows.length) (k : Q (resV vs) rows) : RetW 0 res Q env rows := by
  refine ⟨vs, h, List.range rows.length, ⟨Nat.zero_le _, fun i hi => absurd hi (Nat.not_lt_zero _), List.nodup_range, fun id hid => by simpa using h1 id hid, fun id hid => ?_⟩, ?_⟩
  · simp only [List.mem_range] at hid
    exact ⟨rows[id], List.getElem?_eq_getElem hid, fun j hj => by simpa using h2 _ (List.getElem_mem hid) j hj⟩
  · rw [renV_of _ (fun id hid => gcF_range (h1 id hid))]
    have e2 : gcRows (List.range rows.length) rows = rows := by
      apply List.ext_getElem?
      intro i
      simp only [gcRows, List.getElem?_map]
      rcases Nat.lt_or_ge i rows.length with hi | hi
      · rw [List.getElem?_range hi, List.getElem?_eq_getElem hi]
        simp only [Option.map_some, List.getD_eq_getElem?_getD, List.getElem?_eq_getElem hi, Option.getD_some]
        rw [renR_of _ (fun id hid => gcF_range (h2 _ (List.getElem_mem hi) id hid))]
      · rw [List.getElem?_eq_none (by simpa using hi), List.getElem?_eq_none hi]; rfl
    rw [e2]; exact k

/-- A call that answers yes or no; no: something holds. -/
def BoolIf (Q : Prop) (v : AV) : Prop := ∃ b, v = .bool b ∧ (b = false → Q)
theorem op_bcallQ {f : Nat} {args : List Opd} {Q : Prop} (h : FCallE P f (args.map (Opd.get env)) (BoolIf Q)) (k : ∀ b, (b = false → Q) → Sk.wpOps P os ((d, .bool b) :: env) rows K) : Sk.wpOps P (⟨some d, .call f args, none⟩ :: os) env rows K := h.cw (by rintro v ⟨b, rfl, hq⟩; exact k b hq)
theorem op_tcall {f : Nat} {args : List Opd} (h : FCall P f (args.map (Opd.get env)) (.bool true)) (k : Sk.wpOps P os ((d, .bool true) :: env) rows K) : Sk.wpOps P (⟨some d, .call f args, none⟩ :: os) env rows K := h.cw k
theorem c_dreg1 (k : wpD P rows.length ds env (rows ++ [.dead]) (fun env rows => KC .n env rows)) : wpC P kf (.dreg 1 ds) env rows KC := k
theorem c_dreg2 (k : wpD P rows.length ds env (rows ++ [.dead, .dead]) (fun env rows => KC .n env rows)) : wpC P kf (.dreg 2 ds) env rows KC := k
/-- A row that is made where it was kept free. -/
theorem o_a' {g : Opd → AV} {bb : Nat} {dst gd w nx av sep} {u : AV} {r : Row} {rows' : List Row} (hk : (DOp.mk ⟨dst, op, gd⟩ w nx av sep).kd = .a) (h : stepOp g [] op = some (u, [r])) (h1 : newAt (bb + nx) u = some v) (h2 : rows[bb + nx]? = some .dead) (h3 : rows.set (bb + nx) r = rows') : outc P bb ⟨⟨dst, op, gd⟩, w, nx, av, sep⟩ g rows v rows' := by
  subst h3; unfold outc; rw [hk]; exact ⟨u, r, h, h1, h2, rfl⟩
theorem all_nil {Q : Nat → Prop} : ∀ k ∈ ([] : List Nat), Q k := by simp
theorem all_cons {Q : Nat → Prop} {x : Nat} {xs : List Nat} (h : Q x) (hs : ∀ k ∈ xs, Q k) : ∀ k ∈ x :: xs, Q k := by simpa using ⟨h, hs⟩
end
end Go.Sk
