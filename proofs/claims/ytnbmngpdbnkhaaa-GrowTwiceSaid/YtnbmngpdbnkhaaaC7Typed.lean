/- Inputs taken apart by their types; slices that may be nil. Conditions: none (a library text). -/
import Derived.Test.YtnbmngpdbnkhaaaC7Row
set_option linter.unusedVariables false
set_option linter.unusedSimpArgs false
namespace Go.Sk
open Go.RowKit

/-- A slice that nobody writes: nil, or with elements. -/
def slA (e : Nat) : Option (List (List AV)) → AV
  | none => .nil e
  | some l => .fz e l
def slL : Option (List (List AV)) → List (List AV)
  | none => []
  | some l => l

section
variable (e : Nat) (o : Option (List (List AV))) (rows : List Row)
theorem slA_width : (slA e o).width = 1 := by cases o <;> rfl
theorem slA_one : (slA e o).one = true := by cases o <;> rfl
theorem slA_items : itemsOf (slA e o) = some [slA e o] := by cases o <;> rfl
theorem slA_len : lenV (slA e o) = some ((slL o).length : Int) := by cases o <;> rfl
theorem slA_ids : idsV (slA e o) = [] := by cases o <;> rfl
theorem slA_elems : elems e rows (slA e o) = some (slL o) := by cases o <;> simp [slA, slL, elems]
theorem slA_thaw : thawV rows (slA e o) = some (slA e o, rows) := by cases o <;> rfl
theorem slA_frV : frV rows (slA e o) = some (slA e o, rows) := by cases o <;> rfl
theorem slA_fr : fr rows (slA e o) = some (slA e o, rows) := by cases o <;> rfl
theorem slA_fr1 : fr1 rows (slA e o) = some (slA e o, rows) := by cases o <;> rfl
theorem slA_idx (i : AV) : idxSV e (slA e o) i = (idx i (slL o).length).bind fun j => ((slL o)[j]?).map fun v => .pz v 0 := by
  cases o with
  | none =>
    simp only [slA, slL, idxSV, idx, List.length_nil]
    cases i <;> simp [idx]
  | some l => simp [slA, slL, idxSV]
theorem idx_ok {k : IntKind} {j n : Nat} (h : j < n) : idx (.int k (j : Int)) n = some j := by
  simp [idx, h]
/-- An index within the bounds. -/
theorem slA_at {k : IntKind} {j : Nat} {us : List AV} (h : (slL o)[j]? = some us) : idxSV e (slA e o) (.int k (j : Int)) = some (.pz us 0) := by
  have := (List.getElem?_eq_some_iff.1 h).1
  rw [slA_idx, idx_ok this]; simp [h]
end

/-! ### By constructor, so that what is not taken apart stays as it is -/
theorem width_int (k : IntKind) (n : Int) : (AV.int k n).width = 1 := rfl
theorem one_int (k : IntKind) (n : Int) : (AV.int k n).one = true := rfl
theorem items_int (k : IntKind) (n : Int) : itemsOf (AV.int k n) = some [(AV.int k n)] := rfl
theorem width_bool (b : Bool) : (AV.bool b).width = 1 := rfl
theorem one_bool (b : Bool) : (AV.bool b).one = true := rfl
theorem items_bool (b : Bool) : itemsOf (AV.bool b) = some [(AV.bool b)] := rfl
theorem width_str (s : ByteArray) : (AV.str s).width = 1 := rfl
theorem one_str (s : ByteArray) : (AV.str s).one = true := rfl
theorem items_str (s : ByteArray) : itemsOf (AV.str s) = some [(AV.str s)] := rfl
theorem width_flt (b : Nat) : (AV.flt b).width = 1 := rfl
theorem one_flt (b : Nat) : (AV.flt b).one = true := rfl
theorem items_flt (b : Nat) : itemsOf (AV.flt b) = some [(AV.flt b)] := rfl
theorem width_nil (e : Nat) : (AV.nil e).width = 1 := rfl
theorem one_nil (e : Nat) : (AV.nil e).one = true := rfl
theorem items_nil (e : Nat) : itemsOf (AV.nil e) = some [(AV.nil e)] := rfl
theorem width_fz (e : Nat) (l : List (List AV)) : (AV.fz e l).width = 1 := rfl
theorem one_fz (e : Nat) (l : List (List AV)) : (AV.fz e l).one = true := rfl
theorem items_fz (e : Nat) (l : List (List AV)) : itemsOf (AV.fz e l) = some [(AV.fz e l)] := rfl
theorem width_sref (i n : Nat) : (AV.sref i n).width = 1 := rfl
theorem one_sref (i n : Nat) : (AV.sref i n).one = true := rfl
theorem items_sref (i n : Nat) : itemsOf (AV.sref i n) = some [(AV.sref i n)] := rfl
theorem width_ptr (i c : Nat) : (AV.ptr i c).width = 1 := rfl
theorem one_ptr (i c : Nat) : (AV.ptr i c).one = true := rfl
theorem items_ptr (i c : Nat) : itemsOf (AV.ptr i c) = some [(AV.ptr i c)] := rfl
theorem width_ptrA (i c j : Nat) : (AV.ptrA i c j).width = 1 := rfl
theorem one_ptrA (i c j : Nat) : (AV.ptrA i c j).one = true := rfl
theorem items_ptrA (i c j : Nat) : itemsOf (AV.ptrA i c j) = some [(AV.ptrA i c j)] := rfl
theorem width_ptrE (i e j c : Nat) : (AV.ptrE i e j c).width = 1 := rfl
theorem one_ptrE (i e j c : Nat) : (AV.ptrE i e j c).one = true := rfl
theorem items_ptrE (i e j c : Nat) : itemsOf (AV.ptrE i e j c) = some [(AV.ptrE i e j c)] := rfl
theorem width_pz (v : List AV) (c : Nat) : (AV.pz v c).width = 1 := rfl
theorem one_pz (v : List AV) (c : Nat) : (AV.pz v c).one = true := rfl
theorem items_pz (v : List AV) (c : Nat) : itemsOf (AV.pz v c) = some [(AV.pz v c)] := rfl
theorem width_nilp  : (AV.nilp).width = 1 := rfl
theorem one_nilp  : (AV.nilp).one = true := rfl
theorem items_nilp  : itemsOf (AV.nilp) = some [(AV.nilp)] := rfl
theorem width_arr (l : List AV) : (AV.arr l).width = l.length := rfl
theorem one_arr (l : List AV) : (AV.arr l).one = false := rfl
theorem items_agg (l : List AV) : itemsOf (AV.agg l) = some l := rfl
theorem len_nil (e : Nat) : lenV (.nil e) = some 0 := rfl
theorem len_fz (e : Nat) (l : List (List AV)) : lenV (.fz e l) = some (l.length : Int) := rfl
theorem len_sref (i n : Nat) : lenV (.sref i n) = some (n : Int) := rfl
theorem idxS_sref (e id n : Nat) (i : AV) : idxSV e (.sref id n) i = (idx i n).map fun j => .ptrE id e j 0 := rfl
theorem idxS_fz (e e' : Nat) (l : List (List AV)) (i : AV) : idxSV e (.fz e' l) i = if e = e' then (idx i l.length).bind fun j => (l[j]?).map fun v => .pz v 0 else none := rfl
theorem elems_nil' (e e' : Nat) (rows : List Row) : elems e rows (.nil e') = some [] := rfl
theorem elems_fz (e e' : Nat) (l : List (List AV)) (rows : List Row) : elems e rows (.fz e' l) = if e = e' then some l else none := rfl
theorem thaw_int (k : IntKind) (n : Int) (rows : List Row) : thawV rows (AV.int k n) = some ((AV.int k n), rows) := rfl
theorem thaw_bool (b : Bool) (rows : List Row) : thawV rows (AV.bool b) = some ((AV.bool b), rows) := rfl
theorem thaw_str (s : ByteArray) (rows : List Row) : thawV rows (AV.str s) = some ((AV.str s), rows) := rfl
theorem thaw_flt (b : Nat) (rows : List Row) : thawV rows (AV.flt b) = some ((AV.flt b), rows) := rfl
theorem thaw_nil (e : Nat) (rows : List Row) : thawV rows (AV.nil e) = some ((AV.nil e), rows) := rfl
theorem thaw_fz (e : Nat) (l : List (List AV)) (rows : List Row) : thawV rows (AV.fz e l) = some ((AV.fz e l), rows) := rfl
theorem thaw_nilp  (rows : List Row) : thawV rows (AV.nilp) = some ((AV.nilp), rows) := rfl

section
variable {P : Program} {t : Nat} {l : List AV}

theorem HasT.struct {fs : Array Field} (hu : P.underlying t = some (.struct fs)) (h : HasT P t l) : HasTs P (fs.toList.map (·.type)) l := by
  cases h with
  | leaf hl => cases hl <;> simp_all
  | nil h' => simp_all
  | fz l h' _ _ => simp_all
  | arr l h' _ _ => simp_all
  | str h' hs => rw [hu] at h'; cases h'; exact hs

theorem HasT.slice {e : Nat} (hu : P.underlying t = some (.slice e)) (h : HasT P t l) : ∃ o, l = [slA e o] ∧ (∀ us ∈ slL o, HasT P e us) ∧ (slL o).length ≤ maxLen := by
  cases h with
  | leaf hl => cases hl <;> simp_all
  | nil h' => rw [hu] at h'; cases h'; exact ⟨none, rfl, by simp [slL], by simp [slL]⟩
  | fz l h' h1 h2 => rw [hu] at h'; cases h'; exact ⟨some l, rfl, h2, h1⟩
  | arr l h' _ _ => simp_all
  | str h' hs => simp_all

theorem HasT.int {k : IntKind} (hu : P.underlying t = some (.int k)) (h : HasT P t l) : ∃ n, l = [.int k n] ∧ (Lit.int k n).wf = true := by
  cases h with
  | leaf hl => cases hl <;> simp_all
  | nil h' => simp_all
  | fz l h' h1 h2 => simp_all
  | arr l h' _ _ => simp_all
  | str h' hs => simp_all

theorem HasT.bool (hu : P.underlying t = some .bool) (h : HasT P t l) : ∃ b, l = [.bool b] := by
  cases h with
  | leaf hl => cases hl <;> simp_all
  | nil h' => simp_all
  | fz l h' h1 h2 => simp_all
  | arr l h' _ _ => simp_all
  | str h' hs => simp_all

theorem HasT.string (hu : P.underlying t = some .string) (h : HasT P t l) : ∃ b, l = [.str b] ∧ b.size ≤ maxLen := by
  cases h with
  | leaf hl => cases hl <;> simp_all
  | nil h' => simp_all
  | fz l h' h1 h2 => simp_all
  | arr l h' _ _ => simp_all
  | str h' hs => simp_all

theorem HasT.float (hu : P.underlying t = some (.float .f64)) (h : HasT P t l) : ∃ b, l = [.flt b] ∧ (Lit.float .f64 b).wf = true := by
  cases h with
  | leaf hl => cases hl <;> simp_all
  | nil h' => simp_all
  | fz l h' h1 h2 => simp_all
  | arr l h' _ _ => simp_all
  | str h' hs => simp_all

theorem HasT.array {e n : Nat} (hu : P.underlying t = some (.array n e)) (h : HasT P t l) : ∃ xs, l = [.arr xs] ∧ xs.length = n ∧ ∀ x ∈ xs, Leaf P e x := by
  cases h with
  | leaf hl => cases hl <;> simp_all
  | nil h' => simp_all
  | fz l h' h1 h2 => simp_all
  | arr l h' h1 h2 => rw [hu] at h'; cases h'; exact ⟨l, rfl, h1, h2⟩
  | str h' hs => simp_all

/-- An array of whole numbers. -/
theorem leaf_ints {e : Nat} {k : IntKind} (hu : P.underlying e = some (.int k)) : ∀ {xs : List AV}, (∀ x ∈ xs, Leaf P e x) → ∃ ns : List Int, xs = ns.map (.int k) ∧ ∀ n ∈ ns, (Lit.int k n).wf = true
  | [], _ => ⟨[], rfl, by simp⟩
  | x :: xs, h => by
    obtain ⟨ns, rfl, h2⟩ := leaf_ints hu (fun y hy => h y (List.mem_cons_of_mem _ hy))
    have := h x (by simp)
    cases this with
    | int k' n h' hw => rw [hu] at h'; cases h'; exact ⟨n :: ns, rfl, by simpa using ⟨hw, h2⟩⟩
    | _ => simp_all

theorem HasTs.one {ts : List Nat} (h : HasTs P (t :: ts) l) : ∃ a b, l = a ++ b ∧ HasT P t a ∧ HasTs P ts b := by
  cases h with
  | cons h hs => exact ⟨_, _, rfl, h, hs⟩
theorem HasTs.none (h : HasTs P [] l) : l = [] := by cases h; rfl

/-- A struct's fields' types. -/
def stT (P : Program) (t : Nat) : Option (List Nat) :=
  match P.underlying t with
  | some (.struct fs) => some (fs.toList.map (·.type))
  | _ => none
theorem HasT.st {ts : List Nat} (hu : stT P t = some ts) (h : HasT P t l) : HasTs P ts l := by
  unfold stT at hu
  split at hu
  · rename_i fs hf
    cases hu
    exact h.struct hf
  · cases hu

theorem HasA.st {ts : List Nat} {x : AV} (hu : stT P t = some ts) (h : HasA P t x) : ∃ l, x = .agg l ∧ HasT P t l := by
  unfold stT at hu
  unfold HasA at h
  split at hu
  · rename_i fs hf
    rw [hf] at h
    exact h
  · cases hu
theorem HasA.one {x : AV} (hu : stT P t = none) (ha : ∀ n e, P.underlying t ≠ some (.array n e)) (h : HasA P t x) : HasT P t [x] := by
  unfold HasA at h
  split at h
  · rename_i fs hf; simp [stT, hf] at hu
  · rename_i n e hf; exact absurd hf (ha _ _)
  · exact h
end
end Go.Sk
