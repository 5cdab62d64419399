/- More rules for walking: results that lead to rows, drawn regions with new rows. Conditions: none (a library text). -/
import Derived.Test.YtnbmngpdbnkhaaaC6Run
import Derived.ChangeArms
import Derived.ChangeOld
import Derived.Below
import Derived.WideShapes
set_option linter.unusedVariables false
set_option linter.unusedSimpArgs false
namespace Go.Sk
open Go.RowKit

/-- One value of one cell. -/
inductive Leaf (P : Program) : Nat → AV → Prop
  | bool {t : Nat} (b : Bool) (h : P.underlying t = some .bool) : Leaf P t (.bool b)
  | int {t : Nat} (k : IntKind) (n : Int) (h : P.underlying t = some (.int k)) (hw : (Lit.int k n).wf = true) : Leaf P t (.int k n)
  | str {t : Nat} (s : ByteArray) (h : P.underlying t = some .string) (hw : s.size ≤ maxLen) : Leaf P t (.str s)
  | flt {t : Nat} (b : Nat) (h : P.underlying t = some (.float .f64)) (hw : (Lit.float .f64 b).wf = true) : Leaf P t (.flt b)

mutual
/-- Items of one value of a type. -/
inductive HasT (P : Program) : Nat → List AV → Prop
  | leaf {t : Nat} {x : AV} (h : Leaf P t x) : HasT P t [x]
  | nil {t e : Nat} (h : P.underlying t = some (.slice e)) : HasT P t [.nil e]
  | fz {t e : Nat} (l : List (List AV)) (h : P.underlying t = some (.slice e)) (hl : l.length ≤ maxLen) (he : ∀ us ∈ l, HasT P e us) : HasT P t [.fz e l]
  | arr {t e n : Nat} (l : List AV) (h : P.underlying t = some (.array n e)) (hl : l.length = n) (he : ∀ x ∈ l, Leaf P e x) : HasT P t [.arr l]
  | str {t : Nat} {fs : Array Field} {l : List AV} (h : P.underlying t = some (.struct fs)) (hs : HasTs P (fs.toList.map (·.type)) l) : HasT P t l
inductive HasTs (P : Program) : List Nat → List AV → Prop
  | nil : HasTs P [] []
  | cons {t : Nat} {ts : List Nat} {a b : List AV} (h : HasT P t a) (hs : HasTs P ts b) : HasTs P (t :: ts) (a ++ b)
end

def leafT (P : Program) (t : Nat) : Bool :=
  match P.underlying t with
  | some .bool | some (.int _) | some .string | some (.float .f64) => P.cellsOf t == 1
  | _ => false

def consec (P : Program) : Nat → List Field → Option Nat
  | o, [] => some o
  | o, f :: fs => if f.offset = o then consec P (o + P.cellsOf f.type) fs else none

def okT (P : Program) (ts : List Nat) (t : Nat) : Bool :=
  match P.underlying t with
  | some (.slice e) => ts.contains e && decide (0 < P.cellsOf e) && P.cellsOf t == 1
  | some (.struct fs) => fs.toList.all (fun f => ts.contains f.type) && consec P 0 fs.toList == some (P.cellsOf t)
  | some (.array n e) => leafT P e && P.cellsOf t == n
  | _ => leafT P t

def closedT (P : Program) (ts : List Nat) : Bool := ts.all (okT P ts)

section
variable {H : Type} {enc : TypeId × Value → H} {P : Program} {w : World}

/-- The blocks that are there. -/
def There (w : World) (b : Nat) : Prop := b < w.heap.size

theorem cells_at {a : Addr} {n : Nat} {us : List Value} (h : w.cells? 0 a n = some us) : us.length = n ∧ ∀ j u, us[j]? = some u → w.cell? (a.add j) = some u := by
  unfold World.cells? at h
  simp only [Nat.zero_le, if_true] at h
  have key : ∀ (l : List Nat) (us : List Value), l.mapM (fun i => w.cell? (a.add i)) = some us → us.length = l.length ∧ ∀ (j i : Nat), l[j]? = some i → w.cell? (a.add i) = us[j]? := by
    intro l
    induction l with
    | nil => intro us h; simp at h; subst h; simp
    | cons i l ih =>
      intro us h
      simp only [List.mapM_cons, Option.bind_eq_bind, Option.bind_eq_some_iff, Option.pure_def, Option.some.injEq] at h
      obtain ⟨u, h1, us', h2, rfl⟩ := h
      obtain ⟨k1, k2⟩ := ih us' h2
      refine ⟨by simp [k1], fun j i' hj => ?_⟩
      cases j with
      | zero => simp at hj; subst hj; simpa using h1
      | succ j => simp at hj; simpa using k2 j i' hj
  obtain ⟨k1, k2⟩ := key _ _ h
  refine ⟨by simpa using k1, fun j u hu => ?_⟩
  have hj : j < n := by
    have := (List.getElem?_eq_some_iff.1 hu).1
    simp at k1; omega
  rw [k2 j j (by simp [hj]), hu]

theorem add_block (a : Addr) (i : Nat) : (a.add i).block = a.block := by
  unfold Addr.add; split <;> rfl

theorem there_of_cell {a : Addr} {u : Value} (h : w.cell? a = some u) : There w a.block := by
  unfold World.cell? at h
  unfold There
  cases hq : w.heap[a.block]? with
  | none => simp [hq] at h
  | some c => exact (Array.getElem?_eq_some_iff.1 hq).1

theorem leaf_has {n t : Nat} {cs : List Value} {x : DataW H × List MemPlace} (hl : leafT P t = true) (h : DataW.trod enc P w 0 (fun _ => true) true n t cs = some x) : ∃ v y, cs = [v] ∧ Leaf P t y ∧ RepV P (There w) w noLoc v y ∧ y.one = true := by
  cases n with
  | zero => simp [DataW.trod] at h
  | succ n =>
    unfold leafT at hl
    split at hl
    · rename_i hu
      unfold DataW.trod at h
      rw [hu] at h
      split at h <;> simp_all
      rename_i b
      exact ⟨_, .bool b hu, .bool b, rfl⟩
    · rename_i k hu
      unfold DataW.trod at h
      rw [hu] at h
      split at h <;> simp_all
      obtain ⟨⟨rfl, hw⟩, _⟩ := h
      exact ⟨_, .int _ _ hu hw, .int _ _, rfl⟩
    · rename_i hu
      unfold DataW.trod at h
      rw [hu] at h
      split at h <;> simp_all
      exact ⟨_, .str _ hu h.1, .str _, rfl⟩
    · rename_i hu
      unfold DataW.trod at h
      rw [hu] at h
      split at h <;> simp_all
      rename_i e0
      subst e0
      obtain ⟨⟨e1, hw⟩, _⟩ := h
      subst e1
      exact ⟨_, .flt _ hu hw, .flt _, rfl⟩
    · cases hl

/-- What an input of such a type reads as. -/
theorem trod_has {ts : List Nat} (hc : closedT P ts = true) : ∀ (n t : Nat) (cs : List Value) (x : DataW H × List MemPlace), t ∈ ts → DataW.trod enc P w 0 (fun _ => true) true n t cs = some x →
    ∃ l, HasT P t l ∧ RepL P (There w) w noLoc cs l ∧ cs.length = P.cellsOf t := by
  intro n
  induction n with
  | zero => intro t cs x _ h; simp [DataW.trod] at h
  | succ n ih =>
    intro t cs x ht h
    have hok : okT P ts t = true := by simp only [closedT, List.all_eq_true] at hc; exact hc t ht
    have leaf : leafT P t = true → ∃ l, HasT P t l ∧ RepL P (There w) w noLoc cs l ∧ cs.length = P.cellsOf t := fun hl => by
      obtain ⟨v, y, rfl, h1, h2, h3⟩ := leaf_has hl h
      refine ⟨[y], .leaf h1, .cons _ _ _ _ h3 h2 .nil, ?_⟩
      unfold leafT at hl
      split at hl <;> simp_all
    unfold okT at hok
    split at hok
    · rename_i e hu
      simp only [Bool.and_eq_true, decide_eq_true_eq, beq_iff_eq, List.contains_iff_mem] at hok
      obtain ⟨⟨he, hpos⟩, hone⟩ := hok
      rcases DataW.trod_slice hu h with ⟨rfl, _⟩ | ⟨a, len, cap, elems, rest, m, hm, rfl, rfl, hb, hl, hmx, hlen, hel, _, _⟩
      · exact ⟨[.nil e], .nil hu, .cons _ _ _ _ rfl (.nil e) .nil, by simp [hone]⟩
      · cases hm
        have each : ∀ i, i < len → ∃ us l, w.cells? 0 (a.add (i * P.cellsOf e)) (P.cellsOf e) = some us ∧ HasT P e l ∧ RepL P (There w) w noLoc us l := fun i hi => by
          have := hel i hi
          rw [List.getElem?_eq_getElem (by omega)] at this
          rw [Option.bind_eq_some_iff] at this
          obtain ⟨us, k1, k2⟩ := this
          obtain ⟨l, k3, k4, _⟩ := ih e us _ he k2
          exact ⟨us, l, k1, k3, k4⟩
        have huse : ∃ (us : Nat → List Value) (ls : Nat → List AV), ∀ i, i < len → w.cells? 0 (a.add (i * P.cellsOf e)) (P.cellsOf e) = some (us i) ∧ HasT P e (ls i) ∧ RepL P (There w) w noLoc (us i) (ls i) := by
          refine ⟨fun i => if hi : i < len then (each i hi).choose else [], fun i => if hi : i < len then (each i hi).choose_spec.choose else [], fun i hi => ?_⟩
          simp only [hi, dif_pos]
          exact (each i hi).choose_spec.choose_spec
        obtain ⟨us, ls, hul⟩ := huse
        let l := (List.range len).map ls
        have hll : l.length = len := by simp [l]
        refine ⟨[.fz e l], .fz l hu (by omega) (fun q hq => ?_), ?_, by simp [hone]⟩
        · simp only [l, List.mem_map, List.mem_range] at hq
          obtain ⟨i, hi, rfl⟩ := hq
          exact (hul i hi).2.1
        · have hmaxLen : maxLen ≤ 9223372036854775807 := by decide
          have := RepV.fz (P := P) (im := There w) (w := w) (ρ := noLoc) e (some a) cap l us rfl (by omega) (by omega) (fun i hi => ?_) (fun i hi => ?_)
          · have hgo := this
            rw [hll] at hgo
            exact .cons _ _ _ _ rfl hgo .nil
          · obtain ⟨k1, k2, k3⟩ := hul i (by omega)
            obtain ⟨c1, c2⟩ := cells_at k1
            have hcell : ∀ j u, (us i)[j]? = some u → w.cell? (a.add (i * P.cellsOf e + j)) = some u := fun j u hj => by
              have := c2 j u hj
              rwa [addAA] at this
            refine ⟨a, rfl, ?_, c1, hcell⟩
            have h0 : 0 < (us i).length := by omega
            have := there_of_cell (hcell 0 _ (List.getElem?_eq_getElem h0))
            rwa [add_block] at this
          · have : l[i] = ls i := by simp [l]
            rw [this]
            exact (hul i (by omega)).2.2
    · rename_i fs hu
      simp only [Bool.and_eq_true, List.all_eq_true, beq_iff_eq, List.contains_iff_mem] at hok
      obtain ⟨hfs, hcon⟩ := hok
      unfold DataW.trod at h
      rw [hu] at h
      have h' : cs.length = P.cellsOf t ∧ ∃ xs, fs.toList.mapM (fun f => DataW.trod enc P w 0 (fun _ => true) true n f.type ((cs.drop f.offset).take (P.cellsOf f.type))) = some xs := by
        split at h <;> simp_all
        obtain ⟨h1, xs, h2, _⟩ := h
        exact ⟨xs, h2⟩
      obtain ⟨hlen, xs, hx⟩ := h'
      have key : ∀ (gs : List Field) (o top : Nat) (xs : List (DataW H × List MemPlace)), (∀ f ∈ gs, f.type ∈ ts) → consec P o gs = some top → top = cs.length →
          gs.mapM (fun f => DataW.trod enc P w 0 (fun _ => true) true n f.type ((cs.drop f.offset).take (P.cellsOf f.type))) = some xs →
          ∃ l, HasTs P (gs.map (·.type)) l ∧ RepL P (There w) w noLoc (cs.drop o) l := by
        intro gs
        induction gs with
        | nil =>
          intro o top xs _ h1 h2 h3
          simp [consec] at h1
          subst h1
          exact ⟨[], .nil, by rw [List.drop_eq_nil_of_le (by omega)]; exact .nil⟩
        | cons f gs ih2 =>
          intro o top xs h0 h1 h2 h3
          simp only [consec] at h1
          split at h1
          · rename_i ho
            simp only [List.mapM_cons, Option.bind_eq_bind, Option.bind_eq_some_iff, Option.pure_def, Option.some.injEq] at h3
            obtain ⟨y, k1, ys, k2, _⟩ := h3
            obtain ⟨a, k3, k4, k5⟩ := ih _ _ _ (h0 f (by simp)) k1
            obtain ⟨b, k6, k7⟩ := ih2 _ _ _ (fun g hg => h0 g (List.mem_cons_of_mem _ hg)) h1 h2 k2
            refine ⟨a ++ b, .cons k3 k6, ?_⟩
            have := k4.append k7
            rw [ho] at this
            rwa [← List.drop_drop, List.take_append_drop] at this
          · cases h1
      obtain ⟨l, k1, k2⟩ := key fs.toList 0 _ xs hfs hcon (by omega) hx
      exact ⟨l, .str hu k1, by simpa using k2, hlen⟩
    · rename_i m e hu
      simp only [Bool.and_eq_true, beq_iff_eq] at hok
      obtain ⟨hle, hcell⟩ := hok
      have hce : P.cellsOf e = 1 := by
        unfold leafT at hle
        split at hle <;> simp_all
      unfold DataW.trod at h
      rw [hu] at h
      have h' : cs.length = P.cellsOf t ∧ ∃ xs, (List.range m).mapM (fun i => DataW.trod enc P w 0 (fun _ => true) true n e ((cs.drop (i * P.cellsOf e)).take (P.cellsOf e))) = some xs := by
        simp only at h
        split at h
        · rename_i hlen
          rw [Option.map_eq_some_iff] at h
          obtain ⟨xs, h2, _⟩ := h
          exact ⟨hlen, xs, h2⟩
        · cases h
      obtain ⟨hlen, xs, hx⟩ := h'
      have key : ∀ (k o : Nat) (xs : List (DataW H × List MemPlace)), o + k = cs.length →
          (List.range' o k).mapM (fun i => DataW.trod enc P w 0 (fun _ => true) true n e ((cs.drop (i * P.cellsOf e)).take (P.cellsOf e))) = some xs →
          ∃ l, l.length = k ∧ (∀ x ∈ l, Leaf P e x) ∧ (∀ x ∈ l, x.one = true) ∧ RepL P (There w) w noLoc (cs.drop o) l := by
        intro k
        induction k with
        | zero => intro o xs h1 h2; exact ⟨[], rfl, by simp, by simp, by rw [List.drop_eq_nil_of_le (by omega)]; exact .nil⟩
        | succ k ih2 =>
          intro o xs h1 h2
          simp only [List.range'_succ, List.mapM_cons, Option.bind_eq_bind, Option.bind_eq_some_iff, Option.pure_def, Option.some.injEq] at h2
          obtain ⟨y, k1, ys, k2, _⟩ := h2
          obtain ⟨v, z, e1, e2, e3, e4⟩ := leaf_has hle k1
          obtain ⟨l, g1, g2, g3, g4⟩ := ih2 (o + 1) _ (by omega) k2
          refine ⟨z :: l, by simp [g1], by simpa [e2] using g2, by simpa [e4] using g3, ?_⟩
          have hd : cs.drop o = v :: cs.drop (o + 1) := by
            rw [hce, Nat.mul_one] at e1
            have hlt : o < cs.length := by omega
            have e2 : cs[o] = v := by
              have := congrArg (fun l : List Value => l[0]?) e1
              simp [List.getElem?_take, List.getElem?_drop, hlt] at this
              exact this
            rw [List.drop_eq_getElem_cons hlt, e2]
          rw [hd]
          exact .cons _ _ _ _ e4 e3 g4
      obtain ⟨l, g1, g2, g3, g4⟩ := key m 0 xs (by omega) (by rw [← List.range_eq_range']; exact hx)
      have := RepL.arr (P := P) (im := There w) (w := w) (ρ := noLoc) cs l [] [] g3 (by simpa using g4) .nil
      exact ⟨[.arr l], .arr l hu g1 g2, by simpa using this, hlen⟩
    · exact leaf hok
end
end Go.Sk
set_option linter.unusedVariables false
set_option linter.unusedSimpArgs false
namespace Go.Sk
open Go.RowKit

/-- What an argument of a type reads as. -/
def HasA (P : Program) (t : Nat) (x : AV) : Prop :=
  match P.underlying t with
  | some (.struct _) | some (.array _ _) => ∃ l, x = .agg l ∧ HasT P t l
  | _ => HasT P t [x]

theorem arg_has {H : Type} {enc : TypeId × Value → H} {P : Program} {w : World} {base t : Nat} {v : Value} {d : DataW H} {ps : List MemPlace} {ts : List Nat} (hc : closedT P ts = true) (ht : t ∈ ts)
    (hok : Value.okWide P w .any base t v) (h : DataW.Trod enc P w 0 (fun _ => true) true t v d ps) : ∃ x, RepV P (There w) w noLoc v x ∧ HasA P t x := by
  obtain ⟨n, hn⟩ := h
  obtain ⟨l, h1, h2, h3⟩ := trod_has hc n t v.cells.toList (d, ps) ht hn
  have hok' : okT P ts t = true := by simp only [closedT, List.all_eq_true] at hc; exact hc t ht
  unfold Value.okWide at hok
  unfold HasA
  split at hok
  · rename_i fs hu
    obtain ⟨cs, rfl, _, _⟩ := hok
    rw [hu]
    refine ⟨.agg l, ?_, l, rfl, h1⟩
    have := RepV.agg (P := P) (im := There w) (w := w) (ρ := noLoc) cs.toList l (by simpa [Value.cells] using h2)
    simpa using this
  · rename_i m e hu
    obtain ⟨cs, rfl, _, _⟩ := hok
    rw [hu]
    refine ⟨.agg l, ?_, l, rfl, h1⟩
    have := RepV.agg (P := P) (im := There w) (w := w) (ρ := noLoc) cs.toList l (by simpa [Value.cells] using h2)
    simpa using this
  · rename_i hn1 hn2
    have hcells : v.cells.toList = [v] := by
      unfold Cell.okWide Cell.ok at hok
      cases v <;> first | rfl | (exfalso; (repeat' split at hok) <;> simp_all)
    rw [hcells] at h2
    have one : ∀ x : AV, l = [x] → x.one = true → RepV P (There w) w noLoc v x := fun x e _ => by
      subst e
      generalize hq : [v] = us at h2
      cases h2 with
      | cons _ _ _ _ _ h _ => cases hq; exact h
      | arr us l' vs _ _ _ _ => simp [AV.one] at *
    have done : ∃ x, l = [x] ∧ x.one = true := by
      cases h1 with
      | leaf hl => cases hl <;> exact ⟨_, rfl, rfl⟩
      | nil hu => exact ⟨_, rfl, rfl⟩
      | fz l hu _ _ => exact ⟨_, rfl, rfl⟩
      | arr l hu _ _ => exact absurd hu (hn2 _ _)
      | str hu _ => exact absurd hu (hn1 _)
    obtain ⟨x, rfl, hx⟩ := done
    refine ⟨x, one x rfl hx, ?_⟩
    split
    · rename_i fs hu; exact absurd hu (hn1 _)
    · rename_i m e hu; exact absurd hu (hn2 _ _)
    · exact h1

/-- A law that answers true, whatever the input. -/
theorem law_calls {P : Program} {f : Nat} {xs : List AV} {vs : List Value} {W : World} (hb : FCall P f xs (.bool true)) (hv : RepT P (There W) W noLoc vs xs) :
    Calls P f vs.toArray W fun e W' => e = .returned (.bool true) ∧ Below W.heap.size W W' := by
  refine (hb [] W (There W) noLoc vs (wf_nil fun b hb => hb) hv).mono ?_
  rintro e W' ⟨v, r, rows', im', ρ', rfl, ⟨rfl, rfl⟩, h1, h2, h3⟩
  have := rep_bool h1
  subst this
  refine ⟨rfl, h3.os, h3.tape, h3.output, h3.size, fun k hk => h3.block k hk ?_⟩
  rintro ⟨id, r, c, a, _⟩
  simp at a
end Go.Sk
set_option linter.unusedVariables false
set_option linter.unusedSimpArgs false
namespace Go.Sk
open Go.RowKit

/-- A slice that nobody writes: nil, or with elements. -/
def slA (e : Nat) : Option (List (List AV)) → AV
  | none => .nil e
  | some l => .fz e l
def slL : Option (List (List AV)) → List (List AV)
  | none => []
  | some l => l

section
variable (e : Nat) (o : Option (List (List AV))) (rows : List Row)
theorem slA_width : (slA e o).width = 1 := by cases o <;> rfl
theorem slA_one : (slA e o).one = true := by cases o <;> rfl
theorem slA_items : itemsOf (slA e o) = some [slA e o] := by cases o <;> rfl
theorem slA_len : lenV (slA e o) = some ((slL o).length : Int) := by cases o <;> rfl
theorem slA_ids : idsV (slA e o) = [] := by cases o <;> rfl
theorem slA_elems : elems e rows (slA e o) = some (slL o) := by cases o <;> simp [slA, slL, elems]
theorem slA_thaw : thawV rows (slA e o) = some (slA e o, rows) := by cases o <;> rfl
theorem slA_frV : frV rows (slA e o) = some (slA e o, rows) := by cases o <;> rfl
theorem slA_fr : fr rows (slA e o) = some (slA e o, rows) := by cases o <;> rfl
theorem slA_fr1 : fr1 rows (slA e o) = some (slA e o, rows) := by cases o <;> rfl
theorem slA_idx (i : AV) : idxSV e (slA e o) i = (idx i (slL o).length).bind fun j => ((slL o)[j]?).map fun v => .pz v 0 := by
  cases o with
  | none =>
    simp only [slA, slL, idxSV, idx, List.length_nil]
    cases i <;> simp [idx]
  | some l => simp [slA, slL, idxSV]
theorem idx_ok {k : IntKind} {j n : Nat} (h : j < n) : idx (.int k (j : Int)) n = some j := by
  simp [idx, h]
/-- An index within the bounds. -/
theorem slA_at {k : IntKind} {j : Nat} {us : List AV} (h : (slL o)[j]? = some us) : idxSV e (slA e o) (.int k (j : Int)) = some (.pz us 0) := by
  have := (List.getElem?_eq_some_iff.1 h).1
  rw [slA_idx, idx_ok this]; simp [h]
end

/-! ### By constructor, so that what is not taken apart stays as it is -/
theorem width_int (k : IntKind) (n : Int) : (AV.int k n).width = 1 := rfl
theorem one_int (k : IntKind) (n : Int) : (AV.int k n).one = true := rfl
theorem items_int (k : IntKind) (n : Int) : itemsOf (AV.int k n) = some [(AV.int k n)] := rfl
theorem width_bool (b : Bool) : (AV.bool b).width = 1 := rfl
theorem one_bool (b : Bool) : (AV.bool b).one = true := rfl
theorem items_bool (b : Bool) : itemsOf (AV.bool b) = some [(AV.bool b)] := rfl
theorem width_str (s : ByteArray) : (AV.str s).width = 1 := rfl
theorem one_str (s : ByteArray) : (AV.str s).one = true := rfl
theorem items_str (s : ByteArray) : itemsOf (AV.str s) = some [(AV.str s)] := rfl
theorem width_flt (b : Nat) : (AV.flt b).width = 1 := rfl
theorem one_flt (b : Nat) : (AV.flt b).one = true := rfl
theorem items_flt (b : Nat) : itemsOf (AV.flt b) = some [(AV.flt b)] := rfl
theorem width_nil (e : Nat) : (AV.nil e).width = 1 := rfl
theorem one_nil (e : Nat) : (AV.nil e).one = true := rfl
theorem items_nil (e : Nat) : itemsOf (AV.nil e) = some [(AV.nil e)] := rfl
theorem width_fz (e : Nat) (l : List (List AV)) : (AV.fz e l).width = 1 := rfl
theorem one_fz (e : Nat) (l : List (List AV)) : (AV.fz e l).one = true := rfl
theorem items_fz (e : Nat) (l : List (List AV)) : itemsOf (AV.fz e l) = some [(AV.fz e l)] := rfl
theorem width_sref (i n : Nat) : (AV.sref i n).width = 1 := rfl
theorem one_sref (i n : Nat) : (AV.sref i n).one = true := rfl
theorem items_sref (i n : Nat) : itemsOf (AV.sref i n) = some [(AV.sref i n)] := rfl
theorem width_ptr (i c : Nat) : (AV.ptr i c).width = 1 := rfl
theorem one_ptr (i c : Nat) : (AV.ptr i c).one = true := rfl
theorem items_ptr (i c : Nat) : itemsOf (AV.ptr i c) = some [(AV.ptr i c)] := rfl
theorem width_ptrA (i c j : Nat) : (AV.ptrA i c j).width = 1 := rfl
theorem one_ptrA (i c j : Nat) : (AV.ptrA i c j).one = true := rfl
theorem items_ptrA (i c j : Nat) : itemsOf (AV.ptrA i c j) = some [(AV.ptrA i c j)] := rfl
theorem width_ptrE (i e j c : Nat) : (AV.ptrE i e j c).width = 1 := rfl
theorem one_ptrE (i e j c : Nat) : (AV.ptrE i e j c).one = true := rfl
theorem items_ptrE (i e j c : Nat) : itemsOf (AV.ptrE i e j c) = some [(AV.ptrE i e j c)] := rfl
theorem width_pz (v : List AV) (c : Nat) : (AV.pz v c).width = 1 := rfl
theorem one_pz (v : List AV) (c : Nat) : (AV.pz v c).one = true := rfl
theorem items_pz (v : List AV) (c : Nat) : itemsOf (AV.pz v c) = some [(AV.pz v c)] := rfl
theorem width_nilp  : (AV.nilp).width = 1 := rfl
theorem one_nilp  : (AV.nilp).one = true := rfl
theorem items_nilp  : itemsOf (AV.nilp) = some [(AV.nilp)] := rfl
theorem width_arr (l : List AV) : (AV.arr l).width = l.length := rfl
theorem one_arr (l : List AV) : (AV.arr l).one = false := rfl
theorem items_agg (l : List AV) : itemsOf (AV.agg l) = some l := rfl
theorem len_nil (e : Nat) : lenV (.nil e) = some 0 := rfl
theorem len_fz (e : Nat) (l : List (List AV)) : lenV (.fz e l) = some (l.length : Int) := rfl
theorem len_sref (i n : Nat) : lenV (.sref i n) = some (n : Int) := rfl
theorem idxS_sref (e id n : Nat) (i : AV) : idxSV e (.sref id n) i = (idx i n).map fun j => .ptrE id e j 0 := rfl
theorem idxS_fz (e e' : Nat) (l : List (List AV)) (i : AV) : idxSV e (.fz e' l) i = if e = e' then (idx i l.length).bind fun j => (l[j]?).map fun v => .pz v 0 else none := rfl
theorem elems_nil' (e e' : Nat) (rows : List Row) : elems e rows (.nil e') = some [] := rfl
theorem elems_fz (e e' : Nat) (l : List (List AV)) (rows : List Row) : elems e rows (.fz e' l) = if e = e' then some l else none := rfl
theorem thaw_int (k : IntKind) (n : Int) (rows : List Row) : thawV rows (AV.int k n) = some ((AV.int k n), rows) := rfl
theorem thaw_bool (b : Bool) (rows : List Row) : thawV rows (AV.bool b) = some ((AV.bool b), rows) := rfl
theorem thaw_str (s : ByteArray) (rows : List Row) : thawV rows (AV.str s) = some ((AV.str s), rows) := rfl
theorem thaw_flt (b : Nat) (rows : List Row) : thawV rows (AV.flt b) = some ((AV.flt b), rows) := rfl
theorem thaw_nil (e : Nat) (rows : List Row) : thawV rows (AV.nil e) = some ((AV.nil e), rows) := rfl
theorem thaw_fz (e : Nat) (l : List (List AV)) (rows : List Row) : thawV rows (AV.fz e l) = some ((AV.fz e l), rows) := rfl
theorem thaw_nilp  (rows : List Row) : thawV rows (AV.nilp) = some ((AV.nilp), rows) := rfl

section
variable {P : Program} {t : Nat} {l : List AV}

theorem HasT.struct {fs : Array Field} (hu : P.underlying t = some (.struct fs)) (h : HasT P t l) : HasTs P (fs.toList.map (·.type)) l := by
  cases h with
  | leaf hl => cases hl <;> simp_all
  | nil h' => simp_all
  | fz l h' _ _ => simp_all
  | arr l h' _ _ => simp_all
  | str h' hs => rw [hu] at h'; cases h'; exact hs

theorem HasT.slice {e : Nat} (hu : P.underlying t = some (.slice e)) (h : HasT P t l) : ∃ o, l = [slA e o] ∧ (∀ us ∈ slL o, HasT P e us) ∧ (slL o).length ≤ maxLen := by
  cases h with
  | leaf hl => cases hl <;> simp_all
  | nil h' => rw [hu] at h'; cases h'; exact ⟨none, rfl, by simp [slL], by simp [slL]⟩
  | fz l h' h1 h2 => rw [hu] at h'; cases h'; exact ⟨some l, rfl, h2, h1⟩
  | arr l h' _ _ => simp_all
  | str h' hs => simp_all

theorem HasT.int {k : IntKind} (hu : P.underlying t = some (.int k)) (h : HasT P t l) : ∃ n, l = [.int k n] ∧ (Lit.int k n).wf = true := by
  cases h with
  | leaf hl => cases hl <;> simp_all
  | nil h' => simp_all
  | fz l h' h1 h2 => simp_all
  | arr l h' _ _ => simp_all
  | str h' hs => simp_all

theorem HasT.bool (hu : P.underlying t = some .bool) (h : HasT P t l) : ∃ b, l = [.bool b] := by
  cases h with
  | leaf hl => cases hl <;> simp_all
  | nil h' => simp_all
  | fz l h' h1 h2 => simp_all
  | arr l h' _ _ => simp_all
  | str h' hs => simp_all

theorem HasT.string (hu : P.underlying t = some .string) (h : HasT P t l) : ∃ b, l = [.str b] ∧ b.size ≤ maxLen := by
  cases h with
  | leaf hl => cases hl <;> simp_all
  | nil h' => simp_all
  | fz l h' h1 h2 => simp_all
  | arr l h' _ _ => simp_all
  | str h' hs => simp_all

theorem HasT.float (hu : P.underlying t = some (.float .f64)) (h : HasT P t l) : ∃ b, l = [.flt b] ∧ (Lit.float .f64 b).wf = true := by
  cases h with
  | leaf hl => cases hl <;> simp_all
  | nil h' => simp_all
  | fz l h' h1 h2 => simp_all
  | arr l h' _ _ => simp_all
  | str h' hs => simp_all

theorem HasT.array {e n : Nat} (hu : P.underlying t = some (.array n e)) (h : HasT P t l) : ∃ xs, l = [.arr xs] ∧ xs.length = n ∧ ∀ x ∈ xs, Leaf P e x := by
  cases h with
  | leaf hl => cases hl <;> simp_all
  | nil h' => simp_all
  | fz l h' h1 h2 => simp_all
  | arr l h' h1 h2 => rw [hu] at h'; cases h'; exact ⟨l, rfl, h1, h2⟩
  | str h' hs => simp_all

/-- An array of whole numbers. -/
theorem leaf_ints {e : Nat} {k : IntKind} (hu : P.underlying e = some (.int k)) : ∀ {xs : List AV}, (∀ x ∈ xs, Leaf P e x) → ∃ ns : List Int, xs = ns.map (.int k) ∧ ∀ n ∈ ns, (Lit.int k n).wf = true
  | [], _ => ⟨[], rfl, by simp⟩
  | x :: xs, h => by
    obtain ⟨ns, rfl, h2⟩ := leaf_ints hu (fun y hy => h y (List.mem_cons_of_mem _ hy))
    have := h x (by simp)
    cases this with
    | int k' n h' hw => rw [hu] at h'; cases h'; exact ⟨n :: ns, rfl, by simpa using ⟨hw, h2⟩⟩
    | _ => simp_all

theorem HasTs.one {ts : List Nat} (h : HasTs P (t :: ts) l) : ∃ a b, l = a ++ b ∧ HasT P t a ∧ HasTs P ts b := by
  cases h with
  | cons h hs => exact ⟨_, _, rfl, h, hs⟩
theorem HasTs.none (h : HasTs P [] l) : l = [] := by cases h; rfl

/-- A struct's fields' types. -/
def stT (P : Program) (t : Nat) : Option (List Nat) :=
  match P.underlying t with
  | some (.struct fs) => some (fs.toList.map (·.type))
  | _ => none
theorem HasT.st {ts : List Nat} (hu : stT P t = some ts) (h : HasT P t l) : HasTs P ts l := by
  unfold stT at hu
  split at hu
  · rename_i fs hf
    cases hu
    exact h.struct hf
  · cases hu

theorem HasA.st {ts : List Nat} {x : AV} (hu : stT P t = some ts) (h : HasA P t x) : ∃ l, x = .agg l ∧ HasT P t l := by
  unfold stT at hu
  unfold HasA at h
  split at hu
  · rename_i fs hf
    rw [hf] at h
    exact h
  · cases hu
theorem HasA.one {x : AV} (hu : stT P t = none) (ha : ∀ n e, P.underlying t ≠ some (.array n e)) (h : HasA P t x) : HasT P t [x] := by
  unfold HasA at h
  split at h
  · rename_i fs hf; simp [stT, hf] at hu
  · rename_i n e hf; exact absurd hf (ha _ _)
  · exact h
end
end Go.Sk
set_option linter.unusedVariables false
set_option linter.unusedSimpArgs false
namespace Go.Sk
open Go.RowKit

mutual
theorem renV_of {f : Nat → Nat} : ∀ x : AV, (∀ id ∈ idsV x, f id = id) → renV f x = x
  | .int .., _ | .bool _, _ | .str _, _ | .flt _, _ | .nil _, _ | .fz .., _ | .pz .., _ | .nilp, _ | .un, _ => rfl
  | .sref id n, h => by simp [renV, h id (by simp [idsV])]
  | .ptr id c, h => by simp [renV, h id (by simp [idsV])]
  | .ptrA id c j, h => by simp [renV, h id (by simp [idsV])]
  | .ptrE id e i c, h => by simp [renV, h id (by simp [idsV])]
  | .arr l, h => by simp only [idsV] at h; simp [renV, renL_of l h]
  | .agg l, h => by simp only [idsV] at h; simp [renV, renL_of l h]
  | .tup l, h => by simp only [idsV] at h; simp [renV, renL_of l h]
theorem renL_of {f : Nat → Nat} : ∀ l : List AV, (∀ id ∈ idsL l, f id = id) → renL f l = l
  | [], _ => rfl
  | x :: xs, h => by
    simp only [idsL, List.mem_append] at h
    simp [renL, renV_of x (fun id hid => h id (.inl hid)), renL_of xs (fun id hid => h id (.inr hid))]
end

theorem renR_of {f : Nat → Nat} (r : Row) (h : ∀ id ∈ idsR r, f id = id) : renR f r = r := by
  cases r with
  | box t v => simp [renR, renL_of v h]
  | _ => rfl

theorem gcF_range {n id : Nat} (h : id < n) : gcF (List.range n) id = id := by
  unfold gcF
  have hm : id ∈ List.range n := by simpa using h
  have h1 := List.idxOf_lt_length_of_mem hm
  have h2 := List.getElem_idxOf h1
  rw [List.getElem_range] at h2
  exact h2

/-- All rows stay. -/
theorem back_keep {kf : Nat} {T : List Nat} {J : Env → List Row → Prop} {env : Env} {rows : List Row} (hk : kf ≤ rows.length) (h1 : ∀ id ∈ idsL (T.map (look env)), id < rows.length) (h2 : ∀ r ∈ rows, ∀ j ∈ idsR r, j < rows.length)
    (hJ : J (T.map fun t => (t, look env t)) rows) : Back kf T J env rows := by
  refine ⟨List.range rows.length, ⟨by simpa using hk, fun i hi => by rw [List.getElem?_range (by omega)], List.nodup_range, fun id hid => by simpa using h1 id hid, fun id hid => ?_⟩, ?_⟩
  · simp only [List.mem_range] at hid
    exact ⟨rows[id], List.getElem?_eq_getElem hid, fun j hj => by simpa using h2 _ (List.getElem_mem hid) j hj⟩
  · have e1 : (T.map fun t => (t, renV (gcF (List.range rows.length)) (look env t))) = T.map fun t => (t, look env t) := by
      apply List.map_congr_left
      intro t ht
      rw [renV_of _ (fun id hid => gcF_range (h1 id (idsL_of (List.mem_map.2 ⟨t, ht, rfl⟩) hid)))]
    have e2 : gcRows (List.range rows.length) rows = rows := by
      apply List.ext_getElem?
      intro i
      simp only [gcRows, List.getElem?_map]
      rcases Nat.lt_or_ge i rows.length with hi | hi
      · rw [List.getElem?_range hi, List.getElem?_eq_getElem hi]
        simp only [Option.map_some, List.getD_eq_getElem?_getD, List.getElem?_eq_getElem hi, Option.getD_some]
        rw [renR_of _ (fun id hid => gcF_range (h2 _ (List.getElem_mem hi) id hid))]
      · rw [List.getElem?_eq_none (by simpa using hi), List.getElem?_eq_none hi]; rfl
    rw [e1, e2]; exact hJ

/-- The first rows stay. -/
theorem back_take {kf k : Nat} {T : List Nat} {J : Env → List Row → Prop} {env : Env} {rows : List Row} (hkf : kf ≤ k) (hk : k ≤ rows.length) (h1 : ∀ id ∈ idsL (T.map (look env)), id < k) (h2 : ∀ r ∈ rows.take k, ∀ j ∈ idsR r, j < k)
    (hJ : J (T.map fun t => (t, look env t)) (rows.take k)) : Back kf T J env rows := by
  refine ⟨List.range k, ⟨by simpa using hkf, fun i hi => by rw [List.getElem?_range (by omega)], List.nodup_range, fun id hid => by simpa using h1 id hid, fun id hid => ?_⟩, ?_⟩
  · simp only [List.mem_range] at hid
    have hid' : id < rows.length := by omega
    refine ⟨rows[id], List.getElem?_eq_getElem hid', fun j hj => ?_⟩
    have : rows[id] ∈ rows.take k := by
      rw [List.mem_take_iff_getElem]
      exact ⟨id, by omega, rfl⟩
    simpa using h2 _ this j hj
  · have e1 : (T.map fun t => (t, renV (gcF (List.range k)) (look env t))) = T.map fun t => (t, look env t) := by
      apply List.map_congr_left
      intro t ht
      rw [renV_of _ (fun id hid => gcF_range (h1 id (idsL_of (List.mem_map.2 ⟨t, ht, rfl⟩) hid)))]
    have e2 : gcRows (List.range k) rows = rows.take k := by
      apply List.ext_getElem?
      intro i
      simp only [gcRows, List.getElem?_map]
      rcases Nat.lt_or_ge i k with hi | hi
      · have hi' : i < rows.length := by omega
        rw [List.getElem?_range hi, List.getElem?_take, if_pos hi, List.getElem?_eq_getElem hi']
        simp only [Option.map_some, List.getD_eq_getElem?_getD, List.getElem?_eq_getElem hi', Option.getD_some]
        have hm : rows[i] ∈ rows.take k := by
          rw [List.mem_take_iff_getElem]
          exact ⟨i, by omega, rfl⟩
        rw [renR_of _ (fun id hid => gcF_range (h2 _ hm id hid))]
      · rw [List.getElem?_eq_none (by simpa using hi), List.getElem?_eq_none (by simp; omega)]; rfl
    rw [e1, e2]; exact hJ

theorem k_loop_n {kf : Nat} {T : List Nat} {I : Nat → Env → List Row → Prop} {n : Nat} {K : Ex → Env → List Row → Prop} {env : Env} {rows : List Row} (m : Nat) (hm : m < n) (h : Back kf T (I m) env rows) : loopK kf T I n K .n env rows := ⟨m, hm, h⟩
end Go.Sk
set_option linter.unusedVariables false
set_option linter.unusedSimpArgs false
namespace Go.Sk
open Go.RowKit

/-- What reading and writing come to, by the kind of value: rules for simp, all in one. -/
theorem W1 : type_of% (And.intro @width_int (And.intro @one_int (And.intro @items_int (And.intro @width_bool (And.intro @one_bool (And.intro @items_bool (And.intro @width_str (And.intro @one_str (And.intro @items_str (And.intro @width_flt (And.intro @one_flt (And.intro @items_flt (And.intro @width_nil (And.intro @one_nil (And.intro @items_nil (And.intro @width_fz (And.intro @one_fz (And.intro @items_fz (And.intro @width_sref (And.intro @one_sref (And.intro @items_sref (And.intro @width_ptr (And.intro @one_ptr (And.intro @items_ptr (And.intro @width_ptrA (And.intro @one_ptrA (And.intro @items_ptrA (And.intro @width_ptrE (And.intro @one_ptrE (And.intro @items_ptrE (And.intro @width_pz (And.intro @one_pz (And.intro @items_pz (And.intro @width_nilp (And.intro @one_nilp (And.intro @items_nilp (And.intro @width_arr (And.intro @one_arr (And.intro @items_agg (And.intro @len_nil (And.intro @len_fz (And.intro @len_sref (And.intro @idxS_sref (And.intro @idxS_fz (And.intro @elems_nil' (And.intro @elems_fz (And.intro @thaw_int (And.intro @thaw_bool (And.intro @thaw_str (And.intro @thaw_flt (And.intro @thaw_nil (And.intro @thaw_fz (And.intro @thaw_nilp (And.intro @slA_width (And.intro @slA_one (And.intro @slA_items (And.intro @slA_len (And.intro @slA_elems (And.intro @slA_thaw (And.intro @_root_.List.nil_append.{0} (And.intro @_root_.List.cons_append.{0} (And.intro @_root_.List.length_cons.{0} (And.intro @_root_.List.length_nil.{0} (And.intro @_root_.List.length_map.{0, 0} (And.intro @_root_.List.map_cons.{0, 0} (And.intro @_root_.List.map_nil.{0, 0} (And.intro @_root_.List.getElem?_cons_zero.{0} (And.intro @_root_.List.getElem?_cons_succ.{0} (And.intro @_root_.List.set_cons_zero.{0} (And.intro @_root_.List.set_cons_succ.{0} (And.intro @Nat.zero_add (And.intro @Nat.add_zero (And.intro @Bool.false_eq_true (And.intro @and_self (@eq_self.{1}))))))))))))))))))))))))))))))))))))))))))))))))))))))))))))))))))))))))))) := And.intro @width_int (And.intro @one_int (And.intro @items_int (And.intro @width_bool (And.intro @one_bool (And.intro @items_bool (And.intro @width_str (And.intro @one_str (And.intro @items_str (And.intro @width_flt (And.intro @one_flt (And.intro @items_flt (And.intro @width_nil (And.intro @one_nil (And.intro @items_nil (And.intro @width_fz (And.intro @one_fz (And.intro @items_fz (And.intro @width_sref (And.intro @one_sref (And.intro @items_sref (And.intro @width_ptr (And.intro @one_ptr (And.intro @items_ptr (And.intro @width_ptrA (And.intro @one_ptrA (And.intro @items_ptrA (And.intro @width_ptrE (And.intro @one_ptrE (And.intro @items_ptrE (And.intro @width_pz (And.intro @one_pz (And.intro @items_pz (And.intro @width_nilp (And.intro @one_nilp (And.intro @items_nilp (And.intro @width_arr (And.intro @one_arr (And.intro @items_agg (And.intro @len_nil (And.intro @len_fz (And.intro @len_sref (And.intro @idxS_sref (And.intro @idxS_fz (And.intro @elems_nil' (And.intro @elems_fz (And.intro @thaw_int (And.intro @thaw_bool (And.intro @thaw_str (And.intro @thaw_flt (And.intro @thaw_nil (And.intro @thaw_fz (And.intro @thaw_nilp (And.intro @slA_width (And.intro @slA_one (And.intro @slA_items (And.intro @slA_len (And.intro @slA_elems (And.intro @slA_thaw (And.intro @_root_.List.nil_append.{0} (And.intro @_root_.List.cons_append.{0} (And.intro @_root_.List.length_cons.{0} (And.intro @_root_.List.length_nil.{0} (And.intro @_root_.List.length_map.{0, 0} (And.intro @_root_.List.map_cons.{0, 0} (And.intro @_root_.List.map_nil.{0, 0} (And.intro @_root_.List.getElem?_cons_zero.{0} (And.intro @_root_.List.getElem?_cons_succ.{0} (And.intro @_root_.List.set_cons_zero.{0} (And.intro @_root_.List.set_cons_succ.{0} (And.intro @Nat.zero_add (And.intro @Nat.add_zero (And.intro @Bool.false_eq_true (And.intro @and_self (@eq_self.{1}))))))))))))))))))))))))))))))))))))))))))))))))))))))))))))))))))))))))))

theorem fr1_int (rows : List Row) (k : IntKind) (n : Int) : fr1 rows (.int k n) = some (.int k n, rows) := rfl
theorem fr1_bool (rows : List Row) (b : Bool) : fr1 rows (.bool b) = some (.bool b, rows) := rfl
theorem fr1_str (rows : List Row) (b : ByteArray) : fr1 rows (.str b) = some (.str b, rows) := rfl
theorem fr1_flt (rows : List Row) (b : Nat) : fr1 rows (.flt b) = some (.flt b, rows) := rfl
theorem fr1_nil (rows : List Row) (e : Nat) : fr1 rows (.nil e) = some (.nil e, rows) := rfl
theorem fr1_fz (rows : List Row) (e : Nat) (l : List (List AV)) : fr1 rows (.fz e l) = some (.fz e l, rows) := rfl
theorem fr1_sref (rows : List Row) (i n : Nat) : fr1 rows (.sref i n) = thawV rows (.sref i n) := rfl
theorem fr1_arr (rows : List Row) (l : List AV) : fr1 rows (.arr l) = if (idsL l).isEmpty then some (.arr l, rows) else none := rfl
theorem fr_agg (rows : List Row) (l : List AV) : fr rows (.agg l) = (frL rows l).map fun q => (.agg q.1, q.2) := rfl
theorem fr_tup (rows : List Row) (l : List AV) : fr rows (.tup l) = (frT rows l).map fun q => (.tup q.1, q.2) := rfl
theorem fr_int (rows : List Row) (k : IntKind) (n : Int) : fr rows (.int k n) = some (.int k n, rows) := rfl
theorem fr_bool (rows : List Row) (b : Bool) : fr rows (.bool b) = some (.bool b, rows) := rfl
theorem frV_agg (rows : List Row) (l : List AV) : frV rows (.agg l) = (frL rows l).map fun q => (.agg q.1, q.2) := rfl
theorem frV_int (rows : List Row) (k : IntKind) (n : Int) : frV rows (.int k n) = some (.int k n, rows) := rfl
theorem frV_bool (rows : List Row) (b : Bool) : frV rows (.bool b) = some (.bool b, rows) := rfl
/-- What a result comes to, by the kind of value: rules for simp, all in one. -/
theorem F1 : type_of% (And.intro @fr1_int (And.intro @fr1_bool (And.intro @fr1_str (And.intro @fr1_flt (And.intro @fr1_nil (And.intro @fr1_fz (And.intro @fr1_sref (And.intro @fr1_arr (And.intro @fr_agg (And.intro @fr_tup (And.intro @fr_int (And.intro @fr_bool (And.intro @frV_agg (And.intro @frV_int (And.intro @frV_bool (And.intro @slA_fr1 (And.intro @slA_frV @slA_fr))))))))))))))))) := And.intro @fr1_int (And.intro @fr1_bool (And.intro @fr1_str (And.intro @fr1_flt (And.intro @fr1_nil (And.intro @fr1_fz (And.intro @fr1_sref (And.intro @fr1_arr (And.intro @fr_agg (And.intro @fr_tup (And.intro @fr_int (And.intro @fr_bool (And.intro @frV_agg (And.intro @frV_int (And.intro @frV_bool (And.intro @slA_fr1 (And.intro @slA_frV @slA_fr))))))))))))))))

section
variable {P : Program} {kf : Nat} {env : Env} {rows rows' : List Row} {os : List MOper} {ds : List DOp} {op : MOp} {d t : Nat} {b c : Bool} {v : AV} {K : Env → List Row → Prop} {KC : Ex → Env → List Row → Prop}

/-- A result that leads to rows: all stay. -/
theorem ret_keep {res : List MRes} {Q : AV → List Row → Prop} {vs : List AV} (h : resVs env rows res = some vs) (h1 : ∀ id ∈ idsV (resV vs), id < rows.length) (h2 : ∀ r ∈ rows, ∀ j ∈ idsR r, j < rows.length) (k : Q (resV vs) rows) : RetW 0 res Q env rows := by
  refine ⟨vs, h, List.range rows.length, ⟨Nat.zero_le _, fun i hi => absurd hi (Nat.not_lt_zero _), List.nodup_range, fun id hid => by simpa using h1 id hid, fun id hid => ?_⟩, ?_⟩
  · simp only [List.mem_range] at hid
    exact ⟨rows[id], List.getElem?_eq_getElem hid, fun j hj => by simpa using h2 _ (List.getElem_mem hid) j hj⟩
  · rw [renV_of _ (fun id hid => gcF_range (h1 id hid))]
    have e2 : gcRows (List.range rows.length) rows = rows := by
      apply List.ext_getElem?
      intro i
      simp only [gcRows, List.getElem?_map]
      rcases Nat.lt_or_ge i rows.length with hi | hi
      · rw [List.getElem?_range hi, List.getElem?_eq_getElem hi]
        simp only [Option.map_some, List.getD_eq_getElem?_getD, List.getElem?_eq_getElem hi, Option.getD_some]
        rw [renR_of _ (fun id hid => gcF_range (h2 _ (List.getElem_mem hi) id hid))]
      · rw [List.getElem?_eq_none (by simpa using hi), List.getElem?_eq_none hi]; rfl
    rw [e2]; exact k

/-- A call that answers yes or no; no: something holds. -/
def BoolIf (Q : Prop) (v : AV) : Prop := ∃ b, v = .bool b ∧ (b = false → Q)
theorem op_bcallQ {f : Nat} {args : List Opd} {Q : Prop} (h : FCallE P f (args.map (Opd.get env)) (BoolIf Q)) (k : ∀ b, (b = false → Q) → Sk.wpOps P os ((d, .bool b) :: env) rows K) : Sk.wpOps P (⟨some d, .call f args, none⟩ :: os) env rows K := h.cw (by rintro v ⟨b, rfl, hq⟩; exact k b hq)
theorem op_tcall {f : Nat} {args : List Opd} (h : FCall P f (args.map (Opd.get env)) (.bool true)) (k : Sk.wpOps P os ((d, .bool true) :: env) rows K) : Sk.wpOps P (⟨some d, .call f args, none⟩ :: os) env rows K := h.cw k
theorem c_dreg1 (k : wpD P rows.length ds env (rows ++ [.dead]) (fun env rows => KC .n env rows)) : wpC P kf (.dreg 1 ds) env rows KC := k
theorem c_dreg2 (k : wpD P rows.length ds env (rows ++ [.dead, .dead]) (fun env rows => KC .n env rows)) : wpC P kf (.dreg 2 ds) env rows KC := k
/-- A row that is made where it was kept free. -/
theorem o_a' {g : Opd → AV} {bb : Nat} {dst gd w nx av sep} {u : AV} {r : Row} {rows' : List Row} (hk : (DOp.mk ⟨dst, op, gd⟩ w nx av sep).kd = .a) (h : stepOp g [] op = some (u, [r])) (h1 : newAt (bb + nx) u = some v) (h2 : rows[bb + nx]? = some .dead) (h3 : rows.set (bb + nx) r = rows') : outc P bb ⟨⟨dst, op, gd⟩, w, nx, av, sep⟩ g rows v rows' := by
  subst h3; unfold outc; rw [hk]; exact ⟨u, r, h, h1, h2, rfl⟩
theorem all_nil {Q : Nat → Prop} : ∀ k ∈ ([] : List Nat), Q k := by simp
theorem all_cons {Q : Nat → Prop} {x : Nat} {xs : List Nat} (h : Q x) (hs : ∀ k ∈ xs, Q k) : ∀ k ∈ x :: xs, Q k := by simpa using ⟨h, hs⟩
end
end Go.Sk
