/- What an input of a type reads as. Conditions: the types are closed and plain (checked where it is used). -/
import Derived.Test.YtnbmngpdbnkhaaaC7Run
import Derived.ChangeArms
import Derived.ChangeOld
set_option linter.unusedVariables false
set_option linter.unusedSimpArgs false
namespace Go.Sk
open Go.RowKit

/-- One value of one cell. -/
inductive Leaf (P : Program) : Nat → AV → Prop
  | bool {t : Nat} (b : Bool) (h : P.underlying t = some .bool) : Leaf P t (.bool b)
  | int {t : Nat} (k : IntKind) (n : Int) (h : P.underlying t = some (.int k)) (hw : (Lit.int k n).wf = true) : Leaf P t (.int k n)
  | str {t : Nat} (s : ByteArray) (h : P.underlying t = some .string) (hw : s.size ≤ maxLen) : Leaf P t (.str s)
  | flt {t : Nat} (b : Nat) (h : P.underlying t = some (.float .f64)) (hw : (Lit.float .f64 b).wf = true) : Leaf P t (.flt b)

mutual
/-- Items of one value of a type. -/
inductive HasT (P : Program) : Nat → List AV → Prop
  | leaf {t : Nat} {x : AV} (h : Leaf P t x) : HasT P t [x]
  | nil {t e : Nat} (h : P.underlying t = some (.slice e)) : HasT P t [.nil e]
  | fz {t e : Nat} (l : List (List AV)) (h : P.underlying t = some (.slice e)) (hl : l.length ≤ maxLen) (he : ∀ us ∈ l, HasT P e us) : HasT P t [.fz e l]
  | arr {t e n : Nat} (l : List AV) (h : P.underlying t = some (.array n e)) (hl : l.length = n) (he : ∀ x ∈ l, Leaf P e x) : HasT P t [.arr l]
  | str {t : Nat} {fs : Array Field} {l : List AV} (h : P.underlying t = some (.struct fs)) (hs : HasTs P (fs.toList.map (·.type)) l) : HasT P t l
inductive HasTs (P : Program) : List Nat → List AV → Prop
  | nil : HasTs P [] []
  | cons {t : Nat} {ts : List Nat} {a b : List AV} (h : HasT P t a) (hs : HasTs P ts b) : HasTs P (t :: ts) (a ++ b)
end

def leafT (P : Program) (t : Nat) : Bool :=
  match P.underlying t with
  | some .bool | some (.int _) | some .string | some (.float .f64) => P.cellsOf t == 1
  | _ => false

def consec (P : Program) : Nat → List Field → Option Nat
  | o, [] => some o
  | o, f :: fs => if f.offset = o then consec P (o + P.cellsOf f.type) fs else none

def okT (P : Program) (ts : List Nat) (t : Nat) : Bool :=
  match P.underlying t with
  | some (.slice e) => ts.contains e && decide (0 < P.cellsOf e) && P.cellsOf t == 1
  | some (.struct fs) => fs.toList.all (fun f => ts.contains f.type) && consec P 0 fs.toList == some (P.cellsOf t)
  | some (.array n e) => leafT P e && P.cellsOf t == n
  | _ => leafT P t

def closedT (P : Program) (ts : List Nat) : Bool := ts.all (okT P ts)

section
variable {H : Type} {enc : TypeId × Value → H} {P : Program} {w : World}

/-- The blocks that are there. -/
def There (w : World) (b : Nat) : Prop := b < w.heap.size

theorem cells_at {a : Addr} {n : Nat} {us : List Value} (h : w.cells? 0 a n = some us) : us.length = n ∧ ∀ j u, us[j]? = some u → w.cell? (a.add j) = some u := by
  unfold World.cells? at h
  simp only [Nat.zero_le, if_true] at h
  have key : ∀ (l : List Nat) (us : List Value), l.mapM (fun i => w.cell? (a.add i)) = some us → us.length = l.length ∧ ∀ (j i : Nat), l[j]? = some i → w.cell? (a.add i) = us[j]? := by
    intro l
    induction l with
    | nil => intro us h; simp at h; subst h; simp
    | cons i l ih =>
      intro us h
      simp only [List.mapM_cons, Option.bind_eq_bind, Option.bind_eq_some_iff, Option.pure_def, Option.some.injEq] at h
      obtain ⟨u, h1, us', h2, rfl⟩ := h
      obtain ⟨k1, k2⟩ := ih us' h2
      refine ⟨by simp [k1], fun j i' hj => ?_⟩
      cases j with
      | zero => simp at hj; subst hj; simpa using h1
      | succ j => simp at hj; simpa using k2 j i' hj
  obtain ⟨k1, k2⟩ := key _ _ h
  refine ⟨by simpa using k1, fun j u hu => ?_⟩
  have hj : j < n := by
    have := (List.getElem?_eq_some_iff.1 hu).1
    simp at k1; omega
  rw [k2 j j (by simp [hj]), hu]

theorem add_block (a : Addr) (i : Nat) : (a.add i).block = a.block := by
  unfold Addr.add; split <;> rfl

theorem there_of_cell {a : Addr} {u : Value} (h : w.cell? a = some u) : There w a.block := by
  unfold World.cell? at h
  unfold There
  cases hq : w.heap[a.block]? with
  | none => simp [hq] at h
  | some c => exact (Array.getElem?_eq_some_iff.1 hq).1

theorem leaf_has {n t : Nat} {cs : List Value} {x : DataW H × List MemPlace} (hl : leafT P t = true) (h : DataW.trod enc P w 0 (fun _ => true) true n t cs = some x) : ∃ v y, cs = [v] ∧ Leaf P t y ∧ RepV P (There w) w noLoc v y ∧ y.one = true := by
  cases n with
  | zero => simp [DataW.trod] at h
  | succ n =>
    unfold leafT at hl
    split at hl
    · rename_i hu
      unfold DataW.trod at h
      rw [hu] at h
      split at h <;> simp_all
      rename_i b
      exact ⟨_, .bool b hu, .bool b, rfl⟩
    · rename_i k hu
      unfold DataW.trod at h
      rw [hu] at h
      split at h <;> simp_all
      obtain ⟨⟨rfl, hw⟩, _⟩ := h
      exact ⟨_, .int _ _ hu hw, .int _ _, rfl⟩
    · rename_i hu
      unfold DataW.trod at h
      rw [hu] at h
      split at h <;> simp_all
      exact ⟨_, .str _ hu h.1, .str _, rfl⟩
    · rename_i hu
      unfold DataW.trod at h
      rw [hu] at h
      split at h <;> simp_all
      rename_i e0
      subst e0
      obtain ⟨⟨e1, hw⟩, _⟩ := h
      subst e1
      exact ⟨_, .flt _ hu hw, .flt _, rfl⟩
    · cases hl

/-- What an input of such a type reads as. -/
theorem trod_has {ts : List Nat} (hc : closedT P ts = true) : ∀ (n t : Nat) (cs : List Value) (x : DataW H × List MemPlace), t ∈ ts → DataW.trod enc P w 0 (fun _ => true) true n t cs = some x →
    ∃ l, HasT P t l ∧ RepL P (There w) w noLoc cs l ∧ cs.length = P.cellsOf t := by
  intro n
  induction n with
  | zero => intro t cs x _ h; simp [DataW.trod] at h
  | succ n ih =>
    intro t cs x ht h
    have hok : okT P ts t = true := by simp only [closedT, List.all_eq_true] at hc; exact hc t ht
    have leaf : leafT P t = true → ∃ l, HasT P t l ∧ RepL P (There w) w noLoc cs l ∧ cs.length = P.cellsOf t := fun hl => by
      obtain ⟨v, y, rfl, h1, h2, h3⟩ := leaf_has hl h
      refine ⟨[y], .leaf h1, .cons _ _ _ _ h3 h2 .nil, ?_⟩
      unfold leafT at hl
      split at hl <;> simp_all
    unfold okT at hok
    split at hok
    · rename_i e hu
      simp only [Bool.and_eq_true, decide_eq_true_eq, beq_iff_eq, List.contains_iff_mem] at hok
      obtain ⟨⟨he, hpos⟩, hone⟩ := hok
      rcases DataW.trod_slice hu h with ⟨rfl, _⟩ | ⟨a, len, cap, elems, rest, m, hm, rfl, rfl, hb, hl, hmx, hlen, hel, _, _⟩
      · exact ⟨[.nil e], .nil hu, .cons _ _ _ _ rfl (.nil e) .nil, by simp [hone]⟩
      · cases hm
        have each : ∀ i, i < len → ∃ us l, w.cells? 0 (a.add (i * P.cellsOf e)) (P.cellsOf e) = some us ∧ HasT P e l ∧ RepL P (There w) w noLoc us l := fun i hi => by
          have := hel i hi
          rw [List.getElem?_eq_getElem (by omega)] at this
          rw [Option.bind_eq_some_iff] at this
          obtain ⟨us, k1, k2⟩ := this
          obtain ⟨l, k3, k4, _⟩ := ih e us _ he k2
          exact ⟨us, l, k1, k3, k4⟩
        have huse : ∃ (us : Nat → List Value) (ls : Nat → List AV), ∀ i, i < len → w.cells? 0 (a.add (i * P.cellsOf e)) (P.cellsOf e) = some (us i) ∧ HasT P e (ls i) ∧ RepL P (There w) w noLoc (us i) (ls i) := by
          refine ⟨fun i => if hi : i < len then (each i hi).choose else [], fun i => if hi : i < len then (each i hi).choose_spec.choose else [], fun i hi => ?_⟩
          simp only [hi, dif_pos]
          exact (each i hi).choose_spec.choose_spec
        obtain ⟨us, ls, hul⟩ := huse
        let l := (List.range len).map ls
        have hll : l.length = len := by simp [l]
        refine ⟨[.fz e l], .fz l hu (by omega) (fun q hq => ?_), ?_, by simp [hone]⟩
        · simp only [l, List.mem_map, List.mem_range] at hq
          obtain ⟨i, hi, rfl⟩ := hq
          exact (hul i hi).2.1
        · have hmaxLen : maxLen ≤ 9223372036854775807 := by decide
          have := RepV.fz (P := P) (im := There w) (w := w) (ρ := noLoc) e (some a) cap l us rfl (by omega) (by omega) (fun i hi => ?_) (fun i hi => ?_)
          · have hgo := this
            rw [hll] at hgo
            exact .cons _ _ _ _ rfl hgo .nil
          · obtain ⟨k1, k2, k3⟩ := hul i (by omega)
            obtain ⟨c1, c2⟩ := cells_at k1
            have hcell : ∀ j u, (us i)[j]? = some u → w.cell? (a.add (i * P.cellsOf e + j)) = some u := fun j u hj => by
              have := c2 j u hj
              rwa [addAA] at this
            refine ⟨a, rfl, ?_, c1, hcell⟩
            have h0 : 0 < (us i).length := by omega
            have := there_of_cell (hcell 0 _ (List.getElem?_eq_getElem h0))
            rwa [add_block] at this
          · have : l[i] = ls i := by simp [l]
            rw [this]
            exact (hul i (by omega)).2.2
    · rename_i fs hu
      simp only [Bool.and_eq_true, List.all_eq_true, beq_iff_eq, List.contains_iff_mem] at hok
      obtain ⟨hfs, hcon⟩ := hok
      unfold DataW.trod at h
      rw [hu] at h
      have h' : cs.length = P.cellsOf t ∧ ∃ xs, fs.toList.mapM (fun f => DataW.trod enc P w 0 (fun _ => true) true n f.type ((cs.drop f.offset).take (P.cellsOf f.type))) = some xs := by
        split at h <;> simp_all
        obtain ⟨h1, xs, h2, _⟩ := h
        exact ⟨xs, h2⟩
      obtain ⟨hlen, xs, hx⟩ := h'
      have key : ∀ (gs : List Field) (o top : Nat) (xs : List (DataW H × List MemPlace)), (∀ f ∈ gs, f.type ∈ ts) → consec P o gs = some top → top = cs.length →
          gs.mapM (fun f => DataW.trod enc P w 0 (fun _ => true) true n f.type ((cs.drop f.offset).take (P.cellsOf f.type))) = some xs →
          ∃ l, HasTs P (gs.map (·.type)) l ∧ RepL P (There w) w noLoc (cs.drop o) l := by
        intro gs
        induction gs with
        | nil =>
          intro o top xs _ h1 h2 h3
          simp [consec] at h1
          subst h1
          exact ⟨[], .nil, by rw [List.drop_eq_nil_of_le (by omega)]; exact .nil⟩
        | cons f gs ih2 =>
          intro o top xs h0 h1 h2 h3
          simp only [consec] at h1
          split at h1
          · rename_i ho
            simp only [List.mapM_cons, Option.bind_eq_bind, Option.bind_eq_some_iff, Option.pure_def, Option.some.injEq] at h3
            obtain ⟨y, k1, ys, k2, _⟩ := h3
            obtain ⟨a, k3, k4, k5⟩ := ih _ _ _ (h0 f (by simp)) k1
            obtain ⟨b, k6, k7⟩ := ih2 _ _ _ (fun g hg => h0 g (List.mem_cons_of_mem _ hg)) h1 h2 k2
            refine ⟨a ++ b, .cons k3 k6, ?_⟩
            have := k4.append k7
            rw [ho] at this
            rwa [← List.drop_drop, List.take_append_drop] at this
          · cases h1
      obtain ⟨l, k1, k2⟩ := key fs.toList 0 _ xs hfs hcon (by omega) hx
      exact ⟨l, .str hu k1, by simpa using k2, hlen⟩
    · rename_i m e hu
      simp only [Bool.and_eq_true, beq_iff_eq] at hok
      obtain ⟨hle, hcell⟩ := hok
      have hce : P.cellsOf e = 1 := by
        unfold leafT at hle
        split at hle <;> simp_all
      unfold DataW.trod at h
      rw [hu] at h
      have h' : cs.length = P.cellsOf t ∧ ∃ xs, (List.range m).mapM (fun i => DataW.trod enc P w 0 (fun _ => true) true n e ((cs.drop (i * P.cellsOf e)).take (P.cellsOf e))) = some xs := by
        simp only at h
        split at h
        · rename_i hlen
          rw [Option.map_eq_some_iff] at h
          obtain ⟨xs, h2, _⟩ := h
          exact ⟨hlen, xs, h2⟩
        · cases h
      obtain ⟨hlen, xs, hx⟩ := h'
      have key : ∀ (k o : Nat) (xs : List (DataW H × List MemPlace)), o + k = cs.length →
          (List.range' o k).mapM (fun i => DataW.trod enc P w 0 (fun _ => true) true n e ((cs.drop (i * P.cellsOf e)).take (P.cellsOf e))) = some xs →
          ∃ l, l.length = k ∧ (∀ x ∈ l, Leaf P e x) ∧ (∀ x ∈ l, x.one = true) ∧ RepL P (There w) w noLoc (cs.drop o) l := by
        intro k
        induction k with
        | zero => intro o xs h1 h2; exact ⟨[], rfl, by simp, by simp, by rw [List.drop_eq_nil_of_le (by omega)]; exact .nil⟩
        | succ k ih2 =>
          intro o xs h1 h2
          simp only [List.range'_succ, List.mapM_cons, Option.bind_eq_bind, Option.bind_eq_some_iff, Option.pure_def, Option.some.injEq] at h2
          obtain ⟨y, k1, ys, k2, _⟩ := h2
          obtain ⟨v, z, e1, e2, e3, e4⟩ := leaf_has hle k1
          obtain ⟨l, g1, g2, g3, g4⟩ := ih2 (o + 1) _ (by omega) k2
          refine ⟨z :: l, by simp [g1], by simpa [e2] using g2, by simpa [e4] using g3, ?_⟩
          have hd : cs.drop o = v :: cs.drop (o + 1) := by
            rw [hce, Nat.mul_one] at e1
            have hlt : o < cs.length := by omega
            have e2 : cs[o] = v := by
              have := congrArg (fun l : List Value => l[0]?) e1
              simp [List.getElem?_take, List.getElem?_drop, hlt] at this
              exact this
            rw [List.drop_eq_getElem_cons hlt, e2]
          rw [hd]
          exact .cons _ _ _ _ e4 e3 g4
      obtain ⟨l, g1, g2, g3, g4⟩ := key m 0 xs (by omega) (by rw [← List.range_eq_range']; exact hx)
      have := RepL.arr (P := P) (im := There w) (w := w) (ρ := noLoc) cs l [] [] g3 (by simpa using g4) .nil
      exact ⟨[.arr l], .arr l hu g1 g2, by simpa using this, hlen⟩
    · exact leaf hok
end
end Go.Sk
