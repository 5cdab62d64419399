/- What the machine's operations do with what reads as abstract values: what is built. Conditions: none (a library text). -/
import Derived.Test.YtnbmngpdbnkhaaaC7Sound3
set_option linter.unusedVariables false
set_option linter.unusedSimpArgs false
namespace Go.Sk
open Go.RowKit

section
variable {P : Program} {im : Nat → Prop} {w w1 : World} {ρ : Nat → Loc} {rows rows1 : List Row}

/-- A type's cells as items. -/
def parseL (p : TypeId → List Value → Option (List AV × List Value)) : List TypeId → List Value → Option (List AV × List Value)
  | [], us => some ([], us)
  | t :: ts, us => (p t us).bind fun q => (parseL p ts q.2).map fun r => (q.1 ++ r.1, r.2)

def parse (P : Program) : Nat → TypeId → List Value → Option (List AV × List Value)
  | 0, _, _ => none
  | n + 1, t, us => match P.underlying t with
    | some (.struct fs) => parseL (parse P n) (fs.toList.map (·.type)) us
    | some (.array k e) => (parseL (parse P n) (List.replicate k e) us).bind fun q => if q.1.all AV.one then some ([.arr q.1], q.2) else none
    | some (.slice e) => match us with
      | .slice none 0 0 :: r => some ([.nil e], r)
      | _ => none
    | some (.pointer _) => match us with
      | .pointer none :: r => some ([.nilp], r)
      | _ => none
    | some _ => match us with
      | .int k m :: r => some ([.int k m], r)
      | .bool b :: r => some ([.bool b], r)
      | .string s :: r => some ([.str s], r)
      | .float .f64 b :: r => some ([.flt b], r)
      | _ => none
    | none => none

theorem parse_sound (im : Nat → Prop) (w : World) (ρ : Nat → Loc) : ∀ (n : Nat) (t : TypeId) (us : List Value) (l : List AV) (r : List Value), parse P n t us = some (l, r) → ∃ vs, us = vs ++ r ∧ RepL P im w ρ vs l := by
  intro n
  induction n with
  | zero => intro t us l r h; simp [parse] at h
  | succ n ih =>
    have hgo : ∀ (ts : List TypeId) (us : List Value) (l : List AV) (r : List Value), parseL (parse P n) ts us = some (l, r) → ∃ vs, us = vs ++ r ∧ RepL P im w ρ vs l := by
      intro ts
      induction ts with
      | nil => intro us l r h; simp [parseL] at h; obtain ⟨rfl, rfl⟩ := h; exact ⟨[], by simp, .nil⟩
      | cons t ts ih2 =>
        intro us l r h
        simp only [parseL, Option.bind_eq_some_iff, Option.map_eq_some_iff] at h
        obtain ⟨⟨a, b⟩, h1, ⟨c, d⟩, h2, h3⟩ := h
        cases h3
        obtain ⟨v1, rfl, k1⟩ := ih t us a b h1
        obtain ⟨v2, e, k2⟩ := ih2 b c d h2
        exact ⟨v1 ++ v2, by simp [e], k1.append k2⟩
    intro t us l r h
    unfold parse at h
    split at h
    · exact hgo _ _ _ _ h
    · rw [Option.bind_eq_some_iff] at h
      obtain ⟨⟨a, b⟩, h1, h2⟩ := h
      simp only at h2
      split at h2
      · rename_i ho
        cases h2
        obtain ⟨vs, e, k⟩ := hgo _ _ _ _ h1
        refine ⟨vs, e, ?_⟩
        simpa using RepL.arr vs a [] [] (by simpa using ho) k .nil
      · cases h2
    · split at h
      · cases h; exact ⟨[_], rfl, .cons _ _ _ _ rfl (.nil _) .nil⟩
      · cases h
    · split at h
      · cases h; exact ⟨[_], rfl, .cons _ _ _ _ rfl .nilp .nil⟩
      · cases h
    · split at h
      · cases h; exact ⟨[_], rfl, .cons _ _ _ _ rfl (.int _ _) .nil⟩
      · cases h; exact ⟨[_], rfl, .cons _ _ _ _ rfl (.bool _) .nil⟩
      · cases h; exact ⟨[_], rfl, .cons _ _ _ _ rfl (.str _) .nil⟩
      · cases h; exact ⟨[_], rfl, .cons _ _ _ _ rfl (.flt _) .nil⟩
      · cases h
    · cases h

/-- A type's zero value, as items. -/
def zeroI (P : Program) (t : TypeId) : Option (List AV) :=
  match P.info? t with
  | some i => match i.zero with
    | some z => match parse P 8 t z.cells.toList with
      | some (l, []) => some l
      | _ => none
    | none => none
  | none => none

theorem zeroI_sound {t : TypeId} {l : List AV} (h : zeroI P t = some l) (im : Nat → Prop) (w : World) (ρ : Nat → Loc) : ∃ z, (∀ w, (zeroValue t).run P w = .ok z w) ∧ RepL P im w ρ z.cells.toList l := by
  unfold zeroI at h
  split at h
  · rename_i i hi
    split at h
    · rename_i z hz
      split at h
      · rename_i l' hp
        cases h
        obtain ⟨vs, e, k⟩ := parse_sound im w ρ _ _ _ _ _ hp
        simp at e
        refine ⟨z, fun w => ?_, by rw [e]; exact k⟩
        simp [zeroValue, typeInfo, hi, hz]
      · cases h
    · cases h
  · cases h

/-- A new variable. -/
theorem box_sound (hW : WF P im w ρ rows) {v : Value} {l : List AV} (t : TypeId) (hl : RepL P im w ρ v.cells.toList l) :
    ∃ w' ρ', (Instr.box t v).run P w = .ok (.pointer (some ⟨w.heap.size, 0, none⟩)) w' ∧ WF P im w' ρ' (rows ++ [.box t l]) ∧ Ext w im ρ rows w' im ρ' (rows ++ [.box t l]) ∧
      RepV P im w' ρ' (.pointer (some ⟨w.heap.size, 0, none⟩)) (.ptr rows.length 0) := by
  have hk : ∀ b, im b → im b ∧ (w.alloc (.cells v.cells t)).heap[b]? = w.heap[b]? := fun b hb => ⟨hb, heap_alloc_old w _ (hW.im b hb)⟩
  have hρ : ∀ id, ρ id ≠ .no → upd ρ rows.length (.blk w.heap.size 0) id = ρ id := fun id h => upd_other _ _ (fun e => h (hW.no id (by omega)))
  obtain ⟨a, b⟩ := push hW v.cells t 0 (.box t l) rfl ⟨w.heap.size, 0, v.cells, upd_same _ _ _, heap_alloc_new w _, fun h => by have := hW.im _ h; omega, hl.mono hk hρ⟩
  refine ⟨_, _, ?_, a, b, .ptr _ _ _ 0 (upd_same _ _ _)⟩
  simp [Instr.box, newVar, newRow, newObj]
  rfl

theorem new_sound (hW : WF P im w ρ rows) {t : TypeId} {l : List AV} (hz : zeroI P t = some l) :
    ∃ v w' ρ', (Instr.alloc t true (.tuple #[])).run P w = .ok v w' ∧ WF P im w' ρ' (rows ++ [.box t l]) ∧ Ext w im ρ rows w' im ρ' (rows ++ [.box t l]) ∧ RepV P im w' ρ' v (.ptr rows.length 0) := by
  obtain ⟨z, h1, h2⟩ := zeroI_sound hz im w ρ
  obtain ⟨w', ρ', a, b, c, d⟩ := box_sound hW t h2
  refine ⟨_, w', ρ', ?_, b, c, d⟩
  rw [← a]
  simp [Instr.alloc, Instr.box, h1 w]

theorem foldl_put (off : Nat) : ∀ (vs : List Value) (k : Nat) (cs : Array Value), off + k + vs.length ≤ cs.size →
    (vs.zipIdx k).foldl (fun (cs : Array Value) (p : Value × Nat) => cs.setIfInBounds (off + p.2) p.1) cs = (cs.toList.take (off + k) ++ vs ++ cs.toList.drop (off + k + vs.length)).toArray
  | [], k, cs, _ => by simp
  | v :: vs, k, cs, h => by
    simp only [List.zipIdx_cons, List.foldl_cons]
    rw [foldl_put off vs (k + 1) _ (by simp at h ⊢; omega)]
    congr 1
    rw [Array.toList_setIfInBounds]
    have := list_seg_step cs.toList (off + k) v vs (by simp at h ⊢; omega)
    simpa [Nat.add_assoc] using this

theorem fill_one (place : Nat → Option (Nat × Nat)) (cells : Array Value) (i off size : Nat) (v : Value) (rest : List (Nat × Value)) (hp : place i = some (off, size)) (hv : v.cells.size = size) (hf : off + size ≤ cells.size) :
    Instr.fill place cells ((i, v) :: rest) = Instr.fill place (cells.toList.take off ++ v.cells.toList ++ cells.toList.drop (off + size)).toArray rest := by
  rw [Instr.fill]
  simp only [hp]
  rw [if_neg (by simp; omega)]
  congr 1
  have := foldl_put off v.cells.toList 0 cells (by simp; omega)
  simp only [Nat.add_zero, Array.length_toList, hv] at this
  rw [← this, ← Array.foldl_toList, Array.toList_zipIdx]

inductive All2 {α β : Type} (R : α → β → Prop) : List α → List β → Prop
  | nil : All2 R [] []
  | cons {a b as bs} (h : R a b) (hs : All2 R as bs) : All2 R (a :: as) (b :: bs)

theorem All2.imp {α β : Type} {R R' : α → β → Prop} (h : ∀ a b, R a b → R' a b) : ∀ {as : List α} {bs : List β}, All2 R as bs → All2 R' as bs
  | _, _, .nil => .nil
  | _, _, .cons a as => .cons (h _ _ a) (All2.imp h as)

/-- Parts put into a value's cells. -/
theorem fill_sound (place : Nat → Option (Nat × Nat)) {g : Opd → AV} {c : Operand → Value} :
    ∀ (ps : List (Nat × Operand)) (qs : List (Nat × Nat × Opd)) (cells : Array Value) (l l' : List AV), RepL P im w ρ cells.toList l →
      All2 (fun p q => RepV P im w ρ (c p.2) (g q.2.2) ∧ place p.1 = some (q.1, q.2.1)) ps qs →
      putParts g l qs = some l' →
      ∃ cells', Instr.fill place cells (ps.map fun p => (p.1, c p.2)) = some cells' ∧ RepL P im w ρ cells'.toList l' ∧ cells'.size = cells.size
  | [], _, cells, l, l', hr, .nil, h => by
    simp [putParts] at h; subst h
    exact ⟨cells, rfl, hr, rfl⟩
  | (i, x) :: ps, (o, size, y) :: qs, cells, l, l', hr, .cons hk hs, h => by
    obtain ⟨e1, e2⟩ := hk
    simp only at e1 e2
    simp only [putParts, Option.bind_eq_some_iff] at h
    obtain ⟨m, h1, h⟩ := h
    split at h
    · rename_i hw
      rw [Option.bind_eq_some_iff] at h
      obtain ⟨z, h2, h3⟩ := h
      have hi := items_sound e1 h1
      have hsz : (c x).cells.size = size := by rw [← Array.length_toList, hi.width]; exact hw
      obtain ⟨p1, p2⟩ := hr.putAt hi h2
      rw [Array.length_toList, Array.length_toList, hsz] at p2
      rw [Array.length_toList, hsz] at p1
      obtain ⟨cells', k1, k2, k3⟩ := fill_sound place ps qs (cells.toList.take o ++ (c x).cells.toList ++ cells.toList.drop (o + size)).toArray z l' (by simpa using p1) hs h3
      refine ⟨cells', ?_, k2, ?_⟩
      · rw [List.map_cons, fill_one place cells i o size (c x) _ e2 hsz p2]
        exact k1
      · rw [k3]; simp [hsz]; omega
    · cases h

theorem build_sound {t : TypeId} {fs : Array Field} {places : Array (Nat × Nat)} {g : Opd → AV} {c : Operand → Value} {z l' : List AV} {ps : Array (Nat × Operand)} {qs : List (Nat × Nat × Opd)}
    (ht : P.underlying t = some (.struct fs)) (hz : zeroI P t = some z) (hpl : ∀ w, (fs.mapM fun f => (do pure (f.offset, ← sizeOf f.type) : Sem (Nat × Nat))).run P w = .ok places w)
    (hf : All2 (fun p q => RepV P im w ρ (c p.2) (g q.2.2) ∧ places[p.1]? = some (q.1, q.2.1)) ps.toList qs) (hp : putParts g z qs = some l') :
    ∃ v, (Instr.build t (ps.map fun (i, x) => (i, c x))).run P w = .ok v w ∧ RepV P im w ρ v (.agg l') := by
  obtain ⟨zv, h1, h2⟩ := zeroI_sound hz im w ρ
  obtain ⟨cells', k1, k2, _⟩ := fill_sound (fun i => places[i]?) ps.toList qs zv.cells z l' h2 hf hp
  have hm : (ps.map fun (i, x) => (i, c x)).toList = ps.toList.map fun p => (p.1, c p.2) := by simp
  refine ⟨.agg cells', ?_, by simpa using RepV.agg cells'.toList l' k2⟩
  have k1' : Instr.fill (fun x => places[x]?) zv.cells (ps.map fun (i, x) => (i, c x)).toList = some cells' := by rw [hm]; exact k1
  unfold Instr.build
  simp only [Sem.run_bind, h1 w, Result.andThen_ok, run_underlying ht, hpl w]
  rw [k1']
  rfl

theorem elems_fill {g : Opd → AV} {c : Operand → Value} {sz : Nat} :
    ∀ (ps : List (Nat × Operand)) (qs : List (Nat × Opd)) (im : Nat → Prop) (rows rows' : List Row) (cells : Array Value) (l l' : List (List AV)), WF P im w ρ rows →
      cells.size = l.length * sz → (∀ k (h : k < l.length), RepL P im w noLoc (seg cells.toList sz k) l[k]) →
      All2 (fun p q => RepV P im w ρ (c p.2) (g q.2) ∧ p.1 = q.1) ps qs →
      putElems g sz rows l qs = some (l', rows') →
      ∃ im' cells', Instr.fill (fun i => some (i * sz, sz)) cells (ps.map fun p => (p.1, c p.2)) = some cells' ∧ WF P im' w ρ rows' ∧ Ext w im ρ rows w im' ρ rows' ∧
        cells'.size = cells.size ∧ l'.length = l.length ∧ rows'.length = rows.length ∧ ∀ k (h : k < l'.length), RepL P im' w noLoc (seg cells'.toList sz k) l'[k]
  | [], _, im, rows, rows', cells, l, l', hW, hc, hr, .nil, h => by
    simp [putElems] at h; obtain ⟨rfl, rfl⟩ := h
    exact ⟨im, cells, rfl, hW, Ext.refl _ _ _ _, rfl, rfl, rfl, hr⟩
  | (i, x) :: ps, (_, y) :: qs, im, rows, rows', cells, l, l', hW, hc, hr, .cons hk hs, h => by
    obtain ⟨e1, rfl⟩ := hk
    simp only at e1
    simp only [putElems, Option.bind_eq_some_iff] at h
    obtain ⟨m, h1, ⟨m', r1⟩, h2, h⟩ := h
    split at h
    · rename_i hw
      obtain ⟨hil, hw⟩ := hw
      simp only at h hil
      have hi := items_sound e1 h1
      have hsz : (c x).cells.size = sz := by rw [← Array.length_toList, hi.width]; exact hw
      obtain ⟨im1, a1, a2, a3, a4⟩ := thawL_sound hW hi h2
      have hmul : (i + 1) * sz ≤ l.length * sz := Nat.mul_le_mul_right _ hil
      have hmul' : (i + 1) * sz = i * sz + sz := by rw [Nat.add_mul]; omega
      have hseg : ∀ k, seg (cells.toList.take (i * sz) ++ (c x).cells.toList ++ cells.toList.drop (i * sz + sz)) sz k = if k = i then (c x).cells.toList else seg cells.toList sz k := fun k => by
        have := seg_replace cells.toList sz i 0 (c x).cells.toList k (by simp [hsz]) (by simp; omega)
        simp only [Nat.add_zero, Nat.zero_add, Array.length_toList, hsz, List.take_zero, List.nil_append] at this
        rw [this]
        split
        · have hsl : (seg cells.toList sz i).length = sz := by simp [seg]; omega
          rw [List.drop_eq_nil_of_le (by omega), List.append_nil]
        · rfl
      obtain ⟨im2, cells', k1, k2, k3, k4, k5, k6, k7⟩ := elems_fill ps qs im1 r1 rows' (cells.toList.take (i * sz) ++ (c x).cells.toList ++ cells.toList.drop (i * sz + sz)).toArray (l.set i m') l' a1
        (by simp [hsz]; omega) (fun k hk => by
          rw [hseg k]
          by_cases hki : k = i
          · subst hki; simp only [if_true, List.getElem_set_self]; exact a3
          · rw [if_neg hki, List.getElem_set_ne (fun e => hki e.symm)]
            exact (hr k (by simpa using hk)).mono (a2.keeps hW) (fun _ hn => absurd rfl hn)) (by
          refine All2.imp (fun p q hpq => ⟨a2.repV hW hpq.1, hpq.2⟩) hs) h
      refine ⟨im2, cells', ?_, k2, a2.trans k3, ?_, by simpa using k5, by omega, k7⟩
      · rw [List.map_cons, fill_one _ cells i (i * sz) sz (c x) _ rfl hsz (by omega)]
        exact k1
      · rw [k4]; simp [hsz]; omega
    · cases h

theorem bslice_sound (hW : WF P im w ρ rows) {t e n : Nat} {i0 : TypeInfo} {g : Opd → AV} {c : Operand → Value} {z : List AV} {l' : List (List AV)} {rows' : List Row} {ps : Array (Nat × Operand)} {qs : List (Nat × Opd)}
    (ht : P.underlying t = some (.slice e)) (hi : P.info? e = some i0) (hz : zeroI P e = some z) (hsz : i0.size = widths z) (hs0 : 0 < widths z) (hn : n * widths z ≤ 2 ^ 24)
    (hf : All2 (fun p q => RepV P im w ρ (c p.2) (g q.2) ∧ p.1 = q.1) ps.toList qs) (hp : putElems g (widths z) rows (List.replicate n z) qs = some (l', rows')) :
    ∃ v w' im' ρ', (Instr.buildSlice t n (ps.map fun (i, x) => (i, c x))).run P w = .ok v w' ∧ WF P im' w' ρ' (rows' ++ [.vec e l']) ∧ Ext w im ρ rows w' im' ρ' (rows' ++ [.vec e l']) ∧ RepV P im' w' ρ' v (.sref rows'.length n) := by
  obtain ⟨zv, h1, h2⟩ := zeroI_sound hz im w noLoc
  have hzs : zv.cells.size = widths z := by rw [← Array.length_toList, h2.width]
  have hsize : (sizeOf e).run P w = .ok (widths z) w := by simp [sizeOf, typeInfo, hi, hsz]
  let zc : Array Value := if n * widths z = 0 then #[] else zv.cells
  let cells : Array Value := (Array.range (n * widths z)).map (zc[· % zc.size]!)
  have hcs : cells.size = (List.replicate n z).length * widths z := by simp [cells]
  have hseg : ∀ k (h : k < (List.replicate n z).length), RepL P im w noLoc (seg cells.toList (widths z) k) (List.replicate n z)[k] := by
    intro k hk
    simp at hk
    have hzc : zc = zv.cells := by
      have : n * widths z ≠ 0 := Nat.ne_of_gt (Nat.mul_pos (by omega) hs0)
      simp [zc, this]
    have hmul : (k + 1) * widths z ≤ n * widths z := Nat.mul_le_mul_right _ hk
    rw [Nat.add_mul] at hmul
    have : seg cells.toList (widths z) k = zv.cells.toList := by
      apply List.ext_getElem?
      intro j
      by_cases hj : j < widths z
      · have e1 : (k * widths z + j) % widths z = j := by rw [Nat.mul_comm, Nat.mul_add_mod, Nat.mod_eq_of_lt hj]
        have hj2 : k * widths z + j < n * widths z := by omega
        simp only [seg, List.getElem?_take, hj, if_true, List.getElem?_drop, cells, Array.toList_map, List.getElem?_map, hzc, hzs]
        rw [Array.getElem?_toList, Array.getElem?_range, if_pos hj2, Option.map_some, e1, Array.getElem?_toList]
        rw [getElem!_pos zv.cells j (by omega), Array.getElem?_eq_getElem (by omega)]
      · have e1 : (seg cells.toList (widths z) k).length ≤ j := by simp [seg]; omega
        rw [List.getElem?_eq_none e1, List.getElem?_eq_none (by simp; omega)]
    rw [this, List.getElem_replicate]
    exact h2
  obtain ⟨im1, cells', k1, k2, k3, k4, k5, k6, k7⟩ := elems_fill ps.toList qs im rows rows' cells (List.replicate n z) l' hW hcs hseg hf hp
  have hlen : l'.length = n := by rw [k5]; simp
  have hn24 : n ≤ 2 ^ 24 := Nat.le_trans (Nat.le_mul_of_pos_right _ hs0) hn
  have hcell : P.cellsOf e = widths z := by simp [Program.cellsOf, hi, hsz]
  have hk : ∀ b, im1 b → im1 b ∧ (w.alloc (.cells cells' e)).heap[b]? = w.heap[b]? := fun b hb => ⟨hb, heap_alloc_old w _ (k2.im b hb)⟩
  have hρ : ∀ id, ρ id ≠ .no → upd ρ rows'.length (.blk w.heap.size n) id = ρ id := fun id h => upd_other _ _ (fun e => h (k2.no id (by omega)))
  obtain ⟨a, b⟩ := push k2 cells' e n (.vec e l') rfl (.inr ⟨w.heap.size, n, upd_same _ _ _, fun h => by have := k2.im _ h; omega, cells', heap_alloc_new w _, by omega, by omega, by rw [k4, hcell]; simp [cells], fun i hi' => by
    rw [hcell]; exact (k7 i hi').mono hk (fun _ hn => absurd rfl hn)⟩)
  refine ⟨.slice (some ⟨w.heap.size, 0, none⟩) n n, _, im1, _, ?_, a, k3.trans b, .sref _ _ n n (upd_same _ _ _) (Nat.le_refl _)⟩
  have hm : (ps.map fun (i, x) => (i, c x)).toList = ps.toList.map fun p => (p.1, c p.2) := by simp
  have k1' : Instr.fill (fun i => some (i * widths z, widths z)) cells (ps.map fun (i, x) => (i, c x)).toList = some cells' := by rw [hm]; exact k1
  unfold Instr.buildSlice
  simp only [Sem.run_bind, run_underlying ht, Result.andThen_ok, hsize]
  rw [if_neg (by omega)]
  by_cases h0 : n * widths z = 0
  · rw [if_pos h0]
    have hzc : zc = #[] := by simp [zc, h0]
    have k1'' := k1'
    simp only [cells, hzc] at k1''
    simp only [Sem.run_bind, Sem.run_pure, Result.andThen_ok, k1'']
    simp [newRow, newObj]
    rfl
  · rw [if_neg h0]
    have hzc : zc = zv.cells := by simp [zc, h0]
    have k1'' := k1'
    simp only [cells, hzc] at k1''
    simp only [Sem.run_bind, Sem.run_pure, Result.andThen_ok, h1 w, k1'']
    simp [newRow, newObj]
    rfl
end
end Go.Sk
