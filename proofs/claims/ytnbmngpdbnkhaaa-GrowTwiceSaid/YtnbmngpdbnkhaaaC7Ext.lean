/- States: rows that lie in a world; how a world goes on. Conditions: none (a library text). -/
import Derived.Test.YtnbmngpdbnkhaaaC7Ops
set_option linter.unusedVariables false
namespace Go.Sk
open Go.RowKit

/-- The cells of element i of a row of elements of sz cells. -/
def seg (us : List Value) (sz i : Nat) : List Value := (us.drop (i * sz)).take sz

/-- Elements in a block. -/
def InBlk (P : Program) (im : Nat → Prop) (w : World) (g cap e : Nat) (l : List (List AV)) : Prop :=
  ∃ cur, w.heap[g]? = some (.cells cur e (0, 0)) ∧ l.length ≤ cap ∧ cap ≤ 9223372036854775807 ∧ cur.size = cap * P.cellsOf e ∧
    ∀ i (h : i < l.length), RepL P im w noLoc (seg cur.toList (P.cellsOf e) i) l[i]

def RowOK (P : Program) (im : Nat → Prop) (w : World) (ρ : Nat → Loc) (id : Nat) : Row → Prop
  | .box t v => ∃ g cap cur, ρ id = .blk g cap ∧ w.heap[g]? = some (.cells cur t (0, 0)) ∧ ¬ im g ∧ RepL P im w ρ cur.toList v
  | .vec e l => (ρ id = .nil ∧ l = []) ∨ ∃ g cap, ρ id = .blk g cap ∧ ¬ im g ∧ InBlk P im w g cap e l
  | .frz e l => (ρ id = .nil ∧ l = []) ∨ ∃ g cap, ρ id = .blk g cap ∧ im g ∧ InBlk P im w g cap e l
  | .dead => True

def Row.live : Row → Bool
  | .box .. | .vec .. => true
  | _ => false

/-- The blocks that may be written. -/
def Own (ρ : Nat → Loc) (rows : List Row) (b : Nat) : Prop := ∃ id r cap, rows[id]? = some r ∧ r.live = true ∧ ρ id = .blk b cap

structure WF (P : Program) (im : Nat → Prop) (w : World) (ρ : Nat → Loc) (rows : List Row) : Prop where
  row : ∀ id r, rows[id]? = some r → RowOK P im w ρ id r
  inj : ∀ id id' r r' b cap cap', rows[id]? = some r → rows[id']? = some r' → r.live = true → r'.live = true → ρ id = .blk b cap → ρ id' = .blk b cap' → id = id'
  no : ∀ id, rows.length ≤ id → ρ id = .no
  im : ∀ b, im b → b < w.heap.size

structure Ext (w : World) (im : Nat → Prop) (ρ : Nat → Loc) (rows : List Row) (w' : World) (im' : Nat → Prop) (ρ' : Nat → Loc) (rows' : List Row) : Prop where
  os : w'.os = w.os
  tape : w'.tape = w.tape
  output : w'.output = w.output
  size : w.heap.size ≤ w'.heap.size
  block : ∀ b, b < w.heap.size → ¬ Own ρ rows b → w'.heap[b]? = w.heap[b]?
  imsub : ∀ b, im b → im' b
  imnew : ∀ b, im' b → im b ∨ Own ρ rows b ∨ w.heap.size ≤ b
  rho : ∀ id, ρ id ≠ .no ∨ id < rows.length → ρ' id = ρ id
  len : rows.length ≤ rows'.length
  own : ∀ b, Own ρ' rows' b → Own ρ rows b ∨ w.heap.size ≤ b

theorem Ext.refl (w : World) (im ρ rows) : Ext w im ρ rows w im ρ rows :=
  ⟨rfl, rfl, rfl, Nat.le_refl _, fun _ _ _ => rfl, fun _ h => h, fun _ h => .inl h, fun _ _ => rfl, Nat.le_refl _, fun _ h => .inl h⟩

theorem Ext.trans {w im ρ rows w' im' ρ' rows' w'' im'' ρ'' rows''} (h : Ext w im ρ rows w' im' ρ' rows') (k : Ext w' im' ρ' rows' w'' im'' ρ'' rows'') : Ext w im ρ rows w'' im'' ρ'' rows'' where
  os := k.os.trans h.os
  tape := k.tape.trans h.tape
  output := k.output.trans h.output
  size := Nat.le_trans h.size k.size
  block := fun b hb ho => (k.block b (Nat.lt_of_lt_of_le hb h.size) (fun ho' => by rcases h.own b ho' with h1 | h1; exact ho h1; omega)).trans (h.block b hb ho)
  imsub := fun b hb => k.imsub b (h.imsub b hb)
  imnew := fun b hb => by
    rcases k.imnew b hb with h1 | h1 | h1
    · exact h.imnew b h1
    · rcases h.own b h1 with h2 | h2
      · exact .inr (.inl h2)
      · exact .inr (.inr h2)
    · exact .inr (.inr (Nat.le_trans h.size h1))
  rho := fun id hid => by
    have h1 := h.rho id hid
    rw [k.rho id (hid.imp (fun hn => by rw [h1]; exact hn) (fun hl => Nat.lt_of_lt_of_le hl h.len)), h1]
  len := Nat.le_trans h.len k.len
  own := fun b hb => by
    rcases k.own b hb with h1 | h1
    · exact h.own b h1
    · exact .inr (Nat.le_trans h.size h1)

section
variable {P : Program} {im im' : Nat → Prop} {w w' : World} {ρ ρ' : Nat → Loc} {rows rows' : List Row}

theorem WF.own_im (h : WF P im w ρ rows) {b : Nat} (hb : Own ρ rows b) : ¬ im b ∧ b < w.heap.size := by
  obtain ⟨id, r, cap, hr, hl, hρ⟩ := hb
  have := h.row id r hr
  cases r with
  | box t v =>
    obtain ⟨g, cap', cur, h1, h2, h3, _⟩ := this
    rw [hρ] at h1; cases h1
    exact ⟨h3, (Array.getElem?_eq_some_iff.1 h2).1⟩
  | vec e l =>
    rcases this with ⟨h1, _⟩ | ⟨g, cap', h1, h3, cur, h2, _⟩
    · rw [hρ] at h1; cases h1
    · rw [hρ] at h1; cases h1
      exact ⟨h3, (Array.getElem?_eq_some_iff.1 h2).1⟩
  | frz e l => simp [Row.live] at hl
  | dead => simp [Row.live] at hl

/-- What stays, stays as it reads. -/
theorem Ext.keeps (hW : WF P im w ρ rows) (h : Ext w im ρ rows w' im' ρ' rows') : ∀ b, im b → im' b ∧ w'.heap[b]? = w.heap[b]? :=
  fun b hb => ⟨h.imsub b hb, h.block b (hW.im b hb) (fun ho => (hW.own_im ho).1 hb)⟩

theorem Ext.repV (hW : WF P im w ρ rows) (h : Ext w im ρ rows w' im' ρ' rows') {v x} (hv : RepV P im w ρ v x) : RepV P im' w' ρ' v x := hv.mono (h.keeps hW) (fun id hn => h.rho id (.inl hn))
theorem Ext.repL (hW : WF P im w ρ rows) (h : Ext w im ρ rows w' im' ρ' rows') {v x} (hv : RepL P im w ρ v x) : RepL P im' w' ρ' v x := hv.mono (h.keeps hW) (fun id hn => h.rho id (.inl hn))
theorem Ext.repT (hW : WF P im w ρ rows) (h : Ext w im ρ rows w' im' ρ' rows') {v x} (hv : RepT P im w ρ v x) : RepT P im' w' ρ' v x := hv.mono (h.keeps hW) (fun id hn => h.rho id (.inl hn))

theorem InBlk.mono {g cap e : Nat} {l : List (List AV)} (hb : ∀ b, im b → im' b ∧ w'.heap[b]? = w.heap[b]?) (hg : w'.heap[g]? = w.heap[g]?) (h : InBlk P im w g cap e l) : InBlk P im' w' g cap e l := by
  obtain ⟨cur, h1, h2, h3, h4, h5⟩ := h
  exact ⟨cur, hg.trans h1, h2, h3, h4, fun i hi => (h5 i hi).mono hb (fun _ hn => absurd rfl hn)⟩

/-- A row whose block is as it was. -/
theorem RowOK.mono {id : Nat} {r : Row} (hb : ∀ b, im b → im' b ∧ w'.heap[b]? = w.heap[b]?) (hρ : ∀ id, ρ id ≠ .no → ρ' id = ρ id)
    (hg : ∀ g cap, r.live = true → ρ id = .blk g cap → w'.heap[g]? = w.heap[g]? ∧ (¬ im g → ¬ im' g)) (h : RowOK P im w ρ id r) : RowOK P im' w' ρ' id r := by
  cases r with
  | box t v =>
    obtain ⟨g, cap, cur, h1, h2, h3, h4⟩ := h
    obtain ⟨a, b⟩ := hg g cap rfl h1
    exact ⟨g, cap, cur, by rw [hρ id (by rw [h1]; simp)]; exact h1, a.trans h2, b h3, h4.mono hb hρ⟩
  | vec e l =>
    rcases h with ⟨h1, h2⟩ | ⟨g, cap, h1, h3, h4⟩
    · exact .inl ⟨by rw [hρ id (by rw [h1]; simp)]; exact h1, h2⟩
    · obtain ⟨a, b⟩ := hg g cap rfl h1
      exact .inr ⟨g, cap, by rw [hρ id (by rw [h1]; simp)]; exact h1, b h3, h4.mono hb a⟩
  | frz e l =>
    rcases h with ⟨h1, h2⟩ | ⟨g, cap, h1, h3, h4⟩
    · exact .inl ⟨by rw [hρ id (by rw [h1]; simp)]; exact h1, h2⟩
    · exact .inr ⟨g, cap, by rw [hρ id (by rw [h1]; simp)]; exact h1, (hb g h3).1, h4.mono hb (hb g h3).2⟩
  | dead => trivial

def upd (ρ : Nat → Loc) (id : Nat) (x : Loc) : Nat → Loc := fun i => if i = id then x else ρ i
@[simp] theorem upd_same (ρ id x) : upd ρ id x id = x := by simp [upd]
theorem upd_other (ρ : Nat → Loc) {id i : Nat} (x) (h : i ≠ id) : upd ρ id x i = ρ i := by simp [upd, h]

/-- A new block, and the row that lies in it. -/
theorem push (hW : WF P im w ρ rows) (cs : Array Value) (t : Nat) (cap : Nat) (r : Row) (hl : r.live = true)
    (hr : RowOK P im (w.alloc (.cells cs t)) (upd ρ rows.length (.blk w.heap.size cap)) rows.length r) :
    WF P im (w.alloc (.cells cs t)) (upd ρ rows.length (.blk w.heap.size cap)) (rows ++ [r]) ∧
    Ext w im ρ rows (w.alloc (.cells cs t)) im (upd ρ rows.length (.blk w.heap.size cap)) (rows ++ [r]) := by
  have hρ : ∀ id, ρ id ≠ .no → upd ρ rows.length (.blk w.heap.size cap) id = ρ id := fun id h => upd_other _ _ (fun e => h (hW.no id (by omega)))
  have hk : ∀ b, im b → im b ∧ (w.alloc (.cells cs t)).heap[b]? = w.heap[b]? := fun b hb => ⟨hb, heap_alloc_old w _ (hW.im b hb)⟩
  have hown : ∀ b, Own (upd ρ rows.length (.blk w.heap.size cap)) (rows ++ [r]) b → Own ρ rows b ∨ w.heap.size ≤ b := by
    rintro b ⟨id, r', c, h1, h2, h3⟩
    by_cases hid : id < rows.length
    · rw [List.getElem?_append_left hid] at h1
      rw [upd_other _ _ (by omega)] at h3
      exact .inl ⟨id, r', c, h1, h2, h3⟩
    · have : id = rows.length := by
        have := (List.getElem?_eq_some_iff.1 h1).1
        simp at this; omega
      subst this
      simp at h3
      exact .inr (by omega)
  constructor
  · refine ⟨fun id r' h => ?_, fun id id' r1 r2 b c c' h1 h2 l1 l2 e1 e2 => ?_, fun id h => ?_, fun b hb => ?_⟩
    · by_cases hid : id < rows.length
      · rw [List.getElem?_append_left hid] at h
        refine RowOK.mono hk hρ (fun g c hl' hg => ⟨heap_alloc_old w _ (hW.own_im ⟨id, r', c, h, hl', hg⟩).2, fun x => x⟩) (hW.row id r' h)
      · have : id = rows.length := by
          have := (List.getElem?_eq_some_iff.1 h).1
          simp at this; omega
        subst this
        simp at h
        subst h
        exact hr
    · by_cases hid : id < rows.length <;> by_cases hid' : id' < rows.length
      · rw [List.getElem?_append_left hid] at h1
        rw [List.getElem?_append_left hid'] at h2
        rw [upd_other _ _ (by omega)] at e1 e2
        exact hW.inj id id' r1 r2 b c c' h1 h2 l1 l2 e1 e2
      · have : id' = rows.length := by have := (List.getElem?_eq_some_iff.1 h2).1; simp at this; omega
        subst this
        rw [List.getElem?_append_left hid] at h1
        rw [upd_other _ _ (by omega)] at e1
        simp at e2
        have := (hW.own_im ⟨id, r1, c, h1, l1, e1⟩).2
        omega
      · have : id = rows.length := by have := (List.getElem?_eq_some_iff.1 h1).1; simp at this; omega
        subst this
        rw [List.getElem?_append_left hid'] at h2
        rw [upd_other _ _ (by omega)] at e2
        simp at e1
        have := (hW.own_im ⟨id', r2, c', h2, l2, e2⟩).2
        omega
      · have := (List.getElem?_eq_some_iff.1 h1).1
        have := (List.getElem?_eq_some_iff.1 h2).1
        simp at *; omega
    · simp at h
      rw [upd_other _ _ (by omega)]
      exact hW.no id (by omega)
    · have := hW.im b hb; simp; omega
  · exact ⟨rfl, rfl, rfl, by simp, fun b hb _ => heap_alloc_old w _ hb, fun _ h => h, fun _ h => .inl h, fun id h => h.elim (hρ id) (fun h => upd_other _ _ (by omega)), by simp, hown⟩

/-- A row is written no more. -/
theorem freeze (hW : WF P im w ρ rows) {id e : Nat} {l : List (List AV)} (h : rows[id]? = some (.vec e l)) :
    ∃ im', WF P im' w ρ (rows.set id (.frz e l)) ∧ Ext w im ρ rows w im' ρ (rows.set id (.frz e l)) := by
  have hlt := (List.getElem?_eq_some_iff.1 h).1
  have hrow := hW.row id _ h
  have hset : ∀ j r, (rows.set id (.frz e l))[j]? = some r → j ≠ id → rows[j]? = some r := fun j r hj hne => by rwa [List.getElem?_set_ne (fun e => hne e.symm)] at hj
  have hid : ∀ r, (rows.set id (.frz e l))[id]? = some r → r = .frz e l := fun r hr => by rw [List.getElem?_set_self hlt] at hr; exact (Option.some.inj hr).symm
  have hown : ∀ b, Own ρ (rows.set id (.frz e l)) b → Own ρ rows b := by
    rintro b ⟨j, r, c, h1, h2, h3⟩
    by_cases hj : j = id
    · subst hj; rw [hid r h1] at h2; simp [Row.live] at h2
    · exact ⟨j, r, c, hset j r h1 hj, h2, h3⟩
  rcases hrow with ⟨h1, h2⟩ | ⟨g, cap, h1, h3, h4⟩
  · refine ⟨im, ⟨fun j r hj => ?_, fun j j' r r' b c c' e1 e2 l1 l2 g1 g2 => ?_, fun j hj => hW.no j (by simpa using hj), hW.im⟩, ⟨rfl, rfl, rfl, Nat.le_refl _, fun _ _ _ => rfl, fun _ h => h, fun _ h => .inl h, fun _ _ => rfl, by simp, fun b hb => .inl (hown b hb)⟩⟩
    · by_cases hj' : j = id
      · subst hj'; rw [hid r hj]; exact .inl ⟨h1, h2⟩
      · exact hW.row j r (hset j r hj hj')
    · by_cases hj : j = id
      · subst hj; rw [hid r e1] at l1; simp [Row.live] at l1
      · by_cases hj' : j' = id
        · subst hj'; rw [hid r' e2] at l2; simp [Row.live] at l2
        · exact hW.inj j j' r r' b c c' (hset j r e1 hj) (hset j' r' e2 hj') l1 l2 g1 g2
  · have hgo : Own ρ rows g := ⟨id, _, cap, h, rfl, h1⟩
    have hk : ∀ b, im b → (im b ∨ b = g) ∧ w.heap[b]? = w.heap[b]? := fun b hb => ⟨.inl hb, rfl⟩
    refine ⟨fun b => im b ∨ b = g, ⟨fun j r hj => ?_, fun j j' r r' b c c' e1 e2 l1 l2 g1 g2 => ?_, fun j hj => hW.no j (by simpa using hj), fun b hb => ?_⟩, ⟨rfl, rfl, rfl, Nat.le_refl _, fun _ _ _ => rfl, fun _ h => .inl h, fun b hb => ?_, fun _ _ => rfl, by simp, fun b hb => .inl (hown b hb)⟩⟩
    · by_cases hj' : j = id
      · subst hj'; rw [hid r hj]
        exact .inr ⟨g, cap, h1, .inr rfl, h4.mono hk rfl⟩
      · refine RowOK.mono hk (fun _ _ => rfl) (fun g' c hl hg' => ⟨rfl, ?_⟩) (hW.row j r (hset j r hj hj'))
        rintro hn (h5 | rfl)
        · exact hn h5
        · exact hj' (hW.inj j id r _ g' c cap (hset j r hj hj') h hl rfl hg' h1)
    · by_cases hj : j = id
      · subst hj; rw [hid r e1] at l1; simp [Row.live] at l1
      · by_cases hj' : j' = id
        · subst hj'; rw [hid r' e2] at l2; simp [Row.live] at l2
        · exact hW.inj j j' r r' b c c' (hset j r e1 hj) (hset j' r' e2 hj') l1 l2 g1 g2
    · rcases hb with hb | rfl
      · exact hW.im b hb
      · exact (hW.own_im hgo).2
    · rcases hb with hb | rfl
      · exact .inl hb
      · exact .inr (.inl hgo)
end
end Go.Sk
