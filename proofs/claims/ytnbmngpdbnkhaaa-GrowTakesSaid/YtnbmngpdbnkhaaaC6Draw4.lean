/- A region whose order the machine draws does what its text's order does. Conditions: none (a library text). -/
import Derived.Test.YtnbmngpdbnkhaaaC6WpOk
import Derived.Orders
set_option linter.unusedVariables false
set_option linter.unusedSimpArgs false
namespace Go.Sk
open Go.RowKit

def optL : Option Opd → List Opd
  | none => []
  | some x => [x]

def opds : MOp → List Opd
  | .mv x => [x]
  | .pick c a b => [c, a, b]
  | .new _ _ => []
  | .box _ x => [x]
  | .build _ ps => ps.map fun p => p.2.2
  | .bslice _ _ _ ps => ps.map fun p => p.2
  | .load _ _ x => [x]
  | .store _ a x => [a, x]
  | .nilchk x => [x]
  | .bin _ x y => [x, y]
  | .eqI _ _ x y => [x, y]
  | .eqB _ x y => [x, y]
  | .not x => [x]
  | .conv _ x => [x]
  | .fld _ x => [x]
  | .idxS _ x i => [x, i]
  | .idxP _ x i => [x, i]
  | .idxV _ x i => [x, i]
  | .slcS _ x lo hi => x :: (optL lo ++ optL hi)
  | .ext x _ => [x]
  | .len x => [x]
  | .slen x => [x]
  | .app _ _ x y => [x, y]
  | .mm _ x y => [x, y]
  | .fbits x => [x]
  | .ffrom x => [x]
  | .isnil _ x => [x]
  | .call _ args => args

theorem putParts_congr {g g' : Opd → AV} : ∀ (ps : List (Nat × Nat × Opd)) (z : List AV), (∀ p ∈ ps, g p.2.2 = g' p.2.2) → putParts g z ps = putParts g' z ps
  | [], z, _ => rfl
  | (c, sz, x) :: ps, z, h => by
    have h1 : g x = g' x := h (c, sz, x) (by simp)
    simp only [putParts, h1]
    congr 1; funext l; split
    · congr 1; funext z'; exact putParts_congr ps z' (fun p hp => h p (List.mem_cons_of_mem _ hp))
    · rfl

theorem putElems_congr {g g' : Opd → AV} {sz : Nat} : ∀ (ps : List (Nat × Opd)) (rows : List Row) (l : List (List AV)), (∀ p ∈ ps, g p.2 = g' p.2) → putElems g sz rows l ps = putElems g' sz rows l ps
  | [], rows, l, _ => rfl
  | (i, x) :: ps, rows, l, h => by
    have h1 : g x = g' x := h (i, x) (by simp)
    simp only [putElems, h1]
    congr 1; funext y; congr 1; funext q; split
    · exact putElems_congr ps _ _ (fun p hp => h p (List.mem_cons_of_mem _ hp))
    · rfl

theorem bound_congr {g g' : Opd → AV} {d top : Nat} : ∀ (o : Option Opd), (∀ x ∈ optL o, g x = g' x) → bound g d top o = bound g' d top o
  | none, _ => rfl
  | some x, h => by
    have h1 : g x = g' x := h x (by simp [optL])
    simp [bound, h1]

theorem stepOp_congr {g g' : Opd → AV} {rows : List Row} {op : MOp} (h : ∀ x ∈ opds op, g x = g' x) : stepOp g rows op = stepOp g' rows op := by
  cases op with
  | build z ps => simp only [stepOp]; rw [putParts_congr ps z (fun p hp => h _ (List.mem_map.2 ⟨p, hp, rfl⟩))]
  | bslice e z n ps => simp only [stepOp]; rw [putElems_congr ps _ _ (fun p hp => h _ (List.mem_map.2 ⟨p, hp, rfl⟩))]
  | slcS e x lo hi =>
    have h1 : g x = g' x := h x (by simp [opds])
    have hl : ∀ d top, bound g d top lo = bound g' d top lo := fun d top => bound_congr lo (fun y hy => h y (by simp [opds, hy]))
    have hh : ∀ d top, bound g d top hi = bound g' d top hi := fun d top => bound_congr hi (fun y hy => h y (by simp [opds, hy]))
    simp only [stepOp, h1, hl, hh]
  | call f args => rfl
  | isnil neg x => rfl
  | _ =>
    simp only [opds, List.mem_cons, List.not_mem_nil, or_false, forall_eq_or_imp, forall_eq] at h
    simp only [stepOp, h]

/-! ### Operations that read no rows -/
theorem thawV_nil {x y : AV} {r : List Row} (h : thawV [] x = some (y, r)) (rows : List Row) : r = [] ∧ thawV rows x = some (y, rows) := by
  cases x <;> simp [thawV] at h ⊢ <;> first | exact ⟨h.2, h.1⟩ | (obtain ⟨rfl, rfl⟩ := h; simp)

theorem thawL_nil : ∀ {xs ys : List AV} {r : List Row}, thawL [] xs = some (ys, r) → ∀ rows, r = [] ∧ thawL rows xs = some (ys, rows)
  | [], ys, r, h, rows => by simp [thawL] at h; obtain ⟨rfl, rfl⟩ := h; simp [thawL]
  | x :: xs, ys, r, h, rows => by
    simp only [thawL, Option.bind_eq_some_iff, Option.map_eq_some_iff] at h
    obtain ⟨⟨y, q⟩, h1, ⟨zs, q'⟩, h2, h3⟩ := h
    obtain ⟨rfl, e1⟩ := thawV_nil h1 rows
    obtain ⟨rfl, e2⟩ := thawL_nil h2 rows
    cases h3
    exact ⟨rfl, by simp [thawL, e1, e2]⟩

theorem putElems_nil {g : Opd → AV} {sz : Nat} : ∀ (ps : List (Nat × Opd)) (l l' : List (List AV)) (r : List Row), putElems g sz [] l ps = some (l', r) → ∀ rows, r = [] ∧ putElems g sz rows l ps = some (l', rows)
  | [], l, l', r, h, rows => by simp [putElems] at h; obtain ⟨rfl, rfl⟩ := h; simp [putElems]
  | (i, x) :: ps, l, l', r, h, rows => by
    simp only [putElems, Option.bind_eq_some_iff] at h
    obtain ⟨y, h1, ⟨z, q⟩, h2, h3⟩ := h
    obtain ⟨rfl, e2⟩ := thawL_nil h2 rows
    split at h3
    · rename_i hc
      obtain ⟨e3, e4⟩ := putElems_nil ps _ _ _ h3 rows
      refine ⟨e3, ?_⟩
      simp only [putElems, h1, Option.bind_some, e2]
      rw [if_pos hc]; exact e4
    · cases h3

theorem step_v {d : DOp} {g : Opd → AV} {v : AV} {r : List Row} (hk : d.kd = .v) (h : stepOp g [] d.o.op = some (v, r)) (rows : List Row) : stepOp g rows d.o.op = some (v, rows) := by
  unfold DOp.kd at hk
  obtain ⟨⟨dst, op, gd⟩, wf, nx, av, sep⟩ := d
  simp only at hk h ⊢
  cases op with
  | slcS e x lo hi =>
    simp only [stepOp] at h ⊢
    split at h
    · split at h
      · rename_i hc
        rw [if_pos hc]
        simp only [Option.bind_eq_some_iff, Option.map_eq_some_iff] at h ⊢
        obtain ⟨a, h1, c, h2, h3⟩ := h
        cases h3
        exact ⟨_, h1, _, h2, rfl⟩
      · cases h
    · simp only [Option.bind_eq_some_iff] at h ⊢
      obtain ⟨a, h1, h2⟩ := h
      refine ⟨a, h1, ?_⟩
      cases lo with
      | none => simp at h2 ⊢; exact h2.1
      | some y =>
        simp [thawV] at h2
    · simp only [Option.bind_eq_some_iff, Option.map_eq_some_iff] at h ⊢
      obtain ⟨a, h1, c, h2, h3⟩ := h
      cases h3
      exact ⟨_, h1, _, h2, rfl⟩
    · cases h
  | pick c a b =>
    simp only [stepOp] at h ⊢
    split at h
    · cases h; rfl
    · cases h
  | nilchk x =>
    simp only [stepOp] at h ⊢
    split at h <;> first | (cases h; rfl) | cases h
  | eqI n neg x y =>
    simp only [stepOp] at h ⊢
    split at h
    · split at h
      · rename_i hc
        rw [if_pos hc]
        simp only [Option.map_eq_some_iff] at h ⊢
        obtain ⟨a, h1, h2⟩ := h; cases h2; exact ⟨_, h1, rfl⟩
      · cases h
    · cases h
  | eqB neg x y =>
    simp only [stepOp] at h ⊢
    split at h <;> first | (cases h; rfl) | cases h
  | not x =>
    simp only [stepOp] at h ⊢
    split at h <;> first | (cases h; rfl) | cases h
  | conv k x =>
    simp only [stepOp] at h ⊢
    split at h <;> first | (cases h; rfl) | cases h
  | fld k x =>
    simp only [stepOp] at h ⊢
    split at h <;> first | (cases h; rfl) | cases h
  | ext x i =>
    simp only [stepOp] at h ⊢
    split at h
    · simp only [Option.map_eq_some_iff] at h ⊢
      obtain ⟨a, h1, h2⟩ := h; cases h2; exact ⟨_, h1, rfl⟩
    · cases h
  | slen x =>
    simp only [stepOp] at h ⊢
    split at h <;> first | (cases h; rfl) | cases h
  | fbits x =>
    simp only [stepOp] at h ⊢
    split at h <;> first | (cases h; rfl) | cases h
  | ffrom x =>
    simp only [stepOp] at h ⊢
    split at h <;> first | (cases h; rfl) | cases h
  | mm mx x y =>
    simp only [stepOp] at h ⊢
    split at h
    · split at h
      · rename_i hc
        cases h; exact if_pos hc
      · cases h
    · cases h
  | mv x => simp only [stepOp] at h ⊢; cases h; rfl
  | bin op x y =>
    simp only [stepOp, Option.map_eq_some_iff] at h ⊢
    obtain ⟨a, h1, h2⟩ := h; cases h2; exact ⟨_, h1, rfl⟩
  | build z ps =>
    simp only [stepOp, Option.map_eq_some_iff] at h ⊢
    obtain ⟨a, h1, h2⟩ := h; cases h2; exact ⟨_, h1, rfl⟩
  | idxS e x y =>
    simp only [stepOp, Option.map_eq_some_iff] at h ⊢
    obtain ⟨a, h1, h2⟩ := h; cases h2; exact ⟨_, h1, rfl⟩
  | idxP e x y =>
    simp only [stepOp, Option.map_eq_some_iff] at h ⊢
    obtain ⟨a, h1, h2⟩ := h; cases h2; exact ⟨_, h1, rfl⟩
  | idxV e x y =>
    simp only [stepOp, Option.map_eq_some_iff] at h ⊢
    obtain ⟨a, h1, h2⟩ := h; cases h2; exact ⟨_, h1, rfl⟩
  | len x =>
    simp only [stepOp, Option.map_eq_some_iff] at h ⊢
    obtain ⟨a, h1, h2⟩ := h; cases h2; exact ⟨_, h1, rfl⟩
  | app e l x y => simp at hk; split at hk <;> cases hk
  | call f as => cases hk
  | isnil neg x => cases hk
  | load a n x => cases hk
  | store n a x => cases hk
  | new t z => cases hk
  | box t x => cases hk
  | bslice e z n ps => cases hk

theorem elems_nil {e : Nat} {x : AV} {l : List (List AV)} (h : elems e [] x = some l) (rows : List Row) : elems e rows x = some l := by
  cases x <;> simp [elems] at h ⊢ <;> exact h

theorem appR_nil {e lim : Nat} {x u : AV} {ys : List (List AV)} {r : List Row} (h : appR e lim [] x ys = some (u, r)) (rows : List Row) : ∃ r0 u', r = [r0] ∧ idsR r0 = [] ∧ appR e lim rows x ys = some (u', rows ++ [r0]) ∧ newAt rows.length u = some u' := by
  cases x with
  | nil e' =>
    simp only [appR] at h ⊢
    split at h
    · rename_i hc
      rw [if_pos hc]
      split at h
      · rename_i he
        cases h
        exact ⟨_, _, rfl, rfl, if_pos he, rfl⟩
      · rename_i he
        cases h
        exact ⟨_, _, rfl, rfl, if_neg he, rfl⟩
    · cases h
  | sref id n => simp [appR] at h
  | _ => simp [appR] at h

theorem step_a {d : DOp} {g : Opd → AV} {u : AV} {r : Row} (hk : d.kd = .a) (h : stepOp g [] d.o.op = some (u, [r])) (rows : List Row) : ∃ u', stepOp g rows d.o.op = some (u', rows ++ [r]) ∧ newAt rows.length u = some u' := by
  unfold DOp.kd at hk
  obtain ⟨⟨dst, op, gd⟩, wf, nx, av, sep⟩ := d
  simp only at hk h ⊢
  cases op with
  | new t z => simp only [stepOp] at h ⊢; cases h; exact ⟨_, rfl, rfl⟩
  | box t x =>
    simp only [stepOp, Option.map_eq_some_iff] at h ⊢
    obtain ⟨l, h1, h2⟩ := h; cases h2; exact ⟨_, ⟨l, h1, rfl⟩, rfl⟩
  | bslice e z n ps =>
    simp only [stepOp, Option.map_eq_some_iff] at h ⊢
    obtain ⟨⟨l, q⟩, h1, h2⟩ := h
    obtain ⟨rfl, h3⟩ := putElems_nil _ _ _ _ h1 rows
    simp at h2
    obtain ⟨rfl, rfl⟩ := h2
    exact ⟨_, ⟨(l, rows), h3, rfl⟩, rfl⟩
  | app e lim x y =>
    simp only [stepOp, Option.bind_eq_some_iff] at h ⊢
    obtain ⟨ys, h1, h2⟩ := h
    obtain ⟨r0, u', e1, e2, e3, e4⟩ := appR_nil h2 rows
    cases e1
    exact ⟨u', ⟨ys, elems_nil h1 rows, e3⟩, e4⟩
  | _ => cases hk

theorem itemsOf_ids {x : AV} {l : List AV} (h : itemsOf x = some l) : idsL l = idsV x := by
  cases x <;> simp [itemsOf] at h <;> subst h <;> simp [idsL, idsV]

theorem step_a_ids {d : DOp} {g : Opd → AV} {u : AV} {r : Row} (hk : d.kd = .a) (h : stepOp g [] d.o.op = some (u, [r])) (hz : ∀ t z, d.o.op = .new t z → idsL z = []) {j : Nat} (hj : j ∈ idsR r) : ∃ x ∈ opds d.o.op, j ∈ idsV (g x) := by
  unfold DOp.kd at hk
  obtain ⟨⟨dst, op, gd⟩, wf, nx, av, sep⟩ := d
  simp only at hk h hz ⊢
  cases op with
  | new t z => simp only [stepOp] at h; cases h; simp [idsR, hz t z rfl] at hj
  | box t x =>
    simp only [stepOp, Option.map_eq_some_iff] at h
    obtain ⟨l, h1, h2⟩ := h; cases h2
    simp only [idsR, itemsOf_ids h1] at hj
    exact ⟨x, by simp [opds], hj⟩
  | bslice e z n ps =>
    simp only [stepOp, Option.map_eq_some_iff] at h
    obtain ⟨⟨l, q⟩, h1, h2⟩ := h
    obtain ⟨rfl, h3⟩ := putElems_nil _ _ _ _ h1 []
    simp at h2
    obtain ⟨rfl, rfl⟩ := h2
    simp [idsR] at hj
  | app e lim x y =>
    simp only [stepOp, Option.bind_eq_some_iff] at h
    obtain ⟨ys, h1, h2⟩ := h
    obtain ⟨r0, u', e1, e2, e3, e4⟩ := appR_nil h2 []
    cases e1
    rw [e2] at hj; cases hj
  | _ => cases hk

/-! ### Loads and stores of different rows -/
theorem behind_set {rows : List Row} {x : AV} {id : Nat} {r : Row} (h : rowId x ≠ some id) : behind (rows.set id r) x = behind rows x := by
  cases x with
  | ptr i c =>
    have : id ≠ i := fun e => h (by simp [rowId, e])
    simp only [behind, List.getElem?_set_ne this]
  | ptrA i c j =>
    have : id ≠ i := fun e => h (by simp [rowId, e])
    simp only [behind, List.getElem?_set_ne this]
  | ptrE i e c j =>
    have : id ≠ i := fun e => h (by simp [rowId, e])
    simp only [behind, List.getElem?_set_ne this]
  | _ => rfl

theorem load_set {g : Opd → AV} {rows : List Row} {agg : Bool} {n : Nat} {x : Opd} {v : AV} {id : Nat} {r : Row} (h : rowId (g x) ≠ some id) :
    stepOp g rows (.load agg n x) = some (v, rows) ↔ stepOp g (rows.set id r) (.load agg n x) = some (v, rows.set id r) := by
  simp only [stepOp, behind_set h]
  constructor <;> intro hh <;> simp only [Option.bind_eq_some_iff, Option.map_eq_some_iff] at hh ⊢ <;> (obtain ⟨l, h1, m, h2, y, h3, h4⟩ := hh; cases h4; exact ⟨l, h1, m, h2, _, h3, rfl⟩)

/-- A store into a box: whatever else there is. -/
theorem storeAt_box {rows rows' : List Row} {st ld : AV} {l : List AV} (h : storeAt rows st l = some rows') (hs : sepB st ld = true) : ∃ id t v v', rowId ld ≠ some id ∧ rows[id]? = some (.box t v) ∧ rows' = rows.set id (.box t v') ∧ ∀ R : List Row, R[id]? = some (.box t v) → storeAt R st l = some (R.set id (.box t v')) := by
  cases st with
  | ptr id c =>
    simp only [storeAt] at h
    split at h
    · rename_i t v hr
      simp only [Option.map_eq_some_iff] at h
      obtain ⟨v', h1, rfl⟩ := h
      exact ⟨id, t, v, v', by simpa [sepB] using hs, hr, rfl, fun R hR => by simp [storeAt, hR, h1]⟩
    · cases h
  | ptrA id c j =>
    cases l with
    | nil => simp [storeAt] at h
    | cons y ys =>
      cases ys with
      | cons => simp [storeAt] at h
      | nil =>
        simp only [storeAt] at h
        split at h
        · rename_i t v hr
          split at h
          · rename_i ho
            simp only [Option.map_eq_some_iff] at h
            obtain ⟨v', h1, rfl⟩ := h
            exact ⟨id, t, v, v', by simpa [sepB] using hs, hr, rfl, fun R hR => by simp [storeAt, hR, h1, ho]⟩
          · cases h
        · cases h
  | _ => simp [sepB] at hs

/-! ### Two stores -/
theorem thawV_box {rows rows' : List Row} {x y : AV} {id t : Nat} {v v' : List AV} (hb : rows[id]? = some (.box t v)) (h : thawV rows x = some (y, rows')) : thawV (rows.set id (.box t v')) x = some (y, rows'.set id (.box t v')) ∧ rows'[id]? = some (.box t v) := by
  cases x with
  | sref i n =>
    simp only [thawV] at h ⊢
    have hne : ∀ r, rows[i]? = some r → (∀ t v, r ≠ .box t v) → id ≠ i := by
      rintro r hr hn rfl; rw [hb] at hr; cases hr; exact hn _ _ rfl
    split at h
    · rename_i e l hr
      have hi := hne _ hr (by simp)
      split at h
      · rename_i hc
        cases h
        rw [List.getElem?_set_ne hi, hr]
        simp only [hc, if_true]
        exact ⟨by rw [List.set_comm _ _ hi], by rw [List.getElem?_set_ne (Ne.symm hi)]; exact hb⟩
      · cases h
    · rename_i e l hr
      have hi := hne _ hr (by simp)
      split at h
      · rename_i hc
        cases h
        rw [List.getElem?_set_ne hi, hr]
        simp [hc, hb]
      · cases h
    · cases h
  | _ => simp only [thawV] at h ⊢ <;> first | (cases h; exact ⟨rfl, hb⟩) | cases h

theorem thawL_box {id t : Nat} {v v' : List AV} : ∀ {xs ys : List AV} {rows rows' : List Row}, rows[id]? = some (.box t v) → thawL rows xs = some (ys, rows') → thawL (rows.set id (.box t v')) xs = some (ys, rows'.set id (.box t v')) ∧ rows'[id]? = some (.box t v)
  | [], ys, rows, rows', hb, h => by simp [thawL] at h ⊢; obtain ⟨rfl, rfl⟩ := h; exact ⟨⟨rfl, rfl⟩, hb⟩
  | x :: xs, ys, rows, rows', hb, h => by
    simp only [thawL, Option.bind_eq_some_iff, Option.map_eq_some_iff] at h
    obtain ⟨⟨y, q⟩, h1, ⟨zs, q'⟩, h2, h3⟩ := h
    cases h3
    obtain ⟨a1, a2⟩ := thawV_box (v' := v') hb h1
    obtain ⟨b1, b2⟩ := thawL_box (v' := v') a2 h2
    exact ⟨by simp [thawL, a1, b1], b2⟩

theorem storeAt_off {rows rows' : List Row} {st : AV} {l : List AV} {id t : Nat} {v v' : List AV} (hb : rows[id]? = some (.box t v)) (hne : rowId st ≠ some id) (h : storeAt rows st l = some rows') :
    storeAt (rows.set id (.box t v')) st l = some (rows'.set id (.box t v')) ∧ rows'[id]? = some (.box t v) := by
  cases st with
  | ptr i c =>
    have hi : id ≠ i := fun e => hne (by simp [rowId, e])
    simp only [storeAt] at h ⊢
    rw [List.getElem?_set_ne hi]
    split at h
    · rename_i t1 v1 hr
      simp only [Option.map_eq_some_iff] at h
      obtain ⟨w, h1, rfl⟩ := h
      simp only [h1, Option.map_some]
      exact ⟨by rw [List.set_comm _ _ hi], by rw [List.getElem?_set_ne (Ne.symm hi)]; exact hb⟩
    · cases h
  | ptrA i c j =>
    have hi : id ≠ i := fun e => hne (by simp [rowId, e])
    cases l with
    | nil => simp [storeAt] at h
    | cons y ys =>
      cases ys with
      | cons => simp [storeAt] at h
      | nil =>
        simp only [storeAt] at h ⊢
        rw [List.getElem?_set_ne hi]
        split at h
        · rename_i t1 v1 hr
          split at h
          · rename_i ho
            simp only [Option.map_eq_some_iff] at h
            obtain ⟨w, h1, rfl⟩ := h
            simp only [ho, if_true, h1, Option.map_some]
            exact ⟨by rw [List.set_comm _ _ hi], by rw [List.getElem?_set_ne (Ne.symm hi)]; exact hb⟩
          · cases h
        · cases h
  | ptrE i e k c =>
    have hi : id ≠ i := fun e => hne (by simp [rowId, e])
    simp only [storeAt, Option.bind_eq_some_iff] at h ⊢
    obtain ⟨⟨ys, q⟩, h1, h2⟩ := h
    obtain ⟨a1, a2⟩ := thawL_box (v' := v') hb h1
    split at h2
    · rename_i e' l' hr
      split at h2
      · rename_i hc
        subst hc
        simp only [Option.bind_eq_some_iff, Option.map_eq_some_iff] at h2
        obtain ⟨u, h3, u', h4, rfl⟩ := h2
        refine ⟨⟨_, a1, ?_⟩, by rw [List.getElem?_set_ne (Ne.symm hi)]; exact a2⟩
        simp only at hr h4
        simp only [List.getElem?_set_ne hi, hr, if_true, h3, h4, Option.bind_some, Option.map_some]
        rw [List.set_comm _ _ hi]
      · cases h2
    · cases h2
  | _ => simp [storeAt] at h

theorem thawV_back {rows rows' : List Row} {x y : AV} {id t : Nat} {v : List AV} (h : thawV rows x = some (y, rows')) (hb : rows'[id]? = some (.box t v)) : rows[id]? = some (.box t v) := by
  cases x with
  | sref i n =>
    simp only [thawV] at h
    split at h
    · rename_i e l hr
      split at h
      · cases h
        by_cases hi : i = id
        · subst hi
          have := (List.getElem?_eq_some_iff.1 hr).1
          rw [List.getElem?_set_self this] at hb; cases hb
        · rwa [List.getElem?_set_ne hi] at hb
      · cases h
    · split at h
      · cases h; exact hb
      · cases h
    · cases h
  | _ => simp only [thawV] at h <;> first | (cases h; exact hb) | cases h

theorem thawL_back {id t : Nat} {v : List AV} : ∀ {xs ys : List AV} {rows rows' : List Row}, thawL rows xs = some (ys, rows') → rows'[id]? = some (.box t v) → rows[id]? = some (.box t v)
  | [], ys, rows, rows', h, hb => by simp [thawL] at h; obtain ⟨rfl, rfl⟩ := h; exact hb
  | x :: xs, ys, rows, rows', h, hb => by
    simp only [thawL, Option.bind_eq_some_iff, Option.map_eq_some_iff] at h
    obtain ⟨⟨y, q⟩, h1, ⟨zs, q'⟩, h2, h3⟩ := h
    cases h3
    exact thawV_back h1 (thawL_back h2 hb)

/-- Another row's box was there before. -/
theorem storeAt_back {rows rows' : List Row} {st : AV} {l : List AV} {id t : Nat} {v : List AV} (h : storeAt rows st l = some rows') (hne : rowId st ≠ some id) (hb : rows'[id]? = some (.box t v)) : rows[id]? = some (.box t v) := by
  cases st with
  | ptr i c =>
    have hi : i ≠ id := fun e => hne (by simp [rowId, e])
    simp only [storeAt] at h
    split at h
    · simp only [Option.map_eq_some_iff] at h
      obtain ⟨w, h1, rfl⟩ := h
      rwa [List.getElem?_set_ne hi] at hb
    · cases h
  | ptrA i c j =>
    have hi : i ≠ id := fun e => hne (by simp [rowId, e])
    cases l with
    | nil => simp [storeAt] at h
    | cons y ys =>
      cases ys with
      | cons => simp [storeAt] at h
      | nil =>
        simp only [storeAt] at h
        split at h
        · split at h
          · simp only [Option.map_eq_some_iff] at h
            obtain ⟨w, h1, rfl⟩ := h
            rwa [List.getElem?_set_ne hi] at hb
          · cases h
        · cases h
  | ptrE i e k c =>
    have hi : i ≠ id := fun e => hne (by simp [rowId, e])
    simp only [storeAt, Option.bind_eq_some_iff] at h
    obtain ⟨⟨ys, q⟩, h1, h2⟩ := h
    split at h2
    · split at h2
      · simp only [Option.bind_eq_some_iff, Option.map_eq_some_iff] at h2
        obtain ⟨u, h3, u', h4, rfl⟩ := h2
        rw [List.getElem?_set_ne hi] at hb
        exact thawL_back h1 hb
      · cases h2
    · cases h2
  | _ => simp [storeAt] at h
end Go.Sk
set_option linter.unusedVariables false
set_option linter.unusedSimpArgs false
namespace Go.Sk
open Go.RowKit

def getF (F : Nat → AV) : Opd → AV
  | .t n => F n
  | .k v => v

def putF (d : Option Nat) (v : AV) (F : Nat → AV) : Nat → AV := fun t => if d = some t then v else F t

theorem look_putE (d : Option Nat) (v : AV) (env : Env) : look (putE d v env) = putF d v (look env) := by
  funext t
  cases d with
  | none => simp [putE, putF]
  | some d => simp [putE, putF, look]

theorem get_look (env : Env) : Opd.get env = getF (look env) := by
  funext x; cases x <;> rfl

def GuardF (F : Nat → AV) (run : Bool) : Option (Nat × Bool) → Prop
  | none => run = true
  | some (t, c) => (∃ x, F t = .bool x ∧ run = (x == c)) ∨ (F t = .tup [] ∧ run = false)

/-- What such an operation does; 'G': what the slots hold at the region's end. -/
def outG (P : Program) (b : Nat) (G : Nat → AV) (d : DOp) (g : Opd → AV) (rows : List Row) (v : AV) (rows' : List Row) : Prop :=
  match d.kd with
  | .v => rows' = rows ∧ ∃ r, stepOp g [] d.o.op = some (v, r)
  | .c => ∃ f args new, d.o.op = .call f args ∧ rows' = rows ++ new ∧ b + d.nx ≤ rows.length ∧ FCallN P f (args.map g) rows.length v new
  | .l => rows' = rows ∧ stepOp g rows d.o.op = some (v, rows) ∧ (∀ k ∈ d.av, rowId (g (ptrOf d.o.op)) ≠ some (b + k)) ∧ (∀ p ∈ d.sep, sepB (G p) (g (ptrOf d.o.op)) = true) ∧ g (ptrOf d.o.op) = getF G (ptrOf d.o.op) ∧ Und b d.nx (g (ptrOf d.o.op))
  | .a => ∃ u r, stepOp g [] d.o.op = some (u, [r]) ∧ newAt (b + d.nx) u = some v ∧ rows[b + d.nx]? = some .dead ∧ rows' = rows.set (b + d.nx) r
  | .w => stepOp g rows d.o.op = some (v, rows') ∧ (∀ p ∈ d.sep, sepB (g (ptrOf d.o.op)) (G p) = true) ∧ g (ptrOf d.o.op) = getF G (ptrOf d.o.op) ∧ UndB b d.nx (g (ptrOf d.o.op))

def Ran (P : Program) (b : Nat) (G : Nat → AV) (d : DOp) (run : Bool) (F : Nat → AV) (R : List Row) (F' : Nat → AV) (R' : List Row) : Prop :=
  match run with
  | true => ∃ v, outG P b G d (getF F) R v R' ∧ F' = putF d.o.dst v F
  | false => R' = R ∧ F' = putF d.o.dst (.tup []) F

def StepD (P : Program) (b : Nat) (G : Nat → AV) (d : DOp) (F : Nat → AV) (R : List Row) (F' : Nat → AV) (R' : List Row) : Prop :=
  ∃ run, GuardF F run d.o.g ∧ Ran P b G d run F R F' R'

def tmpsL : List Opd → List Nat
  | [] => []
  | .t n :: xs => n :: tmpsL xs
  | .k _ :: xs => tmpsL xs

def guardT : Option (Nat × Bool) → List Nat
  | none => []
  | some (t, _) => [t]

def reads (d : DOp) : List Nat := tmpsL (opds d.o.op) ++ guardT d.o.g

theorem tmpsL_get {F G : Nat → AV} : ∀ {l : List Opd}, (∀ t ∈ tmpsL l, F t = G t) → ∀ x ∈ l, getF F x = getF G x
  | .t n :: xs, h, x, hx => by
    rcases List.mem_cons.1 hx with rfl | hx
    · exact h n (by simp [tmpsL])
    · exact tmpsL_get (fun t ht => h t (by simp [tmpsL, ht])) x hx
  | .k v :: xs, h, x, hx => by
    rcases List.mem_cons.1 hx with rfl | hx
    · rfl
    · exact tmpsL_get (fun t ht => h t (by simpa [tmpsL] using ht)) x hx

theorem ptrOf_opds (op : MOp) : ptrOf op ∈ opds op ∨ ptrOf op = .k .un := by
  cases op <;> simp [ptrOf, opds]

theorem ptrOf_get {F G : Nat → AV} {op : MOp} (h : ∀ x ∈ opds op, getF F x = getF G x) : getF F (ptrOf op) = getF G (ptrOf op) := by
  rcases ptrOf_opds op with h' | h'
  · exact h _ h'
  · rw [h']; rfl

theorem outG_congr {P : Program} {b : Nat} {E : Nat → AV} {d : DOp} {F G : Nat → AV} {R R' : List Row} {v : AV} (h : ∀ t ∈ reads d, F t = G t) (ho : outG P b E d (getF F) R v R') : outG P b E d (getF G) R v R' := by
  have h1 : ∀ x ∈ opds d.o.op, getF F x = getF G x := tmpsL_get (fun t ht => h t (by simp [reads, ht]))
  have h2 : getF F (ptrOf d.o.op) = getF G (ptrOf d.o.op) := ptrOf_get h1
  have hs : ∀ rows, stepOp (getF F) rows d.o.op = stepOp (getF G) rows d.o.op := fun rows => stepOp_congr h1
  unfold outG at ho ⊢
  split at ho
  · rw [hs] at ho; exact ho
  · obtain ⟨f, args, new, e, a, a', k⟩ := ho
    refine ⟨f, args, new, e, a, a', ?_⟩
    rw [e] at h1
    have hm : args.map (getF F) = args.map (getF G) := List.map_congr_left (fun x hx => h1 x (by simpa [opds] using hx))
    rw [hm] at k
    exact k
  · obtain ⟨a, b1, c, k, l, q⟩ := ho
    exact ⟨a, by rw [← hs]; exact b1, fun x hx => by rw [← h2]; exact c x hx, fun p hp => by rw [← h2]; exact k p hp, by rw [← h2]; exact l, by rw [← h2]; exact q⟩
  · rw [hs] at ho; exact ho
  · obtain ⟨a, k, l, q⟩ := ho
    exact ⟨by rw [← hs]; exact a, fun p hp => by rw [← h2]; exact k p hp, by rw [← h2]; exact l, by rw [← h2]; exact q⟩

def apartB (i j : DOp) : Bool :=
  (match i.o.dst with
    | none => true
    | some t => !(reads j).contains t && j.o.dst != some t && !(tmpsL (opds i.o.op)).contains t) &&
  (match j.o.dst with
    | none => true
    | some t => !(reads i).contains t)

/-- The first's pointer is one that the second keeps away from. -/
def sepT (i j : DOp) : Bool :=
  match ptrOf i.o.op with
  | .t n => j.sep.contains n
  | _ => false

def kindsB (i j : DOp) : Bool :=
  match i.kd, j.kd with
  | .v, _ | _, .v => true
  | .c, .c => false
  | .c, .a => decide (j.nx < i.nx)
  | .a, .c => true
  | .c, .l => j.nx != 0 && decide (j.nx ≤ i.nx + 1)
  | .l, .c => true
  | .c, .w => j.nx != 0 && decide (j.nx ≤ i.nx + 1)
  | .w, .c => i.nx != 0 && decide (i.nx ≤ j.nx + 1)
  | .a, .a => i.nx != j.nx
  | .a, .l => j.av.contains i.nx
  | .l, .a => i.av.contains j.nx
  | .l, .l => true
  | .w, .l => sepT i j
  | .l, .w => sepT i j
  | .w, .w => sepT i j
  | _, _ => false

theorem putF_off {d : Option Nat} {v : AV} {F : Nat → AV} {l : List Nat} (h : ∀ t, d = some t → t ∉ l) : ∀ t ∈ l, putF d v F t = F t := fun t ht => by
  simp only [putF]
  rw [if_neg]
  exact fun e => h t e ht

theorem putF_comm {d e : Option Nat} {v u : AV} {F : Nat → AV} (h : ∀ t, d = some t → e ≠ some t) : putF d v (putF e u F) = putF e u (putF d v F) := by
  funext t
  simp only [putF]
  by_cases h1 : d = some t
  · simp [h1, h t h1]
  · simp [h1]

theorem guardF_congr {F G : Nat → AV} {run : Bool} {g : Option (Nat × Bool)} (h : ∀ t ∈ guardT g, F t = G t) (hg : GuardF F run g) : GuardF G run g := by
  cases g with
  | none => exact hg
  | some tc =>
    obtain ⟨t, c⟩ := tc
    rw [GuardF, ← h t (by simp [guardT])]
    exact hg

theorem kd_load {d : DOp} (h : d.kd = .l) : ∃ a n x, d.o.op = .load a n x := by
  unfold DOp.kd at h
  split at h <;> first | cases h | skip
  · rename_i hh; exact ⟨_, _, _, hh⟩
  · split at h <;> cases h

theorem sepT_spec {i j : DOp} (h : sepT i j = true) : ∃ n, ptrOf i.o.op = .t n ∧ n ∈ j.sep := by
  unfold sepT at h
  split at h
  · rename_i n e
    exact ⟨n, e, by simpa using h⟩
  · cases h

theorem step_store {g : Opd → AV} {R R' : List Row} {m : Nat} {a y : Opd} {v : AV} (h : stepOp g R (.store m a y) = some (v, R')) : ∃ l, storeAt R (g a) l = some R' ∧ ∀ Q Q', storeAt Q (g a) l = some Q' → stepOp g Q (.store m a y) = some (v, Q') := by
  simp only [stepOp, Option.bind_eq_some_iff] at h
  obtain ⟨l, d1, d2⟩ := h
  split at d2
  · rename_i hc
    simp only [Option.map_eq_some_iff] at d2
    obtain ⟨r, d3, d4⟩ := d2
    cases d4
    exact ⟨l, d3, fun Q Q' hq => by simp [stepOp, d1, hc, hq]⟩
  · cases d2

theorem kd_w {d : DOp} {g : Opd → AV} {y : AV} (hu : g (.k .un) = .un) (h : d.kd = .w) (hs : sepB (g (ptrOf d.o.op)) y = true) : ∃ m a x, d.o.op = .store m a x := by
  cases ho : d.o.op with
  | store m st y => exact ⟨m, st, y, rfl⟩
  | load _ _ _ => unfold DOp.kd at h; rw [ho] at h; cases h
  | _ => rw [ho] at hs; simp [ptrOf, sepB, hu] at hs

theorem kd_w' {d : DOp} {n : Nat} (h : d.kd = .w) (hs : ptrOf d.o.op = .t n) : ∃ m a x, d.o.op = .store m a x := by
  cases ho : d.o.op with
  | store m st y => exact ⟨m, st, y, rfl⟩
  | load _ _ _ => unfold DOp.kd at h; rw [ho] at h; cases h
  | _ => rw [ho] at hs; simp [ptrOf] at hs

theorem behind_app {R new : List Row} {x : AV} (h : ∀ id, rowId x = some id → id < R.length) : behind (R ++ new) x = behind R x := by
  cases x with
  | ptr i c => simp only [behind, List.getElem?_append_left (h i rfl)]
  | ptrA i c j => simp only [behind, List.getElem?_append_left (h i rfl)]
  | ptrE i e c j => simp only [behind, List.getElem?_append_left (h i rfl)]
  | _ => rfl

theorem behind_lt {R : List Row} {x : AV} {l : List AV} (h : behind R x = some l) : ∀ id, rowId x = some id → id < R.length := by
  have key : ∀ i, R[i]? = none → R.length ≤ i := fun i hi => by simpa using hi
  intro id hid
  cases x with
  | ptr i c =>
    simp only [rowId, Option.some.injEq] at hid; subst hid
    rcases Nat.lt_or_ge i R.length with h' | h'
    · exact h'
    · simp [behind, List.getElem?_eq_none h'] at h
  | ptrA i c j =>
    simp only [rowId, Option.some.injEq] at hid; subst hid
    rcases Nat.lt_or_ge i R.length with h' | h'
    · exact h'
    · simp [behind, List.getElem?_eq_none h'] at h
  | ptrE i e c j =>
    simp only [rowId, Option.some.injEq] at hid; subst hid
    rcases Nat.lt_or_ge i R.length with h' | h'
    · exact h'
    · simp [behind, List.getElem?_eq_none h'] at h
  | _ => cases hid

theorem load_app {g : Opd → AV} {R new : List Row} {agg : Bool} {n : Nat} {x : Opd} {v : AV} (h : ∀ id, rowId (g x) = some id → id < R.length) :
    stepOp g R (.load agg n x) = some (v, R) ↔ stepOp g (R ++ new) (.load agg n x) = some (v, R ++ new) := by
  simp only [stepOp, behind_app h]
  constructor <;> intro hh <;> simp only [Option.bind_eq_some_iff, Option.map_eq_some_iff] at hh ⊢ <;> (obtain ⟨l, h1, m, h2, y, h3, h4⟩ := hh; cases h4; exact ⟨l, h1, m, h2, _, h3, rfl⟩)

theorem load_lt {g : Opd → AV} {R : List Row} {agg : Bool} {n : Nat} {x : Opd} {v : AV} {R' : List Row} (h : stepOp g R (.load agg n x) = some (v, R')) : ∀ id, rowId (g x) = some id → id < R.length := by
  simp only [stepOp, Option.bind_eq_some_iff] at h
  obtain ⟨l, h1, _⟩ := h
  exact behind_lt h1

theorem store_app {R new : List Row} {st : AV} {l : List AV} (hb : boxP st = true) (h : ∀ id, rowId st = some id → id < R.length) : storeAt (R ++ new) st l = (storeAt R st l).map (· ++ new) := by
  cases st with
  | ptr i c =>
    have hi := h i rfl
    simp only [storeAt, List.getElem?_append_left hi]
    split
    · simp only [Option.map_map]
      congr 1; funext v'
      simp [List.set_append_left _ _ hi]
    · rfl
  | ptrA i c j =>
    have hi := h i rfl
    cases l with
    | nil => simp [storeAt]
    | cons y ys =>
      cases ys with
      | cons => simp [storeAt]
      | nil =>
        simp only [storeAt, List.getElem?_append_left hi]
        split
        · split
          · simp only [Option.map_map]
            congr 1; funext v'
            simp [List.set_append_left _ _ hi]
          · rfl
        · rfl
  | _ => simp [boxP] at hb

theorem storeAt_lt {R R' : List Row} {st : AV} {l : List AV} (hb : boxP st = true) (h : storeAt R st l = some R') : (∀ id, rowId st = some id → id < R.length) ∧ R'.length = R.length := by
  cases st with
  | ptr i c =>
    simp only [storeAt] at h
    split at h
    · rename_i t v hr
      simp only [Option.map_eq_some_iff] at h
      obtain ⟨v', _, rfl⟩ := h
      exact ⟨fun id hid => by simp only [rowId, Option.some.injEq] at hid; subst hid; exact (List.getElem?_eq_some_iff.1 hr).1, by simp⟩
    · cases h
  | ptrA i c j =>
    cases l with
    | nil => simp [storeAt] at h
    | cons y ys =>
      cases ys with
      | cons => simp [storeAt] at h
      | nil =>
        simp only [storeAt] at h
        split at h
        · rename_i t v hr
          split at h
          · simp only [Option.map_eq_some_iff] at h
            obtain ⟨v', _, rfl⟩ := h
            exact ⟨fun id hid => by simp only [rowId, Option.some.injEq] at hid; subst hid; exact (List.getElem?_eq_some_iff.1 hr).1, by simp⟩
          · cases h
        · cases h
  | _ => simp [boxP] at hb

theorem kd_box {d : DOp} {g : Opd → AV} (hu : g (.k .un) = .un) (h : d.kd = .w) (hs : boxP (g (ptrOf d.o.op)) = true) : ∃ m a x, d.o.op = .store m a x := by
  cases ho : d.o.op with
  | store m st y => exact ⟨m, st, y, rfl⟩
  | load _ _ _ => unfold DOp.kd at h; rw [ho] at h; cases h
  | _ => rw [ho] at hs; simp [ptrOf, boxP, hu] at hs

/-- The rows, changed in the other order. -/
theorem rows_swap {P : Program} {b : Nat} {G : Nat → AV} {i j : DOp} {g g' : Opd → AV} {R R1 R2 : List Row} {v v' : AV} (hu : g (.k .un) = .un) (hu' : g' (.k .un) = .un) (hk : kindsB i j = true)
    (h1 : outG P b G i g R v R1) (h2 : outG P b G j g' R1 v' R2) :
    ∃ R1', outG P b G j g' R v' R1' ∧ outG P b G i g R1' v R2 := by
  by_cases hi : i.kd = .v
  · have a : R1 = R ∧ ∀ R', outG P b G i g R' v R' := by
      unfold outG at h1 ⊢
      rw [hi] at h1 ⊢
      exact ⟨h1.1, fun R' => ⟨rfl, h1.2⟩⟩
    obtain ⟨rfl, a⟩ := a
    exact ⟨R2, h2, a R2⟩
  by_cases hj : j.kd = .v
  · have a : R2 = R1 ∧ ∀ R', outG P b G j g' R' v' R' := by
      unfold outG at h2 ⊢
      rw [hj] at h2 ⊢
      exact ⟨h2.1, fun R' => ⟨rfl, h2.2⟩⟩
    obtain ⟨rfl, a⟩ := a
    exact ⟨R, a R, h1⟩
  cases ei : i.kd with
  | v => exact absurd ei hi
  | c =>
    cases ej : j.kd with
    | v => exact absurd ej hj
    | c => simp [kindsB, ei, ej] at hk
    | a =>
      have hlt : j.nx < i.nx := by simpa [kindsB, ei, ej] using hk
      unfold outG at h1 h2 ⊢
      rw [ei] at h1 ⊢; rw [ej] at h2 ⊢
      obtain ⟨f, args, new, c1, rfl, c2, c3⟩ := h1
      obtain ⟨u, r, b1, b2, b3, rfl⟩ := h2
      have hk2 : b + j.nx < R.length := by omega
      rw [List.getElem?_append_left hk2] at b3
      exact ⟨_, ⟨u, r, b1, b2, b3, rfl⟩, f, args, new, c1, by rw [List.set_append_left _ _ hk2], by simpa using c2, by simpa using c3⟩
    | l =>
      have hcond : j.nx ≠ 0 ∧ j.nx ≤ i.nx + 1 := by simpa [kindsB, ei, ej] using hk
      obtain ⟨ag, n, x, ex⟩ := kd_load ej
      unfold outG at h1 h2 ⊢
      rw [ei] at h1 ⊢; rw [ej] at h2 ⊢
      obtain ⟨f, args, new, c1, rfl, c2, c3⟩ := h1
      obtain ⟨rfl, b1, b2, b3, b4, b5⟩ := h2
      have hlt : ∀ id, rowId (g' (ptrOf j.o.op)) = some id → id < R.length := fun id hid => by
        rcases b5 with h | h
        · exact absurd h hcond.1
        · have := h id hid; omega
      refine ⟨R, ⟨rfl, ?_, b2, b3, b4, b5⟩, f, args, new, c1, rfl, c2, c3⟩
      rw [ex] at b1 hlt ⊢
      exact (load_app hlt).2 b1
    | w =>
      have hcond : j.nx ≠ 0 ∧ j.nx ≤ i.nx + 1 := by simpa [kindsB, ei, ej] using hk
      unfold outG at h1 h2 ⊢
      rw [ei] at h1 ⊢; rw [ej] at h2 ⊢
      obtain ⟨f, args, new, c1, rfl, c2, c3⟩ := h1
      obtain ⟨b1, b2, b3, b4⟩ := h2
      obtain ⟨hbx, hlt0⟩ : boxP (g' (ptrOf j.o.op)) = true ∧ ∀ id, rowId (g' (ptrOf j.o.op)) = some id → id + 1 < b + j.nx := by
        rcases b4 with h | h
        · exact absurd h hcond.1
        · exact h
      have hlt : ∀ id, rowId (g' (ptrOf j.o.op)) = some id → id < R.length := fun id hid => by have := hlt0 id hid; omega
      obtain ⟨m, st, y, ho⟩ := kd_box hu' ej hbx
      rw [ho] at b1 hbx hlt
      obtain ⟨l, d3, d4⟩ := step_store b1
      simp only [ptrOf] at hbx hlt
      rw [store_app hbx hlt, Option.map_eq_some_iff] at d3
      obtain ⟨R3, d5, rfl⟩ := d3
      have hlen := (storeAt_lt hbx d5).2
      exact ⟨R3, ⟨by rw [ho]; exact d4 _ _ d5, b2, b3, b4⟩, f, args, new, c1, rfl, by omega, by rw [hlen]; exact c3⟩
  | a =>
    cases ej : j.kd with
    | v => exact absurd ej hj
    | c =>
      unfold outG at h1 h2 ⊢
      rw [ei] at h1 ⊢; rw [ej] at h2 ⊢
      obtain ⟨u, r, a1, a2, a3, rfl⟩ := h1
      obtain ⟨f, args, new, c1, rfl, c2, c3⟩ := h2
      have hk2 := (List.getElem?_eq_some_iff.1 a3).1
      simp only [List.length_set] at c2 c3
      exact ⟨R ++ new, ⟨f, args, new, c1, rfl, c2, c3⟩, u, r, a1, a2, by rw [List.getElem?_append_left hk2]; exact a3, by rw [List.set_append_left _ _ hk2]⟩
    | a =>
      have hne : i.nx ≠ j.nx := by simpa [kindsB, ei, ej] using hk
      unfold outG at h1 h2 ⊢
      rw [ei] at h1 ⊢; rw [ej] at h2 ⊢
      obtain ⟨u, r, a1, a2, a3, rfl⟩ := h1
      obtain ⟨u', r', b1, b2, b3, rfl⟩ := h2
      rw [List.getElem?_set_ne (by omega)] at b3
      exact ⟨_, ⟨u', r', b1, b2, b3, rfl⟩, u, r, a1, a2, by rw [List.getElem?_set_ne (by omega)]; exact a3, List.set_comm _ _ (by omega)⟩
    | l =>
      have hav : i.nx ∈ j.av := by simpa [kindsB, ei, ej] using hk
      obtain ⟨ag, n, x, ex⟩ := kd_load ej
      unfold outG at h1 h2 ⊢
      rw [ei] at h1 ⊢; rw [ej] at h2 ⊢
      obtain ⟨u, r, a1, a2, a3, rfl⟩ := h1
      obtain ⟨rfl, b1, b2, b3⟩ := h2
      have hn := b2 _ hav
      rw [ex] at b1 hn
      refine ⟨R, ⟨rfl, by rw [ex]; exact (load_set hn).2 b1, b2, b3⟩, u, r, a1, a2, a3, rfl⟩
    | w => simp [kindsB, ei, ej] at hk
  | l =>
    obtain ⟨ag, n, x, ex⟩ := kd_load ei
    cases ej : j.kd with
    | v => exact absurd ej hj
    | c =>
      unfold outG at h1 h2 ⊢
      rw [ei] at h1 ⊢; rw [ej] at h2 ⊢
      obtain ⟨rfl, b1, b2⟩ := h1
      obtain ⟨f, args, new, c1, rfl, c2, c3⟩ := h2
      refine ⟨_, ⟨f, args, new, c1, rfl, c2, c3⟩, rfl, ?_, b2⟩
      rw [ex] at b1 ⊢
      exact (load_app (load_lt b1)).1 b1
    | a =>
      have hav : j.nx ∈ i.av := by simpa [kindsB, ei, ej] using hk
      unfold outG at h1 h2 ⊢
      rw [ei] at h1 ⊢; rw [ej] at h2 ⊢
      obtain ⟨rfl, b1, b2, b3⟩ := h1
      obtain ⟨u, r, a1, a2, a3, rfl⟩ := h2
      have hn := b2 _ hav
      rw [ex] at b1 hn
      exact ⟨_, ⟨u, r, a1, a2, a3, rfl⟩, rfl, by rw [ex]; exact (load_set hn).1 b1, b2, b3⟩
    | l =>
      unfold outG at h1 h2 ⊢
      rw [ei] at h1 ⊢; rw [ej] at h2 ⊢
      obtain ⟨rfl, b1, b2⟩ := h1
      obtain ⟨rfl, c1, c2⟩ := h2
      exact ⟨_, ⟨rfl, c1, c2⟩, rfl, b1, b2⟩
    | w =>
      obtain ⟨q, q1, q3⟩ := sepT_spec (by simpa [kindsB, ei, ej] using hk)
      unfold outG at h1 h2 ⊢
      rw [ei] at h1 ⊢; rw [ej] at h2 ⊢
      obtain ⟨rfl, b1, b2, b3, b4, b5⟩ := h1
      obtain ⟨c1, c2, c3⟩ := h2
      have hsep := c2 q q3
      have hq : G q = g (ptrOf i.o.op) := by rw [b4, q1]; rfl
      rw [hq] at hsep
      refine ⟨_, ⟨c1, c2, c3⟩, rfl, ?_, b2, b3, b4, b5⟩
      obtain ⟨m, st, y, ho⟩ := kd_w hu' ej hsep
      rw [ho] at c1 hsep
      rw [ex] at hsep b1 ⊢
      obtain ⟨l, d3, _⟩ := step_store c1
      obtain ⟨id, t, u, u', e2, _, rfl, _⟩ := storeAt_box d3 hsep
      exact (load_set e2).1 b1
  | w =>
    cases ej : j.kd with
    | v => exact absurd ej hj
    | c =>
      have hcond : i.nx ≠ 0 ∧ i.nx ≤ j.nx + 1 := by simpa [kindsB, ei, ej] using hk
      unfold outG at h1 h2 ⊢
      rw [ei] at h1 ⊢; rw [ej] at h2 ⊢
      obtain ⟨b1, b2, b3, b4⟩ := h1
      obtain ⟨f, args, new, c1, rfl, c2, c3⟩ := h2
      obtain ⟨hbx, _⟩ : boxP (g (ptrOf i.o.op)) = true ∧ ∀ id, rowId (g (ptrOf i.o.op)) = some id → id + 1 < b + i.nx := by
        rcases b4 with h | h
        · exact absurd h hcond.1
        · exact h
      obtain ⟨m, st, y, ho⟩ := kd_box hu ei hbx
      rw [ho] at b1 hbx
      obtain ⟨l, d3, d4⟩ := step_store b1
      simp only [ptrOf] at hbx
      obtain ⟨hlt, hlen⟩ := storeAt_lt hbx d3
      refine ⟨R ++ new, ⟨f, args, new, c1, rfl, by omega, by rw [← hlen]; exact c3⟩, ?_, b2, b3, b4⟩
      rw [ho]
      exact d4 _ _ (by rw [store_app hbx hlt, d3]; rfl)
    | a => simp [kindsB, ei, ej] at hk
    | w =>
      obtain ⟨q, q1, q3⟩ := sepT_spec (by simpa [kindsB, ei, ej] using hk)
      unfold outG at h1 h2 ⊢
      rw [ei] at h1 ⊢; rw [ej] at h2 ⊢
      obtain ⟨b1, b2, b3⟩ := h1
      obtain ⟨c1, c2, c3⟩ := h2
      have hsep := c2 q q3
      have hq : G q = g (ptrOf i.o.op) := by rw [b3.1, q1]; rfl
      rw [hq] at hsep
      obtain ⟨m, st, y, ho⟩ := kd_w hu' ej hsep
      obtain ⟨m', st', y', ho'⟩ := kd_w' ei q1
      rw [ho] at c1 hsep
      rw [ho'] at b1 hsep
      obtain ⟨l, d3, d4⟩ := step_store c1
      obtain ⟨l', f3, f4⟩ := step_store b1
      obtain ⟨id, t, u, u', e2, e3, rfl, e5⟩ := storeAt_box d3 hsep
      have hR : R[id]? = some (.box t u) := storeAt_back f3 e2 e3
      obtain ⟨k1, k2⟩ := storeAt_off (v' := u') hR e2 f3
      refine ⟨_, ⟨by rw [ho]; exact d4 _ _ (e5 _ hR), c2, c3⟩, by rw [ho']; exact f4 _ _ k1, b2, b3⟩
    | l =>
      obtain ⟨q, q1, q3⟩ := sepT_spec (by simpa [kindsB, ei, ej] using hk)
      obtain ⟨ag, n, x, ex⟩ := kd_load ej
      unfold outG at h1 h2 ⊢
      rw [ei] at h1 ⊢; rw [ej] at h2 ⊢
      obtain ⟨c1, c2, c3⟩ := h1
      obtain ⟨rfl, b1, b2, b3, b4⟩ := h2
      have hsep := b3 q q3
      have hq : G q = g (ptrOf i.o.op) := by rw [c3.1, q1]; rfl
      rw [hq] at hsep
      rw [ex] at b1 hsep
      simp only [ptrOf] at hsep
      refine ⟨R, ⟨rfl, ?_, b2, b3, b4⟩, c1, c2, c3⟩
      rw [ex]
      obtain ⟨m, st, y, ho⟩ := kd_w hu ei hsep
      rw [ho] at c1 hsep
      obtain ⟨l, d3, _⟩ := step_store c1
      obtain ⟨id, t, u, u', e2, _, rfl, _⟩ := storeAt_box d3 hsep
      exact (load_set e2).2 b1

theorem apart_spec {i j : DOp} (h : apartB i j = true) : (∀ t, i.o.dst = some t → t ∉ reads j) ∧ (∀ t, i.o.dst = some t → j.o.dst ≠ some t) ∧ (∀ t, i.o.dst = some t → t ∉ tmpsL (opds i.o.op)) ∧ (∀ t, j.o.dst = some t → t ∉ reads i) := by
  unfold apartB at h
  simp only [Bool.and_eq_true] at h
  obtain ⟨h1, h2⟩ := h
  refine ⟨fun t e => ?_, fun t e => ?_, fun t e => ?_, fun t e => ?_⟩
  · rw [e] at h1; simp at h1; exact h1.1.1
  · rw [e] at h1; simp at h1; exact h1.1.2
  · rw [e] at h1; simp at h1; exact h1.2
  · rw [e] at h2; simp at h2; exact h2

/-- Two steps, in the other order. -/
theorem step_swap {P : Program} {b : Nat} {G : Nat → AV} {i j : DOp} {F F1 F2 : Nat → AV} {R R1 R2 : List Row} (ha : apartB i j = true) (hk : kindsB i j = true)
    (h1 : StepD P b G i F R F1 R1) (h2 : StepD P b G j F1 R1 F2 R2) : ∃ F1' R1', StepD P b G j F R F1' R1' ∧ StepD P b G i F1' R1' F2 R2 := by
  obtain ⟨a1, a2, a3, a4⟩ := apart_spec ha
  obtain ⟨ri, g1, q1⟩ := h1
  obtain ⟨rj, g2, q2⟩ := h2
  have eF : ∃ vi, F1 = putF i.o.dst vi F := by
    cases ri with
    | true => obtain ⟨v, _, e⟩ := q1; exact ⟨v, e⟩
    | false => exact ⟨_, q1.2⟩
  have eF2 : ∃ vj, F2 = putF j.o.dst vj F1 := by
    cases rj with
    | true => obtain ⟨v, _, e⟩ := q2; exact ⟨v, e⟩
    | false => exact ⟨_, q2.2⟩
  have onj : ∀ t ∈ reads j, F1 t = F t := by obtain ⟨vi, rfl⟩ := eF; exact putF_off a1
  have oni : ∀ vj, ∀ t ∈ reads i, F t = putF j.o.dst vj F t := fun vj t ht => (putF_off a4 t ht).symm
  have gj : GuardF F rj j.o.g := guardF_congr (fun t ht => onj t (by simp [reads, ht])) g2
  have gi : ∀ vj, GuardF (putF j.o.dst vj F) ri i.o.g := fun vj => guardF_congr (fun t ht => oni vj t (by simp [reads, ht])) g1
  cases ri with
  | false =>
    obtain ⟨rfl, rfl⟩ := q1
    cases rj with
    | false =>
      obtain ⟨rfl, rfl⟩ := q2
      exact ⟨_, _, ⟨false, gj, rfl, rfl⟩, false, gi _, rfl, putF_comm (fun t e e' => a2 t e' e)⟩
    | true =>
      obtain ⟨v, o, rfl⟩ := q2
      exact ⟨_, _, ⟨true, gj, v, outG_congr onj o, rfl⟩, false, gi _, rfl, putF_comm (fun t e e' => a2 t e' e)⟩
  | true =>
    obtain ⟨vi, oi, rfl⟩ := q1
    cases rj with
    | false =>
      obtain ⟨rfl, rfl⟩ := q2
      exact ⟨_, _, ⟨false, gj, rfl, rfl⟩, true, gi _, vi, outG_congr (oni _) oi, putF_comm (fun t e e' => a2 t e' e)⟩
    | true =>
      obtain ⟨v, o, rfl⟩ := q2
      obtain ⟨R1', k1, k2⟩ := rows_swap rfl rfl hk oi o
      exact ⟨_, _, ⟨true, gj, v, outG_congr onj k1, rfl⟩, true, gi _, vi, outG_congr (oni _) k2, putF_comm (fun t e e' => a2 t e' e)⟩

/-! ### Chains -/
def Chain (P : Program) (b : Nat) (G : Nat → AV) (ds : List DOp) : List Nat → (Nat → AV) → List Row → (Nat → AV) → List Row → Prop
  | [], F, R, F', R' => F = F' ∧ R = R'
  | i :: is, F, R, F', R' => ∃ d F1 R1, ds[i]? = some d ∧ StepD P b G d F R F1 R1 ∧ Chain P b G ds is F1 R1 F' R'

theorem chain_swap {P : Program} {b : Nat} {G : Nat → AV} {ds : List DOp} {j : Nat} {dj : DOp} (hj : ds[j]? = some dj) : ∀ (pre post : List Nat) {F R F' R'}, (∀ i ∈ pre, ∀ di, ds[i]? = some di → apartB di dj = true ∧ kindsB di dj = true) →
    Chain P b G ds (pre ++ j :: post) F R F' R' → ∃ F1 R1, StepD P b G dj F R F1 R1 ∧ Chain P b G ds (pre ++ post) F1 R1 F' R'
  | [], post, F, R, F', R', _, h => by
    obtain ⟨d, F1, R1, h1, h2, h3⟩ := h
    rw [hj] at h1; cases h1
    exact ⟨F1, R1, h2, h3⟩
  | i :: pre, post, F, R, F', R', hc, h => by
    obtain ⟨d, F1, R1, h1, h2, h3⟩ := h
    obtain ⟨F2, R2, k1, k2⟩ := chain_swap hj pre post (fun i hi => hc i (List.mem_cons_of_mem _ hi)) h3
    obtain ⟨c1, c2⟩ := hc i (by simp) d h1
    obtain ⟨F1', R1', m1, m2⟩ := step_swap c1 c2 h2 k1
    exact ⟨F1', R1', m1, d, F2, R2, h1, m2, k2⟩

/-- What an operation says of pointers stays so till the region's end. -/
def finB : List DOp → Bool
  | [] => true
  | d :: ds => (d.sep ++ tmpsL [ptrOf d.o.op]).all (fun p => (d :: ds).all fun e => e.o.dst != some p) && finB ds

theorem outc_outG {P : Program} {b : Nat} {d : DOp} {g : Opd → AV} {G : Nat → AV} {R R' : List Row} {v : AV} (h1 : ∀ p ∈ d.sep, g (.t p) = G p) (h2 : g (ptrOf d.o.op) = getF G (ptrOf d.o.op)) (h : outc P b d g R v R') : outG P b G d g R v R' := by
  unfold outc at h
  unfold outG
  cases hk : d.kd with
  | v => rw [hk] at h; exact h
  | c => rw [hk] at h; exact h
  | a => rw [hk] at h; exact h
  | l =>
    rw [hk] at h
    obtain ⟨a, b1, c, k, l⟩ := h
    exact ⟨a, b1, c, fun p hp => by rw [← h1 p hp]; exact k p hp, h2, l⟩
  | w =>
    rw [hk] at h
    obtain ⟨a, k, l⟩ := h
    exact ⟨a, fun p hp => by rw [← h1 p hp]; exact k p hp, h2, l⟩

/-- What the statement says of the text's order. -/
theorem chain_of_wpD {P : Program} {b : Nat} {ds : List DOp} : ∀ (k : Nat) (os : List DOp), ds.drop k = os → finB os = true → ∀ {env : Env} {R : List Row} {K : Env → List Row → Prop}, wpD P b os env R K →
    ∃ env' R', Chain P b (look env') ds (List.range' k os.length) (look env) R (look env') R' ∧ K env' R' ∧ ∀ t, (∀ d ∈ os, d.o.dst ≠ some t) → look env' t = look env t
  | k, [], h, hf, env, R, K, hK => ⟨env, R, ⟨rfl, rfl⟩, hK, fun _ _ => rfl⟩
  | k, d :: os, h, hf, env, R, K, hK => by
    have hd : ds[k]? = some d := by
      have : (ds.drop k)[0]? = some d := by rw [h]; rfl
      rwa [List.getElem?_drop, Nat.add_zero] at this
    have hdk : ds.drop (k + 1) = os := by
      have := congrArg (List.drop 1) h
      rw [List.drop_drop] at this
      simpa using this
    simp only [finB, Bool.and_eq_true, List.all_eq_true, bne_iff_ne] at hf
    obtain ⟨hf1, hf2⟩ := hf
    have keep : ∀ (v : AV) (env' : Env), (∀ t, (∀ d ∈ os, d.o.dst ≠ some t) → look env' t = look (putE d.o.dst v env) t) → ∀ t, (∀ e ∈ d :: os, e.o.dst ≠ some t) → look env' t = look env t := fun v env' hk t ht => by
      rw [hk t (fun e he => ht e (by simp [he])), look_putE]
      simp only [putF]
      rw [if_neg (ht d (by simp))]
    have run : (GuardF (look env) true d.o.g) → (∃ v rows', outc P b d (Opd.get env) R v rows' ∧ wpD P b os (putE d.o.dst v env) rows' K) → ∃ env' R', Chain P b (look env') ds (List.range' k (os.length + 1)) (look env) R (look env') R' ∧ K env' R' ∧ ∀ t, (∀ e ∈ d :: os, e.o.dst ≠ some t) → look env' t = look env t := by
      rintro hg ⟨v, R1, o, hw⟩
      obtain ⟨env', R', c, kk, hl⟩ := chain_of_wpD (k + 1) os hdk hf2 hw
      rw [look_putE] at c
      have hk := keep v env' hl
      refine ⟨env', R', ⟨d, _, R1, hd, ⟨true, hg, v, ?_, rfl⟩, c⟩, kk, hk⟩
      rw [get_look] at o
      refine outc_outG (fun p hp => ?_) ?_ o
      · exact (hk p (fun e he => hf1 p (by simp [hp]) e he)).symm
      · cases hp : ptrOf d.o.op with
        | k c => rfl
        | t n => exact (hk n (fun e he => hf1 n (by simp [hp, tmpsL]) e he)).symm
    have skip : (GuardF (look env) false d.o.g) → wpD P b os (putE d.o.dst (.tup []) env) R K → ∃ env' R', Chain P b (look env') ds (List.range' k (os.length + 1)) (look env) R (look env') R' ∧ K env' R' ∧ ∀ t, (∀ e ∈ d :: os, e.o.dst ≠ some t) → look env' t = look env t := by
      rintro hg hw
      obtain ⟨env', R', c, kk, hl⟩ := chain_of_wpD (k + 1) os hdk hf2 hw
      rw [look_putE] at c
      exact ⟨env', R', ⟨d, _, R, hd, ⟨false, hg, rfl, rfl⟩, c⟩, kk, keep _ env' hl⟩
    simp only [List.length_cons]
    unfold wpD at hK
    split at hK
    · rename_i e
      exact run (by rw [e]; rfl) hK
    · rename_i t c e
      split at hK
      · rename_i x hx
        by_cases hxc : x = c
        · exact run (by rw [e]; exact .inl ⟨x, gdV_yes hx, by simp [hxc]⟩) (hK.1 hxc)
        · exact skip (by rw [e]; exact .inl ⟨x, gdV_yes hx, by simp [hxc]⟩) (hK.2 hxc)
      · rename_i hx
        exact skip (by rw [e]; exact .inr ⟨gdV_no hx, rfl⟩) hK
      · exact hK.elim
end Go.Sk
set_option linter.unusedVariables false
set_option linter.unusedSimpArgs false
namespace Go.Sk
open Go.RowKit

section ids
variable {P : Program} {im : Nat → Prop} {w : World} {ρ : Nat → Loc}
mutual
theorem RepV.ids : ∀ {v : Value} {x : AV}, RepV P im w ρ v x → ∀ id ∈ idsV x, ρ id ≠ .no
  | _, _, .int _ _, id, h => by simp [idsV] at h
  | _, _, .bool _, id, h => by simp [idsV] at h
  | _, _, .str _, id, h => by simp [idsV] at h
  | _, _, .flt _, id, h => by simp [idsV] at h
  | _, _, .nil _, id, h => by simp [idsV] at h
  | _, _, .fz .., id, h => by simp [idsV] at h
  | _, _, .sref i g cap n hh hn, id, h => by simp [idsV] at h; subst h; rw [hh]; simp
  | _, _, .ptr i g cap c hh, id, h => by simp [idsV] at h; subst h; rw [hh]; simp
  | _, _, .ptrA i g cap c j hh, id, h => by simp [idsV] at h; subst h; rw [hh]; simp
  | _, _, .ptrE i g cap e j c hh, id, h => by simp [idsV] at h; subst h; rw [hh]; simp
  | _, _, .pz .., id, h => by simp [idsV] at h
  | _, _, .nilp, id, h => by simp [idsV] at h
  | _, _, .agg vs l hh, id, h => by simp only [idsV] at h; exact RepL.ids hh id h
  | _, _, .tup vs l hh, id, h => by simp only [idsV] at h; exact RepT.ids hh id h
  | _, _, .un v, id, h => by simp [idsV] at h
theorem RepL.ids : ∀ {vs : List Value} {xs : List AV}, RepL P im w ρ vs xs → ∀ id ∈ idsL xs, ρ id ≠ .no
  | _, _, .nil, id, h => by simp [idsL] at h
  | _, _, .cons v x vs xs h1 h2 hs, id, h => by
    simp only [idsL, List.mem_append] at h
    exact h.elim (RepV.ids h2 id) (RepL.ids hs id)
  | _, _, .arr us l vs xs h1 h2 hs, id, h => by
    simp only [idsL, idsV, List.mem_append] at h
    exact h.elim (RepL.ids h2 id) (RepL.ids hs id)
theorem RepT.ids : ∀ {vs : List Value} {xs : List AV}, RepT P im w ρ vs xs → ∀ id ∈ idsL xs, ρ id ≠ .no
  | _, _, .nil, id, h => by simp [idsL] at h
  | _, _, .cons v x vs xs h2 hs, id, h => by
    simp only [idsL, List.mem_append] at h
    exact h.elim (RepV.ids h2 id) (RepT.ids hs id)
end

theorem RowOK.ids {id : Nat} {r : Row} (h : RowOK P im w ρ id r) : ∀ j ∈ idsR r, ρ j ≠ .no := by
  cases r with
  | box t v => obtain ⟨g, cap, cur, h1, h2, h3, h4⟩ := h; exact h4.ids
  | _ => intro j hj; simp [idsR] at hj
end ids

mutual
theorem renV_id : ∀ x : AV, renV (fun i => i) x = x
  | .int .. | .bool _ | .str _ | .flt _ | .nil _ | .fz .. | .sref .. | .ptr .. | .ptrA .. | .ptrE .. | .pz .. | .nilp | .un => rfl
  | .arr l => by simp [renV, renL_id l]
  | .agg l => by simp [renV, renL_id l]
  | .tup l => by simp [renV, renL_id l]
theorem renL_id : ∀ l : List AV, renL (fun i => i) l = l
  | [] => rfl
  | x :: xs => by simp [renL, renV_id x, renL_id xs]
end

theorem renR_id (r : Row) : renR (fun i => i) r = r := by cases r <;> simp [renR, renL_id]

def placed (ρ : Nat → Loc) (p n : Nat) : Nat → Loc := fun id => if id = p then ρ n else if id = n then .no else ρ id

/-- A row that was made at the end, in its own place. -/
theorem place {P : Program} {im im' : Nat → Prop} {w w' : World} {ρ ρ' : Nat → Loc} {R : List Row} {r : Row} {p : Nat} (hW0 : WF P im w ρ R) (hW : WF P im' w' ρ' (R ++ [r])) (hE : Ext w im ρ R w' im' ρ' (R ++ [r]))
    (hp : R[p]? = some .dead) (hpn : ρ p = .no) (hids : ∀ j ∈ idsR r, ρ j ≠ .no) :
    WF P im' w' (placed ρ' p R.length) (R.set p r) ∧ (∀ id, ρ id ≠ .no → placed ρ' p R.length id = ρ id) ∧ (∀ b, Own (placed ρ' p R.length) (R.set p r) b → Own ρ' (R ++ [r]) b) := by
  have hlt := (List.getElem?_eq_some_iff.1 hp).1
  have hn : ρ R.length = .no := hW0.no _ (Nat.le_refl _)
  have hkeep : ∀ id, ρ id ≠ .no → placed ρ' p R.length id = ρ' id := fun id hid => by
    simp only [placed]
    have h1 : id ≠ p := by rintro rfl; exact hid hpn
    have h2 : id ≠ R.length := by rintro rfl; exact hid hn
    rw [if_neg h1, if_neg h2]
  have hr : (R ++ [r])[R.length]? = some r := by simp
  have old : ∀ (id : Nat) (q : Row), R[id]? = some q → (R ++ [r])[id]? = some q := fun id q h => by rw [List.getElem?_append_left (List.getElem?_eq_some_iff.1 h).1]; exact h
  have hcase : ∀ (id : Nat) (q : Row), (R.set p r)[id]? = some q → (id = p ∧ q = r) ∨ (id ≠ p ∧ id < R.length ∧ R[id]? = some q) := fun id q h => by
    by_cases e : id = p
    · subst e; rw [List.getElem?_set_self hlt] at h; exact .inl ⟨rfl, (Option.some.inj h).symm⟩
    · rw [List.getElem?_set_ne (fun h => e h.symm)] at h; exact .inr ⟨e, (List.getElem?_eq_some_iff.1 h).1, h⟩
  have at_p : placed ρ' p R.length p = ρ' R.length := by simp [placed]
  have at_o : ∀ id, id ≠ p → id < R.length → placed ρ' p R.length id = ρ' id := fun id h1 h2 => by
    simp only [placed]
    rw [if_neg h1, if_neg (by omega)]
  refine ⟨⟨fun id q h => ?_, fun id id' q q' b c c' h1 h2 l1 l2 e1 e2 => ?_, fun id h => ?_, hW.im⟩, fun id hid => (hkeep id hid).trans (hE.rho id (.inl hid)), ?_⟩
  · rcases hcase id q h with ⟨rfl, rfl⟩ | ⟨h1, h2, h3⟩
    · have := (hW.row _ _ hr).ren (ρ' := placed ρ' id R.length) (f := fun i => i) at_p (fun j hj => hkeep j (hids j hj))
      rwa [renR_id] at this
    · have := (hW.row _ _ (old id q h3)).ren (ρ' := placed ρ' p R.length) (f := fun i => i) (at_o id h1 h2) (fun j hj => hkeep j ((hW0.row id q h3).ids j hj))
      rwa [renR_id] at this
  · rcases hcase id q h1 with ⟨rfl, rfl⟩ | ⟨a1, a2, a3⟩ <;> rcases hcase id' q' h2 with ⟨rfl, rfl⟩ | ⟨b1, b2, b3⟩
    · rfl
    · rw [at_p] at e1; rw [at_o _ b1 b2] at e2
      have := hW.inj _ _ _ _ b c c' hr (old id' q' b3) l1 l2 e1 e2
      omega
    · rw [at_p] at e2; rw [at_o _ a1 a2] at e1
      have := hW.inj _ _ _ _ b c c' (old id q a3) hr l1 l2 e1 e2
      omega
    · rw [at_o _ a1 a2] at e1; rw [at_o _ b1 b2] at e2
      exact hW.inj _ _ _ _ b c c' (old id q a3) (old id' q' b3) l1 l2 e1 e2
  · simp at h
    simp only [placed]
    rw [if_neg (by omega)]
    split
    · rfl
    · exact hW.no id (by simp; omega)
  · rintro b ⟨id, q, c, h1, h2, h3⟩
    rcases hcase id q h1 with ⟨rfl, rfl⟩ | ⟨a1, a2, a3⟩
    · rw [at_p] at h3; exact ⟨_, _, c, hr, h2, h3⟩
    · rw [at_o _ a1 a2] at h3; exact ⟨_, _, c, old id q a3, h2, h3⟩

/-! ### What orders the machine may draw -/
def binding (o : Oper) : List Nat := (o.after.toList.filter (Region.binds .any)).map (·.on)

def maskOf (tab : List Nat) : List Nat → Nat
  | [] => 0
  | e :: es => (1 <<< e) ||| tab.getD e 0 ||| maskOf tab es

def tabOf : List Oper → List Nat → List Nat
  | [], acc => acc
  | o :: os, acc => tabOf os (acc ++ [maskOf acc (binding o)])

def kOK : Opd → Bool
  | .k v => (idsV v).isEmpty
  | .t _ => true

def newOK : MOp → Bool
  | .new _ z => (idsL z).isEmpty
  | _ => true

def okEdges (tab : List Nat) : Nat → List Oper → Bool
  | _, [] => true
  | j, o :: os => (binding o).all (fun e => decide (e < j)) && tab.getD j 0 == maskOf tab (binding o) && okEdges tab (j + 1) os

def okA (m : Nat) (d : DOp) : Bool := if d.kd = .a then decide (d.nx < m) && (opds d.o.op).all kOK && newOK d.o.op else true

def okPair (mask i : Nat) (di dj : DOp) : Bool := mask.testBit i || (apartB di dj && kindsB di dj)

def nxOK (di dj : DOp) : Bool := if di.kd = .a ∧ dj.kd = .a then di.nx != dj.nx else true

/-- dj, at j, with all that stand before it. -/
def okRow (mask : Nat) (dj : DOp) : Nat → List DOp → Bool
  | _, [] => true
  | i, di :: ds => okPair mask i di dj && nxOK di dj && okRow mask dj (i + 1) ds

def okRows (tab : List Nat) (all : List DOp) : Nat → List DOp → Bool
  | _, [] => true
  | j, d :: ds => okRow (tab.getD j 0) d 0 (all.take j) && okRows tab all (j + 1) ds

def okD (ops : List Oper) (tab : List Nat) (m : Nat) (ds : List DOp) : Bool := okEdges tab 0 ops && ds.all (okA m) && okRows tab ds 0 ds && finB ds

/-! What is told of each operation. -/
def ordered (tab : List Nat) (i j : Nat) : Bool := (tab.getD j 0).testBit i || (tab.getD i 0).testBit j

def plainD (o : MOper) : DOp := ⟨o, false, 0, [], []⟩

def withW (tab : List Nat) (all : List DOp) (j : Nat) (d : DOp) : DOp := { d with w := all.zipIdx.all fun p => p.2 == j || p.1.kd == .v || ordered tab p.2 j }

def withNx : Nat → List DOp → List DOp
  | _, [] => []
  | k, d :: ds => if d.kd = .a then { d with nx := k } :: withNx (k + 1) ds else d :: withNx k ds

def ptrT (d : DOp) : List Nat := tmpsL [ptrOf d.o.op]

/-- A call that floats against this one? -/
def floats (tab : List Nat) (all : List DOp) (j : Nat) : Bool := all.zipIdx.any fun p => p.1.kd == .c && !ordered tab p.2 j

def withSep (tab : List Nat) (all : List DOp) (m j : Nat) (d : DOp) : DOp :=
  match d.kd with
  | .l => { d with nx := if floats tab all j then m + 1 else 0, av := (all.zipIdx.filter fun p => p.1.kd == .a && !ordered tab p.2 j).map (·.1.nx), sep := ((all.zipIdx.filter fun p => decide (p.2 < j) && p.1.kd == .w && !ordered tab p.2 j).map fun p => ptrT p.1).flatten }
  | .w => { d with nx := if floats tab all j then m + 1 else 0, sep := ((all.zipIdx.filter fun p => decide (p.2 < j) && (p.1.kd == .l || p.1.kd == .w) && !ordered tab p.2 j).map fun p => ptrT p.1).flatten }
  | .c => { d with nx := m }
  | _ => d

def countA (ds : List DOp) : Nat := (ds.filter fun d => d.kd == .a).length

def mkD (ms : List MOper) (tab : List Nat) : List DOp :=
  let d0 := ms.map plainD
  let d1 := d0.zipIdx.map fun p => withW tab d0 p.2 p.1
  let d2 := withNx 0 d1
  d2.zipIdx.map fun p => withSep tab d2 (countA d2) p.2 p.1

def sameOps : List DOp → List MOper → Prop
  | [], [] => True
  | d :: ds, m :: ms => d.o = m ∧ sameOps ds ms
  | _, _ => False

def trD (P : Program) (N : Nat) (ops : Array Oper) : Option (Nat × List DOp) :=
  (trOpers P N ops ops.toList).bind fun ms =>
    let tab := tabOf ops.toList []
    let ds := mkD ms tab
    let m := countA ds
    if okD ops.toList tab m ds then some (m, ds) else none

theorem withNx_o : ∀ (k : Nat) (ds : List DOp), (withNx k ds).map (·.o) = ds.map (·.o)
  | _, [] => rfl
  | k, d :: ds => by
    simp only [withNx]
    split <;> simp [withNx_o]

theorem withSep_o (tab : List Nat) (all : List DOp) (m j : Nat) (d : DOp) : (withSep tab all m j d).o = d.o := by
  unfold withSep; split <;> rfl

theorem mkD_o (ms : List MOper) (tab : List Nat) : (mkD ms tab).map (·.o) = ms := by
  unfold mkD
  simp only [List.map_map]
  have zip : ∀ (l : List DOp) (f : Nat → DOp → DOp), (∀ j d, (f j d).o = d.o) → l.zipIdx.map ((·.o) ∘ fun p => f p.2 p.1) = l.map (·.o) := fun l f hf => by
    have : ((·.o) ∘ fun (p : DOp × Nat) => f p.2 p.1) = (·.o) ∘ Prod.fst := by funext p; simp [hf]
    rw [this, ← List.map_map]
    simp
  have h1 := zip (withNx 0 ((ms.map plainD).zipIdx.map fun p => withW tab (ms.map plainD) p.2 p.1)) (fun j d => withSep tab (withNx 0 ((ms.map plainD).zipIdx.map fun p => withW tab (ms.map plainD) p.2 p.1)) (countA (withNx 0 ((ms.map plainD).zipIdx.map fun p => withW tab (ms.map plainD) p.2 p.1))) j d) (fun j d => withSep_o _ _ _ _ _)
  rw [h1, withNx_o, List.map_map]
  have h2 := zip (ms.map plainD) (fun j d => withW tab (ms.map plainD) j d) (fun j d => rfl)
  rw [h2, List.map_map]
  have : ((·.o) ∘ plainD) = id := by funext o; rfl
  rw [this]; simp
end Go.Sk
set_option linter.unusedVariables false
set_option linter.unusedSimpArgs false
namespace Go.Sk
open Go.RowKit

theorem maskOf_bit {tab : List Nat} {i : Nat} : ∀ {es : List Nat}, (maskOf tab es).testBit i = true → ∃ e ∈ es, i = e ∨ (tab.getD e 0).testBit i = true
  | [], h => by simp [maskOf] at h
  | e :: es, h => by
    simp only [maskOf, Nat.testBit_or, Bool.or_eq_true] at h
    rcases h with (h | h) | h
    · rw [Nat.one_shiftLeft, Nat.testBit_two_pow] at h
      exact ⟨e, by simp, .inl (by simpa using h : e = i).symm⟩
    · exact ⟨e, by simp, .inr h⟩
    · obtain ⟨e', h1, h2⟩ := maskOf_bit h
      exact ⟨e', List.mem_cons_of_mem _ h1, h2⟩

theorem okEdges_spec {tab : List Nat} : ∀ {j0 : Nat} {os : List Oper}, okEdges tab j0 os = true → ∀ (j : Nat) (o : Oper), os[j]? = some o → (∀ e ∈ binding o, e < j0 + j) ∧ tab.getD (j0 + j) 0 = maskOf tab (binding o)
  | j0, [], h, j, o, hj => by simp at hj
  | j0, o' :: os, h, j, o, hj => by
    simp only [okEdges, Bool.and_eq_true, List.all_eq_true, decide_eq_true_eq, beq_iff_eq] at h
    cases j with
    | zero => simp at hj; subst hj; exact h.1
    | succ j =>
      simp at hj
      have := okEdges_spec h.2 j o hj
      rw [show j0 + 1 + j = j0 + (j + 1) by omega] at this
      exact this

theorem okRow_spec {mask : Nat} {dj : DOp} : ∀ {i0 : Nat} {ds : List DOp}, okRow mask dj i0 ds = true → ∀ (i : Nat) (di : DOp), ds[i]? = some di → okPair mask (i0 + i) di dj = true ∧ nxOK di dj = true
  | i0, [], h, i, di, hi => by simp at hi
  | i0, d :: ds, h, i, di, hi => by
    simp only [okRow, Bool.and_eq_true] at h
    cases i with
    | zero => simp at hi; subst hi; exact h.1
    | succ i =>
      simp at hi
      have := okRow_spec h.2 i di hi
      rw [show i0 + 1 + i = i0 + (i + 1) by omega] at this
      exact this

theorem okRows_spec {tab : List Nat} {all : List DOp} : ∀ {j0 : Nat} {ds : List DOp}, okRows tab all j0 ds = true → ∀ (j : Nat) (dj : DOp), ds[j]? = some dj → okRow (tab.getD (j0 + j) 0) dj 0 (all.take (j0 + j)) = true
  | j0, [], h, j, dj, hj => by simp at hj
  | j0, d :: ds, h, j, dj, hj => by
    simp only [okRows, Bool.and_eq_true] at h
    cases j with
    | zero => simp at hj; subst hj; exact h.1
    | succ j =>
      simp at hj
      have := okRows_spec h.2 j dj hj
      rw [show j0 + 1 + j = j0 + (j + 1) by omega] at this
      exact this

section
variable {P : Program} {N : Nat} {w0 : World} {im0 : Nat → Prop} {ρ0 : Nat → Loc} {rows0 : List Row} {b m : Nat} {ops : Array Oper} {tab : List Nat} {ds : List DOp}

/-- Where a region stands. -/
def Rel (P : Program) (N : Nat) (w0 : World) (im0 : Nat → Prop) (ρ0 : Nat → Loc) (rows0 : List Row) (b m : Nat) (ds : List DOp) (un : List Nat) (F : Nat → AV) (R : List Row) (a : Act) (w : World) : Prop :=
  ∃ env im ρ, look env = F ∧ St P N w0 im0 ρ0 rows0 env R a w im ρ ∧ b + m ≤ R.length ∧ ∀ i ∈ un, ∀ d, ds[i]? = some d → d.kd = .a → ρ (b + d.nx) = .no

theorem wpOp_plain {op : MOp} {env : Env} {rows : List Row} {K : AV → List Row → Prop} (hm : op.isCall = false) (h : ∃ v rows', stepOp (Opd.get env) rows op = some (v, rows') ∧ K v rows') : wpOp P op env rows K := by
  cases op <;> first | exact h | cases hm | (obtain ⟨v, r, h, _⟩ := h; simp [stepOp] at h)

theorem kd_plain {d : DOp} (h : d.kd ≠ .c) : d.o.op.isCall = false := by
  unfold DOp.kd at h
  unfold MOp.isCall
  split
  · rename_i e; rw [e] at h; exact absurd rfl h
  · rename_i e; rw [e] at h; exact absurd rfl h
  · rfl

theorem newAt_ids {n p : Nat} {u u' v : AV} (h1 : newAt n u = some u') (h2 : newAt p u = some v) : v = renV (fun id => if id = n then p else id) u' ∧ ∀ id ∈ idsV u', id = n := by
  unfold newAt at h1 h2
  split at h1
  · cases h1; cases h2; simp [renV, idsV]
  · cases h1; cases h2; simp [renV, idsV]
  · cases h1; cases h2; simp [renV, idsV]
  · cases h1

/-- One operation, in its place. -/
theorem stepD_ok {Q : Exit → Act → World → Prop} {next : Act → World → Prop} {j : Nat} {o : Oper} {d : DOp} (h0 : ∀ id, rows0.length ≤ id → ρ0 id = .no) (hb : rows0.length ≤ b)
    (ho : ops[j]? = some o) (ht : trOper P N ops o = some d.o) (hA : okA m d = true) {un : List Nat} (hd : ds[j]? = some d) (hun : j ∈ un)
    (hnx : d.kd = .a → ∀ i ∈ un, i ≠ j → ∀ d', ds[i]? = some d' → d'.kd = .a → d'.nx ≠ d.nx) (hm : ∀ i ∈ un, ∀ d', ds[i]? = some d' → d'.kd = .a → d'.nx < m)
    {G F F' : Nat → AV} {R R' : List Row} {a : Act} {w : World} (hR : Rel P N w0 im0 ρ0 rows0 b m ds un F R a w) (hs : StepD P b G d F R F' R')
    (hn : ∀ a' w', Rel P N w0 im0 ρ0 rows0 b m ds (un.filter (· != j)) F' R' a' w' → next a' w') : Go.wpOp P ops Q j next a w := by
  obtain ⟨env, im, ρ, rfl, h, hlen, hno⟩ := hR
  simp only [trOper, Option.bind_eq_some_iff, Option.map_eq_some_iff] at ht
  obtain ⟨dst, h1, mo, h2, g, h3, h4⟩ := ht
  obtain ⟨run, hg, hr⟩ := hs
  have e1 : d.o.dst = dst := by rw [← h4]
  have e2 : d.o.op = mo := by rw [← h4]
  have e3 : d.o.g = g := by rw [← h4]
  unfold Go.wpOp
  simp only [ho]
  have hw := wanted_of h3 h.env
  rw [e3] at hg
  have hwant : Region.wanted o (yielded ops a.tmps) = run := by
    cases g with
    | none => simp only [Wants] at hw; simp only [GuardF] at hg; rw [hw, hg]
    | some tb =>
      obtain ⟨t, c⟩ := tb
      rcases hg with ⟨x, k1, k2⟩ | ⟨k1, k2⟩
      · rw [hw.1 x k1, k2]
      · rw [hw.2 k1, k2]
  have later : ∀ {im' : Nat → Prop} {w' : World} {ρ' : Nat → Loc} {R'' : List Row}, Ext w im ρ R w' im' ρ' R'' → ∀ i ∈ un.filter (· != j), ∀ d', ds[i]? = some d' → d'.kd = .a → ρ' (b + d'.nx) = .no := fun {im' w' ρ' R''} hE i hi d' hd' ha => by
    simp only [List.mem_filter] at hi
    have := hm i hi.1 d' hd' ha
    rw [hE.rho _ (.inr (by omega))]
    exact hno i hi.1 d' hd' ha
  cases run with
  | false =>
    rw [hwant]
    obtain ⟨rfl, rfl⟩ := hr
    refine hn _ _ ⟨putE dst (.tup []) env, im, ρ, by rw [look_putE, e1], h.step h1 h.wf (Ext.refl _ _ _ _) (.tup [] [] .nil), hlen, later (Ext.refl _ _ _ _)⟩
  | true =>
    rw [hwant]
    obtain ⟨v, hout, rfl⟩ := hr
    refine .inl ?_
    rw [← get_look] at hout
    have plain : wpOp P mo env R (fun v' R'' => v' = v ∧ R'' = R') → o.wp P a w next Q := fun hK => by
      refine wpOp_ok h h1 h2 hK ?_
      rintro v' r w' im' ρ' rows' ⟨rfl, rfl⟩ k1 k2 k3
      exact hn _ _ ⟨putE dst r env, im', ρ', by rw [look_putE, e1], h.step h1 k1 k2 k3, Nat.le_trans hlen k2.len, later k2⟩
    unfold outG at hout
    cases hk : d.kd with
    | v =>
      rw [hk] at hout
      obtain ⟨rfl, r, hv⟩ := hout
      refine plain (wpOp_plain (by rw [← e2]; exact kd_plain (by rw [hk]; simp)) ⟨v, R', ?_, rfl, rfl⟩)
      rw [← e2]
      exact step_v hk hv R'
    | c =>
      rw [hk] at hout
      obtain ⟨f, args, new, he, rfl, _, hf⟩ := hout
      rw [e2] at he
      subst he
      exact plain (hf R rfl)
    | l =>
      rw [hk] at hout
      obtain ⟨rfl, hv, _⟩ := hout
      refine plain (wpOp_plain (by rw [← e2]; exact kd_plain (by rw [hk]; simp)) ⟨v, R', ?_, rfl, rfl⟩)
      rw [← e2]; exact hv
    | w =>
      rw [hk] at hout
      obtain ⟨hv, _⟩ := hout
      refine plain (wpOp_plain (by rw [← e2]; exact kd_plain (by rw [hk]; simp)) ⟨v, R', ?_, rfl, rfl⟩)
      rw [← e2]; exact hv
    | a =>
      rw [hk] at hout
      obtain ⟨u, r, a1, a2, a3, rfl⟩ := hout
      obtain ⟨u', b1, b2⟩ := step_a hk a1 R
      simp only [okA, hk, if_true, Bool.and_eq_true, decide_eq_true_eq, List.all_eq_true] at hA
      obtain ⟨⟨hA1, hA2⟩, hA3⟩ := hA
      have hids : ∀ q ∈ idsR r, ρ q ≠ .no := fun q hq => by
        obtain ⟨x, hx, hxq⟩ := step_a_ids hk a1 (fun t z e => by rw [e] at hA3; simpa [newOK] using hA3) hq
        cases x with
        | t n => exact (h.env n).ids q hxq
        | k c => have := hA2 _ hx; simp [kOK] at this; simp [Opd.get, this] at hxq
      have hp := hno j hun d hd hk
      refine wpOp_ok h h1 h2 (K := fun v' R'' => v' = u' ∧ R'' = R ++ [r]) (wpOp_plain (by rw [← e2]; exact kd_plain (by rw [hk]; simp)) ⟨u', R ++ [r], by rw [← e2]; exact b1, rfl, rfl⟩) ?_
      rintro v' rr w' im' ρ' rows' ⟨rfl, rfl⟩ k1 k2 k3
      obtain ⟨p1, p2, p3⟩ := place h.wf k1 k2 a3 hp hids
      obtain ⟨n1, n2⟩ := newAt_ids b2 a2
      have hplt : b + d.nx < R.length := (List.getElem?_eq_some_iff.1 a3).1
      have hval : RepV P im' w' (placed ρ' (b + d.nx) R.length) v' v := by
        rw [n1]
        refine k3.ren (fun id hid => ?_)
        rw [n2 id hid]
        simp [placed]
      have hbase := h.ext.trans k2
      have hE : Ext w0 im0 ρ0 rows0 w' im' (placed ρ' (b + d.nx) R.length) (R.set (b + d.nx) r) := by
        refine ⟨hbase.os, hbase.tape, hbase.output, hbase.size, hbase.block, hbase.imsub, hbase.imnew, fun id hid => ?_, ?_, fun c hc => hbase.own c (p3 c hc)⟩
        · have hlt : id < rows0.length := by
            rcases Nat.lt_or_ge id rows0.length with h' | h'
            · exact h'
            · exact hid.elim (fun hn => absurd (h0 id h') hn) (fun h => h)
          have := h.ext.len
          rw [← hbase.rho id hid]
          simp only [placed]
          rw [if_neg (by omega), if_neg (by omega)]
        · simp; exact h.ext.len
      have henv : EnvOK P im' w' (placed ρ' (b + d.nx) R.length) a env := fun t => (h.env t).mono (k2.keeps h.wf) p2
      have hst : St P N w0 im0 ρ0 rows0 (putE dst v env) (R.set (b + d.nx) r) (a.put o.dst v') w' im' (placed ρ' (b + d.nx) R.length) := by
        have base : St P N w0 im0 ρ0 rows0 env (R.set (b + d.nx) r) a w' im' (placed ρ' (b + d.nx) R.length) := ⟨p1, henv, hE, h.size, h.defers⟩
        exact base.step h1 p1 (Ext.refl _ _ _ _) hval
      refine hn _ _ ⟨putE dst v env, im', _, by rw [look_putE, e1], hst, by simpa using hlen, fun i hi d' hd' ha => ?_⟩
      simp only [List.mem_filter, bne_iff_ne] at hi
      have hne := hnx hk i hi.1 hi.2 d' hd' ha
      have hlt := hm i hi.1 d' hd' ha
      have := k2.rho (b + d'.nx) (.inr (by omega))
      simp only [placed]
      rw [if_neg (by omega), if_neg (by omega), this]
      exact hno i hi.1 d' hd' ha

def remL (n : Nat) (listed : Array Bool) : List Nat := (List.range n).filter fun i => !listed.getD i true

theorem remL_set {n j : Nat} {listed : Array Bool} (hs : listed.size = n) : remL n (listed.setIfInBounds j true) = (remL n listed).filter (· != j) := by
  unfold remL
  rw [List.filter_filter]
  apply List.filter_congr
  intro i hi
  simp only [List.mem_range] at hi
  by_cases e : j = i
  · subst e; simp [hs, hi]
  · rw [getD_set_ne true e]
    have : (i != j) = true := by simpa using fun h => e h.symm
    simp [this]

def Down (ops : Array Oper) (listed : Array Bool) : Prop := ∀ (j : Nat) (o : Oper), ops[j]? = some o → listed.getD j false = true → ∀ e ∈ binding o, listed.getD e false = true

theorem ancestors (he : okEdges tab 0 ops.toList = true) {listed : Array Bool} (hd : Down ops listed) : ∀ (j : Nat) (o : Oper), ops[j]? = some o → (∀ e ∈ binding o, listed.getD e false = true) → ∀ i, (tab.getD j 0).testBit i = true → listed.getD i false = true := by
  intro j
  induction j using Nat.strongRecOn with
  | _ j ih =>
    intro o ho hall i hi
    obtain ⟨k1, k2⟩ := okEdges_spec he j o (by rw [Array.getElem?_toList]; exact ho)
    simp only [Nat.zero_add] at k1 k2
    rw [k2] at hi
    obtain ⟨e, h1, h2⟩ := maskOf_bit hi
    have hle := hall e h1
    rcases h2 with rfl | h2
    · exact hle
    · have hlt := k1 e h1
      have hsz := (Array.getElem?_eq_some_iff.1 ho).1
      have hoe : ops[e]? = some ops[e] := Array.getElem?_eq_getElem (by omega)
      exact ih e hlt ops[e] hoe (hd e ops[e] hoe hle) i h2

theorem split_at {j : Nat} : ∀ {l : List Nat}, l.Pairwise (· < ·) → j ∈ l → ∃ pre post, l = pre ++ j :: post ∧ (∀ i ∈ pre, i < j) ∧ l.filter (· != j) = pre ++ post
  | [], _, h => by simp at h
  | x :: xs, hp, h => by
    rw [List.pairwise_cons] at hp
    rcases List.mem_cons.1 h with rfl | h
    · refine ⟨[], xs, rfl, by simp, ?_⟩
      simp only [List.filter_cons, bne_self_eq_false, Bool.false_eq_true, if_false, List.nil_append]
      rw [List.filter_eq_self]
      intro y hy
      have := hp.1 y hy
      simp; omega
    · obtain ⟨pre, post, h1, h2, h3⟩ := split_at hp.2 h
      have hlt := hp.1 j h
      refine ⟨x :: pre, post, by rw [h1]; rfl, fun i hi => ?_, ?_⟩
      · rcases List.mem_cons.1 hi with rfl | hi
        · exact hlt
        · exact h2 i hi
      · have : (x != j) = true := by simp; omega
        simp only [List.filter_cons, this, if_true, h3, List.cons_append]

theorem remL_sorted (n : Nat) (listed : Array Bool) : (remL n listed).Pairwise (· < ·) := List.Pairwise.filter _ List.pairwise_lt_range

theorem mem_remL {n i : Nat} {listed : Array Bool} (hs : listed.size = n) : i ∈ remL n listed ↔ i < n ∧ listed.getD i false = false := by
  unfold remL
  simp only [List.mem_filter, List.mem_range, Bool.not_eq_true']
  constructor
  · rintro ⟨h1, h2⟩
    refine ⟨h1, ?_⟩
    simpa [hs, h1] using h2
  · rintro ⟨h1, h2⟩
    refine ⟨h1, ?_⟩
    simpa [hs, h1] using h2

/-- Whatever the order. -/
theorem draw_any {Q : Exit → Act → World → Prop} (h0 : ∀ id, rows0.length ≤ id → ρ0 id = .no) (hb : rows0.length ≤ b) (hok : okD ops.toList tab m ds = true) (hlen : ds.length = ops.size)
    (htr : ∀ (j : Nat) (o : Oper) (d : DOp), ops[j]? = some o → ds[j]? = some d → trOper P N ops o = some d.o) {G FN : Nat → AV} {RN : List Row} (hQ : ∀ a w, Rel P N w0 im0 ρ0 rows0 b m ds [] FN RN a w → Q .normal a w) :
    ∀ (n : Nat) (listed : Array Bool) {F : Nat → AV} {R : List Row} {a : Act} {w : World}, (remL ops.size listed).length = n → listed.size = ops.size → Down ops listed → Chain P b G ds (remL ops.size listed) F R FN RN →
      Rel P N w0 im0 ρ0 rows0 b m ds (remL ops.size listed) F R a w → wpAny P .any ops Q n listed a w := by
  simp only [okD, Bool.and_eq_true, List.all_eq_true] at hok
  obtain ⟨⟨⟨hE, hA⟩, hP⟩, _⟩ := hok
  intro n
  induction n with
  | zero =>
    intro listed F R a w hn hs hd hc hR
    have hnil := List.eq_nil_of_length_eq_zero hn
    rw [hnil] at hc hR
    obtain ⟨rfl, rfl⟩ := hc
    refine ⟨?_, hQ a w hR⟩
    cases hq : Region.ready .any ops listed with
    | nil => rfl
    | cons j js =>
      have : j ∈ Region.ready .any ops listed := by rw [hq]; simp
      obtain ⟨h1, o, h2, _⟩ := mem_ready.1 this
      have hj : j ∈ remL ops.size listed := by
        unfold remL
        simp only [List.mem_filter, List.mem_range, Bool.not_eq_true']
        exact ⟨(Array.getElem?_eq_some_iff.1 h2).1, h1⟩
      rw [hnil] at hj; cases hj
  | succ n ih =>
    intro listed F R a w hn hs hd hc hR
    refine ⟨fun hnone => ?_, fun j hj => ?_⟩
    · exfalso
      cases hq : remL ops.size listed with
      | nil => rw [hq] at hn; simp at hn
      | cons i is =>
        have hi : i ∈ remL ops.size listed := by rw [hq]; simp
        obtain ⟨i1, i2⟩ := (mem_remL hs).1 hi
        have hsort := remL_sorted ops.size listed
        rw [hq, List.pairwise_cons] at hsort
        have ho : ops[i]? = some ops[i] := Array.getElem?_eq_getElem i1
        have hready : i ∈ Region.ready .any ops listed := by
          rw [mem_ready]
          refine ⟨by simpa [hs, i1] using i2, ops[i], ho, fun e he hbd => ?_⟩
          have hbe : e.on ∈ binding ops[i] := by
            unfold binding
            exact List.mem_map.2 ⟨e, List.mem_filter.2 ⟨Array.mem_def.1 he, hbd⟩, rfl⟩
          have hlt := (okEdges_spec hE i ops[i] (by rw [Array.getElem?_toList]; exact ho)).1 _ hbe
          simp only [Nat.zero_add] at hlt
          cases hl : listed.getD e.on false with
          | true => rfl
          | false =>
            have hmem : e.on ∈ remL ops.size listed := (mem_remL hs).2 ⟨by omega, hl⟩
            rw [hq] at hmem
            rcases List.mem_cons.1 hmem with h' | h'
            · omega
            · have := hsort.1 _ h'; omega
        rw [hnone] at hready; cases hready
    · obtain ⟨h1, o, h2, h3⟩ := mem_ready.1 hj
      have hjn := (Array.getElem?_eq_some_iff.1 h2).1
      have hjr : j ∈ remL ops.size listed := (mem_remL hs).2 ⟨hjn, by simpa [hs, hjn] using h1⟩
      obtain ⟨pre, post, e1, e2, e3⟩ := split_at (remL_sorted _ _) hjr
      have hdj : ds[j]? = some ds[j] := List.getElem?_eq_getElem (by omega)
      have hbind : ∀ e ∈ binding o, listed.getD e false = true := fun e he => by
        unfold binding at he
        obtain ⟨ed, he1, rfl⟩ := List.mem_map.1 he
        obtain ⟨he2, he3⟩ := List.mem_filter.1 he1
        exact h3 ed (Array.mem_def.2 he2) he3
      have hanc := ancestors hE hd j o h2 hbind
      have hrow := okRows_spec hP j ds[j] hdj
      simp only [Nat.zero_add] at hrow
      have hpair : ∀ i, i < j → ∀ di, ds[i]? = some di → okPair (tab.getD j 0) i di ds[j] = true ∧ nxOK di ds[j] = true := fun i hi di hdi => by
        have := okRow_spec hrow i di (by rw [List.getElem?_take]; simp [hi, hdi])
        simpa using this
      rw [e1] at hc
      obtain ⟨F1, R1, k1, k2⟩ := chain_swap hdj pre post (fun i hi di hdi => by
        obtain ⟨p1, _⟩ := hpair i (e2 i hi) di hdi
        have hir : i ∈ remL ops.size listed := by rw [e1]; simp [hi]
        simp only [okPair, Bool.or_eq_true, Bool.and_eq_true] at p1
        rcases p1 with p1 | p1
        · have := hanc i p1
          rw [((mem_remL hs).1 hir).2] at this; cases this
        · exact p1) hc
      have hnxj : ds[j].kd = .a → ∀ i ∈ remL ops.size listed, i ≠ j → ∀ d', ds[i]? = some d' → d'.kd = .a → d'.nx ≠ ds[j].nx := fun hka i hi hij d' hd' hka' => by
        have hin := ((mem_remL hs).1 hi).1
        rcases Nat.lt_or_ge i j with hlt | hge
        · have := (hpair i hlt d' hd').2
          simpa [nxOK, hka, hka'] using this
        · have hrow' := okRows_spec hP i d' hd'
          simp only [Nat.zero_add] at hrow'
          have := (okRow_spec hrow' j ds[j] (by rw [List.getElem?_take]; simp [show j < i by omega, hdj])).2
          simp [nxOK, hka, hka'] at this
          exact fun e => this e.symm
      refine stepD_ok h0 hb h2 (htr j o ds[j] h2 hdj) (hA _ (List.getElem_mem _)) hdj hjr hnxj (fun i hi d' hd' hka => ?_) hR k1 (fun a' w' hrel => ?_)
      · have := hA d' (List.mem_of_getElem? hd')
        simp only [okA, hka, if_true, Bool.and_eq_true, decide_eq_true_eq] at this
        exact this.1.1
      · have hrem : remL ops.size (listed.setIfInBounds j true) = pre ++ post := by rw [remL_set hs, e3]
        refine ih (listed.setIfInBounds j true) ?_ (by simpa using hs) ?_ (by rw [hrem]; exact k2) (by rw [remL_set hs]; exact hrel)
        · rw [hrem]; rw [e1] at hn; simp at hn ⊢; omega
        · intro i oi hoi hl e he
          by_cases hij : i = j
          · subst hij
            rw [h2] at hoi; cases hoi
            exact getD_set_true (hbind e he)
          · rw [getD_set_ne false (fun e => hij e.symm)] at hl
            exact getD_set_true (hd i oi hoi hl e he)
end
end Go.Sk
