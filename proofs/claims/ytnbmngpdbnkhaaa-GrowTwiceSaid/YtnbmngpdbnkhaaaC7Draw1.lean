/- Operations whose order the machine draws: what they look at, and that the order is of no account. Conditions: none (a library text). -/
import Derived.Test.YtnbmngpdbnkhaaaC7WpOk
set_option linter.unusedVariables false
set_option linter.unusedSimpArgs false
namespace Go.Sk
open Go.RowKit

def optL : Option Opd → List Opd
  | none => []
  | some x => [x]

def opds : MOp → List Opd
  | .mv x => [x]
  | .pick c a b => [c, a, b]
  | .new _ _ => []
  | .box _ x => [x]
  | .build _ ps => ps.map fun p => p.2.2
  | .bslice _ _ _ ps => ps.map fun p => p.2
  | .load _ _ x => [x]
  | .store _ a x => [a, x]
  | .nilchk x => [x]
  | .bin _ x y => [x, y]
  | .eqI _ _ x y => [x, y]
  | .eqB _ x y => [x, y]
  | .not x => [x]
  | .conv _ x => [x]
  | .fld _ x => [x]
  | .idxS _ x i => [x, i]
  | .idxP _ x i => [x, i]
  | .idxV _ x i => [x, i]
  | .slcS _ x lo hi => x :: (optL lo ++ optL hi)
  | .ext x _ => [x]
  | .len x => [x]
  | .slen x => [x]
  | .app _ _ x y => [x, y]
  | .mm _ x y => [x, y]
  | .fbits x => [x]
  | .ffrom x => [x]
  | .isnil _ x => [x]
  | .call _ args => args

theorem putParts_congr {g g' : Opd → AV} : ∀ (ps : List (Nat × Nat × Opd)) (z : List AV), (∀ p ∈ ps, g p.2.2 = g' p.2.2) → putParts g z ps = putParts g' z ps
  | [], z, _ => rfl
  | (c, sz, x) :: ps, z, h => by
    have h1 : g x = g' x := h (c, sz, x) (by simp)
    simp only [putParts, h1]
    congr 1; funext l; split
    · congr 1; funext z'; exact putParts_congr ps z' (fun p hp => h p (List.mem_cons_of_mem _ hp))
    · rfl

theorem putElems_congr {g g' : Opd → AV} {sz : Nat} : ∀ (ps : List (Nat × Opd)) (rows : List Row) (l : List (List AV)), (∀ p ∈ ps, g p.2 = g' p.2) → putElems g sz rows l ps = putElems g' sz rows l ps
  | [], rows, l, _ => rfl
  | (i, x) :: ps, rows, l, h => by
    have h1 : g x = g' x := h (i, x) (by simp)
    simp only [putElems, h1]
    congr 1; funext y; congr 1; funext q; split
    · exact putElems_congr ps _ _ (fun p hp => h p (List.mem_cons_of_mem _ hp))
    · rfl

theorem bound_congr {g g' : Opd → AV} {d top : Nat} : ∀ (o : Option Opd), (∀ x ∈ optL o, g x = g' x) → bound g d top o = bound g' d top o
  | none, _ => rfl
  | some x, h => by
    have h1 : g x = g' x := h x (by simp [optL])
    simp [bound, h1]

theorem stepOp_congr {g g' : Opd → AV} {rows : List Row} {op : MOp} (h : ∀ x ∈ opds op, g x = g' x) : stepOp g rows op = stepOp g' rows op := by
  cases op with
  | build z ps => simp only [stepOp]; rw [putParts_congr ps z (fun p hp => h _ (List.mem_map.2 ⟨p, hp, rfl⟩))]
  | bslice e z n ps => simp only [stepOp]; rw [putElems_congr ps _ _ (fun p hp => h _ (List.mem_map.2 ⟨p, hp, rfl⟩))]
  | slcS e x lo hi =>
    have h1 : g x = g' x := h x (by simp [opds])
    have hl : ∀ d top, bound g d top lo = bound g' d top lo := fun d top => bound_congr lo (fun y hy => h y (by simp [opds, hy]))
    have hh : ∀ d top, bound g d top hi = bound g' d top hi := fun d top => bound_congr hi (fun y hy => h y (by simp [opds, hy]))
    simp only [stepOp, h1, hl, hh]
  | call f args => rfl
  | isnil neg x => rfl
  | _ =>
    simp only [opds, List.mem_cons, List.not_mem_nil, or_false, forall_eq_or_imp, forall_eq] at h
    simp only [stepOp, h]

/-! ### Operations that read no rows -/
theorem thawV_nil {x y : AV} {r : List Row} (h : thawV [] x = some (y, r)) (rows : List Row) : r = [] ∧ thawV rows x = some (y, rows) := by
  cases x <;> simp [thawV] at h ⊢ <;> first | exact ⟨h.2, h.1⟩ | (obtain ⟨rfl, rfl⟩ := h; simp)

theorem thawL_nil : ∀ {xs ys : List AV} {r : List Row}, thawL [] xs = some (ys, r) → ∀ rows, r = [] ∧ thawL rows xs = some (ys, rows)
  | [], ys, r, h, rows => by simp [thawL] at h; obtain ⟨rfl, rfl⟩ := h; simp [thawL]
  | x :: xs, ys, r, h, rows => by
    simp only [thawL, Option.bind_eq_some_iff, Option.map_eq_some_iff] at h
    obtain ⟨⟨y, q⟩, h1, ⟨zs, q'⟩, h2, h3⟩ := h
    obtain ⟨rfl, e1⟩ := thawV_nil h1 rows
    obtain ⟨rfl, e2⟩ := thawL_nil h2 rows
    cases h3
    exact ⟨rfl, by simp [thawL, e1, e2]⟩

theorem putElems_nil {g : Opd → AV} {sz : Nat} : ∀ (ps : List (Nat × Opd)) (l l' : List (List AV)) (r : List Row), putElems g sz [] l ps = some (l', r) → ∀ rows, r = [] ∧ putElems g sz rows l ps = some (l', rows)
  | [], l, l', r, h, rows => by simp [putElems] at h; obtain ⟨rfl, rfl⟩ := h; simp [putElems]
  | (i, x) :: ps, l, l', r, h, rows => by
    simp only [putElems, Option.bind_eq_some_iff] at h
    obtain ⟨y, h1, ⟨z, q⟩, h2, h3⟩ := h
    obtain ⟨rfl, e2⟩ := thawL_nil h2 rows
    split at h3
    · rename_i hc
      obtain ⟨e3, e4⟩ := putElems_nil ps _ _ _ h3 rows
      refine ⟨e3, ?_⟩
      simp only [putElems, h1, Option.bind_some, e2]
      rw [if_pos hc]; exact e4
    · cases h3

theorem step_v {d : DOp} {g : Opd → AV} {v : AV} {r : List Row} (hk : d.kd = .v) (h : stepOp g [] d.o.op = some (v, r)) (rows : List Row) : stepOp g rows d.o.op = some (v, rows) := by
  unfold DOp.kd at hk
  obtain ⟨⟨dst, op, gd⟩, wf, nx, av, sep⟩ := d
  simp only at hk h ⊢
  cases op with
  | slcS e x lo hi =>
    simp only [stepOp] at h ⊢
    split at h
    · split at h
      · rename_i hc
        rw [if_pos hc]
        simp only [Option.bind_eq_some_iff, Option.map_eq_some_iff] at h ⊢
        obtain ⟨a, h1, c, h2, h3⟩ := h
        cases h3
        exact ⟨_, h1, _, h2, rfl⟩
      · cases h
    · simp only [Option.bind_eq_some_iff] at h ⊢
      obtain ⟨a, h1, h2⟩ := h
      refine ⟨a, h1, ?_⟩
      cases lo with
      | none => simp at h2 ⊢; exact h2.1
      | some y =>
        simp [thawV] at h2
    · simp only [Option.bind_eq_some_iff, Option.map_eq_some_iff] at h ⊢
      obtain ⟨a, h1, c, h2, h3⟩ := h
      cases h3
      exact ⟨_, h1, _, h2, rfl⟩
    · cases h
  | pick c a b =>
    simp only [stepOp] at h ⊢
    split at h
    · cases h; rfl
    · cases h
  | nilchk x =>
    simp only [stepOp] at h ⊢
    split at h <;> first | (cases h; rfl) | cases h
  | eqI n neg x y =>
    simp only [stepOp] at h ⊢
    split at h
    · split at h
      · rename_i hc
        rw [if_pos hc]
        simp only [Option.map_eq_some_iff] at h ⊢
        obtain ⟨a, h1, h2⟩ := h; cases h2; exact ⟨_, h1, rfl⟩
      · cases h
    · cases h
  | eqB neg x y =>
    simp only [stepOp] at h ⊢
    split at h <;> first | (cases h; rfl) | cases h
  | not x =>
    simp only [stepOp] at h ⊢
    split at h <;> first | (cases h; rfl) | cases h
  | conv k x =>
    simp only [stepOp] at h ⊢
    split at h <;> first | (cases h; rfl) | cases h
  | fld k x =>
    simp only [stepOp] at h ⊢
    split at h <;> first | (cases h; rfl) | cases h
  | ext x i =>
    simp only [stepOp] at h ⊢
    split at h
    · simp only [Option.map_eq_some_iff] at h ⊢
      obtain ⟨a, h1, h2⟩ := h; cases h2; exact ⟨_, h1, rfl⟩
    · cases h
  | slen x =>
    simp only [stepOp] at h ⊢
    split at h <;> first | (cases h; rfl) | cases h
  | fbits x =>
    simp only [stepOp] at h ⊢
    split at h <;> first | (cases h; rfl) | cases h
  | ffrom x =>
    simp only [stepOp] at h ⊢
    split at h <;> first | (cases h; rfl) | cases h
  | mm mx x y =>
    simp only [stepOp] at h ⊢
    split at h
    · split at h
      · rename_i hc
        cases h; exact if_pos hc
      · cases h
    · cases h
  | mv x => simp only [stepOp] at h ⊢; cases h; rfl
  | bin op x y =>
    simp only [stepOp, Option.map_eq_some_iff] at h ⊢
    obtain ⟨a, h1, h2⟩ := h; cases h2; exact ⟨_, h1, rfl⟩
  | build z ps =>
    simp only [stepOp, Option.map_eq_some_iff] at h ⊢
    obtain ⟨a, h1, h2⟩ := h; cases h2; exact ⟨_, h1, rfl⟩
  | idxS e x y =>
    simp only [stepOp, Option.map_eq_some_iff] at h ⊢
    obtain ⟨a, h1, h2⟩ := h; cases h2; exact ⟨_, h1, rfl⟩
  | idxP e x y =>
    simp only [stepOp, Option.map_eq_some_iff] at h ⊢
    obtain ⟨a, h1, h2⟩ := h; cases h2; exact ⟨_, h1, rfl⟩
  | idxV e x y =>
    simp only [stepOp, Option.map_eq_some_iff] at h ⊢
    obtain ⟨a, h1, h2⟩ := h; cases h2; exact ⟨_, h1, rfl⟩
  | len x =>
    simp only [stepOp, Option.map_eq_some_iff] at h ⊢
    obtain ⟨a, h1, h2⟩ := h; cases h2; exact ⟨_, h1, rfl⟩
  | app e l x y => simp at hk; split at hk <;> cases hk
  | call f as => cases hk
  | isnil neg x => cases hk
  | load a n x => cases hk
  | store n a x => cases hk
  | new t z => cases hk
  | box t x => cases hk
  | bslice e z n ps => cases hk

theorem elems_nil {e : Nat} {x : AV} {l : List (List AV)} (h : elems e [] x = some l) (rows : List Row) : elems e rows x = some l := by
  cases x <;> simp [elems] at h ⊢ <;> exact h

theorem appR_nil {e lim : Nat} {x u : AV} {ys : List (List AV)} {r : List Row} (h : appR e lim [] x ys = some (u, r)) (rows : List Row) : ∃ r0 u', r = [r0] ∧ idsR r0 = [] ∧ appR e lim rows x ys = some (u', rows ++ [r0]) ∧ newAt rows.length u = some u' := by
  cases x with
  | nil e' =>
    simp only [appR] at h ⊢
    split at h
    · rename_i hc
      rw [if_pos hc]
      split at h
      · rename_i he
        cases h
        exact ⟨_, _, rfl, rfl, if_pos he, rfl⟩
      · rename_i he
        cases h
        exact ⟨_, _, rfl, rfl, if_neg he, rfl⟩
    · cases h
  | sref id n => simp [appR] at h
  | _ => simp [appR] at h

theorem step_a {d : DOp} {g : Opd → AV} {u : AV} {r : Row} (hk : d.kd = .a) (h : stepOp g [] d.o.op = some (u, [r])) (rows : List Row) : ∃ u', stepOp g rows d.o.op = some (u', rows ++ [r]) ∧ newAt rows.length u = some u' := by
  unfold DOp.kd at hk
  obtain ⟨⟨dst, op, gd⟩, wf, nx, av, sep⟩ := d
  simp only at hk h ⊢
  cases op with
  | new t z => simp only [stepOp] at h ⊢; cases h; exact ⟨_, rfl, rfl⟩
  | box t x =>
    simp only [stepOp, Option.map_eq_some_iff] at h ⊢
    obtain ⟨l, h1, h2⟩ := h; cases h2; exact ⟨_, ⟨l, h1, rfl⟩, rfl⟩
  | bslice e z n ps =>
    simp only [stepOp, Option.map_eq_some_iff] at h ⊢
    obtain ⟨⟨l, q⟩, h1, h2⟩ := h
    obtain ⟨rfl, h3⟩ := putElems_nil _ _ _ _ h1 rows
    simp at h2
    obtain ⟨rfl, rfl⟩ := h2
    exact ⟨_, ⟨(l, rows), h3, rfl⟩, rfl⟩
  | app e lim x y =>
    simp only [stepOp, Option.bind_eq_some_iff] at h ⊢
    obtain ⟨ys, h1, h2⟩ := h
    obtain ⟨r0, u', e1, e2, e3, e4⟩ := appR_nil h2 rows
    cases e1
    exact ⟨u', ⟨ys, elems_nil h1 rows, e3⟩, e4⟩
  | _ => cases hk

theorem itemsOf_ids {x : AV} {l : List AV} (h : itemsOf x = some l) : idsL l = idsV x := by
  cases x <;> simp [itemsOf] at h <;> subst h <;> simp [idsL, idsV]

theorem step_a_ids {d : DOp} {g : Opd → AV} {u : AV} {r : Row} (hk : d.kd = .a) (h : stepOp g [] d.o.op = some (u, [r])) (hz : ∀ t z, d.o.op = .new t z → idsL z = []) {j : Nat} (hj : j ∈ idsR r) : ∃ x ∈ opds d.o.op, j ∈ idsV (g x) := by
  unfold DOp.kd at hk
  obtain ⟨⟨dst, op, gd⟩, wf, nx, av, sep⟩ := d
  simp only at hk h hz ⊢
  cases op with
  | new t z => simp only [stepOp] at h; cases h; simp [idsR, hz t z rfl] at hj
  | box t x =>
    simp only [stepOp, Option.map_eq_some_iff] at h
    obtain ⟨l, h1, h2⟩ := h; cases h2
    simp only [idsR, itemsOf_ids h1] at hj
    exact ⟨x, by simp [opds], hj⟩
  | bslice e z n ps =>
    simp only [stepOp, Option.map_eq_some_iff] at h
    obtain ⟨⟨l, q⟩, h1, h2⟩ := h
    obtain ⟨rfl, h3⟩ := putElems_nil _ _ _ _ h1 []
    simp at h2
    obtain ⟨rfl, rfl⟩ := h2
    simp [idsR] at hj
  | app e lim x y =>
    simp only [stepOp, Option.bind_eq_some_iff] at h
    obtain ⟨ys, h1, h2⟩ := h
    obtain ⟨r0, u', e1, e2, e3, e4⟩ := appR_nil h2 []
    cases e1
    rw [e2] at hj; cases hj
  | _ => cases hk

/-! ### Loads and stores of different rows -/
theorem behind_set {rows : List Row} {x : AV} {id : Nat} {r : Row} (h : rowId x ≠ some id) : behind (rows.set id r) x = behind rows x := by
  cases x with
  | ptr i c =>
    have : id ≠ i := fun e => h (by simp [rowId, e])
    simp only [behind, List.getElem?_set_ne this]
  | ptrA i c j =>
    have : id ≠ i := fun e => h (by simp [rowId, e])
    simp only [behind, List.getElem?_set_ne this]
  | ptrE i e c j =>
    have : id ≠ i := fun e => h (by simp [rowId, e])
    simp only [behind, List.getElem?_set_ne this]
  | _ => rfl

theorem load_set {g : Opd → AV} {rows : List Row} {agg : Bool} {n : Nat} {x : Opd} {v : AV} {id : Nat} {r : Row} (h : rowId (g x) ≠ some id) :
    stepOp g rows (.load agg n x) = some (v, rows) ↔ stepOp g (rows.set id r) (.load agg n x) = some (v, rows.set id r) := by
  simp only [stepOp, behind_set h]
  constructor <;> intro hh <;> simp only [Option.bind_eq_some_iff, Option.map_eq_some_iff] at hh ⊢ <;> (obtain ⟨l, h1, m, h2, y, h3, h4⟩ := hh; cases h4; exact ⟨l, h1, m, h2, _, h3, rfl⟩)

/-- A store into a box: whatever else there is. -/
theorem storeAt_box {rows rows' : List Row} {st ld : AV} {l : List AV} (h : storeAt rows st l = some rows') (hs : sepB st ld = true) : ∃ id t v v', rowId ld ≠ some id ∧ rows[id]? = some (.box t v) ∧ rows' = rows.set id (.box t v') ∧ ∀ R : List Row, R[id]? = some (.box t v) → storeAt R st l = some (R.set id (.box t v')) := by
  cases st with
  | ptr id c =>
    simp only [storeAt] at h
    split at h
    · rename_i t v hr
      simp only [Option.map_eq_some_iff] at h
      obtain ⟨v', h1, rfl⟩ := h
      exact ⟨id, t, v, v', by simpa [sepB] using hs, hr, rfl, fun R hR => by simp [storeAt, hR, h1]⟩
    · cases h
  | ptrA id c j =>
    cases l with
    | nil => simp [storeAt] at h
    | cons y ys =>
      cases ys with
      | cons => simp [storeAt] at h
      | nil =>
        simp only [storeAt] at h
        split at h
        · rename_i t v hr
          split at h
          · rename_i ho
            simp only [Option.map_eq_some_iff] at h
            obtain ⟨v', h1, rfl⟩ := h
            exact ⟨id, t, v, v', by simpa [sepB] using hs, hr, rfl, fun R hR => by simp [storeAt, hR, h1, ho]⟩
          · cases h
        · cases h
  | _ => simp [sepB] at hs

/-! ### Two stores -/
theorem thawV_box {rows rows' : List Row} {x y : AV} {id t : Nat} {v v' : List AV} (hb : rows[id]? = some (.box t v)) (h : thawV rows x = some (y, rows')) : thawV (rows.set id (.box t v')) x = some (y, rows'.set id (.box t v')) ∧ rows'[id]? = some (.box t v) := by
  cases x with
  | sref i n =>
    simp only [thawV] at h ⊢
    have hne : ∀ r, rows[i]? = some r → (∀ t v, r ≠ .box t v) → id ≠ i := by
      rintro r hr hn rfl; rw [hb] at hr; cases hr; exact hn _ _ rfl
    split at h
    · rename_i e l hr
      have hi := hne _ hr (by simp)
      split at h
      · rename_i hc
        cases h
        rw [List.getElem?_set_ne hi, hr]
        simp only [hc, if_true]
        exact ⟨by rw [List.set_comm _ _ hi], by rw [List.getElem?_set_ne (Ne.symm hi)]; exact hb⟩
      · cases h
    · rename_i e l hr
      have hi := hne _ hr (by simp)
      split at h
      · rename_i hc
        cases h
        rw [List.getElem?_set_ne hi, hr]
        simp [hc, hb]
      · cases h
    · cases h
  | _ => simp only [thawV] at h ⊢ <;> first | (cases h; exact ⟨rfl, hb⟩) | cases h

theorem thawL_box {id t : Nat} {v v' : List AV} : ∀ {xs ys : List AV} {rows rows' : List Row}, rows[id]? = some (.box t v) → thawL rows xs = some (ys, rows') → thawL (rows.set id (.box t v')) xs = some (ys, rows'.set id (.box t v')) ∧ rows'[id]? = some (.box t v)
  | [], ys, rows, rows', hb, h => by simp [thawL] at h ⊢; obtain ⟨rfl, rfl⟩ := h; exact ⟨⟨rfl, rfl⟩, hb⟩
  | x :: xs, ys, rows, rows', hb, h => by
    simp only [thawL, Option.bind_eq_some_iff, Option.map_eq_some_iff] at h
    obtain ⟨⟨y, q⟩, h1, ⟨zs, q'⟩, h2, h3⟩ := h
    cases h3
    obtain ⟨a1, a2⟩ := thawV_box (v' := v') hb h1
    obtain ⟨b1, b2⟩ := thawL_box (v' := v') a2 h2
    exact ⟨by simp [thawL, a1, b1], b2⟩

theorem storeAt_off {rows rows' : List Row} {st : AV} {l : List AV} {id t : Nat} {v v' : List AV} (hb : rows[id]? = some (.box t v)) (hne : rowId st ≠ some id) (h : storeAt rows st l = some rows') :
    storeAt (rows.set id (.box t v')) st l = some (rows'.set id (.box t v')) ∧ rows'[id]? = some (.box t v) := by
  cases st with
  | ptr i c =>
    have hi : id ≠ i := fun e => hne (by simp [rowId, e])
    simp only [storeAt] at h ⊢
    rw [List.getElem?_set_ne hi]
    split at h
    · rename_i t1 v1 hr
      simp only [Option.map_eq_some_iff] at h
      obtain ⟨w, h1, rfl⟩ := h
      simp only [h1, Option.map_some]
      exact ⟨by rw [List.set_comm _ _ hi], by rw [List.getElem?_set_ne (Ne.symm hi)]; exact hb⟩
    · cases h
  | ptrA i c j =>
    have hi : id ≠ i := fun e => hne (by simp [rowId, e])
    cases l with
    | nil => simp [storeAt] at h
    | cons y ys =>
      cases ys with
      | cons => simp [storeAt] at h
      | nil =>
        simp only [storeAt] at h ⊢
        rw [List.getElem?_set_ne hi]
        split at h
        · rename_i t1 v1 hr
          split at h
          · rename_i ho
            simp only [Option.map_eq_some_iff] at h
            obtain ⟨w, h1, rfl⟩ := h
            simp only [ho, if_true, h1, Option.map_some]
            exact ⟨by rw [List.set_comm _ _ hi], by rw [List.getElem?_set_ne (Ne.symm hi)]; exact hb⟩
          · cases h
        · cases h
  | ptrE i e k c =>
    have hi : id ≠ i := fun e => hne (by simp [rowId, e])
    simp only [storeAt, Option.bind_eq_some_iff] at h ⊢
    obtain ⟨⟨ys, q⟩, h1, h2⟩ := h
    obtain ⟨a1, a2⟩ := thawL_box (v' := v') hb h1
    split at h2
    · rename_i e' l' hr
      split at h2
      · rename_i hc
        subst hc
        simp only [Option.bind_eq_some_iff, Option.map_eq_some_iff] at h2
        obtain ⟨u, h3, u', h4, rfl⟩ := h2
        refine ⟨⟨_, a1, ?_⟩, by rw [List.getElem?_set_ne (Ne.symm hi)]; exact a2⟩
        simp only at hr h4
        simp only [List.getElem?_set_ne hi, hr, if_true, h3, h4, Option.bind_some, Option.map_some]
        rw [List.set_comm _ _ hi]
      · cases h2
    · cases h2
  | _ => simp [storeAt] at h

theorem thawV_back {rows rows' : List Row} {x y : AV} {id t : Nat} {v : List AV} (h : thawV rows x = some (y, rows')) (hb : rows'[id]? = some (.box t v)) : rows[id]? = some (.box t v) := by
  cases x with
  | sref i n =>
    simp only [thawV] at h
    split at h
    · rename_i e l hr
      split at h
      · cases h
        by_cases hi : i = id
        · subst hi
          have := (List.getElem?_eq_some_iff.1 hr).1
          rw [List.getElem?_set_self this] at hb; cases hb
        · rwa [List.getElem?_set_ne hi] at hb
      · cases h
    · split at h
      · cases h; exact hb
      · cases h
    · cases h
  | _ => simp only [thawV] at h <;> first | (cases h; exact hb) | cases h

theorem thawL_back {id t : Nat} {v : List AV} : ∀ {xs ys : List AV} {rows rows' : List Row}, thawL rows xs = some (ys, rows') → rows'[id]? = some (.box t v) → rows[id]? = some (.box t v)
  | [], ys, rows, rows', h, hb => by simp [thawL] at h; obtain ⟨rfl, rfl⟩ := h; exact hb
  | x :: xs, ys, rows, rows', h, hb => by
    simp only [thawL, Option.bind_eq_some_iff, Option.map_eq_some_iff] at h
    obtain ⟨⟨y, q⟩, h1, ⟨zs, q'⟩, h2, h3⟩ := h
    cases h3
    exact thawV_back h1 (thawL_back h2 hb)

/-- Another row's box was there before. -/
theorem storeAt_back {rows rows' : List Row} {st : AV} {l : List AV} {id t : Nat} {v : List AV} (h : storeAt rows st l = some rows') (hne : rowId st ≠ some id) (hb : rows'[id]? = some (.box t v)) : rows[id]? = some (.box t v) := by
  cases st with
  | ptr i c =>
    have hi : i ≠ id := fun e => hne (by simp [rowId, e])
    simp only [storeAt] at h
    split at h
    · simp only [Option.map_eq_some_iff] at h
      obtain ⟨w, h1, rfl⟩ := h
      rwa [List.getElem?_set_ne hi] at hb
    · cases h
  | ptrA i c j =>
    have hi : i ≠ id := fun e => hne (by simp [rowId, e])
    cases l with
    | nil => simp [storeAt] at h
    | cons y ys =>
      cases ys with
      | cons => simp [storeAt] at h
      | nil =>
        simp only [storeAt] at h
        split at h
        · split at h
          · simp only [Option.map_eq_some_iff] at h
            obtain ⟨w, h1, rfl⟩ := h
            rwa [List.getElem?_set_ne hi] at hb
          · cases h
        · cases h
  | ptrE i e k c =>
    have hi : i ≠ id := fun e => hne (by simp [rowId, e])
    simp only [storeAt, Option.bind_eq_some_iff] at h
    obtain ⟨⟨ys, q⟩, h1, h2⟩ := h
    split at h2
    · split at h2
      · simp only [Option.bind_eq_some_iff, Option.map_eq_some_iff] at h2
        obtain ⟨u, h3, u', h4, rfl⟩ := h2
        rw [List.getElem?_set_ne hi] at hb
        exact thawL_back h1 hb
      · cases h2
    · cases h2
  | _ => simp [storeAt] at h
end Go.Sk
