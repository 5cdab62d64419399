/- What the machine's operations do with what reads as abstract values. Conditions: none (a library text). -/
import Derived.Test.YtnbmngpdbnkhaaaC7Ext
set_option linter.unusedVariables false
set_option linter.unusedSimpArgs false
namespace Go.Sk
open Go.RowKit

theorem addA (g o j : Nat) : (⟨g, o, none⟩ : Addr).add j = ⟨g, o + j, none⟩ := by unfold Addr.add; split <;> simp_all
theorem addAA (a : Addr) (c j : Nat) : (a.add c).add j = a.add (c + j) := by
  unfold Addr.add
  by_cases h1 : c = 0 <;> by_cases h2 : j = 0 <;> simp [h1, h2, Nat.add_assoc]
theorem add0 (a : Addr) : a.add 0 = a := by simp [Addr.add]

section
variable {P : Program} {im : Nat → Prop} {w : World} {ρ : Nat → Loc} {rows : List Row}

theorem seg_get (us : List Value) (sz i j : Nat) (u : Value) (h : (seg us sz i)[j]? = some u) : us[i * sz + j]? = some u ∧ j < sz := by
  unfold seg at h
  rw [List.getElem?_take] at h
  split at h
  · rw [List.getElem?_drop] at h; exact ⟨h, by assumption⟩
  · cases h

theorem behind_sound (hW : WF P im w ρ rows) {v : Value} {x : AV} {l : List AV} (hv : RepV P im w ρ v x) (hb : behind rows x = some l) :
    ∃ a us, v = .pointer (some a) ∧ RepL P im w ρ us l ∧ ∀ j u, us[j]? = some u → w.cell? (a.add j) = some u := by
  have inblk : ∀ {id g cap e i c : Nat} {ls : List (List AV)} {l : List AV}, ρ id = .blk g cap → InBlk P im w g cap e ls → (ls[i]?).bind (fun v => skip v c) = some l →
      ∃ a us, Value.pointer (some ⟨g, i * P.cellsOf e + c, none⟩) = .pointer (some a) ∧ RepL P im w ρ us l ∧ ∀ j u, us[j]? = some u → w.cell? (a.add j) = some u := by
    intro id g cap e i c ls l h ⟨cur, h1, h2, h3, h4, h5⟩ hb
    rw [Option.bind_eq_some_iff] at hb
    obtain ⟨y, hy, hs⟩ := hb
    obtain ⟨hi, rfl⟩ := List.getElem?_eq_some_iff.1 hy
    obtain ⟨r1, r2⟩ := (h5 i hi).lift.skip hs
    refine ⟨_, _, rfl, r1, fun j u hu => ?_⟩
    rw [List.getElem?_drop] at hu
    obtain ⟨q, _⟩ := seg_get _ _ _ _ _ hu
    rw [addA, cell_of_row w g _ cur e (0, 0) h1, Nat.add_assoc]
    simpa using q
  cases hv with
  | ptr id g cap c h =>
    simp only [behind] at hb
    split at hb
    · rename_i t bv hr
      obtain ⟨g', cap', cur, h1, h2, h3, h4⟩ := hW.row id _ hr
      rw [h] at h1; cases h1
      obtain ⟨r1, r2⟩ := h4.skip hb
      refine ⟨_, _, rfl, r1, fun j u hu => ?_⟩
      rw [List.getElem?_drop] at hu
      rw [addA, cell_of_row w g _ cur t (0, 0) h2]
      simpa using hu
    · cases hb
  | ptrA id g cap c j h =>
    simp only [behind] at hb
    split at hb
    · rename_i t bv hr
      obtain ⟨g', cap', cur, h1, h2, h3, h4⟩ := hW.row id _ hr
      rw [h] at h1; cases h1
      split at hb
      · rename_i a rest hs
        rw [Option.map_eq_some_iff] at hb
        obtain ⟨y, hy, rfl⟩ := hb
        obtain ⟨r1, r2⟩ := h4.skip hs
        cases hr' : cur.toList.drop c with
        | nil =>
          rw [hr'] at r1
          obtain ⟨hj, _⟩ := List.getElem?_eq_some_iff.1 hy
          have := r1.width
          simp [widths, AV.width] at this
          omega
        | cons z zs =>
          rw [hr'] at r1
          generalize hzz : z :: zs = us at r1 hr'
          cases r1 with
          | cons v x vs xs h1 _ _ => simp [AV.one] at h1
          | arr us' _ vs _ o1 o2 o3 =>
            obtain ⟨hj, rfl⟩ := List.getElem?_eq_some_iff.1 hy
            obtain ⟨hu, hrep⟩ := o2.at_ones o1 j hj
            refine ⟨_, [us'[j]], rfl, .cons _ _ _ _ (o1 _ (by simp)) hrep .nil, fun k u hk => ?_⟩
            cases k with
            | zero =>
              simp at hk; subst hk
              rw [addA, cell_of_row w g _ cur t (0, 0) h2, Nat.add_zero]
              have : (cur.toList.drop c)[j]? = some us'[j] := by rw [hr', List.getElem?_append_left hu]; simp [hu]
              rw [List.getElem?_drop] at this
              simpa using this
            | succ k => simp at hk
      · cases hb
    · cases hb
  | ptrE id g cap e i c h =>
    simp only [behind] at hb
    split at hb
    · rename_i e' ls hr
      split at hb
      · rename_i he; subst he
        rcases hW.row id _ hr with ⟨h1, _⟩ | ⟨g', cap', h1, h3, h4⟩
        · rw [h] at h1; cases h1
        · rw [h] at h1; cases h1
          exact inblk h h4 hb
      · cases hb
    · rename_i e' ls hr
      split at hb
      · rename_i he; subst he
        rcases hW.row id _ hr with ⟨h1, _⟩ | ⟨g', cap', h1, h3, h4⟩
        · rw [h] at h1; cases h1
        · rw [h] at h1; cases h1
          exact inblk h h4 hb
      · cases hb
    · cases hb
  | pz ad us items c hbb hu hr =>
    simp only [behind] at hb
    obtain ⟨r1, r2⟩ := hr.lift.skip hb
    refine ⟨_, _, rfl, r1, fun j u hj => ?_⟩
    rw [List.getElem?_drop] at hj
    rw [addAA]; exact hu _ _ hj
  | _ => simp [behind] at hb

/-- A load. -/
theorem load_sound (hW : WF P im w ρ rows) {v : Value} {x r : AV} {l m : List AV} {t n : Nat} {agg : Bool} {d : TypeDesc} (hv : RepV P im w ρ v x) (hb : behind rows x = some l) (hm : firsts l n = some m)
    (hd : P.underlying t = some d) (hn : P.cellsOf t = n) (hinfo : (P.info? t).isSome) (ha : agg = isAggD d)
    (hr : loadR agg m = some r) :
    ∃ u, (Instr.loadAt t v).run P w = .ok u w ∧ RepV P im w ρ u r := by
  obtain ⟨a, us, rfl, h1, h2⟩ := behind_sound hW hv hb
  obtain ⟨k1, k2⟩ := h1.firsts hm
  have hsz : (sizeOf t).run P w = .ok n w := by
    cases hi : P.info? t with
    | none => simp [hi] at hinfo
    | some i => simp [sizeOf, typeInfo, hi, ← hn, Program.cellsOf]
  have hagg : (isAgg t).run P w = .ok agg w := by
    simp only [isAgg, Sem.run_bind, run_underlying hd, Result.andThen_ok, ha]
    cases d <;> simp [isAggD]
  cases agg with
  | true =>
    simp [loadR] at hr; subst hr
    have hl := run_loadCells_list (P := P) w a (us.take n) (fun j u hu => by
      rw [List.getElem?_take] at hu
      split at hu
      · exact h2 j u hu
      · cases hu)
    have hlen : (us.take n).length = n := by simp; omega
    rw [hlen] at hl
    refine ⟨.agg (us.take n).toArray, ?_, .agg _ _ k1⟩
    simp [Instr.loadAt, Instr.sureAddr, loadVar, hagg, hsz, hl]
  | false =>
    simp only [loadR, Bool.false_eq_true, if_false] at hr
    split at hr
    · rename_i y
      split at hr
      · rename_i h1y
        cases hr
        have hu := k1.len_ones (by simpa using h1y)
        obtain ⟨hu0, hrep⟩ := k1.at_ones (by simpa using h1y) 0 (by simp)
        have hcell := h2 0 (us.take n)[0] (by
          have : (us.take n)[0]? = some (us.take n)[0] := List.getElem?_eq_getElem hu0
          rw [List.getElem?_take] at this
          split at this
          · exact this
          · cases this)
        rw [add0] at hcell
        refine ⟨_, ?_, hrep⟩
        simp [Instr.loadAt, Instr.sureAddr, loadVar, hagg, run_load, hcell]
      · cases hr
    · cases hr

theorem items_sound {v : Value} {x : AV} {l : List AV} (hv : RepV P im w ρ v x) (hl : itemsOf x = some l) : RepL P im w ρ v.cells.toList l := by
  cases hv with
  | agg vs l' h => simp [itemsOf] at hl; subst hl; simpa [Value.cells] using h
  | tup vs l' h => simp [itemsOf] at hl
  | un => simp [itemsOf] at hl
  | int k n => simp [itemsOf] at hl; subst hl; exact .cons _ _ _ _ rfl (.int k n) .nil
  | bool b => simp [itemsOf] at hl; subst hl; exact .cons _ _ _ _ rfl (.bool b) .nil
  | str b => simp [itemsOf] at hl; subst hl; exact .cons _ _ _ _ rfl (.str b) .nil
  | flt b => simp [itemsOf] at hl; subst hl; exact .cons _ _ _ _ rfl (.flt b) .nil
  | nil b => simp [itemsOf] at hl; subst hl; exact .cons _ _ _ _ rfl (.nil b) .nil
  | fz e A cap l us hA hl' hm ha hr => simp [itemsOf] at hl; subst hl; exact .cons _ _ _ _ rfl (.fz e A cap l us hA hl' hm ha hr) .nil
  | sref id g cap n h hn => simp [itemsOf] at hl; subst hl; exact .cons _ _ _ _ rfl (.sref id g cap n h hn) .nil
  | ptr id g cap c h => simp [itemsOf] at hl; subst hl; exact .cons _ _ _ _ rfl (.ptr id g cap c h) .nil
  | ptrA id g cap c j h => simp [itemsOf] at hl; subst hl; exact .cons _ _ _ _ rfl (.ptrA id g cap c j h) .nil
  | ptrE id g cap e i c h => simp [itemsOf] at hl; subst hl; exact .cons _ _ _ _ rfl (.ptrE id g cap e i c h) .nil
  | pz ad us items c hb hu hr => simp [itemsOf] at hl; subst hl; exact .cons _ _ _ _ rfl (.pz ad us items c hb hu hr) .nil
  | nilp => simp [itemsOf] at hl; subst hl; exact .cons _ _ _ _ rfl .nilp .nil

/-- A live row is written in its block. -/
theorem rewrite_row (hW : WF P im w ρ rows) {id g cap : Nat} {r r' : Row} {cur : Array Value} {t : Nat} (hr : rows[id]? = some r) (hl : r.live = true) (hρ : ρ id = .blk g cap)
    (hg : w.heap[g]? = some (.cells cur t (0, 0))) (cs : Array Value) (hl' : r'.live = true)
    (hnew : (∀ {im' w'}, (∀ b, im b → im' b ∧ w'.heap[b]? = w.heap[b]?) → w'.heap[g]? = some (.cells cs t (0, 0)) → ¬ im' g → RowOK P im' w' ρ id r')) :
    WF P im (w.setRow g cs) ρ (rows.set id r') ∧ Ext w im ρ rows (w.setRow g cs) im ρ (rows.set id r') := by
  have hlt := (List.getElem?_eq_some_iff.1 hr).1
  have hgo : Own ρ rows g := ⟨id, r, cap, hr, hl, hρ⟩
  have hng := hW.own_im hgo
  have hset : ∀ j q, (rows.set id r')[j]? = some q → j ≠ id → rows[j]? = some q := fun j q hj hne => by rwa [List.getElem?_set_ne (fun e => hne e.symm)] at hj
  have hid : ∀ q, (rows.set id r')[id]? = some q → q = r' := fun q hq => by rw [List.getElem?_set_self hlt] at hq; exact (Option.some.inj hq).symm
  have hk : ∀ b, im b → im b ∧ (w.setRow g cs).heap[b]? = w.heap[b]? := fun b hb => ⟨hb, setRow_other w g b cs (fun e => hng.1 (e ▸ hb))⟩
  have hsz : (w.setRow g cs).heap.size = w.heap.size := by simp [World.setRow]
  have hlive : ∀ (j : Nat) (q : Row), (rows.set id r')[j]? = some q → q.live = true → ∃ q' : Row, rows[j]? = some q' ∧ q'.live = true := fun j q hj hq => by
    by_cases e : j = id
    · subst e; exact ⟨r, hr, hl⟩
    · exact ⟨q, hset j q hj e, hq⟩
  have hown : ∀ b, Own ρ (rows.set id r') b → Own ρ rows b := by
    rintro b ⟨j, q, c, h1, h2, h3⟩
    obtain ⟨q', h4, h5⟩ := hlive j q h1 h2
    exact ⟨j, q', c, h4, h5, h3⟩
  refine ⟨⟨fun j q hj => ?_, fun j j' q q' b c c' e1 e2 l1 l2 g1 g2 => ?_, fun j hj => hW.no j (by simpa using hj), fun b hb => by rw [hsz]; exact hW.im b hb⟩,
    ⟨rfl, rfl, rfl, Nat.le_of_eq hsz.symm, fun b hb ho => setRow_other w g b cs (fun e => ho (e ▸ hgo)), fun _ h => h, fun _ h => .inl h, fun _ _ => rfl, by simp, fun b hb => .inl (hown b hb)⟩⟩
  · by_cases e : j = id
    · subst e
      rw [hid q hj]
      exact hnew hk (setRow_heap w g cur cs t (0, 0) hg) hng.1
    · refine RowOK.mono hk (fun _ _ => rfl) (fun g' c hlq hg' => ⟨setRow_other w g g' cs ?_, fun x => x⟩) (hW.row j q (hset j q hj e))
      rintro rfl
      exact e (hW.inj j id q r _ c cap (hset j q hj e) hr hlq hl hg' hρ)
  · obtain ⟨q1, a1, a2⟩ := hlive j q e1 l1
    obtain ⟨q2, b1, b2⟩ := hlive j' q' e2 l2
    exact hW.inj j j' q1 q2 b c c' a1 b1 a2 b2 g1 g2

/-- The elements of a frozen row, as a slice. -/
theorem fz_of_blk {ρ : Nat → Loc} {g cap e n : Nat} {ls : List (List AV)} {c : Nat} (h : InBlk P im w g cap e ls) (hi : im g) (hn : n ≤ ls.length) (hc : n ≤ c) : RepV P im w ρ (.slice (some ⟨g, 0, none⟩) n c) (.fz e (ls.take n)) := by
  obtain ⟨cur, h1, h2, h3, h4, h5⟩ := h
  have hl : (ls.take n).length = n := by simp; omega
  have := RepV.fz (P := P) (im := im) (w := w) (ρ := ρ) e (some ⟨g, 0, none⟩) c (ls.take n) (fun i => seg cur.toList (P.cellsOf e) i) rfl (by omega) (by omega) (fun i hi' => by
    refine ⟨_, rfl, hi, ?_, fun j u hu => ?_⟩
    · have hik : i < cap := by omega
      have hmul : (i + 1) * P.cellsOf e ≤ cap * P.cellsOf e := Nat.mul_le_mul_right _ hik
      rw [Nat.add_mul] at hmul
      simp [seg]; omega
    · obtain ⟨q, _⟩ := seg_get _ _ _ _ _ hu
      rw [addA, cell_of_row w g _ cur e (0, 0) h1]
      simpa using q) (fun i hi' => by
    have : (ls.take n)[i] = ls[i]'(by omega) := by simp
    rw [this]; exact h5 i (by omega))
  rwa [hl] at this

theorem thawV_sound (hW : WF P im w ρ rows) {v : Value} {x y : AV} {rows' : List Row} (hv : RepV P im w ρ v x) (ht : thawV rows x = some (y, rows')) :
    ∃ im', WF P im' w ρ rows' ∧ Ext w im ρ rows w im' ρ rows' ∧ RepV P im' w noLoc v y ∧ y.one = true ∧ rows'.length = rows.length := by
  have same : RepV P im w noLoc v x → x.one = true → (y, rows') = (x, rows) → ∃ im', WF P im' w ρ rows' ∧ Ext w im ρ rows w im' ρ rows' ∧ RepV P im' w noLoc v y ∧ y.one = true ∧ rows'.length = rows.length := by
    rintro h0 h1 h; cases h; exact ⟨im, hW, Ext.refl _ _ _ _, h0, h1, rfl⟩
  have sr : ∀ id n, x = .sref id n → ∃ im', WF P im' w ρ rows' ∧ Ext w im ρ rows w im' ρ rows' ∧ RepV P im' w noLoc v y ∧ y.one = true ∧ rows'.length = rows.length := by
    rintro id n rfl
    simp only [thawV] at ht
    split at ht
    · rename_i e l hr
      split at ht
      · rename_i hn
        cases ht
        obtain ⟨im', k1, k2⟩ := freeze hW hr
        have hv' := k2.repV hW hv
        have hrow := k1.row id (.frz e l) (by rw [List.getElem?_set_self (List.getElem?_eq_some_iff.1 hr).1])
        refine ⟨im', k1, k2, ?_, rfl, by simp⟩
        cases hv' with
        | sref _ g cap _ h hnc =>
          rcases hrow with ⟨h1, h2⟩ | ⟨g', cap', h1, h3, h4⟩
          · rw [h] at h1; cases h1
          · rw [h] at h1; cases h1
            exact fz_of_blk h4 h3 hn hnc
      · cases ht
    · rename_i e l hr
      split at ht
      · rename_i hn
        cases ht
        refine ⟨im, hW, Ext.refl _ _ _ _, ?_, rfl, rfl⟩
        have hrow := hW.row id _ hr
        cases hv with
        | sref _ g cap _ h hnc =>
          rcases hrow with ⟨h1, h2⟩ | ⟨g', cap', h1, h3, h4⟩
          · rw [h] at h1; cases h1
          · rw [h] at h1; cases h1
            exact fz_of_blk h4 h3 hn hnc
      · cases ht
    · cases ht
  cases x with
  | sref id n => exact sr id n rfl
  | int k n => exact same (by cases hv; exact .int _ _) rfl (by simpa [thawV] using ht.symm)
  | bool b => exact same (by cases hv; exact .bool _) rfl (by simpa [thawV] using ht.symm)
  | str b => exact same (by cases hv; exact .str _) rfl (by simpa [thawV] using ht.symm)
  | flt b => exact same (by cases hv; exact .flt _) rfl (by simpa [thawV] using ht.symm)
  | nil b => exact same (by cases hv; exact .nil _) rfl (by simpa [thawV] using ht.symm)
  | fz e l => exact same (by cases hv; exact .fz _ _ _ _ _ ‹_› ‹_› ‹_› ‹_› ‹_›) rfl (by simpa [thawV] using ht.symm)
  | nilp => exact same (by cases hv; exact .nilp) rfl (by simpa [thawV] using ht.symm)
  | _ => simp [thawV] at ht

theorem thawL_sound (hW : WF P im w ρ rows) {us : List Value} {l l' : List AV} {rows' : List Row} (hv : RepL P im w ρ us l) (ht : thawL rows l = some (l', rows')) :
    ∃ im', WF P im' w ρ rows' ∧ Ext w im ρ rows w im' ρ rows' ∧ RepL P im' w noLoc us l' ∧ rows'.length = rows.length := by
  induction l generalizing us l' rows im with
  | nil => simp [thawL] at ht; obtain ⟨rfl, rfl⟩ := ht; cases hv; exact ⟨im, hW, Ext.refl _ _ _ _, .nil, rfl⟩
  | cons x xs ih =>
    simp only [thawL, Option.bind_eq_some_iff, Option.map_eq_some_iff] at ht
    obtain ⟨⟨y, r1⟩, h1, ⟨ys, r2⟩, h2, h3⟩ := ht
    cases h3
    cases hv with
    | cons v _ vs _ o h hs =>
      obtain ⟨im1, a1, a2, a3, a4, a5⟩ := thawV_sound hW h h1
      obtain ⟨im2, b1, b2, b3, b4⟩ := ih a1 (a2.repL hW hs) h2
      exact ⟨im2, b1, a2.trans b2, .cons _ _ _ _ a4 (a3.mono (b2.keeps a1) (fun _ hn => absurd rfl hn)) b3, by omega⟩
    | arr us' l' vs _ o h hs => simp [thawV] at h1
end
end Go.Sk
