/- What the machine's operations do with what reads as abstract values: what is built. Conditions: none (a library text). -/
import Derived.Test.YtnbmngpdbnkhaaaC6Sound
set_option linter.unusedVariables false
set_option linter.unusedSimpArgs false
namespace Go.Sk
open Go.RowKit

section
variable {P : Program} {im : Nat → Prop} {w : World} {ρ : Nat → Loc} {rows : List Row}

theorem putArr_sound {us : List Value} {l l' : List AV} {c j : Nat} {v : Value} {x : AV} (h : RepL P im w ρ us l) (hp : putArr l c j x = some l') (hx : x.one = true) (hv : RepV P im w ρ v x) :
    RepL P im w ρ (us.set (c + j) v) l' ∧ c + j < us.length := by
  induction l generalizing us c l' with
  | nil => cases c <;> simp [putArr] at hp
  | cons y ys ih =>
    cases c with
    | zero =>
      cases h with
      | cons u _ vs _ h1 _ _ => cases y <;> simp [putArr, AV.one] at hp h1
      | arr us' l vs _ o1 o2 o3 =>
        simp only [putArr] at hp
        split at hp
        · rename_i hj
          cases hp
          have hlen := o2.len_ones o1
          refine ⟨?_, by simp; omega⟩
          rw [Nat.zero_add, List.set_append_left _ _ (by omega)]
          refine .arr _ _ _ _ (fun z hz => ?_) (o2.set_ones o1 j hx hv) o3
          rcases List.mem_or_eq_of_mem_set hz with hz | rfl
          · exact o1 z hz
          · exact hx
        · cases hp
    | succ c =>
      have hp' : (if y.width ≤ c + 1 then (putArr ys (c + 1 - y.width) j x).map (y :: ·) else none) = some l' := by
        cases y <;> simpa [putArr] using hp
      split at hp'
      · rename_i hw
        obtain ⟨a, b, rfl, ha, hxa, hb⟩ := h.cons_inv
        rw [Option.map_eq_some_iff] at hp'
        obtain ⟨m, hm, rfl⟩ := hp'
        obtain ⟨h1, h2⟩ := ih hb hm
        refine ⟨?_, by simp; omega⟩
        rw [List.set_append_right _ _ (by omega)]
        have : c + 1 + j - a.length = c + 1 - y.width + j := by omega
        rw [this]
        exact hxa.cons_mk h1
      · cases hp'

theorem storeVar_row {t n : Nat} (hn : P.cellsOf t = n) (hinfo : (P.info? t).isSome) {g c : Nat} {cur : Array Value} {T : Nat} (hg : w.heap[g]? = some (.cells cur T (0, 0))) {u : Value} (hu : u.cells.size = n) (hc : c + n ≤ cur.size) (h1 : ∀ v ∈ u.cells.toList, v.oneCell' = true) :
    (Instr.storeAt t (.pointer (some ⟨g, c, none⟩)) u).run P w = .ok () (w.setRow g (cur.toList.take c ++ u.cells.toList ++ cur.toList.drop (c + n)).toArray) := by
  have hsz : (sizeOf t).run P w = .ok n w := by
    cases hi : P.info? t with
    | none => simp [hi] at hinfo
    | some i => simp [sizeOf, typeInfo, hi, ← hn, Program.cellsOf]
  have hst := run_storeCells_at P g c T u.cells.toList 0 cur w hg (by simpa [hu] using hc) h1
  simp only [Nat.add_zero, Array.length_toList, hu] at hst
  simp [Instr.storeAt, Instr.sureAddr, storeVar, hsz, hu, hst]

theorem seg_replace (us : List Value) (sz i c : Nat) (vs : List Value) (k : Nat) (h : c + vs.length ≤ sz) (hi : (i + 1) * sz ≤ us.length) :
    seg (us.take (i * sz + c) ++ vs ++ us.drop (i * sz + c + vs.length)) sz k = if k = i then (seg us sz i).take c ++ vs ++ (seg us sz i).drop (c + vs.length) else seg us sz k := by
  have hmul : (i + 1) * sz = i * sz + sz := by rw [Nat.add_mul]; omega
  have hlen : (us.take (i * sz + c)).length = i * sz + c := by rw [List.length_take]; omega
  apply List.ext_getElem?
  intro j
  unfold seg
  by_cases hj : j < sz
  · by_cases hk : k = i
    · subst hk
      simp only [if_true, List.getElem?_take, hj, List.getElem?_drop]
      by_cases h1 : j < c
      · rw [List.getElem?_append_left (by simp; omega), List.getElem?_append_left (by omega), List.getElem?_append_left (by simp; omega), List.getElem?_append_left (by simp; omega)]
        simp only [List.getElem?_take, List.getElem?_drop]
        rw [if_pos (by omega), if_pos h1, if_pos hj]
      · by_cases h2 : j < c + vs.length
        · rw [List.getElem?_append_left (by simp; omega), List.getElem?_append_right (by omega), List.getElem?_append_left (by simp; omega), List.getElem?_append_right (by simp; omega)]
          congr 1
          simp; omega
        · rw [List.getElem?_append_right (by simp; omega), List.getElem?_append_right (by simp; omega)]
          simp only [List.getElem?_drop, List.getElem?_take, List.length_append, List.length_take, List.length_drop]
          rw [if_pos (by omega)]
          congr 1
          omega
    · rw [if_neg hk]
      simp only [List.getElem?_take, hj, if_true, List.getElem?_drop]
      rcases Nat.lt_or_gt_of_ne hk with hlt | hgt
      · have : k * sz + sz ≤ i * sz := by
          have := Nat.mul_le_mul_right sz (show k + 1 ≤ i from hlt)
          rw [Nat.add_mul] at this; omega
        rw [List.getElem?_append_left (by simp; omega), List.getElem?_append_left (by omega), List.getElem?_take, if_pos (by omega)]
      · have : i * sz + sz ≤ k * sz := by
          have := Nat.mul_le_mul_right sz (show i + 1 ≤ k from hgt)
          rw [Nat.add_mul] at this; omega
        rw [List.getElem?_append_right (by simp; omega), List.getElem?_drop]
        congr 1
        simp; omega
  · split <;> simp [List.getElem?_take, hj]
    omega

theorem list_set_eq (us : List Value) (k : Nat) (v : Value) (h : k < us.length) : us.set k v = us.take k ++ [v] ++ us.drop (k + 1) := by
  rw [List.set_eq_take_append_cons_drop, if_pos h]; simp

/-- A store. -/
theorem store_sound (hW : WF P im w ρ rows) {v u : Value} {x y : AV} {l : List AV} {rows' : List Row} {t n : Nat} (hv : RepV P im w ρ v x) (hu : RepV P im w ρ u y) (hl : itemsOf y = some l) (hwd : widths l = n)
    (hn : P.cellsOf t = n) (hinfo : (P.info? t).isSome) (hs : storeAt rows x l = some rows') :
    ∃ w' im', (Instr.storeAt t v u).run P w = .ok () w' ∧ WF P im' w' ρ rows' ∧ Ext w im ρ rows w' im' ρ rows' ∧ rows'.length = rows.length := by
  have hi := items_sound hu hl
  have hsz : u.cells.size = n := by rw [← Array.length_toList, hi.width, hwd]
  have h1 := hi.one_cells
  cases hv with
  | ptr id g cap c h =>
    simp only [storeAt] at hs
    split at hs
    · rename_i T bv hr
      rw [Option.map_eq_some_iff] at hs
      obtain ⟨bv', hp, rfl⟩ := hs
      obtain ⟨g', cap', cur, e1, e2, e3, e4⟩ := hW.row id _ hr
      rw [h] at e1; cases e1
      obtain ⟨p1, p2⟩ := e4.putAt hi hp
      have hc : c + n ≤ cur.size := by rw [Array.length_toList] at p2; simpa [hsz] using p2
      obtain ⟨k1, k2⟩ := rewrite_row hW hr rfl h e2 (cur.toList.take c ++ u.cells.toList ++ cur.toList.drop (c + n)).toArray (r' := .box T bv') rfl (fun hk hg hng => ⟨g, cap, _, h, hg, hng, by
        have := p1.mono hk (fun _ _ => rfl)
        simpa [hsz] using this⟩)
      exact ⟨_, im, storeVar_row hn hinfo e2 hsz hc h1, k1, k2, by simp⟩
    · cases hs
  | ptrA id g cap c j h =>
    cases l with
    | nil => simp [storeAt] at hs
    | cons z zs =>
      cases zs with
      | cons _ _ => simp [storeAt] at hs
      | nil =>
        simp only [storeAt] at hs
        split at hs
        · rename_i T bv hr
          split at hs
          · rename_i hz
            rw [Option.map_eq_some_iff] at hs
            obtain ⟨bv', hp, rfl⟩ := hs
            obtain ⟨g', cap', cur, e1, e2, e3, e4⟩ := hW.row id _ hr
            rw [h] at e1; cases e1
            have hn1 : n = 1 := by simp [widths, width_one hz] at hwd; omega
            obtain ⟨q0, q1⟩ := hi.at_ones (by simpa using hz) 0 (by simp)
            obtain ⟨p1, p2⟩ := putArr_sound e4 hp hz q1
            have hul : u.cells.toList = [u.cells.toList[0]] := by
              apply List.ext_getElem
              · have := hi.len_ones (by simpa using hz); simpa using this
              · intro k h1 h2
                have : k = 0 := by simp at h2; omega
                subst this; rfl
            have hc : c + j + n ≤ cur.size := by rw [Array.length_toList] at p2; omega
            obtain ⟨k1, k2⟩ := rewrite_row hW hr rfl h e2 (cur.toList.take (c + j) ++ u.cells.toList ++ cur.toList.drop (c + j + n)).toArray (r' := .box T bv') rfl (fun hk hg hng => ⟨g, cap, _, h, hg, hng, by
              have := p1.mono hk (fun _ _ => rfl)
              rw [list_set_eq _ _ _ p2] at this
              rw [hn1, hul]
              simpa using this⟩)
            exact ⟨_, im, storeVar_row hn hinfo e2 hsz hc h1, k1, k2, by simp⟩
          · cases hs
        · cases hs
  | ptrE id g cap e i c h =>
    simp only [storeAt, Option.bind_eq_some_iff] at hs
    obtain ⟨⟨l', r1⟩, ht, hs⟩ := hs
    obtain ⟨im1, a1, a2, a3, a4⟩ := thawL_sound hW hi ht
    simp only at hs
    split at hs
    · rename_i e' ls hr
      split at hs
      · rename_i he; subst he
        rw [Option.bind_eq_some_iff] at hs
        obtain ⟨z, hz, hs⟩ := hs
        rw [Option.map_eq_some_iff] at hs
        obtain ⟨z', hp, rfl⟩ := hs
        have hρ : ρ id = .blk g cap := h
        rcases a1.row id _ hr with ⟨e1, _⟩ | ⟨g', cap', e1, e3, cur, e2, f1, f2, f3, f4⟩
        · rw [h] at e1; cases e1
        · rw [h] at e1; cases e1
          obtain ⟨hi', rfl⟩ := List.getElem?_eq_some_iff.1 hz
          obtain ⟨p1, p2⟩ := (f4 i hi').putAt a3 hp
          have hmul : (i + 1) * P.cellsOf e ≤ cap * P.cellsOf e := Nat.mul_le_mul_right _ (by omega)
          have hmul' : (i + 1) * P.cellsOf e = i * P.cellsOf e + P.cellsOf e := by rw [Nat.add_mul]; omega
          have hsl : (seg cur.toList (P.cellsOf e) i).length = P.cellsOf e := by simp [seg]; omega
          rw [hsl, Array.length_toList, hsz] at p2
          have hc : i * P.cellsOf e + c + n ≤ cur.size := by omega
          obtain ⟨k1, k2⟩ := rewrite_row a1 hr rfl h e2 (cur.toList.take (i * P.cellsOf e + c) ++ u.cells.toList ++ cur.toList.drop (i * P.cellsOf e + c + n)).toArray (r' := .vec e (ls.set i z')) rfl (fun hk hg hng => .inr ⟨g, cap, h, hng, _, hg, by simpa using f1, f2, by
            simp only [List.size_toArray, List.length_append, List.length_take, List.length_drop, Array.length_toList, hsz]; omega, fun k hkk => by
            have := seg_replace cur.toList (P.cellsOf e) i c u.cells.toList k (by rw [Array.length_toList]; omega) (by rw [Array.length_toList]; omega)
            rw [Array.length_toList, hsz] at this
            simp only [this]
            by_cases hki : k = i
            · subst hki
              simp only [if_true, List.getElem_set_self]
              have := p1.mono hk (ρ' := noLoc) (fun _ hn => absurd rfl hn)
              rwa [Array.length_toList, hsz] at this
            · rw [if_neg hki, List.getElem_set_ne (fun e => hki e.symm)]
              exact (f4 k (by simpa using hkk)).mono hk (fun _ hn => absurd rfl hn)⟩)
          exact ⟨_, im1, storeVar_row hn hinfo e2 hsz hc h1, k1, a2.trans k2, by simp [a4]⟩
      · cases hs
    · cases hs
  | _ => simp [storeAt] at hs
end
end Go.Sk
set_option linter.unusedVariables false
set_option linter.unusedSimpArgs false
namespace Go.Sk
open Go.RowKit

section
variable {P : Program} {im : Nat → Prop} {w w1 : World} {ρ : Nat → Loc} {rows rows1 : List Row}

/-- A row behind the others, in a block that is new, or was another row's. -/
theorem push_at (hW : WF P im w ρ rows) (hlen : rows1.length = rows.length) (hsub : ∀ (j : Nat) (r : Row), rows1[j]? = some r → r = .dead ∨ rows[j]? = some r)
    {row : Option Nat} (hg : w.grownBy w1 row) (hrow : ∀ b, row = some b → Own ρ rows b)
    (hfree : ∀ (j : Nat) (r : Row) b cap, rows1[j]? = some r → r.live = true → ρ j = .blk b cap → some b ≠ row)
    {loc : Loc} (hloc : ∀ g cap, loc = .blk g cap → row = some g ∨ w.heap.size ≤ g) (r : Row)
    (hr : (∀ b, im b → im b ∧ w1.heap[b]? = w.heap[b]?) → (∀ id, ρ id ≠ .no → upd ρ rows.length loc id = ρ id) → RowOK P im w1 (upd ρ rows.length loc) rows.length r) :
    WF P im w1 (upd ρ rows.length loc) (rows1 ++ [r]) ∧ Ext w im ρ rows w1 im (upd ρ rows.length loc) (rows1 ++ [r]) := by
  have hρ : ∀ id, ρ id ≠ .no → upd ρ rows.length loc id = ρ id := fun id h => upd_other _ _ (fun e => h (hW.no id (by omega)))
  have him : ∀ b, im b → some b ≠ row := fun b hb e => (hW.own_im (hrow b e.symm)).1 hb
  have hk : ∀ b, im b → im b ∧ w1.heap[b]? = w.heap[b]? := fun b hb => ⟨hb, hg.block b (hW.im b hb) (him b hb)⟩
  have hlive : ∀ (j : Nat) (q : Row), rows1[j]? = some q → q.live = true → rows[j]? = some q := fun j q hj hq => by
    rcases hsub j q hj with rfl | h
    · simp [Row.live] at hq
    · exact h
  have hcase : ∀ (id : Nat) (q : Row), (rows1 ++ [r])[id]? = some q → (id < rows.length ∧ rows1[id]? = some q) ∨ (id = rows.length ∧ q = r) := fun id q h => by
    by_cases hid : id < rows1.length
    · rw [List.getElem?_append_left hid] at h; exact .inl ⟨by omega, h⟩
    · have h' := (List.getElem?_eq_some_iff.1 h).1
      have : id = rows1.length := by simp at h'; omega
      subst this
      simp at h
      exact .inr ⟨hlen, h.symm⟩
  have hown : ∀ b, Own (upd ρ rows.length loc) (rows1 ++ [r]) b → Own ρ rows b ∨ w.heap.size ≤ b := by
    rintro b ⟨id, q, c, h1, h2, h3⟩
    rcases hcase id q h1 with ⟨a1, a2⟩ | ⟨rfl, rfl⟩
    · rw [upd_other _ _ (by omega)] at h3
      exact .inl ⟨id, q, c, hlive id q a2 h2, h2, h3⟩
    · rw [upd_same] at h3
      rcases hloc b c h3 with h4 | h4
      · exact .inl (hrow b h4)
      · exact .inr h4
  refine ⟨⟨fun id q h => ?_, fun id id' q q' b c c' h1 h2 l1 l2 e1 e2 => ?_, fun id h => ?_, fun b hb => Nat.lt_of_lt_of_le (hW.im b hb) hg.size⟩,
    ⟨hg.os, hg.tape, hg.output, hg.size, fun b hb ho => hg.block b hb (fun e => ho (hrow b e.symm)), fun _ h => h, fun _ h => .inl h, fun id h => h.elim (hρ id) (fun h => upd_other _ _ (by omega)), by simp [hlen], hown⟩⟩
  · rcases hcase id q h with ⟨a1, a2⟩ | ⟨rfl, rfl⟩
    · rcases hsub id q a2 with rfl | h'
      · trivial
      · exact RowOK.mono hk hρ (fun g c hl' hg' => ⟨hg.block g (hW.own_im ⟨id, q, c, h', hl', hg'⟩).2 (hfree id q g c a2 hl' hg'), fun x => x⟩) (hW.row id q h')
    · exact hr hk hρ
  · have fresh : ∀ (j : Nat) (x : Row) (c1 c2 : Nat), rows1[j]? = some x → x.live = true → ρ j = .blk b c1 → loc = .blk b c2 → False := fun j x c1 c2 hj hx hb hlc => by
      rcases hloc b c2 hlc with h4 | h4
      · exact hfree j x b c1 hj hx hb h4.symm
      · have := (hW.own_im ⟨j, x, c1, hlive j x hj hx, hx, hb⟩).2; omega
    rcases hcase id q h1 with ⟨a1, a2⟩ | ⟨rfl, rfl⟩ <;> rcases hcase id' q' h2 with ⟨b1, b2⟩ | ⟨rfl, rfl⟩
    · rw [upd_other _ _ (by omega)] at e1 e2
      exact hW.inj id id' q q' b c c' (hlive id q a2 l1) (hlive id' q' b2 l2) l1 l2 e1 e2
    · rw [upd_other _ _ (by omega)] at e1
      rw [upd_same] at e2
      exact (fresh id q c c' a2 l1 e1 e2).elim
    · rw [upd_other _ _ (by omega)] at e2
      rw [upd_same] at e1
      exact (fresh id' q' c' c b2 l2 e2 e1).elim
    · rfl
  · simp [hlen] at h
    rw [upd_other _ _ (by omega)]
    exact hW.no id (by omega)

/-- Rows of cells, one behind the other. -/
def flat (us : Nat → List Value) : Nat → List Value
  | 0 => []
  | n + 1 => flat us n ++ us n

theorem flat_length {us : Nat → List Value} {sz : Nat} : ∀ {n : Nat}, (∀ i, i < n → (us i).length = sz) → (flat us n).length = n * sz
  | 0, _ => by simp [flat]
  | n + 1, h => by simp [flat, flat_length (n := n) (fun i hi => h i (by omega)), h n (by omega), Nat.add_mul]

theorem flat_get {us : Nat → List Value} {sz : Nat} : ∀ {n : Nat}, (∀ i, i < n → (us i).length = sz) → ∀ {j : Nat} {u : Value}, (flat us n)[j]? = some u → ∃ i k, i < n ∧ j = i * sz + k ∧ (us i)[k]? = some u
  | 0, _, j, u, hj => by simp [flat] at hj
  | n + 1, h, j, u, hj => by
    have hl := flat_length (n := n) (fun i hi => h i (by omega))
    rw [flat] at hj
    by_cases hlt : j < (flat us n).length
    · rw [List.getElem?_append_left hlt] at hj
      obtain ⟨i, k, a, b, c⟩ := flat_get (n := n) (fun i hi => h i (by omega)) hj
      exact ⟨i, k, by omega, b, c⟩
    · rw [List.getElem?_append_right (by omega), hl] at hj
      exact ⟨n, j - n * sz, by omega, by omega, hj⟩

theorem flat_seg {us : Nat → List Value} {sz : Nat} : ∀ {n : Nat}, (∀ i, i < n → (us i).length = sz) → ∀ {i : Nat}, i < n → seg (flat us n) sz i = us i
  | 0, _, i, hi => by omega
  | n + 1, h, i, hi => by
    have hl := flat_length (n := n) (fun i hi => h i (by omega))
    have hmul : ∀ a b : Nat, a + 1 ≤ b → a * sz + sz ≤ b * sz := fun a b hab => by
      have := Nat.mul_le_mul_right sz hab; rw [Nat.add_mul] at this; omega
    unfold seg
    rw [flat]
    by_cases hin : i < n
    · have hm := hmul i n hin
      rw [List.drop_append_of_le_length (by omega), List.take_append_of_le_length (by simp; omega)]
      have := flat_seg (n := n) (fun i hi => h i (by omega)) hin
      unfold seg at this
      exact this
    · have : i = n := by omega
      subst this
      rw [← hl, List.drop_left, ← h i (by omega), List.take_length]

theorem elems_sound (hW : WF P im w ρ rows) {v : Value} {x : AV} {e : Nat} {ys : List (List AV)} (hv : RepV P im w ρ v x) (he : elems e rows x = some ys) :
    ∃ (A : Option Addr) (c : Nat) (us : Nat → List Value), v = .slice A ys.length c ∧ ys.length ≤ c ∧ (∀ i, i < ys.length → ∃ ad, A = some ad ∧ (us i).length = P.cellsOf e ∧ ∀ j u, (us i)[j]? = some u → w.cell? (ad.add (i * P.cellsOf e + j)) = some u) ∧
      ∀ i (h : i < ys.length), RepL P im w noLoc (us i) ys[i] := by
  have blk : ∀ {g cap n c : Nat} {l : List (List AV)}, InBlk P im w g cap e l → n ≤ l.length → n ≤ c →
      ∃ (A : Option Addr) (c' : Nat) (us : Nat → List Value), Value.slice (some ⟨g, 0, none⟩) n c = .slice A (l.take n).length c' ∧ (l.take n).length ≤ c' ∧ (∀ i, i < (l.take n).length → ∃ ad, A = some ad ∧ (us i).length = P.cellsOf e ∧ ∀ j u, (us i)[j]? = some u → w.cell? (ad.add (i * P.cellsOf e + j)) = some u) ∧
      ∀ i (h : i < (l.take n).length), RepL P im w noLoc (us i) (l.take n)[i] := by
    intro g cap n c l ⟨cur, h1, h2, h3, h4, h5⟩ hn hc
    have hl : (l.take n).length = n := by simp; omega
    refine ⟨some ⟨g, 0, none⟩, c, fun i => seg cur.toList (P.cellsOf e) i, by rw [hl], by omega, fun i hi => ⟨_, rfl, ?_, fun j u hu => ?_⟩, fun i hi => ?_⟩
    · have hmul : (i + 1) * P.cellsOf e ≤ cap * P.cellsOf e := Nat.mul_le_mul_right _ (by omega)
      rw [Nat.add_mul] at hmul
      simp [seg]; omega
    · obtain ⟨q, _⟩ := seg_get _ _ _ _ _ hu
      rw [addA, cell_of_row w g _ cur e (0, 0) h1]
      simpa using q
    · have : (l.take n)[i] = l[i]'(by omega) := by simp
      rw [this]; exact h5 i (by omega)
  have nil0 : ∀ {l : List (List AV)} {n : Nat}, l = [] → ∃ (A : Option Addr) (c : Nat) (us : Nat → List Value), Value.slice none 0 0 = .slice A (l.take n).length c ∧ (l.take n).length ≤ c ∧ (∀ i, i < (l.take n).length → ∃ ad, A = some ad ∧ (us i).length = P.cellsOf e ∧ ∀ j u, (us i)[j]? = some u → w.cell? (ad.add (i * P.cellsOf e + j)) = some u) ∧
      ∀ i (h : i < (l.take n).length), RepL P im w noLoc (us i) (l.take n)[i] := by
    rintro l n rfl
    exact ⟨none, 0, fun _ => [], by simp, by simp, by simp, by simp⟩
  cases hv with
  | nil => simp [elems] at he; subst he; exact ⟨none, 0, fun _ => [], rfl, by simp, by simp, by simp⟩
  | fz e' A cap l us hA hl hm ha hr =>
    simp only [elems] at he
    split at he
    · rename_i h; subst h; cases he
      refine ⟨A, cap, us, rfl, hl, fun i hi => ?_, hr⟩
      obtain ⟨ad, q1, _, q3, q4⟩ := ha i hi
      exact ⟨ad, q1, q3, q4⟩
    · cases he
  | sref id g cap n h hn =>
    simp only [elems] at he
    split at he
    · rename_i e' l hr
      split at he
      · rename_i hc; obtain ⟨rfl, hle⟩ := hc
        cases he
        rcases hW.row id _ hr with ⟨h1, _⟩ | ⟨g', cap', h1, _, h4⟩
        · rw [h] at h1; cases h1
        · rw [h] at h1; cases h1
          exact blk h4 hle hn
      · cases he
    · rename_i e' l hr
      split at he
      · rename_i hc; obtain ⟨rfl, hle⟩ := hc
        cases he
        rcases hW.row id _ hr with ⟨h1, _⟩ | ⟨g', cap', h1, _, h4⟩
        · rw [h] at h1; cases h1
        · rw [h] at h1; cases h1
          exact blk h4 hle hn
      · cases he
    · cases he
  | _ => simp [elems] at he

theorem own_of_nil (e sz : Nat) : w.ownsRow 0 e sz (.slice none 0 0) 0 [] := World.ownsRow_nil w 0 e sz

/-- An append to a row, or to nil. -/
theorem app_core (hW : WF P im w ρ rows) {vx vy : Value} {y : AV} {t ty e n lim : Nat} {i0 : TypeInfo} {z : Value} {inner : List Value} {l ys : List (List AV)}
    (ht : P.underlying t = some (.slice e)) (hi : P.info? e = some i0) (hz : i0.zero = some z) (hzs : z.cells.size = i0.size) (hs0 : 0 < i0.size) (hlim : lim * i0.bytes ≤ 140737488355328) (hlm : lim ≤ 9223372036854775807)
    (hown : w.ownsRow 0 e i0.size vx n inner) (hl : l.length = n) (hin : ∀ i (h : i < l.length), RepL P im w noLoc (seg inner i0.size i) l[i])
    (hvy : RepV P im w ρ vy y) (hy : elems e rows y = some ys) (hfit : n + ys.length ≤ lim)
    (hlen : rows1.length = rows.length) (hsub : ∀ (j : Nat) (r : Row), rows1[j]? = some r → r = .dead ∨ rows[j]? = some r)
    (hrow : ∀ b, vx.ownBlock = some b → Own ρ rows b)
    (hfree : ∀ (j : Nat) (r : Row) b cap, rows1[j]? = some r → r.live = true → ρ j = .blk b cap → some b ≠ vx.ownBlock) (hne : vx.ownBlock ≠ none ∨ ys ≠ []) :
    ∃ v' w' ρ', (Builtin.append_ #[t, t] ty #[vx, vy]).run P w = .ok v' w' ∧ WF P im w' ρ' (rows1 ++ [.vec e (l ++ ys)]) ∧ Ext w im ρ rows w' im ρ' (rows1 ++ [.vec e (l ++ ys)]) ∧
      RepV P im w' ρ' v' (.sref rows.length (n + ys.length)) := by
  have hsz : P.cellsOf e = i0.size := by simp [Program.cellsOf, hi]
  obtain ⟨A, c, us, rfl, hc, ha, hr⟩ := elems_sound hW hvy hy
  rw [hsz] at ha
  have hus : ∀ i, i < ys.length → (us i).length = i0.size := fun i hi' => by obtain ⟨_, _, q, _⟩ := ha i hi'; exact q
  have hinl : inner.length = n * i0.size := hown.1
  have hrun : ∃ v' w', (Builtin.append_ #[t, t] ty #[vx, .slice A ys.length c]).run P w = .ok v' w' ∧ w'.ownsRow 0 e i0.size v' (n + ys.length) (inner ++ flat us ys.length) ∧ w.grownBy w' vx.ownBlock ∧ (v'.ownBlock = vx.ownBlock ∨ v'.ownBlock = some w.heap.size) := by
    cases A with
    | none =>
      have h0 : ys.length = 0 := by
        rcases Nat.eq_zero_or_pos ys.length with h0 | h0
        · exact h0
        · obtain ⟨ad, h, _⟩ := ha 0 h0; cases h
      rw [h0]
      refine ⟨vx, w, ?_, by simpa [flat] using hown, World.grownBy.refl w _, .inl rfl⟩
      rcases hown.2 with ⟨rfl, hn⟩ | ⟨g, cap, cur, rfl, _, _, hnc, _⟩
      · subst hn
        simp [Builtin.append_, run_underlying ht, sizeOf, typeInfo, hi, Builtin.lenOf, Builtin.firstCells]
      · simp [Builtin.append_, run_underlying ht, sizeOf, typeInfo, hi, Builtin.lenOf, Builtin.firstCells, hnc, storeCells]
    | some ad =>
      have hb : (n + ys.length) * i0.bytes ≤ 140737488355328 := Nat.le_trans (Nat.mul_le_mul_right _ hfit) hlim
      obtain ⟨v1, w1, k1, k2, k3, _, k5⟩ := run_append_own_at (P := P) w 0 t ty e i0 z i0.size i0.bytes ht hi hz rfl rfl hzs hs0 vx n inner hown ad ys.length c (flat us ys.length) (flat_length hus) (fun j u hu => by
          obtain ⟨i, k, a1, a2, a3⟩ := flat_get hus hu
          obtain ⟨ad', b1, _, b3⟩ := ha i a1
          cases b1
          rw [a2]; exact b3 k u a3) (fun u hu => by
          obtain ⟨j, hj, rfl⟩ := List.getElem_of_mem hu
          obtain ⟨i, k, a1, a2, a3⟩ := flat_get hus (List.getElem?_eq_getElem hj)
          exact (hr i a1).one_cells _ (List.mem_of_getElem? a3)) (by simp only [maxLen]; omega) hb (Nat.zero_le _)
      exact ⟨v1, w1, k1, k2, k3, k5⟩
  obtain ⟨v', w', h1, h2, h3, h4⟩ := hrun
  have hll : (l ++ ys).length = n + ys.length := by simp [hl]
  rcases h2.2 with ⟨rfl, hn0⟩ | ⟨g, cap, cur, rfl, _, hg, hnc, hcm, hcs, htk⟩
  · exfalso
    rcases hne with hne | hne
    · rcases h4 with h4 | h4
      · exact hne (by rw [← h4]; rfl)
      · simp [Value.ownBlock] at h4
    · exact hne (List.eq_nil_of_length_eq_zero (by omega))
  · have hloc : ∀ g' cap', Loc.blk g cap = .blk g' cap' → vx.ownBlock = some g' ∨ w.heap.size ≤ g' := by
      rintro g' cap' h; cases h
      rcases h4 with h4 | h4
      · exact .inl (by rw [← h4]; rfl)
      · simp [Value.ownBlock] at h4; exact .inr (by omega)
    have hng : ¬ im g := fun him => by
      rcases hloc g cap rfl with h5 | h5
      · exact (hW.own_im (hrow g h5)).1 him
      · have := hW.im g him; omega
    obtain ⟨a, b⟩ := push_at hW hlen hsub h3 hrow hfree (loc := .blk g cap) hloc (.vec e (l ++ ys)) (fun hk hρ => .inr ⟨g, cap, upd_same _ _ _, hng, cur, hg, by omega, by simpa [maxLen] using hcm, by rw [hsz]; exact hcs, fun i hi' => by
      rw [hsz]
      have hmul : i * i0.size + i0.size ≤ (n + ys.length) * i0.size := by
        have := Nat.mul_le_mul_right i0.size (show i + 1 ≤ n + ys.length by omega)
        rw [Nat.add_mul] at this; omega
      have hseg : seg cur.toList i0.size i = seg (inner ++ flat us ys.length) i0.size i := by
        rw [← htk]
        unfold seg
        rw [List.drop_take, List.take_take, Nat.min_eq_left (by omega)]
      rw [hseg]
      by_cases hin' : i < l.length
      · have : seg (inner ++ flat us ys.length) i0.size i = seg inner i0.size i := by
          have hm2 : i * i0.size + i0.size ≤ n * i0.size := by
            have := Nat.mul_le_mul_right i0.size (show i + 1 ≤ n by omega)
            rw [Nat.add_mul] at this; omega
          unfold seg
          rw [List.drop_append_of_le_length (by omega), List.take_append_of_le_length (by simp; omega)]
        rw [this, List.getElem_append_left hin']
        exact (hin i hin').mono hk (fun _ hn => absurd rfl hn)
      · have hi2 : i - l.length < ys.length := by omega
        have : seg (inner ++ flat us ys.length) i0.size i = us (i - l.length) := by
          rw [← flat_seg hus hi2]
          have hm2 : n * i0.size ≤ i * i0.size := Nat.mul_le_mul_right _ (by omega)
          unfold seg
          rw [List.drop_append, List.drop_eq_nil_of_le (by omega), List.nil_append, hinl, hl, Nat.sub_mul]
        rw [this, List.getElem_append_right (by omega)]
        exact (hr _ hi2).mono hk (fun _ hn => absurd rfl hn)⟩)
    refine ⟨_, w', _, h1, a, b, .sref _ g cap _ (upd_same _ _ _) hnc⟩

theorem app_none {t ty e : Nat} {i0 : TypeInfo} (ht : P.underlying t = some (.slice e)) (hi : P.info? e = some i0) (A : Option Addr) (c : Nat) : (Builtin.append_ #[t, t] ty #[.slice none 0 0, .slice A 0 c]).run P w = .ok (.slice none 0 0) w := by
  cases A <;> simp [Builtin.append_, run_underlying ht, sizeOf, typeInfo, hi, Builtin.lenOf, Builtin.firstCells, loadCells, loadCellsFrom]

theorem WF.dead1 (h : WF P im w ρ rows) : WF P im w ρ (rows ++ [.dead]) := by
  have hcase : ∀ (id : Nat) (r : Row), (rows ++ [Row.dead])[id]? = some r → rows[id]? = some r ∨ r = .dead := fun id r hr => by
    rcases Nat.lt_or_ge id rows.length with h' | h'
    · rw [List.getElem?_append_left h'] at hr; exact .inl hr
    · rw [List.getElem?_append_right h'] at hr
      have := List.mem_of_getElem? hr
      exact .inr (by simpa using this)
  refine ⟨fun id r hr => ?_, fun id id' r r' b c c' h1 h2 l1 l2 e1 e2 => ?_, fun id hid => ?_, h.im⟩
  · rcases hcase id r hr with h' | rfl
    · exact h.row id r h'
    · trivial
  · rcases hcase id r h1 with h1 | rfl
    · rcases hcase id' r' h2 with h2 | rfl
      · exact h.inj id id' r r' b c c' h1 h2 l1 l2 e1 e2
      · simp [Row.live] at l2
    · simp [Row.live] at l1
  · simp at hid
    exact h.no id (by omega)
theorem Ext.dead1 (h : WF P im w ρ rows) : Ext w im ρ rows w im ρ (rows ++ [.dead]) := by
  refine ⟨rfl, rfl, rfl, Nat.le_refl _, fun _ _ _ => rfl, fun _ h => h, fun _ h => .inl h, fun _ _ => rfl, by simp, fun b hb => ?_⟩
  obtain ⟨id, r, c, h1, h2, h3⟩ := hb
  rcases Nat.lt_or_ge id rows.length with h' | h'
  · rw [List.getElem?_append_left h'] at h1; exact .inl ⟨id, r, c, h1, h2, h3⟩
  · rw [List.getElem?_append_right h'] at h1
    have := List.mem_of_getElem? h1
    simp at this; subst this; simp [Row.live] at h2

/-- The whole: 'append' of one slice's elements to another one. -/
theorem app_sound (hW : WF P im w ρ rows) {vx vy : Value} {x y r : AV} {t ty e lim : Nat} {i0 : TypeInfo} {z : Value} {ys : List (List AV)} {rows' : List Row}
    (ht : P.underlying t = some (.slice e)) (hi : P.info? e = some i0) (hz : i0.zero = some z) (hzs : z.cells.size = i0.size) (hs0 : 0 < i0.size) (hlim : lim * i0.bytes ≤ 140737488355328) (hlm : lim ≤ 9223372036854775807)
    (hvx : RepV P im w ρ vx x) (hvy : RepV P im w ρ vy y) (hy : elems e rows y = some ys)
    (hs : appR e lim rows x ys = some (r, rows')) :
    ∃ v' w' ρ', (Builtin.append_ #[t, t] ty #[vx, vy]).run P w = .ok v' w' ∧ WF P im w' ρ' rows' ∧ Ext w im ρ rows w' im ρ' rows' ∧ RepV P im w' ρ' v' r := by
  have hsz : P.cellsOf e = i0.size := by simp [Program.cellsOf, hi]
  have dead : ∀ {id : Nat} {e' : Nat} {l : List (List AV)}, rows[id]? = some (.vec e' l) → (∀ (j : Nat) (r : Row), (rows.set id .dead)[j]? = some r → r = .dead ∨ rows[j]? = some r) ∧ (∀ (j : Nat) (r : Row), (rows.set id .dead)[j]? = some r → r.live = true → j ≠ id ∧ rows[j]? = some r) := by
    intro id e' l hr
    have hlt := (List.getElem?_eq_some_iff.1 hr).1
    refine ⟨fun j q hj => ?_, fun j q hj hq => ?_⟩
    · by_cases e : id = j
      · subst e; rw [List.getElem?_set_self hlt] at hj; exact .inl (Option.some.inj hj).symm
      · rw [List.getElem?_set_ne e] at hj; exact .inr hj
    · by_cases e : id = j
      · subst e; rw [List.getElem?_set_self hlt] at hj; cases hj; simp [Row.live] at hq
      · rw [List.getElem?_set_ne e] at hj; exact ⟨fun h => e h.symm, hj⟩
  cases hvx with
  | nil e0 =>
    simp only [appR] at hs
    split at hs
    · rename_i hfit
      split at hs
      · rename_i hemp
        cases hs
        have he : ys = [] := by simpa using hemp
        subst he
        obtain ⟨A, c, us, hvy', _, _, _⟩ := elems_sound hW hvy hy
        have h0 : ([] : List (List AV)).length = 0 := rfl
        rw [h0] at hvy'
        subst hvy'
        refine ⟨_, w, ρ, app_none ht hi A c, WF.dead1 hW, Ext.dead1 hW, .nil e⟩
      · rename_i hemp
        cases hs
        have := app_core (rows1 := rows) hW (ty := ty) (l := []) ht hi hz hzs hs0 hlim hlm (own_of_nil e i0.size) rfl (by simp) hvy hy (by omega) rfl (fun j r h => .inr h) (by simp [Value.ownBlock]) (by simp [Value.ownBlock]) (.inr (by simpa using hemp))
        simpa using this
    · cases hs
  | sref id g cap n h hn =>
    simp only [appR] at hs
    split at hs
    · rename_i e' l hr
      split at hs
      · rename_i hc; obtain ⟨rfl, h1, h2⟩ := hc
        cases hs
        obtain ⟨d1, d2⟩ := dead hr
        rcases hW.row id _ hr with ⟨q, _⟩ | ⟨g', cap', q, q2, cur, f1, f2, f3, f4, f5⟩
        · rw [h] at q; cases q
        · rw [h] at q; cases q
          rw [hsz] at f4 f5
          have hown : w.ownsRow 0 e i0.size (.slice (some ⟨g, 0, none⟩) n cap) n (cur.toList.take (n * i0.size)) := by
            refine ⟨?_, .inr ⟨g, cap, cur, rfl, Nat.zero_le _, f1, hn, by simpa [maxLen] using f3, f4, rfl⟩⟩
            have : n * i0.size ≤ cap * i0.size := Nat.mul_le_mul_right _ hn
            simp; omega
          refine app_core (rows1 := rows.set id .dead) hW (ty := ty) (l := l.take n) ht hi hz hzs hs0 hlim hlm hown (by simp; omega) (fun i hi' => ?_) hvy hy (by omega) (by simp) d1 (fun b hb => ?_) (fun j r b c hj hl hb hbb => ?_) (.inl (by simp [Value.ownBlock]))
          · have hin : i < n := by simp at hi'; omega
            have hm2 : i * i0.size + i0.size ≤ n * i0.size := by
              have := Nat.mul_le_mul_right i0.size (show i + 1 ≤ n by omega)
              rw [Nat.add_mul] at this; omega
            have hsg : seg (cur.toList.take (n * i0.size)) i0.size i = seg cur.toList i0.size i := by
              unfold seg
              rw [List.drop_take, List.take_take, Nat.min_eq_left (by omega)]
            have : (l.take n)[i] = l[i]'(by omega) := by simp
            rw [hsg, this]
            exact f5 i (by omega)
          · simp [Value.ownBlock] at hb; subst hb
            exact ⟨id, _, cap, hr, rfl, h⟩
          · simp [Value.ownBlock] at hbb; subst hbb
            obtain ⟨a1, a2⟩ := d2 j r hj hl
            exact a1 (hW.inj j id r _ _ c cap a2 hr hl rfl hb h)
      · cases hs
    · cases hs
  | _ => simp [appR] at hs
end
end Go.Sk
set_option linter.unusedVariables false
set_option linter.unusedSimpArgs false
namespace Go.Sk
open Go.RowKit

section
variable {P : Program} {im : Nat → Prop} {w w1 : World} {ρ : Nat → Loc} {rows rows1 : List Row}

/-- A type's cells as items. -/
def parseL (p : TypeId → List Value → Option (List AV × List Value)) : List TypeId → List Value → Option (List AV × List Value)
  | [], us => some ([], us)
  | t :: ts, us => (p t us).bind fun q => (parseL p ts q.2).map fun r => (q.1 ++ r.1, r.2)

def parse (P : Program) : Nat → TypeId → List Value → Option (List AV × List Value)
  | 0, _, _ => none
  | n + 1, t, us => match P.underlying t with
    | some (.struct fs) => parseL (parse P n) (fs.toList.map (·.type)) us
    | some (.array k e) => (parseL (parse P n) (List.replicate k e) us).bind fun q => if q.1.all AV.one then some ([.arr q.1], q.2) else none
    | some (.slice e) => match us with
      | .slice none 0 0 :: r => some ([.nil e], r)
      | _ => none
    | some (.pointer _) => match us with
      | .pointer none :: r => some ([.nilp], r)
      | _ => none
    | some _ => match us with
      | .int k m :: r => some ([.int k m], r)
      | .bool b :: r => some ([.bool b], r)
      | .string s :: r => some ([.str s], r)
      | .float .f64 b :: r => some ([.flt b], r)
      | _ => none
    | none => none

theorem parse_sound (im : Nat → Prop) (w : World) (ρ : Nat → Loc) : ∀ (n : Nat) (t : TypeId) (us : List Value) (l : List AV) (r : List Value), parse P n t us = some (l, r) → ∃ vs, us = vs ++ r ∧ RepL P im w ρ vs l := by
  intro n
  induction n with
  | zero => intro t us l r h; simp [parse] at h
  | succ n ih =>
    have hgo : ∀ (ts : List TypeId) (us : List Value) (l : List AV) (r : List Value), parseL (parse P n) ts us = some (l, r) → ∃ vs, us = vs ++ r ∧ RepL P im w ρ vs l := by
      intro ts
      induction ts with
      | nil => intro us l r h; simp [parseL] at h; obtain ⟨rfl, rfl⟩ := h; exact ⟨[], by simp, .nil⟩
      | cons t ts ih2 =>
        intro us l r h
        simp only [parseL, Option.bind_eq_some_iff, Option.map_eq_some_iff] at h
        obtain ⟨⟨a, b⟩, h1, ⟨c, d⟩, h2, h3⟩ := h
        cases h3
        obtain ⟨v1, rfl, k1⟩ := ih t us a b h1
        obtain ⟨v2, e, k2⟩ := ih2 b c d h2
        exact ⟨v1 ++ v2, by simp [e], k1.append k2⟩
    intro t us l r h
    unfold parse at h
    split at h
    · exact hgo _ _ _ _ h
    · rw [Option.bind_eq_some_iff] at h
      obtain ⟨⟨a, b⟩, h1, h2⟩ := h
      simp only at h2
      split at h2
      · rename_i ho
        cases h2
        obtain ⟨vs, e, k⟩ := hgo _ _ _ _ h1
        refine ⟨vs, e, ?_⟩
        simpa using RepL.arr vs a [] [] (by simpa using ho) k .nil
      · cases h2
    · split at h
      · cases h; exact ⟨[_], rfl, .cons _ _ _ _ rfl (.nil _) .nil⟩
      · cases h
    · split at h
      · cases h; exact ⟨[_], rfl, .cons _ _ _ _ rfl .nilp .nil⟩
      · cases h
    · split at h
      · cases h; exact ⟨[_], rfl, .cons _ _ _ _ rfl (.int _ _) .nil⟩
      · cases h; exact ⟨[_], rfl, .cons _ _ _ _ rfl (.bool _) .nil⟩
      · cases h; exact ⟨[_], rfl, .cons _ _ _ _ rfl (.str _) .nil⟩
      · cases h; exact ⟨[_], rfl, .cons _ _ _ _ rfl (.flt _) .nil⟩
      · cases h
    · cases h

/-- A type's zero value, as items. -/
def zeroI (P : Program) (t : TypeId) : Option (List AV) :=
  match P.info? t with
  | some i => match i.zero with
    | some z => match parse P 8 t z.cells.toList with
      | some (l, []) => some l
      | _ => none
    | none => none
  | none => none

theorem zeroI_sound {t : TypeId} {l : List AV} (h : zeroI P t = some l) (im : Nat → Prop) (w : World) (ρ : Nat → Loc) : ∃ z, (∀ w, (zeroValue t).run P w = .ok z w) ∧ RepL P im w ρ z.cells.toList l := by
  unfold zeroI at h
  split at h
  · rename_i i hi
    split at h
    · rename_i z hz
      split at h
      · rename_i l' hp
        cases h
        obtain ⟨vs, e, k⟩ := parse_sound im w ρ _ _ _ _ _ hp
        simp at e
        refine ⟨z, fun w => ?_, by rw [e]; exact k⟩
        simp [zeroValue, typeInfo, hi, hz]
      · cases h
    · cases h
  · cases h

/-- A new variable. -/
theorem box_sound (hW : WF P im w ρ rows) {v : Value} {l : List AV} (t : TypeId) (hl : RepL P im w ρ v.cells.toList l) :
    ∃ w' ρ', (Instr.box t v).run P w = .ok (.pointer (some ⟨w.heap.size, 0, none⟩)) w' ∧ WF P im w' ρ' (rows ++ [.box t l]) ∧ Ext w im ρ rows w' im ρ' (rows ++ [.box t l]) ∧
      RepV P im w' ρ' (.pointer (some ⟨w.heap.size, 0, none⟩)) (.ptr rows.length 0) := by
  have hk : ∀ b, im b → im b ∧ (w.alloc (.cells v.cells t)).heap[b]? = w.heap[b]? := fun b hb => ⟨hb, heap_alloc_old w _ (hW.im b hb)⟩
  have hρ : ∀ id, ρ id ≠ .no → upd ρ rows.length (.blk w.heap.size 0) id = ρ id := fun id h => upd_other _ _ (fun e => h (hW.no id (by omega)))
  obtain ⟨a, b⟩ := push hW v.cells t 0 (.box t l) rfl ⟨w.heap.size, 0, v.cells, upd_same _ _ _, heap_alloc_new w _, fun h => by have := hW.im _ h; omega, hl.mono hk hρ⟩
  refine ⟨_, _, ?_, a, b, .ptr _ _ _ 0 (upd_same _ _ _)⟩
  simp [Instr.box, newVar, newRow, newObj]
  rfl

theorem new_sound (hW : WF P im w ρ rows) {t : TypeId} {l : List AV} (hz : zeroI P t = some l) :
    ∃ v w' ρ', (Instr.alloc t true (.tuple #[])).run P w = .ok v w' ∧ WF P im w' ρ' (rows ++ [.box t l]) ∧ Ext w im ρ rows w' im ρ' (rows ++ [.box t l]) ∧ RepV P im w' ρ' v (.ptr rows.length 0) := by
  obtain ⟨z, h1, h2⟩ := zeroI_sound hz im w ρ
  obtain ⟨w', ρ', a, b, c, d⟩ := box_sound hW t h2
  refine ⟨_, w', ρ', ?_, b, c, d⟩
  rw [← a]
  simp [Instr.alloc, Instr.box, h1 w]

theorem foldl_put (off : Nat) : ∀ (vs : List Value) (k : Nat) (cs : Array Value), off + k + vs.length ≤ cs.size →
    (vs.zipIdx k).foldl (fun (cs : Array Value) (p : Value × Nat) => cs.setIfInBounds (off + p.2) p.1) cs = (cs.toList.take (off + k) ++ vs ++ cs.toList.drop (off + k + vs.length)).toArray
  | [], k, cs, _ => by simp
  | v :: vs, k, cs, h => by
    simp only [List.zipIdx_cons, List.foldl_cons]
    rw [foldl_put off vs (k + 1) _ (by simp at h ⊢; omega)]
    congr 1
    rw [Array.toList_setIfInBounds]
    have := list_seg_step cs.toList (off + k) v vs (by simp at h ⊢; omega)
    simpa [Nat.add_assoc] using this

theorem fill_one (place : Nat → Option (Nat × Nat)) (cells : Array Value) (i off size : Nat) (v : Value) (rest : List (Nat × Value)) (hp : place i = some (off, size)) (hv : v.cells.size = size) (hf : off + size ≤ cells.size) :
    Instr.fill place cells ((i, v) :: rest) = Instr.fill place (cells.toList.take off ++ v.cells.toList ++ cells.toList.drop (off + size)).toArray rest := by
  rw [Instr.fill]
  simp only [hp]
  rw [if_neg (by simp; omega)]
  congr 1
  have := foldl_put off v.cells.toList 0 cells (by simp; omega)
  simp only [Nat.add_zero, Array.length_toList, hv] at this
  rw [← this, ← Array.foldl_toList, Array.toList_zipIdx]

inductive All2 {α β : Type} (R : α → β → Prop) : List α → List β → Prop
  | nil : All2 R [] []
  | cons {a b as bs} (h : R a b) (hs : All2 R as bs) : All2 R (a :: as) (b :: bs)

theorem All2.imp {α β : Type} {R R' : α → β → Prop} (h : ∀ a b, R a b → R' a b) : ∀ {as : List α} {bs : List β}, All2 R as bs → All2 R' as bs
  | _, _, .nil => .nil
  | _, _, .cons a as => .cons (h _ _ a) (All2.imp h as)

/-- Parts put into a value's cells. -/
theorem fill_sound (place : Nat → Option (Nat × Nat)) {g : Opd → AV} {c : Operand → Value} :
    ∀ (ps : List (Nat × Operand)) (qs : List (Nat × Nat × Opd)) (cells : Array Value) (l l' : List AV), RepL P im w ρ cells.toList l →
      All2 (fun p q => RepV P im w ρ (c p.2) (g q.2.2) ∧ place p.1 = some (q.1, q.2.1)) ps qs →
      putParts g l qs = some l' →
      ∃ cells', Instr.fill place cells (ps.map fun p => (p.1, c p.2)) = some cells' ∧ RepL P im w ρ cells'.toList l' ∧ cells'.size = cells.size
  | [], _, cells, l, l', hr, .nil, h => by
    simp [putParts] at h; subst h
    exact ⟨cells, rfl, hr, rfl⟩
  | (i, x) :: ps, (o, size, y) :: qs, cells, l, l', hr, .cons hk hs, h => by
    obtain ⟨e1, e2⟩ := hk
    simp only at e1 e2
    simp only [putParts, Option.bind_eq_some_iff] at h
    obtain ⟨m, h1, h⟩ := h
    split at h
    · rename_i hw
      rw [Option.bind_eq_some_iff] at h
      obtain ⟨z, h2, h3⟩ := h
      have hi := items_sound e1 h1
      have hsz : (c x).cells.size = size := by rw [← Array.length_toList, hi.width]; exact hw
      obtain ⟨p1, p2⟩ := hr.putAt hi h2
      rw [Array.length_toList, Array.length_toList, hsz] at p2
      rw [Array.length_toList, hsz] at p1
      obtain ⟨cells', k1, k2, k3⟩ := fill_sound place ps qs (cells.toList.take o ++ (c x).cells.toList ++ cells.toList.drop (o + size)).toArray z l' (by simpa using p1) hs h3
      refine ⟨cells', ?_, k2, ?_⟩
      · rw [List.map_cons, fill_one place cells i o size (c x) _ e2 hsz p2]
        exact k1
      · rw [k3]; simp [hsz]; omega
    · cases h

theorem build_sound {t : TypeId} {fs : Array Field} {places : Array (Nat × Nat)} {g : Opd → AV} {c : Operand → Value} {z l' : List AV} {ps : Array (Nat × Operand)} {qs : List (Nat × Nat × Opd)}
    (ht : P.underlying t = some (.struct fs)) (hz : zeroI P t = some z) (hpl : ∀ w, (fs.mapM fun f => (do pure (f.offset, ← sizeOf f.type) : Sem (Nat × Nat))).run P w = .ok places w)
    (hf : All2 (fun p q => RepV P im w ρ (c p.2) (g q.2.2) ∧ places[p.1]? = some (q.1, q.2.1)) ps.toList qs) (hp : putParts g z qs = some l') :
    ∃ v, (Instr.build t (ps.map fun (i, x) => (i, c x))).run P w = .ok v w ∧ RepV P im w ρ v (.agg l') := by
  obtain ⟨zv, h1, h2⟩ := zeroI_sound hz im w ρ
  obtain ⟨cells', k1, k2, _⟩ := fill_sound (fun i => places[i]?) ps.toList qs zv.cells z l' h2 hf hp
  have hm : (ps.map fun (i, x) => (i, c x)).toList = ps.toList.map fun p => (p.1, c p.2) := by simp
  refine ⟨.agg cells', ?_, by simpa using RepV.agg cells'.toList l' k2⟩
  have k1' : Instr.fill (fun x => places[x]?) zv.cells (ps.map fun (i, x) => (i, c x)).toList = some cells' := by rw [hm]; exact k1
  unfold Instr.build
  simp only [Sem.run_bind, h1 w, Result.andThen_ok, run_underlying ht, hpl w]
  rw [k1']
  rfl

theorem elems_fill {g : Opd → AV} {c : Operand → Value} {sz : Nat} :
    ∀ (ps : List (Nat × Operand)) (qs : List (Nat × Opd)) (im : Nat → Prop) (rows rows' : List Row) (cells : Array Value) (l l' : List (List AV)), WF P im w ρ rows →
      cells.size = l.length * sz → (∀ k (h : k < l.length), RepL P im w noLoc (seg cells.toList sz k) l[k]) →
      All2 (fun p q => RepV P im w ρ (c p.2) (g q.2) ∧ p.1 = q.1) ps qs →
      putElems g sz rows l qs = some (l', rows') →
      ∃ im' cells', Instr.fill (fun i => some (i * sz, sz)) cells (ps.map fun p => (p.1, c p.2)) = some cells' ∧ WF P im' w ρ rows' ∧ Ext w im ρ rows w im' ρ rows' ∧
        cells'.size = cells.size ∧ l'.length = l.length ∧ rows'.length = rows.length ∧ ∀ k (h : k < l'.length), RepL P im' w noLoc (seg cells'.toList sz k) l'[k]
  | [], _, im, rows, rows', cells, l, l', hW, hc, hr, .nil, h => by
    simp [putElems] at h; obtain ⟨rfl, rfl⟩ := h
    exact ⟨im, cells, rfl, hW, Ext.refl _ _ _ _, rfl, rfl, rfl, hr⟩
  | (i, x) :: ps, (_, y) :: qs, im, rows, rows', cells, l, l', hW, hc, hr, .cons hk hs, h => by
    obtain ⟨e1, rfl⟩ := hk
    simp only at e1
    simp only [putElems, Option.bind_eq_some_iff] at h
    obtain ⟨m, h1, ⟨m', r1⟩, h2, h⟩ := h
    split at h
    · rename_i hw
      obtain ⟨hil, hw⟩ := hw
      simp only at h hil
      have hi := items_sound e1 h1
      have hsz : (c x).cells.size = sz := by rw [← Array.length_toList, hi.width]; exact hw
      obtain ⟨im1, a1, a2, a3, a4⟩ := thawL_sound hW hi h2
      have hmul : (i + 1) * sz ≤ l.length * sz := Nat.mul_le_mul_right _ hil
      have hmul' : (i + 1) * sz = i * sz + sz := by rw [Nat.add_mul]; omega
      have hseg : ∀ k, seg (cells.toList.take (i * sz) ++ (c x).cells.toList ++ cells.toList.drop (i * sz + sz)) sz k = if k = i then (c x).cells.toList else seg cells.toList sz k := fun k => by
        have := seg_replace cells.toList sz i 0 (c x).cells.toList k (by simp [hsz]) (by simp; omega)
        simp only [Nat.add_zero, Nat.zero_add, Array.length_toList, hsz, List.take_zero, List.nil_append] at this
        rw [this]
        split
        · have hsl : (seg cells.toList sz i).length = sz := by simp [seg]; omega
          rw [List.drop_eq_nil_of_le (by omega), List.append_nil]
        · rfl
      obtain ⟨im2, cells', k1, k2, k3, k4, k5, k6, k7⟩ := elems_fill ps qs im1 r1 rows' (cells.toList.take (i * sz) ++ (c x).cells.toList ++ cells.toList.drop (i * sz + sz)).toArray (l.set i m') l' a1
        (by simp [hsz]; omega) (fun k hk => by
          rw [hseg k]
          by_cases hki : k = i
          · subst hki; simp only [if_true, List.getElem_set_self]; exact a3
          · rw [if_neg hki, List.getElem_set_ne (fun e => hki e.symm)]
            exact (hr k (by simpa using hk)).mono (a2.keeps hW) (fun _ hn => absurd rfl hn)) (by
          refine All2.imp (fun p q hpq => ⟨a2.repV hW hpq.1, hpq.2⟩) hs) h
      refine ⟨im2, cells', ?_, k2, a2.trans k3, ?_, by simpa using k5, by omega, k7⟩
      · rw [List.map_cons, fill_one _ cells i (i * sz) sz (c x) _ rfl hsz (by omega)]
        exact k1
      · rw [k4]; simp [hsz]; omega
    · cases h

theorem bslice_sound (hW : WF P im w ρ rows) {t e n : Nat} {i0 : TypeInfo} {g : Opd → AV} {c : Operand → Value} {z : List AV} {l' : List (List AV)} {rows' : List Row} {ps : Array (Nat × Operand)} {qs : List (Nat × Opd)}
    (ht : P.underlying t = some (.slice e)) (hi : P.info? e = some i0) (hz : zeroI P e = some z) (hsz : i0.size = widths z) (hs0 : 0 < widths z) (hn : n * widths z ≤ 2 ^ 24)
    (hf : All2 (fun p q => RepV P im w ρ (c p.2) (g q.2) ∧ p.1 = q.1) ps.toList qs) (hp : putElems g (widths z) rows (List.replicate n z) qs = some (l', rows')) :
    ∃ v w' im' ρ', (Instr.buildSlice t n (ps.map fun (i, x) => (i, c x))).run P w = .ok v w' ∧ WF P im' w' ρ' (rows' ++ [.vec e l']) ∧ Ext w im ρ rows w' im' ρ' (rows' ++ [.vec e l']) ∧ RepV P im' w' ρ' v (.sref rows'.length n) := by
  obtain ⟨zv, h1, h2⟩ := zeroI_sound hz im w noLoc
  have hzs : zv.cells.size = widths z := by rw [← Array.length_toList, h2.width]
  have hsize : (sizeOf e).run P w = .ok (widths z) w := by simp [sizeOf, typeInfo, hi, hsz]
  let zc : Array Value := if n * widths z = 0 then #[] else zv.cells
  let cells : Array Value := (Array.range (n * widths z)).map (zc[· % zc.size]!)
  have hcs : cells.size = (List.replicate n z).length * widths z := by simp [cells]
  have hseg : ∀ k (h : k < (List.replicate n z).length), RepL P im w noLoc (seg cells.toList (widths z) k) (List.replicate n z)[k] := by
    intro k hk
    simp at hk
    have hzc : zc = zv.cells := by
      have : n * widths z ≠ 0 := Nat.ne_of_gt (Nat.mul_pos (by omega) hs0)
      simp [zc, this]
    have hmul : (k + 1) * widths z ≤ n * widths z := Nat.mul_le_mul_right _ hk
    rw [Nat.add_mul] at hmul
    have : seg cells.toList (widths z) k = zv.cells.toList := by
      apply List.ext_getElem?
      intro j
      by_cases hj : j < widths z
      · have e1 : (k * widths z + j) % widths z = j := by rw [Nat.mul_comm, Nat.mul_add_mod, Nat.mod_eq_of_lt hj]
        have hj2 : k * widths z + j < n * widths z := by omega
        simp only [seg, List.getElem?_take, hj, if_true, List.getElem?_drop, cells, Array.toList_map, List.getElem?_map, hzc, hzs]
        rw [Array.getElem?_toList, Array.getElem?_range, if_pos hj2, Option.map_some, e1, Array.getElem?_toList]
        rw [getElem!_pos zv.cells j (by omega), Array.getElem?_eq_getElem (by omega)]
      · have e1 : (seg cells.toList (widths z) k).length ≤ j := by simp [seg]; omega
        rw [List.getElem?_eq_none e1, List.getElem?_eq_none (by simp; omega)]
    rw [this, List.getElem_replicate]
    exact h2
  obtain ⟨im1, cells', k1, k2, k3, k4, k5, k6, k7⟩ := elems_fill ps.toList qs im rows rows' cells (List.replicate n z) l' hW hcs hseg hf hp
  have hlen : l'.length = n := by rw [k5]; simp
  have hn24 : n ≤ 2 ^ 24 := Nat.le_trans (Nat.le_mul_of_pos_right _ hs0) hn
  have hcell : P.cellsOf e = widths z := by simp [Program.cellsOf, hi, hsz]
  have hk : ∀ b, im1 b → im1 b ∧ (w.alloc (.cells cells' e)).heap[b]? = w.heap[b]? := fun b hb => ⟨hb, heap_alloc_old w _ (k2.im b hb)⟩
  have hρ : ∀ id, ρ id ≠ .no → upd ρ rows'.length (.blk w.heap.size n) id = ρ id := fun id h => upd_other _ _ (fun e => h (k2.no id (by omega)))
  obtain ⟨a, b⟩ := push k2 cells' e n (.vec e l') rfl (.inr ⟨w.heap.size, n, upd_same _ _ _, fun h => by have := k2.im _ h; omega, cells', heap_alloc_new w _, by omega, by omega, by rw [k4, hcell]; simp [cells], fun i hi' => by
    rw [hcell]; exact (k7 i hi').mono hk (fun _ hn => absurd rfl hn)⟩)
  refine ⟨.slice (some ⟨w.heap.size, 0, none⟩) n n, _, im1, _, ?_, a, k3.trans b, .sref _ _ n n (upd_same _ _ _) (Nat.le_refl _)⟩
  have hm : (ps.map fun (i, x) => (i, c x)).toList = ps.toList.map fun p => (p.1, c p.2) := by simp
  have k1' : Instr.fill (fun i => some (i * widths z, widths z)) cells (ps.map fun (i, x) => (i, c x)).toList = some cells' := by rw [hm]; exact k1
  unfold Instr.buildSlice
  simp only [Sem.run_bind, run_underlying ht, Result.andThen_ok, hsize]
  rw [if_neg (by omega)]
  by_cases h0 : n * widths z = 0
  · rw [if_pos h0]
    have hzc : zc = #[] := by simp [zc, h0]
    have k1'' := k1'
    simp only [cells, hzc] at k1''
    simp only [Sem.run_bind, Sem.run_pure, Result.andThen_ok, k1'']
    simp [newRow, newObj]
    rfl
  · rw [if_neg h0]
    have hzc : zc = zv.cells := by simp [zc, h0]
    have k1'' := k1'
    simp only [cells, hzc] at k1''
    simp only [Sem.run_bind, Sem.run_pure, Result.andThen_ok, h1 w, k1'']
    simp [newRow, newObj]
    rfl
end
end Go.Sk
