/- What the machine's operations do with what reads as abstract values: stores, appends, new rows. Conditions: none (a library text). -/
import Derived.Test.YtnbmngpdbnkhaaaC7Sound
set_option linter.unusedVariables false
set_option linter.unusedSimpArgs false
namespace Go.Sk
open Go.RowKit

section
variable {P : Program} {im : Nat → Prop} {w : World} {ρ : Nat → Loc} {rows : List Row}

theorem putArr_sound {us : List Value} {l l' : List AV} {c j : Nat} {v : Value} {x : AV} (h : RepL P im w ρ us l) (hp : putArr l c j x = some l') (hx : x.one = true) (hv : RepV P im w ρ v x) :
    RepL P im w ρ (us.set (c + j) v) l' ∧ c + j < us.length := by
  induction l generalizing us c l' with
  | nil => cases c <;> simp [putArr] at hp
  | cons y ys ih =>
    cases c with
    | zero =>
      cases h with
      | cons u _ vs _ h1 _ _ => cases y <;> simp [putArr, AV.one] at hp h1
      | arr us' l vs _ o1 o2 o3 =>
        simp only [putArr] at hp
        split at hp
        · rename_i hj
          cases hp
          have hlen := o2.len_ones o1
          refine ⟨?_, by simp; omega⟩
          rw [Nat.zero_add, List.set_append_left _ _ (by omega)]
          refine .arr _ _ _ _ (fun z hz => ?_) (o2.set_ones o1 j hx hv) o3
          rcases List.mem_or_eq_of_mem_set hz with hz | rfl
          · exact o1 z hz
          · exact hx
        · cases hp
    | succ c =>
      have hp' : (if y.width ≤ c + 1 then (putArr ys (c + 1 - y.width) j x).map (y :: ·) else none) = some l' := by
        cases y <;> simpa [putArr] using hp
      split at hp'
      · rename_i hw
        obtain ⟨a, b, rfl, ha, hxa, hb⟩ := h.cons_inv
        rw [Option.map_eq_some_iff] at hp'
        obtain ⟨m, hm, rfl⟩ := hp'
        obtain ⟨h1, h2⟩ := ih hb hm
        refine ⟨?_, by simp; omega⟩
        rw [List.set_append_right _ _ (by omega)]
        have : c + 1 + j - a.length = c + 1 - y.width + j := by omega
        rw [this]
        exact hxa.cons_mk h1
      · cases hp'

theorem storeVar_row {t n : Nat} (hn : P.cellsOf t = n) (hinfo : (P.info? t).isSome) {g c : Nat} {cur : Array Value} {T : Nat} (hg : w.heap[g]? = some (.cells cur T (0, 0))) {u : Value} (hu : u.cells.size = n) (hc : c + n ≤ cur.size) (h1 : ∀ v ∈ u.cells.toList, v.oneCell' = true) :
    (Instr.storeAt t (.pointer (some ⟨g, c, none⟩)) u).run P w = .ok () (w.setRow g (cur.toList.take c ++ u.cells.toList ++ cur.toList.drop (c + n)).toArray) := by
  have hsz : (sizeOf t).run P w = .ok n w := by
    cases hi : P.info? t with
    | none => simp [hi] at hinfo
    | some i => simp [sizeOf, typeInfo, hi, ← hn, Program.cellsOf]
  have hst := run_storeCells_at P g c T u.cells.toList 0 cur w hg (by simpa [hu] using hc) h1
  simp only [Nat.add_zero, Array.length_toList, hu] at hst
  simp [Instr.storeAt, Instr.sureAddr, storeVar, hsz, hu, hst]

theorem seg_replace (us : List Value) (sz i c : Nat) (vs : List Value) (k : Nat) (h : c + vs.length ≤ sz) (hi : (i + 1) * sz ≤ us.length) :
    seg (us.take (i * sz + c) ++ vs ++ us.drop (i * sz + c + vs.length)) sz k = if k = i then (seg us sz i).take c ++ vs ++ (seg us sz i).drop (c + vs.length) else seg us sz k := by
  have hmul : (i + 1) * sz = i * sz + sz := by rw [Nat.add_mul]; omega
  have hlen : (us.take (i * sz + c)).length = i * sz + c := by rw [List.length_take]; omega
  apply List.ext_getElem?
  intro j
  unfold seg
  by_cases hj : j < sz
  · by_cases hk : k = i
    · subst hk
      simp only [if_true, List.getElem?_take, hj, List.getElem?_drop]
      by_cases h1 : j < c
      · rw [List.getElem?_append_left (by simp; omega), List.getElem?_append_left (by omega), List.getElem?_append_left (by simp; omega), List.getElem?_append_left (by simp; omega)]
        simp only [List.getElem?_take, List.getElem?_drop]
        rw [if_pos (by omega), if_pos h1, if_pos hj]
      · by_cases h2 : j < c + vs.length
        · rw [List.getElem?_append_left (by simp; omega), List.getElem?_append_right (by omega), List.getElem?_append_left (by simp; omega), List.getElem?_append_right (by simp; omega)]
          congr 1
          simp; omega
        · rw [List.getElem?_append_right (by simp; omega), List.getElem?_append_right (by simp; omega)]
          simp only [List.getElem?_drop, List.getElem?_take, List.length_append, List.length_take, List.length_drop]
          rw [if_pos (by omega)]
          congr 1
          omega
    · rw [if_neg hk]
      simp only [List.getElem?_take, hj, if_true, List.getElem?_drop]
      rcases Nat.lt_or_gt_of_ne hk with hlt | hgt
      · have : k * sz + sz ≤ i * sz := by
          have := Nat.mul_le_mul_right sz (show k + 1 ≤ i from hlt)
          rw [Nat.add_mul] at this; omega
        rw [List.getElem?_append_left (by simp; omega), List.getElem?_append_left (by omega), List.getElem?_take, if_pos (by omega)]
      · have : i * sz + sz ≤ k * sz := by
          have := Nat.mul_le_mul_right sz (show i + 1 ≤ k from hgt)
          rw [Nat.add_mul] at this; omega
        rw [List.getElem?_append_right (by simp; omega), List.getElem?_drop]
        congr 1
        simp; omega
  · split <;> simp [List.getElem?_take, hj]
    omega

theorem list_set_eq (us : List Value) (k : Nat) (v : Value) (h : k < us.length) : us.set k v = us.take k ++ [v] ++ us.drop (k + 1) := by
  rw [List.set_eq_take_append_cons_drop, if_pos h]; simp

/-- A store. -/
theorem store_sound (hW : WF P im w ρ rows) {v u : Value} {x y : AV} {l : List AV} {rows' : List Row} {t n : Nat} (hv : RepV P im w ρ v x) (hu : RepV P im w ρ u y) (hl : itemsOf y = some l) (hwd : widths l = n)
    (hn : P.cellsOf t = n) (hinfo : (P.info? t).isSome) (hs : storeAt rows x l = some rows') :
    ∃ w' im', (Instr.storeAt t v u).run P w = .ok () w' ∧ WF P im' w' ρ rows' ∧ Ext w im ρ rows w' im' ρ rows' ∧ rows'.length = rows.length := by
  have hi := items_sound hu hl
  have hsz : u.cells.size = n := by rw [← Array.length_toList, hi.width, hwd]
  have h1 := hi.one_cells
  cases hv with
  | ptr id g cap c h =>
    simp only [storeAt] at hs
    split at hs
    · rename_i T bv hr
      rw [Option.map_eq_some_iff] at hs
      obtain ⟨bv', hp, rfl⟩ := hs
      obtain ⟨g', cap', cur, e1, e2, e3, e4⟩ := hW.row id _ hr
      rw [h] at e1; cases e1
      obtain ⟨p1, p2⟩ := e4.putAt hi hp
      have hc : c + n ≤ cur.size := by rw [Array.length_toList] at p2; simpa [hsz] using p2
      obtain ⟨k1, k2⟩ := rewrite_row hW hr rfl h e2 (cur.toList.take c ++ u.cells.toList ++ cur.toList.drop (c + n)).toArray (r' := .box T bv') rfl (fun hk hg hng => ⟨g, cap, _, h, hg, hng, by
        have := p1.mono hk (fun _ _ => rfl)
        simpa [hsz] using this⟩)
      exact ⟨_, im, storeVar_row hn hinfo e2 hsz hc h1, k1, k2, by simp⟩
    · cases hs
  | ptrA id g cap c j h =>
    cases l with
    | nil => simp [storeAt] at hs
    | cons z zs =>
      cases zs with
      | cons _ _ => simp [storeAt] at hs
      | nil =>
        simp only [storeAt] at hs
        split at hs
        · rename_i T bv hr
          split at hs
          · rename_i hz
            rw [Option.map_eq_some_iff] at hs
            obtain ⟨bv', hp, rfl⟩ := hs
            obtain ⟨g', cap', cur, e1, e2, e3, e4⟩ := hW.row id _ hr
            rw [h] at e1; cases e1
            have hn1 : n = 1 := by simp [widths, width_one hz] at hwd; omega
            obtain ⟨q0, q1⟩ := hi.at_ones (by simpa using hz) 0 (by simp)
            obtain ⟨p1, p2⟩ := putArr_sound e4 hp hz q1
            have hul : u.cells.toList = [u.cells.toList[0]] := by
              apply List.ext_getElem
              · have := hi.len_ones (by simpa using hz); simpa using this
              · intro k h1 h2
                have : k = 0 := by simp at h2; omega
                subst this; rfl
            have hc : c + j + n ≤ cur.size := by rw [Array.length_toList] at p2; omega
            obtain ⟨k1, k2⟩ := rewrite_row hW hr rfl h e2 (cur.toList.take (c + j) ++ u.cells.toList ++ cur.toList.drop (c + j + n)).toArray (r' := .box T bv') rfl (fun hk hg hng => ⟨g, cap, _, h, hg, hng, by
              have := p1.mono hk (fun _ _ => rfl)
              rw [list_set_eq _ _ _ p2] at this
              rw [hn1, hul]
              simpa using this⟩)
            exact ⟨_, im, storeVar_row hn hinfo e2 hsz hc h1, k1, k2, by simp⟩
          · cases hs
        · cases hs
  | ptrE id g cap e i c h =>
    simp only [storeAt, Option.bind_eq_some_iff] at hs
    obtain ⟨⟨l', r1⟩, ht, hs⟩ := hs
    obtain ⟨im1, a1, a2, a3, a4⟩ := thawL_sound hW hi ht
    simp only at hs
    split at hs
    · rename_i e' ls hr
      split at hs
      · rename_i he; subst he
        rw [Option.bind_eq_some_iff] at hs
        obtain ⟨z, hz, hs⟩ := hs
        rw [Option.map_eq_some_iff] at hs
        obtain ⟨z', hp, rfl⟩ := hs
        have hρ : ρ id = .blk g cap := h
        rcases a1.row id _ hr with ⟨e1, _⟩ | ⟨g', cap', e1, e3, cur, e2, f1, f2, f3, f4⟩
        · rw [h] at e1; cases e1
        · rw [h] at e1; cases e1
          obtain ⟨hi', rfl⟩ := List.getElem?_eq_some_iff.1 hz
          obtain ⟨p1, p2⟩ := (f4 i hi').putAt a3 hp
          have hmul : (i + 1) * P.cellsOf e ≤ cap * P.cellsOf e := Nat.mul_le_mul_right _ (by omega)
          have hmul' : (i + 1) * P.cellsOf e = i * P.cellsOf e + P.cellsOf e := by rw [Nat.add_mul]; omega
          have hsl : (seg cur.toList (P.cellsOf e) i).length = P.cellsOf e := by simp [seg]; omega
          rw [hsl, Array.length_toList, hsz] at p2
          have hc : i * P.cellsOf e + c + n ≤ cur.size := by omega
          obtain ⟨k1, k2⟩ := rewrite_row a1 hr rfl h e2 (cur.toList.take (i * P.cellsOf e + c) ++ u.cells.toList ++ cur.toList.drop (i * P.cellsOf e + c + n)).toArray (r' := .vec e (ls.set i z')) rfl (fun hk hg hng => .inr ⟨g, cap, h, hng, _, hg, by simpa using f1, f2, by
            simp only [List.size_toArray, List.length_append, List.length_take, List.length_drop, Array.length_toList, hsz]; omega, fun k hkk => by
            have := seg_replace cur.toList (P.cellsOf e) i c u.cells.toList k (by rw [Array.length_toList]; omega) (by rw [Array.length_toList]; omega)
            rw [Array.length_toList, hsz] at this
            simp only [this]
            by_cases hki : k = i
            · subst hki
              simp only [if_true, List.getElem_set_self]
              have := p1.mono hk (ρ' := noLoc) (fun _ hn => absurd rfl hn)
              rwa [Array.length_toList, hsz] at this
            · rw [if_neg hki, List.getElem_set_ne (fun e => hki e.symm)]
              exact (f4 k (by simpa using hkk)).mono hk (fun _ hn => absurd rfl hn)⟩)
          exact ⟨_, im1, storeVar_row hn hinfo e2 hsz hc h1, k1, a2.trans k2, by simp [a4]⟩
      · cases hs
    · cases hs
  | _ => simp [storeAt] at hs
end
end Go.Sk
