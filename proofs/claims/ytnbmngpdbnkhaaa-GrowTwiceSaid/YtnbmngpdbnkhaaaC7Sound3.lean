/- What the machine's operations do with what reads as abstract values: appends, new rows. Conditions: none (a library text). -/
import Derived.Test.YtnbmngpdbnkhaaaC7Sound2
set_option linter.unusedVariables false
set_option linter.unusedSimpArgs false
namespace Go.Sk
open Go.RowKit

section
variable {P : Program} {im : Nat → Prop} {w w1 : World} {ρ : Nat → Loc} {rows rows1 : List Row}

/-- A row behind the others, in a block that is new, or was another row's. -/
theorem push_at (hW : WF P im w ρ rows) (hlen : rows1.length = rows.length) (hsub : ∀ (j : Nat) (r : Row), rows1[j]? = some r → r = .dead ∨ rows[j]? = some r)
    {row : Option Nat} (hg : w.grownBy w1 row) (hrow : ∀ b, row = some b → Own ρ rows b)
    (hfree : ∀ (j : Nat) (r : Row) b cap, rows1[j]? = some r → r.live = true → ρ j = .blk b cap → some b ≠ row)
    {loc : Loc} (hloc : ∀ g cap, loc = .blk g cap → row = some g ∨ w.heap.size ≤ g) (r : Row)
    (hr : (∀ b, im b → im b ∧ w1.heap[b]? = w.heap[b]?) → (∀ id, ρ id ≠ .no → upd ρ rows.length loc id = ρ id) → RowOK P im w1 (upd ρ rows.length loc) rows.length r) :
    WF P im w1 (upd ρ rows.length loc) (rows1 ++ [r]) ∧ Ext w im ρ rows w1 im (upd ρ rows.length loc) (rows1 ++ [r]) := by
  have hρ : ∀ id, ρ id ≠ .no → upd ρ rows.length loc id = ρ id := fun id h => upd_other _ _ (fun e => h (hW.no id (by omega)))
  have him : ∀ b, im b → some b ≠ row := fun b hb e => (hW.own_im (hrow b e.symm)).1 hb
  have hk : ∀ b, im b → im b ∧ w1.heap[b]? = w.heap[b]? := fun b hb => ⟨hb, hg.block b (hW.im b hb) (him b hb)⟩
  have hlive : ∀ (j : Nat) (q : Row), rows1[j]? = some q → q.live = true → rows[j]? = some q := fun j q hj hq => by
    rcases hsub j q hj with rfl | h
    · simp [Row.live] at hq
    · exact h
  have hcase : ∀ (id : Nat) (q : Row), (rows1 ++ [r])[id]? = some q → (id < rows.length ∧ rows1[id]? = some q) ∨ (id = rows.length ∧ q = r) := fun id q h => by
    by_cases hid : id < rows1.length
    · rw [List.getElem?_append_left hid] at h; exact .inl ⟨by omega, h⟩
    · have h' := (List.getElem?_eq_some_iff.1 h).1
      have : id = rows1.length := by simp at h'; omega
      subst this
      simp at h
      exact .inr ⟨hlen, h.symm⟩
  have hown : ∀ b, Own (upd ρ rows.length loc) (rows1 ++ [r]) b → Own ρ rows b ∨ w.heap.size ≤ b := by
    rintro b ⟨id, q, c, h1, h2, h3⟩
    rcases hcase id q h1 with ⟨a1, a2⟩ | ⟨rfl, rfl⟩
    · rw [upd_other _ _ (by omega)] at h3
      exact .inl ⟨id, q, c, hlive id q a2 h2, h2, h3⟩
    · rw [upd_same] at h3
      rcases hloc b c h3 with h4 | h4
      · exact .inl (hrow b h4)
      · exact .inr h4
  refine ⟨⟨fun id q h => ?_, fun id id' q q' b c c' h1 h2 l1 l2 e1 e2 => ?_, fun id h => ?_, fun b hb => Nat.lt_of_lt_of_le (hW.im b hb) hg.size⟩,
    ⟨hg.os, hg.tape, hg.output, hg.size, fun b hb ho => hg.block b hb (fun e => ho (hrow b e.symm)), fun _ h => h, fun _ h => .inl h, fun id h => h.elim (hρ id) (fun h => upd_other _ _ (by omega)), by simp [hlen], hown⟩⟩
  · rcases hcase id q h with ⟨a1, a2⟩ | ⟨rfl, rfl⟩
    · rcases hsub id q a2 with rfl | h'
      · trivial
      · exact RowOK.mono hk hρ (fun g c hl' hg' => ⟨hg.block g (hW.own_im ⟨id, q, c, h', hl', hg'⟩).2 (hfree id q g c a2 hl' hg'), fun x => x⟩) (hW.row id q h')
    · exact hr hk hρ
  · have fresh : ∀ (j : Nat) (x : Row) (c1 c2 : Nat), rows1[j]? = some x → x.live = true → ρ j = .blk b c1 → loc = .blk b c2 → False := fun j x c1 c2 hj hx hb hlc => by
      rcases hloc b c2 hlc with h4 | h4
      · exact hfree j x b c1 hj hx hb h4.symm
      · have := (hW.own_im ⟨j, x, c1, hlive j x hj hx, hx, hb⟩).2; omega
    rcases hcase id q h1 with ⟨a1, a2⟩ | ⟨rfl, rfl⟩ <;> rcases hcase id' q' h2 with ⟨b1, b2⟩ | ⟨rfl, rfl⟩
    · rw [upd_other _ _ (by omega)] at e1 e2
      exact hW.inj id id' q q' b c c' (hlive id q a2 l1) (hlive id' q' b2 l2) l1 l2 e1 e2
    · rw [upd_other _ _ (by omega)] at e1
      rw [upd_same] at e2
      exact (fresh id q c c' a2 l1 e1 e2).elim
    · rw [upd_other _ _ (by omega)] at e2
      rw [upd_same] at e1
      exact (fresh id' q' c' c b2 l2 e2 e1).elim
    · rfl
  · simp [hlen] at h
    rw [upd_other _ _ (by omega)]
    exact hW.no id (by omega)

/-- Rows of cells, one behind the other. -/
def flat (us : Nat → List Value) : Nat → List Value
  | 0 => []
  | n + 1 => flat us n ++ us n

theorem flat_length {us : Nat → List Value} {sz : Nat} : ∀ {n : Nat}, (∀ i, i < n → (us i).length = sz) → (flat us n).length = n * sz
  | 0, _ => by simp [flat]
  | n + 1, h => by simp [flat, flat_length (n := n) (fun i hi => h i (by omega)), h n (by omega), Nat.add_mul]

theorem flat_get {us : Nat → List Value} {sz : Nat} : ∀ {n : Nat}, (∀ i, i < n → (us i).length = sz) → ∀ {j : Nat} {u : Value}, (flat us n)[j]? = some u → ∃ i k, i < n ∧ j = i * sz + k ∧ (us i)[k]? = some u
  | 0, _, j, u, hj => by simp [flat] at hj
  | n + 1, h, j, u, hj => by
    have hl := flat_length (n := n) (fun i hi => h i (by omega))
    rw [flat] at hj
    by_cases hlt : j < (flat us n).length
    · rw [List.getElem?_append_left hlt] at hj
      obtain ⟨i, k, a, b, c⟩ := flat_get (n := n) (fun i hi => h i (by omega)) hj
      exact ⟨i, k, by omega, b, c⟩
    · rw [List.getElem?_append_right (by omega), hl] at hj
      exact ⟨n, j - n * sz, by omega, by omega, hj⟩

theorem flat_seg {us : Nat → List Value} {sz : Nat} : ∀ {n : Nat}, (∀ i, i < n → (us i).length = sz) → ∀ {i : Nat}, i < n → seg (flat us n) sz i = us i
  | 0, _, i, hi => by omega
  | n + 1, h, i, hi => by
    have hl := flat_length (n := n) (fun i hi => h i (by omega))
    have hmul : ∀ a b : Nat, a + 1 ≤ b → a * sz + sz ≤ b * sz := fun a b hab => by
      have := Nat.mul_le_mul_right sz hab; rw [Nat.add_mul] at this; omega
    unfold seg
    rw [flat]
    by_cases hin : i < n
    · have hm := hmul i n hin
      rw [List.drop_append_of_le_length (by omega), List.take_append_of_le_length (by simp; omega)]
      have := flat_seg (n := n) (fun i hi => h i (by omega)) hin
      unfold seg at this
      exact this
    · have : i = n := by omega
      subst this
      rw [← hl, List.drop_left, ← h i (by omega), List.take_length]

theorem elems_sound (hW : WF P im w ρ rows) {v : Value} {x : AV} {e : Nat} {ys : List (List AV)} (hv : RepV P im w ρ v x) (he : elems e rows x = some ys) :
    ∃ (A : Option Addr) (c : Nat) (us : Nat → List Value), v = .slice A ys.length c ∧ ys.length ≤ c ∧ (∀ i, i < ys.length → ∃ ad, A = some ad ∧ (us i).length = P.cellsOf e ∧ ∀ j u, (us i)[j]? = some u → w.cell? (ad.add (i * P.cellsOf e + j)) = some u) ∧
      ∀ i (h : i < ys.length), RepL P im w noLoc (us i) ys[i] := by
  have blk : ∀ {g cap n c : Nat} {l : List (List AV)}, InBlk P im w g cap e l → n ≤ l.length → n ≤ c →
      ∃ (A : Option Addr) (c' : Nat) (us : Nat → List Value), Value.slice (some ⟨g, 0, none⟩) n c = .slice A (l.take n).length c' ∧ (l.take n).length ≤ c' ∧ (∀ i, i < (l.take n).length → ∃ ad, A = some ad ∧ (us i).length = P.cellsOf e ∧ ∀ j u, (us i)[j]? = some u → w.cell? (ad.add (i * P.cellsOf e + j)) = some u) ∧
      ∀ i (h : i < (l.take n).length), RepL P im w noLoc (us i) (l.take n)[i] := by
    intro g cap n c l ⟨cur, h1, h2, h3, h4, h5⟩ hn hc
    have hl : (l.take n).length = n := by simp; omega
    refine ⟨some ⟨g, 0, none⟩, c, fun i => seg cur.toList (P.cellsOf e) i, by rw [hl], by omega, fun i hi => ⟨_, rfl, ?_, fun j u hu => ?_⟩, fun i hi => ?_⟩
    · have hmul : (i + 1) * P.cellsOf e ≤ cap * P.cellsOf e := Nat.mul_le_mul_right _ (by omega)
      rw [Nat.add_mul] at hmul
      simp [seg]; omega
    · obtain ⟨q, _⟩ := seg_get _ _ _ _ _ hu
      rw [addA, cell_of_row w g _ cur e (0, 0) h1]
      simpa using q
    · have : (l.take n)[i] = l[i]'(by omega) := by simp
      rw [this]; exact h5 i (by omega)
  have nil0 : ∀ {l : List (List AV)} {n : Nat}, l = [] → ∃ (A : Option Addr) (c : Nat) (us : Nat → List Value), Value.slice none 0 0 = .slice A (l.take n).length c ∧ (l.take n).length ≤ c ∧ (∀ i, i < (l.take n).length → ∃ ad, A = some ad ∧ (us i).length = P.cellsOf e ∧ ∀ j u, (us i)[j]? = some u → w.cell? (ad.add (i * P.cellsOf e + j)) = some u) ∧
      ∀ i (h : i < (l.take n).length), RepL P im w noLoc (us i) (l.take n)[i] := by
    rintro l n rfl
    exact ⟨none, 0, fun _ => [], by simp, by simp, by simp, by simp⟩
  cases hv with
  | nil => simp [elems] at he; subst he; exact ⟨none, 0, fun _ => [], rfl, by simp, by simp, by simp⟩
  | fz e' A cap l us hA hl hm ha hr =>
    simp only [elems] at he
    split at he
    · rename_i h; subst h; cases he
      refine ⟨A, cap, us, rfl, hl, fun i hi => ?_, hr⟩
      obtain ⟨ad, q1, _, q3, q4⟩ := ha i hi
      exact ⟨ad, q1, q3, q4⟩
    · cases he
  | sref id g cap n h hn =>
    simp only [elems] at he
    split at he
    · rename_i e' l hr
      split at he
      · rename_i hc; obtain ⟨rfl, hle⟩ := hc
        cases he
        rcases hW.row id _ hr with ⟨h1, _⟩ | ⟨g', cap', h1, _, h4⟩
        · rw [h] at h1; cases h1
        · rw [h] at h1; cases h1
          exact blk h4 hle hn
      · cases he
    · rename_i e' l hr
      split at he
      · rename_i hc; obtain ⟨rfl, hle⟩ := hc
        cases he
        rcases hW.row id _ hr with ⟨h1, _⟩ | ⟨g', cap', h1, _, h4⟩
        · rw [h] at h1; cases h1
        · rw [h] at h1; cases h1
          exact blk h4 hle hn
      · cases he
    · cases he
  | _ => simp [elems] at he

theorem own_of_nil (e sz : Nat) : w.ownsRow 0 e sz (.slice none 0 0) 0 [] := World.ownsRow_nil w 0 e sz

/-- An append to a row, or to nil. -/
theorem app_core (hW : WF P im w ρ rows) {vx vy : Value} {y : AV} {t ty e n lim : Nat} {i0 : TypeInfo} {z : Value} {inner : List Value} {l ys : List (List AV)}
    (ht : P.underlying t = some (.slice e)) (hi : P.info? e = some i0) (hz : i0.zero = some z) (hzs : z.cells.size = i0.size) (hs0 : 0 < i0.size) (hlim : lim * i0.bytes ≤ 140737488355328) (hlm : lim ≤ 9223372036854775807)
    (hown : w.ownsRow 0 e i0.size vx n inner) (hl : l.length = n) (hin : ∀ i (h : i < l.length), RepL P im w noLoc (seg inner i0.size i) l[i])
    (hvy : RepV P im w ρ vy y) (hy : elems e rows y = some ys) (hfit : n + ys.length ≤ lim)
    (hlen : rows1.length = rows.length) (hsub : ∀ (j : Nat) (r : Row), rows1[j]? = some r → r = .dead ∨ rows[j]? = some r)
    (hrow : ∀ b, vx.ownBlock = some b → Own ρ rows b)
    (hfree : ∀ (j : Nat) (r : Row) b cap, rows1[j]? = some r → r.live = true → ρ j = .blk b cap → some b ≠ vx.ownBlock) (hne : vx.ownBlock ≠ none ∨ ys ≠ []) :
    ∃ v' w' ρ', (Builtin.append_ #[t, t] ty #[vx, vy]).run P w = .ok v' w' ∧ WF P im w' ρ' (rows1 ++ [.vec e (l ++ ys)]) ∧ Ext w im ρ rows w' im ρ' (rows1 ++ [.vec e (l ++ ys)]) ∧
      RepV P im w' ρ' v' (.sref rows.length (n + ys.length)) := by
  have hsz : P.cellsOf e = i0.size := by simp [Program.cellsOf, hi]
  obtain ⟨A, c, us, rfl, hc, ha, hr⟩ := elems_sound hW hvy hy
  rw [hsz] at ha
  have hus : ∀ i, i < ys.length → (us i).length = i0.size := fun i hi' => by obtain ⟨_, _, q, _⟩ := ha i hi'; exact q
  have hinl : inner.length = n * i0.size := hown.1
  have hrun : ∃ v' w', (Builtin.append_ #[t, t] ty #[vx, .slice A ys.length c]).run P w = .ok v' w' ∧ w'.ownsRow 0 e i0.size v' (n + ys.length) (inner ++ flat us ys.length) ∧ w.grownBy w' vx.ownBlock ∧ (v'.ownBlock = vx.ownBlock ∨ v'.ownBlock = some w.heap.size) := by
    cases A with
    | none =>
      have h0 : ys.length = 0 := by
        rcases Nat.eq_zero_or_pos ys.length with h0 | h0
        · exact h0
        · obtain ⟨ad, h, _⟩ := ha 0 h0; cases h
      rw [h0]
      refine ⟨vx, w, ?_, by simpa [flat] using hown, World.grownBy.refl w _, .inl rfl⟩
      rcases hown.2 with ⟨rfl, hn⟩ | ⟨g, cap, cur, rfl, _, _, hnc, _⟩
      · subst hn
        simp [Builtin.append_, run_underlying ht, sizeOf, typeInfo, hi, Builtin.lenOf, Builtin.firstCells]
      · simp [Builtin.append_, run_underlying ht, sizeOf, typeInfo, hi, Builtin.lenOf, Builtin.firstCells, hnc, storeCells]
    | some ad =>
      have hb : (n + ys.length) * i0.bytes ≤ 140737488355328 := Nat.le_trans (Nat.mul_le_mul_right _ hfit) hlim
      obtain ⟨v1, w1, k1, k2, k3, _, k5⟩ := run_append_own_at (P := P) w 0 t ty e i0 z i0.size i0.bytes ht hi hz rfl rfl hzs hs0 vx n inner hown ad ys.length c (flat us ys.length) (flat_length hus) (fun j u hu => by
          obtain ⟨i, k, a1, a2, a3⟩ := flat_get hus hu
          obtain ⟨ad', b1, _, b3⟩ := ha i a1
          cases b1
          rw [a2]; exact b3 k u a3) (fun u hu => by
          obtain ⟨j, hj, rfl⟩ := List.getElem_of_mem hu
          obtain ⟨i, k, a1, a2, a3⟩ := flat_get hus (List.getElem?_eq_getElem hj)
          exact (hr i a1).one_cells _ (List.mem_of_getElem? a3)) (by simp only [maxLen]; omega) hb (Nat.zero_le _)
      exact ⟨v1, w1, k1, k2, k3, k5⟩
  obtain ⟨v', w', h1, h2, h3, h4⟩ := hrun
  have hll : (l ++ ys).length = n + ys.length := by simp [hl]
  rcases h2.2 with ⟨rfl, hn0⟩ | ⟨g, cap, cur, rfl, _, hg, hnc, hcm, hcs, htk⟩
  · exfalso
    rcases hne with hne | hne
    · rcases h4 with h4 | h4
      · exact hne (by rw [← h4]; rfl)
      · simp [Value.ownBlock] at h4
    · exact hne (List.eq_nil_of_length_eq_zero (by omega))
  · have hloc : ∀ g' cap', Loc.blk g cap = .blk g' cap' → vx.ownBlock = some g' ∨ w.heap.size ≤ g' := by
      rintro g' cap' h; cases h
      rcases h4 with h4 | h4
      · exact .inl (by rw [← h4]; rfl)
      · simp [Value.ownBlock] at h4; exact .inr (by omega)
    have hng : ¬ im g := fun him => by
      rcases hloc g cap rfl with h5 | h5
      · exact (hW.own_im (hrow g h5)).1 him
      · have := hW.im g him; omega
    obtain ⟨a, b⟩ := push_at hW hlen hsub h3 hrow hfree (loc := .blk g cap) hloc (.vec e (l ++ ys)) (fun hk hρ => .inr ⟨g, cap, upd_same _ _ _, hng, cur, hg, by omega, by simpa [maxLen] using hcm, by rw [hsz]; exact hcs, fun i hi' => by
      rw [hsz]
      have hmul : i * i0.size + i0.size ≤ (n + ys.length) * i0.size := by
        have := Nat.mul_le_mul_right i0.size (show i + 1 ≤ n + ys.length by omega)
        rw [Nat.add_mul] at this; omega
      have hseg : seg cur.toList i0.size i = seg (inner ++ flat us ys.length) i0.size i := by
        rw [← htk]
        unfold seg
        rw [List.drop_take, List.take_take, Nat.min_eq_left (by omega)]
      rw [hseg]
      by_cases hin' : i < l.length
      · have : seg (inner ++ flat us ys.length) i0.size i = seg inner i0.size i := by
          have hm2 : i * i0.size + i0.size ≤ n * i0.size := by
            have := Nat.mul_le_mul_right i0.size (show i + 1 ≤ n by omega)
            rw [Nat.add_mul] at this; omega
          unfold seg
          rw [List.drop_append_of_le_length (by omega), List.take_append_of_le_length (by simp; omega)]
        rw [this, List.getElem_append_left hin']
        exact (hin i hin').mono hk (fun _ hn => absurd rfl hn)
      · have hi2 : i - l.length < ys.length := by omega
        have : seg (inner ++ flat us ys.length) i0.size i = us (i - l.length) := by
          rw [← flat_seg hus hi2]
          have hm2 : n * i0.size ≤ i * i0.size := Nat.mul_le_mul_right _ (by omega)
          unfold seg
          rw [List.drop_append, List.drop_eq_nil_of_le (by omega), List.nil_append, hinl, hl, Nat.sub_mul]
        rw [this, List.getElem_append_right (by omega)]
        exact (hr _ hi2).mono hk (fun _ hn => absurd rfl hn)⟩)
    refine ⟨_, w', _, h1, a, b, .sref _ g cap _ (upd_same _ _ _) hnc⟩

theorem app_none {t ty e : Nat} {i0 : TypeInfo} (ht : P.underlying t = some (.slice e)) (hi : P.info? e = some i0) (A : Option Addr) (c : Nat) : (Builtin.append_ #[t, t] ty #[.slice none 0 0, .slice A 0 c]).run P w = .ok (.slice none 0 0) w := by
  cases A <;> simp [Builtin.append_, run_underlying ht, sizeOf, typeInfo, hi, Builtin.lenOf, Builtin.firstCells, loadCells, loadCellsFrom]

theorem WF.dead1 (h : WF P im w ρ rows) : WF P im w ρ (rows ++ [.dead]) := by
  have hcase : ∀ (id : Nat) (r : Row), (rows ++ [Row.dead])[id]? = some r → rows[id]? = some r ∨ r = .dead := fun id r hr => by
    rcases Nat.lt_or_ge id rows.length with h' | h'
    · rw [List.getElem?_append_left h'] at hr; exact .inl hr
    · rw [List.getElem?_append_right h'] at hr
      have := List.mem_of_getElem? hr
      exact .inr (by simpa using this)
  refine ⟨fun id r hr => ?_, fun id id' r r' b c c' h1 h2 l1 l2 e1 e2 => ?_, fun id hid => ?_, h.im⟩
  · rcases hcase id r hr with h' | rfl
    · exact h.row id r h'
    · trivial
  · rcases hcase id r h1 with h1 | rfl
    · rcases hcase id' r' h2 with h2 | rfl
      · exact h.inj id id' r r' b c c' h1 h2 l1 l2 e1 e2
      · simp [Row.live] at l2
    · simp [Row.live] at l1
  · simp at hid
    exact h.no id (by omega)
theorem Ext.dead1 (h : WF P im w ρ rows) : Ext w im ρ rows w im ρ (rows ++ [.dead]) := by
  refine ⟨rfl, rfl, rfl, Nat.le_refl _, fun _ _ _ => rfl, fun _ h => h, fun _ h => .inl h, fun _ _ => rfl, by simp, fun b hb => ?_⟩
  obtain ⟨id, r, c, h1, h2, h3⟩ := hb
  rcases Nat.lt_or_ge id rows.length with h' | h'
  · rw [List.getElem?_append_left h'] at h1; exact .inl ⟨id, r, c, h1, h2, h3⟩
  · rw [List.getElem?_append_right h'] at h1
    have := List.mem_of_getElem? h1
    simp at this; subst this; simp [Row.live] at h2

/-- The whole: 'append' of one slice's elements to another one. -/
theorem app_sound (hW : WF P im w ρ rows) {vx vy : Value} {x y r : AV} {t ty e lim : Nat} {i0 : TypeInfo} {z : Value} {ys : List (List AV)} {rows' : List Row}
    (ht : P.underlying t = some (.slice e)) (hi : P.info? e = some i0) (hz : i0.zero = some z) (hzs : z.cells.size = i0.size) (hs0 : 0 < i0.size) (hlim : lim * i0.bytes ≤ 140737488355328) (hlm : lim ≤ 9223372036854775807)
    (hvx : RepV P im w ρ vx x) (hvy : RepV P im w ρ vy y) (hy : elems e rows y = some ys)
    (hs : appR e lim rows x ys = some (r, rows')) :
    ∃ v' w' ρ', (Builtin.append_ #[t, t] ty #[vx, vy]).run P w = .ok v' w' ∧ WF P im w' ρ' rows' ∧ Ext w im ρ rows w' im ρ' rows' ∧ RepV P im w' ρ' v' r := by
  have hsz : P.cellsOf e = i0.size := by simp [Program.cellsOf, hi]
  have dead : ∀ {id : Nat} {e' : Nat} {l : List (List AV)}, rows[id]? = some (.vec e' l) → (∀ (j : Nat) (r : Row), (rows.set id .dead)[j]? = some r → r = .dead ∨ rows[j]? = some r) ∧ (∀ (j : Nat) (r : Row), (rows.set id .dead)[j]? = some r → r.live = true → j ≠ id ∧ rows[j]? = some r) := by
    intro id e' l hr
    have hlt := (List.getElem?_eq_some_iff.1 hr).1
    refine ⟨fun j q hj => ?_, fun j q hj hq => ?_⟩
    · by_cases e : id = j
      · subst e; rw [List.getElem?_set_self hlt] at hj; exact .inl (Option.some.inj hj).symm
      · rw [List.getElem?_set_ne e] at hj; exact .inr hj
    · by_cases e : id = j
      · subst e; rw [List.getElem?_set_self hlt] at hj; cases hj; simp [Row.live] at hq
      · rw [List.getElem?_set_ne e] at hj; exact ⟨fun h => e h.symm, hj⟩
  cases hvx with
  | nil e0 =>
    simp only [appR] at hs
    split at hs
    · rename_i hfit
      split at hs
      · rename_i hemp
        cases hs
        have he : ys = [] := by simpa using hemp
        subst he
        obtain ⟨A, c, us, hvy', _, _, _⟩ := elems_sound hW hvy hy
        have h0 : ([] : List (List AV)).length = 0 := rfl
        rw [h0] at hvy'
        subst hvy'
        refine ⟨_, w, ρ, app_none ht hi A c, WF.dead1 hW, Ext.dead1 hW, .nil e⟩
      · rename_i hemp
        cases hs
        have := app_core (rows1 := rows) hW (ty := ty) (l := []) ht hi hz hzs hs0 hlim hlm (own_of_nil e i0.size) rfl (by simp) hvy hy (by omega) rfl (fun j r h => .inr h) (by simp [Value.ownBlock]) (by simp [Value.ownBlock]) (.inr (by simpa using hemp))
        simpa using this
    · cases hs
  | sref id g cap n h hn =>
    simp only [appR] at hs
    split at hs
    · rename_i e' l hr
      split at hs
      · rename_i hc; obtain ⟨rfl, h1, h2⟩ := hc
        cases hs
        obtain ⟨d1, d2⟩ := dead hr
        rcases hW.row id _ hr with ⟨q, _⟩ | ⟨g', cap', q, q2, cur, f1, f2, f3, f4, f5⟩
        · rw [h] at q; cases q
        · rw [h] at q; cases q
          rw [hsz] at f4 f5
          have hown : w.ownsRow 0 e i0.size (.slice (some ⟨g, 0, none⟩) n cap) n (cur.toList.take (n * i0.size)) := by
            refine ⟨?_, .inr ⟨g, cap, cur, rfl, Nat.zero_le _, f1, hn, by simpa [maxLen] using f3, f4, rfl⟩⟩
            have : n * i0.size ≤ cap * i0.size := Nat.mul_le_mul_right _ hn
            simp; omega
          refine app_core (rows1 := rows.set id .dead) hW (ty := ty) (l := l.take n) ht hi hz hzs hs0 hlim hlm hown (by simp; omega) (fun i hi' => ?_) hvy hy (by omega) (by simp) d1 (fun b hb => ?_) (fun j r b c hj hl hb hbb => ?_) (.inl (by simp [Value.ownBlock]))
          · have hin : i < n := by simp at hi'; omega
            have hm2 : i * i0.size + i0.size ≤ n * i0.size := by
              have := Nat.mul_le_mul_right i0.size (show i + 1 ≤ n by omega)
              rw [Nat.add_mul] at this; omega
            have hsg : seg (cur.toList.take (n * i0.size)) i0.size i = seg cur.toList i0.size i := by
              unfold seg
              rw [List.drop_take, List.take_take, Nat.min_eq_left (by omega)]
            have : (l.take n)[i] = l[i]'(by omega) := by simp
            rw [hsg, this]
            exact f5 i (by omega)
          · simp [Value.ownBlock] at hb; subst hb
            exact ⟨id, _, cap, hr, rfl, h⟩
          · simp [Value.ownBlock] at hbb; subst hbb
            obtain ⟨a1, a2⟩ := d2 j r hj hl
            exact a1 (hW.inj j id r _ _ c cap a2 hr hl rfl hb h)
      · cases hs
    · cases hs
  | _ => simp [appR] at hs
end
end Go.Sk
