/- What a call makes, in rows of which some may be nothing; calls that only read what may be written. Conditions: none (a library text). -/
import Derived.Test.YtnbmngpdbnkhaaaC7Drv
set_option linter.unusedVariables false
set_option linter.unusedSimpArgs false
namespace Go.Sk
open Go.RowKit

/-- A slice with a row of its own, or nil. -/
def slS (e id : Nat) : Option (List (List AV)) → AV
  | none => .nil e
  | some l => .sref id l.length
def rwS (e : Nat) : Option (List (List AV)) → Row
  | none => .dead
  | some l => .vec e l

section
variable {e id : Nat} {o : Option (List (List AV))} {rows : List Row}
theorem slS_none : slS e id none = .nil e := rfl
theorem slS_some {l : List (List AV)} : slS e id (some l) = .sref id l.length := rfl
theorem rwS_none : rwS e none = .dead := rfl
theorem rwS_some {l : List (List AV)} : rwS e (some l) = .vec e l := rfl
theorem slS_width : (slS e id o).width = 1 := by cases o <;> rfl
theorem slS_one : (slS e id o).one = true := by cases o <;> rfl
theorem slS_items : itemsOf (slS e id o) = some [slS e id o] := by cases o <;> rfl
theorem slS_len : lenV (slS e id o) = some ((slL o).length : Int) := by cases o <;> rfl
theorem slS_ren (f : Nat → Nat) : renV f (slS e id o) = slS e (f id) o := by cases o <;> rfl
theorem slS_ids {i : Nat} (h : i ∈ idsV (slS e id o)) : i = id := by
  cases o
  · simp [slS, idsV] at h
  · simpa [slS, idsV] using h
theorem rwS_ids : idsR (rwS e o) = [] := by cases o <;> rfl
theorem rwS_ren (f : Nat → Nat) : renR f (rwS e o) = rwS e o := by cases o <;> rfl
/-- Read as what nobody writes. -/
theorem slS_thaw (h : rows[id]? = some (rwS e o)) : ∃ r, thawV rows (slS e id o) = some (slA e o, r) ∧ ∀ j, j ≠ id → r[j]? = rows[j]? := by
  cases o with
  | none => exact ⟨rows, rfl, fun _ _ => rfl⟩
  | some l =>
    simp only [rwS] at h
    refine ⟨rows.set id (.frz e l), by simp [slS, thawV, h, slA], fun j hj => List.getElem?_set_ne (Ne.symm hj)⟩
theorem slS_fr1 (h : rows[id]? = some (rwS e o)) : ∃ r, fr1 rows (slS e id o) = some (slA e o, r) ∧ ∀ j, j ≠ id → r[j]? = rows[j]? := by
  obtain ⟨r, h1, h2⟩ := slS_thaw h
  refine ⟨r, ?_, h2⟩
  rw [← h1]; cases o <;> rfl
end

/-- What leads nowhere. -/
def plainV : AV → Bool
  | .int .. | .bool _ | .str _ | .flt _ | .nil _ | .nilp => true
  | _ => false
section
variable {P : Program} {im im' : Nat → Prop} {w w' : World} {ρ ρ' : Nat → Loc} {rows rows' : List Row} {f : Nat} {args args' : List AV}

theorem plain_rep {v : Value} {x : AV} (h : RepV P im w ρ v x) (hp : plainV x = true) : RepV P im' w' ρ' v x := by
  cases h with
  | int k n => exact .int k n
  | bool b => exact .bool b
  | str s => exact .str s
  | flt b => exact .flt b
  | nil e => exact .nil e
  | nilp => exact .nilp
  | _ => simp [plainV] at hp

/-- A call that only reads what it is lent. -/
theorem CW.borrow {S : AV → Prop} (hf : frT rows args = some (args', rows')) (h : FCallE P f args' S) (hp : ∀ v, S v → plainV v = true) : CW P f args rows (fun r rs => S r ∧ rs = rows) := by
  intro w im ρ vs hW hv
  obtain ⟨im1, a1, a2, a3⟩ := frT_sound hW hv hf
  refine (h [] w im1 noLoc vs (wf_nil a1.im) a3).mono ?_
  rintro e w' ⟨v, r, rs, im2, ρ2, rfl, ⟨hS, rfl⟩, h1, h2, hE⟩
  have noOwn : ∀ b, ¬ Own (noLoc) ([] : List Row) b := by rintro b ⟨id, r, c, a, _⟩; simp at a
  have hblk : ∀ b, b < w.heap.size → w'.heap[b]? = w.heap[b]? := fun b hb => hE.block b hb (noOwn b)
  refine ⟨v, r, rows, im, ρ, rfl, ⟨hS, rfl⟩, plain_rep h1 (hp _ hS), ⟨fun id r hr => RowOK.mono (fun b hb => ⟨hb, hblk b (hW.im b hb)⟩) (fun _ _ => rfl) (fun g c hl hg => ?_) (hW.row id r hr), hW.inj, hW.no, fun b hb => Nat.lt_of_lt_of_le (hW.im b hb) hE.size⟩,
    ⟨hE.os, hE.tape, hE.output, hE.size, fun b hb _ => hblk b hb, fun _ h => h, fun b h => .inl h, fun _ _ => rfl, Nat.le_refl _, fun b hb => .inl hb⟩⟩
  exact ⟨hblk g (hW.own_im ⟨id, r, c, hr, hl, hg⟩).2, fun hn => hn⟩

theorem own_deads' {m b : Nat} (h : Own ρ rows b) : Own ρ (rows ++ List.replicate m .dead) b := by
  obtain ⟨id, r, c, h1, h2, h3⟩ := h
  exact ⟨id, r, c, by rw [List.getElem?_append_left (List.getElem?_eq_some_iff.1 h1).1]; exact h1, h2, h3⟩

/-- Rows that are nothing ahead of what a call makes. -/
theorem FCallN.pre {n : Nat} (m : Nat) {v : AV} {new : List Row} (h : FCallN P f args (n + m) v new) : FCallN P f args n v (List.replicate m .dead ++ new) := by
  rintro rows rfl w im ρ vs hW hv
  refine (h (rows ++ List.replicate m .dead) (by simp) w im ρ vs (hW.deads m) hv).mono ?_
  rintro e w' ⟨v, r, rs, im2, ρ2, rfl, ⟨rfl, rfl⟩, h1, h2, hE⟩
  refine ⟨v, _, _, im2, ρ2, rfl, ⟨rfl, List.append_assoc ..⟩, h1, h2, ⟨hE.os, hE.tape, hE.output, hE.size, fun b hb hn => hE.block b hb (fun ho => hn (own_deads ho)), hE.imsub, fun b hb => ?_, fun id hid => hE.rho id (hid.imp (fun h => h) (fun h => by simp only [List.length_append]; omega)), by have := hE.len; simp only [List.length_append] at this ⊢; omega, fun b hb => ?_⟩⟩
  · rcases hE.imnew b hb with a | a | a
    · exact .inl a
    · exact .inr (.inl (own_deads a))
    · exact .inr (.inr a)
  · exact (hE.own b hb).imp own_deads (fun h => h)

/-- Rows that are nothing behind what a call makes. -/
theorem FCallN.post {n : Nat} (m : Nat) {v : AV} {new : List Row} (h : FCallN P f args n v new) : FCallN P f args n v (new ++ List.replicate m .dead) := by
  rintro rows rfl w im ρ vs hW hv
  refine (h rows rfl w im ρ vs hW hv).mono ?_
  rintro e w' ⟨v, r, rs, im2, ρ2, rfl, ⟨rfl, rfl⟩, h1, h2, hE⟩
  refine ⟨v, _, _, im2, ρ2, rfl, ⟨rfl, List.append_assoc ..⟩, h1, h2.deads m, ⟨hE.os, hE.tape, hE.output, hE.size, hE.block, hE.imsub, hE.imnew, hE.rho, by have := hE.len; simp only [List.length_append] at this ⊢; omega, fun b hb => hE.own b (own_deads hb)⟩⟩

/-- What a call makes, as nobody writes it. -/
theorem FCallN.freeze {v v' : AV} {new r' : List Row} (h : FCallN P f args 0 v new) (hi : idsL args = []) (hf : fr new v = some (v', r')) : FCall P f args v' :=
  FCall.of hi ((h [] rfl).mono (by rintro r rs ⟨rfl, rfl⟩; exact ⟨_, by simpa using hf⟩))

/-- A result that leads to two rows. -/
theorem ret_two {res : List MRes} {Q : AV → List Row → Prop} {env : Env} {vs : List AV} (i j : Nat) {ri rj : Row} (h : resVs env rows res = some vs) (hi : rows[i]? = some ri) (hj : rows[j]? = some rj) (hij : i ≠ j) (ni : idsR ri = []) (nj : idsR rj = []) (hids : ∀ id ∈ idsV (resV vs), id = i ∨ id = j)
    (ki : renR (gcF [i, j]) ri = ri) (kj : renR (gcF [i, j]) rj = rj) (k : Q (renV (gcF [i, j]) (resV vs)) [ri, rj]) : RetW 0 res Q env rows := by
  refine ⟨vs, h, [i, j], ⟨Nat.zero_le _, fun i hi => absurd hi (Nat.not_lt_zero _), by simpa using hij, fun id hid => by simpa using hids id hid, fun id hid => ?_⟩, ?_⟩
  · simp only [List.mem_cons, List.not_mem_nil, or_false] at hid
    rcases hid with rfl | rfl
    · exact ⟨ri, hi, by rw [ni]; simp⟩
    · exact ⟨rj, hj, by rw [nj]; simp⟩
  · have e2 : gcRows [i, j] rows = [ri, rj] := by simp [gcRows, List.getD_eq_getElem?_getD, hi, hj, ki, kj]
    rw [e2]; exact k
/-- A result that leads to one row. -/
theorem ret_row {res : List MRes} {Q : AV → List Row → Prop} {env : Env} {vs : List AV} (i : Nat) {ri : Row} (h : resVs env rows res = some vs) (hi : rows[i]? = some ri) (ni : idsR ri = []) (hids : ∀ id ∈ idsV (resV vs), id = i) (ki : renR (gcF [i]) ri = ri) (k : Q (renV (gcF [i]) (resV vs)) [ri]) : RetW 0 res Q env rows := by
  refine ⟨vs, h, [i], ⟨Nat.zero_le _, fun i hi => absurd hi (Nat.not_lt_zero _), by simp, fun id hid => by simpa using hids id hid, fun id hid => ?_⟩, ?_⟩
  · simp only [List.mem_cons, List.not_mem_nil, or_false] at hid
    subst hid
    exact ⟨ri, hi, by rw [ni]; simp⟩
  · have e2 : gcRows [i] rows = [ri] := by simp [gcRows, List.getD_eq_getElem?_getD, hi, ki]
    rw [e2]; exact k
theorem gcF_1 {i : Nat} : gcF [i] i = 0 := by simp [gcF, List.idxOf_cons]
theorem gcF_l {i j : Nat} : gcF [i, j] i = 0 := by simp [gcF, List.idxOf_cons]
theorem gcF_r {i j : Nat} (h : i ≠ j) : gcF [i, j] j = 1 := by
  have : (i == j) = false := by simpa using h
  simp [gcF, List.idxOf_cons, this]
end

section
variable {P : Program} {env : Env} {rows rows' : List Row} {os : List MOper} {d f : Nat} {args : List Opd} {args' : List AV} {K : Env → List Row → Prop}
/-- A call that answers yes and only reads what it is lent. -/
theorem op_borrow (hf : frT rows (args.map (Opd.get env)) = some (args', rows')) (h : FCall P f args' (.bool true)) (k : Sk.wpOps P os ((d, .bool true) :: env) rows K) : Sk.wpOps P (⟨some d, .call f args, none⟩ :: os) env rows K :=
  (CW.borrow (S := fun r => r = .bool true) hf h (by rintro v rfl; rfl)).mono (by rintro r rs ⟨rfl, rfl⟩; exact k)
/-- A call that changes what it is lent. -/
theorem op_cwk {K' : AV → List Row → Prop} (h : CW P f (args.map (Opd.get env)) rows K') (k : ∀ v rs, K' v rs → Sk.wpOps P os ((d, v) :: env) rs K) : Sk.wpOps P (⟨some d, .call f args, none⟩ :: os) env rows K := h.mono k
end
end Go.Sk
