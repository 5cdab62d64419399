/- A function that is given nothing that may be written: what it does is the same whatever else there is. Conditions: none (a library text). -/
import Derived.Test.YtnbmngpdbnkhaaaC7Ctl
set_option linter.unusedVariables false
set_option linter.unusedSimpArgs false
namespace Go.Sk
open Go.RowKit

/-! ### Values behind which nothing may be written -/
def fr1 (rows : List Row) (x : AV) : Option (AV × List Row) :=
  match x with
  | .arr l => if (idsL l).isEmpty then some (.arr l, rows) else none
  | x => thawV rows x

def frL (rows : List Row) : List AV → Option (List AV × List Row)
  | [] => some ([], rows)
  | x :: xs => (fr1 rows x).bind fun p => (frL p.2 xs).map fun q => (p.1 :: q.1, q.2)

def frV (rows : List Row) (x : AV) : Option (AV × List Row) :=
  match x with
  | .agg l => (frL rows l).map fun q => (.agg q.1, q.2)
  | x => thawV rows x

def frT (rows : List Row) : List AV → Option (List AV × List Row)
  | [] => some ([], rows)
  | x :: xs => (frV rows x).bind fun p => (frT p.2 xs).map fun q => (p.1 :: q.1, q.2)

/-- What a result comes to where nobody writes behind it. -/
def fr (rows : List Row) (x : AV) : Option (AV × List Row) :=
  match x with
  | .tup l => (frT rows l).map fun q => (.tup q.1, q.2)
  | x => frV rows x

section
variable {P : Program} {im : Nat → Prop} {w : World} {ρ : Nat → Loc} {rows rows' : List Row}

theorem RepL.noIds {us : List Value} {l : List AV} (h : RepL P im w ρ us l) (hi : idsL l = []) (ρ' : Nat → Loc) : RepL P im w ρ' us l := by
  have := h.ren (ρ' := ρ') (f := fun i => i) (fun id hid => by rw [hi] at hid; cases hid)
  rwa [renL_id] at this

theorem RepT.noIds {us : List Value} {l : List AV} (h : RepT P im w ρ us l) (hi : idsL l = []) (ρ' : Nat → Loc) : RepT P im w ρ' us l := by
  have := h.ren (ρ' := ρ') (f := fun i => i) (fun id hid => by rw [hi] at hid; cases hid)
  rwa [renL_id] at this

theorem frL_sound (hW : WF P im w ρ rows) {us : List Value} {l l' : List AV} (hv : RepL P im w ρ us l) (ht : frL rows l = some (l', rows')) :
    ∃ im', WF P im' w ρ rows' ∧ Ext w im ρ rows w im' ρ rows' ∧ RepL P im' w noLoc us l' := by
  induction l generalizing us l' rows im with
  | nil => simp [frL] at ht; obtain ⟨rfl, rfl⟩ := ht; cases hv; exact ⟨im, hW, Ext.refl _ _ _ _, .nil⟩
  | cons x xs ih =>
    simp only [frL, Option.bind_eq_some_iff, Option.map_eq_some_iff] at ht
    obtain ⟨⟨y, r1⟩, h1, ⟨ys, r2⟩, h2, h3⟩ := ht
    cases h3
    cases hv with
    | cons v _ vs _ o h hs =>
      have h1' : thawV rows x = some (y, r1) := by
        cases x <;> first | exact h1 | simp [AV.one] at o
      obtain ⟨im1, a1, a2, a3, a4, a5⟩ := thawV_sound hW h h1'
      obtain ⟨im2, b1, b2, b3⟩ := ih a1 (a2.repL hW hs) h2
      exact ⟨im2, b1, a2.trans b2, .cons _ _ _ _ a4 (a3.mono (b2.keeps a1) (fun _ hn => absurd rfl hn)) b3⟩
    | arr us' l0 vs _ o h hs =>
      simp only [fr1] at h1
      split at h1
      · rename_i hi
        cases h1
        obtain ⟨im2, b1, b2, b3⟩ := ih hW hs h2
        exact ⟨im2, b1, b2, .arr _ _ _ _ o ((b2.repL hW h).noIds (by simpa using hi) noLoc) b3⟩
      · cases h1

theorem frV_sound (hW : WF P im w ρ rows) {v : Value} {x y : AV} (hv : RepV P im w ρ v x) (ht : frV rows x = some (y, rows')) :
    ∃ im', WF P im' w ρ rows' ∧ Ext w im ρ rows w im' ρ rows' ∧ RepV P im' w noLoc v y := by
  cases hv with
  | agg vs l h =>
    simp only [frV, Option.map_eq_some_iff] at ht
    obtain ⟨⟨l', r⟩, h1, h2⟩ := ht
    cases h2
    obtain ⟨im', a, b, c⟩ := frL_sound hW h h1
    exact ⟨im', a, b, .agg _ _ c⟩
  | int k n => obtain ⟨im', a, b, c, _⟩ := thawV_sound hW (.int k n) ht; exact ⟨im', a, b, c⟩
  | bool b => obtain ⟨im', a, b, c, _⟩ := thawV_sound hW (.bool b) ht; exact ⟨im', a, b, c⟩
  | str b => obtain ⟨im', a, b, c, _⟩ := thawV_sound hW (.str b) ht; exact ⟨im', a, b, c⟩
  | flt b => obtain ⟨im', a, b, c, _⟩ := thawV_sound hW (.flt b) ht; exact ⟨im', a, b, c⟩
  | nil b => obtain ⟨im', a, b, c, _⟩ := thawV_sound hW (.nil b) ht; exact ⟨im', a, b, c⟩
  | fz e A cap l us h0 h1 h2 h3 h4 => obtain ⟨im', a, b, c, _⟩ := thawV_sound hW (.fz e A cap l us h0 h1 h2 h3 h4) ht; exact ⟨im', a, b, c⟩
  | sref id g cap n h hn => obtain ⟨im', a, b, c, _⟩ := thawV_sound hW (.sref id g cap n h hn) ht; exact ⟨im', a, b, c⟩
  | nilp => obtain ⟨im', a, b, c, _⟩ := thawV_sound hW .nilp ht; exact ⟨im', a, b, c⟩
  | ptr id g cap c h => simp [frV, thawV] at ht
  | ptrA id g cap c j h => simp [frV, thawV] at ht
  | ptrE id g cap e i c h => simp [frV, thawV] at ht
  | pz ad us items c h1 h2 h3 => simp [frV, thawV] at ht
  | tup vs l h => simp [frV, thawV] at ht
  | un v => simp [frV, thawV] at ht

theorem frT_sound (hW : WF P im w ρ rows) {us : List Value} {l l' : List AV} (hv : RepT P im w ρ us l) (ht : frT rows l = some (l', rows')) :
    ∃ im', WF P im' w ρ rows' ∧ Ext w im ρ rows w im' ρ rows' ∧ RepT P im' w noLoc us l' := by
  induction l generalizing us l' rows im with
  | nil => simp [frT] at ht; obtain ⟨rfl, rfl⟩ := ht; cases hv; exact ⟨im, hW, Ext.refl _ _ _ _, .nil⟩
  | cons x xs ih =>
    simp only [frT, Option.bind_eq_some_iff, Option.map_eq_some_iff] at ht
    obtain ⟨⟨y, r1⟩, h1, ⟨ys, r2⟩, h2, h3⟩ := ht
    cases h3
    cases hv with
    | cons v _ vs _ h hs =>
      obtain ⟨im1, a1, a2, a3⟩ := frV_sound hW h h1
      obtain ⟨im2, b1, b2, b3⟩ := ih a1 (a2.repT hW hs) h2
      exact ⟨im2, b1, a2.trans b2, .cons _ _ _ _ (a3.mono (b2.keeps a1) (fun _ hn => absurd rfl hn)) b3⟩

theorem fr_sound (hW : WF P im w ρ rows) {v : Value} {x y : AV} (hv : RepV P im w ρ v x) (ht : fr rows x = some (y, rows')) :
    ∃ im', WF P im' w ρ rows' ∧ Ext w im ρ rows w im' ρ rows' ∧ RepV P im' w noLoc v y := by
  cases hv with
  | tup vs l h =>
    simp only [fr, Option.map_eq_some_iff] at ht
    obtain ⟨⟨l', r⟩, h1, h2⟩ := ht
    cases h2
    obtain ⟨im', a, b, c⟩ := frT_sound hW h h1
    exact ⟨im', a, b, .tup _ _ c⟩
  | un v => simp [fr, frV, thawV] at ht
  | int k n => exact frV_sound hW (.int k n) ht
  | bool b => exact frV_sound hW (.bool b) ht
  | str b => exact frV_sound hW (.str b) ht
  | flt b => exact frV_sound hW (.flt b) ht
  | nil b => exact frV_sound hW (.nil b) ht
  | fz e A cap l us h0 h1 h2 h3 h4 => exact frV_sound hW (.fz e A cap l us h0 h1 h2 h3 h4) ht
  | sref id g cap n h hn => exact frV_sound hW (.sref id g cap n h hn) ht
  | nilp => exact frV_sound hW .nilp ht
  | ptr id g cap c h => exact frV_sound hW (.ptr id g cap c h) ht
  | ptrA id g cap c j h => exact frV_sound hW (.ptrA id g cap c j h) ht
  | ptrE id g cap e i c h => exact frV_sound hW (.ptrE id g cap e i c h) ht
  | pz ad us items c h1 h2 h3 => exact frV_sound hW (.pz ad us items c h1 h2 h3) ht
  | agg vs l h => exact frV_sound hW (.agg vs l h) ht

theorem wf_nil (h : ∀ b, im b → b < w.heap.size) : WF P im w noLoc [] :=
  ⟨fun id r hr => by simp at hr, fun id id' r r' b c c' h1 => by simp at h1, fun _ _ => rfl, h⟩

/-- A call that leaves the rows as they are, and whose value is one of some. -/
def FCallE (P : Program) (f : Nat) (args : List AV) (S : AV → Prop) : Prop := ∀ rows, CW P f args rows (fun r rs => S r ∧ rs = rows)

theorem FCallE.cw {f : Nat} {args : List AV} {S : AV → Prop} {rows : List Row} {K : AV → List Row → Prop} (h : FCallE P f args S) (hK : ∀ v, S v → K v rows) : CW P f args rows K :=
  (h rows).mono (by rintro r rs ⟨h, rfl⟩; exact hK r h)

/-- What is shown where there is nothing else holds whatever else there is. -/
theorem FCallE.of {f : Nat} {args : List AV} {S : AV → Prop} (hi : idsL args = []) (h : CW P f args [] fun r rs => ∃ v rs', fr rs r = some (v, rs') ∧ S v) : FCallE P f args S := by
  intro rows w im ρ vs hW hv
  refine (h w im noLoc vs (wf_nil hW.im) (hv.noIds hi noLoc)).mono ?_
  rintro e w' ⟨u, r, rs, im1, ρ1, rfl, ⟨v, rs', hf, hS⟩, h1, h2, h3⟩
  obtain ⟨im2, k1, k2, k3⟩ := fr_sound h2 h1 hf
  have hE := h3.trans k2
  have noOwn : ∀ b, ¬ Own (noLoc) ([] : List Row) b := by rintro b ⟨id, r, c, a, _⟩; simp at a
  have hblk : ∀ b, b < w.heap.size → w'.heap[b]? = w.heap[b]? := fun b hb => hE.block b hb (noOwn b)
  have hkeep : ∀ b, im b → im2 b ∧ w'.heap[b]? = w.heap[b]? := fun b hb => ⟨hE.imsub b hb, hblk b (hW.im b hb)⟩
  have hnew : ∀ b, im2 b → im b ∨ w.heap.size ≤ b := fun b hb => by
    rcases hE.imnew b hb with a | a | a
    · exact .inl a
    · exact absurd a (noOwn b)
    · exact .inr a
  refine ⟨u, v, rows, im2, ρ, rfl, ⟨hS, rfl⟩, k3.lift, ⟨fun id r hr => RowOK.mono hkeep (fun _ _ => rfl) (fun g c hl hg => ?_) (hW.row id r hr), hW.inj, hW.no, k1.im⟩, ⟨hE.os, hE.tape, hE.output, hE.size, fun b hb _ => hblk b hb, hE.imsub, fun b hb => (hnew b hb).imp id .inr, fun _ _ => rfl, Nat.le_refl _, fun b hb => .inl hb⟩⟩
  obtain ⟨a1, a2⟩ := hW.own_im ⟨id, r, c, hr, hl, hg⟩
  refine ⟨hblk g a2, fun _ hn => ?_⟩
  rcases hnew g hn with a | a
  · exact a1 a
  · omega

theorem FCall.of {f : Nat} {args : List AV} {v : AV} (hi : idsL args = []) (h : CW P f args [] fun r rs => ∃ rs', fr rs r = some (v, rs')) : FCall P f args v :=
  FCallE.of (S := fun r => r = v) hi (h.mono fun r rs ⟨rs', e⟩ => ⟨v, rs', e, rfl⟩)

/-- What is lent to a call may be taken as written by nobody any more. -/
theorem CW.freeze {f : Nat} {args as' : List AV} {rows rows' : List Row} {K : AV → List Row → Prop} (hf : frT rows args = some (as', rows')) (h : CW P f as' rows' K) : CW P f args rows K := by
  intro w im ρ vs hW hv
  obtain ⟨im', a1, a2, a3⟩ := frT_sound hW hv hf
  refine (h w im' ρ vs a1 (a3.mono (fun b hb => ⟨hb, rfl⟩) (fun _ hn => absurd rfl hn))).mono ?_
  rintro e w' ⟨v, r, rows2, im2, ρ2, rfl, hk, k1, k2, k3⟩
  exact ⟨v, r, rows2, im2, ρ2, rfl, hk, k1, k2, a2.trans k3⟩

theorem shift_get {rows rs : List Row} {id : Nat} {r : Row} (h : (rows ++ rs.map (renR (· + rows.length)))[id]? = some r) :
    (id < rows.length ∧ rows[id]? = some r) ∨ ∃ k r0, id = k + rows.length ∧ rs[k]? = some r0 ∧ r = renR (· + rows.length) r0 := by
  rcases Nat.lt_or_ge id rows.length with h' | h'
  · rw [List.getElem?_append_left h'] at h; exact .inl ⟨h', h⟩
  · rw [List.getElem?_append_right h', List.getElem?_map, Option.map_eq_some_iff] at h
    obtain ⟨r0, h1, h2⟩ := h
    exact .inr ⟨id - rows.length, r0, by omega, h1, h2.symm⟩

/-- What a call makes where there is nothing else it makes behind all else. -/
theorem FCallN.of {f : Nat} {args : List AV} {u : AV} {rs : List Row} (hi : idsL args = []) (h : CW P f args [] fun r q => r = u ∧ q = rs) (n : Nat) : FCallN P f args n (renV (· + n) u) (rs.map (renR (· + n))) := by
  rintro rows rfl w im ρ vs hW hv
  refine (h w im noLoc vs (wf_nil hW.im) (hv.noIds hi noLoc)).mono ?_
  rintro e w' ⟨v, r, q, im1, ρ1, rfl, ⟨rfl, rfl⟩, h1, h2, hE⟩
  have noOwn : ∀ b, ¬ Own (noLoc) ([] : List Row) b := by rintro b ⟨id, r, c, a, _⟩; simp at a
  have hblk : ∀ b, b < w.heap.size → w'.heap[b]? = w.heap[b]? := fun b hb => hE.block b hb (noOwn b)
  have hkeep : ∀ b, im b → im1 b ∧ w'.heap[b]? = w.heap[b]? := fun b hb => ⟨hE.imsub b hb, hblk b (hW.im b hb)⟩
  have hnew : ∀ b, im1 b → im b ∨ w.heap.size ≤ b := fun b hb => by
    rcases hE.imnew b hb with a | a | a
    · exact .inl a
    · exact absurd a (noOwn b)
    · exact .inr a
  have hown : ∀ b, Own ρ1 q b → w.heap.size ≤ b := fun b hb => (hE.own b hb).elim (fun a => absurd a (noOwn b)) id
  let ρ2 : Nat → Loc := fun id => if id < rows.length then ρ id else ρ1 (id - rows.length)
  have e1 : ∀ id, id < rows.length → ρ2 id = ρ id := fun id hid => if_pos hid
  have e2 : ∀ k, ρ2 (k + rows.length) = ρ1 k := fun k => by
    show (if k + rows.length < rows.length then _ else _) = _
    rw [if_neg (by omega), Nat.add_sub_cancel]
  have e3 : ∀ id, ρ id ≠ .no → ρ2 id = ρ id := fun id hid => by
    rcases Nat.lt_or_ge id rows.length with h' | h'
    · exact e1 id h'
    · exact absurd (hW.no id h') hid
  refine ⟨v, _, _, im1, ρ2, rfl, ⟨rfl, rfl⟩, h1.ren (fun id _ => e2 id), ⟨fun id r' hr => ?_, fun id id' r1 r2 b c c' g1 g2 l1 l2 p1 p2 => ?_, fun id hid => ?_, h2.im⟩,
    ⟨hE.os, hE.tape, hE.output, hE.size, fun b hb _ => hblk b hb, hE.imsub, fun b hb => (hnew b hb).imp id .inr, fun id hid => ?_, by simp, fun b hb => ?_⟩⟩
  · rcases shift_get hr with ⟨hlt, hr'⟩ | ⟨k, r0, rfl, hr', rfl⟩
    · refine RowOK.mono hkeep e3 (fun g c hl hg => ?_) (hW.row id r' hr')
      obtain ⟨a1, a2⟩ := hW.own_im ⟨id, r', c, hr', hl, hg⟩
      refine ⟨hblk g a2, fun _ hn => ?_⟩
      rcases hnew g hn with a | a
      · exact a1 a
      · omega
    · exact (h2.row k r0 hr').ren (e2 k) (fun j _ => e2 j)
  · rcases shift_get g1 with ⟨hlt, q1⟩ | ⟨k, r0, rfl, q1, rfl⟩
    · rcases shift_get g2 with ⟨hlt', q2⟩ | ⟨k', r0', rfl, q2, rfl⟩
      · rw [e1 id hlt] at p1; rw [e1 id' hlt'] at p2
        exact hW.inj id id' r1 r2 b c c' q1 q2 l1 l2 p1 p2
      · rw [renR_live] at l2
        rw [e1 id hlt] at p1; rw [e2] at p2
        have a := (hW.own_im ⟨id, r1, c, q1, l1, p1⟩).2
        have a' := hown b ⟨k', r0', c', q2, l2, p2⟩
        omega
    · rw [renR_live] at l1
      rw [e2] at p1
      rcases shift_get g2 with ⟨hlt', q2⟩ | ⟨k', r0', rfl, q2, rfl⟩
      · rw [e1 id' hlt'] at p2
        have a := (hW.own_im ⟨id', r2, c', q2, l2, p2⟩).2
        have a' := hown b ⟨k, r0, c, q1, l1, p1⟩
        omega
      · rw [renR_live] at l2
        rw [e2] at p2
        rw [h2.inj k k' r0 r0' b c c' q1 q2 l1 l2 p1 p2]
  · simp at hid
    show (if id < rows.length then _ else _) = _
    rw [if_neg (by omega)]
    exact h2.no _ (by omega)
  · rcases hid with hid | hid
    · exact e3 id hid
    · exact e1 id hid
  · obtain ⟨id, r', c, g1, l1, p1⟩ := hb
    rcases shift_get g1 with ⟨hlt, q1⟩ | ⟨k, r0, rfl, q1, rfl⟩
    · rw [e1 id hlt] at p1; exact .inl ⟨id, r', c, q1, l1, p1⟩
    · rw [renR_live] at l1
      rw [e2] at p1
      exact .inr (hown b ⟨k, r0, c, q1, l1, p1⟩)

/-! ### Functions -/
def trF (P : Program) (f : Nat) : Option MF := (P.funcs[f]?).bind fun fn => fn.body.bind fun c => (trC P fn.ntmps c).bind fun m => (trRes P fn.results.toList).map fun r => ⟨fn.ntmps, r, m⟩

theorem trF_ok {f : Nat} {mf : MF} {args : List AV} {rows : List Row} {Q : AV → List Row → Prop} (hmix : P.follows .mixedOrders = true) (ht : trF P f = some mf) (hn : args.length ≤ mf.ntmps) (hw : wpF P mf args rows Q) : CW P f args rows Q := by
  simp only [trF, Option.bind_eq_some_iff, Option.map_eq_some_iff] at ht
  obtain ⟨fn, h1, c, h2, m, h3, r, h4, rfl⟩ := ht
  exact wpF_ok hmix h1 h2 h3 h4 hn hw

/-- A function of values that nobody writes. -/
theorem fcall {f : Nat} {mf : MF} {args : List AV} {v : AV} (hmix : P.follows .mixedOrders = true) (ht : trF P f = some mf) (hn : args.length ≤ mf.ntmps) (hi : idsL args = [])
    (hw : wpF P mf args [] fun r rs => ∃ rs', fr rs r = some (v, rs')) : FCall P f args v :=
  FCall.of hi (trF_ok hmix ht hn hw)
theorem fcallE {f : Nat} {mf : MF} {args : List AV} {S : AV → Prop} (hmix : P.follows .mixedOrders = true) (ht : trF P f = some mf) (hn : args.length ≤ mf.ntmps) (hi : idsL args = [])
    (hw : wpF P mf args [] fun r rs => ∃ v rs', fr rs r = some (v, rs') ∧ S v) : FCallE P f args S :=
  FCallE.of hi (trF_ok hmix ht hn hw)
end
end Go.Sk
