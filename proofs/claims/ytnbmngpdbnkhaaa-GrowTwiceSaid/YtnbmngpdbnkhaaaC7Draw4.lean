/- A region whose order the machine draws does what its text's order does. Conditions: none (a library text). -/
import Derived.Test.YtnbmngpdbnkhaaaC7Draw3
set_option linter.unusedVariables false
set_option linter.unusedSimpArgs false
namespace Go.Sk
open Go.RowKit

theorem maskOf_bit {tab : List Nat} {i : Nat} : ∀ {es : List Nat}, (maskOf tab es).testBit i = true → ∃ e ∈ es, i = e ∨ (tab.getD e 0).testBit i = true
  | [], h => by simp [maskOf] at h
  | e :: es, h => by
    simp only [maskOf, Nat.testBit_or, Bool.or_eq_true] at h
    rcases h with (h | h) | h
    · rw [Nat.one_shiftLeft, Nat.testBit_two_pow] at h
      exact ⟨e, by simp, .inl (by simpa using h : e = i).symm⟩
    · exact ⟨e, by simp, .inr h⟩
    · obtain ⟨e', h1, h2⟩ := maskOf_bit h
      exact ⟨e', List.mem_cons_of_mem _ h1, h2⟩

theorem okEdges_spec {tab : List Nat} : ∀ {j0 : Nat} {os : List Oper}, okEdges tab j0 os = true → ∀ (j : Nat) (o : Oper), os[j]? = some o → (∀ e ∈ binding o, e < j0 + j) ∧ tab.getD (j0 + j) 0 = maskOf tab (binding o)
  | j0, [], h, j, o, hj => by simp at hj
  | j0, o' :: os, h, j, o, hj => by
    simp only [okEdges, Bool.and_eq_true, List.all_eq_true, decide_eq_true_eq, beq_iff_eq] at h
    cases j with
    | zero => simp at hj; subst hj; exact h.1
    | succ j =>
      simp at hj
      have := okEdges_spec h.2 j o hj
      rw [show j0 + 1 + j = j0 + (j + 1) by omega] at this
      exact this

theorem okRow_spec {mask : Nat} {dj : DOp} : ∀ {i0 : Nat} {ds : List DOp}, okRow mask dj i0 ds = true → ∀ (i : Nat) (di : DOp), ds[i]? = some di → okPair mask (i0 + i) di dj = true ∧ nxOK di dj = true
  | i0, [], h, i, di, hi => by simp at hi
  | i0, d :: ds, h, i, di, hi => by
    simp only [okRow, Bool.and_eq_true] at h
    cases i with
    | zero => simp at hi; subst hi; exact h.1
    | succ i =>
      simp at hi
      have := okRow_spec h.2 i di hi
      rw [show i0 + 1 + i = i0 + (i + 1) by omega] at this
      exact this

theorem okRows_spec {tab : List Nat} {all : List DOp} : ∀ {j0 : Nat} {ds : List DOp}, okRows tab all j0 ds = true → ∀ (j : Nat) (dj : DOp), ds[j]? = some dj → okRow (tab.getD (j0 + j) 0) dj 0 (all.take (j0 + j)) = true
  | j0, [], h, j, dj, hj => by simp at hj
  | j0, d :: ds, h, j, dj, hj => by
    simp only [okRows, Bool.and_eq_true] at h
    cases j with
    | zero => simp at hj; subst hj; exact h.1
    | succ j =>
      simp at hj
      have := okRows_spec h.2 j dj hj
      rw [show j0 + 1 + j = j0 + (j + 1) by omega] at this
      exact this

section
variable {P : Program} {N : Nat} {w0 : World} {im0 : Nat → Prop} {ρ0 : Nat → Loc} {rows0 : List Row} {b m : Nat} {ops : Array Oper} {tab : List Nat} {ds : List DOp}

/-- Where a region stands. -/
def Rel (P : Program) (N : Nat) (w0 : World) (im0 : Nat → Prop) (ρ0 : Nat → Loc) (rows0 : List Row) (b m : Nat) (ds : List DOp) (un : List Nat) (F : Nat → AV) (R : List Row) (a : Act) (w : World) : Prop :=
  ∃ env im ρ, look env = F ∧ St P N w0 im0 ρ0 rows0 env R a w im ρ ∧ b + m ≤ R.length ∧ ∀ i ∈ un, ∀ d, ds[i]? = some d → d.kd = .a → ρ (b + d.nx) = .no

theorem wpOp_plain {op : MOp} {env : Env} {rows : List Row} {K : AV → List Row → Prop} (hm : op.isCall = false) (h : ∃ v rows', stepOp (Opd.get env) rows op = some (v, rows') ∧ K v rows') : wpOp P op env rows K := by
  cases op <;> first | exact h | cases hm | (obtain ⟨v, r, h, _⟩ := h; simp [stepOp] at h)

theorem kd_plain {d : DOp} (h : d.kd ≠ .c) : d.o.op.isCall = false := by
  unfold DOp.kd at h
  unfold MOp.isCall
  split
  · rename_i e; rw [e] at h; exact absurd rfl h
  · rename_i e; rw [e] at h; exact absurd rfl h
  · rfl

theorem newAt_ids {n p : Nat} {u u' v : AV} (h1 : newAt n u = some u') (h2 : newAt p u = some v) : v = renV (fun id => if id = n then p else id) u' ∧ ∀ id ∈ idsV u', id = n := by
  unfold newAt at h1 h2
  split at h1
  · cases h1; cases h2; simp [renV, idsV]
  · cases h1; cases h2; simp [renV, idsV]
  · cases h1; cases h2; simp [renV, idsV]
  · cases h1

/-- One operation, in its place. -/
theorem stepD_ok {Q : Exit → Act → World → Prop} {next : Act → World → Prop} {j : Nat} {o : Oper} {d : DOp} (h0 : ∀ id, rows0.length ≤ id → ρ0 id = .no) (hb : rows0.length ≤ b)
    (ho : ops[j]? = some o) (ht : trOper P N ops o = some d.o) (hA : okA m d = true) {un : List Nat} (hd : ds[j]? = some d) (hun : j ∈ un)
    (hnx : d.kd = .a → ∀ i ∈ un, i ≠ j → ∀ d', ds[i]? = some d' → d'.kd = .a → d'.nx ≠ d.nx) (hm : ∀ i ∈ un, ∀ d', ds[i]? = some d' → d'.kd = .a → d'.nx < m)
    {G F F' : Nat → AV} {R R' : List Row} {a : Act} {w : World} (hR : Rel P N w0 im0 ρ0 rows0 b m ds un F R a w) (hs : StepD P b G d F R F' R')
    (hn : ∀ a' w', Rel P N w0 im0 ρ0 rows0 b m ds (un.filter (· != j)) F' R' a' w' → next a' w') : Go.wpOp P ops Q j next a w := by
  obtain ⟨env, im, ρ, rfl, h, hlen, hno⟩ := hR
  simp only [trOper, Option.bind_eq_some_iff, Option.map_eq_some_iff] at ht
  obtain ⟨dst, h1, mo, h2, g, h3, h4⟩ := ht
  obtain ⟨run, hg, hr⟩ := hs
  have e1 : d.o.dst = dst := by rw [← h4]
  have e2 : d.o.op = mo := by rw [← h4]
  have e3 : d.o.g = g := by rw [← h4]
  unfold Go.wpOp
  simp only [ho]
  have hw := wanted_of h3 h.env
  rw [e3] at hg
  have hwant : Region.wanted o (yielded ops a.tmps) = run := by
    cases g with
    | none => simp only [Wants] at hw; simp only [GuardF] at hg; rw [hw, hg]
    | some tb =>
      obtain ⟨t, c⟩ := tb
      rcases hg with ⟨x, k1, k2⟩ | ⟨k1, k2⟩
      · rw [hw.1 x k1, k2]
      · rw [hw.2 k1, k2]
  have later : ∀ {im' : Nat → Prop} {w' : World} {ρ' : Nat → Loc} {R'' : List Row}, Ext w im ρ R w' im' ρ' R'' → ∀ i ∈ un.filter (· != j), ∀ d', ds[i]? = some d' → d'.kd = .a → ρ' (b + d'.nx) = .no := fun {im' w' ρ' R''} hE i hi d' hd' ha => by
    simp only [List.mem_filter] at hi
    have := hm i hi.1 d' hd' ha
    rw [hE.rho _ (.inr (by omega))]
    exact hno i hi.1 d' hd' ha
  cases run with
  | false =>
    rw [hwant]
    obtain ⟨rfl, rfl⟩ := hr
    refine hn _ _ ⟨putE dst (.tup []) env, im, ρ, by rw [look_putE, e1], h.step h1 h.wf (Ext.refl _ _ _ _) (.tup [] [] .nil), hlen, later (Ext.refl _ _ _ _)⟩
  | true =>
    rw [hwant]
    obtain ⟨v, hout, rfl⟩ := hr
    refine .inl ?_
    rw [← get_look] at hout
    have plain : wpOp P mo env R (fun v' R'' => v' = v ∧ R'' = R') → o.wp P a w next Q := fun hK => by
      refine wpOp_ok h h1 h2 hK ?_
      rintro v' r w' im' ρ' rows' ⟨rfl, rfl⟩ k1 k2 k3
      exact hn _ _ ⟨putE dst r env, im', ρ', by rw [look_putE, e1], h.step h1 k1 k2 k3, Nat.le_trans hlen k2.len, later k2⟩
    unfold outG at hout
    cases hk : d.kd with
    | v =>
      rw [hk] at hout
      obtain ⟨rfl, r, hv⟩ := hout
      refine plain (wpOp_plain (by rw [← e2]; exact kd_plain (by rw [hk]; simp)) ⟨v, R', ?_, rfl, rfl⟩)
      rw [← e2]
      exact step_v hk hv R'
    | c =>
      rw [hk] at hout
      obtain ⟨f, args, new, he, rfl, _, hf⟩ := hout
      rw [e2] at he
      subst he
      exact plain (hf R rfl)
    | l =>
      rw [hk] at hout
      obtain ⟨rfl, hv, _⟩ := hout
      refine plain (wpOp_plain (by rw [← e2]; exact kd_plain (by rw [hk]; simp)) ⟨v, R', ?_, rfl, rfl⟩)
      rw [← e2]; exact hv
    | w =>
      rw [hk] at hout
      obtain ⟨hv, _⟩ := hout
      refine plain (wpOp_plain (by rw [← e2]; exact kd_plain (by rw [hk]; simp)) ⟨v, R', ?_, rfl, rfl⟩)
      rw [← e2]; exact hv
    | a =>
      rw [hk] at hout
      obtain ⟨u, r, a1, a2, a3, rfl⟩ := hout
      obtain ⟨u', b1, b2⟩ := step_a hk a1 R
      simp only [okA, hk, if_true, Bool.and_eq_true, decide_eq_true_eq, List.all_eq_true] at hA
      obtain ⟨⟨hA1, hA2⟩, hA3⟩ := hA
      have hids : ∀ q ∈ idsR r, ρ q ≠ .no := fun q hq => by
        obtain ⟨x, hx, hxq⟩ := step_a_ids hk a1 (fun t z e => by rw [e] at hA3; simpa [newOK] using hA3) hq
        cases x with
        | t n => exact (h.env n).ids q hxq
        | k c => have := hA2 _ hx; simp [kOK] at this; simp [Opd.get, this] at hxq
      have hp := hno j hun d hd hk
      refine wpOp_ok h h1 h2 (K := fun v' R'' => v' = u' ∧ R'' = R ++ [r]) (wpOp_plain (by rw [← e2]; exact kd_plain (by rw [hk]; simp)) ⟨u', R ++ [r], by rw [← e2]; exact b1, rfl, rfl⟩) ?_
      rintro v' rr w' im' ρ' rows' ⟨rfl, rfl⟩ k1 k2 k3
      obtain ⟨p1, p2, p3⟩ := place h.wf k1 k2 a3 hp hids
      obtain ⟨n1, n2⟩ := newAt_ids b2 a2
      have hplt : b + d.nx < R.length := (List.getElem?_eq_some_iff.1 a3).1
      have hval : RepV P im' w' (placed ρ' (b + d.nx) R.length) v' v := by
        rw [n1]
        refine k3.ren (fun id hid => ?_)
        rw [n2 id hid]
        simp [placed]
      have hbase := h.ext.trans k2
      have hE : Ext w0 im0 ρ0 rows0 w' im' (placed ρ' (b + d.nx) R.length) (R.set (b + d.nx) r) := by
        refine ⟨hbase.os, hbase.tape, hbase.output, hbase.size, hbase.block, hbase.imsub, hbase.imnew, fun id hid => ?_, ?_, fun c hc => hbase.own c (p3 c hc)⟩
        · have hlt : id < rows0.length := by
            rcases Nat.lt_or_ge id rows0.length with h' | h'
            · exact h'
            · exact hid.elim (fun hn => absurd (h0 id h') hn) (fun h => h)
          have := h.ext.len
          rw [← hbase.rho id hid]
          simp only [placed]
          rw [if_neg (by omega), if_neg (by omega)]
        · simp; exact h.ext.len
      have henv : EnvOK P im' w' (placed ρ' (b + d.nx) R.length) a env := fun t => (h.env t).mono (k2.keeps h.wf) p2
      have hst : St P N w0 im0 ρ0 rows0 (putE dst v env) (R.set (b + d.nx) r) (a.put o.dst v') w' im' (placed ρ' (b + d.nx) R.length) := by
        have base : St P N w0 im0 ρ0 rows0 env (R.set (b + d.nx) r) a w' im' (placed ρ' (b + d.nx) R.length) := ⟨p1, henv, hE, h.size, h.defers⟩
        exact base.step h1 p1 (Ext.refl _ _ _ _) hval
      refine hn _ _ ⟨putE dst v env, im', _, by rw [look_putE, e1], hst, by simpa using hlen, fun i hi d' hd' ha => ?_⟩
      simp only [List.mem_filter, bne_iff_ne] at hi
      have hne := hnx hk i hi.1 hi.2 d' hd' ha
      have hlt := hm i hi.1 d' hd' ha
      have := k2.rho (b + d'.nx) (.inr (by omega))
      simp only [placed]
      rw [if_neg (by omega), if_neg (by omega), this]
      exact hno i hi.1 d' hd' ha

def remL (n : Nat) (listed : Array Bool) : List Nat := (List.range n).filter fun i => !listed.getD i true

theorem remL_set {n j : Nat} {listed : Array Bool} (hs : listed.size = n) : remL n (listed.setIfInBounds j true) = (remL n listed).filter (· != j) := by
  unfold remL
  rw [List.filter_filter]
  apply List.filter_congr
  intro i hi
  simp only [List.mem_range] at hi
  by_cases e : j = i
  · subst e; simp [hs, hi]
  · rw [getD_set_ne true e]
    have : (i != j) = true := by simpa using fun h => e h.symm
    simp [this]

def Down (ops : Array Oper) (listed : Array Bool) : Prop := ∀ (j : Nat) (o : Oper), ops[j]? = some o → listed.getD j false = true → ∀ e ∈ binding o, listed.getD e false = true

theorem ancestors (he : okEdges tab 0 ops.toList = true) {listed : Array Bool} (hd : Down ops listed) : ∀ (j : Nat) (o : Oper), ops[j]? = some o → (∀ e ∈ binding o, listed.getD e false = true) → ∀ i, (tab.getD j 0).testBit i = true → listed.getD i false = true := by
  intro j
  induction j using Nat.strongRecOn with
  | _ j ih =>
    intro o ho hall i hi
    obtain ⟨k1, k2⟩ := okEdges_spec he j o (by rw [Array.getElem?_toList]; exact ho)
    simp only [Nat.zero_add] at k1 k2
    rw [k2] at hi
    obtain ⟨e, h1, h2⟩ := maskOf_bit hi
    have hle := hall e h1
    rcases h2 with rfl | h2
    · exact hle
    · have hlt := k1 e h1
      have hsz := (Array.getElem?_eq_some_iff.1 ho).1
      have hoe : ops[e]? = some ops[e] := Array.getElem?_eq_getElem (by omega)
      exact ih e hlt ops[e] hoe (hd e ops[e] hoe hle) i h2

theorem split_at {j : Nat} : ∀ {l : List Nat}, l.Pairwise (· < ·) → j ∈ l → ∃ pre post, l = pre ++ j :: post ∧ (∀ i ∈ pre, i < j) ∧ l.filter (· != j) = pre ++ post
  | [], _, h => by simp at h
  | x :: xs, hp, h => by
    rw [List.pairwise_cons] at hp
    rcases List.mem_cons.1 h with rfl | h
    · refine ⟨[], xs, rfl, by simp, ?_⟩
      simp only [List.filter_cons, bne_self_eq_false, Bool.false_eq_true, if_false, List.nil_append]
      rw [List.filter_eq_self]
      intro y hy
      have := hp.1 y hy
      simp; omega
    · obtain ⟨pre, post, h1, h2, h3⟩ := split_at hp.2 h
      have hlt := hp.1 j h
      refine ⟨x :: pre, post, by rw [h1]; rfl, fun i hi => ?_, ?_⟩
      · rcases List.mem_cons.1 hi with rfl | hi
        · exact hlt
        · exact h2 i hi
      · have : (x != j) = true := by simp; omega
        simp only [List.filter_cons, this, if_true, h3, List.cons_append]

theorem remL_sorted (n : Nat) (listed : Array Bool) : (remL n listed).Pairwise (· < ·) := List.Pairwise.filter _ List.pairwise_lt_range

theorem mem_remL {n i : Nat} {listed : Array Bool} (hs : listed.size = n) : i ∈ remL n listed ↔ i < n ∧ listed.getD i false = false := by
  unfold remL
  simp only [List.mem_filter, List.mem_range, Bool.not_eq_true']
  constructor
  · rintro ⟨h1, h2⟩
    refine ⟨h1, ?_⟩
    simpa [hs, h1] using h2
  · rintro ⟨h1, h2⟩
    refine ⟨h1, ?_⟩
    simpa [hs, h1] using h2

/-- Whatever the order. -/
theorem draw_any {Q : Exit → Act → World → Prop} (h0 : ∀ id, rows0.length ≤ id → ρ0 id = .no) (hb : rows0.length ≤ b) (hok : okD ops.toList tab m ds = true) (hlen : ds.length = ops.size)
    (htr : ∀ (j : Nat) (o : Oper) (d : DOp), ops[j]? = some o → ds[j]? = some d → trOper P N ops o = some d.o) {G FN : Nat → AV} {RN : List Row} (hQ : ∀ a w, Rel P N w0 im0 ρ0 rows0 b m ds [] FN RN a w → Q .normal a w) :
    ∀ (n : Nat) (listed : Array Bool) {F : Nat → AV} {R : List Row} {a : Act} {w : World}, (remL ops.size listed).length = n → listed.size = ops.size → Down ops listed → Chain P b G ds (remL ops.size listed) F R FN RN →
      Rel P N w0 im0 ρ0 rows0 b m ds (remL ops.size listed) F R a w → wpAny P .any ops Q n listed a w := by
  simp only [okD, Bool.and_eq_true, List.all_eq_true] at hok
  obtain ⟨⟨⟨hE, hA⟩, hP⟩, _⟩ := hok
  intro n
  induction n with
  | zero =>
    intro listed F R a w hn hs hd hc hR
    have hnil := List.eq_nil_of_length_eq_zero hn
    rw [hnil] at hc hR
    obtain ⟨rfl, rfl⟩ := hc
    refine ⟨?_, hQ a w hR⟩
    cases hq : Region.ready .any ops listed with
    | nil => rfl
    | cons j js =>
      have : j ∈ Region.ready .any ops listed := by rw [hq]; simp
      obtain ⟨h1, o, h2, _⟩ := mem_ready.1 this
      have hj : j ∈ remL ops.size listed := by
        unfold remL
        simp only [List.mem_filter, List.mem_range, Bool.not_eq_true']
        exact ⟨(Array.getElem?_eq_some_iff.1 h2).1, h1⟩
      rw [hnil] at hj; cases hj
  | succ n ih =>
    intro listed F R a w hn hs hd hc hR
    refine ⟨fun hnone => ?_, fun j hj => ?_⟩
    · exfalso
      cases hq : remL ops.size listed with
      | nil => rw [hq] at hn; simp at hn
      | cons i is =>
        have hi : i ∈ remL ops.size listed := by rw [hq]; simp
        obtain ⟨i1, i2⟩ := (mem_remL hs).1 hi
        have hsort := remL_sorted ops.size listed
        rw [hq, List.pairwise_cons] at hsort
        have ho : ops[i]? = some ops[i] := Array.getElem?_eq_getElem i1
        have hready : i ∈ Region.ready .any ops listed := by
          rw [mem_ready]
          refine ⟨by simpa [hs, i1] using i2, ops[i], ho, fun e he hbd => ?_⟩
          have hbe : e.on ∈ binding ops[i] := by
            unfold binding
            exact List.mem_map.2 ⟨e, List.mem_filter.2 ⟨Array.mem_def.1 he, hbd⟩, rfl⟩
          have hlt := (okEdges_spec hE i ops[i] (by rw [Array.getElem?_toList]; exact ho)).1 _ hbe
          simp only [Nat.zero_add] at hlt
          cases hl : listed.getD e.on false with
          | true => rfl
          | false =>
            have hmem : e.on ∈ remL ops.size listed := (mem_remL hs).2 ⟨by omega, hl⟩
            rw [hq] at hmem
            rcases List.mem_cons.1 hmem with h' | h'
            · omega
            · have := hsort.1 _ h'; omega
        rw [hnone] at hready; cases hready
    · obtain ⟨h1, o, h2, h3⟩ := mem_ready.1 hj
      have hjn := (Array.getElem?_eq_some_iff.1 h2).1
      have hjr : j ∈ remL ops.size listed := (mem_remL hs).2 ⟨hjn, by simpa [hs, hjn] using h1⟩
      obtain ⟨pre, post, e1, e2, e3⟩ := split_at (remL_sorted _ _) hjr
      have hdj : ds[j]? = some ds[j] := List.getElem?_eq_getElem (by omega)
      have hbind : ∀ e ∈ binding o, listed.getD e false = true := fun e he => by
        unfold binding at he
        obtain ⟨ed, he1, rfl⟩ := List.mem_map.1 he
        obtain ⟨he2, he3⟩ := List.mem_filter.1 he1
        exact h3 ed (Array.mem_def.2 he2) he3
      have hanc := ancestors hE hd j o h2 hbind
      have hrow := okRows_spec hP j ds[j] hdj
      simp only [Nat.zero_add] at hrow
      have hpair : ∀ i, i < j → ∀ di, ds[i]? = some di → okPair (tab.getD j 0) i di ds[j] = true ∧ nxOK di ds[j] = true := fun i hi di hdi => by
        have := okRow_spec hrow i di (by rw [List.getElem?_take]; simp [hi, hdi])
        simpa using this
      rw [e1] at hc
      obtain ⟨F1, R1, k1, k2⟩ := chain_swap hdj pre post (fun i hi di hdi => by
        obtain ⟨p1, _⟩ := hpair i (e2 i hi) di hdi
        have hir : i ∈ remL ops.size listed := by rw [e1]; simp [hi]
        simp only [okPair, Bool.or_eq_true, Bool.and_eq_true] at p1
        rcases p1 with p1 | p1
        · have := hanc i p1
          rw [((mem_remL hs).1 hir).2] at this; cases this
        · exact p1) hc
      have hnxj : ds[j].kd = .a → ∀ i ∈ remL ops.size listed, i ≠ j → ∀ d', ds[i]? = some d' → d'.kd = .a → d'.nx ≠ ds[j].nx := fun hka i hi hij d' hd' hka' => by
        have hin := ((mem_remL hs).1 hi).1
        rcases Nat.lt_or_ge i j with hlt | hge
        · have := (hpair i hlt d' hd').2
          simpa [nxOK, hka, hka'] using this
        · have hrow' := okRows_spec hP i d' hd'
          simp only [Nat.zero_add] at hrow'
          have := (okRow_spec hrow' j ds[j] (by rw [List.getElem?_take]; simp [show j < i by omega, hdj])).2
          simp [nxOK, hka, hka'] at this
          exact fun e => this e.symm
      refine stepD_ok h0 hb h2 (htr j o ds[j] h2 hdj) (hA _ (List.getElem_mem _)) hdj hjr hnxj (fun i hi d' hd' hka => ?_) hR k1 (fun a' w' hrel => ?_)
      · have := hA d' (List.mem_of_getElem? hd')
        simp only [okA, hka, if_true, Bool.and_eq_true, decide_eq_true_eq] at this
        exact this.1.1
      · have hrem : remL ops.size (listed.setIfInBounds j true) = pre ++ post := by rw [remL_set hs, e3]
        refine ih (listed.setIfInBounds j true) ?_ (by simpa using hs) ?_ (by rw [hrem]; exact k2) (by rw [remL_set hs]; exact hrel)
        · rw [hrem]; rw [e1] at hn; simp at hn ⊢; omega
        · intro i oi hoi hl e he
          by_cases hij : i = j
          · subst hij
            rw [h2] at hoi; cases hoi
            exact getD_set_true (hbind e he)
          · rw [getD_set_ne false (fun e => hij e.symm)] at hl
            exact getD_set_true (hd i oi hoi hl e he)
end
end Go.Sk
