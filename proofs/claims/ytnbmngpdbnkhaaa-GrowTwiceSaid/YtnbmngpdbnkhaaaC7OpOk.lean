/- Each operation of the machine does what the compact one says. Conditions: none (a library text). -/
import Derived.Test.YtnbmngpdbnkhaaaC7Tr
set_option linter.unusedVariables false
set_option linter.unusedSimpArgs false
namespace Go.Sk
open Go.RowKit

section
variable {P : Program} {im : Nat → Prop} {w w1 : World} {ρ : Nat → Loc} {rows rows1 : List Row}

theorem idx_some {i : AV} {n j : Nat} (h : idx i n = some j) : ∃ k z, i = .int k z ∧ 0 ≤ z ∧ z < n ∧ z.toNat = j ∧ j < n := by
  unfold idx at h
  split at h
  · split at h
    · rename_i k z hc
      cases h
      exact ⟨_, _, rfl, hc.1, hc.2, rfl, by omega⟩
    · cases h
  · cases h

theorem rep_int {v : Value} {k : IntKind} {z : Int} (h : RepV P im w ρ v (.int k z)) : v = .int k z := by cases h; rfl
theorem rep_bool {v : Value} {z : Bool} (h : RepV P im w ρ v (.bool z)) : v = .bool z := by cases h; rfl

theorem idxS_ok (hW : WF P im w ρ rows) {vx vi : Value} {x i r : AV} {t e : Nat} {inf : TypeInfo} (ht : P.underlying t = some (.slice e)) (hi : P.info? e = some inf)
    (hx : RepV P im w ρ vx x) (hvi : RepV P im w ρ vi i)
    (hs : idxSV e x i = some r) : ∃ v, (Instr.indexAt t vx vi).run P w = .ok v w ∧ RepV P im w ρ v r := by
  have hsz : P.cellsOf e = inf.size := by simp [Program.cellsOf, hi]
  have run : ∀ (ad : Addr) (n c : Nat) (k : IntKind) (z : Int), 0 ≤ z → z < n → (Instr.indexAt t (.slice (some ad) n c) (.int k z)).run P w = .ok (.pointer (some (ad.add (z.toNat * P.cellsOf e)))) w := by
    intro ad n c k z h0 h1
    simp [Instr.indexAt, asIntOf, run_underlying ht, h0, h1, sizeOf, typeInfo, hi, hsz]
  cases hx with
  | fz e' A cap l us hA hl hm ha hr =>
    simp only [idxSV] at hs
    split at hs
    · rename_i he; subst he
      simp only [Option.bind_eq_some_iff, Option.map_eq_some_iff] at hs
      obtain ⟨j, h1, y, h2, rfl⟩ := hs
      obtain ⟨k, z, rfl, h0, hlt, rfl, hj⟩ := idx_some h1
      cases rep_int hvi
      obtain ⟨ad, rfl, him, hu, hc⟩ := ha _ hj
      obtain ⟨hj', rfl⟩ := List.getElem?_eq_some_iff.1 h2
      refine ⟨_, run ad l.length cap k z h0 hlt, ?_⟩
      have := RepV.pz (P := P) (im := im) (w := w) (ρ := ρ) (ad.add (z.toNat * P.cellsOf e)) (us z.toNat) l[z.toNat] 0 (by
        have : (ad.add (z.toNat * P.cellsOf e)).block = ad.block := by unfold Addr.add; split <;> rfl
        rw [this]; exact him) (fun j u hj => by rw [addAA]; exact hc j u hj) (hr _ hj)
      rwa [add0] at this
    · cases hs
  | sref id g cap n h hn =>
    simp only [idxSV, Option.map_eq_some_iff] at hs
    obtain ⟨j, h1, h3⟩ := hs
    cases h3
    obtain ⟨k, z, rfl, h0, hlt, rfl, hj⟩ := idx_some h1
    cases rep_int hvi
    refine ⟨_, run _ n cap k z h0 hlt, ?_⟩
    rw [addA]
    have := RepV.ptrE (P := P) (im := im) (w := w) (ρ := ρ) id g cap e z.toNat 0 h
    simpa using this
  | _ => simp [idxSV] at hs

theorem idxP_ok {vx vi : Value} {x i r : AV} {t e n : Nat} {inf : TypeInfo} (ht : P.underlying t = some (.array n e)) (hi : P.info? e = some inf) (h1 : inf.size = 1)
    (hx : RepV P im w ρ vx x) (hvi : RepV P im w ρ vi i)
    (hs : idxPV n x i = some r) : ∃ v, (Instr.indexAt t vx vi).run P w = .ok v w ∧ RepV P im w ρ v r := by
  cases hx with
  | ptr id g cap c h =>
    simp only [idxPV, Option.map_eq_some_iff] at hs
    obtain ⟨j, h2, h3⟩ := hs
    cases h3
    obtain ⟨k, z, rfl, h0, hlt, rfl, hj⟩ := idx_some h2
    cases rep_int hvi
    refine ⟨.pointer (some ⟨g, c + z.toNat, none⟩), ?_, .ptrA id g cap c _ h⟩
    have := addA g c (z.toNat * 1)
    simp [Instr.indexAt, asIntOf, run_underlying ht, h0, hlt, sizeOf, typeInfo, hi, h1, Instr.sureAddr]
    simpa using this
  | _ => simp [idxPV] at hs

theorem idxV_ok {vx vi : Value} {x i r : AV} {t e n : Nat} {inf : TypeInfo} {d : TypeDesc} (ht : P.underlying t = some (.array n e)) (hi : P.info? e = some inf) (h1 : inf.size = 1) (hd : P.underlying e = some d) (ha : isAggD d = false)
    (hx : RepV P im w ρ vx x) (hvi : RepV P im w ρ vi i)
    (hs : idxVV n x i = some r) : ∃ v, (Instr.index t vx vi).run P w = .ok v w ∧ RepV P im w ρ v r := by
  unfold idxVV at hs
  split at hs
  · rename_i l'
    simp only [Option.bind_eq_some_iff] at hs
    obtain ⟨j, h2, h3⟩ := hs
    obtain ⟨k, z, rfl, h0, hlt, rfl, hj⟩ := idx_some h2
    cases rep_int hvi
    obtain ⟨hj', rfl⟩ := List.getElem?_eq_some_iff.1 h3
    cases hx with
    | agg vs _ h =>
      cases h with
      | cons v x vs xs q1 _ _ => simp [AV.one] at q1
      | arr us _ vs _ o1 o2 o3 =>
        cases o3
        obtain ⟨hu, hrep⟩ := o2.at_ones o1 _ hj'
        refine ⟨us[z.toNat], ?_, hrep⟩
        have hag : (isAgg e).run P w = .ok false w := by
          simp only [isAgg, Sem.run_bind, run_underlying hd, Result.andThen_ok]
          cases d <;> simp_all [isAggD]
        simp [Instr.index, asIntOf, run_underlying ht, h0, hlt, sizeOf, typeInfo, hi, h1, part, hag, hu]
  · cases hs

theorem bound_some {a : Act} {env : Env} (he : EnvOK P im w ρ a env) {d top n : Nat} {x : Option Operand} {y : Option Opd} (ht : trOpt P x = some y) (h : bound (Opd.get env) d top y = some n) :
    (x = none ∧ n = d) ∨ ∃ o k z, x = some o ∧ a.eval o = .int k z ∧ 0 ≤ z ∧ z ≤ top ∧ z.toNat = n := by
  cases x with
  | none => simp [trOpt] at ht; subst ht; simp [bound] at h; exact .inl ⟨rfl, h.symm⟩
  | some o =>
    simp only [trOpt, Option.map_eq_some_iff] at ht
    obtain ⟨q, h1, rfl⟩ := ht
    have := trOpd_sound he h1
    simp only [bound] at h
    split at h
    · rename_i k z hq
      split at h
      · rename_i hc
        cases h
        rw [hq] at this
        exact .inr ⟨o, k, z, rfl, rep_int this, hc.1, hc.2, rfl⟩
      · cases h
    · cases h

theorem slice_run {a : Act} {env : Env} (he : EnvOK P im w ρ a env) {t e len cap b h : Nat} {A : Option Addr} {lo hi : Option Operand} {lo' hi' : Option Opd} {inf : TypeInfo} (ht : P.underlying t = some (.slice e)) (hin : P.info? e = some inf) (hlc : len ≤ cap)
    (h1 : trOpt P lo = some lo') (h2 : trOpt P hi = some hi') (b1 : bound (Opd.get env) len len hi' = some h) (b2 : bound (Opd.get env) 0 h lo' = some b) :
    (Instr.sliceAt t (.slice A len cap) (lo.map a.eval) (hi.map a.eval) none).run P w = .ok (.slice (if cap = b then A else A.map (·.add (b * P.cellsOf e))) (h - b) (cap - b)) w ∧ h ≤ len ∧ b ≤ h := by
  have hsz : P.cellsOf e = inf.size := by simp [Program.cellsOf, hin]
  have k1 : h ≤ len := by rcases bound_some he h2 b1 with ⟨_, rfl⟩ | ⟨o, k, z, _, _, _, h4, rfl⟩ <;> omega
  have k2 : b ≤ h := by rcases bound_some he h1 b2 with ⟨_, rfl⟩ | ⟨o, k, z, _, _, _, h4, rfl⟩ <;> omega
  refine ⟨?_, k1, k2⟩
  have run : (Instr.sliceBounds true len cap (lo.map a.eval) (hi.map a.eval) none).run P w = .ok (b, h, cap) w := by
    rcases bound_some he h2 b1 with ⟨rfl, rfl⟩ | ⟨o, k, z, rfl, e1, e2, e3, rfl⟩ <;> rcases bound_some he h1 b2 with ⟨rfl, rfl⟩ | ⟨o', k', z', rfl, f1, f2, f3, rfl⟩
    · simp [Instr.sliceBounds]
    · simp [Instr.sliceBounds, Instr.sliceBound, asIntOf, f1, f2, f3]
    · have : z ≤ (cap : Int) := by omega
      simp [Instr.sliceBounds, Instr.sliceBound, asIntOf, e1, e2, this]
    · have : z ≤ (cap : Int) := by omega
      simp [Instr.sliceBounds, Instr.sliceBound, asIntOf, e1, e2, this, f1, f2, f3]
      intro hh; omega
  simp [Instr.sliceAt, Instr.slice, run_underlying ht, run, sizeOf, typeInfo, hin, hsz]

/-- A slice of a slice that stays as it is. -/
theorem fz_cut {A : Option Addr} {cap e b h : Nat} {l : List (List AV)} (hv : RepV P im w ρ (.slice A l.length cap) (.fz e l)) (hl : h ≤ l.length) (hb : b ≤ h) :
    RepV P im w ρ (.slice (if cap = b then A else A.map (·.add (b * P.cellsOf e))) (h - b) (cap - b)) (.fz e ((l.take h).drop b)) := by
  generalize hn : l.length = n at hv
  cases hv with
  | fz _ _ _ _ us hA hlc hm ha hr =>
    have hA' : (if cap = b then A else A.map (·.add (b * P.cellsOf e))).isSome = true := by split <;> simp [hA]
    have hlen : ((l.take h).drop b).length = h - b := by simp; omega
    have := RepV.fz (P := P) (im := im) (w := w) (ρ := ρ) e (if cap = b then A else A.map (·.add (b * P.cellsOf e))) (cap - b) ((l.take h).drop b) (fun i => us (b + i)) hA' (by omega) (by omega) (fun i hi => by
      obtain ⟨ad, rfl, h2, h3, h4⟩ := ha (b + i) (by omega)
      have hcb : cap ≠ b := by omega
      refine ⟨ad.add (b * P.cellsOf e), by simp [hcb], ?_, h3, fun j u hu => ?_⟩
      · have : (ad.add (b * P.cellsOf e)).block = ad.block := by unfold Addr.add; split <;> rfl
        rw [this]; exact h2
      · rw [addAA, ← Nat.add_assoc, ← Nat.add_mul]; exact h4 j u hu) (fun i hi => by
      have : ((l.take h).drop b)[i] = l[b + i]'(by omega) := by simp
      rw [this]; exact hr (b + i) (by omega))
    rwa [hlen] at this

theorem bits_run (op : BinOp) (k : IntKind) (a b : Int) (h : op = .and ∨ op = .or ∨ op = .xor ∨ op = .andNot) : (Op.intBits op k a b).run P w = .ok (.int k (Go.bits op k a b)) w := by
  rcases h with rfl | rfl | rfl | rfl <;> simp [Op.intBits, Go.bits]

theorem bin_ok {op : BinOp} {t : TypeId} {vx vy : Value} {x y r : AV} (hx : RepV P im w ρ vx x) (hy : RepV P im w ρ vy y) (h : binV op x y = some r) :
    ∃ v, (binOp op t vx vy).run P w = .ok v w ∧ RepV P im w ρ v r ∧ ∀ (e1 e2 : Operand), (eqGuard op t e1 e2 vx vy).run P w = .ok () w := by
  have guard : ∀ {vx vy : Value}, (∀ cs, vx ≠ .agg cs) → vx ≠ .nilIface → ∀ (e1 e2 : Operand), (eqGuard op t e1 e2 vx vy).run P w = .ok () w := by
    intro vx vy h1 h2 e1 e2
    unfold eqGuard
    cases op <;> simp <;> (cases vx <;> simp_all)
  cases hx with
  | int k a =>
    cases hy with
    | int k' b =>
      simp only [binV] at h
      split at h
      · split at h
        · cases h
        · cases h
          refine ⟨_, ?_, .int _ _, guard (by simp) (by simp)⟩
          simp [binOp, Op.shift, *]
      · split at h
        · cases h
        · cases h
          refine ⟨_, ?_, .int _ _, guard (by simp) (by simp)⟩
          simp [binOp, Op.shift, *]
      · split at h
        · rename_i hk; subst hk
          unfold intBin at h
          split at h <;> first
            | (cases h; refine ⟨_, ?_, .int _ _, guard (by simp) (by simp)⟩; simp [binOp, Op.intArith]; done)
            | (cases h; refine ⟨_, ?_, .int _ _, guard (by simp) (by simp)⟩; simp [binOp]; exact bits_run _ _ _ _ (by simp))
            | (cases h; refine ⟨_, ?_, .bool _, guard (by simp) (by simp)⟩; simp [binOp, Op.intCmp]; done)
            | (split at h
               · cases h
               · cases h; refine ⟨_, ?_, .int _ _, guard (by simp) (by simp)⟩; simp [binOp, Op.intDiv, *]; done)
            | cases h
        · cases h
    | _ => simp [binV] at h
  | str a =>
    cases hy with
    | str b =>
      simp only [binV] at h
      split at h
      · cases h; exact ⟨_, by simp [binOp, Op.stringOp], .bool _, guard (by simp) (by simp)⟩
      · cases h; exact ⟨_, by simp [binOp, Op.stringOp], .bool _, guard (by simp) (by simp)⟩
      · cases h
    | _ => simp [binV] at h
  | flt a =>
    cases hy with
    | flt b =>
      simp only [binV] at h
      split at h
      · cases h; exact ⟨_, by simp [binOp, Op.floatCmp, Op.floatEq], .bool _, guard (by simp) (by simp)⟩
      · cases h; exact ⟨_, by simp [binOp, Op.floatCmp, Op.floatEq, bne], .bool _, guard (by simp) (by simp)⟩
      · cases h
    | _ => simp [binV] at h
  | _ => simp [binV] at h

theorem places_ok {fs : Array Field} (h : fs.toList.all (fun f => (P.info? f.type).isSome) = true) :
    ∃ places : Array (Nat × Nat), (∀ w, (fs.mapM fun f => (do pure (f.offset, ← sizeOf f.type) : Sem (Nat × Nat))).run P w = .ok places w) ∧ ∀ (i : Nat) (f : Field), fs[i]? = some f → ∀ q, fieldSz P f = some q → places[i]? = some q := by
  have key : ∀ (l : List Field), l.all (fun f => (P.info? f.type).isSome) = true → ∃ ps : List (Nat × Nat), (∀ w, (l.mapM fun f => (do pure (f.offset, ← sizeOf f.type) : Sem (Nat × Nat))).run P w = .ok ps w) ∧ ∀ (i : Nat) (f : Field), l[i]? = some f → ∀ q, fieldSz P f = some q → ps[i]? = some q := by
    intro l
    induction l with
    | nil => intro _; exact ⟨[], fun w => by simp, by simp⟩
    | cons f fs ih =>
      intro h
      simp only [List.all_cons, Bool.and_eq_true] at h
      obtain ⟨ps, h1, h2⟩ := ih h.2
      obtain ⟨i, hi⟩ := Option.isSome_iff_exists.1 h.1
      refine ⟨(f.offset, i.size) :: ps, fun w => ?_, fun k g hk q hq => ?_⟩
      · have hsz : (sizeOf f.type).run P w = .ok i.size w := by simp [sizeOf, typeInfo, hi]
        simp only [List.mapM_cons, Sem.run_bind, hsz, Result.andThen_ok, Sem.run_pure, h1 w]
      · cases k with
        | zero => simp at hk; subst hk; simp [fieldSz, hi] at hq; subst hq; rfl
        | succ k => simpa using h2 k g (by simpa using hk) q hq
  obtain ⟨ps, h1, h2⟩ := key fs.toList h
  refine ⟨ps.toArray, fun w => ?_, fun i f hi q hq => by simpa using h2 i f (by simpa using hi) q hq⟩
  rw [Array.mapM_eq_mapM_toList, Sem.run_map, h1 w]
  rfl
end
end Go.Sk
