/- Each operation of the machine does what the compact one says: all of them. Conditions: none (a library text). -/
import Derived.Test.YtnbmngpdbnkhaaaC7OpOk
set_option linter.unusedVariables false
set_option linter.unusedSimpArgs false
namespace Go.Sk
open Go.RowKit

section
variable {P : Program} {im : Nat → Prop} {w w1 : World} {ρ : Nat → Loc} {rows rows1 : List Row}

theorem runs_v {s : Sem Value} {v : Value} {w' : World} (h : s.run P w = .ok v w') : (do Pure.pure (Next.value (← s)) : Sem Next).run P w = .ok (.value v) w' := by simp [h]

theorem eqB_run {t : TypeId} (hu : P.underlying t = some .bool) (p q : Bool) : (Op.equal t (.bool p) (.bool q)).run P w = .ok (p == q) w := by
  have : ∀ d, (Op.equalIn (d + 1) t (.bool p) (.bool q)).run P w = .ok (p == q) w := fun d => by simp [Op.equalIn, run_underlying hu]
  exact this 9999

theorem rep_agg {v : Value} {l : List AV} (h : RepV P im w ρ v (.agg l)) : ∃ us : List Value, v = .agg us.toArray ∧ RepL P im w ρ us l := by
  cases h with
  | agg vs l h => exact ⟨vs, rfl, h⟩

theorem eqFields_ints {d : Nat} {xs ys : Array Value} : ∀ (fs : List Field) (i : Nat) (p q : List AV) (us vs : List Value) (b : Bool), (fs.zipIdx i).all (fun p => p.1.name != "_" && p.1.offset == p.2 && (match P.underlying p.1.type with | some (.int _) => true | _ => false)) = true →
    RepL P im w ρ us p → RepL P im w ρ vs q → eqInts p q = some b → p.length = fs.length → (∀ j v, us[j]? = some v → xs[i + j]? = some v) → (∀ j v, vs[j]? = some v → ys[i + j]? = some v) → (Op.eqFields (d + 1) xs ys fs).run P w = .ok b w
  | [], i, p, q, us, vs, b, hf, h1, h2, hb, hl, k1, k2 => by
    simp at hl; subst hl
    cases q with
    | nil => simp [eqInts] at hb; subst hb; simp [Op.eqFields]
    | cons y ys => simp [eqInts] at hb
  | f :: fs, i, p, q, us, vs, b, hf, h1, h2, hb, hl, k1, k2 => by
    cases p with
    | nil => simp at hl
    | cons x p =>
      cases x with
      | int k n =>
        cases q with
        | nil => simp [eqInts] at hb
        | cons y q =>
          cases y with
          | int k' n' =>
            simp only [eqInts] at hb
            split at hb
            · rename_i hk
              subst hk
              simp only [Option.map_eq_some_iff] at hb
              obtain ⟨b', hb', rfl⟩ := hb
              simp only [List.zipIdx_cons, List.all_cons, Bool.and_eq_true, bne_iff_ne, beq_iff_eq] at hf
              obtain ⟨⟨⟨f1, f2⟩, f3⟩, f4⟩ := hf
              cases h1 with
              | cons v _ us _ o1 h1 hs1 =>
                cases h2 with
                | cons v' _ vs _ o2 h2 hs2 =>
                  cases h1; cases h2
                  have a1 := k1 0 _ rfl
                  have a2 := k2 0 _ rfl
                  rw [Nat.add_zero] at a1 a2
                  have hu : ∃ kk, P.underlying f.type = some (.int kk) := by
                    split at f3
                    · rename_i kk hkk; exact ⟨kk, hkk⟩
                    · cases f3
                  obtain ⟨kk, hkk⟩ := hu
                  have ih := eqFields_ints (d := d) (xs := xs) (ys := ys) fs (i + 1) p q us vs b' f4 hs1 hs2 hb' (by simpa using hl) (fun j v hj => by have := k1 (j + 1) v (by simpa using hj); rwa [show i + 1 + j = i + (j + 1) by omega]) (fun j v hj => by have := k2 (j + 1) v (by simpa using hj); rwa [show i + 1 + j = i + (j + 1) by omega])
                  have hp1 : (part f.type xs f.offset).run P w = .ok (.int k n) w := by simp [part, isAgg, run_underlying hkk, f2, a1]
                  have hp2 : (part f.type ys f.offset).run P w = .ok (.int k n') w := by simp [part, isAgg, run_underlying hkk, f2, a2]
                  simp only [Op.eqFields, ne_eq, f1, not_false_eq_true, if_true, Sem.run_bind, hp1, hp2, Result.andThen_ok, run_equalIn_int w d f.type k kk n n' hkk]
                  cases hnn : (n == n') with
                  | true => simp [ih]
                  | false => simp
              
            · cases hb
          | _ => simp [eqInts] at hb
      | _ => simp [eqInts] at hb

theorem eqStruct_run {t : TypeId} {fs : Array Field} {us vs : List Value} {p q : List AV} {b : Bool} (hu : P.underlying t = some (.struct fs)) (hi : intFields P fs = true) (hs : P.stoodInHeld t = false)
    (h1 : RepL P im w ρ us p) (h2 : RepL P im w ρ vs q) (hb : eqInts p q = some b) (hl : p.length = fs.size) : (Op.equal t (.agg us.toArray) (.agg vs.toArray)).run P w = .ok b w := by
  have hf : P.fieldsOf t = fs := by simp [Program.fieldsOf, hu]
  have := run_equalIn_struct (P := P) w 9999 t us.toArray vs.toArray (by rw [hf]; exact hu) hs
  show (Op.equalIn (9999 + 1) t _ _).run P w = _
  rw [this, hf]
  exact eqFields_ints (d := 9998) fs.toList 0 p q us vs b hi h1 h2 hb (by simpa using hl) (fun j v hj => by simpa using hj) (fun j v hj => by simpa using hj)

theorem arr1 {α : Type} {xs : Array α} {x : α} (h : xs.toList = [x]) : xs = #[x] := by cases xs; simp at h; simp [h]
theorem arr2 {α : Type} {xs : Array α} {x y : α} (h : xs.toList = [x, y]) : xs = #[x, y] := by cases xs; simp at h; simp [h]

theorem mm_run (k : IntKind) (mx : Bool) (p q : Int) (ats : Array TypeId) (ty : TypeId) :
    (if mx then Builtin.max_ ats ty #[.int k p, .int k q] else Builtin.min_ ats ty #[.int k p, .int k q]).run P w = .ok (.int k (if mx then (if p < q then q else p) else (if q < p then q else p))) w := by
  cases mx <;> simp [Builtin.max_, Builtin.min_, Builtin.max2, Builtin.min2]

theorem next_bits : Extern.allNextRows.lookup "math.Float64bits" = none := by kernel_rfl
theorem next_from : Extern.allNextRows.lookup "math.Float64frombits" = none := by kernel_rfl
theorem next_none : Extern.allNextRows.lookup "" = none := by kernel_rfl
theorem gen_bits : Extern.allGenericRows.lookup "math.Float64bits" = none := by kernel_rfl
theorem gen_from : Extern.allGenericRows.lookup "math.Float64frombits" = none := by kernel_rfl
theorem typed_bits : Extern.allTypedRows.lookup "math.Float64bits" = none := by kernel_rfl
theorem typed_from : Extern.allTypedRows.lookup "math.Float64frombits" = none := by kernel_rfl
theorem row_bits : Extern.allRows.lookup "math.Float64bits" = some Extern.MathFloatBits.float64bits := by kernel_rfl
theorem row_from : Extern.allRows.lookup "math.Float64frombits" = some Extern.MathFloatBits.float64frombits := by kernel_rfl

theorem fb_eq (b : Nat) : Extern.MathFloatBits.float64bits #[.float .f64 b] = pure (.int .u64 b) := rfl
theorem ff_eq (n : Int) : Extern.MathFloatBits.float64frombits #[.int .u64 n] = pure (.float .f64 n.toNat) := rfl

theorem bits_call {f : FuncId} {fn : Func} (hf : P.funcs[f]? = some fn) (hb : ¬ fn.body.isSome = true) (hn : fn.name = "math.Float64bits" ∧ fn.origin = "") (b : Nat) :
    (callFunc f #[.float .f64 b]).run P w = .ok (.value (.int .u64 b)) w := by
  have h1 : Extern.findNext fn = none := by simp [Extern.findNext, hn.1, hn.2, next_bits, next_none]
  have h2 : Extern.find fn = some Extern.MathFloatBits.float64bits := by simp [Extern.find, hn.1, gen_bits, typed_bits, row_bits]
  have hb' : fn.body = none := by simpa using hb
  simp [callFunc, hf, hn.1, hb', h1, h2, fb_eq]

theorem from_call {f : FuncId} {fn : Func} (hf : P.funcs[f]? = some fn) (hb : ¬ fn.body.isSome = true) (hn : fn.name = "math.Float64frombits" ∧ fn.origin = "") (n : Int) :
    (callFunc f #[.int .u64 n]).run P w = .ok (.value (.float .f64 n.toNat)) w := by
  have h1 : Extern.findNext fn = none := by simp [Extern.findNext, hn.1, hn.2, next_from, next_none]
  have h2 : Extern.find fn = some Extern.MathFloatBits.float64frombits := by simp [Extern.find, hn.1, gen_from, typed_from, row_from]
  have hb' : fn.body = none := by simpa using hb
  simp [callFunc, hf, hn.1, hb', h1, h2, ff_eq]

theorem call_sound (hW : WF P im w ρ rows) {a : Act} {env : Env} (he : EnvOK P im w ρ a env) {c : Call} {m : MOp} {r : AV} {rows' : List Row} {dst ty pos aft gd}
    (ht : trCall P c = some m) (hs : stepOp (Opd.get env) rows m = some (r, rows')) : Done P (execOp a.eval ⟨dst, .call c, ty, pos, aft, gd⟩) im w ρ rows r rows' := by
  obtain ⟨callee, args, argTypes⟩ := c
  cases callee with
  | invoke _ _ => simp [trCall] at ht
  | builtin b =>
    simp only [trCall] at ht
    unfold trBuiltin at ht
    split at ht
    · rename_i x t ea et
      cases arr1 ea; cases arr1 et
      split at ht
      · rename_i e hu
        rw [Option.map_eq_some_iff] at ht
        obtain ⟨y, h1, rfl⟩ := ht
        have hx := trOpd_sound he h1
        simp only [stepOp, Option.map_eq_some_iff, Prod.mk.injEq] at hs
        obtain ⟨n, h2, rfl, rfl⟩ := hs
        have key : ∃ A c, a.eval x = .slice A n.toNat c ∧ 0 ≤ n := by
          generalize a.eval x = vx at hx
          generalize y.get env = yy at hx h2
          cases hx <;> simp [lenV] at h2 <;> subst h2
          · exact ⟨_, _, rfl, by simp⟩
          · exact ⟨_, _, rfl, by simp⟩
          · exact ⟨_, _, rfl, by simp⟩
        obtain ⟨A, c, e1, e2⟩ := key
        refine ⟨w, im, ρ, .int .i64 n, .inl ?_, hW, Ext.refl _ _ _ _, .int _ _⟩
        simp [execOp, resolve, invoke, builtin, e1, Builtin.len_, run_underlying hu, goInt, e2]
        omega
      · rename_i hu
        rw [Option.map_eq_some_iff] at ht
        obtain ⟨y, h1, rfl⟩ := ht
        have hx := trOpd_sound he h1
        simp only [stepOp] at hs
        split at hs
        · rename_i s hy
          cases hs
          rw [hy] at hx
          have e1 : a.eval x = .string s := by generalize a.eval x = vx at hx; cases hx; rfl
          refine ⟨w, im, ρ, .int .i64 s.size, .inl ?_, hW, Ext.refl _ _ _ _, .int _ _⟩
          simp [execOp, resolve, invoke, builtin, e1, Builtin.len_, run_underlying hu, goInt]
        · cases hs
      · cases ht
    · rename_i x y t t' ea et
      cases arr2 ea; cases arr2 et
      split at ht
      · rename_i htt; subst htt
        split at ht
        · rename_i e hu
          split at ht
          · rename_i i hi
            split at ht
            · rename_i z hz
              split at ht
              · rename_i hc
                simp only [Option.bind_eq_some_iff, Option.map_eq_some_iff] at ht
                obtain ⟨x', h1, y', h2, rfl⟩ := ht
                simp only [stepOp, Option.bind_eq_some_iff] at hs
                obtain ⟨ys, h3, h4⟩ := hs
                obtain ⟨v, w', ρ', a1, a2, a3, a4⟩ := app_sound hW (ty := ty) hu hi hz hc.1 hc.2.1 (by rw [Nat.mul_comm]; exact Nat.mul_div_le _ _) (Nat.le_trans (Nat.div_le_self _ _) (by decide)) (trOpd_sound he h1) (trOpd_sound he h2) h3 h4
                refine ⟨w', im, ρ', v, .inl ?_, a2, a3, a4⟩
                simp [execOp, resolve, invoke, builtin, a1]
              · cases ht
            · cases ht
          · cases ht
        · cases ht
      · cases ht
    · rename_i x y ats ea
      cases arr2 ea
      simp only [Option.bind_eq_some_iff, Option.map_eq_some_iff] at ht
      obtain ⟨x', h1, y', h2, rfl⟩ := ht
      have hx := trOpd_sound he h1
      have hy := trOpd_sound he h2
      simp only [stepOp] at hs
      split at hs
      · rename_i k p k' q hp hq
        split at hs
        · rename_i hk; subst hk
          cases hs
          rw [hp] at hx; rw [hq] at hy
          refine ⟨w, im, ρ, _, .inl ?_, hW, Ext.refl _ _ _ _, .int _ _⟩
          have := mm_run (P := P) (w := w) k false p q argTypes ty
          simp at this
          simp [execOp, resolve, invoke, builtin, rep_int hx, rep_int hy, this]
        · cases hs
      · cases hs
    · rename_i x y ats ea
      cases arr2 ea
      simp only [Option.bind_eq_some_iff, Option.map_eq_some_iff] at ht
      obtain ⟨x', h1, y', h2, rfl⟩ := ht
      have hx := trOpd_sound he h1
      have hy := trOpd_sound he h2
      simp only [stepOp] at hs
      split at hs
      · rename_i k p k' q hp hq
        split at hs
        · rename_i hk; subst hk
          cases hs
          rw [hp] at hx; rw [hq] at hy
          refine ⟨w, im, ρ, _, .inl ?_, hW, Ext.refl _ _ _ _, .int _ _⟩
          have := mm_run (P := P) (w := w) k true p q argTypes ty
          simp at this
          simp [execOp, resolve, invoke, builtin, rep_int hx, rep_int hy, this]
        · cases hs
      · cases hs
    · cases ht
  | value f =>
    cases f with
    | func f =>
      simp only [trCall, trFunc] at ht
      split at ht
      · rename_i fn hfn
        split at ht
        · cases ht
        · rename_i hng
          split at ht
          · rw [Option.map_eq_some_iff] at ht
            obtain ⟨as, h1, rfl⟩ := ht
            simp [stepOp] at hs
          · rename_i hbody
            split at ht
            · rename_i x ea
              cases arr1 ea
              split at ht
              · rename_i hname
                rw [Option.map_eq_some_iff] at ht
                obtain ⟨y, h1, rfl⟩ := ht
                have hx := trOpd_sound he h1
                simp only [stepOp] at hs
                split at hs
                · rename_i b hy
                  cases hs
                  rw [hy] at hx
                  have e1 : a.eval x = .float .f64 b := by generalize a.eval x = vx at hx; cases hx; rfl
                  refine ⟨w, im, ρ, _, .inl ?_, hW, Ext.refl _ _ _ _, .int _ _⟩
                  have := bits_call (P := P) (w := w) hfn hbody hname b
                  simp [execOp, resolve, Deferred.ofValue, Act.eval] at e1 this ⊢
                  simp [e1, this, invoke]
                · cases hs
              · split at ht
                · rename_i hname
                  rw [Option.map_eq_some_iff] at ht
                  obtain ⟨y, h1, rfl⟩ := ht
                  have hx := trOpd_sound he h1
                  simp only [stepOp] at hs
                  split at hs
                  · rename_i b hy
                    cases hs
                    rw [hy] at hx
                    have e1 := rep_int hx
                    refine ⟨w, im, ρ, _, .inl ?_, hW, Ext.refl _ _ _ _, .flt _⟩
                    have := from_call (P := P) (w := w) hfn hbody hname b
                    simp [execOp, resolve, Deferred.ofValue, Act.eval] at e1 this ⊢
                    simp [e1, this, invoke]
                  · cases hs
                · cases ht
            · cases ht
      · cases ht
    | _ => simp [trCall] at ht

set_option maxHeartbeats 1000000 in
theorem op_sound (hW : WF P im w ρ rows) {a : Act} {env : Env} (he : EnvOK P im w ρ a env) {o : Oper} {m : MOp} {r : AV} {rows' : List Row}
    (ht : trOp P o = some m) (hs : stepOp (Opd.get env) rows m = some (r, rows')) : Done P (execOp a.eval o) im w ρ rows r rows' := by
  obtain ⟨dst, op, ty, pos, aft, gd⟩ := o
  cases op with
  | move x =>
    simp only [trOp, Option.map_eq_some_iff] at ht
    obtain ⟨y, h1, rfl⟩ := ht
    simp only [stepOp, Option.some.injEq, Prod.mk.injEq] at hs
    obtain ⟨rfl, rfl⟩ := hs
    exact ⟨w, im, ρ, _, .inl rfl, hW, Ext.refl _ _ _ _, trOpd_sound he h1⟩
  | assign x =>
    simp only [trOp, Option.map_eq_some_iff] at ht
    obtain ⟨y, h1, rfl⟩ := ht
    simp only [stepOp, Option.some.injEq, Prod.mk.injEq] at hs
    obtain ⟨rfl, rfl⟩ := hs
    exact ⟨w, im, ρ, _, .inl rfl, hW, Ext.refl _ _ _ _, trOpd_sound he h1⟩
  | pick c x y =>
    simp only [trOp, Option.bind_eq_some_iff, Option.map_eq_some_iff] at ht
    obtain ⟨c', h1, x', h2, y', h3, rfl⟩ := ht
    simp only [stepOp] at hs
    split at hs
    · rename_i b hb
      cases hs
      have hc := trOpd_sound he h1
      rw [hb] at hc
      have := rep_bool hc
      refine ⟨w, im, ρ, if b then a.eval x else a.eval y, .inl ?_, hW, Ext.refl _ _ _ _, ?_⟩
      · simp [execOp, this, asBool]
      · cases b
        · exact trOpd_sound he h3
        · exact trOpd_sound he h2
    · cases hs
  | alloc t =>
    simp only [trOp, Option.map_eq_some_iff] at ht
    obtain ⟨z, h1, rfl⟩ := ht
    simp only [stepOp, Option.some.injEq, Prod.mk.injEq] at hs
    obtain ⟨rfl, rfl⟩ := hs
    obtain ⟨v, w', ρ', a1, a2, a3, a4⟩ := new_sound hW h1
    exact Done.of a1 a2 a3 a4
  | box t x =>
    simp only [trOp, Option.map_eq_some_iff] at ht
    obtain ⟨y, h1, rfl⟩ := ht
    simp only [stepOp, Option.map_eq_some_iff, Prod.mk.injEq] at hs
    obtain ⟨l, h2, rfl, rfl⟩ := hs
    obtain ⟨w', ρ', a1, a2, a3, a4⟩ := box_sound hW t (items_sound (trOpd_sound he h1) h2)
    exact Done.of a1 a2 a3 a4
  | build t ps =>
    simp only [trOp] at ht
    split at ht
    · rename_i fs hu
      split at ht
      · rename_i hall
        simp only [Option.bind_eq_some_iff, Option.map_eq_some_iff] at ht
        obtain ⟨z, h1, qs, h2, rfl⟩ := ht
        simp only [stepOp, Option.map_eq_some_iff, Prod.mk.injEq] at hs
        obtain ⟨l, h3, rfl, rfl⟩ := hs
        obtain ⟨places, p1, p2⟩ := places_ok hall
        obtain ⟨v, a1, a2⟩ := build_sound (c := a.eval) (g := Opd.get env) hu h1 p1 (trFields_sound he p2 h2) h3
        exact Done.of a1 hW (Ext.refl _ _ _ _) a2
      · cases ht
    · rename_i n e hu
      split at ht
      · rename_i hc
        simp only [Option.map_eq_some_iff] at ht
        obtain ⟨z, h1, rfl⟩ := ht
        simp only [stepOp, putParts, Option.map_some, Option.some.injEq, Prod.mk.injEq] at hs
        obtain ⟨rfl, rfl⟩ := hs
        simp only [Bool.and_eq_true, Array.isEmpty_iff] at hc
        obtain ⟨hi, rfl⟩ := hc
        obtain ⟨i, hi⟩ := Option.isSome_iff_exists.1 hi
        obtain ⟨z0, k1, k2⟩ := zeroI_sound h1 im w ρ
        have hsz : (sizeOf e).run P w = .ok i.size w := by simp [sizeOf, typeInfo, hi]
        refine Done.of (v := .agg z0.cells) ?_ hW (Ext.refl _ _ _ _) (by have := RepV.agg _ _ k2; simpa using this)
        simp [Instr.build, k1, run_underlying hu, hsz, Instr.fill]
      · cases ht
    · cases ht
  | buildSlice t n ps =>
    simp only [trOp] at ht
    split at ht
    · rename_i e hu
      split at ht
      · rename_i i z hi hz
        split at ht
        · rename_i hc
          simp only [Option.map_eq_some_iff] at ht
          obtain ⟨qs, h1, rfl⟩ := ht
          simp only [stepOp, Option.map_eq_some_iff, Prod.mk.injEq] at hs
          obtain ⟨⟨l', r'⟩, h2, rfl, rfl⟩ := hs
          obtain ⟨v, w', im', ρ', a1, a2, a3, a4⟩ := bslice_sound (c := a.eval) hW hu hi hz hc.1 hc.2.1 hc.2.2 (trParts_sound he h1) h2
          exact Done.of a1 a2 a3 a4
        · cases ht
      · cases ht
    · cases ht
  | load t x =>
    simp only [trOp] at ht
    split at ht
    · rename_i d i hd hi
      simp only [Option.map_eq_some_iff] at ht
      obtain ⟨y, h1, rfl⟩ := ht
      simp only [stepOp, Option.bind_eq_some_iff, Option.map_eq_some_iff, Prod.mk.injEq] at hs
      obtain ⟨l, h2, m, h3, q, hr, rfl, rfl⟩ := hs
      obtain ⟨u, a1, a2⟩ := load_sound hW (trOpd_sound he h1) h2 h3 hd (by simp [Program.cellsOf, hi]) (by simp [hi]) rfl hr
      exact Done.of a1 hW (Ext.refl _ _ _ _) a2
    · cases ht
  | store t p x =>
    simp only [trOp] at ht
    split at ht
    · rename_i i hi
      simp only [Option.bind_eq_some_iff, Option.map_eq_some_iff] at ht
      obtain ⟨p', h1, x', h2, rfl⟩ := ht
      simp only [stepOp, Option.bind_eq_some_iff] at hs
      obtain ⟨l, h3, h4⟩ := hs
      split at h4
      · rename_i hw
        simp only [Option.map_eq_some_iff, Prod.mk.injEq] at h4
        obtain ⟨r', h5, rfl, rfl⟩ := h4
        obtain ⟨w', im', a1, a2, a3, _⟩ := store_sound (t := t) hW (trOpd_sound he h1) (trOpd_sound he h2) h3 hw (by simp [Program.cellsOf, hi]) (by simp [hi]) h5
        exact ⟨w', im', ρ, undef, .inr ⟨by simp [execOp, a1], rfl⟩, a2, a3, .un _⟩
      · cases h4
    · cases ht
  | nilCheck x =>
    simp only [trOp, Option.map_eq_some_iff] at ht
    obtain ⟨y, h1, rfl⟩ := ht
    have hx := trOpd_sound he h1
    simp only [stepOp] at hs
    generalize a.eval x = vx at hx
    generalize hy : y.get env = yy at hx hs
    have key : ∃ ad, a.eval x = .pointer (some ad) ∧ RepV P im w ρ (.pointer (some ad)) r ∧ rows' = rows := by
      have hx' := trOpd_sound he h1
      rw [hy] at hx'
      generalize a.eval x = vx at hx'
      cases hx' <;> simp at hs
      · obtain ⟨rfl, rfl⟩ := hs; rename_i h; exact ⟨_, rfl, .ptr _ _ _ _ h, rfl⟩
      · obtain ⟨rfl, rfl⟩ := hs; rename_i h; exact ⟨_, rfl, .ptrA _ _ _ _ _ h, rfl⟩
      · obtain ⟨rfl, rfl⟩ := hs; rename_i h; exact ⟨_, rfl, .ptrE _ _ _ _ _ _ h, rfl⟩
      · obtain ⟨rfl, rfl⟩ := hs; rename_i hb hu hr; exact ⟨_, rfl, .pz _ _ _ _ hb hu hr, rfl⟩
    obtain ⟨ad, e1, e2, rfl⟩ := key
    exact ⟨w, im, ρ, _, .inl (by simp [execOp, e1]), hW, Ext.refl _ _ _ _, e2⟩
  | binOp op t x y yt =>
    simp only [trOp] at ht
    have intcase : ∀ {x' y' : Opd}, trOpd P none x = some x' → trOpd P none y = some y' → stepOp (Opd.get env) rows (.bin op x' y') = some (r, rows') → Done P (execOp a.eval ⟨dst, .binOp op t x y yt, ty, pos, aft, gd⟩) im w ρ rows r rows' := by
      intro x' y' h1 h2 hs
      simp only [stepOp, Option.map_eq_some_iff, Prod.mk.injEq] at hs
      obtain ⟨r', h3, rfl, rfl⟩ := hs
      obtain ⟨v, a1, a2, a3⟩ := bin_ok (P := P) (w := w) (t := t) (trOpd_sound he h1) (trOpd_sound he h2) h3
      exact ⟨w, im, ρ, v, .inl (by simp [execOp, a1, a3]), hW, Ext.refl _ _ _ _, a2⟩
    split at ht
    · rename_i hu
      simp only [Option.bind_eq_some_iff] at ht
      obtain ⟨x', h1, y', h2, h3⟩ := ht
      have hx := trOpd_sound he h1
      have hy := trOpd_sound he h2
      have go : ∀ neg, m = .eqB neg x' y' → ∃ p q, a.eval x = .bool p ∧ a.eval y = .bool q ∧ r = .bool (if neg then !(p == q) else p == q) ∧ rows' = rows := by
        rintro neg rfl
        simp only [stepOp] at hs
        split at hs
        · rename_i p q hp hq
          simp only [Option.some.injEq, Prod.mk.injEq] at hs
          rw [hp] at hx; rw [hq] at hy
          exact ⟨p, q, rep_bool hx, rep_bool hy, hs.1.symm, hs.2.symm⟩
        · cases hs
      split at h3
      · obtain ⟨p, q, e1, e2, rfl, rfl⟩ := go false (by cases h3; rfl)
        refine ⟨w, im, ρ, .bool (p == q), .inl ?_, hW, Ext.refl _ _ _ _, .bool _⟩
        simp [execOp, e1, e2, eqGuard, binOp, eqB_run hu]
      · obtain ⟨p, q, e1, e2, rfl, rfl⟩ := go true (by cases h3; rfl)
        refine ⟨w, im, ρ, .bool (!(p == q)), .inl ?_, hW, Ext.refl _ _ _ _, .bool _⟩
        simp [execOp, e1, e2, eqGuard, binOp, eqB_run hu]
      · cases h3
    · simp only [Option.bind_eq_some_iff, Option.map_eq_some_iff] at ht
      obtain ⟨x', h1, y', h2, rfl⟩ := ht
      exact intcase h1 h2 hs
    · simp only [Option.bind_eq_some_iff, Option.map_eq_some_iff] at ht
      obtain ⟨x', h1, y', h2, rfl⟩ := ht
      exact intcase h1 h2 hs
    · simp only [Option.bind_eq_some_iff, Option.map_eq_some_iff] at ht
      obtain ⟨x', h1, y', h2, rfl⟩ := ht
      exact intcase h1 h2 hs
    · rename_i fs hu
      split at ht
      · rename_i hc
        simp only [Bool.and_eq_true, Bool.not_eq_true'] at hc
        obtain ⟨⟨hc1, hc2⟩, hc3⟩ := hc
        simp only [Option.bind_eq_some_iff] at ht
        obtain ⟨x', h1, y', h2, h3⟩ := ht
        have hx := trOpd_sound he h1
        have hy := trOpd_sound he h2
        have go : ∀ neg, m = .eqI fs.size neg x' y' → ∃ (us vs : List Value) (b : Bool), a.eval x = .agg us.toArray ∧ a.eval y = .agg vs.toArray ∧ r = .bool (if neg then !b else b) ∧ rows' = rows ∧ (Op.equal t (.agg us.toArray) (.agg vs.toArray)).run P w = .ok b w := by
          rintro neg rfl
          simp only [stepOp] at hs
          split at hs
          · rename_i p q hp hq
            split at hs
            · rename_i hlen
              simp only [Option.map_eq_some_iff, Prod.mk.injEq] at hs
              obtain ⟨b, hb, rfl, rfl⟩ := hs
              rw [hp] at hx; rw [hq] at hy
              obtain ⟨us, e1, k1⟩ := rep_agg hx
              obtain ⟨vs, e2, k2⟩ := rep_agg hy
              exact ⟨us, vs, b, e1, e2, rfl, rfl, eqStruct_run hu hc1 hc2 k1 k2 hb hlen⟩
            · cases hs
          · cases hs
        split at h3
        · obtain ⟨us, vs, b, e1, e2, rfl, rfl, hb⟩ := go false (by cases h3; rfl)
          refine ⟨w, im, ρ, .bool b, .inl ?_, hW, Ext.refl _ _ _ _, .bool _⟩
          simp [execOp, e1, e2, run_eqGuard_agg w .eql t x y _ _ hc3, binOp, hb]
        · obtain ⟨us, vs, b, e1, e2, rfl, rfl, hb⟩ := go true (by cases h3; rfl)
          refine ⟨w, im, ρ, .bool (!b), .inl ?_, hW, Ext.refl _ _ _ _, .bool _⟩
          simp [execOp, e1, e2, run_eqGuard_agg w .neq t x y _ _ hc3, binOp, hb]
        · cases h3
      · cases ht
    · cases ht
  | unOp op t x =>
    cases op <;> simp only [trOp] at ht <;> try (simp at ht; done)
    simp only [Option.map_eq_some_iff] at ht
    obtain ⟨y, h1, rfl⟩ := ht
    have hx := trOpd_sound he h1
    simp only [stepOp] at hs
    split at hs
    · rename_i b hb
      cases hs
      rw [hb] at hx
      exact ⟨w, im, ρ, .bool !b, .inl (by simp [execOp, rep_bool hx, Op.unary]), hW, Ext.refl _ _ _ _, .bool _⟩
    · cases hs
  | convert s d x =>
    simp only [trOp] at ht
    split at ht
    · rename_i ds k hs' hd
      simp only [Option.map_eq_some_iff] at ht
      obtain ⟨y, h1, rfl⟩ := ht
      have hx := trOpd_sound he h1
      simp only [stepOp] at hs
      split at hs
      · rename_i k' n hn
        cases hs
        rw [hn] at hx
        refine ⟨w, im, ρ, .int k (k.wrap n), .inl ?_, hW, Ext.refl _ _ _ _, .int _ _⟩
        simp [execOp, rep_int hx, convert, run_underlying hs', run_underlying hd, Conv.intToInt]
      · cases hs
    · cases ht
  | fieldAddr s x f =>
    simp only [trOp] at ht
    split at ht
    · rename_i fs hu
      simp only [Option.bind_eq_some_iff] at ht
      obtain ⟨fd, h0, ht⟩ := ht
      split at ht
      · rename_i i hi
        split at ht
        · cases ht
        · rename_i hsz
          simp only [Option.map_eq_some_iff] at ht
          obtain ⟨y, h1, rfl⟩ := ht
          have hx := trOpd_sound he h1
          simp only [stepOp] at hs
          have run : ∀ ad, a.eval x = .pointer (some ad) → (execOp a.eval ⟨dst, .fieldAddr s x f, ty, pos, aft, gd⟩).run P w = .ok (.value (.pointer (some (ad.add fd.offset)))) w := by
            intro ad hv
            have hso : (sizeOf fd.type).run P w = .ok i.size w := by simp [sizeOf, typeInfo, hi]
            have hfp : (fieldPlace ad fd).run P w = .ok (ad.add fd.offset) w := by
              unfold fieldPlace
              simp only [Sem.run_bind, hso, Result.andThen_ok]
              rw [if_neg hsz]
              simp
            have hfa : (Instr.fieldAt s (.pointer (some ad)) f).run P w = .ok (.pointer (some (ad.add fd.offset))) w := by
              unfold Instr.fieldAt
              simp only [Sem.run_bind, run_underlying hu, Result.andThen_ok, h0]
              simp [Instr.sureAddr, hfp]
            simp only [execOp, hv]
            exact runs_v hfa
          generalize hvx : a.eval x = vx at hx
          generalize y.get env = yy at hx hs
          cases hx <;> simp at hs
          · rename_i id g cap c h
            obtain ⟨rfl, rfl⟩ := hs
            refine ⟨w, im, ρ, _, .inl (run _ hvx), hW, Ext.refl _ _ _ _, ?_⟩
            rw [addA]; exact .ptr _ _ _ _ h
          · rename_i id g cap e i c h
            obtain ⟨rfl, rfl⟩ := hs
            refine ⟨w, im, ρ, _, .inl (run _ hvx), hW, Ext.refl _ _ _ _, ?_⟩
            rw [addA, Nat.add_assoc]; exact .ptrE _ _ _ _ _ _ h
          · rename_i ad us items c hb hu' hr
            obtain ⟨rfl, rfl⟩ := hs
            refine ⟨w, im, ρ, _, .inl (run _ hvx), hW, Ext.refl _ _ _ _, ?_⟩
            rw [addAA]; exact .pz _ _ _ _ hb hu' hr
      · cases ht
    · cases ht
  | indexAddr t x i =>
    simp only [trOp] at ht
    split at ht
    · rename_i e hu
      split at ht
      · rename_i inf hi
        simp only [Option.bind_eq_some_iff, Option.map_eq_some_iff] at ht
        obtain ⟨x', h1, i', h2, rfl⟩ := ht
        simp only [stepOp, Option.map_eq_some_iff, Prod.mk.injEq] at hs
        obtain ⟨q, hs, rfl, rfl⟩ := hs
        obtain ⟨v, a1, a2⟩ := idxS_ok hW hu hi (trOpd_sound he h1) (trOpd_sound he h2) hs
        exact ⟨w, im, ρ, v, .inl (runs_v a1), hW, Ext.refl _ _ _ _, a2⟩
      · cases ht
    · rename_i n e hu
      split at ht
      · rename_i inf hi
        split at ht
        · rename_i hsz
          simp only [Option.bind_eq_some_iff, Option.map_eq_some_iff] at ht
          obtain ⟨x', h1, i', h2, rfl⟩ := ht
          simp only [stepOp, Option.map_eq_some_iff, Prod.mk.injEq] at hs
          obtain ⟨q, hs, rfl, rfl⟩ := hs
          obtain ⟨v, a1, a2⟩ := idxP_ok (w := w) hu hi hsz (trOpd_sound he h1) (trOpd_sound he h2) hs
          exact ⟨w, im, ρ, v, .inl (runs_v a1), hW, Ext.refl _ _ _ _, a2⟩
        · cases ht
      · cases ht
    · cases ht
  | index t x i =>
    simp only [trOp] at ht
    split at ht
    · rename_i n e hu
      split at ht
      · rename_i inf d hi hd
        split at ht
        · rename_i hsz
          simp only [Option.bind_eq_some_iff, Option.map_eq_some_iff] at ht
          obtain ⟨x', h1, i', h2, rfl⟩ := ht
          simp only [stepOp, Option.map_eq_some_iff, Prod.mk.injEq] at hs
          obtain ⟨q, hs, rfl, rfl⟩ := hs
          obtain ⟨v, a1, a2⟩ := idxV_ok (w := w) hu hi hsz.1 hd hsz.2 (trOpd_sound he h1) (trOpd_sound he h2) hs
          exact ⟨w, im, ρ, v, .inl (runs_v a1), hW, Ext.refl _ _ _ _, a2⟩
        · cases ht
      · cases ht
    · cases ht
  | slice t x lo hi mx =>
    cases mx with
    | some _ => simp [trOp] at ht
    | none =>
    simp only [trOp] at ht
    split at ht
    · rename_i e hu
      split at ht
      · rename_i inf hin
        simp only [Option.bind_eq_some_iff, Option.map_eq_some_iff] at ht
        obtain ⟨x', h1, lo', h2, hi', h3, rfl⟩ := ht
        have hx := trOpd_sound he h1
        simp only [stepOp] at hs
        generalize hvx : a.eval x = vx at hx
        generalize x'.get env = yy at hx hs
        have run : ∀ {v w'}, (Instr.sliceAt t vx (lo.map a.eval) (hi.map a.eval) none).run P w = .ok v w' → (execOp a.eval ⟨dst, .slice t x lo hi none, ty, pos, aft, gd⟩).run P w = .ok (.value v) w' := by
          intro v w' h
          simp only [execOp, hvx]
          exact runs_v h
        cases hx with
        | fz e' A cap l us hA hl hm ha hr =>
          simp only at hs
          split at hs
          · rename_i hee; subst hee
            simp only [Option.bind_eq_some_iff, Option.map_eq_some_iff, Prod.mk.injEq] at hs
            obtain ⟨h, b1, b, b2, rfl, rfl⟩ := hs
            obtain ⟨k1, k2, k3⟩ := slice_run he (A := A) (cap := cap) hu hin hl h2 h3 b1 b2
            exact ⟨w, im, ρ, _, .inl (run k1), hW, Ext.refl _ _ _ _, fz_cut (.fz e A cap l us hA hl hm ha hr) k2 k3⟩
          · cases hs
        | nil e' =>
          simp only [Option.bind_eq_some_iff, Option.map_eq_some_iff, Prod.mk.injEq] at hs
          obtain ⟨h, b1, b, b2, rfl, rfl⟩ := hs
          obtain ⟨k1, k2, k3⟩ := slice_run he (A := none) (cap := 0) (len := 0) hu hin (Nat.le_refl _) h2 h3 b1 b2
          refine ⟨w, im, ρ, _, .inl (run k1), hW, Ext.refl _ _ _ _, ?_⟩
          have hb : b = 0 := by omega
          have hh : h = 0 := by omega
          subst hb; subst hh
          simpa using RepV.nil (P := P) (im := im) (w := w) (ρ := ρ) e'
        | sref id g cap n hid hn =>
          simp only [Option.bind_eq_some_iff] at hs
          obtain ⟨h, b1, hs⟩ := hs
          cases lo' with
          | none =>
            simp only [Option.some.injEq, Prod.mk.injEq] at hs
            obtain ⟨rfl, rfl⟩ := hs
            obtain ⟨k1, k2, k3⟩ := slice_run he (A := some ⟨g, 0, none⟩) (cap := cap) (len := n) hu hin hn h2 h3 b1 (b := 0) rfl
            refine ⟨w, im, ρ, _, .inl (run k1), hW, Ext.refl _ _ _ _, ?_⟩
            have := RepV.sref (P := P) (im := im) (w := w) (ρ := ρ) id g cap h hid (by omega)
            simpa [add0] using this
          | some q =>
            simp only [Option.bind_eq_some_iff] at hs
            obtain ⟨b, b2, ⟨y, r1⟩, t1, hs⟩ := hs
            obtain ⟨k1, k2, k3⟩ := slice_run he (A := some ⟨g, 0, none⟩) (cap := cap) (len := n) hu hin hn h2 h3 b1 b2
            obtain ⟨im', c1, c2, c3, _, _⟩ := thawV_sound hW (RepV.sref (P := P) (im := im) (w := w) (ρ := ρ) id g cap h hid (by omega)) t1
            cases y with
            | fz e' l =>
              simp only at hs
              split at hs
              · rename_i hee; subst hee
                cases hs
                have hlen : l.length = h := by
                  generalize hvv : Value.slice (some ⟨g, 0, none⟩) h cap = vv at c3
                  cases c3
                  injection hvv with _ q _; exact q.symm
                subst hlen
                have := (fz_cut c3 (Nat.le_refl _) k3).lift (ρ := ρ)
                refine ⟨w, im', ρ, _, .inl (run k1), c1, c2, ?_⟩
                simpa using this
              · cases hs
            | _ => simp at hs
        | _ => simp at hs
      · cases ht
    · cases ht
  | extract x i =>
    simp only [trOp, Option.map_eq_some_iff] at ht
    obtain ⟨y, h1, rfl⟩ := ht
    have hx := trOpd_sound he h1
    simp only [stepOp] at hs
    generalize hvx : a.eval x = vx at hx
    generalize y.get env = yy at hx hs
    cases hx with
    | tup vs l h =>
      simp only [Option.map_eq_some_iff, Prod.mk.injEq] at hs
      obtain ⟨q, h2, rfl, rfl⟩ := hs
      have key : ∀ {vs : List Value} {l : List AV} {i : Nat}, RepT P im w ρ vs l → l[i]? = some q → ∃ v, vs[i]? = some v ∧ RepV P im w ρ v q := by
        intro vs l
        induction l generalizing vs with
        | nil => intro i h hq; simp at hq
        | cons z zs ih =>
          intro i h hq
          cases h with
          | cons v _ vs _ g gs =>
            cases i with
            | zero => simp at hq; subst hq; exact ⟨v, rfl, g⟩
            | succ i => simpa using ih gs (by simpa using hq)
      obtain ⟨v, e1, e2⟩ := key h h2
      exact ⟨w, im, ρ, v, .inl (by simp [execOp, hvx, Instr.extract, e1]), hW, Ext.refl _ _ _ _, e2⟩
    | _ => simp at hs
  | call c =>
    simp only [trOp] at ht
    exact call_sound hW he ht hs
  | _ => simp [trOp] at ht
end
end Go.Sk
