/- Each operation of the machine does what the compact one says: all of them. Conditions: none (a library text). -/
import Derived.Test.YtnbmngpdbnkhaaaC6Sound4
import Derived.Laws.StructEq
set_option linter.unusedVariables false
set_option linter.unusedSimpArgs false
namespace Go.Sk
open Go.RowKit

def constV (P : Program) (t : Option TypeId) : Value → Option AV
  | .int k n => some (.int k n)
  | .bool b => some (.bool b)
  | .string s => some (.str s)
  | .float .f64 b => some (.flt b)
  | .pointer none => some .nilp
  | .slice none 0 0 => match t.bind P.underlying with
    | some (.slice e) => some (.nil e)
    | _ => none
  | .agg cs => match t with
    | some t => match parse P 8 t cs.toList with
      | some (l, []) => some (.agg l)
      | _ => none
    | none => none
  | _ => none

theorem constV_sound {P : Program} {t : Option TypeId} {v : Value} {x : AV} (h : constV P t v = some x) (im : Nat → Prop) (w : World) (ρ : Nat → Loc) : RepV P im w ρ v x := by
  unfold constV at h
  split at h
  · cases h; exact .int _ _
  · cases h; exact .bool _
  · cases h; exact .str _
  · cases h; exact .flt _
  · cases h; exact .nilp
  · split at h
    · cases h; exact .nil _
    · cases h
  · split at h
    · split at h
      · rename_i hp
        cases h
        obtain ⟨vs, e, k⟩ := parse_sound im w ρ _ _ _ _ _ hp
        simp at e
        have := RepV.agg vs _ k
        rw [← e] at this
        simpa using this
      · cases h
    · cases h
  · cases h

def trOpd (P : Program) (t : Option TypeId) : Operand → Option Opd
  | .tmp n => some (.t n)
  | .const v => (constV P t v).map .k
  | _ => none

def trOpt (P : Program) : Option Operand → Option (Option Opd)
  | none => some none
  | some x => (trOpd P none x).map some

/-- Operands, each of a type. -/
def trParts (P : Program) (f : Nat → Option TypeId) : List (Nat × Operand) → Option (List (Nat × Opd))
  | [] => some []
  | (i, x) :: ps => (trOpd P (f i) x).bind fun y => (trParts P f ps).map fun r => (i, y) :: r

def trArgs (P : Program) : List Operand → List TypeId → Option (List Opd)
  | [], [] => some []
  | x :: xs, t :: ts => (trOpd P (some t) x).bind fun y => (trArgs P xs ts).map fun r => y :: r
  | _, _ => none

def fieldSz (P : Program) (f : Field) : Option (Nat × Nat) := (P.info? f.type).map fun i => (f.offset, i.size)

/-- Parts of a struct: each with its cell and its size. -/
def trFields (P : Program) (fs : Array Field) : List (Nat × Operand) → Option (List (Nat × Nat × Opd))
  | [] => some []
  | (i, x) :: ps => (fs[i]?).bind fun f => (fieldSz P f).bind fun q => (trOpd P (some f.type) x).bind fun y => (trFields P fs ps).map fun r => (q.1, q.2, y) :: r

def intFields (P : Program) (fs : Array Field) : Bool := fs.toList.zipIdx.all fun p => p.1.name != "_" && p.1.offset == p.2 && (match P.underlying p.1.type with | some (.int _) => true | _ => false)

def trBuiltin (P : Program) : Builtin → List Operand → List TypeId → Option MOp
  | .len, [x], [t] => match P.underlying t with
    | some (.slice _) => (trOpd P (some t) x).map .len
    | some .string => (trOpd P (some t) x).map .slen
    | _ => none
  | .append, [x, y], [t, t'] => if t = t' then match P.underlying t with
    | some (.slice e) => match P.info? e with
      | some i => match i.zero with
        | some z => if z.cells.size = i.size ∧ 0 < i.size ∧ 0 < i.bytes then (trOpd P (some t) x).bind fun x => (trOpd P (some t) y).map fun y => .app e (140737488355328 / i.bytes) x y else none
        | none => none
      | none => none
    | _ => none
    else none
  | .min, [x, y], _ => (trOpd P none x).bind fun x => (trOpd P none y).map fun y => .mm false x y
  | .max, [x, y], _ => (trOpd P none x).bind fun x => (trOpd P none y).map fun y => .mm true x y
  | _, _, _ => none

def trFunc (P : Program) (f : FuncId) (args : List Operand) (ts : List TypeId) : Option MOp :=
  match P.funcs[f]? with
  | some fn => if fn.name == "runtime.NumGoroutine" then none else if fn.body.isSome then (trArgs P args ts).map fun as => .call f as
    else match args with
      | [x] => if fn.name = "math.Float64bits" ∧ fn.origin = "" then (trOpd P none x).map .fbits else if fn.name = "math.Float64frombits" ∧ fn.origin = "" then (trOpd P none x).map .ffrom else none
      | _ => none
  | none => none

def trCall (P : Program) (c : Call) : Option MOp :=
  match c.callee with
  | .builtin b => trBuiltin P b c.args.toList c.argTypes.toList
  | .value (.func f) => trFunc P f c.args.toList c.argTypes.toList
  | _ => none

def trOp (P : Program) (o : Oper) : Option MOp :=
  match o.op with
  | .move x | .assign x => (trOpd P (some o.type) x).map .mv
  | .pick c a b => (trOpd P none c).bind fun c => (trOpd P (some o.type) a).bind fun a => (trOpd P (some o.type) b).map fun b => .pick c a b
  | .alloc t => (zeroI P t).map fun z => .new t z
  | .box t x => (trOpd P (some t) x).map fun x => .box t x
  | .build t ps => match P.underlying t with
    | some (.struct fs) => if fs.toList.all (fun f => (P.info? f.type).isSome) then (zeroI P t).bind fun z => (trFields P fs ps.toList).map fun qs => .build z qs else none
    | some (.array _ e) => if (P.info? e).isSome && ps.isEmpty then (zeroI P t).map fun z => .build z [] else none
    | _ => none
  | .buildSlice t n ps => match P.underlying t with
    | some (.slice e) => match P.info? e, zeroI P e with
      | some i, some z => if i.size = widths z ∧ 0 < widths z ∧ n * widths z ≤ 16777216 then (trParts P (fun _ => some e) ps.toList).map fun qs => .bslice e z n qs else none
      | _, _ => none
    | _ => none
  | .load t a => match P.underlying t, P.info? t with
    | some d, some i => (trOpd P none a).map fun x => .load (isAggD d) i.size x
    | _, _ => none
  | .store t a x => match P.info? t with
    | some i => (trOpd P none a).bind fun a => (trOpd P (some t) x).map fun x => .store i.size a x
    | _ => none
  | .nilCheck x => (trOpd P none x).map .nilchk
  | .binOp op t x y _ => match P.underlying t with
    | some .bool => (trOpd P none x).bind fun x => (trOpd P none y).bind fun y => match op with
      | .eql => some (.eqB false x y)
      | .neq => some (.eqB true x y)
      | _ => none
    | some (.int _) | some .string | some (.float _) => (trOpd P none x).bind fun x => (trOpd P none y).map fun y => .bin op x y
    | some (.struct fs) => if intFields P fs && !P.stoodInHeld t && !P.eqGuardType P.depth t then (trOpd P (some t) x).bind fun x => (trOpd P (some t) y).bind fun y => match op with
      | .eql => some (.eqI fs.size false x y)
      | .neq => some (.eqI fs.size true x y)
      | _ => none
      else none
    | _ => none
  | .unOp .not _ x => (trOpd P none x).map .not
  | .convert s d x => match P.underlying s, P.underlying d with
    | some _, some (.int k) => (trOpd P none x).map (.conv k)
    | _, _ => none
  | .fieldAddr s x f => match P.underlying s with
    | some (.struct fs) => (fs[f]?).bind fun fd => match P.info? fd.type with
      | some i => if i.size = 0 then none else (trOpd P none x).map (.fld fd.offset)
      | none => none
    | _ => none
  | .indexAddr t x i => match P.underlying t with
    | some (.slice e) => match P.info? e with
      | some _ => (trOpd P none x).bind fun x => (trOpd P none i).map fun i => .idxS e x i
      | none => none
    | some (.array n e) => match P.info? e with
      | some j => if j.size = 1 then (trOpd P none x).bind fun x => (trOpd P none i).map fun i => .idxP n x i else none
      | none => none
    | _ => none
  | .index t x i => match P.underlying t with
    | some (.array n e) => match P.info? e, P.underlying e with
      | some j, some d => if j.size = 1 ∧ isAggD d = false then (trOpd P none x).bind fun x => (trOpd P none i).map fun i => .idxV n x i else none
      | _, _ => none
    | _ => none
  | .slice t x lo hi none => match P.underlying t with
    | some (.slice e) => match P.info? e with
      | some _ => (trOpd P (some t) x).bind fun x => (trOpt P lo).bind fun lo => (trOpt P hi).map fun hi => .slcS e x lo hi
      | none => none
    | _ => none
  | .extract x i => (trOpd P none x).map fun x => .ext x i
  | .call c => trCall P c
  | _ => none

section
variable {P : Program} {im : Nat → Prop} {w w1 : World} {ρ : Nat → Loc} {rows rows1 : List Row}

/-- An act's slots read as an environment says. -/
def EnvOK (P : Program) (im : Nat → Prop) (w : World) (ρ : Nat → Loc) (a : Act) (env : Env) : Prop := ∀ t, RepV P im w ρ (a.eval (.tmp t)) (look env t)

theorem trOpd_sound {a : Act} {env : Env} (he : EnvOK P im w ρ a env) {t : Option TypeId} {x : Operand} {y : Opd} (h : trOpd P t x = some y) : RepV P im w ρ (a.eval x) (y.get env) := by
  cases x with
  | tmp n => simp [trOpd] at h; subst h; exact he n
  | const v =>
    simp only [trOpd, Option.map_eq_some_iff] at h
    obtain ⟨z, h1, rfl⟩ := h
    exact constV_sound h1 _ _ _
  | global g => simp [trOpd] at h
  | func f => simp [trOpd] at h

theorem trParts_sound {a : Act} {env : Env} (he : EnvOK P im w ρ a env) {f : Nat → Option TypeId} : ∀ {ps : List (Nat × Operand)} {qs : List (Nat × Opd)}, trParts P f ps = some qs → All2 (fun p q => RepV P im w ρ (a.eval p.2) (q.2.get env) ∧ p.1 = q.1) ps qs
  | [], qs, h => by simp [trParts] at h; subst h; exact .nil
  | (i, x) :: ps, qs, h => by
    simp only [trParts, Option.bind_eq_some_iff, Option.map_eq_some_iff] at h
    obtain ⟨y, h1, r, h2, rfl⟩ := h
    exact .cons ⟨trOpd_sound he h1, rfl⟩ (trParts_sound he h2)

theorem trArgs_sound {a : Act} {env : Env} (he : EnvOK P im w ρ a env) : ∀ {xs : List Operand} {ts : List TypeId} {ys : List Opd}, trArgs P xs ts = some ys → RepT P im w ρ (xs.map a.eval) (ys.map (Opd.get env))
  | [], [], ys, h => by simp [trArgs] at h; subst h; exact .nil
  | x :: xs, t :: ts, ys, h => by
    simp only [trArgs, Option.bind_eq_some_iff, Option.map_eq_some_iff] at h
    obtain ⟨y, h1, r, h2, rfl⟩ := h
    exact .cons _ _ _ _ (trOpd_sound he h1) (trArgs_sound he h2)
  | [], _ :: _, _, h => by simp [trArgs] at h
  | _ :: _, [], _, h => by simp [trArgs] at h

theorem trFields_sound {a : Act} {env : Env} (he : EnvOK P im w ρ a env) {fs : Array Field} {places : Array (Nat × Nat)} (hp : ∀ (i : Nat) (f : Field), fs[i]? = some f → ∀ q, fieldSz P f = some q → places[i]? = some q) :
    ∀ {ps : List (Nat × Operand)} {qs : List (Nat × Nat × Opd)}, trFields P fs ps = some qs → All2 (fun p q => RepV P im w ρ (a.eval p.2) (q.2.2.get env) ∧ places[p.1]? = some (q.1, q.2.1)) ps qs
  | [], qs, h => by simp [trFields] at h; subst h; exact .nil
  | (i, x) :: ps, qs, h => by
    simp only [trFields, Option.bind_eq_some_iff, Option.map_eq_some_iff] at h
    obtain ⟨f, h0, q, h1, y, h2, r, h3, rfl⟩ := h
    exact .cons ⟨trOpd_sound he h2, hp i f h0 q h1⟩ (trFields_sound he hp h3)

/-- What an operation comes to. -/
def Done (P : Program) (s : Sem Next) (im : Nat → Prop) (w : World) (ρ : Nat → Loc) (rows : List Row) (r : AV) (rows' : List Row) : Prop :=
  ∃ w' im' ρ' v, (s.run P w = .ok (.value v) w' ∨ (s.run P w = .ok .skip w' ∧ v = undef)) ∧ WF P im' w' ρ' rows' ∧ Ext w im ρ rows w' im' ρ' rows' ∧ RepV P im' w' ρ' v r

theorem Done.pure (hW : WF P im w ρ rows) {s : Sem Value} {v : Value} {r : AV} (h : s.run P w = .ok v w) (hr : RepV P im w ρ v r) : Done P (do Pure.pure (.value (← s))) im w ρ rows r rows :=
  ⟨w, im, ρ, v, .inl (by simp [h]), hW, Ext.refl _ _ _ _, hr⟩

theorem Done.of {s : Sem Value} {v : Value} {r : AV} {w' im' ρ' rows'} (h : s.run P w = .ok v w') (hW : WF P im' w' ρ' rows') (hE : Ext w im ρ rows w' im' ρ' rows') (hr : RepV P im' w' ρ' v r) : Done P (do Pure.pure (.value (← s))) im w ρ rows r rows' :=
  ⟨w', im', ρ', v, .inl (by simp [h]), hW, hE, hr⟩
end
end Go.Sk
set_option linter.unusedVariables false
set_option linter.unusedSimpArgs false
namespace Go.Sk
open Go.RowKit

section
variable {P : Program} {im : Nat → Prop} {w w1 : World} {ρ : Nat → Loc} {rows rows1 : List Row}

theorem idx_some {i : AV} {n j : Nat} (h : idx i n = some j) : ∃ k z, i = .int k z ∧ 0 ≤ z ∧ z < n ∧ z.toNat = j ∧ j < n := by
  unfold idx at h
  split at h
  · split at h
    · rename_i k z hc
      cases h
      exact ⟨_, _, rfl, hc.1, hc.2, rfl, by omega⟩
    · cases h
  · cases h

theorem rep_int {v : Value} {k : IntKind} {z : Int} (h : RepV P im w ρ v (.int k z)) : v = .int k z := by cases h; rfl
theorem rep_bool {v : Value} {z : Bool} (h : RepV P im w ρ v (.bool z)) : v = .bool z := by cases h; rfl

theorem idxS_ok (hW : WF P im w ρ rows) {vx vi : Value} {x i r : AV} {t e : Nat} {inf : TypeInfo} (ht : P.underlying t = some (.slice e)) (hi : P.info? e = some inf)
    (hx : RepV P im w ρ vx x) (hvi : RepV P im w ρ vi i)
    (hs : idxSV e x i = some r) : ∃ v, (Instr.indexAt t vx vi).run P w = .ok v w ∧ RepV P im w ρ v r := by
  have hsz : P.cellsOf e = inf.size := by simp [Program.cellsOf, hi]
  have run : ∀ (ad : Addr) (n c : Nat) (k : IntKind) (z : Int), 0 ≤ z → z < n → (Instr.indexAt t (.slice (some ad) n c) (.int k z)).run P w = .ok (.pointer (some (ad.add (z.toNat * P.cellsOf e)))) w := by
    intro ad n c k z h0 h1
    simp [Instr.indexAt, asIntOf, run_underlying ht, h0, h1, sizeOf, typeInfo, hi, hsz]
  cases hx with
  | fz e' A cap l us hA hl hm ha hr =>
    simp only [idxSV] at hs
    split at hs
    · rename_i he; subst he
      simp only [Option.bind_eq_some_iff, Option.map_eq_some_iff] at hs
      obtain ⟨j, h1, y, h2, rfl⟩ := hs
      obtain ⟨k, z, rfl, h0, hlt, rfl, hj⟩ := idx_some h1
      cases rep_int hvi
      obtain ⟨ad, rfl, him, hu, hc⟩ := ha _ hj
      obtain ⟨hj', rfl⟩ := List.getElem?_eq_some_iff.1 h2
      refine ⟨_, run ad l.length cap k z h0 hlt, ?_⟩
      have := RepV.pz (P := P) (im := im) (w := w) (ρ := ρ) (ad.add (z.toNat * P.cellsOf e)) (us z.toNat) l[z.toNat] 0 (by
        have : (ad.add (z.toNat * P.cellsOf e)).block = ad.block := by unfold Addr.add; split <;> rfl
        rw [this]; exact him) (fun j u hj => by rw [addAA]; exact hc j u hj) (hr _ hj)
      rwa [add0] at this
    · cases hs
  | sref id g cap n h hn =>
    simp only [idxSV, Option.map_eq_some_iff] at hs
    obtain ⟨j, h1, h3⟩ := hs
    cases h3
    obtain ⟨k, z, rfl, h0, hlt, rfl, hj⟩ := idx_some h1
    cases rep_int hvi
    refine ⟨_, run _ n cap k z h0 hlt, ?_⟩
    rw [addA]
    have := RepV.ptrE (P := P) (im := im) (w := w) (ρ := ρ) id g cap e z.toNat 0 h
    simpa using this
  | _ => simp [idxSV] at hs

theorem idxP_ok {vx vi : Value} {x i r : AV} {t e n : Nat} {inf : TypeInfo} (ht : P.underlying t = some (.array n e)) (hi : P.info? e = some inf) (h1 : inf.size = 1)
    (hx : RepV P im w ρ vx x) (hvi : RepV P im w ρ vi i)
    (hs : idxPV n x i = some r) : ∃ v, (Instr.indexAt t vx vi).run P w = .ok v w ∧ RepV P im w ρ v r := by
  cases hx with
  | ptr id g cap c h =>
    simp only [idxPV, Option.map_eq_some_iff] at hs
    obtain ⟨j, h2, h3⟩ := hs
    cases h3
    obtain ⟨k, z, rfl, h0, hlt, rfl, hj⟩ := idx_some h2
    cases rep_int hvi
    refine ⟨.pointer (some ⟨g, c + z.toNat, none⟩), ?_, .ptrA id g cap c _ h⟩
    have := addA g c (z.toNat * 1)
    simp [Instr.indexAt, asIntOf, run_underlying ht, h0, hlt, sizeOf, typeInfo, hi, h1, Instr.sureAddr]
    simpa using this
  | _ => simp [idxPV] at hs

theorem idxV_ok {vx vi : Value} {x i r : AV} {t e n : Nat} {inf : TypeInfo} {d : TypeDesc} (ht : P.underlying t = some (.array n e)) (hi : P.info? e = some inf) (h1 : inf.size = 1) (hd : P.underlying e = some d) (ha : isAggD d = false)
    (hx : RepV P im w ρ vx x) (hvi : RepV P im w ρ vi i)
    (hs : idxVV n x i = some r) : ∃ v, (Instr.index t vx vi).run P w = .ok v w ∧ RepV P im w ρ v r := by
  unfold idxVV at hs
  split at hs
  · rename_i l'
    simp only [Option.bind_eq_some_iff] at hs
    obtain ⟨j, h2, h3⟩ := hs
    obtain ⟨k, z, rfl, h0, hlt, rfl, hj⟩ := idx_some h2
    cases rep_int hvi
    obtain ⟨hj', rfl⟩ := List.getElem?_eq_some_iff.1 h3
    cases hx with
    | agg vs _ h =>
      cases h with
      | cons v x vs xs q1 _ _ => simp [AV.one] at q1
      | arr us _ vs _ o1 o2 o3 =>
        cases o3
        obtain ⟨hu, hrep⟩ := o2.at_ones o1 _ hj'
        refine ⟨us[z.toNat], ?_, hrep⟩
        have hag : (isAgg e).run P w = .ok false w := by
          simp only [isAgg, Sem.run_bind, run_underlying hd, Result.andThen_ok]
          cases d <;> simp_all [isAggD]
        simp [Instr.index, asIntOf, run_underlying ht, h0, hlt, sizeOf, typeInfo, hi, h1, part, hag, hu]
  · cases hs

theorem bound_some {a : Act} {env : Env} (he : EnvOK P im w ρ a env) {d top n : Nat} {x : Option Operand} {y : Option Opd} (ht : trOpt P x = some y) (h : bound (Opd.get env) d top y = some n) :
    (x = none ∧ n = d) ∨ ∃ o k z, x = some o ∧ a.eval o = .int k z ∧ 0 ≤ z ∧ z ≤ top ∧ z.toNat = n := by
  cases x with
  | none => simp [trOpt] at ht; subst ht; simp [bound] at h; exact .inl ⟨rfl, h.symm⟩
  | some o =>
    simp only [trOpt, Option.map_eq_some_iff] at ht
    obtain ⟨q, h1, rfl⟩ := ht
    have := trOpd_sound he h1
    simp only [bound] at h
    split at h
    · rename_i k z hq
      split at h
      · rename_i hc
        cases h
        rw [hq] at this
        exact .inr ⟨o, k, z, rfl, rep_int this, hc.1, hc.2, rfl⟩
      · cases h
    · cases h

theorem slice_run {a : Act} {env : Env} (he : EnvOK P im w ρ a env) {t e len cap b h : Nat} {A : Option Addr} {lo hi : Option Operand} {lo' hi' : Option Opd} {inf : TypeInfo} (ht : P.underlying t = some (.slice e)) (hin : P.info? e = some inf) (hlc : len ≤ cap)
    (h1 : trOpt P lo = some lo') (h2 : trOpt P hi = some hi') (b1 : bound (Opd.get env) len len hi' = some h) (b2 : bound (Opd.get env) 0 h lo' = some b) :
    (Instr.sliceAt t (.slice A len cap) (lo.map a.eval) (hi.map a.eval) none).run P w = .ok (.slice (if cap = b then A else A.map (·.add (b * P.cellsOf e))) (h - b) (cap - b)) w ∧ h ≤ len ∧ b ≤ h := by
  have hsz : P.cellsOf e = inf.size := by simp [Program.cellsOf, hin]
  have k1 : h ≤ len := by rcases bound_some he h2 b1 with ⟨_, rfl⟩ | ⟨o, k, z, _, _, _, h4, rfl⟩ <;> omega
  have k2 : b ≤ h := by rcases bound_some he h1 b2 with ⟨_, rfl⟩ | ⟨o, k, z, _, _, _, h4, rfl⟩ <;> omega
  refine ⟨?_, k1, k2⟩
  have run : (Instr.sliceBounds true len cap (lo.map a.eval) (hi.map a.eval) none).run P w = .ok (b, h, cap) w := by
    rcases bound_some he h2 b1 with ⟨rfl, rfl⟩ | ⟨o, k, z, rfl, e1, e2, e3, rfl⟩ <;> rcases bound_some he h1 b2 with ⟨rfl, rfl⟩ | ⟨o', k', z', rfl, f1, f2, f3, rfl⟩
    · simp [Instr.sliceBounds]
    · simp [Instr.sliceBounds, Instr.sliceBound, asIntOf, f1, f2, f3]
    · have : z ≤ (cap : Int) := by omega
      simp [Instr.sliceBounds, Instr.sliceBound, asIntOf, e1, e2, this]
    · have : z ≤ (cap : Int) := by omega
      simp [Instr.sliceBounds, Instr.sliceBound, asIntOf, e1, e2, this, f1, f2, f3]
      intro hh; omega
  simp [Instr.sliceAt, Instr.slice, run_underlying ht, run, sizeOf, typeInfo, hin, hsz]

/-- A slice of a slice that stays as it is. -/
theorem fz_cut {A : Option Addr} {cap e b h : Nat} {l : List (List AV)} (hv : RepV P im w ρ (.slice A l.length cap) (.fz e l)) (hl : h ≤ l.length) (hb : b ≤ h) :
    RepV P im w ρ (.slice (if cap = b then A else A.map (·.add (b * P.cellsOf e))) (h - b) (cap - b)) (.fz e ((l.take h).drop b)) := by
  generalize hn : l.length = n at hv
  cases hv with
  | fz _ _ _ _ us hA hlc hm ha hr =>
    have hA' : (if cap = b then A else A.map (·.add (b * P.cellsOf e))).isSome = true := by split <;> simp [hA]
    have hlen : ((l.take h).drop b).length = h - b := by simp; omega
    have := RepV.fz (P := P) (im := im) (w := w) (ρ := ρ) e (if cap = b then A else A.map (·.add (b * P.cellsOf e))) (cap - b) ((l.take h).drop b) (fun i => us (b + i)) hA' (by omega) (by omega) (fun i hi => by
      obtain ⟨ad, rfl, h2, h3, h4⟩ := ha (b + i) (by omega)
      have hcb : cap ≠ b := by omega
      refine ⟨ad.add (b * P.cellsOf e), by simp [hcb], ?_, h3, fun j u hu => ?_⟩
      · have : (ad.add (b * P.cellsOf e)).block = ad.block := by unfold Addr.add; split <;> rfl
        rw [this]; exact h2
      · rw [addAA, ← Nat.add_assoc, ← Nat.add_mul]; exact h4 j u hu) (fun i hi => by
      have : ((l.take h).drop b)[i] = l[b + i]'(by omega) := by simp
      rw [this]; exact hr (b + i) (by omega))
    rwa [hlen] at this

theorem bits_run (op : BinOp) (k : IntKind) (a b : Int) (h : op = .and ∨ op = .or ∨ op = .xor ∨ op = .andNot) : (Op.intBits op k a b).run P w = .ok (.int k (Go.bits op k a b)) w := by
  rcases h with rfl | rfl | rfl | rfl <;> simp [Op.intBits, Go.bits]

theorem bin_ok {op : BinOp} {t : TypeId} {vx vy : Value} {x y r : AV} (hx : RepV P im w ρ vx x) (hy : RepV P im w ρ vy y) (h : binV op x y = some r) :
    ∃ v, (binOp op t vx vy).run P w = .ok v w ∧ RepV P im w ρ v r ∧ ∀ (e1 e2 : Operand), (eqGuard op t e1 e2 vx vy).run P w = .ok () w := by
  have guard : ∀ {vx vy : Value}, (∀ cs, vx ≠ .agg cs) → vx ≠ .nilIface → ∀ (e1 e2 : Operand), (eqGuard op t e1 e2 vx vy).run P w = .ok () w := by
    intro vx vy h1 h2 e1 e2
    unfold eqGuard
    cases op <;> simp <;> (cases vx <;> simp_all)
  cases hx with
  | int k a =>
    cases hy with
    | int k' b =>
      simp only [binV] at h
      split at h
      · split at h
        · cases h
        · cases h
          refine ⟨_, ?_, .int _ _, guard (by simp) (by simp)⟩
          simp [binOp, Op.shift, *]
      · split at h
        · cases h
        · cases h
          refine ⟨_, ?_, .int _ _, guard (by simp) (by simp)⟩
          simp [binOp, Op.shift, *]
      · split at h
        · rename_i hk; subst hk
          unfold intBin at h
          split at h <;> first
            | (cases h; refine ⟨_, ?_, .int _ _, guard (by simp) (by simp)⟩; simp [binOp, Op.intArith]; done)
            | (cases h; refine ⟨_, ?_, .int _ _, guard (by simp) (by simp)⟩; simp [binOp]; exact bits_run _ _ _ _ (by simp))
            | (cases h; refine ⟨_, ?_, .bool _, guard (by simp) (by simp)⟩; simp [binOp, Op.intCmp]; done)
            | (split at h
               · cases h
               · cases h; refine ⟨_, ?_, .int _ _, guard (by simp) (by simp)⟩; simp [binOp, Op.intDiv, *]; done)
            | cases h
        · cases h
    | _ => simp [binV] at h
  | str a =>
    cases hy with
    | str b =>
      simp only [binV] at h
      split at h
      · cases h; exact ⟨_, by simp [binOp, Op.stringOp], .bool _, guard (by simp) (by simp)⟩
      · cases h; exact ⟨_, by simp [binOp, Op.stringOp], .bool _, guard (by simp) (by simp)⟩
      · cases h
    | _ => simp [binV] at h
  | flt a =>
    cases hy with
    | flt b =>
      simp only [binV] at h
      split at h
      · cases h; exact ⟨_, by simp [binOp, Op.floatCmp, Op.floatEq], .bool _, guard (by simp) (by simp)⟩
      · cases h; exact ⟨_, by simp [binOp, Op.floatCmp, Op.floatEq, bne], .bool _, guard (by simp) (by simp)⟩
      · cases h
    | _ => simp [binV] at h
  | _ => simp [binV] at h

theorem places_ok {fs : Array Field} (h : fs.toList.all (fun f => (P.info? f.type).isSome) = true) :
    ∃ places : Array (Nat × Nat), (∀ w, (fs.mapM fun f => (do pure (f.offset, ← sizeOf f.type) : Sem (Nat × Nat))).run P w = .ok places w) ∧ ∀ (i : Nat) (f : Field), fs[i]? = some f → ∀ q, fieldSz P f = some q → places[i]? = some q := by
  have key : ∀ (l : List Field), l.all (fun f => (P.info? f.type).isSome) = true → ∃ ps : List (Nat × Nat), (∀ w, (l.mapM fun f => (do pure (f.offset, ← sizeOf f.type) : Sem (Nat × Nat))).run P w = .ok ps w) ∧ ∀ (i : Nat) (f : Field), l[i]? = some f → ∀ q, fieldSz P f = some q → ps[i]? = some q := by
    intro l
    induction l with
    | nil => intro _; exact ⟨[], fun w => by simp, by simp⟩
    | cons f fs ih =>
      intro h
      simp only [List.all_cons, Bool.and_eq_true] at h
      obtain ⟨ps, h1, h2⟩ := ih h.2
      obtain ⟨i, hi⟩ := Option.isSome_iff_exists.1 h.1
      refine ⟨(f.offset, i.size) :: ps, fun w => ?_, fun k g hk q hq => ?_⟩
      · have hsz : (sizeOf f.type).run P w = .ok i.size w := by simp [sizeOf, typeInfo, hi]
        simp only [List.mapM_cons, Sem.run_bind, hsz, Result.andThen_ok, Sem.run_pure, h1 w]
      · cases k with
        | zero => simp at hk; subst hk; simp [fieldSz, hi] at hq; subst hq; rfl
        | succ k => simpa using h2 k g (by simpa using hk) q hq
  obtain ⟨ps, h1, h2⟩ := key fs.toList h
  refine ⟨ps.toArray, fun w => ?_, fun i f hi q hq => by simpa using h2 i f (by simpa using hi) q hq⟩
  rw [Array.mapM_eq_mapM_toList, Sem.run_map, h1 w]
  rfl
end
end Go.Sk
set_option linter.unusedVariables false
set_option linter.unusedSimpArgs false
namespace Go.Sk
open Go.RowKit

section
variable {P : Program} {im : Nat → Prop} {w w1 : World} {ρ : Nat → Loc} {rows rows1 : List Row}

theorem runs_v {s : Sem Value} {v : Value} {w' : World} (h : s.run P w = .ok v w') : (do Pure.pure (Next.value (← s)) : Sem Next).run P w = .ok (.value v) w' := by simp [h]

theorem eqB_run {t : TypeId} (hu : P.underlying t = some .bool) (p q : Bool) : (Op.equal t (.bool p) (.bool q)).run P w = .ok (p == q) w := by
  have : ∀ d, (Op.equalIn (d + 1) t (.bool p) (.bool q)).run P w = .ok (p == q) w := fun d => by simp [Op.equalIn, run_underlying hu]
  exact this 9999

theorem rep_agg {v : Value} {l : List AV} (h : RepV P im w ρ v (.agg l)) : ∃ us : List Value, v = .agg us.toArray ∧ RepL P im w ρ us l := by
  cases h with
  | agg vs l h => exact ⟨vs, rfl, h⟩

theorem eqFields_ints {d : Nat} {xs ys : Array Value} : ∀ (fs : List Field) (i : Nat) (p q : List AV) (us vs : List Value) (b : Bool), (fs.zipIdx i).all (fun p => p.1.name != "_" && p.1.offset == p.2 && (match P.underlying p.1.type with | some (.int _) => true | _ => false)) = true →
    RepL P im w ρ us p → RepL P im w ρ vs q → eqInts p q = some b → p.length = fs.length → (∀ j v, us[j]? = some v → xs[i + j]? = some v) → (∀ j v, vs[j]? = some v → ys[i + j]? = some v) → (Op.eqFields (d + 1) xs ys fs).run P w = .ok b w
  | [], i, p, q, us, vs, b, hf, h1, h2, hb, hl, k1, k2 => by
    simp at hl; subst hl
    cases q with
    | nil => simp [eqInts] at hb; subst hb; simp [Op.eqFields]
    | cons y ys => simp [eqInts] at hb
  | f :: fs, i, p, q, us, vs, b, hf, h1, h2, hb, hl, k1, k2 => by
    cases p with
    | nil => simp at hl
    | cons x p =>
      cases x with
      | int k n =>
        cases q with
        | nil => simp [eqInts] at hb
        | cons y q =>
          cases y with
          | int k' n' =>
            simp only [eqInts] at hb
            split at hb
            · rename_i hk
              subst hk
              simp only [Option.map_eq_some_iff] at hb
              obtain ⟨b', hb', rfl⟩ := hb
              simp only [List.zipIdx_cons, List.all_cons, Bool.and_eq_true, bne_iff_ne, beq_iff_eq] at hf
              obtain ⟨⟨⟨f1, f2⟩, f3⟩, f4⟩ := hf
              cases h1 with
              | cons v _ us _ o1 h1 hs1 =>
                cases h2 with
                | cons v' _ vs _ o2 h2 hs2 =>
                  cases h1; cases h2
                  have a1 := k1 0 _ rfl
                  have a2 := k2 0 _ rfl
                  rw [Nat.add_zero] at a1 a2
                  have hu : ∃ kk, P.underlying f.type = some (.int kk) := by
                    split at f3
                    · rename_i kk hkk; exact ⟨kk, hkk⟩
                    · cases f3
                  obtain ⟨kk, hkk⟩ := hu
                  have ih := eqFields_ints (d := d) (xs := xs) (ys := ys) fs (i + 1) p q us vs b' f4 hs1 hs2 hb' (by simpa using hl) (fun j v hj => by have := k1 (j + 1) v (by simpa using hj); rwa [show i + 1 + j = i + (j + 1) by omega]) (fun j v hj => by have := k2 (j + 1) v (by simpa using hj); rwa [show i + 1 + j = i + (j + 1) by omega])
                  have hp1 : (part f.type xs f.offset).run P w = .ok (.int k n) w := by simp [part, isAgg, run_underlying hkk, f2, a1]
                  have hp2 : (part f.type ys f.offset).run P w = .ok (.int k n') w := by simp [part, isAgg, run_underlying hkk, f2, a2]
                  simp only [Op.eqFields, ne_eq, f1, not_false_eq_true, if_true, Sem.run_bind, hp1, hp2, Result.andThen_ok, run_equalIn_int w d f.type k kk n n' hkk]
                  cases hnn : (n == n') with
                  | true => simp [ih]
                  | false => simp
              
            · cases hb
          | _ => simp [eqInts] at hb
      | _ => simp [eqInts] at hb

theorem eqStruct_run {t : TypeId} {fs : Array Field} {us vs : List Value} {p q : List AV} {b : Bool} (hu : P.underlying t = some (.struct fs)) (hi : intFields P fs = true) (hs : P.stoodInHeld t = false)
    (h1 : RepL P im w ρ us p) (h2 : RepL P im w ρ vs q) (hb : eqInts p q = some b) (hl : p.length = fs.size) : (Op.equal t (.agg us.toArray) (.agg vs.toArray)).run P w = .ok b w := by
  have hf : P.fieldsOf t = fs := by simp [Program.fieldsOf, hu]
  have := run_equalIn_struct (P := P) w 9999 t us.toArray vs.toArray (by rw [hf]; exact hu) hs
  show (Op.equalIn (9999 + 1) t _ _).run P w = _
  rw [this, hf]
  exact eqFields_ints (d := 9998) fs.toList 0 p q us vs b hi h1 h2 hb (by simpa using hl) (fun j v hj => by simpa using hj) (fun j v hj => by simpa using hj)

theorem arr1 {α : Type} {xs : Array α} {x : α} (h : xs.toList = [x]) : xs = #[x] := by cases xs; simp at h; simp [h]
theorem arr2 {α : Type} {xs : Array α} {x y : α} (h : xs.toList = [x, y]) : xs = #[x, y] := by cases xs; simp at h; simp [h]

theorem mm_run (k : IntKind) (mx : Bool) (p q : Int) (ats : Array TypeId) (ty : TypeId) :
    (if mx then Builtin.max_ ats ty #[.int k p, .int k q] else Builtin.min_ ats ty #[.int k p, .int k q]).run P w = .ok (.int k (if mx then (if p < q then q else p) else (if q < p then q else p))) w := by
  cases mx <;> simp [Builtin.max_, Builtin.min_, Builtin.max2, Builtin.min2]

theorem next_bits : Extern.allNextRows.lookup "math.Float64bits" = none := by kernel_rfl
theorem next_from : Extern.allNextRows.lookup "math.Float64frombits" = none := by kernel_rfl
theorem next_none : Extern.allNextRows.lookup "" = none := by kernel_rfl
theorem gen_bits : Extern.allGenericRows.lookup "math.Float64bits" = none := by kernel_rfl
theorem gen_from : Extern.allGenericRows.lookup "math.Float64frombits" = none := by kernel_rfl
theorem typed_bits : Extern.allTypedRows.lookup "math.Float64bits" = none := by kernel_rfl
theorem typed_from : Extern.allTypedRows.lookup "math.Float64frombits" = none := by kernel_rfl
theorem row_bits : Extern.allRows.lookup "math.Float64bits" = some Extern.MathFloatBits.float64bits := by kernel_rfl
theorem row_from : Extern.allRows.lookup "math.Float64frombits" = some Extern.MathFloatBits.float64frombits := by kernel_rfl

theorem fb_eq (b : Nat) : Extern.MathFloatBits.float64bits #[.float .f64 b] = pure (.int .u64 b) := rfl
theorem ff_eq (n : Int) : Extern.MathFloatBits.float64frombits #[.int .u64 n] = pure (.float .f64 n.toNat) := rfl

theorem bits_call {f : FuncId} {fn : Func} (hf : P.funcs[f]? = some fn) (hb : ¬ fn.body.isSome = true) (hn : fn.name = "math.Float64bits" ∧ fn.origin = "") (b : Nat) :
    (callFunc f #[.float .f64 b]).run P w = .ok (.value (.int .u64 b)) w := by
  have h1 : Extern.findNext fn = none := by simp [Extern.findNext, hn.1, hn.2, next_bits, next_none]
  have h2 : Extern.find fn = some Extern.MathFloatBits.float64bits := by simp [Extern.find, hn.1, gen_bits, typed_bits, row_bits]
  have hb' : fn.body = none := by simpa using hb
  simp [callFunc, hf, hn.1, hb', h1, h2, fb_eq]

theorem from_call {f : FuncId} {fn : Func} (hf : P.funcs[f]? = some fn) (hb : ¬ fn.body.isSome = true) (hn : fn.name = "math.Float64frombits" ∧ fn.origin = "") (n : Int) :
    (callFunc f #[.int .u64 n]).run P w = .ok (.value (.float .f64 n.toNat)) w := by
  have h1 : Extern.findNext fn = none := by simp [Extern.findNext, hn.1, hn.2, next_from, next_none]
  have h2 : Extern.find fn = some Extern.MathFloatBits.float64frombits := by simp [Extern.find, hn.1, gen_from, typed_from, row_from]
  have hb' : fn.body = none := by simpa using hb
  simp [callFunc, hf, hn.1, hb', h1, h2, ff_eq]

theorem call_sound (hW : WF P im w ρ rows) {a : Act} {env : Env} (he : EnvOK P im w ρ a env) {c : Call} {m : MOp} {r : AV} {rows' : List Row} {dst ty pos aft gd}
    (ht : trCall P c = some m) (hs : stepOp (Opd.get env) rows m = some (r, rows')) : Done P (execOp a.eval ⟨dst, .call c, ty, pos, aft, gd⟩) im w ρ rows r rows' := by
  obtain ⟨callee, args, argTypes⟩ := c
  cases callee with
  | invoke _ _ => simp [trCall] at ht
  | builtin b =>
    simp only [trCall] at ht
    unfold trBuiltin at ht
    split at ht
    · rename_i x t ea et
      cases arr1 ea; cases arr1 et
      split at ht
      · rename_i e hu
        rw [Option.map_eq_some_iff] at ht
        obtain ⟨y, h1, rfl⟩ := ht
        have hx := trOpd_sound he h1
        simp only [stepOp, Option.map_eq_some_iff, Prod.mk.injEq] at hs
        obtain ⟨n, h2, rfl, rfl⟩ := hs
        have key : ∃ A c, a.eval x = .slice A n.toNat c ∧ 0 ≤ n := by
          generalize a.eval x = vx at hx
          generalize y.get env = yy at hx h2
          cases hx <;> simp [lenV] at h2 <;> subst h2
          · exact ⟨_, _, rfl, by simp⟩
          · exact ⟨_, _, rfl, by simp⟩
          · exact ⟨_, _, rfl, by simp⟩
        obtain ⟨A, c, e1, e2⟩ := key
        refine ⟨w, im, ρ, .int .i64 n, .inl ?_, hW, Ext.refl _ _ _ _, .int _ _⟩
        simp [execOp, resolve, invoke, builtin, e1, Builtin.len_, run_underlying hu, goInt, e2]
        omega
      · rename_i hu
        rw [Option.map_eq_some_iff] at ht
        obtain ⟨y, h1, rfl⟩ := ht
        have hx := trOpd_sound he h1
        simp only [stepOp] at hs
        split at hs
        · rename_i s hy
          cases hs
          rw [hy] at hx
          have e1 : a.eval x = .string s := by generalize a.eval x = vx at hx; cases hx; rfl
          refine ⟨w, im, ρ, .int .i64 s.size, .inl ?_, hW, Ext.refl _ _ _ _, .int _ _⟩
          simp [execOp, resolve, invoke, builtin, e1, Builtin.len_, run_underlying hu, goInt]
        · cases hs
      · cases ht
    · rename_i x y t t' ea et
      cases arr2 ea; cases arr2 et
      split at ht
      · rename_i htt; subst htt
        split at ht
        · rename_i e hu
          split at ht
          · rename_i i hi
            split at ht
            · rename_i z hz
              split at ht
              · rename_i hc
                simp only [Option.bind_eq_some_iff, Option.map_eq_some_iff] at ht
                obtain ⟨x', h1, y', h2, rfl⟩ := ht
                simp only [stepOp, Option.bind_eq_some_iff] at hs
                obtain ⟨ys, h3, h4⟩ := hs
                obtain ⟨v, w', ρ', a1, a2, a3, a4⟩ := app_sound hW (ty := ty) hu hi hz hc.1 hc.2.1 (by rw [Nat.mul_comm]; exact Nat.mul_div_le _ _) (Nat.le_trans (Nat.div_le_self _ _) (by decide)) (trOpd_sound he h1) (trOpd_sound he h2) h3 h4
                refine ⟨w', im, ρ', v, .inl ?_, a2, a3, a4⟩
                simp [execOp, resolve, invoke, builtin, a1]
              · cases ht
            · cases ht
          · cases ht
        · cases ht
      · cases ht
    · rename_i x y ats ea
      cases arr2 ea
      simp only [Option.bind_eq_some_iff, Option.map_eq_some_iff] at ht
      obtain ⟨x', h1, y', h2, rfl⟩ := ht
      have hx := trOpd_sound he h1
      have hy := trOpd_sound he h2
      simp only [stepOp] at hs
      split at hs
      · rename_i k p k' q hp hq
        split at hs
        · rename_i hk; subst hk
          cases hs
          rw [hp] at hx; rw [hq] at hy
          refine ⟨w, im, ρ, _, .inl ?_, hW, Ext.refl _ _ _ _, .int _ _⟩
          have := mm_run (P := P) (w := w) k false p q argTypes ty
          simp at this
          simp [execOp, resolve, invoke, builtin, rep_int hx, rep_int hy, this]
        · cases hs
      · cases hs
    · rename_i x y ats ea
      cases arr2 ea
      simp only [Option.bind_eq_some_iff, Option.map_eq_some_iff] at ht
      obtain ⟨x', h1, y', h2, rfl⟩ := ht
      have hx := trOpd_sound he h1
      have hy := trOpd_sound he h2
      simp only [stepOp] at hs
      split at hs
      · rename_i k p k' q hp hq
        split at hs
        · rename_i hk; subst hk
          cases hs
          rw [hp] at hx; rw [hq] at hy
          refine ⟨w, im, ρ, _, .inl ?_, hW, Ext.refl _ _ _ _, .int _ _⟩
          have := mm_run (P := P) (w := w) k true p q argTypes ty
          simp at this
          simp [execOp, resolve, invoke, builtin, rep_int hx, rep_int hy, this]
        · cases hs
      · cases hs
    · cases ht
  | value f =>
    cases f with
    | func f =>
      simp only [trCall, trFunc] at ht
      split at ht
      · rename_i fn hfn
        split at ht
        · cases ht
        · rename_i hng
          split at ht
          · rw [Option.map_eq_some_iff] at ht
            obtain ⟨as, h1, rfl⟩ := ht
            simp [stepOp] at hs
          · rename_i hbody
            split at ht
            · rename_i x ea
              cases arr1 ea
              split at ht
              · rename_i hname
                rw [Option.map_eq_some_iff] at ht
                obtain ⟨y, h1, rfl⟩ := ht
                have hx := trOpd_sound he h1
                simp only [stepOp] at hs
                split at hs
                · rename_i b hy
                  cases hs
                  rw [hy] at hx
                  have e1 : a.eval x = .float .f64 b := by generalize a.eval x = vx at hx; cases hx; rfl
                  refine ⟨w, im, ρ, _, .inl ?_, hW, Ext.refl _ _ _ _, .int _ _⟩
                  have := bits_call (P := P) (w := w) hfn hbody hname b
                  simp [execOp, resolve, Deferred.ofValue, Act.eval] at e1 this ⊢
                  simp [e1, this, invoke]
                · cases hs
              · split at ht
                · rename_i hname
                  rw [Option.map_eq_some_iff] at ht
                  obtain ⟨y, h1, rfl⟩ := ht
                  have hx := trOpd_sound he h1
                  simp only [stepOp] at hs
                  split at hs
                  · rename_i b hy
                    cases hs
                    rw [hy] at hx
                    have e1 := rep_int hx
                    refine ⟨w, im, ρ, _, .inl ?_, hW, Ext.refl _ _ _ _, .flt _⟩
                    have := from_call (P := P) (w := w) hfn hbody hname b
                    simp [execOp, resolve, Deferred.ofValue, Act.eval] at e1 this ⊢
                    simp [e1, this, invoke]
                  · cases hs
                · cases ht
            · cases ht
      · cases ht
    | _ => simp [trCall] at ht

set_option maxHeartbeats 1000000 in
theorem op_sound (hW : WF P im w ρ rows) {a : Act} {env : Env} (he : EnvOK P im w ρ a env) {o : Oper} {m : MOp} {r : AV} {rows' : List Row}
    (ht : trOp P o = some m) (hs : stepOp (Opd.get env) rows m = some (r, rows')) : Done P (execOp a.eval o) im w ρ rows r rows' := by
  obtain ⟨dst, op, ty, pos, aft, gd⟩ := o
  cases op with
  | move x =>
    simp only [trOp, Option.map_eq_some_iff] at ht
    obtain ⟨y, h1, rfl⟩ := ht
    simp only [stepOp, Option.some.injEq, Prod.mk.injEq] at hs
    obtain ⟨rfl, rfl⟩ := hs
    exact ⟨w, im, ρ, _, .inl rfl, hW, Ext.refl _ _ _ _, trOpd_sound he h1⟩
  | assign x =>
    simp only [trOp, Option.map_eq_some_iff] at ht
    obtain ⟨y, h1, rfl⟩ := ht
    simp only [stepOp, Option.some.injEq, Prod.mk.injEq] at hs
    obtain ⟨rfl, rfl⟩ := hs
    exact ⟨w, im, ρ, _, .inl rfl, hW, Ext.refl _ _ _ _, trOpd_sound he h1⟩
  | pick c x y =>
    simp only [trOp, Option.bind_eq_some_iff, Option.map_eq_some_iff] at ht
    obtain ⟨c', h1, x', h2, y', h3, rfl⟩ := ht
    simp only [stepOp] at hs
    split at hs
    · rename_i b hb
      cases hs
      have hc := trOpd_sound he h1
      rw [hb] at hc
      have := rep_bool hc
      refine ⟨w, im, ρ, if b then a.eval x else a.eval y, .inl ?_, hW, Ext.refl _ _ _ _, ?_⟩
      · simp [execOp, this, asBool]
      · cases b
        · exact trOpd_sound he h3
        · exact trOpd_sound he h2
    · cases hs
  | alloc t =>
    simp only [trOp, Option.map_eq_some_iff] at ht
    obtain ⟨z, h1, rfl⟩ := ht
    simp only [stepOp, Option.some.injEq, Prod.mk.injEq] at hs
    obtain ⟨rfl, rfl⟩ := hs
    obtain ⟨v, w', ρ', a1, a2, a3, a4⟩ := new_sound hW h1
    exact Done.of a1 a2 a3 a4
  | box t x =>
    simp only [trOp, Option.map_eq_some_iff] at ht
    obtain ⟨y, h1, rfl⟩ := ht
    simp only [stepOp, Option.map_eq_some_iff, Prod.mk.injEq] at hs
    obtain ⟨l, h2, rfl, rfl⟩ := hs
    obtain ⟨w', ρ', a1, a2, a3, a4⟩ := box_sound hW t (items_sound (trOpd_sound he h1) h2)
    exact Done.of a1 a2 a3 a4
  | build t ps =>
    simp only [trOp] at ht
    split at ht
    · rename_i fs hu
      split at ht
      · rename_i hall
        simp only [Option.bind_eq_some_iff, Option.map_eq_some_iff] at ht
        obtain ⟨z, h1, qs, h2, rfl⟩ := ht
        simp only [stepOp, Option.map_eq_some_iff, Prod.mk.injEq] at hs
        obtain ⟨l, h3, rfl, rfl⟩ := hs
        obtain ⟨places, p1, p2⟩ := places_ok hall
        obtain ⟨v, a1, a2⟩ := build_sound (c := a.eval) (g := Opd.get env) hu h1 p1 (trFields_sound he p2 h2) h3
        exact Done.of a1 hW (Ext.refl _ _ _ _) a2
      · cases ht
    · rename_i n e hu
      split at ht
      · rename_i hc
        simp only [Option.map_eq_some_iff] at ht
        obtain ⟨z, h1, rfl⟩ := ht
        simp only [stepOp, putParts, Option.map_some, Option.some.injEq, Prod.mk.injEq] at hs
        obtain ⟨rfl, rfl⟩ := hs
        simp only [Bool.and_eq_true, Array.isEmpty_iff] at hc
        obtain ⟨hi, rfl⟩ := hc
        obtain ⟨i, hi⟩ := Option.isSome_iff_exists.1 hi
        obtain ⟨z0, k1, k2⟩ := zeroI_sound h1 im w ρ
        have hsz : (sizeOf e).run P w = .ok i.size w := by simp [sizeOf, typeInfo, hi]
        refine Done.of (v := .agg z0.cells) ?_ hW (Ext.refl _ _ _ _) (by have := RepV.agg _ _ k2; simpa using this)
        simp [Instr.build, k1, run_underlying hu, hsz, Instr.fill]
      · cases ht
    · cases ht
  | buildSlice t n ps =>
    simp only [trOp] at ht
    split at ht
    · rename_i e hu
      split at ht
      · rename_i i z hi hz
        split at ht
        · rename_i hc
          simp only [Option.map_eq_some_iff] at ht
          obtain ⟨qs, h1, rfl⟩ := ht
          simp only [stepOp, Option.map_eq_some_iff, Prod.mk.injEq] at hs
          obtain ⟨⟨l', r'⟩, h2, rfl, rfl⟩ := hs
          obtain ⟨v, w', im', ρ', a1, a2, a3, a4⟩ := bslice_sound (c := a.eval) hW hu hi hz hc.1 hc.2.1 hc.2.2 (trParts_sound he h1) h2
          exact Done.of a1 a2 a3 a4
        · cases ht
      · cases ht
    · cases ht
  | load t x =>
    simp only [trOp] at ht
    split at ht
    · rename_i d i hd hi
      simp only [Option.map_eq_some_iff] at ht
      obtain ⟨y, h1, rfl⟩ := ht
      simp only [stepOp, Option.bind_eq_some_iff, Option.map_eq_some_iff, Prod.mk.injEq] at hs
      obtain ⟨l, h2, m, h3, q, hr, rfl, rfl⟩ := hs
      obtain ⟨u, a1, a2⟩ := load_sound hW (trOpd_sound he h1) h2 h3 hd (by simp [Program.cellsOf, hi]) (by simp [hi]) rfl hr
      exact Done.of a1 hW (Ext.refl _ _ _ _) a2
    · cases ht
  | store t p x =>
    simp only [trOp] at ht
    split at ht
    · rename_i i hi
      simp only [Option.bind_eq_some_iff, Option.map_eq_some_iff] at ht
      obtain ⟨p', h1, x', h2, rfl⟩ := ht
      simp only [stepOp, Option.bind_eq_some_iff] at hs
      obtain ⟨l, h3, h4⟩ := hs
      split at h4
      · rename_i hw
        simp only [Option.map_eq_some_iff, Prod.mk.injEq] at h4
        obtain ⟨r', h5, rfl, rfl⟩ := h4
        obtain ⟨w', im', a1, a2, a3, _⟩ := store_sound (t := t) hW (trOpd_sound he h1) (trOpd_sound he h2) h3 hw (by simp [Program.cellsOf, hi]) (by simp [hi]) h5
        exact ⟨w', im', ρ, undef, .inr ⟨by simp [execOp, a1], rfl⟩, a2, a3, .un _⟩
      · cases h4
    · cases ht
  | nilCheck x =>
    simp only [trOp, Option.map_eq_some_iff] at ht
    obtain ⟨y, h1, rfl⟩ := ht
    have hx := trOpd_sound he h1
    simp only [stepOp] at hs
    generalize a.eval x = vx at hx
    generalize hy : y.get env = yy at hx hs
    have key : ∃ ad, a.eval x = .pointer (some ad) ∧ RepV P im w ρ (.pointer (some ad)) r ∧ rows' = rows := by
      have hx' := trOpd_sound he h1
      rw [hy] at hx'
      generalize a.eval x = vx at hx'
      cases hx' <;> simp at hs
      · obtain ⟨rfl, rfl⟩ := hs; rename_i h; exact ⟨_, rfl, .ptr _ _ _ _ h, rfl⟩
      · obtain ⟨rfl, rfl⟩ := hs; rename_i h; exact ⟨_, rfl, .ptrA _ _ _ _ _ h, rfl⟩
      · obtain ⟨rfl, rfl⟩ := hs; rename_i h; exact ⟨_, rfl, .ptrE _ _ _ _ _ _ h, rfl⟩
      · obtain ⟨rfl, rfl⟩ := hs; rename_i hb hu hr; exact ⟨_, rfl, .pz _ _ _ _ hb hu hr, rfl⟩
    obtain ⟨ad, e1, e2, rfl⟩ := key
    exact ⟨w, im, ρ, _, .inl (by simp [execOp, e1]), hW, Ext.refl _ _ _ _, e2⟩
  | binOp op t x y yt =>
    simp only [trOp] at ht
    have intcase : ∀ {x' y' : Opd}, trOpd P none x = some x' → trOpd P none y = some y' → stepOp (Opd.get env) rows (.bin op x' y') = some (r, rows') → Done P (execOp a.eval ⟨dst, .binOp op t x y yt, ty, pos, aft, gd⟩) im w ρ rows r rows' := by
      intro x' y' h1 h2 hs
      simp only [stepOp, Option.map_eq_some_iff, Prod.mk.injEq] at hs
      obtain ⟨r', h3, rfl, rfl⟩ := hs
      obtain ⟨v, a1, a2, a3⟩ := bin_ok (P := P) (w := w) (t := t) (trOpd_sound he h1) (trOpd_sound he h2) h3
      exact ⟨w, im, ρ, v, .inl (by simp [execOp, a1, a3]), hW, Ext.refl _ _ _ _, a2⟩
    split at ht
    · rename_i hu
      simp only [Option.bind_eq_some_iff] at ht
      obtain ⟨x', h1, y', h2, h3⟩ := ht
      have hx := trOpd_sound he h1
      have hy := trOpd_sound he h2
      have go : ∀ neg, m = .eqB neg x' y' → ∃ p q, a.eval x = .bool p ∧ a.eval y = .bool q ∧ r = .bool (if neg then !(p == q) else p == q) ∧ rows' = rows := by
        rintro neg rfl
        simp only [stepOp] at hs
        split at hs
        · rename_i p q hp hq
          simp only [Option.some.injEq, Prod.mk.injEq] at hs
          rw [hp] at hx; rw [hq] at hy
          exact ⟨p, q, rep_bool hx, rep_bool hy, hs.1.symm, hs.2.symm⟩
        · cases hs
      split at h3
      · obtain ⟨p, q, e1, e2, rfl, rfl⟩ := go false (by cases h3; rfl)
        refine ⟨w, im, ρ, .bool (p == q), .inl ?_, hW, Ext.refl _ _ _ _, .bool _⟩
        simp [execOp, e1, e2, eqGuard, binOp, eqB_run hu]
      · obtain ⟨p, q, e1, e2, rfl, rfl⟩ := go true (by cases h3; rfl)
        refine ⟨w, im, ρ, .bool (!(p == q)), .inl ?_, hW, Ext.refl _ _ _ _, .bool _⟩
        simp [execOp, e1, e2, eqGuard, binOp, eqB_run hu]
      · cases h3
    · simp only [Option.bind_eq_some_iff, Option.map_eq_some_iff] at ht
      obtain ⟨x', h1, y', h2, rfl⟩ := ht
      exact intcase h1 h2 hs
    · simp only [Option.bind_eq_some_iff, Option.map_eq_some_iff] at ht
      obtain ⟨x', h1, y', h2, rfl⟩ := ht
      exact intcase h1 h2 hs
    · simp only [Option.bind_eq_some_iff, Option.map_eq_some_iff] at ht
      obtain ⟨x', h1, y', h2, rfl⟩ := ht
      exact intcase h1 h2 hs
    · rename_i fs hu
      split at ht
      · rename_i hc
        simp only [Bool.and_eq_true, Bool.not_eq_true'] at hc
        obtain ⟨⟨hc1, hc2⟩, hc3⟩ := hc
        simp only [Option.bind_eq_some_iff] at ht
        obtain ⟨x', h1, y', h2, h3⟩ := ht
        have hx := trOpd_sound he h1
        have hy := trOpd_sound he h2
        have go : ∀ neg, m = .eqI fs.size neg x' y' → ∃ (us vs : List Value) (b : Bool), a.eval x = .agg us.toArray ∧ a.eval y = .agg vs.toArray ∧ r = .bool (if neg then !b else b) ∧ rows' = rows ∧ (Op.equal t (.agg us.toArray) (.agg vs.toArray)).run P w = .ok b w := by
          rintro neg rfl
          simp only [stepOp] at hs
          split at hs
          · rename_i p q hp hq
            split at hs
            · rename_i hlen
              simp only [Option.map_eq_some_iff, Prod.mk.injEq] at hs
              obtain ⟨b, hb, rfl, rfl⟩ := hs
              rw [hp] at hx; rw [hq] at hy
              obtain ⟨us, e1, k1⟩ := rep_agg hx
              obtain ⟨vs, e2, k2⟩ := rep_agg hy
              exact ⟨us, vs, b, e1, e2, rfl, rfl, eqStruct_run hu hc1 hc2 k1 k2 hb hlen⟩
            · cases hs
          · cases hs
        split at h3
        · obtain ⟨us, vs, b, e1, e2, rfl, rfl, hb⟩ := go false (by cases h3; rfl)
          refine ⟨w, im, ρ, .bool b, .inl ?_, hW, Ext.refl _ _ _ _, .bool _⟩
          simp [execOp, e1, e2, run_eqGuard_agg w .eql t x y _ _ hc3, binOp, hb]
        · obtain ⟨us, vs, b, e1, e2, rfl, rfl, hb⟩ := go true (by cases h3; rfl)
          refine ⟨w, im, ρ, .bool (!b), .inl ?_, hW, Ext.refl _ _ _ _, .bool _⟩
          simp [execOp, e1, e2, run_eqGuard_agg w .neq t x y _ _ hc3, binOp, hb]
        · cases h3
      · cases ht
    · cases ht
  | unOp op t x =>
    cases op <;> simp only [trOp] at ht <;> try (simp at ht; done)
    simp only [Option.map_eq_some_iff] at ht
    obtain ⟨y, h1, rfl⟩ := ht
    have hx := trOpd_sound he h1
    simp only [stepOp] at hs
    split at hs
    · rename_i b hb
      cases hs
      rw [hb] at hx
      exact ⟨w, im, ρ, .bool !b, .inl (by simp [execOp, rep_bool hx, Op.unary]), hW, Ext.refl _ _ _ _, .bool _⟩
    · cases hs
  | convert s d x =>
    simp only [trOp] at ht
    split at ht
    · rename_i ds k hs' hd
      simp only [Option.map_eq_some_iff] at ht
      obtain ⟨y, h1, rfl⟩ := ht
      have hx := trOpd_sound he h1
      simp only [stepOp] at hs
      split at hs
      · rename_i k' n hn
        cases hs
        rw [hn] at hx
        refine ⟨w, im, ρ, .int k (k.wrap n), .inl ?_, hW, Ext.refl _ _ _ _, .int _ _⟩
        simp [execOp, rep_int hx, convert, run_underlying hs', run_underlying hd, Conv.intToInt]
      · cases hs
    · cases ht
  | fieldAddr s x f =>
    simp only [trOp] at ht
    split at ht
    · rename_i fs hu
      simp only [Option.bind_eq_some_iff] at ht
      obtain ⟨fd, h0, ht⟩ := ht
      split at ht
      · rename_i i hi
        split at ht
        · cases ht
        · rename_i hsz
          simp only [Option.map_eq_some_iff] at ht
          obtain ⟨y, h1, rfl⟩ := ht
          have hx := trOpd_sound he h1
          simp only [stepOp] at hs
          have run : ∀ ad, a.eval x = .pointer (some ad) → (execOp a.eval ⟨dst, .fieldAddr s x f, ty, pos, aft, gd⟩).run P w = .ok (.value (.pointer (some (ad.add fd.offset)))) w := by
            intro ad hv
            have hso : (sizeOf fd.type).run P w = .ok i.size w := by simp [sizeOf, typeInfo, hi]
            have hfp : (fieldPlace ad fd).run P w = .ok (ad.add fd.offset) w := by
              unfold fieldPlace
              simp only [Sem.run_bind, hso, Result.andThen_ok]
              rw [if_neg hsz]
              simp
            have hfa : (Instr.fieldAt s (.pointer (some ad)) f).run P w = .ok (.pointer (some (ad.add fd.offset))) w := by
              unfold Instr.fieldAt
              simp only [Sem.run_bind, run_underlying hu, Result.andThen_ok, h0]
              simp [Instr.sureAddr, hfp]
            simp only [execOp, hv]
            exact runs_v hfa
          generalize hvx : a.eval x = vx at hx
          generalize y.get env = yy at hx hs
          cases hx <;> simp at hs
          · rename_i id g cap c h
            obtain ⟨rfl, rfl⟩ := hs
            refine ⟨w, im, ρ, _, .inl (run _ hvx), hW, Ext.refl _ _ _ _, ?_⟩
            rw [addA]; exact .ptr _ _ _ _ h
          · rename_i id g cap e i c h
            obtain ⟨rfl, rfl⟩ := hs
            refine ⟨w, im, ρ, _, .inl (run _ hvx), hW, Ext.refl _ _ _ _, ?_⟩
            rw [addA, Nat.add_assoc]; exact .ptrE _ _ _ _ _ _ h
          · rename_i ad us items c hb hu' hr
            obtain ⟨rfl, rfl⟩ := hs
            refine ⟨w, im, ρ, _, .inl (run _ hvx), hW, Ext.refl _ _ _ _, ?_⟩
            rw [addAA]; exact .pz _ _ _ _ hb hu' hr
      · cases ht
    · cases ht
  | indexAddr t x i =>
    simp only [trOp] at ht
    split at ht
    · rename_i e hu
      split at ht
      · rename_i inf hi
        simp only [Option.bind_eq_some_iff, Option.map_eq_some_iff] at ht
        obtain ⟨x', h1, i', h2, rfl⟩ := ht
        simp only [stepOp, Option.map_eq_some_iff, Prod.mk.injEq] at hs
        obtain ⟨q, hs, rfl, rfl⟩ := hs
        obtain ⟨v, a1, a2⟩ := idxS_ok hW hu hi (trOpd_sound he h1) (trOpd_sound he h2) hs
        exact ⟨w, im, ρ, v, .inl (runs_v a1), hW, Ext.refl _ _ _ _, a2⟩
      · cases ht
    · rename_i n e hu
      split at ht
      · rename_i inf hi
        split at ht
        · rename_i hsz
          simp only [Option.bind_eq_some_iff, Option.map_eq_some_iff] at ht
          obtain ⟨x', h1, i', h2, rfl⟩ := ht
          simp only [stepOp, Option.map_eq_some_iff, Prod.mk.injEq] at hs
          obtain ⟨q, hs, rfl, rfl⟩ := hs
          obtain ⟨v, a1, a2⟩ := idxP_ok (w := w) hu hi hsz (trOpd_sound he h1) (trOpd_sound he h2) hs
          exact ⟨w, im, ρ, v, .inl (runs_v a1), hW, Ext.refl _ _ _ _, a2⟩
        · cases ht
      · cases ht
    · cases ht
  | index t x i =>
    simp only [trOp] at ht
    split at ht
    · rename_i n e hu
      split at ht
      · rename_i inf d hi hd
        split at ht
        · rename_i hsz
          simp only [Option.bind_eq_some_iff, Option.map_eq_some_iff] at ht
          obtain ⟨x', h1, i', h2, rfl⟩ := ht
          simp only [stepOp, Option.map_eq_some_iff, Prod.mk.injEq] at hs
          obtain ⟨q, hs, rfl, rfl⟩ := hs
          obtain ⟨v, a1, a2⟩ := idxV_ok (w := w) hu hi hsz.1 hd hsz.2 (trOpd_sound he h1) (trOpd_sound he h2) hs
          exact ⟨w, im, ρ, v, .inl (runs_v a1), hW, Ext.refl _ _ _ _, a2⟩
        · cases ht
      · cases ht
    · cases ht
  | slice t x lo hi mx =>
    cases mx with
    | some _ => simp [trOp] at ht
    | none =>
    simp only [trOp] at ht
    split at ht
    · rename_i e hu
      split at ht
      · rename_i inf hin
        simp only [Option.bind_eq_some_iff, Option.map_eq_some_iff] at ht
        obtain ⟨x', h1, lo', h2, hi', h3, rfl⟩ := ht
        have hx := trOpd_sound he h1
        simp only [stepOp] at hs
        generalize hvx : a.eval x = vx at hx
        generalize x'.get env = yy at hx hs
        have run : ∀ {v w'}, (Instr.sliceAt t vx (lo.map a.eval) (hi.map a.eval) none).run P w = .ok v w' → (execOp a.eval ⟨dst, .slice t x lo hi none, ty, pos, aft, gd⟩).run P w = .ok (.value v) w' := by
          intro v w' h
          simp only [execOp, hvx]
          exact runs_v h
        cases hx with
        | fz e' A cap l us hA hl hm ha hr =>
          simp only at hs
          split at hs
          · rename_i hee; subst hee
            simp only [Option.bind_eq_some_iff, Option.map_eq_some_iff, Prod.mk.injEq] at hs
            obtain ⟨h, b1, b, b2, rfl, rfl⟩ := hs
            obtain ⟨k1, k2, k3⟩ := slice_run he (A := A) (cap := cap) hu hin hl h2 h3 b1 b2
            exact ⟨w, im, ρ, _, .inl (run k1), hW, Ext.refl _ _ _ _, fz_cut (.fz e A cap l us hA hl hm ha hr) k2 k3⟩
          · cases hs
        | nil e' =>
          simp only [Option.bind_eq_some_iff, Option.map_eq_some_iff, Prod.mk.injEq] at hs
          obtain ⟨h, b1, b, b2, rfl, rfl⟩ := hs
          obtain ⟨k1, k2, k3⟩ := slice_run he (A := none) (cap := 0) (len := 0) hu hin (Nat.le_refl _) h2 h3 b1 b2
          refine ⟨w, im, ρ, _, .inl (run k1), hW, Ext.refl _ _ _ _, ?_⟩
          have hb : b = 0 := by omega
          have hh : h = 0 := by omega
          subst hb; subst hh
          simpa using RepV.nil (P := P) (im := im) (w := w) (ρ := ρ) e'
        | sref id g cap n hid hn =>
          simp only [Option.bind_eq_some_iff] at hs
          obtain ⟨h, b1, hs⟩ := hs
          cases lo' with
          | none =>
            simp only [Option.some.injEq, Prod.mk.injEq] at hs
            obtain ⟨rfl, rfl⟩ := hs
            obtain ⟨k1, k2, k3⟩ := slice_run he (A := some ⟨g, 0, none⟩) (cap := cap) (len := n) hu hin hn h2 h3 b1 (b := 0) rfl
            refine ⟨w, im, ρ, _, .inl (run k1), hW, Ext.refl _ _ _ _, ?_⟩
            have := RepV.sref (P := P) (im := im) (w := w) (ρ := ρ) id g cap h hid (by omega)
            simpa [add0] using this
          | some q =>
            simp only [Option.bind_eq_some_iff] at hs
            obtain ⟨b, b2, ⟨y, r1⟩, t1, hs⟩ := hs
            obtain ⟨k1, k2, k3⟩ := slice_run he (A := some ⟨g, 0, none⟩) (cap := cap) (len := n) hu hin hn h2 h3 b1 b2
            obtain ⟨im', c1, c2, c3, _, _⟩ := thawV_sound hW (RepV.sref (P := P) (im := im) (w := w) (ρ := ρ) id g cap h hid (by omega)) t1
            cases y with
            | fz e' l =>
              simp only at hs
              split at hs
              · rename_i hee; subst hee
                cases hs
                have hlen : l.length = h := by
                  generalize hvv : Value.slice (some ⟨g, 0, none⟩) h cap = vv at c3
                  cases c3
                  injection hvv with _ q _; exact q.symm
                subst hlen
                have := (fz_cut c3 (Nat.le_refl _) k3).lift (ρ := ρ)
                refine ⟨w, im', ρ, _, .inl (run k1), c1, c2, ?_⟩
                simpa using this
              · cases hs
            | _ => simp at hs
        | _ => simp at hs
      · cases ht
    · cases ht
  | extract x i =>
    simp only [trOp, Option.map_eq_some_iff] at ht
    obtain ⟨y, h1, rfl⟩ := ht
    have hx := trOpd_sound he h1
    simp only [stepOp] at hs
    generalize hvx : a.eval x = vx at hx
    generalize y.get env = yy at hx hs
    cases hx with
    | tup vs l h =>
      simp only [Option.map_eq_some_iff, Prod.mk.injEq] at hs
      obtain ⟨q, h2, rfl, rfl⟩ := hs
      have key : ∀ {vs : List Value} {l : List AV} {i : Nat}, RepT P im w ρ vs l → l[i]? = some q → ∃ v, vs[i]? = some v ∧ RepV P im w ρ v q := by
        intro vs l
        induction l generalizing vs with
        | nil => intro i h hq; simp at hq
        | cons z zs ih =>
          intro i h hq
          cases h with
          | cons v _ vs _ g gs =>
            cases i with
            | zero => simp at hq; subst hq; exact ⟨v, rfl, g⟩
            | succ i => simpa using ih gs (by simpa using hq)
      obtain ⟨v, e1, e2⟩ := key h h2
      exact ⟨w, im, ρ, v, .inl (by simp [execOp, hvx, Instr.extract, e1]), hW, Ext.refl _ _ _ _, e2⟩
    | _ => simp at hs
  | call c =>
    simp only [trOp] at ht
    exact call_sound hW he ht hs
  | _ => simp [trOp] at ht
end
end Go.Sk
