/- The compact code of a Go function is what the machine runs. Conditions: none (a library text). -/
import Derived.Test.YtnbmngpdbnkhaaaC7Sound4
import Derived.Laws.StructEq
set_option linter.unusedVariables false
set_option linter.unusedSimpArgs false
namespace Go.Sk
open Go.RowKit

def constV (P : Program) (t : Option TypeId) : Value → Option AV
  | .int k n => some (.int k n)
  | .bool b => some (.bool b)
  | .string s => some (.str s)
  | .float .f64 b => some (.flt b)
  | .pointer none => some .nilp
  | .slice none 0 0 => match t.bind P.underlying with
    | some (.slice e) => some (.nil e)
    | _ => none
  | .agg cs => match t with
    | some t => match parse P 8 t cs.toList with
      | some (l, []) => some (.agg l)
      | _ => none
    | none => none
  | _ => none

theorem constV_sound {P : Program} {t : Option TypeId} {v : Value} {x : AV} (h : constV P t v = some x) (im : Nat → Prop) (w : World) (ρ : Nat → Loc) : RepV P im w ρ v x := by
  unfold constV at h
  split at h
  · cases h; exact .int _ _
  · cases h; exact .bool _
  · cases h; exact .str _
  · cases h; exact .flt _
  · cases h; exact .nilp
  · split at h
    · cases h; exact .nil _
    · cases h
  · split at h
    · split at h
      · rename_i hp
        cases h
        obtain ⟨vs, e, k⟩ := parse_sound im w ρ _ _ _ _ _ hp
        simp at e
        have := RepV.agg vs _ k
        rw [← e] at this
        simpa using this
      · cases h
    · cases h
  · cases h

def trOpd (P : Program) (t : Option TypeId) : Operand → Option Opd
  | .tmp n => some (.t n)
  | .const v => (constV P t v).map .k
  | _ => none

def trOpt (P : Program) : Option Operand → Option (Option Opd)
  | none => some none
  | some x => (trOpd P none x).map some

/-- Operands, each of a type. -/
def trParts (P : Program) (f : Nat → Option TypeId) : List (Nat × Operand) → Option (List (Nat × Opd))
  | [] => some []
  | (i, x) :: ps => (trOpd P (f i) x).bind fun y => (trParts P f ps).map fun r => (i, y) :: r

def trArgs (P : Program) : List Operand → List TypeId → Option (List Opd)
  | [], [] => some []
  | x :: xs, t :: ts => (trOpd P (some t) x).bind fun y => (trArgs P xs ts).map fun r => y :: r
  | _, _ => none

def fieldSz (P : Program) (f : Field) : Option (Nat × Nat) := (P.info? f.type).map fun i => (f.offset, i.size)

/-- Parts of a struct: each with its cell and its size. -/
def trFields (P : Program) (fs : Array Field) : List (Nat × Operand) → Option (List (Nat × Nat × Opd))
  | [] => some []
  | (i, x) :: ps => (fs[i]?).bind fun f => (fieldSz P f).bind fun q => (trOpd P (some f.type) x).bind fun y => (trFields P fs ps).map fun r => (q.1, q.2, y) :: r

def intFields (P : Program) (fs : Array Field) : Bool := fs.toList.zipIdx.all fun p => p.1.name != "_" && p.1.offset == p.2 && (match P.underlying p.1.type with | some (.int _) => true | _ => false)

def trBuiltin (P : Program) : Builtin → List Operand → List TypeId → Option MOp
  | .len, [x], [t] => match P.underlying t with
    | some (.slice _) => (trOpd P (some t) x).map .len
    | some .string => (trOpd P (some t) x).map .slen
    | _ => none
  | .append, [x, y], [t, t'] => if t = t' then match P.underlying t with
    | some (.slice e) => match P.info? e with
      | some i => match i.zero with
        | some z => if z.cells.size = i.size ∧ 0 < i.size ∧ 0 < i.bytes then (trOpd P (some t) x).bind fun x => (trOpd P (some t) y).map fun y => .app e (140737488355328 / i.bytes) x y else none
        | none => none
      | none => none
    | _ => none
    else none
  | .min, [x, y], _ => (trOpd P none x).bind fun x => (trOpd P none y).map fun y => .mm false x y
  | .max, [x, y], _ => (trOpd P none x).bind fun x => (trOpd P none y).map fun y => .mm true x y
  | _, _, _ => none

def trFunc (P : Program) (f : FuncId) (args : List Operand) (ts : List TypeId) : Option MOp :=
  match P.funcs[f]? with
  | some fn => if fn.name == "runtime.NumGoroutine" then none else if fn.body.isSome then (trArgs P args ts).map fun as => .call f as
    else match args with
      | [x] => if fn.name = "math.Float64bits" ∧ fn.origin = "" then (trOpd P none x).map .fbits else if fn.name = "math.Float64frombits" ∧ fn.origin = "" then (trOpd P none x).map .ffrom else none
      | _ => none
  | none => none

def trCall (P : Program) (c : Call) : Option MOp :=
  match c.callee with
  | .builtin b => trBuiltin P b c.args.toList c.argTypes.toList
  | .value (.func f) => trFunc P f c.args.toList c.argTypes.toList
  | _ => none

def trOp (P : Program) (o : Oper) : Option MOp :=
  match o.op with
  | .move x | .assign x => (trOpd P (some o.type) x).map .mv
  | .pick c a b => (trOpd P none c).bind fun c => (trOpd P (some o.type) a).bind fun a => (trOpd P (some o.type) b).map fun b => .pick c a b
  | .alloc t => (zeroI P t).map fun z => .new t z
  | .box t x => (trOpd P (some t) x).map fun x => .box t x
  | .build t ps => match P.underlying t with
    | some (.struct fs) => if fs.toList.all (fun f => (P.info? f.type).isSome) then (zeroI P t).bind fun z => (trFields P fs ps.toList).map fun qs => .build z qs else none
    | some (.array _ e) => if (P.info? e).isSome && ps.isEmpty then (zeroI P t).map fun z => .build z [] else none
    | _ => none
  | .buildSlice t n ps => match P.underlying t with
    | some (.slice e) => match P.info? e, zeroI P e with
      | some i, some z => if i.size = widths z ∧ 0 < widths z ∧ n * widths z ≤ 16777216 then (trParts P (fun _ => some e) ps.toList).map fun qs => .bslice e z n qs else none
      | _, _ => none
    | _ => none
  | .load t a => match P.underlying t, P.info? t with
    | some d, some i => (trOpd P none a).map fun x => .load (isAggD d) i.size x
    | _, _ => none
  | .store t a x => match P.info? t with
    | some i => (trOpd P none a).bind fun a => (trOpd P (some t) x).map fun x => .store i.size a x
    | _ => none
  | .nilCheck x => (trOpd P none x).map .nilchk
  | .binOp op t x y _ => match P.underlying t with
    | some .bool => (trOpd P none x).bind fun x => (trOpd P none y).bind fun y => match op with
      | .eql => some (.eqB false x y)
      | .neq => some (.eqB true x y)
      | _ => none
    | some (.int _) | some .string | some (.float _) => (trOpd P none x).bind fun x => (trOpd P none y).map fun y => .bin op x y
    | some (.struct fs) => if intFields P fs && !P.stoodInHeld t && !P.eqGuardType P.depth t then (trOpd P (some t) x).bind fun x => (trOpd P (some t) y).bind fun y => match op with
      | .eql => some (.eqI fs.size false x y)
      | .neq => some (.eqI fs.size true x y)
      | _ => none
      else none
    | _ => none
  | .unOp .not _ x => (trOpd P none x).map .not
  | .convert s d x => match P.underlying s, P.underlying d with
    | some _, some (.int k) => (trOpd P none x).map (.conv k)
    | _, _ => none
  | .fieldAddr s x f => match P.underlying s with
    | some (.struct fs) => (fs[f]?).bind fun fd => match P.info? fd.type with
      | some i => if i.size = 0 then none else (trOpd P none x).map (.fld fd.offset)
      | none => none
    | _ => none
  | .indexAddr t x i => match P.underlying t with
    | some (.slice e) => match P.info? e with
      | some _ => (trOpd P none x).bind fun x => (trOpd P none i).map fun i => .idxS e x i
      | none => none
    | some (.array n e) => match P.info? e with
      | some j => if j.size = 1 then (trOpd P none x).bind fun x => (trOpd P none i).map fun i => .idxP n x i else none
      | none => none
    | _ => none
  | .index t x i => match P.underlying t with
    | some (.array n e) => match P.info? e, P.underlying e with
      | some j, some d => if j.size = 1 ∧ isAggD d = false then (trOpd P none x).bind fun x => (trOpd P none i).map fun i => .idxV n x i else none
      | _, _ => none
    | _ => none
  | .slice t x lo hi none => match P.underlying t with
    | some (.slice e) => match P.info? e with
      | some _ => (trOpd P (some t) x).bind fun x => (trOpt P lo).bind fun lo => (trOpt P hi).map fun hi => .slcS e x lo hi
      | none => none
    | _ => none
  | .extract x i => (trOpd P none x).map fun x => .ext x i
  | .call c => trCall P c
  | _ => none

section
variable {P : Program} {im : Nat → Prop} {w w1 : World} {ρ : Nat → Loc} {rows rows1 : List Row}

/-- An act's slots read as an environment says. -/
def EnvOK (P : Program) (im : Nat → Prop) (w : World) (ρ : Nat → Loc) (a : Act) (env : Env) : Prop := ∀ t, RepV P im w ρ (a.eval (.tmp t)) (look env t)

theorem trOpd_sound {a : Act} {env : Env} (he : EnvOK P im w ρ a env) {t : Option TypeId} {x : Operand} {y : Opd} (h : trOpd P t x = some y) : RepV P im w ρ (a.eval x) (y.get env) := by
  cases x with
  | tmp n => simp [trOpd] at h; subst h; exact he n
  | const v =>
    simp only [trOpd, Option.map_eq_some_iff] at h
    obtain ⟨z, h1, rfl⟩ := h
    exact constV_sound h1 _ _ _
  | global g => simp [trOpd] at h
  | func f => simp [trOpd] at h

theorem trParts_sound {a : Act} {env : Env} (he : EnvOK P im w ρ a env) {f : Nat → Option TypeId} : ∀ {ps : List (Nat × Operand)} {qs : List (Nat × Opd)}, trParts P f ps = some qs → All2 (fun p q => RepV P im w ρ (a.eval p.2) (q.2.get env) ∧ p.1 = q.1) ps qs
  | [], qs, h => by simp [trParts] at h; subst h; exact .nil
  | (i, x) :: ps, qs, h => by
    simp only [trParts, Option.bind_eq_some_iff, Option.map_eq_some_iff] at h
    obtain ⟨y, h1, r, h2, rfl⟩ := h
    exact .cons ⟨trOpd_sound he h1, rfl⟩ (trParts_sound he h2)

theorem trArgs_sound {a : Act} {env : Env} (he : EnvOK P im w ρ a env) : ∀ {xs : List Operand} {ts : List TypeId} {ys : List Opd}, trArgs P xs ts = some ys → RepT P im w ρ (xs.map a.eval) (ys.map (Opd.get env))
  | [], [], ys, h => by simp [trArgs] at h; subst h; exact .nil
  | x :: xs, t :: ts, ys, h => by
    simp only [trArgs, Option.bind_eq_some_iff, Option.map_eq_some_iff] at h
    obtain ⟨y, h1, r, h2, rfl⟩ := h
    exact .cons _ _ _ _ (trOpd_sound he h1) (trArgs_sound he h2)
  | [], _ :: _, _, h => by simp [trArgs] at h
  | _ :: _, [], _, h => by simp [trArgs] at h

theorem trFields_sound {a : Act} {env : Env} (he : EnvOK P im w ρ a env) {fs : Array Field} {places : Array (Nat × Nat)} (hp : ∀ (i : Nat) (f : Field), fs[i]? = some f → ∀ q, fieldSz P f = some q → places[i]? = some q) :
    ∀ {ps : List (Nat × Operand)} {qs : List (Nat × Nat × Opd)}, trFields P fs ps = some qs → All2 (fun p q => RepV P im w ρ (a.eval p.2) (q.2.2.get env) ∧ places[p.1]? = some (q.1, q.2.1)) ps qs
  | [], qs, h => by simp [trFields] at h; subst h; exact .nil
  | (i, x) :: ps, qs, h => by
    simp only [trFields, Option.bind_eq_some_iff, Option.map_eq_some_iff] at h
    obtain ⟨f, h0, q, h1, y, h2, r, h3, rfl⟩ := h
    exact .cons ⟨trOpd_sound he h2, hp i f h0 q h1⟩ (trFields_sound he hp h3)

/-- What an operation comes to. -/
def Done (P : Program) (s : Sem Next) (im : Nat → Prop) (w : World) (ρ : Nat → Loc) (rows : List Row) (r : AV) (rows' : List Row) : Prop :=
  ∃ w' im' ρ' v, (s.run P w = .ok (.value v) w' ∨ (s.run P w = .ok .skip w' ∧ v = undef)) ∧ WF P im' w' ρ' rows' ∧ Ext w im ρ rows w' im' ρ' rows' ∧ RepV P im' w' ρ' v r

theorem Done.pure (hW : WF P im w ρ rows) {s : Sem Value} {v : Value} {r : AV} (h : s.run P w = .ok v w) (hr : RepV P im w ρ v r) : Done P (do Pure.pure (.value (← s))) im w ρ rows r rows :=
  ⟨w, im, ρ, v, .inl (by simp [h]), hW, Ext.refl _ _ _ _, hr⟩

theorem Done.of {s : Sem Value} {v : Value} {r : AV} {w' im' ρ' rows'} (h : s.run P w = .ok v w') (hW : WF P im' w' ρ' rows') (hE : Ext w im ρ rows w' im' ρ' rows') (hr : RepV P im' w' ρ' v r) : Done P (do Pure.pure (.value (← s))) im w ρ rows r rows' :=
  ⟨w', im', ρ', v, .inl (by simp [h]), hW, hE, hr⟩
end
end Go.Sk
