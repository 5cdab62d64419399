/- The machine does what the compact code's statement says. Conditions: none (a library text). -/
import Derived.Test.YtnbmngpdbnkhaaaC7Wp
set_option linter.unusedVariables false
set_option linter.unusedSimpArgs false
namespace Go.Sk
open Go.RowKit

def trDst (N : Nat) : Option Tmp → Option (Option Nat)
  | none => some none
  | some d => if d < N then some (some d) else none

def trGuard (ops : Array Oper) : Option (Nat × Bool) → Option (Option (Nat × Bool))
  | none => some none
  | some (j, b) => match (ops[j]?).bind (·.dst) with
    | some t => some (some (t, b))
    | none => none

def callOf : Op → Option (FuncId × List Operand × List TypeId)
  | .call c => match c.callee with
    | .value (.func f) => some (f, c.args.toList, c.argTypes.toList)
    | _ => none
  | _ => none

/-- A slice that is compared with nil. -/
def nilOf (P : Program) : Op → Option (Bool × Operand)
  | .binOp .eql t x (.const (.slice none 0 0)) _ => match P.underlying t with
    | some (.slice _) => some (false, x)
    | _ => none
  | .binOp .neq t x (.const (.slice none 0 0)) _ => match P.underlying t with
    | some (.slice _) => some (true, x)
    | _ => none
  | _ => none

def MOp.isCall : MOp → Bool
  | .call .. | .isnil .. => true
  | _ => false

def trX (P : Program) (o : Oper) : Option MOp :=
  match callOf o.op with
  | some (f, args, ts) => trFunc P f args ts
  | none => match nilOf P o.op with
    | some (neg, x) => (trOpd P none x).map (.isnil neg)
    | none => match trOp P o with
      | some m => if m.isCall then none else some m
      | none => none

theorem callOf_some {op : Op} {f : FuncId} {args : List Operand} {ts : List TypeId} (h : callOf op = some (f, args, ts)) : ∃ c : Call, op = .call c ∧ c.callee = .value (.func f) ∧ c.args.toList = args ∧ c.argTypes.toList = ts := by
  cases op with
  | call c =>
    simp only [callOf] at h
    split at h
    · rename_i g hg
      cases h
      exact ⟨c, rfl, hg, rfl, rfl⟩
    · cases h
  | _ => simp [callOf] at h

theorem trX_op {P : Program} {o : Oper} {m : MOp} (h : trX P o = some m) (hm : m.isCall = false) : trOp P o = some m := by
  unfold trX at h
  split at h
  · rename_i f args ts hc
    obtain ⟨c, h1, h2, rfl, rfl⟩ := callOf_some hc
    obtain ⟨dst, op, ty, pos, aft, gd⟩ := o
    simp only at h1
    subst h1
    simp only [trOp, trCall, h2]
    exact h
  · split at h
    · simp only [Option.map_eq_some_iff] at h
      obtain ⟨y, _, rfl⟩ := h
      simp [MOp.isCall] at hm
    · split at h
      · split at h
        · cases h
        · rename_i hq _; cases h; exact hq
      · cases h

def trOper (P : Program) (N : Nat) (ops : Array Oper) (o : Oper) : Option MOper :=
  (trDst N o.dst).bind fun d => (trX P o).bind fun m => (trGuard ops o.guard).map fun g => ⟨d, m, g⟩

def trOpers (P : Program) (N : Nat) (ops : Array Oper) : List Oper → Option (List MOper)
  | [] => some []
  | o :: os => (trOper P N ops o).bind fun m => (trOpers P N ops os).map fun ms => m :: ms

theorem idsL_of {l : List AV} {x : AV} (h : x ∈ l) {id : Nat} (hid : id ∈ idsV x) : id ∈ idsL l := by
  induction l with
  | nil => simp at h
  | cons y ys ih =>
    simp only [idsL, List.mem_append]
    rcases List.mem_cons.1 h with rfl | h
    · exact .inl hid
    · exact .inr (ih h)

/-- A call with its world, from the call's begin on. -/
structure St (P : Program) (N : Nat) (w0 : World) (im0 : Nat → Prop) (ρ0 : Nat → Loc) (rows0 : List Row) (env : Env) (rows : List Row) (a : Act) (w : World) (im : Nat → Prop) (ρ : Nat → Loc) : Prop where
  wf : WF P im w ρ rows
  env : EnvOK P im w ρ a env
  ext : Ext w0 im0 ρ0 rows0 w im ρ rows
  size : a.tmps.size = N
  defers : a.defers = []

section
variable {P : Program} {N : Nat} {w0 : World} {im0 : Nat → Prop} {ρ0 : Nat → Loc} {rows0 : List Row} {env : Env} {rows : List Row} {a : Act} {w : World} {im : Nat → Prop} {ρ : Nat → Loc}

theorem put_eval {d : Nat} {a : Act} (hd : d < a.tmps.size) (v : Value) (t : Nat) : (a.put (some d) v).eval (.tmp t) = if d = t then v else a.eval (.tmp t) := by
  simp only [Act.put, Act.eval]
  by_cases h : d = t
  · subst h; simp [Array.getElem?_setIfInBounds, hd]
  · simp [Array.getElem?_setIfInBounds, h]

/-- Behind an operation. -/
theorem St.step (h : St P N w0 im0 ρ0 rows0 env rows a w im ρ) {d d' : Option Nat} (hd : trDst N d = some d') {v : Value} {r : AV} {w' : World} {im' : Nat → Prop} {ρ' : Nat → Loc} {rows' : List Row}
    (hW : WF P im' w' ρ' rows') (hE : Ext w im ρ rows w' im' ρ' rows') (hr : RepV P im' w' ρ' v r) : St P N w0 im0 ρ0 rows0 (putE d' r env) rows' (a.put d v) w' im' ρ' := by
  have henv : EnvOK P im' w' ρ' a env := fun t => hE.repV h.wf (h.env t)
  cases d with
  | none =>
    simp [trDst] at hd; subst hd
    exact ⟨hW, henv, h.ext.trans hE, h.size, h.defers⟩
  | some d =>
    simp only [trDst] at hd
    split at hd
    · rename_i hlt
      cases hd
      refine ⟨hW, fun t => ?_, h.ext.trans hE, by simp [Act.put, h.size], by simp [Act.put, h.defers]⟩
      rw [put_eval (by rw [h.size]; exact hlt)]
      simp only [putE, look]
      split
      · exact hr
      · exact henv t
    · cases hd

def Wants (env : Env) (x : Bool) : Option (Nat × Bool) → Prop
  | none => x = true
  | some (t, b) => (∀ c, look env t = .bool c → x = (c == b)) ∧ (look env t = .tup [] → x = false)

theorem wanted_of {ops : Array Oper} {o : Oper} {g : Option (Nat × Bool)} (hg : trGuard ops o.guard = some g) (he : EnvOK P im w ρ a env) : Wants env (Region.wanted o (yielded ops a.tmps)) g := by
  unfold Region.wanted
  generalize o.guard = og at hg ⊢
  cases og with
  | none => simp [trGuard] at hg; subst hg; rfl
  | some jb =>
    obtain ⟨j, b⟩ := jb
    simp only [trGuard] at hg
    split at hg
    · rename_i t ht
      cases hg
      have hy : ∀ v, a.eval (.tmp t) = v → (∀ c, v = .bool c → yielded ops a.tmps j = some c) ∧ ((∀ c, v ≠ .bool c) → yielded ops a.tmps j = none) := by
        intro v hv
        simp only [Act.eval] at hv
        unfold yielded
        rw [ht]
        simp only [Option.bind_some]
        cases hq : a.tmps[t]? with
        | none =>
          rw [Array.getD_eq_getD_getElem?, hq] at hv
          simp [undef] at hv
          subst hv
          exact ⟨(fun c e => by cases e), (fun _ => rfl)⟩
        | some q =>
          rw [Array.getD_eq_getD_getElem?, hq] at hv
          simp at hv; subst hv
          refine ⟨(fun c e => by rw [e]), fun hn => ?_⟩
          cases q <;> first | rfl | exact absurd rfl (hn _)
      obtain ⟨y1, y2⟩ := hy _ rfl
      have hr := he t
      refine ⟨fun c hc => ?_, fun hc => ?_⟩
      · rw [hc] at hr
        simp [y1 c (rep_bool hr)]
      · rw [hc] at hr
        have hn : ∀ c, a.eval (.tmp t) ≠ .bool c := by
          generalize a.eval (.tmp t) = v at hr
          cases hr
          intro c e; cases e
        simp [y2 hn]
    · cases hg

/-- A call's operation. -/
theorem exec_call {o : Oper} {f : Nat} {args : List Opd} (he : EnvOK P im w ρ a env) (ht : trX P o = some (.call f args)) :
    ∃ vs : List Value, (execOp a.eval o).run P w = .ok (.enter f vs.toArray) w ∧ RepT P im w ρ vs (args.map (Opd.get env)) := by
  unfold trX at ht
  split at ht
  · rename_i f' xs ts hc
    obtain ⟨c, h1, h2, rfl, rfl⟩ := callOf_some hc
    obtain ⟨dst, op, ty, pos, aft, gd⟩ := o
    simp only at h1
    subst h1
    unfold trFunc at ht
    split at ht
    · rename_i fn hfn
      split at ht
      · cases ht
      · rename_i hng
        split at ht
        · rename_i hb
          rw [Option.map_eq_some_iff] at ht
          obtain ⟨as, h3, h4⟩ := ht
          cases h4
          refine ⟨c.args.toList.map a.eval, ?_, trArgs_sound he h3⟩
          obtain ⟨callee, cargs, cts⟩ := c
          simp only at h2
          subst h2
          have hb' : fn.body ≠ none := by intro e; simp [e] at hb
          have hnm : ¬ fn.name = "runtime.NumGoroutine" := by simpa using hng
          simp [execOp, resolve, Deferred.ofValue, Act.eval, invoke, callFunc, hfn, hnm, hb']
          rw [← Array.toList_map, Array.toArray_toList]
        · split at ht
          · split at ht
            · simp [Option.map_eq_some_iff] at ht
            · split at ht
              · simp [Option.map_eq_some_iff] at ht
              · cases ht
          · cases ht
    · cases ht
  · split at ht
    · simp [Option.map_eq_some_iff] at ht
    · split at ht
      · split at ht
        · cases ht
        · rename_i hq; cases ht; simp [MOp.isCall] at hq
      · cases ht

theorem nil_run {t e : TypeId} (hu : P.underlying t = some (.slice e)) (A : Option Addr) (n c : Nat) : (Op.equal t (.slice A n c) (.slice none 0 0)).run P w = .ok A.isNone w := by
  have : ∀ d, (Op.equalIn (d + 1) t (.slice A n c) (.slice none 0 0)).run P w = .ok A.isNone w := fun d => by
    cases A <;> simp [Op.equalIn, run_underlying hu]
  exact this 9999

theorem exec_nil {o : Oper} {neg : Bool} {x : Opd} (ht : trX P o = some (.isnil neg x)) :
    ∃ y, trOpd P none y = some x ∧ ∀ A n c, a.eval y = .slice A n c → (execOp a.eval o).run P w = .ok (.value (.bool (A.isNone != neg))) w := by
  unfold trX at ht
  split at ht
  · rename_i f' xs ts hc
    unfold trFunc at ht
    split at ht
    · split at ht
      · cases ht
      · split at ht
        · simp [Option.map_eq_some_iff] at ht
        · split at ht
          · split at ht
            · simp [Option.map_eq_some_iff] at ht
            · split at ht
              · simp [Option.map_eq_some_iff] at ht
              · cases ht
          · cases ht
    · cases ht
  · split at ht
    · rename_i ng y hn
      simp only [Option.map_eq_some_iff] at ht
      obtain ⟨z, h1, h2⟩ := ht
      cases h2
      obtain ⟨dst, op, ty, pos, aft, gd⟩ := o
      simp only at hn
      unfold nilOf at hn
      split at hn
      · split at hn
        · rename_i hu
          cases hn
          refine ⟨_, h1, fun A n c e => ?_⟩
          have hk : a.eval (.const (.slice none 0 0)) = .slice none 0 0 := rfl
          simp [execOp, e, hk, eqGuard, binOp, nil_run hu]
        · cases hn
      · split at hn
        · rename_i hu
          cases hn
          refine ⟨_, h1, fun A n c e => ?_⟩
          have hk : a.eval (.const (.slice none 0 0)) = .slice none 0 0 := rfl
          simp [execOp, e, hk, eqGuard, binOp, nil_run hu]
        · cases hn
      · cases hn
    · split at ht
      · split at ht
        · cases ht
        · rename_i hq; cases ht; simp [MOp.isCall] at hq
      · cases ht

/-- An operation in its place. -/
theorem wpOp_ok {o : Oper} {m : MOp} {d : Option Nat} {Q : Exit → Act → World → Prop} {next : Act → World → Prop} (h : St P N w0 im0 ρ0 rows0 env rows a w im ρ) (hd : trDst N o.dst = some d) (ht : trX P o = some m) {K : AV → List Row → Prop}
    (hK : wpOp P m env rows K) (hn : ∀ v r w' im' ρ' rows', K r rows' → WF P im' w' ρ' rows' → Ext w im ρ rows w' im' ρ' rows' → RepV P im' w' ρ' v r → next (a.put o.dst v) w') : o.wp P a w next Q := by
  have plain : m.isCall = false → (∃ v rows', stepOp (Opd.get env) rows m = some (v, rows') ∧ K v rows') → o.wp P a w next Q := by
    rintro hm ⟨r, rows', h1, h2⟩
    obtain ⟨w', im', ρ', v, hr, hW, hE, hv⟩ := op_sound h.wf h.env (trX_op ht hm) h1
    have := hn v r w' im' ρ' rows' h2 hW hE hv
    unfold Oper.wp
    rcases hr with hr | ⟨hr, rfl⟩
    · rw [hr]; exact this
    · rw [hr]; exact this
  cases m with
  | call f args =>
    obtain ⟨vs, h1, h2⟩ := exec_call h.env ht
    unfold Oper.wp
    rw [h1]
    refine (hK w im ρ vs h.wf h2).mono ?_
    rintro e w' ⟨v, r, rows', im', ρ', rfl, k1, k2, k3, k4⟩
    exact hn v r w' im' ρ' rows' k1 k3 k4 k2
  | isnil neg x =>
    obtain ⟨y, h1, h2⟩ := exec_nil (a := a) (w := w) ht
    have hv := trOpd_sound h.env h1
    have go : ∀ A n c, a.eval y = .slice A n c → K (.bool (A.isNone != neg)) rows → o.wp P a w next Q := fun A n c e hk => by
      unfold Oper.wp
      rw [h2 A n c e]
      exact hn _ _ w im ρ rows hk h.wf (Ext.refl _ _ _ _) (.bool _)
    simp only [wpOp] at hK
    generalize x.get env = z at hK hv
    generalize hy : a.eval y = vy at hv
    cases hv with
    | nil e => exact go none 0 0 hy (by simpa [wpNil] using hK)
    | fz e A cap l us h2' h3 h4 h5 h6 =>
      obtain ⟨ad, rfl⟩ := Option.isSome_iff_exists.1 h2'
      exact go _ _ _ hy (by simpa [wpNil] using hK)
    | sref id g cap n h3 h4 => exact go _ _ _ hy (by simpa [wpNil] using hK)
    | _ => exact hK.elim
  | _ => exact plain rfl hK

/-- Operations in the text's order. -/
theorem wpOps_ok {ops : Array Oper} {Q : Exit → Act → World → Prop} : ∀ (os : List Oper) (ms : List MOper) (k : Nat), ops.toList.drop k = os → trOpers P N ops os = some ms →
    ∀ {env : Env} {rows : List Row} {a : Act} {w : World} {im : Nat → Prop} {ρ : Nat → Loc} {K : Env → List Row → Prop}, St P N w0 im0 ρ0 rows0 env rows a w im ρ → wpOps P ms env rows K →
      (∀ {env rows a w im ρ}, St P N w0 im0 ρ0 rows0 env rows a w im ρ → K env rows → Q .normal a w) → Go.wpOps P ops Q (List.range' k os.length) a w
  | [], ms, k, hk, ht, env, rows, a, w, im, ρ, K, h, hK, hQ => by
    simp [trOpers] at ht; subst ht
    exact hQ h hK
  | o :: os, ms, k, hk, ht, env, rows, a, w, im, ρ, K, h, hK, hQ => by
    simp only [trOpers, trOper, Option.bind_eq_some_iff, Option.map_eq_some_iff] at ht
    obtain ⟨m, ⟨d, h1, mo, h2, g, h3, rfl⟩, ms', h4, rfl⟩ := ht
    have hok : ops[k]? = some o := by
      have : (ops.toList.drop k)[0]? = some o := by rw [hk]; rfl
      rw [List.getElem?_drop, Nat.add_zero, Array.getElem?_toList] at this
      exact this
    have hdk : ops.toList.drop (k + 1) = os := by
      have := congrArg (List.drop 1) hk
      rw [List.drop_drop] at this
      simpa using this
    simp only [List.length_cons, List.range'_succ]
    unfold Go.wpOps
    simp only [hok]
    have hw := wanted_of h3 h.env
    have run : wpOp P mo env rows (fun v rows' => wpOps P ms' (putE d v env) rows' K) → o.wp P a w (Go.wpOps P ops Q (List.range' (k + 1) os.length)) Q := fun hp =>
      wpOp_ok h h1 h2 hp (fun v r w' im' ρ' rows' hr h5 h6 h7 => wpOps_ok os ms' (k + 1) hdk h4 (h.step h1 h5 h6 h7) hr hQ)
    have skip : wpOps P ms' (putE d (.tup []) env) rows K → Go.wpOps P ops Q (List.range' (k + 1) os.length) (a.put o.dst undef) w := fun hp =>
      wpOps_ok os ms' (k + 1) hdk h4 (h.step h1 h.wf (Ext.refl _ _ _ _) (.tup [] [] .nil)) hp hQ
    cases g with
    | none =>
      simp only [Wants] at hw
      rw [if_pos hw]
      exact .inl (run hK)
    | some tb =>
      obtain ⟨t, b⟩ := tb
      simp only [wpOps] at hK
      split at hK
      · rename_i c hc
        have := hw.1 c (gdV_yes hc)
        by_cases hcb : c = b
        · rw [if_pos (by rw [this]; simpa using hcb)]
          exact .inl (run (hK.1 hcb))
        · rw [if_neg (by rw [this]; simpa using hcb)]
          exact skip (hK.2 hcb)
      · rename_i hc
        have := hw.2 (gdV_no hc)
        rw [if_neg (by rw [this]; simp)]
        exact skip hK
      · exact hK.elim

/-- Rows are forgotten. -/
theorem St.back (h : St P N w0 im0 ρ0 rows0 env rows a w im ρ) {L : List Nat} {T : List Nat} (hg : gcOK rows0.length L (idsL (T.map (look env))) rows) (h0 : ∀ id, rows0.length ≤ id → ρ0 id = .no) :
    St P N w0 im0 ρ0 rows0 (T.map fun t => (t, renV (gcF L) (look env t))) (gcRows L rows) a w im (gcLoc L ρ) := by
  obtain ⟨g1, g2, g3, g4⟩ := gc_ok h.wf hg
  refine ⟨g1, fun t => ?_, ⟨h.ext.os, h.ext.tape, h.ext.output, h.ext.size, h.ext.block, h.ext.imsub, h.ext.imnew, fun id hid => ?_, by simpa [gcRows] using hg.1, fun b hb => h.ext.own b (g2 b hb)⟩, h.size, h.defers⟩
  · have key : ∀ T' : List Nat, (∀ t ∈ T', t ∈ T) → RepV P im w (gcLoc L ρ) (a.eval (.tmp t)) (look (T'.map fun t => (t, renV (gcF L) (look env t))) t) := by
      intro T'
      induction T' with
      | nil => intro _; exact .un _
      | cons s T' ih =>
        intro hT
        simp only [List.map_cons, look]
        split
        · rename_i hst
          subst hst
          refine (h.env s).ren (fun id hid => g4 id ?_)
          exact idsL_of (List.mem_map.2 ⟨s, hT s (by simp), rfl⟩) hid
        · exact ih (fun t ht => hT t (List.mem_cons_of_mem _ ht))
    exact key T (fun _ h => h)
  · have hlt : id < rows0.length := by
      rcases Nat.lt_or_ge id rows0.length with h' | h'
      · exact h'
      · exact hid.elim (fun hn => absurd (h0 id h') hn) (fun h => h)
    rw [g3 id hlt]
    exact h.ext.rho id hid
end
end Go.Sk
