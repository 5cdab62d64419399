/- Functions begun with rows that are nothing; slices of own rows. Conditions: none (a library text). -/
import Derived.Test.YtnbmngpdbnkhaaaC6More
set_option linter.unusedVariables false
set_option linter.unusedSimpArgs false
namespace Go.Sk
open Go.RowKit

abbrev Caller := Nat → List AV → List Row → Option (AV × List Row)
def CallOK (P : Program) (call : Caller) : Prop := ∀ f args rows v rows', call f args rows = some (v, rows') → CW P f args rows (fun r rs => r = v ∧ rs = rows')

def evNil (neg : Bool) (rows : List Row) : AV → Option (AV × List Row)
  | .nil _ => some (.bool (!neg), rows)
  | .fz _ _ => some (.bool neg, rows)
  | .sref _ _ => some (.bool neg, rows)
  | _ => none

def evOp (call : Caller) (op : MOp) (env : Env) (rows : List Row) : Option (AV × List Row) :=
  match op with
  | .call f args => match call f (args.map (Opd.get env)) rows with
    | some p => some p
    | none => match frT rows (args.map (Opd.get env)) with
      | some (as', rows') => call f as' rows'
      | none => none
  | .isnil neg x => evNil neg rows (x.get env)
  | op => stepOp (Opd.get env) rows op

def evOps (call : Caller) : List MOper → Env → List Row → Option (Env × List Row)
  | [], env, rows => some (env, rows)
  | o :: os, env, rows => match o.g with
    | none => match evOp call o.op env rows with
      | some (v, rows') => evOps call os (putE o.dst v env) rows'
      | none => none
    | some (t, b) => match gdV (look env t) with
      | .yes c => if c = b then match evOp call o.op env rows with
          | some (v, rows') => evOps call os (putE o.dst v env) rows'
          | none => none
        else evOps call os (putE o.dst (.tup []) env) rows
      | .no => evOps call os (putE o.dst (.tup []) env) rows
      | .bad => none

def belowB (b nx : Nat) (x : AV) : Bool := nx == 0 || (match rowId x with
  | some id => decide (id + 1 < b + nx)
  | none => true)
theorem belowB_ok {b nx : Nat} {x : AV} (h : belowB b nx x = true) : Und b nx x := by
  unfold belowB at h
  simp only [Bool.or_eq_true, beq_iff_eq] at h
  rcases h with h | h
  · exact .inl h
  · refine .inr fun id hid => ?_
    rw [hid] at h
    simpa using h

def evOut (call : Caller) (b : Nat) (d : DOp) (g : Opd → AV) (rows : List Row) : Option (AV × List Row) :=
  match d.kd with
  | .v => match stepOp g [] d.o.op with
    | some (v, _) => some (v, rows)
    | none => none
  | .c => match d.o.op with
    | .call f args => if (idsL (args.map g)).isEmpty then match call f (args.map g) [] with
        | some (u, rs) => if b + d.nx ≤ rows.length then some (renV (· + rows.length) u, rows ++ rs.map (renR (· + rows.length))) else none
        | none => none
      else none
    | _ => none
  | .l => match stepOp g rows d.o.op with
    | some (v, _) => if (d.av.all fun k => rowId (g (ptrOf d.o.op)) != some (b + k)) && (d.sep.all fun p => sepB (g (.t p)) (g (ptrOf d.o.op))) && belowB b d.nx (g (ptrOf d.o.op)) then some (v, rows) else none
    | none => none
  | .a => match stepOp g [] d.o.op with
    | some (u, [r]) => match newAt (b + d.nx) u, rows[b + d.nx]? with
      | some v, some .dead => some (v, rows.set (b + d.nx) r)
      | _, _ => none
    | _ => none
  | .w => match stepOp g rows d.o.op with
    | some (v, rows') => if (d.sep.all fun p => sepB (g (ptrOf d.o.op)) (g (.t p))) && (d.nx == 0 || boxP (g (ptrOf d.o.op)) && belowB b d.nx (g (ptrOf d.o.op))) then some (v, rows') else none
    | none => none

def evD (call : Caller) (b : Nat) : List DOp → Env → List Row → Option (Env × List Row)
  | [], env, rows => some (env, rows)
  | d :: ds, env, rows => match d.o.g with
    | none => match evOut call b d (Opd.get env) rows with
      | some (v, rows') => evD call b ds (putE d.o.dst v env) rows'
      | none => none
    | some (t, c) => match gdV (look env t) with
      | .yes x => if x = c then match evOut call b d (Opd.get env) rows with
          | some (v, rows') => evD call b ds (putE d.o.dst v env) rows'
          | none => none
        else evD call b ds (putE d.o.dst (.tup []) env) rows
      | .no => evD call b ds (putE d.o.dst (.tup []) env) rows
      | .bad => none

/-- All rows may stay. -/
def okAll (kf : Nat) (ids : List Nat) (rows : List Row) : Bool := decide (kf ≤ rows.length) && ids.all (fun i => decide (i < rows.length)) && rows.all fun r => (idsR r).all fun i => decide (i < rows.length)

def keys : Env → List Nat
  | [] => []
  | (t, _) :: e => if (keys e).contains t then keys e else t :: keys e

def cut (T : List Nat) (env : Env) : Env := T.map fun t => (t, look env t)

def evIter (kf : Nat) (step : Env → List Row → Option (Ex × Env × List Row)) (T : List Nat) : Nat → Env → List Row → Option (Ex × Env × List Row)
  | 0, _, _ => none
  | n + 1, env, rows => match step env rows with
    | some (.n, env', rows') => if okAll kf (idsL (T.map (look env'))) rows' then evIter kf step T n (cut T env') rows' else none
    | r => r

def evC (call : Caller) (fuel kf : Nat) : MC → Env → List Row → Option (Ex × Env × List Row)
  | .skip, env, rows => some (.n, env, rows)
  | .reg ops, env, rows => match evOps call ops env rows with
    | some (e, r) => some (.n, e, r)
    | none => none
  | .dreg m ds, env, rows => match evD call rows.length ds env (rows ++ List.replicate m .dead) with
    | some (e, r) => some (.n, e, r)
    | none => none
  | .seq a b, env, rows => match evC call fuel kf a env rows with
    | some (.n, e, r) => evC call fuel kf b e r
    | x => x
  | .cond c a b, env, rows => match c.get env with
    | .bool true => evC call fuel kf a env rows
    | .bool false => evC call fuel kf b env rows
    | _ => none
  | .block id c, env, rows => match evC call fuel kf c env rows with
    | some (.x j, e, r) => if j = id then some (.n, e, r) else some (.x j, e, r)
    | x => x
  | .loop c, env, rows => let T := keys env; if okAll kf (idsL (T.map (look env))) rows then evIter kf (evC call fuel kf c) T fuel (cut T env) rows else none
  | .exit id, env, rows => some (.x id, env, rows)
  | .ret, env, rows => some (.r, env, rows)

def evF (mt : Nat → Option MF) (fuel : Nat) : Nat → Caller
  | 0, _, _, _ => none
  | n + 1, f, args, rows => match mt f with
    | none => none
    | some m => if args.length ≤ m.ntmps then match evC (evF mt fuel n) fuel rows.length m.body (argEnv 0 args) rows with
        | some (.x _, _, _) => none
        | some (_, env, rows') => match resVs env rows' m.res with
          | some vs => if okAll rows.length (idsV (resV vs)) rows' then some (resV vs, rows') else none
          | none => none
        | none => none
      else none

section
variable {P : Program} {call : Caller} {env env' : Env} {rows rows' : List Row} {v : AV}

theorem evOp_ok (hc : CallOK P call) {op : MOp} {K : AV → List Row → Prop} (h : evOp call op env rows = some (v, rows')) (hK : K v rows') : wpOp P op env rows K := by
  cases op with
  | call f args =>
    simp only [evOp] at h
    split at h
    · rename_i p hp
      cases h
      exact (hc _ _ _ _ _ hp).mono (by rintro r rs ⟨rfl, rfl⟩; exact hK)
    · split at h
      · rename_i as' rows2 hf
        exact CW.freeze hf ((hc _ _ _ _ _ h).mono (by rintro r rs ⟨rfl, rfl⟩; exact hK))
      · cases h
  | isnil neg x =>
    simp only [evOp] at h
    simp only [wpOp]
    generalize x.get env = z at h ⊢
    unfold evNil at h
    split at h
    · cases h; exact hK
    · cases h; exact hK
    · cases h; exact hK
    · cases h
  | _ => exact ⟨v, rows', h, hK⟩

theorem evOps_ok (hc : CallOK P call) : ∀ {os : List MOper} {env env' : Env} {rows rows' : List Row} {K : Env → List Row → Prop}, evOps call os env rows = some (env', rows') → K env' rows' → Sk.wpOps P os env rows K
  | [], env, env', rows, rows', K, h, hK => by simp [evOps] at h; obtain ⟨rfl, rfl⟩ := h; exact hK
  | o :: os, env, env', rows, rows', K, h, hK => by
    unfold evOps at h
    unfold Sk.wpOps
    split at h
    · rename_i hg
      rw [hg]
      split at h
      · rename_i v r hv; exact evOp_ok hc hv (evOps_ok hc h hK)
      · cases h
    · rename_i t b hg
      rw [hg]
      simp only
      split at h
      · rename_i c hgd
        rw [hgd]
        split at h
        · rename_i hcb
          split at h
          · rename_i v r hv; exact ⟨fun _ => evOp_ok hc hv (evOps_ok hc h hK), fun hn => absurd hcb hn⟩
          · cases h
        · rename_i hcb
          exact ⟨fun hn => absurd hn hcb, fun _ => evOps_ok hc h hK⟩
      · rename_i hgd
        rw [hgd]
        exact evOps_ok hc h hK
      · cases h

theorem evOut_ok (hc : CallOK P call) {b : Nat} {d : DOp} {g : Opd → AV} (h : evOut call b d g rows = some (v, rows')) : outc P b d g rows v rows' := by
  unfold evOut at h
  unfold outc
  cases hk : d.kd with
  | v =>
    simp only [hk] at h
    split at h
    · rename_i v' r hv; cases h; exact ⟨rfl, r, hv⟩
    · cases h
  | c =>
    simp only [hk] at h
    split at h
    · rename_i f args ho
      split at h
      · rename_i hi
        split at h
        · rename_i u rs hu
          split at h
          · rename_i hle
            cases h
            exact ⟨f, args, _, ho, rfl, hle, FCallN.of (by simpa using hi) (hc _ _ _ _ _ hu) _⟩
          · cases h
        · cases h
      · cases h
    · cases h
  | l =>
    simp only [hk] at h
    split at h
    · rename_i v' r hv
      split at h
      · rename_i hc'
        cases h
        simp only [Bool.and_eq_true, List.all_eq_true, bne_iff_ne] at hc'
        refine ⟨rfl, ?_, hc'.1.1, hc'.1.2, belowB_ok hc'.2⟩
        obtain ⟨ag, n, x, ex⟩ := kd_load hk
        rw [ex] at hv ⊢
        simp only [stepOp, Option.bind_eq_some_iff, Option.map_eq_some_iff] at hv ⊢
        obtain ⟨l, h1, m, h2, y, h3, h4⟩ := hv
        cases h4
        exact ⟨l, h1, m, h2, _, h3, rfl⟩
      · cases h
    · cases h
  | a =>
    simp only [hk] at h
    split at h
    · rename_i u r hv
      split at h
      · rename_i v' h1 h2
        cases h
        exact ⟨u, r, hv, h1, h2, rfl⟩
      · cases h
    · cases h
  | w =>
    simp only [hk] at h
    split at h
    · rename_i v' r hv
      split at h
      · rename_i hc'
        cases h
        simp only [Bool.and_eq_true, List.all_eq_true, Bool.or_eq_true, beq_iff_eq] at hc'
        refine ⟨hv, hc'.1, ?_⟩
        rcases hc'.2 with h0 | ⟨h0, h1⟩
        · exact .inl h0
        · rcases belowB_ok h1 with h2 | h2
          · exact .inl h2
          · exact .inr ⟨h0, h2⟩
      · cases h
    · cases h

theorem evD_ok (hc : CallOK P call) {b : Nat} : ∀ {os : List DOp} {env env' : Env} {rows rows' : List Row} {K : Env → List Row → Prop}, evD call b os env rows = some (env', rows') → K env' rows' → wpD P b os env rows K
  | [], env, env', rows, rows', K, h, hK => by simp [evD] at h; obtain ⟨rfl, rfl⟩ := h; exact hK
  | o :: os, env, env', rows, rows', K, h, hK => by
    unfold evD at h
    unfold wpD
    split at h
    · rename_i hg
      rw [hg]
      split at h
      · rename_i v r hv; exact ⟨v, r, evOut_ok hc hv, evD_ok hc h hK⟩
      · cases h
    · rename_i t b hg
      rw [hg]
      simp only
      split at h
      · rename_i c hgd
        rw [hgd]
        split at h
        · rename_i hcb
          split at h
          · rename_i v r hv; exact ⟨fun _ => ⟨v, r, evOut_ok hc hv, evD_ok hc h hK⟩, fun hn => absurd hcb hn⟩
          · cases h
        · rename_i hcb
          exact ⟨fun hn => absurd hn hcb, fun _ => evD_ok hc h hK⟩
      · rename_i hgd
        rw [hgd]
        exact evD_ok hc h hK
      · cases h

theorem back_all {kf : Nat} {T : List Nat} {J : Env → List Row → Prop} (h : okAll kf (idsL (T.map (look env))) rows = true) (hJ : J (cut T env) rows) : Back kf T J env rows := by
  simp only [okAll, Bool.and_eq_true, List.all_eq_true, decide_eq_true_eq] at h
  exact back_keep h.1.1 h.1.2 h.2 hJ

theorem ret_all {kf : Nat} {res : List MRes} {Q : AV → List Row → Prop} {vs : List AV} (h : resVs env rows res = some vs) (ho : okAll kf (idsV (resV vs)) rows = true) (k : Q (resV vs) rows) : RetW kf res Q env rows := by
  simp only [okAll, Bool.and_eq_true, List.all_eq_true, decide_eq_true_eq] at ho
  obtain ⟨⟨h0, h1⟩, h2⟩ := ho
  refine ⟨vs, h, List.range rows.length, ⟨by simpa using h0, fun i hi => by rw [List.getElem?_range (by omega)], List.nodup_range, fun id hid => by simpa using h1 id hid, fun id hid => ?_⟩, ?_⟩
  · simp only [List.mem_range] at hid
    exact ⟨rows[id], List.getElem?_eq_getElem hid, fun j hj => by simpa using h2 _ (List.getElem_mem hid) j hj⟩
  · rw [renV_of _ (fun id hid => gcF_range (h1 id hid))]
    have e2 : gcRows (List.range rows.length) rows = rows := by
      apply List.ext_getElem?
      intro i
      simp only [gcRows, List.getElem?_map]
      rcases Nat.lt_or_ge i rows.length with hi | hi
      · rw [List.getElem?_range hi, List.getElem?_eq_getElem hi]
        simp only [Option.map_some, List.getD_eq_getElem?_getD, List.getElem?_eq_getElem hi, Option.getD_some]
        rw [renR_of _ (fun id hid => gcF_range (h2 _ (List.getElem_mem hi) id hid))]
      · rw [List.getElem?_eq_none (by simpa using hi), List.getElem?_eq_none hi]; rfl
    rw [e2]; exact k

theorem evC_ok (hc : CallOK P call) {fuel kf : Nat} : ∀ (c : MC) {e : Ex} {env env' : Env} {rows rows' : List Row} {K : Ex → Env → List Row → Prop}, evC call fuel kf c env rows = some (e, env', rows') → K e env' rows' → wpC P kf c env rows K
  | .skip, e, env, env', rows, rows', K, h, hK => by simp only [evC, Option.some.injEq, Prod.mk.injEq] at h; obtain ⟨rfl, rfl, rfl⟩ := h; exact hK
  | .reg ops, e, env, env', rows, rows', K, h, hK => by
    simp only [evC] at h
    split at h
    · rename_i e1 r1 h1; cases h; exact evOps_ok hc h1 hK
    · cases h
  | .dreg m ds, e, env, env', rows, rows', K, h, hK => by
    simp only [evC] at h
    split at h
    · rename_i e1 r1 h1; cases h; exact evD_ok hc h1 hK
    · cases h
  | .seq a b, e, env, env', rows, rows', K, h, hK => by
    simp only [evC] at h
    unfold wpC
    split at h
    · rename_i e1 r1 h1; exact evC_ok hc a h1 (evC_ok hc b h hK)
    · rename_i hne
      refine evC_ok hc a h ?_
      cases e with
      | n => exact absurd h (hne _ _)
      | x i => exact hK
      | r => exact hK
  | .cond c a b, e, env, env', rows, rows', K, h, hK => by
    simp only [evC] at h
    unfold wpC
    split at h
    · rename_i hb; rw [hb]; exact ⟨fun _ => evC_ok hc a h hK, fun hn => by cases hn⟩
    · rename_i hb; rw [hb]; exact ⟨fun hn => (by cases hn), fun _ => evC_ok hc b h hK⟩
    · cases h
  | .block id c, e, env, env', rows, rows', K, h, hK => by
    simp only [evC] at h
    unfold wpC
    split at h
    · rename_i j e1 r1 h1
      refine evC_ok hc c h1 ?_
      split at h
      · rename_i hj; cases h; simp only [hj, if_true]; exact hK
      · rename_i hj; cases h; simp only [hj, if_false]; exact hK
    · rename_i hne
      refine evC_ok hc c h ?_
      cases e with
      | n => exact hK
      | x i => exact absurd h (hne _ _ _)
      | r => exact hK
  | .loop c, e, env, env', rows, rows', K, h, hK => by
    simp only [evC] at h
    split at h
    · rename_i hok
      unfold wpC
      refine ⟨keys env, fun n en rs => evIter kf (evC call fuel kf c) (keys env) n en rs = some (e, env', rows'), fuel, back_all hok h, ?_⟩
      intro n en rs hI
      cases n with
      | zero => simp [evIter] at hI
      | succ n =>
        simp only [evIter] at hI
        split at hI
        · rename_i e1 r1 h1
          split at hI
          · rename_i hok1
            exact evC_ok hc c h1 ⟨n, Nat.lt_succ_self n, back_all hok1 hI⟩
          · cases hI
        · rename_i hne
          refine evC_ok hc c hI ?_
          cases e with
          | n => exact absurd hI (hne _ _)
          | x i => exact hK
          | r => exact hK
    · cases h
  | .exit id, e, env, env', rows, rows', K, h, hK => by simp only [evC, Option.some.injEq, Prod.mk.injEq] at h; obtain ⟨rfl, rfl, rfl⟩ := h; exact hK
  | .ret, e, env, env', rows, rows', K, h, hK => by simp only [evC, Option.some.injEq, Prod.mk.injEq] at h; obtain ⟨rfl, rfl, rfl⟩ := h; exact hK

theorem evF_ok {mt : Nat → Option MF} {fuel : Nat} (hmix : P.follows .mixedOrders = true) (hmt : ∀ f m, mt f = some m → trF P f = some m) : ∀ n, CallOK P (evF mt fuel n)
  | 0 => by intro f args rows v rows' h; simp [evF] at h
  | n + 1 => by
    intro f args rows v rows' h
    simp only [evF] at h
    split at h
    · cases h
    · rename_i m hm
      split at h
      · rename_i hl
        split at h
        · cases h
        · rename_i e env' r hnx hv
          split at h
          · rename_i vs hvs
            split at h
            · rename_i hok
              cases h
              refine trF_ok hmix (hmt f m hm) hl ?_
              unfold wpF
              refine evC_ok (evF_ok hmix hmt n) m.body hv ?_
              cases e with
              | n => exact ret_all hvs hok ⟨rfl, rfl⟩
              | x i => exact (hnx i rfl).elim
              | r => exact ret_all hvs hok ⟨rfl, rfl⟩
            · cases h
          · cases h
        · cases h
      · cases h

/-- A call whose run ends in yes. -/
theorem evF_true {mt : Nat → Option MF} {fuel n f : Nat} {args : List AV} (hmix : P.follows .mixedOrders = true) (hmt : ∀ f m, mt f = some m → trF P f = some m) (hi : idsL args = [])
    (h : (match evF mt fuel n f args [] with | some (.bool true, _) => true | _ => false) = true) : FCall P f args (.bool true) := by
  split at h
  · rename_i rs hv
    refine FCall.of hi ((evF_ok hmix hmt n f args [] _ _ hv).mono ?_)
    rintro r q ⟨rfl, rfl⟩
    exact ⟨q, rfl⟩
  · cases h
end
end Go.Sk
set_option linter.unusedVariables false
set_option linter.unusedSimpArgs false
namespace Go.Sk
open Go.RowKit

theorem gdV_bool (c : Bool) : gdV (.bool c) = .yes c := rfl
theorem gdV_unit : gdV (.tup []) = .no := rfl
/-- A row made where it was kept free. -/
def stepA (b nx : Nat) (g : Opd → AV) (rows : List Row) (op : MOp) : Option (AV × List Row) :=
  (stepOp g [] op).bind fun p => match p.2 with
    | [r] => match rows[b + nx]? with
      | some .dead => (newAt (b + nx) p.1).map fun v => (v, rows.set (b + nx) r)
      | _ => none
    | _ => none
def gK (b : Bool) (A B : Prop) : Gd → Prop
  | .yes c => (c = b → A) ∧ (c ≠ b → B)
  | .no => B
  | .bad => False
def sideL (bb nx : Nat) (av sep : List Nat) (g : Opd → AV) (x : Opd) : Bool := (av.all fun k => rowId (g x) != some (bb + k)) && (sep.all fun p => sepB (g (.t p)) (g x)) && belowB bb nx (g x)
def sideW (bb nx : Nat) (sep : List Nat) (g : Opd → AV) (x : Opd) : Bool := (sep.all fun p => sepB (g x) (g (.t p))) && (nx == 0 || boxP (g x) && belowB bb nx (g x))
section
variable {P : Program} {kf : Nat} {env : Env} {rows rows' : List Row} {os : List MOper} {ds : List DOp} {op : MOp} {d t : Nat} {b c : Bool} {v : AV} {K : Env → List Row → Prop} {KC : Ex → Env → List Row → Prop} {A B : Prop}
theorem g_T (k1 : c = true → A) (k2 : c = false → B) : gK true A B (.yes c) := ⟨k1, fun e => k2 (by simpa using e)⟩
theorem g_F (k1 : c = true → B) (k2 : c = false → A) : gK false A B (.yes c) := ⟨k2, fun e => k1 (by simpa using e)⟩
theorem g_no (k : B) : gK b A B .no := k
theorem op_gS {x : Gd} (h : gdV (look env t) = x) (k : gK b (Sk.wpOps P (⟨some d, op, none⟩ :: os) env rows K) (Sk.wpOps P os ((d, .tup []) :: env) rows K) x) : Sk.wpOps P (⟨some d, op, some (t, b)⟩ :: os) env rows K := by
  subst h; unfold Sk.wpOps; simp only
  generalize gdV (look env t) = x at k ⊢
  cases x <;> exact k
theorem op_g0 {x : Gd} (h : gdV (look env t) = x) (k : gK b (Sk.wpOps P (⟨none, op, none⟩ :: os) env rows K) (Sk.wpOps P os env rows K) x) : Sk.wpOps P (⟨none, op, some (t, b)⟩ :: os) env rows K := by
  subst h; unfold Sk.wpOps; simp only
  generalize gdV (look env t) = x at k ⊢
  cases x <;> exact k
variable {w : Bool} {nx bb : Nat} {av sep : List Nat}
theorem d_gS {x : Gd} (h : gdV (look env t) = x) (k : gK b (wpD P bb (⟨⟨some d, op, none⟩, w, nx, av, sep⟩ :: ds) env rows K) (wpD P bb ds ((d, .tup []) :: env) rows K) x) : wpD P bb (⟨⟨some d, op, some (t, b)⟩, w, nx, av, sep⟩ :: ds) env rows K := by
  subst h; unfold wpD; simp only
  generalize gdV (look env t) = x at k ⊢
  cases x <;> exact k
theorem d_g0 {x : Gd} (h : gdV (look env t) = x) (k : gK b (wpD P bb (⟨⟨none, op, none⟩, w, nx, av, sep⟩ :: ds) env rows K) (wpD P bb ds env rows K) x) : wpD P bb (⟨⟨none, op, some (t, b)⟩, w, nx, av, sep⟩ :: ds) env rows K := by
  subst h; unfold wpD; simp only
  generalize gdV (look env t) = x at k ⊢
  cases x <;> exact k
theorem kd_isB {dst : Option Nat} (hb : isB op = true) : (DOp.mk ⟨dst, op, none⟩ w nx av sep).kd = .v := by
  cases op <;> first | rfl | (simp [isB] at hb)
theorem d_isV {r : List Row} (hb : isB op = true) (h : stepOp (Opd.get env) [] op = some (.bool c, r)) (k : ∀ c', c = c' → wpD P bb ds ((d, .bool c') :: env) rows K) : wpD P bb (⟨⟨some d, op, none⟩, w, nx, av, sep⟩ :: ds) env rows K := d_isB hb (o_v (kd_isB hb) h) k
theorem d_ld {agg : Bool} {n : Nat} {x : Opd} (h : stepOp (Opd.get env) rows (.load agg n x) = some (v, rows)) (hs : sideL bb nx av sep (Opd.get env) x = true) (k : wpD P bb ds ((d, v) :: env) rows K) : wpD P bb (⟨⟨some d, .load agg n x, none⟩, w, nx, av, sep⟩ :: ds) env rows K := by
  simp only [sideL, Bool.and_eq_true, List.all_eq_true, bne_iff_ne] at hs
  exact d_step (o_l' h hs.1.1 hs.1.2 (belowB_ok hs.2)) k
theorem d_st {n : Nat} {x y : Opd} (h : stepOp (Opd.get env) rows (.store n x y) = some (v, rows')) (hs : sideW bb nx sep (Opd.get env) x = true) (k : wpD P bb ds env rows' K) : wpD P bb (⟨⟨none, .store n x y, none⟩, w, nx, av, sep⟩ :: ds) env rows K := by
  simp only [sideW, Bool.and_eq_true, Bool.or_eq_true, List.all_eq_true, beq_iff_eq] at hs
  refine d_step0 (o_w' h hs.1 ?_) k
  rcases hs.2 with h0 | ⟨h0, h1⟩
  · exact .inl h0
  · rcases belowB_ok h1 with h2 | h2
    · exact .inl h2
    · exact .inr ⟨h0, h2⟩
theorem stepA_ok {g : Opd → AV} {dst : Option Nat} {gd : Option (Nat × Bool)} (hk : (DOp.mk ⟨dst, op, gd⟩ w nx av sep).kd = .a) (h : stepA bb nx g rows op = some (v, rows')) : outc P bb ⟨⟨dst, op, gd⟩, w, nx, av, sep⟩ g rows v rows' := by
  simp only [stepA, Option.bind_eq_some_iff] at h
  obtain ⟨⟨u, r⟩, h1, h2⟩ := h
  split at h2
  · rename_i r0 hr
    split at h2
    · rename_i hd
      simp only [Option.map_eq_some_iff] at h2
      obtain ⟨v', h3, h4⟩ := h2
      cases h4
      simp only at hr; subst hr
      exact o_a hk h1 h3 hd
    · cases h2
  · cases h2
theorem d_new {ty : Nat} {z : List AV} (h : stepA bb nx (Opd.get env) rows (.new ty z) = some (v, rows')) (k : wpD P bb ds ((d, v) :: env) rows' K) : wpD P bb (⟨⟨some d, .new ty z, none⟩, w, nx, av, sep⟩ :: ds) env rows K := d_step (stepA_ok rfl h) k
theorem d_box {ty : Nat} {x : Opd} (h : stepA bb nx (Opd.get env) rows (.box ty x) = some (v, rows')) (k : wpD P bb ds ((d, v) :: env) rows' K) : wpD P bb (⟨⟨some d, .box ty x, none⟩, w, nx, av, sep⟩ :: ds) env rows K := d_step (stepA_ok rfl h) k
theorem d_bsl {e n : Nat} {z : List AV} {ps : List (Nat × Opd)} (h : stepA bb nx (Opd.get env) rows (.bslice e z n ps) = some (v, rows')) (k : wpD P bb ds ((d, v) :: env) rows' K) : wpD P bb (⟨⟨some d, .bslice e z n ps, none⟩, w, nx, av, sep⟩ :: ds) env rows K := d_step (stepA_ok rfl h) k
theorem d_apw {e lim : Nat} {x y : Opd} (h : stepOp (Opd.get env) rows (.app e lim x y) = some (v, rows')) (k : wpD P bb ds ((d, v) :: env) rows' K) : wpD P bb (⟨⟨some d, .app e lim x y, none⟩, true, 0, av, []⟩ :: ds) env rows K := d_step (o_w rfl h) k
theorem d_apa {e lim : Nat} {x y : Opd} (h : stepA bb nx (Opd.get env) rows (.app e lim x y) = some (v, rows')) (k : wpD P bb ds ((d, v) :: env) rows' K) : wpD P bb (⟨⟨some d, .app e lim x y, none⟩, false, nx, av, sep⟩ :: ds) env rows K := d_step (stepA_ok rfl h) k
theorem d_v {r : List Row} (h : stepOp (Opd.get env) [] op = some (v, r)) (hk : (DOp.mk ⟨some d, op, none⟩ w nx av sep).kd = .v) (k : wpD P bb ds ((d, v) :: env) rows K) : wpD P bb (⟨⟨some d, op, none⟩, w, nx, av, sep⟩ :: ds) env rows K := d_step (o_v hk h) k
theorem d_fcall {f : Nat} {args : List Opd} (h : FCall P f (args.map (Opd.get env)) v) (hs : decide (bb + nx ≤ rows.length) = true) (k : wpD P bb ds ((d, v) :: env) rows K) : wpD P bb (⟨⟨some d, .call f args, none⟩, w, nx, av, sep⟩ :: ds) env rows K := d_step (o_c h (of_decide_eq_true hs)) k
theorem d_fcallb {f : Nat} {args : List Opd} (h : FCall P f (args.map (Opd.get env)) (.bool c)) (k : ∀ c', c = c' → wpD P bb ds ((d, .bool c') :: env) rows K) (hs : decide (bb + nx ≤ rows.length) = true) : wpD P bb (⟨⟨some d, .call f args, none⟩, w, nx, av, sep⟩ :: ds) env rows K := d_bool (o_c h (of_decide_eq_true hs)) k
theorem d_cn {f : Nat} {args : List Opd} {new : List Row} (h : FCallN P f (args.map (Opd.get env)) rows.length v new) (hs : decide (bb + nx ≤ rows.length) = true) (k : wpD P bb ds ((d, v) :: env) (rows ++ new) K) : wpD P bb (⟨⟨some d, .call f args, none⟩, w, nx, av, sep⟩ :: ds) env rows K := d_step (o_cn h (of_decide_eq_true hs)) k
theorem op_cn {f : Nat} {args : List Opd} {new : List Row} (h : FCallN P f (args.map (Opd.get env)) rows.length v new) (k : Sk.wpOps P os ((d, v) :: env) (rows ++ new) K) : Sk.wpOps P (⟨some d, .call f args, none⟩ :: os) env rows K :=
  (h rows rfl).mono (by rintro r rs ⟨rfl, rfl⟩; exact k)
end

/-- What an operation comes to: rules for simp, all in one. -/
theorem W0 : type_of% (And.intro @W1 (And.intro @stepOp.eq_1 (And.intro @stepOp.eq_2 (And.intro @stepOp.eq_3 (And.intro @stepOp.eq_4 (And.intro @stepOp.eq_5 (And.intro @stepOp.eq_6 (And.intro @stepOp.eq_7 (And.intro @stepOp.eq_8 (And.intro @stepOp.eq_9 (And.intro @stepOp.eq_10 (And.intro @stepOp.eq_11 (And.intro @stepOp.eq_12 (And.intro @stepOp.eq_13 (And.intro @stepOp.eq_14 (And.intro @stepOp.eq_15 (And.intro @stepOp.eq_16 (And.intro @stepOp.eq_17 (And.intro @stepOp.eq_18 (And.intro @stepOp.eq_19 (And.intro @stepOp.eq_20 (And.intro @stepOp.eq_21 (And.intro @stepOp.eq_22 (And.intro @stepOp.eq_23 (And.intro @stepOp.eq_24 (And.intro @stepOp.eq_25 (And.intro @stepOp.eq_26 (And.intro @Opd.get.eq_1 (And.intro @Opd.get.eq_2 (And.intro @look.eq_2 (And.intro @behind.eq_1 (And.intro @behind.eq_2 (And.intro @behind.eq_3 (And.intro @behind.eq_4 (And.intro @skip.eq_1 (And.intro @skip.eq_3 (And.intro @firsts.eq_1 (And.intro @firsts.eq_3 (And.intro @putAt.eq_1 (And.intro @putAt.eq_3 (And.intro @putParts.eq_1 (And.intro @putParts.eq_2 (And.intro @thawL.eq_1 (And.intro @thawL.eq_2 (And.intro @storeAt.eq_1 (And.intro @storeAt.eq_2 (And.intro @storeAt.eq_3 (And.intro @loadR.eq_1 (And.intro @loadR.eq_2 (And.intro @widths.eq_1 (And.intro @widths.eq_2 (And.intro @binV.eq_1 (And.intro @binV.eq_2 (And.intro @binV.eq_3 (And.intro @binV.eq_4 (And.intro @binV.eq_5 (And.intro @binV.eq_7 (And.intro @binV.eq_8 (And.intro @intBin.eq_1 (And.intro @intBin.eq_2 (And.intro @intBin.eq_3 (And.intro @intBin.eq_4 (And.intro @intBin.eq_5 (And.intro @intBin.eq_6 (And.intro @intBin.eq_7 (And.intro @intBin.eq_8 (And.intro @intBin.eq_9 (And.intro @intBin.eq_10 (And.intro @intBin.eq_11 (And.intro @intBin.eq_12 (And.intro @intBin.eq_13 (And.intro @intBin.eq_14 (And.intro @intBin.eq_15 (And.intro @idx.eq_1 (And.intro @Option.bind.eq_1.{0, 0} (And.intro @Option.bind.eq_2.{0, 0} (And.intro @Option.map.eq_1.{0, 0} (And.intro @Option.map.eq_2.{0, 0} (And.intro @resVs.eq_1 (And.intro @resVs.eq_2 (And.intro @resV1.eq_1 (And.intro @resV1.eq_2 (And.intro @bound.eq_1 (And.intro @bound.eq_2 (And.intro @stepA.eq_1 (And.intro @newAt.eq_1 (And.intro @newAt.eq_2 (And.intro @newAt.eq_3 (And.intro @gdV_bool (And.intro @gdV_unit (And.intro @appR.eq_1 (And.intro @appR.eq_2 (And.intro @elems.eq_2 (And.intro @elems.eq_3 (And.intro @Bool.not_true (And.intro @Bool.not_false (And.intro @putElems.eq_1 (And.intro @putElems.eq_2 (And.intro @Bool.or_true (@Bool.true_or)))))))))))))))))))))))))))))))))))))))))))))))))))))))))))))))))))))))))))))))))))))))))))))))))))) := And.intro @W1 (And.intro @stepOp.eq_1 (And.intro @stepOp.eq_2 (And.intro @stepOp.eq_3 (And.intro @stepOp.eq_4 (And.intro @stepOp.eq_5 (And.intro @stepOp.eq_6 (And.intro @stepOp.eq_7 (And.intro @stepOp.eq_8 (And.intro @stepOp.eq_9 (And.intro @stepOp.eq_10 (And.intro @stepOp.eq_11 (And.intro @stepOp.eq_12 (And.intro @stepOp.eq_13 (And.intro @stepOp.eq_14 (And.intro @stepOp.eq_15 (And.intro @stepOp.eq_16 (And.intro @stepOp.eq_17 (And.intro @stepOp.eq_18 (And.intro @stepOp.eq_19 (And.intro @stepOp.eq_20 (And.intro @stepOp.eq_21 (And.intro @stepOp.eq_22 (And.intro @stepOp.eq_23 (And.intro @stepOp.eq_24 (And.intro @stepOp.eq_25 (And.intro @stepOp.eq_26 (And.intro @Opd.get.eq_1 (And.intro @Opd.get.eq_2 (And.intro @look.eq_2 (And.intro @behind.eq_1 (And.intro @behind.eq_2 (And.intro @behind.eq_3 (And.intro @behind.eq_4 (And.intro @skip.eq_1 (And.intro @skip.eq_3 (And.intro @firsts.eq_1 (And.intro @firsts.eq_3 (And.intro @putAt.eq_1 (And.intro @putAt.eq_3 (And.intro @putParts.eq_1 (And.intro @putParts.eq_2 (And.intro @thawL.eq_1 (And.intro @thawL.eq_2 (And.intro @storeAt.eq_1 (And.intro @storeAt.eq_2 (And.intro @storeAt.eq_3 (And.intro @loadR.eq_1 (And.intro @loadR.eq_2 (And.intro @widths.eq_1 (And.intro @widths.eq_2 (And.intro @binV.eq_1 (And.intro @binV.eq_2 (And.intro @binV.eq_3 (And.intro @binV.eq_4 (And.intro @binV.eq_5 (And.intro @binV.eq_7 (And.intro @binV.eq_8 (And.intro @intBin.eq_1 (And.intro @intBin.eq_2 (And.intro @intBin.eq_3 (And.intro @intBin.eq_4 (And.intro @intBin.eq_5 (And.intro @intBin.eq_6 (And.intro @intBin.eq_7 (And.intro @intBin.eq_8 (And.intro @intBin.eq_9 (And.intro @intBin.eq_10 (And.intro @intBin.eq_11 (And.intro @intBin.eq_12 (And.intro @intBin.eq_13 (And.intro @intBin.eq_14 (And.intro @intBin.eq_15 (And.intro @idx.eq_1 (And.intro @Option.bind.eq_1.{0, 0} (And.intro @Option.bind.eq_2.{0, 0} (And.intro @Option.map.eq_1.{0, 0} (And.intro @Option.map.eq_2.{0, 0} (And.intro @resVs.eq_1 (And.intro @resVs.eq_2 (And.intro @resV1.eq_1 (And.intro @resV1.eq_2 (And.intro @bound.eq_1 (And.intro @bound.eq_2 (And.intro @stepA.eq_1 (And.intro @newAt.eq_1 (And.intro @newAt.eq_2 (And.intro @newAt.eq_3 (And.intro @gdV_bool (And.intro @gdV_unit (And.intro @appR.eq_1 (And.intro @appR.eq_2 (And.intro @elems.eq_2 (And.intro @elems.eq_3 (And.intro @Bool.not_true (And.intro @Bool.not_false (And.intro @putElems.eq_1 (And.intro @putElems.eq_2 (And.intro @Bool.or_true (@Bool.true_or)))))))))))))))))))))))))))))))))))))))))))))))))))))))))))))))))))))))))))))))))))))))))))))))))))
end Go.Sk
set_option linter.unusedVariables false
set_option linter.unusedSimpArgs false
namespace Go.Sk
open Go.RowKit

/-- A slice with a row of its own, or nil. -/
def slS (e id : Nat) : Option (List (List AV)) → AV
  | none => .nil e
  | some l => .sref id l.length
def rwS (e : Nat) : Option (List (List AV)) → Row
  | none => .dead
  | some l => .vec e l

section
variable {e id : Nat} {o : Option (List (List AV))} {rows : List Row}
theorem slS_none : slS e id none = .nil e := rfl
theorem slS_some {l : List (List AV)} : slS e id (some l) = .sref id l.length := rfl
theorem rwS_none : rwS e none = .dead := rfl
theorem rwS_some {l : List (List AV)} : rwS e (some l) = .vec e l := rfl
theorem slS_width : (slS e id o).width = 1 := by cases o <;> rfl
theorem slS_one : (slS e id o).one = true := by cases o <;> rfl
theorem slS_items : itemsOf (slS e id o) = some [slS e id o] := by cases o <;> rfl
theorem slS_len : lenV (slS e id o) = some ((slL o).length : Int) := by cases o <;> rfl
theorem slS_ren (f : Nat → Nat) : renV f (slS e id o) = slS e (f id) o := by cases o <;> rfl
theorem slS_ids {i : Nat} (h : i ∈ idsV (slS e id o)) : i = id := by
  cases o
  · simp [slS, idsV] at h
  · simpa [slS, idsV] using h
theorem rwS_ids : idsR (rwS e o) = [] := by cases o <;> rfl
theorem rwS_ren (f : Nat → Nat) : renR f (rwS e o) = rwS e o := by cases o <;> rfl
/-- Read as what nobody writes. -/
theorem slS_thaw (h : rows[id]? = some (rwS e o)) : ∃ r, thawV rows (slS e id o) = some (slA e o, r) ∧ ∀ j, j ≠ id → r[j]? = rows[j]? := by
  cases o with
  | none => exact ⟨rows, rfl, fun _ _ => rfl⟩
  | some l =>
    simp only [rwS] at h
    refine ⟨rows.set id (.frz e l), by simp [slS, thawV, h, slA], fun j hj => List.getElem?_set_ne (Ne.symm hj)⟩
theorem slS_fr1 (h : rows[id]? = some (rwS e o)) : ∃ r, fr1 rows (slS e id o) = some (slA e o, r) ∧ ∀ j, j ≠ id → r[j]? = rows[j]? := by
  obtain ⟨r, h1, h2⟩ := slS_thaw h
  refine ⟨r, ?_, h2⟩
  rw [← h1]; cases o <;> rfl
end

/-- What leads nowhere. -/
def plainV : AV → Bool
  | .int .. | .bool _ | .str _ | .flt _ | .nil _ | .nilp => true
  | _ => false
section
variable {P : Program} {im im' : Nat → Prop} {w w' : World} {ρ ρ' : Nat → Loc} {rows rows' : List Row} {f : Nat} {args args' : List AV}

theorem plain_rep {v : Value} {x : AV} (h : RepV P im w ρ v x) (hp : plainV x = true) : RepV P im' w' ρ' v x := by
  cases h with
  | int k n => exact .int k n
  | bool b => exact .bool b
  | str s => exact .str s
  | flt b => exact .flt b
  | nil e => exact .nil e
  | nilp => exact .nilp
  | _ => simp [plainV] at hp

/-- A call that only reads what it is lent. -/
theorem CW.borrow {S : AV → Prop} (hf : frT rows args = some (args', rows')) (h : FCallE P f args' S) (hp : ∀ v, S v → plainV v = true) : CW P f args rows (fun r rs => S r ∧ rs = rows) := by
  intro w im ρ vs hW hv
  obtain ⟨im1, a1, a2, a3⟩ := frT_sound hW hv hf
  refine (h [] w im1 noLoc vs (wf_nil a1.im) a3).mono ?_
  rintro e w' ⟨v, r, rs, im2, ρ2, rfl, ⟨hS, rfl⟩, h1, h2, hE⟩
  have noOwn : ∀ b, ¬ Own (noLoc) ([] : List Row) b := by rintro b ⟨id, r, c, a, _⟩; simp at a
  have hblk : ∀ b, b < w.heap.size → w'.heap[b]? = w.heap[b]? := fun b hb => hE.block b hb (noOwn b)
  refine ⟨v, r, rows, im, ρ, rfl, ⟨hS, rfl⟩, plain_rep h1 (hp _ hS), ⟨fun id r hr => RowOK.mono (fun b hb => ⟨hb, hblk b (hW.im b hb)⟩) (fun _ _ => rfl) (fun g c hl hg => ?_) (hW.row id r hr), hW.inj, hW.no, fun b hb => Nat.lt_of_lt_of_le (hW.im b hb) hE.size⟩,
    ⟨hE.os, hE.tape, hE.output, hE.size, fun b hb _ => hblk b hb, fun _ h => h, fun b h => .inl h, fun _ _ => rfl, Nat.le_refl _, fun b hb => .inl hb⟩⟩
  exact ⟨hblk g (hW.own_im ⟨id, r, c, hr, hl, hg⟩).2, fun hn => hn⟩

theorem own_deads' {m b : Nat} (h : Own ρ rows b) : Own ρ (rows ++ List.replicate m .dead) b := by
  obtain ⟨id, r, c, h1, h2, h3⟩ := h
  exact ⟨id, r, c, by rw [List.getElem?_append_left (List.getElem?_eq_some_iff.1 h1).1]; exact h1, h2, h3⟩

/-- Rows that are nothing ahead of what a call makes. -/
theorem FCallN.pre {n : Nat} (m : Nat) {v : AV} {new : List Row} (h : FCallN P f args (n + m) v new) : FCallN P f args n v (List.replicate m .dead ++ new) := by
  rintro rows rfl w im ρ vs hW hv
  refine (h (rows ++ List.replicate m .dead) (by simp) w im ρ vs (hW.deads m) hv).mono ?_
  rintro e w' ⟨v, r, rs, im2, ρ2, rfl, ⟨rfl, rfl⟩, h1, h2, hE⟩
  refine ⟨v, _, _, im2, ρ2, rfl, ⟨rfl, List.append_assoc ..⟩, h1, h2, ⟨hE.os, hE.tape, hE.output, hE.size, fun b hb hn => hE.block b hb (fun ho => hn (own_deads ho)), hE.imsub, fun b hb => ?_, fun id hid => hE.rho id (hid.imp (fun h => h) (fun h => by simp only [List.length_append]; omega)), by have := hE.len; simp only [List.length_append] at this ⊢; omega, fun b hb => ?_⟩⟩
  · rcases hE.imnew b hb with a | a | a
    · exact .inl a
    · exact .inr (.inl (own_deads a))
    · exact .inr (.inr a)
  · exact (hE.own b hb).imp own_deads (fun h => h)

/-- Rows that are nothing behind what a call makes. -/
theorem FCallN.post {n : Nat} (m : Nat) {v : AV} {new : List Row} (h : FCallN P f args n v new) : FCallN P f args n v (new ++ List.replicate m .dead) := by
  rintro rows rfl w im ρ vs hW hv
  refine (h rows rfl w im ρ vs hW hv).mono ?_
  rintro e w' ⟨v, r, rs, im2, ρ2, rfl, ⟨rfl, rfl⟩, h1, h2, hE⟩
  refine ⟨v, _, _, im2, ρ2, rfl, ⟨rfl, List.append_assoc ..⟩, h1, h2.deads m, ⟨hE.os, hE.tape, hE.output, hE.size, hE.block, hE.imsub, hE.imnew, hE.rho, by have := hE.len; simp only [List.length_append] at this ⊢; omega, fun b hb => hE.own b (own_deads hb)⟩⟩

/-- What a call makes, as nobody writes it. -/
theorem FCallN.freeze {v v' : AV} {new r' : List Row} (h : FCallN P f args 0 v new) (hi : idsL args = []) (hf : fr new v = some (v', r')) : FCall P f args v' :=
  FCall.of hi ((h [] rfl).mono (by rintro r rs ⟨rfl, rfl⟩; exact ⟨_, by simpa using hf⟩))

/-- A result that leads to two rows. -/
theorem ret_two {res : List MRes} {Q : AV → List Row → Prop} {env : Env} {vs : List AV} (i j : Nat) {ri rj : Row} (h : resVs env rows res = some vs) (hi : rows[i]? = some ri) (hj : rows[j]? = some rj) (hij : i ≠ j) (ni : idsR ri = []) (nj : idsR rj = []) (hids : ∀ id ∈ idsV (resV vs), id = i ∨ id = j)
    (ki : renR (gcF [i, j]) ri = ri) (kj : renR (gcF [i, j]) rj = rj) (k : Q (renV (gcF [i, j]) (resV vs)) [ri, rj]) : RetW 0 res Q env rows := by
  refine ⟨vs, h, [i, j], ⟨Nat.zero_le _, fun i hi => absurd hi (Nat.not_lt_zero _), by simpa using hij, fun id hid => by simpa using hids id hid, fun id hid => ?_⟩, ?_⟩
  · simp only [List.mem_cons, List.not_mem_nil, or_false] at hid
    rcases hid with rfl | rfl
    · exact ⟨ri, hi, by rw [ni]; simp⟩
    · exact ⟨rj, hj, by rw [nj]; simp⟩
  · have e2 : gcRows [i, j] rows = [ri, rj] := by simp [gcRows, List.getD_eq_getElem?_getD, hi, hj, ki, kj]
    rw [e2]; exact k
/-- A result that leads to one row. -/
theorem ret_row {res : List MRes} {Q : AV → List Row → Prop} {env : Env} {vs : List AV} (i : Nat) {ri : Row} (h : resVs env rows res = some vs) (hi : rows[i]? = some ri) (ni : idsR ri = []) (hids : ∀ id ∈ idsV (resV vs), id = i) (ki : renR (gcF [i]) ri = ri) (k : Q (renV (gcF [i]) (resV vs)) [ri]) : RetW 0 res Q env rows := by
  refine ⟨vs, h, [i], ⟨Nat.zero_le _, fun i hi => absurd hi (Nat.not_lt_zero _), by simp, fun id hid => by simpa using hids id hid, fun id hid => ?_⟩, ?_⟩
  · simp only [List.mem_cons, List.not_mem_nil, or_false] at hid
    subst hid
    exact ⟨ri, hi, by rw [ni]; simp⟩
  · have e2 : gcRows [i] rows = [ri] := by simp [gcRows, List.getD_eq_getElem?_getD, hi, ki]
    rw [e2]; exact k
theorem gcF_1 {i : Nat} : gcF [i] i = 0 := by simp [gcF, List.idxOf_cons]
theorem gcF_l {i j : Nat} : gcF [i, j] i = 0 := by simp [gcF, List.idxOf_cons]
theorem gcF_r {i j : Nat} (h : i ≠ j) : gcF [i, j] j = 1 := by
  have : (i == j) = false := by simpa using h
  simp [gcF, List.idxOf_cons, this]
end

section
variable {P : Program} {env : Env} {rows rows' : List Row} {os : List MOper} {d f : Nat} {args : List Opd} {args' : List AV} {K : Env → List Row → Prop}
/-- A call that answers yes and only reads what it is lent. -/
theorem op_borrow (hf : frT rows (args.map (Opd.get env)) = some (args', rows')) (h : FCall P f args' (.bool true)) (k : Sk.wpOps P os ((d, .bool true) :: env) rows K) : Sk.wpOps P (⟨some d, .call f args, none⟩ :: os) env rows K :=
  (CW.borrow (S := fun r => r = .bool true) hf h (by rintro v rfl; rfl)).mono (by rintro r rs ⟨rfl, rfl⟩; exact k)
/-- A call that changes what it is lent. -/
theorem op_cwk {K' : AV → List Row → Prop} (h : CW P f (args.map (Opd.get env)) rows K') (k : ∀ v rs, K' v rs → Sk.wpOps P os ((d, v) :: env) rs K) : Sk.wpOps P (⟨some d, .call f args, none⟩ :: os) env rows K := h.mono k
end
end Go.Sk
set_option linter.unusedVariables false
set_option linter.unusedSimpArgs false
namespace Go.Sk
open Go.RowKit

/-! ### Rows that are nothing, kept ready -/
/-- The function, begun with some rows that are nothing. -/
def wpFD (P : Program) (m : Nat) (f : MF) (args : List AV) (Q : AV → List Row → Prop) : Prop := wpC P 0 f.body (argEnv 0 args) (List.replicate m .dead) (endK 0 f.res Q)

section
variable {P : Program}
theorem wpFD_ok {m f : Nat} {fn : Func} {c : Code} {mf : MF} {args : List AV} {Q : AV → List Row → Prop} (hmix : P.follows .mixedOrders = true) (hf : P.funcs[f]? = some fn) (hb : fn.body = some c)
    (ht : trC P fn.ntmps c = some mf.body) (hr : trRes P fn.results.toList = some mf.res) (hn : args.length ≤ fn.ntmps) (hw : wpFD P m mf args Q) : CW P f args [] Q := by
  intro w im ρ vs hW hv
  have hlen : vs.length = args.length := by
    have : ∀ {vs : List Value} {xs : List AV}, RepT P im w ρ vs xs → vs.length = xs.length := by
      intro vs xs h
      induction xs generalizing vs with
      | nil => cases h; rfl
      | cons x xs ih => cases h with | cons _ _ _ _ _ h => simp [ih h]
    exact this hv
  refine calls_of_wp hf hb (wpC_ok (N := fn.ntmps) (w0 := w) (im0 := im) (ρ0 := ρ) (rows0 := []) hmix hW.no c ht (env := argEnv 0 args) (rows := List.replicate m .dead) (im := im) (ρ := ρ) ?_ hw ?_)
  · refine ⟨by simpa using hW.deads m, fun t => ?_, ⟨rfl, rfl, rfl, Nat.le_refl _, fun _ _ _ => rfl, fun _ h => h, fun _ h => .inl h, fun _ _ => rfl, Nat.zero_le _, fun b hb => .inl (own_deads (rows := []) (by simpa using hb))⟩, by simp; omega, rfl⟩
    have key : ∀ (k : Nat) {vs : List Value} {xs : List AV}, RepT P im w ρ vs xs → ∀ t, RepV P im w ρ (((List.replicate k undef ++ vs)[t]?).getD undef) (look (argEnv k xs) t) := by
      intro k vs xs h
      induction xs generalizing k vs with
      | nil => intro t; exact .un _
      | cons x xs ih =>
        cases h with
        | cons v _ vs' _ h1 h2 =>
          intro t
          simp only [argEnv, look]
          split
          · rename_i e; subst e
            simpa using h1
          · rename_i e
            have := ih (k + 1) h2 t
            rcases Nat.lt_or_ge t k with h' | h'
            · have hnone : look (argEnv (k + 1) xs) t = .un := by
                have : ∀ (l : List AV) (n : Nat), t < n → look (argEnv n l) t = .un := by
                  intro l
                  induction l with
                  | nil => intro n _; rfl
                  | cons y ys ih2 => intro n hn; simp only [argEnv, look]; rw [if_neg (by omega)]; exact ih2 (n + 1) (by omega)
                exact this xs (k + 1) (by omega)
              rw [hnone]; exact .un _
            · have hgt : k + 1 ≤ t := by omega
              rw [List.getElem?_append_right (by simp; omega)] at this ⊢
              simp only [List.length_replicate] at this ⊢
              rw [show t - k = (t - (k + 1)) + 1 by omega, List.getElem?_cons_succ]
              exact this
    have := key 0 hv t
    simp only [List.replicate_zero, List.nil_append] at this
    simp only [Act.eval, Array.getD_eq_getD_getElem?]
    rcases Nat.lt_or_ge t vs.length with h' | h'
    · rw [Array.getElem?_append_left (by simpa using h')]
      simpa using this
    · have e1 : vs[t]? = none := List.getElem?_eq_none (by omega)
      rw [e1] at this
      simp only [Option.getD_none] at this
      have e2 : ((vs.toArray ++ Array.replicate (fn.ntmps - vs.toArray.size) undef)[t]?).getD undef = undef := by
        rw [Array.getElem?_append_right (by simpa using h')]
        simp only [Array.getElem?_replicate]
        split <;> rfl
      rw [e2]; exact this
  · intro e env' rows' a' w' im' ρ' hs hk
    have fin : RetW 0 mf.res Q env' rows' → a'.defers = [] ∧ ∃ v, (results fn a'.tmps).run P w' = .ok v w' ∧ ∃ v_1 r rows'_1 im' ρ', Ending.returned v = Ending.returned v_1 ∧ Q r rows'_1 ∧ RepV P im' w' ρ' v_1 r ∧ WF P im' w' ρ' rows'_1 ∧ Ext w im ρ [] w' im' ρ' rows'_1 := by
      rintro ⟨xs, h1, L, h2, h3⟩
      obtain ⟨us, k1, k2⟩ := res_sound hs hr h1
      refine ⟨hs.defers, ?_⟩
      have hmap : (fn.results.mapM (resOf a'.tmps)).run P w' = Result.ok us.toArray w' := by
        rw [← Array.toArray_toList (xs := fn.results), List.mapM_toArray]
        simp [Sem.run_map, k1]
      have hval : ∃ v, (results fn a'.tmps).run P w' = .ok v w' ∧ RepV P im' w' ρ' v (resV xs) := by
        rw [results_eq]
        simp only [Sem.run_bind]
        refine ⟨if h : us.toArray.size = 1 then us.toArray[0] else .tuple us.toArray, ?_, ?_⟩
        · rw [hmap]; rfl
        · cases k2 with
          | nil => exact .tup [] [] .nil
          | cons v x vs xs' g1 g2 =>
            cases g2 with
            | nil => simpa [resV] using g1
            | cons v2 x2 vs2 xs2 g3 g4 =>
              simp [resV]
              exact .tup (v :: v2 :: vs2) _ (.cons _ _ _ _ g1 (.cons _ _ _ _ g3 g4))
      obtain ⟨v, v1, v2⟩ := hval
      obtain ⟨g1, g2, g3, g4⟩ := gc_ok hs.wf h2
      refine ⟨v, v1, v, _, _, im', _, rfl, h3, v2.ren (fun id hid => g4 id hid), g1, hs.ext.os, hs.ext.tape, hs.ext.output, hs.ext.size, hs.ext.block, hs.ext.imsub, hs.ext.imnew, fun id hid => ?_, Nat.zero_le _, fun b hb => hs.ext.own b (g2 b hb)⟩
      rcases hid with hid | hid
      · exact absurd (hW.no id (Nat.zero_le _)) hid
      · exact absurd hid (Nat.not_lt_zero _)
    cases e with
    | n => exact fin hk
    | r => exact fin hk
    | x i => exact hk.elim
theorem trFD_ok {f : Nat} {mf : MF} {args : List AV} {Q : AV → List Row → Prop} (m : Nat) (hmix : P.follows .mixedOrders = true) (ht : trF P f = some mf) (hn : args.length ≤ mf.ntmps) (hw : wpC P 0 mf.body (argEnv 0 args) (List.replicate m .dead) (endK 0 mf.res Q)) : CW P f args [] Q := by
  simp only [trF, Option.bind_eq_some_iff, Option.map_eq_some_iff] at ht
  obtain ⟨fn, h1, c, h2, m, h3, r, h4, rfl⟩ := ht
  exact wpFD_ok hmix h1 h2 h3 h4 hn hw
theorem fcallD {f : Nat} {mf : MF} {args : List AV} {v : AV} (m : Nat) (hmix : P.follows .mixedOrders = true) (ht : trF P f = some mf) (hn : args.length ≤ mf.ntmps) (hi : idsL args = [])
    (hw : wpC P 0 mf.body (argEnv 0 args) (List.replicate m .dead) (endK 0 mf.res fun r rs => ∃ rs', fr rs r = some (v, rs'))) : FCall P f args v :=
  FCall.of hi (trFD_ok m hmix ht hn hw)
end

/-! ### Slices of own rows: what is done with them -/
def frS (e : Nat) : Option (List (List AV)) → Row
  | none => .dead
  | some l => .frz e l
section
variable {e id : Nat} {o : Option (List (List AV))} {rows : List Row}
theorem frS_ids : idsR (frS e o) = [] := by cases o <;> rfl
theorem set_same {l : List Row} {i : Nat} {r : Row} (h : l[i]? = some r) : l.set i r = l := by
  obtain ⟨h1, h2⟩ := List.getElem?_eq_some_iff.1 h
  rw [← h2, List.set_getElem_self]
theorem thaw_slS (h : rows[id]? = some (rwS e o)) : thawV rows (slS e id o) = some (slA e o, rows.set id (frS e o)) := by
  cases o with
  | none => rw [frS, set_same (by simpa [rwS] using h)]; rfl
  | some l => simp only [rwS] at h; simp [slS, thawV, h, slA, frS]
theorem fr1_slS (h : rows[id]? = some (rwS e o)) : fr1 rows (slS e id o) = some (slA e o, rows.set id (frS e o)) := by
  rw [← thaw_slS h]; cases o <;> rfl
theorem appR_slS {lim : Nat} {y : List AV} (h : rows[id]? = some (rwS e o)) (hl : (slL o).length + 1 ≤ lim) : appR e lim rows (slS e id o) [y] = some (slS e rows.length (some (slL o ++ [y])), rows.set id .dead ++ [rwS e (some (slL o ++ [y]))]) := by
  cases o with
  | none =>
    have : rows.set id .dead = rows := set_same (by simpa [rwS] using h)
    simp only [slS, appR, slL, List.length_nil, Nat.zero_add] at hl ⊢
    simp [hl, this, rwS]
  | some l =>
    simp only [rwS] at h
    simp only [slL] at hl
    simp [slS, appR, h, slL, rwS, hl]
/-- Rows are forgotten, and numbered anew. -/
theorem back_L {kf : Nat} {T : List Nat} {J : Env → List Row → Prop} {env : Env} (L : List Nat) (h : gcOK kf L (idsL (T.map (look env))) rows) (hJ : J (T.map fun t => (t, renV (gcF L) (look env t))) (gcRows L rows)) : Back kf T J env rows := ⟨L, h, hJ⟩
/-- What slices of own rows come to: rules for simp. -/
theorem W5 : type_of% (And.intro @slS_width (And.intro @slS_one (And.intro @slS_items (And.intro @slS_len @thaw_slS)))) := And.intro @slS_width (And.intro @slS_one (And.intro @slS_items (And.intro @slS_len @thaw_slS)))
end
end Go.Sk
