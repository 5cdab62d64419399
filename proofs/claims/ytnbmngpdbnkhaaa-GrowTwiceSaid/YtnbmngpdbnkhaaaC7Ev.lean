/- Compact code, run: what it comes to where all is told. Conditions: none (a library text). -/
import Derived.Test.YtnbmngpdbnkhaaaC7More
set_option linter.unusedVariables false
set_option linter.unusedSimpArgs false
namespace Go.Sk
open Go.RowKit

abbrev Caller := Nat → List AV → List Row → Option (AV × List Row)
def CallOK (P : Program) (call : Caller) : Prop := ∀ f args rows v rows', call f args rows = some (v, rows') → CW P f args rows (fun r rs => r = v ∧ rs = rows')

def evNil (neg : Bool) (rows : List Row) : AV → Option (AV × List Row)
  | .nil _ => some (.bool (!neg), rows)
  | .fz _ _ => some (.bool neg, rows)
  | .sref _ _ => some (.bool neg, rows)
  | _ => none

def evOp (call : Caller) (op : MOp) (env : Env) (rows : List Row) : Option (AV × List Row) :=
  match op with
  | .call f args => match call f (args.map (Opd.get env)) rows with
    | some p => some p
    | none => match frT rows (args.map (Opd.get env)) with
      | some (as', rows') => call f as' rows'
      | none => none
  | .isnil neg x => evNil neg rows (x.get env)
  | op => stepOp (Opd.get env) rows op

def evOps (call : Caller) : List MOper → Env → List Row → Option (Env × List Row)
  | [], env, rows => some (env, rows)
  | o :: os, env, rows => match o.g with
    | none => match evOp call o.op env rows with
      | some (v, rows') => evOps call os (putE o.dst v env) rows'
      | none => none
    | some (t, b) => match gdV (look env t) with
      | .yes c => if c = b then match evOp call o.op env rows with
          | some (v, rows') => evOps call os (putE o.dst v env) rows'
          | none => none
        else evOps call os (putE o.dst (.tup []) env) rows
      | .no => evOps call os (putE o.dst (.tup []) env) rows
      | .bad => none

def belowB (b nx : Nat) (x : AV) : Bool := nx == 0 || (match rowId x with
  | some id => decide (id + 1 < b + nx)
  | none => true)
theorem belowB_ok {b nx : Nat} {x : AV} (h : belowB b nx x = true) : Und b nx x := by
  unfold belowB at h
  simp only [Bool.or_eq_true, beq_iff_eq] at h
  rcases h with h | h
  · exact .inl h
  · refine .inr fun id hid => ?_
    rw [hid] at h
    simpa using h

def evOut (call : Caller) (b : Nat) (d : DOp) (g : Opd → AV) (rows : List Row) : Option (AV × List Row) :=
  match d.kd with
  | .v => match stepOp g [] d.o.op with
    | some (v, _) => some (v, rows)
    | none => none
  | .c => match d.o.op with
    | .call f args => if (idsL (args.map g)).isEmpty then match call f (args.map g) [] with
        | some (u, rs) => if b + d.nx ≤ rows.length then some (renV (· + rows.length) u, rows ++ rs.map (renR (· + rows.length))) else none
        | none => none
      else none
    | _ => none
  | .l => match stepOp g rows d.o.op with
    | some (v, _) => if (d.av.all fun k => rowId (g (ptrOf d.o.op)) != some (b + k)) && (d.sep.all fun p => sepB (g (.t p)) (g (ptrOf d.o.op))) && belowB b d.nx (g (ptrOf d.o.op)) then some (v, rows) else none
    | none => none
  | .a => match stepOp g [] d.o.op with
    | some (u, [r]) => match newAt (b + d.nx) u, rows[b + d.nx]? with
      | some v, some .dead => some (v, rows.set (b + d.nx) r)
      | _, _ => none
    | _ => none
  | .w => match stepOp g rows d.o.op with
    | some (v, rows') => if (d.sep.all fun p => sepB (g (ptrOf d.o.op)) (g (.t p))) && (d.nx == 0 || boxP (g (ptrOf d.o.op)) && belowB b d.nx (g (ptrOf d.o.op))) then some (v, rows') else none
    | none => none

def evD (call : Caller) (b : Nat) : List DOp → Env → List Row → Option (Env × List Row)
  | [], env, rows => some (env, rows)
  | d :: ds, env, rows => match d.o.g with
    | none => match evOut call b d (Opd.get env) rows with
      | some (v, rows') => evD call b ds (putE d.o.dst v env) rows'
      | none => none
    | some (t, c) => match gdV (look env t) with
      | .yes x => if x = c then match evOut call b d (Opd.get env) rows with
          | some (v, rows') => evD call b ds (putE d.o.dst v env) rows'
          | none => none
        else evD call b ds (putE d.o.dst (.tup []) env) rows
      | .no => evD call b ds (putE d.o.dst (.tup []) env) rows
      | .bad => none

/-- All rows may stay. -/
def okAll (kf : Nat) (ids : List Nat) (rows : List Row) : Bool := decide (kf ≤ rows.length) && ids.all (fun i => decide (i < rows.length)) && rows.all fun r => (idsR r).all fun i => decide (i < rows.length)

def keys : Env → List Nat
  | [] => []
  | (t, _) :: e => if (keys e).contains t then keys e else t :: keys e

def cut (T : List Nat) (env : Env) : Env := T.map fun t => (t, look env t)

def evIter (kf : Nat) (step : Env → List Row → Option (Ex × Env × List Row)) (T : List Nat) : Nat → Env → List Row → Option (Ex × Env × List Row)
  | 0, _, _ => none
  | n + 1, env, rows => match step env rows with
    | some (.n, env', rows') => if okAll kf (idsL (T.map (look env'))) rows' then evIter kf step T n (cut T env') rows' else none
    | r => r

def evC (call : Caller) (fuel kf : Nat) : MC → Env → List Row → Option (Ex × Env × List Row)
  | .skip, env, rows => some (.n, env, rows)
  | .reg ops, env, rows => match evOps call ops env rows with
    | some (e, r) => some (.n, e, r)
    | none => none
  | .dreg m ds, env, rows => match evD call rows.length ds env (rows ++ List.replicate m .dead) with
    | some (e, r) => some (.n, e, r)
    | none => none
  | .seq a b, env, rows => match evC call fuel kf a env rows with
    | some (.n, e, r) => evC call fuel kf b e r
    | x => x
  | .cond c a b, env, rows => match c.get env with
    | .bool true => evC call fuel kf a env rows
    | .bool false => evC call fuel kf b env rows
    | _ => none
  | .block id c, env, rows => match evC call fuel kf c env rows with
    | some (.x j, e, r) => if j = id then some (.n, e, r) else some (.x j, e, r)
    | x => x
  | .loop c, env, rows => let T := keys env; if okAll kf (idsL (T.map (look env))) rows then evIter kf (evC call fuel kf c) T fuel (cut T env) rows else none
  | .exit id, env, rows => some (.x id, env, rows)
  | .ret, env, rows => some (.r, env, rows)

def evF (mt : Nat → Option MF) (fuel : Nat) : Nat → Caller
  | 0, _, _, _ => none
  | n + 1, f, args, rows => match mt f with
    | none => none
    | some m => if args.length ≤ m.ntmps then match evC (evF mt fuel n) fuel rows.length m.body (argEnv 0 args) rows with
        | some (.x _, _, _) => none
        | some (_, env, rows') => match resVs env rows' m.res with
          | some vs => if okAll rows.length (idsV (resV vs)) rows' then some (resV vs, rows') else none
          | none => none
        | none => none
      else none

section
variable {P : Program} {call : Caller} {env env' : Env} {rows rows' : List Row} {v : AV}

theorem evOp_ok (hc : CallOK P call) {op : MOp} {K : AV → List Row → Prop} (h : evOp call op env rows = some (v, rows')) (hK : K v rows') : wpOp P op env rows K := by
  cases op with
  | call f args =>
    simp only [evOp] at h
    split at h
    · rename_i p hp
      cases h
      exact (hc _ _ _ _ _ hp).mono (by rintro r rs ⟨rfl, rfl⟩; exact hK)
    · split at h
      · rename_i as' rows2 hf
        exact CW.freeze hf ((hc _ _ _ _ _ h).mono (by rintro r rs ⟨rfl, rfl⟩; exact hK))
      · cases h
  | isnil neg x =>
    simp only [evOp] at h
    simp only [wpOp]
    generalize x.get env = z at h ⊢
    unfold evNil at h
    split at h
    · cases h; exact hK
    · cases h; exact hK
    · cases h; exact hK
    · cases h
  | _ => exact ⟨v, rows', h, hK⟩

theorem evOps_ok (hc : CallOK P call) : ∀ {os : List MOper} {env env' : Env} {rows rows' : List Row} {K : Env → List Row → Prop}, evOps call os env rows = some (env', rows') → K env' rows' → Sk.wpOps P os env rows K
  | [], env, env', rows, rows', K, h, hK => by simp [evOps] at h; obtain ⟨rfl, rfl⟩ := h; exact hK
  | o :: os, env, env', rows, rows', K, h, hK => by
    unfold evOps at h
    unfold Sk.wpOps
    split at h
    · rename_i hg
      rw [hg]
      split at h
      · rename_i v r hv; exact evOp_ok hc hv (evOps_ok hc h hK)
      · cases h
    · rename_i t b hg
      rw [hg]
      simp only
      split at h
      · rename_i c hgd
        rw [hgd]
        split at h
        · rename_i hcb
          split at h
          · rename_i v r hv; exact ⟨fun _ => evOp_ok hc hv (evOps_ok hc h hK), fun hn => absurd hcb hn⟩
          · cases h
        · rename_i hcb
          exact ⟨fun hn => absurd hn hcb, fun _ => evOps_ok hc h hK⟩
      · rename_i hgd
        rw [hgd]
        exact evOps_ok hc h hK
      · cases h

theorem evOut_ok (hc : CallOK P call) {b : Nat} {d : DOp} {g : Opd → AV} (h : evOut call b d g rows = some (v, rows')) : outc P b d g rows v rows' := by
  unfold evOut at h
  unfold outc
  cases hk : d.kd with
  | v =>
    simp only [hk] at h
    split at h
    · rename_i v' r hv; cases h; exact ⟨rfl, r, hv⟩
    · cases h
  | c =>
    simp only [hk] at h
    split at h
    · rename_i f args ho
      split at h
      · rename_i hi
        split at h
        · rename_i u rs hu
          split at h
          · rename_i hle
            cases h
            exact ⟨f, args, _, ho, rfl, hle, FCallN.of (by simpa using hi) (hc _ _ _ _ _ hu) _⟩
          · cases h
        · cases h
      · cases h
    · cases h
  | l =>
    simp only [hk] at h
    split at h
    · rename_i v' r hv
      split at h
      · rename_i hc'
        cases h
        simp only [Bool.and_eq_true, List.all_eq_true, bne_iff_ne] at hc'
        refine ⟨rfl, ?_, hc'.1.1, hc'.1.2, belowB_ok hc'.2⟩
        obtain ⟨ag, n, x, ex⟩ := kd_load hk
        rw [ex] at hv ⊢
        simp only [stepOp, Option.bind_eq_some_iff, Option.map_eq_some_iff] at hv ⊢
        obtain ⟨l, h1, m, h2, y, h3, h4⟩ := hv
        cases h4
        exact ⟨l, h1, m, h2, _, h3, rfl⟩
      · cases h
    · cases h
  | a =>
    simp only [hk] at h
    split at h
    · rename_i u r hv
      split at h
      · rename_i v' h1 h2
        cases h
        exact ⟨u, r, hv, h1, h2, rfl⟩
      · cases h
    · cases h
  | w =>
    simp only [hk] at h
    split at h
    · rename_i v' r hv
      split at h
      · rename_i hc'
        cases h
        simp only [Bool.and_eq_true, List.all_eq_true, Bool.or_eq_true, beq_iff_eq] at hc'
        refine ⟨hv, hc'.1, ?_⟩
        rcases hc'.2 with h0 | ⟨h0, h1⟩
        · exact .inl h0
        · rcases belowB_ok h1 with h2 | h2
          · exact .inl h2
          · exact .inr ⟨h0, h2⟩
      · cases h
    · cases h

theorem evD_ok (hc : CallOK P call) {b : Nat} : ∀ {os : List DOp} {env env' : Env} {rows rows' : List Row} {K : Env → List Row → Prop}, evD call b os env rows = some (env', rows') → K env' rows' → wpD P b os env rows K
  | [], env, env', rows, rows', K, h, hK => by simp [evD] at h; obtain ⟨rfl, rfl⟩ := h; exact hK
  | o :: os, env, env', rows, rows', K, h, hK => by
    unfold evD at h
    unfold wpD
    split at h
    · rename_i hg
      rw [hg]
      split at h
      · rename_i v r hv; exact ⟨v, r, evOut_ok hc hv, evD_ok hc h hK⟩
      · cases h
    · rename_i t b hg
      rw [hg]
      simp only
      split at h
      · rename_i c hgd
        rw [hgd]
        split at h
        · rename_i hcb
          split at h
          · rename_i v r hv; exact ⟨fun _ => ⟨v, r, evOut_ok hc hv, evD_ok hc h hK⟩, fun hn => absurd hcb hn⟩
          · cases h
        · rename_i hcb
          exact ⟨fun hn => absurd hn hcb, fun _ => evD_ok hc h hK⟩
      · rename_i hgd
        rw [hgd]
        exact evD_ok hc h hK
      · cases h

theorem back_all {kf : Nat} {T : List Nat} {J : Env → List Row → Prop} (h : okAll kf (idsL (T.map (look env))) rows = true) (hJ : J (cut T env) rows) : Back kf T J env rows := by
  simp only [okAll, Bool.and_eq_true, List.all_eq_true, decide_eq_true_eq] at h
  exact back_keep h.1.1 h.1.2 h.2 hJ

theorem ret_all {kf : Nat} {res : List MRes} {Q : AV → List Row → Prop} {vs : List AV} (h : resVs env rows res = some vs) (ho : okAll kf (idsV (resV vs)) rows = true) (k : Q (resV vs) rows) : RetW kf res Q env rows := by
  simp only [okAll, Bool.and_eq_true, List.all_eq_true, decide_eq_true_eq] at ho
  obtain ⟨⟨h0, h1⟩, h2⟩ := ho
  refine ⟨vs, h, List.range rows.length, ⟨by simpa using h0, fun i hi => by rw [List.getElem?_range (by omega)], List.nodup_range, fun id hid => by simpa using h1 id hid, fun id hid => ?_⟩, ?_⟩
  · simp only [List.mem_range] at hid
    exact ⟨rows[id], List.getElem?_eq_getElem hid, fun j hj => by simpa using h2 _ (List.getElem_mem hid) j hj⟩
  · rw [renV_of _ (fun id hid => gcF_range (h1 id hid))]
    have e2 : gcRows (List.range rows.length) rows = rows := by
      apply List.ext_getElem?
      intro i
      simp only [gcRows, List.getElem?_map]
      rcases Nat.lt_or_ge i rows.length with hi | hi
      · rw [List.getElem?_range hi, List.getElem?_eq_getElem hi]
        simp only [Option.map_some, List.getD_eq_getElem?_getD, List.getElem?_eq_getElem hi, Option.getD_some]
        rw [renR_of _ (fun id hid => gcF_range (h2 _ (List.getElem_mem hi) id hid))]
      · rw [List.getElem?_eq_none (by simpa using hi), List.getElem?_eq_none hi]; rfl
    rw [e2]; exact k

theorem evC_ok (hc : CallOK P call) {fuel kf : Nat} : ∀ (c : MC) {e : Ex} {env env' : Env} {rows rows' : List Row} {K : Ex → Env → List Row → Prop}, evC call fuel kf c env rows = some (e, env', rows') → K e env' rows' → wpC P kf c env rows K
  | .skip, e, env, env', rows, rows', K, h, hK => by simp only [evC, Option.some.injEq, Prod.mk.injEq] at h; obtain ⟨rfl, rfl, rfl⟩ := h; exact hK
  | .reg ops, e, env, env', rows, rows', K, h, hK => by
    simp only [evC] at h
    split at h
    · rename_i e1 r1 h1; cases h; exact evOps_ok hc h1 hK
    · cases h
  | .dreg m ds, e, env, env', rows, rows', K, h, hK => by
    simp only [evC] at h
    split at h
    · rename_i e1 r1 h1; cases h; exact evD_ok hc h1 hK
    · cases h
  | .seq a b, e, env, env', rows, rows', K, h, hK => by
    simp only [evC] at h
    unfold wpC
    split at h
    · rename_i e1 r1 h1; exact evC_ok hc a h1 (evC_ok hc b h hK)
    · rename_i hne
      refine evC_ok hc a h ?_
      cases e with
      | n => exact absurd h (hne _ _)
      | x i => exact hK
      | r => exact hK
  | .cond c a b, e, env, env', rows, rows', K, h, hK => by
    simp only [evC] at h
    unfold wpC
    split at h
    · rename_i hb; rw [hb]; exact ⟨fun _ => evC_ok hc a h hK, fun hn => by cases hn⟩
    · rename_i hb; rw [hb]; exact ⟨fun hn => (by cases hn), fun _ => evC_ok hc b h hK⟩
    · cases h
  | .block id c, e, env, env', rows, rows', K, h, hK => by
    simp only [evC] at h
    unfold wpC
    split at h
    · rename_i j e1 r1 h1
      refine evC_ok hc c h1 ?_
      split at h
      · rename_i hj; cases h; simp only [hj, if_true]; exact hK
      · rename_i hj; cases h; simp only [hj, if_false]; exact hK
    · rename_i hne
      refine evC_ok hc c h ?_
      cases e with
      | n => exact hK
      | x i => exact absurd h (hne _ _ _)
      | r => exact hK
  | .loop c, e, env, env', rows, rows', K, h, hK => by
    simp only [evC] at h
    split at h
    · rename_i hok
      unfold wpC
      refine ⟨keys env, fun n en rs => evIter kf (evC call fuel kf c) (keys env) n en rs = some (e, env', rows'), fuel, back_all hok h, ?_⟩
      intro n en rs hI
      cases n with
      | zero => simp [evIter] at hI
      | succ n =>
        simp only [evIter] at hI
        split at hI
        · rename_i e1 r1 h1
          split at hI
          · rename_i hok1
            exact evC_ok hc c h1 ⟨n, Nat.lt_succ_self n, back_all hok1 hI⟩
          · cases hI
        · rename_i hne
          refine evC_ok hc c hI ?_
          cases e with
          | n => exact absurd hI (hne _ _)
          | x i => exact hK
          | r => exact hK
    · cases h
  | .exit id, e, env, env', rows, rows', K, h, hK => by simp only [evC, Option.some.injEq, Prod.mk.injEq] at h; obtain ⟨rfl, rfl, rfl⟩ := h; exact hK
  | .ret, e, env, env', rows, rows', K, h, hK => by simp only [evC, Option.some.injEq, Prod.mk.injEq] at h; obtain ⟨rfl, rfl, rfl⟩ := h; exact hK

theorem evF_ok {mt : Nat → Option MF} {fuel : Nat} (hmix : P.follows .mixedOrders = true) (hmt : ∀ f m, mt f = some m → trF P f = some m) : ∀ n, CallOK P (evF mt fuel n)
  | 0 => by intro f args rows v rows' h; simp [evF] at h
  | n + 1 => by
    intro f args rows v rows' h
    simp only [evF] at h
    split at h
    · cases h
    · rename_i m hm
      split at h
      · rename_i hl
        split at h
        · cases h
        · rename_i e env' r hnx hv
          split at h
          · rename_i vs hvs
            split at h
            · rename_i hok
              cases h
              refine trF_ok hmix (hmt f m hm) hl ?_
              unfold wpF
              refine evC_ok (evF_ok hmix hmt n) m.body hv ?_
              cases e with
              | n => exact ret_all hvs hok ⟨rfl, rfl⟩
              | x i => exact (hnx i rfl).elim
              | r => exact ret_all hvs hok ⟨rfl, rfl⟩
            · cases h
          · cases h
        · cases h
      · cases h

/-- A call whose run ends in yes. -/
theorem evF_true {mt : Nat → Option MF} {fuel n f : Nat} {args : List AV} (hmix : P.follows .mixedOrders = true) (hmt : ∀ f m, mt f = some m → trF P f = some m) (hi : idsL args = [])
    (h : (match evF mt fuel n f args [] with | some (.bool true, _) => true | _ => false) = true) : FCall P f args (.bool true) := by
  split at h
  · rename_i rs hv
    refine FCall.of hi ((evF_ok hmix hmt n f args [] _ _ hv).mono ?_)
    rintro r q ⟨rfl, rfl⟩
    exact ⟨q, rfl⟩
  · cases h
end
end Go.Sk
