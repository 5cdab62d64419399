/- Rules for walking through compact code, step by step. Conditions: none (a library text). -/
import Derived.Test.YtnbmngpdbnkhaaaC6Draw4
import Derived.Deep.LoopGhost
set_option linter.unusedVariables false
set_option linter.unusedSimpArgs false
namespace Go.Sk
open Go.RowKit

def trC (P : Program) (N : Nat) : Code → Option MC
  | .skip => some .skip
  | .label _ => some .skip
  | .region _ ops d => if d then (trD P N ops).map fun p => .dreg p.1 p.2 else (trOpers P N ops ops.toList).map .reg
  | .seq a b => (trC P N a).bind fun a => (trC P N b).map fun b => .seq a b
  | .cond c a b => (trOpd P none c).bind fun c => (trC P N a).bind fun a => (trC P N b).map fun b => .cond c a b
  | .block id c => (trC P N c).map (.block id)
  | .loop c => (trC P N c).map .loop
  | .exit id => some (.exit id)
  | .ret => some .ret
  | _ => none

def exOf : Ex → Exit
  | .n => .normal
  | .x id => .exit id
  | .r => .ret

theorem trOpers_all2 {P : Program} {N : Nat} {ops : Array Oper} : ∀ {os : List Oper} {ms : List MOper}, trOpers P N ops os = some ms → os.length = ms.length ∧ ∀ (j : Nat) (o : Oper) (m : MOper), os[j]? = some o → ms[j]? = some m → trOper P N ops o = some m
  | [], ms, h => by simp [trOpers] at h; subst h; exact ⟨rfl, fun j o m h => by simp at h⟩
  | o :: os, ms, h => by
    simp only [trOpers, Option.bind_eq_some_iff, Option.map_eq_some_iff] at h
    obtain ⟨m, h1, ms', h2, rfl⟩ := h
    obtain ⟨a, b⟩ := trOpers_all2 h2
    refine ⟨by simp [a], fun j o' m' e1 e2 => ?_⟩
    cases j with
    | zero => simp at e1 e2; subst e1; subst e2; exact h1
    | succ j => simp at e1 e2; exact b j o' m' e1 e2

section
variable {P : Program} {N : Nat} {w0 : World} {im0 : Nat → Prop} {ρ0 : Nat → Loc} {rows0 : List Row} {env : Env} {rows : List Row} {a : Act} {w : World} {im : Nat → Prop} {ρ : Nat → Loc}

theorem WF.heap {w' : World} (h : WF P im w ρ rows) (e : w'.heap = w.heap) : WF P im w' ρ rows :=
  ⟨fun id r hr => RowOK.mono (fun b hb => ⟨hb, by rw [e]⟩) (fun _ _ => rfl) (fun g cap _ _ => ⟨by rw [e], fun h => h⟩) (h.row id r hr), h.inj, h.no, fun b hb => by rw [e]; exact h.im b hb⟩

theorem WF.deads (h : WF P im w ρ rows) (m : Nat) : WF P im w ρ (rows ++ List.replicate m .dead) := by
  have hcase : ∀ (id : Nat) (r : Row), (rows ++ List.replicate m .dead)[id]? = some r → rows[id]? = some r ∨ r = .dead := fun id r hr => by
    rcases Nat.lt_or_ge id rows.length with h' | h'
    · rw [List.getElem?_append_left h'] at hr; exact .inl hr
    · rw [List.getElem?_append_right h'] at hr
      exact .inr (List.eq_of_mem_replicate (List.mem_of_getElem? hr))
  refine ⟨fun id r hr => ?_, fun id id' r r' b c c' h1 h2 l1 l2 e1 e2 => ?_, fun id hid => ?_, h.im⟩
  · rcases hcase id r hr with h' | rfl
    · exact h.row id r h'
    · trivial
  · rcases hcase id r h1 with h1 | rfl
    · rcases hcase id' r' h2 with h2 | rfl
      · exact h.inj id id' r r' b c c' h1 h2 l1 l2 e1 e2
      · simp [Row.live] at l2
    · simp [Row.live] at l1
  · simp at hid
    exact h.no id (by omega)

theorem own_deads {m b : Nat} (h : Own ρ (rows ++ List.replicate m .dead) b) : Own ρ rows b := by
  obtain ⟨id, r, c, h1, h2, h3⟩ := h
  rcases Nat.lt_or_ge id rows.length with h' | h'
  · rw [List.getElem?_append_left h'] at h1; exact ⟨id, r, c, h1, h2, h3⟩
  · rw [List.getElem?_append_right h'] at h1
    have := List.eq_of_mem_replicate (List.mem_of_getElem? h1)
    subst this; simp [Row.live] at h2

/-- A region whose order the machine draws. -/
theorem dreg_ok {id m : Nat} {ops : Array Oper} {ds : List DOp} {Q : Exit → Act → World → Prop} {K : Env → List Row → Prop} (hmix : P.follows .mixedOrders = true) (h0 : ∀ id, rows0.length ≤ id → ρ0 id = .no)
    (ht : trD P N ops = some (m, ds)) (h : St P N w0 im0 ρ0 rows0 env rows a w im ρ) (hK : wpD P rows.length ds env (rows ++ List.replicate m .dead) K)
    (hQ : ∀ {env rows a w im ρ}, St P N w0 im0 ρ0 rows0 env rows a w im ρ → K env rows → Q .normal a w) : (Code.region id ops true).wp P Q a w := by
  refine wp_region_any hmix ?_
  simp only [trD, Option.bind_eq_some_iff] at ht
  obtain ⟨ms, h1, h2⟩ := ht
  split at h2
  · rename_i hok
    cases h2
    obtain ⟨k1, k2⟩ := trOpers_all2 h1
    have hmo := mkD_o ms (tabOf ops.toList [])
    have hlen : (mkD ms (tabOf ops.toList [])).length = ops.size := by
      have := congrArg List.length hmo
      simp at this k1; omega
    obtain ⟨env', R', hc, hkk, _⟩ := chain_of_wpD (ds := mkD ms (tabOf ops.toList [])) 0 _ rfl (by simp only [okD, Bool.and_eq_true] at hok; exact hok.2) hK
    have hrem : remL ops.size (Array.replicate ops.size false) = List.range ops.size := by
      unfold remL
      rw [List.filter_eq_self]
      intro i hi
      simp only [List.mem_range] at hi
      simp [hi]
    refine draw_any (N := N) (w0 := w0) (im0 := im0) (rows0 := rows0) (b := rows.length) (G := look env') (FN := look env') (RN := R') h0 h.ext.len hok hlen (fun j o d e1 e2 => k2 j o d.o (by rw [Array.getElem?_toList]; exact e1) ?_) (fun a w hr => ?_) ops.size (Array.replicate ops.size false) (by rw [hrem]; simp) (by simp) (fun j o ho hl => ?_) ?_ (F := look env) (R := rows ++ List.replicate (countA (mkD ms (tabOf ops.toList []))) .dead) ?_
    · have := congrArg (fun l : List MOper => l[j]?) hmo
      simp only [List.getElem?_map, e2, Option.map_some] at this
      exact this.symm
    · obtain ⟨env2, im2, ρ2, e, hst, _, _⟩ := hr
      have hst' : St P N w0 im0 ρ0 rows0 env' R' a w im2 ρ2 := ⟨hst.wf, fun t => by have := hst.env t; rw [congrFun e t] at this; exact this, hst.ext, hst.size, hst.defers⟩
      exact hQ hst' hkk
    · have hjn := (Array.getElem?_eq_some_iff.1 ho).1
      simp [hjn] at hl
    · rw [hrem, List.range_eq_range', ← hlen]
      exact hc
    · have hh : ({ w with drawn := w.drawn + 1 } : World).heap = w.heap := rfl
      refine ⟨env, im, ρ, rfl, ⟨(h.wf.heap hh).deads _, fun t => RepV.mono (w := w) (w' := { w with drawn := w.drawn + 1 }) (fun b hb => ⟨hb, rfl⟩) (fun _ _ => rfl) (h.env t), ⟨h.ext.os, h.ext.tape, h.ext.output, h.ext.size, h.ext.block, h.ext.imsub, h.ext.imnew, h.ext.rho, by have := h.ext.len; simp; omega, fun b hb => h.ext.own b (own_deads hb)⟩, h.size, h.defers⟩, by simp, fun i _ d _ _ => h.wf.no _ (by omega)⟩
  · cases h2

/-- The code. -/
theorem wpC_ok (hmix : P.follows .mixedOrders = true) (h0 : ∀ id, rows0.length ≤ id → ρ0 id = .no) : ∀ (c : Code) {mc : MC}, trC P N c = some mc → ∀ {env : Env} {rows : List Row} {a : Act} {w : World} {im : Nat → Prop} {ρ : Nat → Loc} {K : Ex → Env → List Row → Prop} {Q : Exit → Act → World → Prop},
    St P N w0 im0 ρ0 rows0 env rows a w im ρ → wpC P rows0.length mc env rows K → (∀ {e env rows a w im ρ}, St P N w0 im0 ρ0 rows0 env rows a w im ρ → K e env rows → Q (exOf e) a w) → c.wp P Q a w
  | .skip, mc, ht, env, rows, a, w, im, ρ, K, Q, h, hK, hQ => by
    simp [trC] at ht; subst ht
    exact wp_skip (hQ h hK)
  | .label l, mc, ht, env, rows, a, w, im, ρ, K, Q, h, hK, hQ => by
    simp [trC] at ht; subst ht
    exact wp_label (hQ h hK)
  | .region id ops d, mc, ht, env, rows, a, w, im, ρ, K, Q, h, hK, hQ => by
    cases d with
    | true =>
      simp only [trC, if_true, Option.map_eq_some_iff] at ht
      obtain ⟨⟨m, ds⟩, h1, rfl⟩ := ht
      exact dreg_ok hmix h0 h1 h hK (fun hs hk => hQ hs hk)
    | false =>
      simp only [trC, Bool.false_eq_true, if_false, Option.map_eq_some_iff] at ht
      obtain ⟨ms, h1, rfl⟩ := ht
      refine wp_region ?_
      have := wpOps_ok (Q := Q) ops.toList ms 0 rfl h1 h hK (fun hs hk => hQ hs hk)
      rwa [Array.length_toList, ← List.range_eq_range'] at this
  | .seq x y, mc, ht, env, rows, a, w, im, ρ, K, Q, h, hK, hQ => by
    simp only [trC, Option.bind_eq_some_iff, Option.map_eq_some_iff] at ht
    obtain ⟨mx, h1, my, h2, rfl⟩ := ht
    refine wp_seq (wpC_ok hmix h0 x h1 h hK ?_)
    intro e env rows a w im ρ hs hk
    cases e with
    | n => exact wpC_ok hmix h0 y h2 hs hk hQ
    | x i => exact hQ (e := .x i) hs hk
    | r => exact hQ (e := .r) hs hk
  | .cond c x y, mc, ht, env, rows, a, w, im, ρ, K, Q, h, hK, hQ => by
    simp only [trC, Option.bind_eq_some_iff, Option.map_eq_some_iff] at ht
    obtain ⟨oc, h3, mx, h1, my, h2, rfl⟩ := ht
    simp only [wpC] at hK
    split at hK
    · rename_i t hc
      have hv := trOpd_sound h.env h3
      rw [hc] at hv
      have := rep_bool hv
      refine wp_cond_split this (fun e => ?_) (fun e => ?_)
      · exact wpC_ok hmix h0 x h1 h (hK.1 e) hQ
      · exact wpC_ok hmix h0 y h2 h (hK.2 e) hQ
    · exact hK.elim
  | .block id c, mc, ht, env, rows, a, w, im, ρ, K, Q, h, hK, hQ => by
    simp only [trC, Option.map_eq_some_iff] at ht
    obtain ⟨mx, h1, rfl⟩ := ht
    refine wp_block (wpC_ok hmix h0 c h1 h hK ?_)
    intro e env rows a w im ρ hs hk
    cases e with
    | n => exact hQ (e := .n) hs hk
    | x i =>
      simp only [exOf, Exit.inBlock]
      simp only at hk
      split
      · rename_i e; rw [if_pos e] at hk; exact hQ (e := .n) hs hk
      · rename_i e; rw [if_neg e] at hk; exact hQ (e := .x i) hs hk
    | r => exact hQ (e := .r) hs hk
  | .loop c, mc, ht, env, rows, a, w, im, ρ, K, Q, h, hK, hQ => by
    simp only [trC, Option.map_eq_some_iff] at ht
    obtain ⟨mx, h1, rfl⟩ := ht
    obtain ⟨T, I, n, ⟨L, hg, hI⟩, hround⟩ := hK
    refine wp_loop_ghost (fun n a w => ∃ env rows im ρ, I n env rows ∧ St P N w0 im0 ρ0 rows0 env rows a w im ρ) n ⟨_, _, _, _, hI, h.back hg h0⟩ ?_
    rintro n a w ⟨env, rows, im, ρ, hI, hs⟩
    refine wpC_ok hmix h0 c h1 hs (hround n env rows hI) ?_
    intro e env rows a w im ρ hs hk
    cases e with
    | n =>
      obtain ⟨m, hm, L, hg, hI⟩ := hk
      exact ⟨m, hm, _, _, _, _, hI, hs.back hg h0⟩
    | x i => exact hQ (e := .x i) hs hk
    | r => exact hQ (e := .r) hs hk
  | .exit id, mc, ht, env, rows, a, w, im, ρ, K, Q, h, hK, hQ => by
    simp [trC] at ht; subst ht
    exact wp_exit (hQ (e := .x id) h hK)
  | .ret, mc, ht, env, rows, a, w, im, ρ, K, Q, h, hK, hQ => by
    simp [trC] at ht; subst ht
    exact wp_ret (hQ (e := .r) h hK)

/-! ### Results -/
def trRes (P : Program) : List ResultVar → Option (List MRes)
  | [] => some []
  | .tmp t :: rs => (trRes P rs).map fun l => .tmp t :: l
  | .cell a t :: rs => match P.underlying t, P.info? t with
    | some d, some i => (trRes P rs).map fun l => .cell a (isAggD d) i.size :: l
    | _, _ => none

def resOf (tmps : Array Value) : ResultVar → Sem Value
  | .tmp t => Pure.pure (tmps.getD t undef)
  | .cell b t => do loadVar t (← asAddr (tmps.getD b undef))

theorem results_eq (fn : Func) (tmps : Array Value) : results fn tmps = (do
    let vs ← fn.results.mapM (resOf tmps)
    Pure.pure (if h : vs.size = 1 then vs[0] else .tuple vs)) := by
  unfold results
  congr 2

theorem res_sound (h : St P N w0 im0 ρ0 rows0 env rows a w im ρ) : ∀ {rs : List ResultVar} {ms : List MRes} {xs : List AV}, trRes P rs = some ms → resVs env rows ms = some xs →
    ∃ vs : List Value, (rs.mapM (resOf a.tmps)).run P w = Result.ok vs w ∧ RepT P im w ρ vs xs
  | [], ms, xs, ht, hx => by
    simp [trRes] at ht; subst ht
    simp [resVs] at hx; subst hx
    exact ⟨[], by simp, .nil⟩
  | .tmp t :: rs, ms, xs, ht, hx => by
    simp only [trRes, Option.map_eq_some_iff] at ht
    obtain ⟨ms', h1, rfl⟩ := ht
    simp only [resVs, resV1, Option.bind_some, Option.map_eq_some_iff] at hx
    obtain ⟨xs', h2, rfl⟩ := hx
    obtain ⟨vs, h3, h4⟩ := res_sound h h1 h2
    refine ⟨a.tmps.getD t undef :: vs, ?_, .cons _ _ _ _ (h.env t) h4⟩
    simp [List.mapM_cons, resOf, h3]
  | .cell b t :: rs, ms, xs, ht, hx => by
    simp only [trRes] at ht
    split at ht
    · rename_i d i hd hi
      simp only [Option.map_eq_some_iff] at ht
      obtain ⟨ms', h1, rfl⟩ := ht
      simp only [resVs, resV1, Option.bind_eq_some_iff, Option.map_eq_some_iff] at hx
      obtain ⟨v, ⟨l, g1, m, g2, g3⟩, xs', h2, rfl⟩ := hx
      obtain ⟨vs, h3, h4⟩ := res_sound h h1 h2
      have henv := h.env b
      obtain ⟨u, k1, k2⟩ := load_sound h.wf henv g1 g2 hd (by simp [Program.cellsOf, hi]) (by simp [hi]) rfl g3
      obtain ⟨ad, us, e, _, _⟩ := behind_sound h.wf henv g1
      simp only [Act.eval] at e k1
      rw [e] at k1
      have k1' : (loadVar t ad).run P w = .ok u w := by
        simpa [Instr.loadAt, Instr.sureAddr] using k1
      refine ⟨u :: vs, ?_, .cons _ _ _ _ k2 h4⟩
      simp [List.mapM_cons, resOf, h3, e, asAddr, k1']
    · cases ht

/-- A function whose compact form does as is said. -/
theorem wpF_ok {f : Nat} {fn : Func} {c : Code} {mf : MF} {args : List AV} {rows : List Row} {Q : AV → List Row → Prop} (hmix : P.follows .mixedOrders = true) (hf : P.funcs[f]? = some fn) (hb : fn.body = some c)
    (ht : trC P fn.ntmps c = some mf.body) (hr : trRes P fn.results.toList = some mf.res) (hn : args.length ≤ fn.ntmps) (hw : wpF P mf args rows Q) : CW P f args rows Q := by
  intro w im ρ vs hW hv
  have hlen : vs.length = args.length := by
    have : ∀ {vs : List Value} {xs : List AV}, RepT P im w ρ vs xs → vs.length = xs.length := by
      intro vs xs h
      induction xs generalizing vs with
      | nil => cases h; rfl
      | cons x xs ih => cases h with | cons _ _ _ _ _ h => simp [ih h]
    exact this hv
  refine calls_of_wp hf hb (wpC_ok (N := fn.ntmps) (w0 := w) (im0 := im) (ρ0 := ρ) (rows0 := rows) hmix hW.no c ht (env := argEnv 0 args) (rows := rows) (im := im) (ρ := ρ) ?_ hw ?_)
  · refine ⟨hW, fun t => ?_, Ext.refl _ _ _ _, by simp; omega, rfl⟩
    have key : ∀ (k : Nat) {vs : List Value} {xs : List AV}, RepT P im w ρ vs xs → ∀ t, RepV P im w ρ (((List.replicate k undef ++ vs)[t]?).getD undef) (look (argEnv k xs) t) := by
      intro k vs xs h
      induction xs generalizing k vs with
      | nil => intro t; exact .un _
      | cons x xs ih =>
        cases h with
        | cons v _ vs' _ h1 h2 =>
          intro t
          simp only [argEnv, look]
          split
          · rename_i e; subst e
            simpa using h1
          · rename_i e
            have := ih (k + 1) h2 t
            rcases Nat.lt_or_ge t k with h' | h'
            · have hnone : look (argEnv (k + 1) xs) t = .un := by
                have : ∀ (l : List AV) (n : Nat), t < n → look (argEnv n l) t = .un := by
                  intro l
                  induction l with
                  | nil => intro n _; rfl
                  | cons y ys ih2 => intro n hn; simp only [argEnv, look]; rw [if_neg (by omega)]; exact ih2 (n + 1) (by omega)
                exact this xs (k + 1) (by omega)
              rw [hnone]; exact .un _
            · have hgt : k + 1 ≤ t := by omega
              rw [List.getElem?_append_right (by simp; omega)] at this ⊢
              simp only [List.length_replicate] at this ⊢
              rw [show t - k = (t - (k + 1)) + 1 by omega, List.getElem?_cons_succ]
              exact this
    have := key 0 hv t
    simp only [List.replicate_zero, List.nil_append] at this
    simp only [Act.eval, Array.getD_eq_getD_getElem?]
    rcases Nat.lt_or_ge t vs.length with h' | h'
    · rw [Array.getElem?_append_left (by simpa using h')]
      simpa using this
    · have e1 : vs[t]? = none := List.getElem?_eq_none (by omega)
      rw [e1] at this
      simp only [Option.getD_none] at this
      have e2 : ((vs.toArray ++ Array.replicate (fn.ntmps - vs.toArray.size) undef)[t]?).getD undef = undef := by
        rw [Array.getElem?_append_right (by simpa using h')]
        simp only [Array.getElem?_replicate]
        split <;> rfl
      rw [e2]; exact this
  · intro e env' rows' a' w' im' ρ' hs hk
    have fin : RetW rows.length mf.res Q env' rows' → a'.defers = [] ∧ ∃ v, (results fn a'.tmps).run P w' = .ok v w' ∧ ∃ v_1 r rows'_1 im' ρ', Ending.returned v = Ending.returned v_1 ∧ Q r rows'_1 ∧ RepV P im' w' ρ' v_1 r ∧ WF P im' w' ρ' rows'_1 ∧ Ext w im ρ rows w' im' ρ' rows'_1 := by
      rintro ⟨xs, h1, L, h2, h3⟩
      obtain ⟨us, k1, k2⟩ := res_sound hs hr h1
      refine ⟨hs.defers, ?_⟩
      have hmap : (fn.results.mapM (resOf a'.tmps)).run P w' = Result.ok us.toArray w' := by
        rw [← Array.toArray_toList (xs := fn.results), List.mapM_toArray]
        simp [Sem.run_map, k1]
      have hval : ∃ v, (results fn a'.tmps).run P w' = .ok v w' ∧ RepV P im' w' ρ' v (resV xs) := by
        rw [results_eq]
        simp only [Sem.run_bind]
        refine ⟨if h : us.toArray.size = 1 then us.toArray[0] else .tuple us.toArray, ?_, ?_⟩
        · rw [hmap]; rfl
        · cases k2 with
          | nil => exact .tup [] [] .nil
          | cons v x vs xs' g1 g2 =>
            cases g2 with
            | nil => simpa [resV] using g1
            | cons v2 x2 vs2 xs2 g3 g4 =>
              simp [resV]
              exact .tup (v :: v2 :: vs2) _ (.cons _ _ _ _ g1 (.cons _ _ _ _ g3 g4))
      obtain ⟨v, v1, v2⟩ := hval
      obtain ⟨g1, g2, g3, g4⟩ := gc_ok hs.wf h2
      refine ⟨v, v1, v, _, _, im', _, rfl, h3, v2.ren (fun id hid => g4 id hid), g1, hs.ext.os, hs.ext.tape, hs.ext.output, hs.ext.size, hs.ext.block, hs.ext.imsub, hs.ext.imnew, fun id hid => ?_, by simpa [gcRows] using h2.1, fun b hb => hs.ext.own b (g2 b hb)⟩
      have hlt : id < rows.length := by
        rcases Nat.lt_or_ge id rows.length with h' | h'
        · exact h'
        · exact hid.elim (fun hn => absurd (hW.no id h') hn) (fun h => h)
      rw [g3 id hlt]
      exact hs.ext.rho id hid
    cases e with
    | n => exact fin hk
    | r => exact fin hk
    | x i => exact hk.elim
end
end Go.Sk
set_option linter.unusedVariables false
set_option linter.unusedSimpArgs false
namespace Go.Sk
open Go.RowKit

/-! ### Values behind which nothing may be written -/
def fr1 (rows : List Row) (x : AV) : Option (AV × List Row) :=
  match x with
  | .arr l => if (idsL l).isEmpty then some (.arr l, rows) else none
  | x => thawV rows x

def frL (rows : List Row) : List AV → Option (List AV × List Row)
  | [] => some ([], rows)
  | x :: xs => (fr1 rows x).bind fun p => (frL p.2 xs).map fun q => (p.1 :: q.1, q.2)

def frV (rows : List Row) (x : AV) : Option (AV × List Row) :=
  match x with
  | .agg l => (frL rows l).map fun q => (.agg q.1, q.2)
  | x => thawV rows x

def frT (rows : List Row) : List AV → Option (List AV × List Row)
  | [] => some ([], rows)
  | x :: xs => (frV rows x).bind fun p => (frT p.2 xs).map fun q => (p.1 :: q.1, q.2)

/-- What a result comes to where nobody writes behind it. -/
def fr (rows : List Row) (x : AV) : Option (AV × List Row) :=
  match x with
  | .tup l => (frT rows l).map fun q => (.tup q.1, q.2)
  | x => frV rows x

section
variable {P : Program} {im : Nat → Prop} {w : World} {ρ : Nat → Loc} {rows rows' : List Row}

theorem RepL.noIds {us : List Value} {l : List AV} (h : RepL P im w ρ us l) (hi : idsL l = []) (ρ' : Nat → Loc) : RepL P im w ρ' us l := by
  have := h.ren (ρ' := ρ') (f := fun i => i) (fun id hid => by rw [hi] at hid; cases hid)
  rwa [renL_id] at this

theorem RepT.noIds {us : List Value} {l : List AV} (h : RepT P im w ρ us l) (hi : idsL l = []) (ρ' : Nat → Loc) : RepT P im w ρ' us l := by
  have := h.ren (ρ' := ρ') (f := fun i => i) (fun id hid => by rw [hi] at hid; cases hid)
  rwa [renL_id] at this

theorem frL_sound (hW : WF P im w ρ rows) {us : List Value} {l l' : List AV} (hv : RepL P im w ρ us l) (ht : frL rows l = some (l', rows')) :
    ∃ im', WF P im' w ρ rows' ∧ Ext w im ρ rows w im' ρ rows' ∧ RepL P im' w noLoc us l' := by
  induction l generalizing us l' rows im with
  | nil => simp [frL] at ht; obtain ⟨rfl, rfl⟩ := ht; cases hv; exact ⟨im, hW, Ext.refl _ _ _ _, .nil⟩
  | cons x xs ih =>
    simp only [frL, Option.bind_eq_some_iff, Option.map_eq_some_iff] at ht
    obtain ⟨⟨y, r1⟩, h1, ⟨ys, r2⟩, h2, h3⟩ := ht
    cases h3
    cases hv with
    | cons v _ vs _ o h hs =>
      have h1' : thawV rows x = some (y, r1) := by
        cases x <;> first | exact h1 | simp [AV.one] at o
      obtain ⟨im1, a1, a2, a3, a4, a5⟩ := thawV_sound hW h h1'
      obtain ⟨im2, b1, b2, b3⟩ := ih a1 (a2.repL hW hs) h2
      exact ⟨im2, b1, a2.trans b2, .cons _ _ _ _ a4 (a3.mono (b2.keeps a1) (fun _ hn => absurd rfl hn)) b3⟩
    | arr us' l0 vs _ o h hs =>
      simp only [fr1] at h1
      split at h1
      · rename_i hi
        cases h1
        obtain ⟨im2, b1, b2, b3⟩ := ih hW hs h2
        exact ⟨im2, b1, b2, .arr _ _ _ _ o ((b2.repL hW h).noIds (by simpa using hi) noLoc) b3⟩
      · cases h1

theorem frV_sound (hW : WF P im w ρ rows) {v : Value} {x y : AV} (hv : RepV P im w ρ v x) (ht : frV rows x = some (y, rows')) :
    ∃ im', WF P im' w ρ rows' ∧ Ext w im ρ rows w im' ρ rows' ∧ RepV P im' w noLoc v y := by
  cases hv with
  | agg vs l h =>
    simp only [frV, Option.map_eq_some_iff] at ht
    obtain ⟨⟨l', r⟩, h1, h2⟩ := ht
    cases h2
    obtain ⟨im', a, b, c⟩ := frL_sound hW h h1
    exact ⟨im', a, b, .agg _ _ c⟩
  | int k n => obtain ⟨im', a, b, c, _⟩ := thawV_sound hW (.int k n) ht; exact ⟨im', a, b, c⟩
  | bool b => obtain ⟨im', a, b, c, _⟩ := thawV_sound hW (.bool b) ht; exact ⟨im', a, b, c⟩
  | str b => obtain ⟨im', a, b, c, _⟩ := thawV_sound hW (.str b) ht; exact ⟨im', a, b, c⟩
  | flt b => obtain ⟨im', a, b, c, _⟩ := thawV_sound hW (.flt b) ht; exact ⟨im', a, b, c⟩
  | nil b => obtain ⟨im', a, b, c, _⟩ := thawV_sound hW (.nil b) ht; exact ⟨im', a, b, c⟩
  | fz e A cap l us h0 h1 h2 h3 h4 => obtain ⟨im', a, b, c, _⟩ := thawV_sound hW (.fz e A cap l us h0 h1 h2 h3 h4) ht; exact ⟨im', a, b, c⟩
  | sref id g cap n h hn => obtain ⟨im', a, b, c, _⟩ := thawV_sound hW (.sref id g cap n h hn) ht; exact ⟨im', a, b, c⟩
  | nilp => obtain ⟨im', a, b, c, _⟩ := thawV_sound hW .nilp ht; exact ⟨im', a, b, c⟩
  | ptr id g cap c h => simp [frV, thawV] at ht
  | ptrA id g cap c j h => simp [frV, thawV] at ht
  | ptrE id g cap e i c h => simp [frV, thawV] at ht
  | pz ad us items c h1 h2 h3 => simp [frV, thawV] at ht
  | tup vs l h => simp [frV, thawV] at ht
  | un v => simp [frV, thawV] at ht

theorem frT_sound (hW : WF P im w ρ rows) {us : List Value} {l l' : List AV} (hv : RepT P im w ρ us l) (ht : frT rows l = some (l', rows')) :
    ∃ im', WF P im' w ρ rows' ∧ Ext w im ρ rows w im' ρ rows' ∧ RepT P im' w noLoc us l' := by
  induction l generalizing us l' rows im with
  | nil => simp [frT] at ht; obtain ⟨rfl, rfl⟩ := ht; cases hv; exact ⟨im, hW, Ext.refl _ _ _ _, .nil⟩
  | cons x xs ih =>
    simp only [frT, Option.bind_eq_some_iff, Option.map_eq_some_iff] at ht
    obtain ⟨⟨y, r1⟩, h1, ⟨ys, r2⟩, h2, h3⟩ := ht
    cases h3
    cases hv with
    | cons v _ vs _ h hs =>
      obtain ⟨im1, a1, a2, a3⟩ := frV_sound hW h h1
      obtain ⟨im2, b1, b2, b3⟩ := ih a1 (a2.repT hW hs) h2
      exact ⟨im2, b1, a2.trans b2, .cons _ _ _ _ (a3.mono (b2.keeps a1) (fun _ hn => absurd rfl hn)) b3⟩

theorem fr_sound (hW : WF P im w ρ rows) {v : Value} {x y : AV} (hv : RepV P im w ρ v x) (ht : fr rows x = some (y, rows')) :
    ∃ im', WF P im' w ρ rows' ∧ Ext w im ρ rows w im' ρ rows' ∧ RepV P im' w noLoc v y := by
  cases hv with
  | tup vs l h =>
    simp only [fr, Option.map_eq_some_iff] at ht
    obtain ⟨⟨l', r⟩, h1, h2⟩ := ht
    cases h2
    obtain ⟨im', a, b, c⟩ := frT_sound hW h h1
    exact ⟨im', a, b, .tup _ _ c⟩
  | un v => simp [fr, frV, thawV] at ht
  | int k n => exact frV_sound hW (.int k n) ht
  | bool b => exact frV_sound hW (.bool b) ht
  | str b => exact frV_sound hW (.str b) ht
  | flt b => exact frV_sound hW (.flt b) ht
  | nil b => exact frV_sound hW (.nil b) ht
  | fz e A cap l us h0 h1 h2 h3 h4 => exact frV_sound hW (.fz e A cap l us h0 h1 h2 h3 h4) ht
  | sref id g cap n h hn => exact frV_sound hW (.sref id g cap n h hn) ht
  | nilp => exact frV_sound hW .nilp ht
  | ptr id g cap c h => exact frV_sound hW (.ptr id g cap c h) ht
  | ptrA id g cap c j h => exact frV_sound hW (.ptrA id g cap c j h) ht
  | ptrE id g cap e i c h => exact frV_sound hW (.ptrE id g cap e i c h) ht
  | pz ad us items c h1 h2 h3 => exact frV_sound hW (.pz ad us items c h1 h2 h3) ht
  | agg vs l h => exact frV_sound hW (.agg vs l h) ht

theorem wf_nil (h : ∀ b, im b → b < w.heap.size) : WF P im w noLoc [] :=
  ⟨fun id r hr => by simp at hr, fun id id' r r' b c c' h1 => by simp at h1, fun _ _ => rfl, h⟩

/-- A call that leaves the rows as they are, and whose value is one of some. -/
def FCallE (P : Program) (f : Nat) (args : List AV) (S : AV → Prop) : Prop := ∀ rows, CW P f args rows (fun r rs => S r ∧ rs = rows)

theorem FCallE.cw {f : Nat} {args : List AV} {S : AV → Prop} {rows : List Row} {K : AV → List Row → Prop} (h : FCallE P f args S) (hK : ∀ v, S v → K v rows) : CW P f args rows K :=
  (h rows).mono (by rintro r rs ⟨h, rfl⟩; exact hK r h)

/-- What is shown where there is nothing else holds whatever else there is. -/
theorem FCallE.of {f : Nat} {args : List AV} {S : AV → Prop} (hi : idsL args = []) (h : CW P f args [] fun r rs => ∃ v rs', fr rs r = some (v, rs') ∧ S v) : FCallE P f args S := by
  intro rows w im ρ vs hW hv
  refine (h w im noLoc vs (wf_nil hW.im) (hv.noIds hi noLoc)).mono ?_
  rintro e w' ⟨u, r, rs, im1, ρ1, rfl, ⟨v, rs', hf, hS⟩, h1, h2, h3⟩
  obtain ⟨im2, k1, k2, k3⟩ := fr_sound h2 h1 hf
  have hE := h3.trans k2
  have noOwn : ∀ b, ¬ Own (noLoc) ([] : List Row) b := by rintro b ⟨id, r, c, a, _⟩; simp at a
  have hblk : ∀ b, b < w.heap.size → w'.heap[b]? = w.heap[b]? := fun b hb => hE.block b hb (noOwn b)
  have hkeep : ∀ b, im b → im2 b ∧ w'.heap[b]? = w.heap[b]? := fun b hb => ⟨hE.imsub b hb, hblk b (hW.im b hb)⟩
  have hnew : ∀ b, im2 b → im b ∨ w.heap.size ≤ b := fun b hb => by
    rcases hE.imnew b hb with a | a | a
    · exact .inl a
    · exact absurd a (noOwn b)
    · exact .inr a
  refine ⟨u, v, rows, im2, ρ, rfl, ⟨hS, rfl⟩, k3.lift, ⟨fun id r hr => RowOK.mono hkeep (fun _ _ => rfl) (fun g c hl hg => ?_) (hW.row id r hr), hW.inj, hW.no, k1.im⟩, ⟨hE.os, hE.tape, hE.output, hE.size, fun b hb _ => hblk b hb, hE.imsub, fun b hb => (hnew b hb).imp id .inr, fun _ _ => rfl, Nat.le_refl _, fun b hb => .inl hb⟩⟩
  obtain ⟨a1, a2⟩ := hW.own_im ⟨id, r, c, hr, hl, hg⟩
  refine ⟨hblk g a2, fun _ hn => ?_⟩
  rcases hnew g hn with a | a
  · exact a1 a
  · omega

theorem FCall.of {f : Nat} {args : List AV} {v : AV} (hi : idsL args = []) (h : CW P f args [] fun r rs => ∃ rs', fr rs r = some (v, rs')) : FCall P f args v :=
  FCallE.of (S := fun r => r = v) hi (h.mono fun r rs ⟨rs', e⟩ => ⟨v, rs', e, rfl⟩)

/-- What is lent to a call may be taken as written by nobody any more. -/
theorem CW.freeze {f : Nat} {args as' : List AV} {rows rows' : List Row} {K : AV → List Row → Prop} (hf : frT rows args = some (as', rows')) (h : CW P f as' rows' K) : CW P f args rows K := by
  intro w im ρ vs hW hv
  obtain ⟨im', a1, a2, a3⟩ := frT_sound hW hv hf
  refine (h w im' ρ vs a1 (a3.mono (fun b hb => ⟨hb, rfl⟩) (fun _ hn => absurd rfl hn))).mono ?_
  rintro e w' ⟨v, r, rows2, im2, ρ2, rfl, hk, k1, k2, k3⟩
  exact ⟨v, r, rows2, im2, ρ2, rfl, hk, k1, k2, a2.trans k3⟩

theorem shift_get {rows rs : List Row} {id : Nat} {r : Row} (h : (rows ++ rs.map (renR (· + rows.length)))[id]? = some r) :
    (id < rows.length ∧ rows[id]? = some r) ∨ ∃ k r0, id = k + rows.length ∧ rs[k]? = some r0 ∧ r = renR (· + rows.length) r0 := by
  rcases Nat.lt_or_ge id rows.length with h' | h'
  · rw [List.getElem?_append_left h'] at h; exact .inl ⟨h', h⟩
  · rw [List.getElem?_append_right h', List.getElem?_map, Option.map_eq_some_iff] at h
    obtain ⟨r0, h1, h2⟩ := h
    exact .inr ⟨id - rows.length, r0, by omega, h1, h2.symm⟩

/-- What a call makes where there is nothing else it makes behind all else. -/
theorem FCallN.of {f : Nat} {args : List AV} {u : AV} {rs : List Row} (hi : idsL args = []) (h : CW P f args [] fun r q => r = u ∧ q = rs) (n : Nat) : FCallN P f args n (renV (· + n) u) (rs.map (renR (· + n))) := by
  rintro rows rfl w im ρ vs hW hv
  refine (h w im noLoc vs (wf_nil hW.im) (hv.noIds hi noLoc)).mono ?_
  rintro e w' ⟨v, r, q, im1, ρ1, rfl, ⟨rfl, rfl⟩, h1, h2, hE⟩
  have noOwn : ∀ b, ¬ Own (noLoc) ([] : List Row) b := by rintro b ⟨id, r, c, a, _⟩; simp at a
  have hblk : ∀ b, b < w.heap.size → w'.heap[b]? = w.heap[b]? := fun b hb => hE.block b hb (noOwn b)
  have hkeep : ∀ b, im b → im1 b ∧ w'.heap[b]? = w.heap[b]? := fun b hb => ⟨hE.imsub b hb, hblk b (hW.im b hb)⟩
  have hnew : ∀ b, im1 b → im b ∨ w.heap.size ≤ b := fun b hb => by
    rcases hE.imnew b hb with a | a | a
    · exact .inl a
    · exact absurd a (noOwn b)
    · exact .inr a
  have hown : ∀ b, Own ρ1 q b → w.heap.size ≤ b := fun b hb => (hE.own b hb).elim (fun a => absurd a (noOwn b)) id
  let ρ2 : Nat → Loc := fun id => if id < rows.length then ρ id else ρ1 (id - rows.length)
  have e1 : ∀ id, id < rows.length → ρ2 id = ρ id := fun id hid => if_pos hid
  have e2 : ∀ k, ρ2 (k + rows.length) = ρ1 k := fun k => by
    show (if k + rows.length < rows.length then _ else _) = _
    rw [if_neg (by omega), Nat.add_sub_cancel]
  have e3 : ∀ id, ρ id ≠ .no → ρ2 id = ρ id := fun id hid => by
    rcases Nat.lt_or_ge id rows.length with h' | h'
    · exact e1 id h'
    · exact absurd (hW.no id h') hid
  refine ⟨v, _, _, im1, ρ2, rfl, ⟨rfl, rfl⟩, h1.ren (fun id _ => e2 id), ⟨fun id r' hr => ?_, fun id id' r1 r2 b c c' g1 g2 l1 l2 p1 p2 => ?_, fun id hid => ?_, h2.im⟩,
    ⟨hE.os, hE.tape, hE.output, hE.size, fun b hb _ => hblk b hb, hE.imsub, fun b hb => (hnew b hb).imp id .inr, fun id hid => ?_, by simp, fun b hb => ?_⟩⟩
  · rcases shift_get hr with ⟨hlt, hr'⟩ | ⟨k, r0, rfl, hr', rfl⟩
    · refine RowOK.mono hkeep e3 (fun g c hl hg => ?_) (hW.row id r' hr')
      obtain ⟨a1, a2⟩ := hW.own_im ⟨id, r', c, hr', hl, hg⟩
      refine ⟨hblk g a2, fun _ hn => ?_⟩
      rcases hnew g hn with a | a
      · exact a1 a
      · omega
    · exact (h2.row k r0 hr').ren (e2 k) (fun j _ => e2 j)
  · rcases shift_get g1 with ⟨hlt, q1⟩ | ⟨k, r0, rfl, q1, rfl⟩
    · rcases shift_get g2 with ⟨hlt', q2⟩ | ⟨k', r0', rfl, q2, rfl⟩
      · rw [e1 id hlt] at p1; rw [e1 id' hlt'] at p2
        exact hW.inj id id' r1 r2 b c c' q1 q2 l1 l2 p1 p2
      · rw [renR_live] at l2
        rw [e1 id hlt] at p1; rw [e2] at p2
        have a := (hW.own_im ⟨id, r1, c, q1, l1, p1⟩).2
        have a' := hown b ⟨k', r0', c', q2, l2, p2⟩
        omega
    · rw [renR_live] at l1
      rw [e2] at p1
      rcases shift_get g2 with ⟨hlt', q2⟩ | ⟨k', r0', rfl, q2, rfl⟩
      · rw [e1 id' hlt'] at p2
        have a := (hW.own_im ⟨id', r2, c', q2, l2, p2⟩).2
        have a' := hown b ⟨k, r0, c, q1, l1, p1⟩
        omega
      · rw [renR_live] at l2
        rw [e2] at p2
        rw [h2.inj k k' r0 r0' b c c' q1 q2 l1 l2 p1 p2]
  · simp at hid
    show (if id < rows.length then _ else _) = _
    rw [if_neg (by omega)]
    exact h2.no _ (by omega)
  · rcases hid with hid | hid
    · exact e3 id hid
    · exact e1 id hid
  · obtain ⟨id, r', c, g1, l1, p1⟩ := hb
    rcases shift_get g1 with ⟨hlt, q1⟩ | ⟨k, r0, rfl, q1, rfl⟩
    · rw [e1 id hlt] at p1; exact .inl ⟨id, r', c, q1, l1, p1⟩
    · rw [renR_live] at l1
      rw [e2] at p1
      exact .inr (hown b ⟨k, r0, c, q1, l1, p1⟩)

/-! ### Functions -/
def trF (P : Program) (f : Nat) : Option MF := (P.funcs[f]?).bind fun fn => fn.body.bind fun c => (trC P fn.ntmps c).bind fun m => (trRes P fn.results.toList).map fun r => ⟨fn.ntmps, r, m⟩

theorem trF_ok {f : Nat} {mf : MF} {args : List AV} {rows : List Row} {Q : AV → List Row → Prop} (hmix : P.follows .mixedOrders = true) (ht : trF P f = some mf) (hn : args.length ≤ mf.ntmps) (hw : wpF P mf args rows Q) : CW P f args rows Q := by
  simp only [trF, Option.bind_eq_some_iff, Option.map_eq_some_iff] at ht
  obtain ⟨fn, h1, c, h2, m, h3, r, h4, rfl⟩ := ht
  exact wpF_ok hmix h1 h2 h3 h4 hn hw

/-- A function of values that nobody writes. -/
theorem fcall {f : Nat} {mf : MF} {args : List AV} {v : AV} (hmix : P.follows .mixedOrders = true) (ht : trF P f = some mf) (hn : args.length ≤ mf.ntmps) (hi : idsL args = [])
    (hw : wpF P mf args [] fun r rs => ∃ rs', fr rs r = some (v, rs')) : FCall P f args v :=
  FCall.of hi (trF_ok hmix ht hn hw)
theorem fcallE {f : Nat} {mf : MF} {args : List AV} {S : AV → Prop} (hmix : P.follows .mixedOrders = true) (ht : trF P f = some mf) (hn : args.length ≤ mf.ntmps) (hi : idsL args = [])
    (hw : wpF P mf args [] fun r rs => ∃ v rs', fr rs r = some (v, rs') ∧ S v) : FCallE P f args S :=
  FCallE.of hi (trF_ok hmix ht hn hw)
end
end Go.Sk
set_option linter.unusedVariables false
set_option linter.unusedSimpArgs false
namespace Go.Sk
open Go.RowKit

mutual
theorem renV_none (f : Nat → Nat) : ∀ x : AV, idsV x = [] → renV f x = x
  | .int .., _ | .bool _, _ | .str _, _ | .flt _, _ | .nil _, _ | .fz .., _ | .pz .., _ | .nilp, _ | .un, _ => rfl
  | .sref .., h | .ptr .., h | .ptrA .., h | .ptrE .., h => by simp [idsV] at h
  | .arr l, h => by simp only [idsV] at h; simp [renV, renL_none f l h]
  | .agg l, h => by simp only [idsV] at h; simp [renV, renL_none f l h]
  | .tup l, h => by simp only [idsV] at h; simp [renV, renL_none f l h]
theorem renL_none (f : Nat → Nat) : ∀ l : List AV, idsL l = [] → renL f l = l
  | [], _ => rfl
  | x :: xs, h => by simp [idsL] at h; simp [renL, renV_none f x h.1, renL_none f xs h.2]
end

section
variable {P : Program} {kf : Nat} {env : Env} {rows rows' : List Row} {os : List MOper} {ds : List DOp} {op : MOp} {d t : Nat} {b c : Bool} {v : AV} {K : Env → List Row → Prop} {KC : Ex → Env → List Row → Prop}

/-! ### Operations in the text's order -/
theorem wpOp_of (h : stepOp (Opd.get env) rows op = some (v, rows')) {KO : AV → List Row → Prop} (k : KO v rows') : Sk.wpOp P op env rows KO := by
  cases op <;> first | exact ⟨v, rows', h, k⟩ | (simp [stepOp] at h)

theorem op_step (h : stepOp (Opd.get env) rows op = some (v, rows')) (k : Sk.wpOps P os ((d, v) :: env) rows' K) : Sk.wpOps P (⟨some d, op, none⟩ :: os) env rows K := wpOp_of h k
theorem op_step0 (h : stepOp (Opd.get env) rows op = some (v, rows')) (k : Sk.wpOps P os env rows' K) : Sk.wpOps P (⟨none, op, none⟩ :: os) env rows K := wpOp_of h k
theorem op_bool (h : stepOp (Opd.get env) rows op = some (.bool c, rows')) (k : ∀ c', c = c' → Sk.wpOps P os ((d, .bool c') :: env) rows' K) : Sk.wpOps P (⟨some d, op, none⟩ :: os) env rows K := wpOp_of h (k c rfl)
theorem op_fcall {f : Nat} {args : List Opd} (h : FCall P f (args.map (Opd.get env)) v) (k : Sk.wpOps P os ((d, v) :: env) rows K) : Sk.wpOps P (⟨some d, .call f args, none⟩ :: os) env rows K := h.cw k
theorem op_fcallb {f : Nat} {args : List Opd} (h : FCall P f (args.map (Opd.get env)) (.bool c)) (k : ∀ c', c = c' → Sk.wpOps P os ((d, .bool c') :: env) rows K) : Sk.wpOps P (⟨some d, .call f args, none⟩ :: os) env rows K := h.cw (k c rfl)
theorem op_ecall {f : Nat} {args : List Opd} {S : AV → Prop} (h : FCallE P f (args.map (Opd.get env)) S) (k : ∀ v, S v → Sk.wpOps P os ((d, v) :: env) rows K) : Sk.wpOps P (⟨some d, .call f args, none⟩ :: os) env rows K := h.cw k
/-- A call that answers yes or no. -/
def IsBool (v : AV) : Prop := ∃ b, v = .bool b
theorem op_bcall {f : Nat} {args : List Opd} (h : FCallE P f (args.map (Opd.get env)) IsBool) (k : ∀ b, Sk.wpOps P os ((d, .bool b) :: env) rows K) : Sk.wpOps P (⟨some d, .call f args, none⟩ :: os) env rows K := h.cw (by rintro v ⟨b, rfl⟩; exact k b)
theorem op_guardT (h : look env t = .bool c) (k1 : c = true → Sk.wpOps P (⟨some d, op, none⟩ :: os) env rows K) (k2 : c = false → Sk.wpOps P os ((d, .tup []) :: env) rows K) : Sk.wpOps P (⟨some d, op, some (t, true)⟩ :: os) env rows K := by
  unfold Sk.wpOps
  simp only [h, gdV, List.isEmpty_nil, if_true]
  exact ⟨fun e => k1 e, fun e => k2 (by simpa using e)⟩
theorem op_guardF (h : look env t = .bool c) (k1 : c = true → Sk.wpOps P os ((d, .tup []) :: env) rows K) (k2 : c = false → Sk.wpOps P (⟨some d, op, none⟩ :: os) env rows K) : Sk.wpOps P (⟨some d, op, some (t, false)⟩ :: os) env rows K := by
  unfold Sk.wpOps
  simp only [h, gdV, List.isEmpty_nil, if_true]
  exact ⟨fun e => k2 e, fun e => k1 (by simpa using e)⟩
theorem op_guardU {bb : Bool} (h : look env t = .tup []) (k : Sk.wpOps P os ((d, .tup []) :: env) rows K) : Sk.wpOps P (⟨some d, op, some (t, bb)⟩ :: os) env rows K := by
  unfold Sk.wpOps
  simp only [h, gdV, List.isEmpty_nil, if_true]
  exact k
/-- Operations whose value is a truth value. -/
def isB : MOp → Bool
  | .bin .eql _ _ | .bin .neq _ _ | .bin .lss _ _ | .bin .leq _ _ | .bin .gtr _ _ | .bin .geq _ _ | .not _ | .eqB .. | .eqI .. => true
  | _ => false
theorem op_isB (hb : isB op = true) (h : stepOp (Opd.get env) rows op = some (.bool c, rows')) (k : ∀ c', c = c' → Sk.wpOps P os ((d, .bool c') :: env) rows' K) : Sk.wpOps P (⟨some d, op, none⟩ :: os) env rows K := op_bool h k
theorem ops_nil (k : K env rows) : Sk.wpOps P [] env rows K := k

/-! ### Operations in a drawn order -/
theorem d_step {w nx av sep} {bb : Nat} (h : outc P bb ⟨⟨some d, op, none⟩, w, nx, av, sep⟩ (Opd.get env) rows v rows') (k : wpD P bb ds ((d, v) :: env) rows' K) : wpD P bb (⟨⟨some d, op, none⟩, w, nx, av, sep⟩ :: ds) env rows K := ⟨v, rows', h, k⟩
theorem d_step0 {w nx av sep} {bb : Nat} (h : outc P bb ⟨⟨none, op, none⟩, w, nx, av, sep⟩ (Opd.get env) rows v rows') (k : wpD P bb ds env rows' K) : wpD P bb (⟨⟨none, op, none⟩, w, nx, av, sep⟩ :: ds) env rows K := ⟨v, rows', h, k⟩
theorem d_bool {w nx av sep} {bb : Nat} (h : outc P bb ⟨⟨some d, op, none⟩, w, nx, av, sep⟩ (Opd.get env) rows (.bool c) rows') (k : ∀ c', c = c' → wpD P bb ds ((d, .bool c') :: env) rows' K) : wpD P bb (⟨⟨some d, op, none⟩, w, nx, av, sep⟩ :: ds) env rows K := ⟨.bool c, rows', h, k c rfl⟩
theorem d_isB {w nx av sep} {bb : Nat} (hb : isB op = true) (h : outc P bb ⟨⟨some d, op, none⟩, w, nx, av, sep⟩ (Opd.get env) rows (.bool c) rows') (k : ∀ c', c = c' → wpD P bb ds ((d, .bool c') :: env) rows' K) : wpD P bb (⟨⟨some d, op, none⟩, w, nx, av, sep⟩ :: ds) env rows K := d_bool h k
theorem d_guardT {w nx av sep} {bb : Nat} (h : look env t = .bool c) (k1 : c = true → wpD P bb (⟨⟨some d, op, none⟩, w, nx, av, sep⟩ :: ds) env rows K) (k2 : c = false → wpD P bb ds ((d, .tup []) :: env) rows K) : wpD P bb (⟨⟨some d, op, some (t, true)⟩, w, nx, av, sep⟩ :: ds) env rows K := by
  unfold wpD
  simp only [h, gdV, List.isEmpty_nil, if_true]
  exact ⟨fun e => k1 e, fun e => k2 (by simpa using e)⟩
theorem d_guardF {w nx av sep} {bb : Nat} (h : look env t = .bool c) (k1 : c = true → wpD P bb ds ((d, .tup []) :: env) rows K) (k2 : c = false → wpD P bb (⟨⟨some d, op, none⟩, w, nx, av, sep⟩ :: ds) env rows K) : wpD P bb (⟨⟨some d, op, some (t, false)⟩, w, nx, av, sep⟩ :: ds) env rows K := by
  unfold wpD
  simp only [h, gdV, List.isEmpty_nil, if_true]
  exact ⟨fun e => k2 e, fun e => k1 (by simpa using e)⟩
theorem d_guardU {w nx av sep} {bb : Nat} {cc : Bool} (h : look env t = .tup []) (k : wpD P bb ds ((d, .tup []) :: env) rows K) : wpD P bb (⟨⟨some d, op, some (t, cc)⟩, w, nx, av, sep⟩ :: ds) env rows K := by
  unfold wpD
  simp only [h, gdV, List.isEmpty_nil, if_true]
  exact k
theorem d_nil {bb : Nat} (k : K env rows) : wpD P bb [] env rows K := k

/-- What a drawn operation does, by its kind. -/
theorem o_v {g : Opd → AV} {bb : Nat} {dst gd w nx av sep} {r : List Row} (hk : (DOp.mk ⟨dst, op, gd⟩ w nx av sep).kd = .v) (h : stepOp g [] op = some (v, r)) : outc P bb ⟨⟨dst, op, gd⟩, w, nx, av, sep⟩ g rows v rows := by
  unfold outc; rw [hk]; exact ⟨rfl, r, h⟩
theorem o_l {g : Opd → AV} {bb : Nat} {dst gd w} {agg : Bool} {n : Nat} {x : Opd} (h : stepOp g rows (.load agg n x) = some (v, rows)) : outc P bb ⟨⟨dst, .load agg n x, gd⟩, w, 0, [], []⟩ g rows v rows := by
  unfold outc DOp.kd; exact ⟨rfl, h, by simp, by simp, .inl rfl⟩
theorem o_l' {g : Opd → AV} {bb : Nat} {dst gd w nx av sep} {agg : Bool} {n : Nat} {x : Opd} (h : stepOp g rows (.load agg n x) = some (v, rows)) (h1 : ∀ k ∈ av, rowId (g x) ≠ some (bb + k)) (h2 : ∀ p ∈ sep, sepB (g (.t p)) (g x) = true) (h3 : Und bb nx (g x)) : outc P bb ⟨⟨dst, .load agg n x, gd⟩, w, nx, av, sep⟩ g rows v rows := by
  unfold outc DOp.kd; exact ⟨rfl, h, h1, h2, h3⟩
theorem o_c {g : Opd → AV} {bb : Nat} {dst gd w nx av sep} {f : Nat} {args : List Opd} (h : FCall P f (args.map g) v) (h1 : bb + nx ≤ rows.length) : outc P bb ⟨⟨dst, .call f args, gd⟩, w, nx, av, sep⟩ g rows v rows := by
  unfold outc DOp.kd; exact ⟨f, args, [], rfl, by simp, h1, h.toN _⟩
theorem o_cn {g : Opd → AV} {bb : Nat} {dst gd w nx av sep} {f : Nat} {args : List Opd} {new : List Row} (h : FCallN P f (args.map g) rows.length v new) (h1 : bb + nx ≤ rows.length) : outc P bb ⟨⟨dst, .call f args, gd⟩, w, nx, av, sep⟩ g rows v (rows ++ new) := by
  unfold outc DOp.kd; exact ⟨f, args, new, rfl, rfl, h1, h⟩
theorem o_a {g : Opd → AV} {bb : Nat} {dst gd w nx av sep} {u : AV} {r : Row} (hk : (DOp.mk ⟨dst, op, gd⟩ w nx av sep).kd = .a) (h : stepOp g [] op = some (u, [r])) (h1 : newAt (bb + nx) u = some v) (h2 : rows[bb + nx]? = some .dead) : outc P bb ⟨⟨dst, op, gd⟩, w, nx, av, sep⟩ g rows v (rows.set (bb + nx) r) := by
  unfold outc; rw [hk]; exact ⟨u, r, h, h1, h2, rfl⟩
theorem o_w {g : Opd → AV} {bb : Nat} {dst gd w av} (hk : (DOp.mk ⟨dst, op, gd⟩ w 0 av []).kd = .w) (h : stepOp g rows op = some (v, rows')) : outc P bb ⟨⟨dst, op, gd⟩, w, 0, av, []⟩ g rows v rows' := by
  unfold outc; rw [hk]; exact ⟨h, by simp, .inl rfl⟩
theorem o_w' {g : Opd → AV} {bb : Nat} {dst gd w nx av sep} {n : Nat} {x y : Opd} (h : stepOp g rows (.store n x y) = some (v, rows')) (h2 : ∀ p ∈ sep, sepB (g x) (g (.t p)) = true) (h3 : UndB bb nx (g x)) : outc P bb ⟨⟨dst, .store n x y, gd⟩, w, nx, av, sep⟩ g rows v rows' := by
  unfold outc DOp.kd; exact ⟨h, h2, h3⟩

/-! ### Control -/
def seqK (P : Program) (kf : Nat) (y : MC) (K : Ex → Env → List Row → Prop) : Ex → Env → List Row → Prop
  | .n, env, rows => wpC P kf y env rows K
  | .x i, env, rows => K (.x i) env rows
  | .r, env, rows => K .r env rows

def blockK (id : Nat) (K : Ex → Env → List Row → Prop) : Ex → Env → List Row → Prop
  | .n, env, rows => K .n env rows
  | .x i, env, rows => if i = id then K .n env rows else K (.x i) env rows
  | .r, env, rows => K .r env rows

def loopK (kf : Nat) (T : List Nat) (I : Nat → Env → List Row → Prop) (n : Nat) (K : Ex → Env → List Row → Prop) : Ex → Env → List Row → Prop
  | .n, env, rows => ∃ m, m < n ∧ Back kf T (I m) env rows
  | .x i, env, rows => K (.x i) env rows
  | .r, env, rows => K .r env rows

def endK (kf : Nat) (res : List MRes) (Q : AV → List Row → Prop) : Ex → Env → List Row → Prop
  | .n, env, rows => RetW kf res Q env rows
  | .x _, _, _ => False
  | .r, env, rows => RetW kf res Q env rows

theorem wpC_congr {c : MC} {K' : Ex → Env → List Row → Prop} (h : ∀ e env rows, KC e env rows = K' e env rows) (k : wpC P kf c env rows KC) : wpC P kf c env rows K' := by
  have : KC = K' := by funext e env rows; exact h e env rows
  rwa [← this]

theorem c_skip (k : KC .n env rows) : wpC P kf .skip env rows KC := k
theorem c_ret (k : KC .r env rows) : wpC P kf .ret env rows KC := k
theorem c_exit {id : Nat} (k : KC (.x id) env rows) : wpC P kf (.exit id) env rows KC := k
theorem c_reg (k : Sk.wpOps P os env rows (fun env rows => KC .n env rows)) : wpC P kf (.reg os) env rows KC := k
theorem c_dreg0 (k : wpD P rows.length ds env rows (fun env rows => KC .n env rows)) : wpC P kf (.dreg 0 ds) env rows KC := by
  unfold wpC; simpa using k
theorem c_dreg {m : Nat} (k : wpD P rows.length ds env (rows ++ List.replicate m .dead) (fun env rows => KC .n env rows)) : wpC P kf (.dreg m ds) env rows KC := k
theorem c_seq {x y : MC} (k : wpC P kf x env rows (seqK P kf y KC)) : wpC P kf (.seq x y) env rows KC := by
  unfold wpC
  exact wpC_congr (fun e env rows => by cases e <;> rfl) k
theorem c_block {id : Nat} {x : MC} (k : wpC P kf x env rows (blockK id KC)) : wpC P kf (.block id x) env rows KC := by
  unfold wpC
  exact wpC_congr (fun e env rows => by cases e <;> rfl) k
theorem c_cond {o : Opd} {x y : MC} (h : o.get env = .bool c) (k1 : c = true → wpC P kf x env rows KC) (k2 : c = false → wpC P kf y env rows KC) : wpC P kf (.cond o x y) env rows KC := by
  unfold wpC
  rw [h]; exact ⟨k1, k2⟩
theorem c_loop {x : MC} (T : List Nat) (I : Nat → Env → List Row → Prop) (n : Nat) (h : Back kf T (I n) env rows) (k : ∀ n env rows, I n env rows → wpC P kf x env rows (loopK kf T I n KC)) : wpC P kf (.loop x) env rows KC := by
  unfold wpC
  refine ⟨T, I, n, h, fun n env rows hI => wpC_congr (fun e env rows => by cases e <;> rfl) (k n env rows hI)⟩

theorem k_seq_n {y : MC} (k : wpC P kf y env rows KC) : seqK P kf y KC .n env rows := k
theorem k_seq_r {y : MC} (k : KC .r env rows) : seqK P kf y KC .r env rows := k
theorem k_seq_x {y : MC} {i : Nat} (k : KC (.x i) env rows) : seqK P kf y KC (.x i) env rows := k
theorem k_blk_n {id : Nat} (k : KC .n env rows) : blockK id KC .n env rows := k
theorem k_blk_r {id : Nat} (k : KC .r env rows) : blockK id KC .r env rows := k
theorem k_blk_x {id : Nat} (k : KC .n env rows) : blockK id KC (.x id) env rows := by simp [blockK, k]
theorem k_blk_y {id i : Nat} (h : i ≠ id) (k : KC (.x i) env rows) : blockK id KC (.x i) env rows := by simp [blockK, h, k]
theorem k_loop_x {T : List Nat} {I : Nat → Env → List Row → Prop} {n i : Nat} (k : KC (.x i) env rows) : loopK kf T I n KC (.x i) env rows := k
theorem k_loop_r {T : List Nat} {I : Nat → Env → List Row → Prop} {n : Nat} (k : KC .r env rows) : loopK kf T I n KC .r env rows := k
theorem k_end_n {res : List MRes} {Q : AV → List Row → Prop} (k : RetW kf res Q env rows) : endK kf res Q .n env rows := k
theorem k_end_r {res : List MRes} {Q : AV → List Row → Prop} (k : RetW kf res Q env rows) : endK kf res Q .r env rows := k

theorem f_body {f : MF} {args : List AV} {Q : AV → List Row → Prop} (k : wpC P rows.length f.body (argEnv 0 args) rows (endK rows.length f.res Q)) : wpF P f args rows Q := by
  unfold wpF
  exact wpC_congr (fun e env rows => by cases e <;> rfl) k

/-! ### Ends -/
/-- A result that leads to no rows. -/
theorem ret_plain {res : List MRes} {Q : AV → List Row → Prop} {vs : List AV} (h : resVs env rows res = some vs) (hi : idsV (resV vs) = []) (k : Q (resV vs) []) : RetW 0 res Q env rows := by
  refine ⟨vs, h, [], ⟨Nat.le_refl _, fun i hi => absurd hi (Nat.not_lt_zero _), List.nodup_nil, by rw [hi]; simp, by simp⟩, ?_⟩
  rw [renV_none _ _ hi]
  exact k
end
end Go.Sk
