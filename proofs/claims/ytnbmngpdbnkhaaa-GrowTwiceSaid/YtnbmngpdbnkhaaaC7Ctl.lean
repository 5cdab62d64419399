/- A function's code does what its compact form's statement says. Conditions: the program lets orders mix (checked where it is used). -/
import Derived.Test.YtnbmngpdbnkhaaaC7Draw4
import Derived.Deep.LoopGhost
set_option linter.unusedVariables false
set_option linter.unusedSimpArgs false
namespace Go.Sk
open Go.RowKit

def trC (P : Program) (N : Nat) : Code → Option MC
  | .skip => some .skip
  | .label _ => some .skip
  | .region _ ops d => if d then (trD P N ops).map fun p => .dreg p.1 p.2 else (trOpers P N ops ops.toList).map .reg
  | .seq a b => (trC P N a).bind fun a => (trC P N b).map fun b => .seq a b
  | .cond c a b => (trOpd P none c).bind fun c => (trC P N a).bind fun a => (trC P N b).map fun b => .cond c a b
  | .block id c => (trC P N c).map (.block id)
  | .loop c => (trC P N c).map .loop
  | .exit id => some (.exit id)
  | .ret => some .ret
  | _ => none

def exOf : Ex → Exit
  | .n => .normal
  | .x id => .exit id
  | .r => .ret

theorem trOpers_all2 {P : Program} {N : Nat} {ops : Array Oper} : ∀ {os : List Oper} {ms : List MOper}, trOpers P N ops os = some ms → os.length = ms.length ∧ ∀ (j : Nat) (o : Oper) (m : MOper), os[j]? = some o → ms[j]? = some m → trOper P N ops o = some m
  | [], ms, h => by simp [trOpers] at h; subst h; exact ⟨rfl, fun j o m h => by simp at h⟩
  | o :: os, ms, h => by
    simp only [trOpers, Option.bind_eq_some_iff, Option.map_eq_some_iff] at h
    obtain ⟨m, h1, ms', h2, rfl⟩ := h
    obtain ⟨a, b⟩ := trOpers_all2 h2
    refine ⟨by simp [a], fun j o' m' e1 e2 => ?_⟩
    cases j with
    | zero => simp at e1 e2; subst e1; subst e2; exact h1
    | succ j => simp at e1 e2; exact b j o' m' e1 e2

section
variable {P : Program} {N : Nat} {w0 : World} {im0 : Nat → Prop} {ρ0 : Nat → Loc} {rows0 : List Row} {env : Env} {rows : List Row} {a : Act} {w : World} {im : Nat → Prop} {ρ : Nat → Loc}

theorem WF.heap {w' : World} (h : WF P im w ρ rows) (e : w'.heap = w.heap) : WF P im w' ρ rows :=
  ⟨fun id r hr => RowOK.mono (fun b hb => ⟨hb, by rw [e]⟩) (fun _ _ => rfl) (fun g cap _ _ => ⟨by rw [e], fun h => h⟩) (h.row id r hr), h.inj, h.no, fun b hb => by rw [e]; exact h.im b hb⟩

theorem WF.deads (h : WF P im w ρ rows) (m : Nat) : WF P im w ρ (rows ++ List.replicate m .dead) := by
  have hcase : ∀ (id : Nat) (r : Row), (rows ++ List.replicate m .dead)[id]? = some r → rows[id]? = some r ∨ r = .dead := fun id r hr => by
    rcases Nat.lt_or_ge id rows.length with h' | h'
    · rw [List.getElem?_append_left h'] at hr; exact .inl hr
    · rw [List.getElem?_append_right h'] at hr
      exact .inr (List.eq_of_mem_replicate (List.mem_of_getElem? hr))
  refine ⟨fun id r hr => ?_, fun id id' r r' b c c' h1 h2 l1 l2 e1 e2 => ?_, fun id hid => ?_, h.im⟩
  · rcases hcase id r hr with h' | rfl
    · exact h.row id r h'
    · trivial
  · rcases hcase id r h1 with h1 | rfl
    · rcases hcase id' r' h2 with h2 | rfl
      · exact h.inj id id' r r' b c c' h1 h2 l1 l2 e1 e2
      · simp [Row.live] at l2
    · simp [Row.live] at l1
  · simp at hid
    exact h.no id (by omega)

theorem own_deads {m b : Nat} (h : Own ρ (rows ++ List.replicate m .dead) b) : Own ρ rows b := by
  obtain ⟨id, r, c, h1, h2, h3⟩ := h
  rcases Nat.lt_or_ge id rows.length with h' | h'
  · rw [List.getElem?_append_left h'] at h1; exact ⟨id, r, c, h1, h2, h3⟩
  · rw [List.getElem?_append_right h'] at h1
    have := List.eq_of_mem_replicate (List.mem_of_getElem? h1)
    subst this; simp [Row.live] at h2

/-- A region whose order the machine draws. -/
theorem dreg_ok {id m : Nat} {ops : Array Oper} {ds : List DOp} {Q : Exit → Act → World → Prop} {K : Env → List Row → Prop} (hmix : P.follows .mixedOrders = true) (h0 : ∀ id, rows0.length ≤ id → ρ0 id = .no)
    (ht : trD P N ops = some (m, ds)) (h : St P N w0 im0 ρ0 rows0 env rows a w im ρ) (hK : wpD P rows.length ds env (rows ++ List.replicate m .dead) K)
    (hQ : ∀ {env rows a w im ρ}, St P N w0 im0 ρ0 rows0 env rows a w im ρ → K env rows → Q .normal a w) : (Code.region id ops true).wp P Q a w := by
  refine wp_region_any hmix ?_
  simp only [trD, Option.bind_eq_some_iff] at ht
  obtain ⟨ms, h1, h2⟩ := ht
  split at h2
  · rename_i hok
    cases h2
    obtain ⟨k1, k2⟩ := trOpers_all2 h1
    have hmo := mkD_o ms (tabOf ops.toList [])
    have hlen : (mkD ms (tabOf ops.toList [])).length = ops.size := by
      have := congrArg List.length hmo
      simp at this k1; omega
    obtain ⟨env', R', hc, hkk, _⟩ := chain_of_wpD (ds := mkD ms (tabOf ops.toList [])) 0 _ rfl (by simp only [okD, Bool.and_eq_true] at hok; exact hok.2) hK
    have hrem : remL ops.size (Array.replicate ops.size false) = List.range ops.size := by
      unfold remL
      rw [List.filter_eq_self]
      intro i hi
      simp only [List.mem_range] at hi
      simp [hi]
    refine draw_any (N := N) (w0 := w0) (im0 := im0) (rows0 := rows0) (b := rows.length) (G := look env') (FN := look env') (RN := R') h0 h.ext.len hok hlen (fun j o d e1 e2 => k2 j o d.o (by rw [Array.getElem?_toList]; exact e1) ?_) (fun a w hr => ?_) ops.size (Array.replicate ops.size false) (by rw [hrem]; simp) (by simp) (fun j o ho hl => ?_) ?_ (F := look env) (R := rows ++ List.replicate (countA (mkD ms (tabOf ops.toList []))) .dead) ?_
    · have := congrArg (fun l : List MOper => l[j]?) hmo
      simp only [List.getElem?_map, e2, Option.map_some] at this
      exact this.symm
    · obtain ⟨env2, im2, ρ2, e, hst, _, _⟩ := hr
      have hst' : St P N w0 im0 ρ0 rows0 env' R' a w im2 ρ2 := ⟨hst.wf, fun t => by have := hst.env t; rw [congrFun e t] at this; exact this, hst.ext, hst.size, hst.defers⟩
      exact hQ hst' hkk
    · have hjn := (Array.getElem?_eq_some_iff.1 ho).1
      simp [hjn] at hl
    · rw [hrem, List.range_eq_range', ← hlen]
      exact hc
    · have hh : ({ w with drawn := w.drawn + 1 } : World).heap = w.heap := rfl
      refine ⟨env, im, ρ, rfl, ⟨(h.wf.heap hh).deads _, fun t => RepV.mono (w := w) (w' := { w with drawn := w.drawn + 1 }) (fun b hb => ⟨hb, rfl⟩) (fun _ _ => rfl) (h.env t), ⟨h.ext.os, h.ext.tape, h.ext.output, h.ext.size, h.ext.block, h.ext.imsub, h.ext.imnew, h.ext.rho, by have := h.ext.len; simp; omega, fun b hb => h.ext.own b (own_deads hb)⟩, h.size, h.defers⟩, by simp, fun i _ d _ _ => h.wf.no _ (by omega)⟩
  · cases h2

/-- The code. -/
theorem wpC_ok (hmix : P.follows .mixedOrders = true) (h0 : ∀ id, rows0.length ≤ id → ρ0 id = .no) : ∀ (c : Code) {mc : MC}, trC P N c = some mc → ∀ {env : Env} {rows : List Row} {a : Act} {w : World} {im : Nat → Prop} {ρ : Nat → Loc} {K : Ex → Env → List Row → Prop} {Q : Exit → Act → World → Prop},
    St P N w0 im0 ρ0 rows0 env rows a w im ρ → wpC P rows0.length mc env rows K → (∀ {e env rows a w im ρ}, St P N w0 im0 ρ0 rows0 env rows a w im ρ → K e env rows → Q (exOf e) a w) → c.wp P Q a w
  | .skip, mc, ht, env, rows, a, w, im, ρ, K, Q, h, hK, hQ => by
    simp [trC] at ht; subst ht
    exact wp_skip (hQ h hK)
  | .label l, mc, ht, env, rows, a, w, im, ρ, K, Q, h, hK, hQ => by
    simp [trC] at ht; subst ht
    exact wp_label (hQ h hK)
  | .region id ops d, mc, ht, env, rows, a, w, im, ρ, K, Q, h, hK, hQ => by
    cases d with
    | true =>
      simp only [trC, if_true, Option.map_eq_some_iff] at ht
      obtain ⟨⟨m, ds⟩, h1, rfl⟩ := ht
      exact dreg_ok hmix h0 h1 h hK (fun hs hk => hQ hs hk)
    | false =>
      simp only [trC, Bool.false_eq_true, if_false, Option.map_eq_some_iff] at ht
      obtain ⟨ms, h1, rfl⟩ := ht
      refine wp_region ?_
      have := wpOps_ok (Q := Q) ops.toList ms 0 rfl h1 h hK (fun hs hk => hQ hs hk)
      rwa [Array.length_toList, ← List.range_eq_range'] at this
  | .seq x y, mc, ht, env, rows, a, w, im, ρ, K, Q, h, hK, hQ => by
    simp only [trC, Option.bind_eq_some_iff, Option.map_eq_some_iff] at ht
    obtain ⟨mx, h1, my, h2, rfl⟩ := ht
    refine wp_seq (wpC_ok hmix h0 x h1 h hK ?_)
    intro e env rows a w im ρ hs hk
    cases e with
    | n => exact wpC_ok hmix h0 y h2 hs hk hQ
    | x i => exact hQ (e := .x i) hs hk
    | r => exact hQ (e := .r) hs hk
  | .cond c x y, mc, ht, env, rows, a, w, im, ρ, K, Q, h, hK, hQ => by
    simp only [trC, Option.bind_eq_some_iff, Option.map_eq_some_iff] at ht
    obtain ⟨oc, h3, mx, h1, my, h2, rfl⟩ := ht
    simp only [wpC] at hK
    split at hK
    · rename_i t hc
      have hv := trOpd_sound h.env h3
      rw [hc] at hv
      have := rep_bool hv
      refine wp_cond_split this (fun e => ?_) (fun e => ?_)
      · exact wpC_ok hmix h0 x h1 h (hK.1 e) hQ
      · exact wpC_ok hmix h0 y h2 h (hK.2 e) hQ
    · exact hK.elim
  | .block id c, mc, ht, env, rows, a, w, im, ρ, K, Q, h, hK, hQ => by
    simp only [trC, Option.map_eq_some_iff] at ht
    obtain ⟨mx, h1, rfl⟩ := ht
    refine wp_block (wpC_ok hmix h0 c h1 h hK ?_)
    intro e env rows a w im ρ hs hk
    cases e with
    | n => exact hQ (e := .n) hs hk
    | x i =>
      simp only [exOf, Exit.inBlock]
      simp only at hk
      split
      · rename_i e; rw [if_pos e] at hk; exact hQ (e := .n) hs hk
      · rename_i e; rw [if_neg e] at hk; exact hQ (e := .x i) hs hk
    | r => exact hQ (e := .r) hs hk
  | .loop c, mc, ht, env, rows, a, w, im, ρ, K, Q, h, hK, hQ => by
    simp only [trC, Option.map_eq_some_iff] at ht
    obtain ⟨mx, h1, rfl⟩ := ht
    obtain ⟨T, I, n, ⟨L, hg, hI⟩, hround⟩ := hK
    refine wp_loop_ghost (fun n a w => ∃ env rows im ρ, I n env rows ∧ St P N w0 im0 ρ0 rows0 env rows a w im ρ) n ⟨_, _, _, _, hI, h.back hg h0⟩ ?_
    rintro n a w ⟨env, rows, im, ρ, hI, hs⟩
    refine wpC_ok hmix h0 c h1 hs (hround n env rows hI) ?_
    intro e env rows a w im ρ hs hk
    cases e with
    | n =>
      obtain ⟨m, hm, L, hg, hI⟩ := hk
      exact ⟨m, hm, _, _, _, _, hI, hs.back hg h0⟩
    | x i => exact hQ (e := .x i) hs hk
    | r => exact hQ (e := .r) hs hk
  | .exit id, mc, ht, env, rows, a, w, im, ρ, K, Q, h, hK, hQ => by
    simp [trC] at ht; subst ht
    exact wp_exit (hQ (e := .x id) h hK)
  | .ret, mc, ht, env, rows, a, w, im, ρ, K, Q, h, hK, hQ => by
    simp [trC] at ht; subst ht
    exact wp_ret (hQ (e := .r) h hK)

/-! ### Results -/
def trRes (P : Program) : List ResultVar → Option (List MRes)
  | [] => some []
  | .tmp t :: rs => (trRes P rs).map fun l => .tmp t :: l
  | .cell a t :: rs => match P.underlying t, P.info? t with
    | some d, some i => (trRes P rs).map fun l => .cell a (isAggD d) i.size :: l
    | _, _ => none

def resOf (tmps : Array Value) : ResultVar → Sem Value
  | .tmp t => Pure.pure (tmps.getD t undef)
  | .cell b t => do loadVar t (← asAddr (tmps.getD b undef))

theorem results_eq (fn : Func) (tmps : Array Value) : results fn tmps = (do
    let vs ← fn.results.mapM (resOf tmps)
    Pure.pure (if h : vs.size = 1 then vs[0] else .tuple vs)) := by
  unfold results
  congr 2

theorem res_sound (h : St P N w0 im0 ρ0 rows0 env rows a w im ρ) : ∀ {rs : List ResultVar} {ms : List MRes} {xs : List AV}, trRes P rs = some ms → resVs env rows ms = some xs →
    ∃ vs : List Value, (rs.mapM (resOf a.tmps)).run P w = Result.ok vs w ∧ RepT P im w ρ vs xs
  | [], ms, xs, ht, hx => by
    simp [trRes] at ht; subst ht
    simp [resVs] at hx; subst hx
    exact ⟨[], by simp, .nil⟩
  | .tmp t :: rs, ms, xs, ht, hx => by
    simp only [trRes, Option.map_eq_some_iff] at ht
    obtain ⟨ms', h1, rfl⟩ := ht
    simp only [resVs, resV1, Option.bind_some, Option.map_eq_some_iff] at hx
    obtain ⟨xs', h2, rfl⟩ := hx
    obtain ⟨vs, h3, h4⟩ := res_sound h h1 h2
    refine ⟨a.tmps.getD t undef :: vs, ?_, .cons _ _ _ _ (h.env t) h4⟩
    simp [List.mapM_cons, resOf, h3]
  | .cell b t :: rs, ms, xs, ht, hx => by
    simp only [trRes] at ht
    split at ht
    · rename_i d i hd hi
      simp only [Option.map_eq_some_iff] at ht
      obtain ⟨ms', h1, rfl⟩ := ht
      simp only [resVs, resV1, Option.bind_eq_some_iff, Option.map_eq_some_iff] at hx
      obtain ⟨v, ⟨l, g1, m, g2, g3⟩, xs', h2, rfl⟩ := hx
      obtain ⟨vs, h3, h4⟩ := res_sound h h1 h2
      have henv := h.env b
      obtain ⟨u, k1, k2⟩ := load_sound h.wf henv g1 g2 hd (by simp [Program.cellsOf, hi]) (by simp [hi]) rfl g3
      obtain ⟨ad, us, e, _, _⟩ := behind_sound h.wf henv g1
      simp only [Act.eval] at e k1
      rw [e] at k1
      have k1' : (loadVar t ad).run P w = .ok u w := by
        simpa [Instr.loadAt, Instr.sureAddr] using k1
      refine ⟨u :: vs, ?_, .cons _ _ _ _ k2 h4⟩
      simp [List.mapM_cons, resOf, h3, e, asAddr, k1']
    · cases ht

/-- A function whose compact form does as is said. -/
theorem wpF_ok {f : Nat} {fn : Func} {c : Code} {mf : MF} {args : List AV} {rows : List Row} {Q : AV → List Row → Prop} (hmix : P.follows .mixedOrders = true) (hf : P.funcs[f]? = some fn) (hb : fn.body = some c)
    (ht : trC P fn.ntmps c = some mf.body) (hr : trRes P fn.results.toList = some mf.res) (hn : args.length ≤ fn.ntmps) (hw : wpF P mf args rows Q) : CW P f args rows Q := by
  intro w im ρ vs hW hv
  have hlen : vs.length = args.length := by
    have : ∀ {vs : List Value} {xs : List AV}, RepT P im w ρ vs xs → vs.length = xs.length := by
      intro vs xs h
      induction xs generalizing vs with
      | nil => cases h; rfl
      | cons x xs ih => cases h with | cons _ _ _ _ _ h => simp [ih h]
    exact this hv
  refine calls_of_wp hf hb (wpC_ok (N := fn.ntmps) (w0 := w) (im0 := im) (ρ0 := ρ) (rows0 := rows) hmix hW.no c ht (env := argEnv 0 args) (rows := rows) (im := im) (ρ := ρ) ?_ hw ?_)
  · refine ⟨hW, fun t => ?_, Ext.refl _ _ _ _, by simp; omega, rfl⟩
    have key : ∀ (k : Nat) {vs : List Value} {xs : List AV}, RepT P im w ρ vs xs → ∀ t, RepV P im w ρ (((List.replicate k undef ++ vs)[t]?).getD undef) (look (argEnv k xs) t) := by
      intro k vs xs h
      induction xs generalizing k vs with
      | nil => intro t; exact .un _
      | cons x xs ih =>
        cases h with
        | cons v _ vs' _ h1 h2 =>
          intro t
          simp only [argEnv, look]
          split
          · rename_i e; subst e
            simpa using h1
          · rename_i e
            have := ih (k + 1) h2 t
            rcases Nat.lt_or_ge t k with h' | h'
            · have hnone : look (argEnv (k + 1) xs) t = .un := by
                have : ∀ (l : List AV) (n : Nat), t < n → look (argEnv n l) t = .un := by
                  intro l
                  induction l with
                  | nil => intro n _; rfl
                  | cons y ys ih2 => intro n hn; simp only [argEnv, look]; rw [if_neg (by omega)]; exact ih2 (n + 1) (by omega)
                exact this xs (k + 1) (by omega)
              rw [hnone]; exact .un _
            · have hgt : k + 1 ≤ t := by omega
              rw [List.getElem?_append_right (by simp; omega)] at this ⊢
              simp only [List.length_replicate] at this ⊢
              rw [show t - k = (t - (k + 1)) + 1 by omega, List.getElem?_cons_succ]
              exact this
    have := key 0 hv t
    simp only [List.replicate_zero, List.nil_append] at this
    simp only [Act.eval, Array.getD_eq_getD_getElem?]
    rcases Nat.lt_or_ge t vs.length with h' | h'
    · rw [Array.getElem?_append_left (by simpa using h')]
      simpa using this
    · have e1 : vs[t]? = none := List.getElem?_eq_none (by omega)
      rw [e1] at this
      simp only [Option.getD_none] at this
      have e2 : ((vs.toArray ++ Array.replicate (fn.ntmps - vs.toArray.size) undef)[t]?).getD undef = undef := by
        rw [Array.getElem?_append_right (by simpa using h')]
        simp only [Array.getElem?_replicate]
        split <;> rfl
      rw [e2]; exact this
  · intro e env' rows' a' w' im' ρ' hs hk
    have fin : RetW rows.length mf.res Q env' rows' → a'.defers = [] ∧ ∃ v, (results fn a'.tmps).run P w' = .ok v w' ∧ ∃ v_1 r rows'_1 im' ρ', Ending.returned v = Ending.returned v_1 ∧ Q r rows'_1 ∧ RepV P im' w' ρ' v_1 r ∧ WF P im' w' ρ' rows'_1 ∧ Ext w im ρ rows w' im' ρ' rows'_1 := by
      rintro ⟨xs, h1, L, h2, h3⟩
      obtain ⟨us, k1, k2⟩ := res_sound hs hr h1
      refine ⟨hs.defers, ?_⟩
      have hmap : (fn.results.mapM (resOf a'.tmps)).run P w' = Result.ok us.toArray w' := by
        rw [← Array.toArray_toList (xs := fn.results), List.mapM_toArray]
        simp [Sem.run_map, k1]
      have hval : ∃ v, (results fn a'.tmps).run P w' = .ok v w' ∧ RepV P im' w' ρ' v (resV xs) := by
        rw [results_eq]
        simp only [Sem.run_bind]
        refine ⟨if h : us.toArray.size = 1 then us.toArray[0] else .tuple us.toArray, ?_, ?_⟩
        · rw [hmap]; rfl
        · cases k2 with
          | nil => exact .tup [] [] .nil
          | cons v x vs xs' g1 g2 =>
            cases g2 with
            | nil => simpa [resV] using g1
            | cons v2 x2 vs2 xs2 g3 g4 =>
              simp [resV]
              exact .tup (v :: v2 :: vs2) _ (.cons _ _ _ _ g1 (.cons _ _ _ _ g3 g4))
      obtain ⟨v, v1, v2⟩ := hval
      obtain ⟨g1, g2, g3, g4⟩ := gc_ok hs.wf h2
      refine ⟨v, v1, v, _, _, im', _, rfl, h3, v2.ren (fun id hid => g4 id hid), g1, hs.ext.os, hs.ext.tape, hs.ext.output, hs.ext.size, hs.ext.block, hs.ext.imsub, hs.ext.imnew, fun id hid => ?_, by simpa [gcRows] using h2.1, fun b hb => hs.ext.own b (g2 b hb)⟩
      have hlt : id < rows.length := by
        rcases Nat.lt_or_ge id rows.length with h' | h'
        · exact h'
        · exact hid.elim (fun hn => absurd (hW.no id h') hn) (fun h => h)
      rw [g3 id hlt]
      exact hs.ext.rho id hid
    cases e with
    | n => exact fin hk
    | r => exact fin hk
    | x i => exact hk.elim
end
end Go.Sk
