/- The row of the law GrowTakes, out of its walk. Conditions: none. -/
import Derived.Test.YtnbmngpdbnkhaaaRows
import Derived.Test.YtnbmngpdbnkhaaaC6Law6
import Derived.WalkKit
import Derived.ProofKit
import Derived.OpenShut
import Derived.ShutString
import Derived.ChangeOld
import Derived.Carry
import Derived.SizedLaws
namespace Go.Proofs.Ytnbmngpdbnkhaaa.growTakes
open Go.Sk Go.Proofs Go.ChangeShapes Go.WideShapes Go.ChangeAt Go.RowKit Go.Proofs.Try
set_option linter.unusedVariables false
set_option maxRecDepth 200000
theorem own : ownKnob prog.godebug = none := by kernel_rfl
theorem laidOut : laidOutB prog = true := by kernel_rfl
theorem hasA3 {x : AV} (h : HasA prog 3 x) : ∃ n : Int, x = AV.int .i64 n ∧ (Lit.int .i64 n).wf = true := by
  obtain ⟨n, e, w⟩ := (h.one (by kernel_rfl) (by intro n e; rw [u3]; simp)).int u3
  exact ⟨n, by simpa using e, w⟩
set_option maxRecDepth 100000 in
theorem lifted (os : Os) (started : os.Started) (H : Type) (enc : TypeId × Value → H) :
    ReturnsInHanded {} checked os 6 .any (Go.Proofs.Ytnbmngpdbnkhaaa.Rows.growTakesSpec.pre6 enc prog f6 Go.Proofs.Ytnbmngpdbnkhaaa.Rows.growTakesRow.domain false) (Go.Proofs.Ytnbmngpdbnkhaaa.Rows.growTakesSpec.post enc prog f6 false true false false) := by
  refine returnsInHanded_of_change_sized (C := checked) own started (by kernel_rfl) func6
    (ChangeSpec.witness6 (enc := enc) (C := checked) false ⟨#[], #[((prog.info? 27).bind (·.zero)).getD (.bool false), ((prog.info? 3).bind (·.zero)).getD (.bool false), ((prog.info? 34).bind (·.zero)).getD (.bool false)], []⟩ 8 (by kernel_rfl) (by kernel_rfl) (by kernel_rfl) (by kernel_rfl)) ?_
  intro W base args ds gs before hval0 hW hcnd hsz0 _
  have hval : ∀ (j : Nat) t v, f6.params[j]? = some t → args[j]? = some v → Value.okWide prog W .any base t v := hval0
  have hW' := hW
  obtain ⟨p, q, hA0, hV, rfl, hfz, hnd⟩ := hW
  have hA : DataW.TrodAll enc prog W 0 (fun _ => true) true f6.params.toList args.toList ds p := hA0
  rw [params6] at hA hval
  obtain ⟨v0, vs0, d0, ds0, p0, q0, hargs, rfl, rfl, h0, r0⟩ := trodAll_cons hA
  obtain ⟨v1, vs1, d1, ds1, p1, q1, rfl, rfl, rfl, h1, r1⟩ := trodAll_cons r0
  obtain ⟨v2, vs2, d2, ds2, p2, q2, rfl, rfl, rfl, h2, r2⟩ := trodAll_cons r1
  obtain ⟨rfl, rfl, rfl⟩ := trodAll_nil r2
  obtain rfl : args = #[v0, v1, v2] := by cases args; simp_all
  obtain ⟨rfl, rfl⟩ := trodVars_none hV
  obtain ⟨x0, e0, a0⟩ := arg_has tys_closed (t := 27) (by decide) (hval 0 27 v0 rfl rfl) h0
  obtain ⟨y0, rfl, o0⟩ := hasA27 a0
  have lt0 : ∀ x ∈ p0, x.block < W.heap.size := by obtain ⟨m, hm⟩ := h0; exact DataW.trod_lt m _ _ _ hm
  obtain ⟨x1, e1, a1⟩ := arg_has tys_closed (t := 3) (by decide) (hval 1 3 v1 rfl rfl) h1
  obtain ⟨y1, rfl, o1⟩ := hasA3 a1
  have lt1 : ∀ x ∈ p1, x.block < W.heap.size := by obtain ⟨m, hm⟩ := h1; exact DataW.trod_lt m _ _ _ hm
  obtain ⟨x2, e2, a2⟩ := arg_has tys_closed (t := 34) (by decide) (hval 2 34 v2 rfl rfl) h2
  obtain ⟨y2, rfl, o2⟩ := hasA34 a2
  have lt2 : ∀ x ∈ p2, x.block < W.heap.size := by obtain ⟨m, hm⟩ := h2; exact DataW.trod_lt m _ _ _ hm
  refine (law_calls (f := 6) (vs := [v0, v1, v2]) (law6 y0 o0 y1 y2 o2) (.cons _ _ _ _ e0 (.cons _ _ _ _ e1 (.cons _ _ _ _ e2 .nil)))).mono fun e W' ⟨he, bel⟩ => ?_
  subst he
  exact ⟨_, rfl, _, _, _, [], _, [], hW', trodAll_mk1 (shut_bool u4 _), (trodAll_cons_mk (Below.trod laidOut (by kernel_rfl) (of_decide_eq_true (by kernel_rfl)) h0 bel lt0) (trodAll_cons_mk (Below.trod laidOut (by kernel_rfl) (of_decide_eq_true (by kernel_rfl)) h1 bel lt1) (trodAll_cons_mk (Below.trod laidOut (by kernel_rfl) (of_decide_eq_true (by kernel_rfl)) h2 bel lt2) trodAll_mk0))), rfl, bel.frame _, fun h => by cases h⟩
set_option maxRecDepth 100000 in
theorem over : Go.Proofs.Ytnbmngpdbnkhaaa.Rows.growTakesRow.holds Go.Proofs.Ytnbmngpdbnkhaaa.Try.pinned (OpenSpec.ofChange Go.Proofs.Ytnbmngpdbnkhaaa.Rows.growTakesSpec) :=
  OpenClaim.holds_of_wide 6 f6 rfl rfl rfl rfl rfl rfl rfl ⟨rfl, rfl, rfl, rfl, rfl⟩ rfl rfl rfl rfl rfl (by kernel_rfl) func6 (by kernel_rfl)
    (of_decide_eq_true (by kernel_rfl)) (by unfold Func.isWrapper; first | (rw [if_pos (by decide +kernel)]; kernel_rfl) | (rw [if_neg (by decide +kernel)]; exact ⟨rfl, rfl⟩))
    (fun os started H enc _ => lifted os started H enc)
theorem proved : Go.Proofs.Ytnbmngpdbnkhaaa.Rows.GrowTakesSaid := over
#print axioms proved
end Go.Proofs.Ytnbmngpdbnkhaaa.growTakes
