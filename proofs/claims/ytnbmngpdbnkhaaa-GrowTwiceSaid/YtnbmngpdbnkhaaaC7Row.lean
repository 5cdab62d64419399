/- From an input's data to what it reads as; a law that answers true. Conditions: none (a library text). -/
import Derived.Test.YtnbmngpdbnkhaaaC7Has
import Derived.Below
import Derived.WideShapes
set_option linter.unusedVariables false
set_option linter.unusedSimpArgs false
namespace Go.Sk
open Go.RowKit

/-- What an argument of a type reads as. -/
def HasA (P : Program) (t : Nat) (x : AV) : Prop :=
  match P.underlying t with
  | some (.struct _) | some (.array _ _) => ∃ l, x = .agg l ∧ HasT P t l
  | _ => HasT P t [x]

theorem arg_has {H : Type} {enc : TypeId × Value → H} {P : Program} {w : World} {base t : Nat} {v : Value} {d : DataW H} {ps : List MemPlace} {ts : List Nat} (hc : closedT P ts = true) (ht : t ∈ ts)
    (hok : Value.okWide P w .any base t v) (h : DataW.Trod enc P w 0 (fun _ => true) true t v d ps) : ∃ x, RepV P (There w) w noLoc v x ∧ HasA P t x := by
  obtain ⟨n, hn⟩ := h
  obtain ⟨l, h1, h2, h3⟩ := trod_has hc n t v.cells.toList (d, ps) ht hn
  have hok' : okT P ts t = true := by simp only [closedT, List.all_eq_true] at hc; exact hc t ht
  unfold Value.okWide at hok
  unfold HasA
  split at hok
  · rename_i fs hu
    obtain ⟨cs, rfl, _, _⟩ := hok
    rw [hu]
    refine ⟨.agg l, ?_, l, rfl, h1⟩
    have := RepV.agg (P := P) (im := There w) (w := w) (ρ := noLoc) cs.toList l (by simpa [Value.cells] using h2)
    simpa using this
  · rename_i m e hu
    obtain ⟨cs, rfl, _, _⟩ := hok
    rw [hu]
    refine ⟨.agg l, ?_, l, rfl, h1⟩
    have := RepV.agg (P := P) (im := There w) (w := w) (ρ := noLoc) cs.toList l (by simpa [Value.cells] using h2)
    simpa using this
  · rename_i hn1 hn2
    have hcells : v.cells.toList = [v] := by
      unfold Cell.okWide Cell.ok at hok
      cases v <;> first | rfl | (exfalso; (repeat' split at hok) <;> simp_all)
    rw [hcells] at h2
    have one : ∀ x : AV, l = [x] → x.one = true → RepV P (There w) w noLoc v x := fun x e _ => by
      subst e
      generalize hq : [v] = us at h2
      cases h2 with
      | cons _ _ _ _ _ h _ => cases hq; exact h
      | arr us l' vs _ _ _ _ => simp [AV.one] at *
    have done : ∃ x, l = [x] ∧ x.one = true := by
      cases h1 with
      | leaf hl => cases hl <;> exact ⟨_, rfl, rfl⟩
      | nil hu => exact ⟨_, rfl, rfl⟩
      | fz l hu _ _ => exact ⟨_, rfl, rfl⟩
      | arr l hu _ _ => exact absurd hu (hn2 _ _)
      | str hu _ => exact absurd hu (hn1 _)
    obtain ⟨x, rfl, hx⟩ := done
    refine ⟨x, one x rfl hx, ?_⟩
    split
    · rename_i fs hu; exact absurd hu (hn1 _)
    · rename_i m e hu; exact absurd hu (hn2 _ _)
    · exact h1

/-- A law that answers true, whatever the input. -/
theorem law_calls {P : Program} {f : Nat} {xs : List AV} {vs : List Value} {W : World} (hb : FCall P f xs (.bool true)) (hv : RepT P (There W) W noLoc vs xs) :
    Calls P f vs.toArray W fun e W' => e = .returned (.bool true) ∧ Below W.heap.size W W' := by
  refine (hb [] W (There W) noLoc vs (wf_nil fun b hb => hb) hv).mono ?_
  rintro e W' ⟨v, r, rows', im', ρ', rfl, ⟨rfl, rfl⟩, h1, h2, h3⟩
  have := rep_bool h1
  subst this
  refine ⟨rfl, h3.os, h3.tape, h3.output, h3.size, fun k hk => h3.block k hk ?_⟩
  rintro ⟨id, r, c, a, _⟩
  simp at a
end Go.Sk
