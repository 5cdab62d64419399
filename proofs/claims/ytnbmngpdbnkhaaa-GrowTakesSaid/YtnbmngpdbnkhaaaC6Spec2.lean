/- What the law's functions do: votes. Conditions: none. -/
import Derived.Test.YtnbmngpdbnkhaaaC6Spec1
set_option linter.unusedVariables false
set_option linter.unusedSimpArgs false
set_option maxRecDepth 10000
namespace Go.Sk
open Go.Proofs.Try
theorem el66 {o : Option (List (List AV))} {k : Nat} (ho : ∀ us ∈ slL o, HasT prog 66 us) (hk : k < (slL o).length) : ∃ q : V66, (slL o)[k]? = some q.l ∧ q.ok := by
  obtain ⟨q, e, h⟩ := has66 (ho _ (List.getElem_mem hk))
  exact ⟨q, by rw [List.getElem?_eq_getElem hk, e], h⟩
theorem el34 {o : Option (List (List AV))} {k : Nat} (ho : ∀ us ∈ slL o, HasT prog 34 us) (hk : k < (slL o).length) : ∃ q : V34, (slL o)[k]? = some q.l ∧ q.ok := by
  obtain ⟨q, e, h⟩ := has34 (ho _ (List.getElem_mem hk))
  exact ⟨q, by rw [List.getElem?_eq_getElem hk, e], h⟩
theorem wrap_succ {k n : Nat} (h : k < n) (hn : n ≤ maxLen) : IntKind.i64.wrap ((k : Int) + 1) = ((k + 1 : Nat) : Int) := by
  have hmx : maxLen ≤ 9223372036854775807 := by decide
  simp [IntKind.wrap, IntKind.signed, IntKind.bits]; omega
end Go.Sk
