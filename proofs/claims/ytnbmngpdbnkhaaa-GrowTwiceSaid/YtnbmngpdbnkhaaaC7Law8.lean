/- The law GrowCommits, walked. Conditions: none. -/
import Derived.Test.YtnbmngpdbnkhaaaC7Spec16
import Derived.Test.YtnbmngpdbnkhaaaC7Wake16
set_option linter.unusedVariables false
set_option linter.unusedSimpArgs false
set_option maxRecDepth 200000
set_option maxHeartbeats 8000000
namespace Go.Sk
open Go.Proofs.Try
theorem setLog_ok {v : V27} (hv : v.ok) {o : Option (List (List AV))} (h : (∀ us ∈ slL o, HasT prog 66 us) ∧ (slL o).length ≤ maxLen) : (setLog v o).ok := ⟨hv.h0, hv.h1, hv.h2, hv.h3, hv.h4, hv.h5, h⟩
theorem cutL_has {v : V27} {m : V34} (hm : m.ok) : ∀ us ∈ cutL v m, HasT prog 66 us := by
  intro us hus
  unfold cutL at hus
  split at hus
  · exact hm.h9.1 us (List.mem_of_mem_drop hus)
  · exact hm.h9.1 us hus
theorem cutL_len {v : V27} {m : V34} : (cutL v m).length ≤ (slL m.f9).length := by
  unfold cutL
  split
  · rw [List.length_drop]; omega
  · exact Nat.le_refl _
theorem took_ok {v : V27} (hv : v.ok) {m : V34} (hm : m.ok) {a : Nat} (h6 : (slL v.f6).length ≤ 1000000) (hl : (cutL v m).length ≤ 1000000) (ha : a ≤ (slL v.f6).length) : (setLog v (putO v.f6 a (cutL v m))).ok :=
  setLog_ok hv ⟨putO_mem ha hv.h6.1 (cutL_has hm), Nat.le_trans (putO_most ha) (Nat.le_trans (Nat.add_le_add h6 hl) (by decide))⟩
theorem light_most {v : V27} (h : lightH v) : (slL v.f5).length ≤ 1000000 ∧ (slL v.f6).length ≤ 1000000 := ⟨Nat.le_trans h.2 (by decide), Nat.le_trans h.1 (by decide)⟩
end Go.Sk
