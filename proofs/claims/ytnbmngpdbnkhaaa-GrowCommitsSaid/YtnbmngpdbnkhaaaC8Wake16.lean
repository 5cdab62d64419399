/- The law's own waking call, run. Conditions: none. -/
import Derived.Test.YtnbmngpdbnkhaaaC8Mt16
set_option maxRecDepth 100000
namespace Go.Sk
open Go.Proofs.Try
theorem f40 : FCall prog 40 [] (.bool true) :=
  evF_true (mt := mt16) (fuel := 60) (n := 12) mixed mt16_ok rfl (by kernel_rfl)
end Go.Sk
