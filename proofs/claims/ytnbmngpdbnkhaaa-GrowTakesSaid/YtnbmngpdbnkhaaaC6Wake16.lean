/- The law's own waking call, run. Conditions: none. -/
import Derived.Test.YtnbmngpdbnkhaaaC6Code1
import Derived.Test.YtnbmngpdbnkhaaaC6Code3
import Derived.Test.YtnbmngpdbnkhaaaC6Own2
set_option linter.unusedVariables false
set_option maxRecDepth 100000
namespace Go.Sk
open Go.Proofs.Try
def mt16 : Nat → Option MF
  | 35 => some m35
  | 40 => some m40
  | 53 => some m53
  | 71 => some m71
  | 72 => some m72
  | 73 => some m73
  | 74 => some m74
  | 75 => some m75
  | 84 => some m84
  | 91 => some m91
  | 97 => some m97
  | 98 => some m98
  | 99 => some m99
  | 100 => some m100
  | 105 => some m105
  | 106 => some m106
  | 121 => some m121
  | 122 => some m122
  | 125 => some m125
  | 126 => some m126
  | 140 => some m140
  | 141 => some m141
  | 142 => some m142
  | 144 => some m144
  | 150 => some m150
  | 151 => some m151
  | 153 => some m153
  | 156 => some m156
  | 159 => some m159
  | 160 => some m160
  | _ => none
theorem mt16_ok : ∀ f m, mt16 f = some m → trF prog f = some m := by
  intro f m h
  unfold mt16 at h
  split at h
  · cases h; exact t35
  · cases h; exact t40
  · cases h; exact t53
  · cases h; exact t71
  · cases h; exact t72
  · cases h; exact t73
  · cases h; exact t74
  · cases h; exact t75
  · cases h; exact t84
  · cases h; exact t91
  · cases h; exact t97
  · cases h; exact t98
  · cases h; exact t99
  · cases h; exact t100
  · cases h; exact t105
  · cases h; exact t106
  · cases h; exact t121
  · cases h; exact t122
  · cases h; exact t125
  · cases h; exact t126
  · cases h; exact t140
  · cases h; exact t141
  · cases h; exact t142
  · cases h; exact t144
  · cases h; exact t150
  · cases h; exact t151
  · cases h; exact t153
  · cases h; exact t156
  · cases h; exact t159
  · cases h; exact t160
  · cases h
end Go.Sk
set_option maxRecDepth 100000
namespace Go.Sk
open Go.Proofs.Try
theorem f40 : FCall prog 40 [] (.bool true) :=
  evF_true (mt := mt16) (fuel := 60) (n := 12) mixed mt16_ok rfl (by kernel_rfl)
end Go.Sk
