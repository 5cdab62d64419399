/- The compact code of functions of the given program; the kernel checks each against the program. Conditions: none. -/
import Derived.Test.YtnbmngpdbnkhaaaC8Types
set_option linter.unusedVariables false
namespace Go.Sk
open Go.Proofs.Try
/-- skerry/skerryref08.Has -/
def m59 : MF := ⟨11, [(.tmp 4)], (.seq (.reg [⟨(some 4), (.mv (.k (.bool false))), none⟩]) (.seq (.reg [⟨(some 5), (.mv (.t 0)), none⟩, ⟨(some 6), (.mv (.t 1)), none⟩, ⟨(some 7), (.conv .u64 (.t 6)), none⟩, ⟨(some 8), (.bin .shr (.t 5) (.t 7)), none⟩, ⟨(some 9), (.bin .and (.t 8) (.k (.int .i64 1))), none⟩, ⟨(some 10), (.bin .eql (.t 9) (.k (.int .i64 1))), none⟩, ⟨(some 4), (.mv (.t 10)), none⟩]) .ret))⟩
theorem t59 : trF prog 59 = some m59 := by kernel_rfl
/-- skerry/skerryref08.Voters -/
def m60 : MF := ⟨8, [(.tmp 2)], (.seq (.reg [⟨(some 1), (.box 23 (.t 0)), none⟩, ⟨(some 2), (.mv (.k (.int .i64 0))), none⟩]) (.seq (.reg [⟨(some 3), (.fld 0 (.t 1)), none⟩, ⟨(some 4), (.load false 1 (.t 3)), none⟩, ⟨(some 5), (.fld 1 (.t 1)), none⟩, ⟨(some 6), (.load false 1 (.t 5)), none⟩, ⟨(some 7), (.bin .or (.t 4) (.t 6)), none⟩, ⟨(some 2), (.mv (.t 7)), none⟩]) .ret))⟩
theorem t60 : trF prog 60 = some m60 := by kernel_rfl
/-- skerry/skerryref08.Quorum -/
def m64 : MF := ⟨17, [(.tmp 4)], (.seq (.reg [⟨(some 2), (.box 23 (.t 0)), none⟩, ⟨(some 4), (.mv (.k (.bool false))), none⟩]) (.seq (.reg [⟨(some 6), (.load true 4 (.t 2)), none⟩, ⟨(some 7), (.call 60 [(.t 6)]), none⟩, ⟨(some 8), (.bin .and (.t 7) (.k (.int .i64 127))), none⟩, ⟨(some 5), (.mv (.t 8)), none⟩]) (.seq (.reg [⟨(some 9), (.mv (.t 5)), none⟩, ⟨(some 10), (.mv (.t 1)), none⟩, ⟨(some 11), (.bin .and (.t 9) (.t 10)), none⟩, ⟨(some 12), (.call 96 [(.t 11)]), none⟩, ⟨(some 13), (.bin .mul (.k (.int .i64 2)) (.t 12)), none⟩, ⟨(some 14), (.mv (.t 5)), none⟩, ⟨(some 15), (.call 96 [(.t 14)]), none⟩, ⟨(some 16), (.bin .gtr (.t 13) (.t 15)), none⟩, ⟨(some 4), (.mv (.t 16)), none⟩]) .ret)))⟩
theorem t64 : trF prog 64 = some m64 := by kernel_rfl
/-- skerry/skerryref08.Count -/
def m96 : MF := ⟨15, [(.tmp 2)], (.seq (.reg [⟨(some 2), (.mv (.k (.int .i64 0))), none⟩]) (.seq (.reg [⟨(some 3), (.mv (.k (.int .i64 0))), none⟩]) (.seq (.seq (.reg [⟨(some 4), (.mv (.k (.int .i64 0))), none⟩]) (.block 0 (.loop (.seq (.seq (.reg [⟨(some 5), (.mv (.t 4)), none⟩, ⟨(some 6), (.bin .lss (.t 5) (.k (.int .i64 7))), none⟩]) (.cond (.t 6) .skip (.exit 0))) (.seq (.block 1 (.seq (.reg [⟨(some 9), (.mv (.t 0)), none⟩, ⟨(some 10), (.mv (.t 4)), none⟩, ⟨(some 11), (.call 59 [(.t 9), (.t 10)]), none⟩]) (.cond (.t 11) (.reg [⟨(some 12), (.mv (.t 3)), none⟩, ⟨(some 13), (.bin .add (.t 12) (.k (.int .i64 1))), none⟩, ⟨(some 3), (.mv (.t 13)), none⟩]) .skip))) (.reg [⟨(some 7), (.mv (.t 4)), none⟩, ⟨(some 8), (.bin .add (.t 7) (.k (.int .i64 1))), none⟩, ⟨(some 4), (.mv (.t 8)), none⟩])))))) (.seq (.reg [⟨(some 14), (.mv (.t 3)), none⟩, ⟨(some 2), (.mv (.t 14)), none⟩]) .ret))))⟩
theorem t96 : trF prog 96 = some m96 := by kernel_rfl
end Go.Sk
