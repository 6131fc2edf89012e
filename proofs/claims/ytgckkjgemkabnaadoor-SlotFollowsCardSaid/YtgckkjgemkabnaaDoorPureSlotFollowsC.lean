/- The law SlotFollows answers true for every input: a part of the arrangements, reckoned. -/
import Derived.Test.YtgckkjgemkabnaaDoorPureSlotFollowsA
set_option linter.unusedVariables false
set_option linter.unusedSimpArgs false
set_option maxRecDepth 100000
namespace Go.Proofs.YtgckkjgemkabnaaDoor.Pure
open Go.RowKit Go.Proofs.YtgckkjgemkabnaaDoor.PSlotFollows Go.Proofs.YtgckkjgemkabnaaDoorW.PrintWords Go.Proofs.YtgckkjgemkabnaaDoorW.PrintMore Go.Proofs.YtgckkjgemkabnaaDoorW.PrintLast

theorem chk_31 : (arrs 3 1).all chk = true := by kernel_rfl
theorem chk_32 : (arrs 3 2).all chk = true := by kernel_rfl
theorem chk_34 : (arrs 3 4).all chk = true := by kernel_rfl
theorem chk_41 : (arrs 4 1).all chk = true := by kernel_rfl
theorem chk_42 : (arrs 4 2).all chk = true := by kernel_rfl
theorem chk_43 : (arrs 4 3).all chk = true := by kernel_rfl
end Go.Proofs.YtgckkjgemkabnaaDoor.Pure
