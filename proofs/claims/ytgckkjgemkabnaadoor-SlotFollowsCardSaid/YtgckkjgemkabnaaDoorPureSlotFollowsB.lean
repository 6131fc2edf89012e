/- The law SlotFollows answers true for every input: a part of the arrangements, reckoned. -/
import Derived.Test.YtgckkjgemkabnaaDoorPureSlotFollowsA
set_option linter.unusedVariables false
set_option linter.unusedSimpArgs false
set_option maxRecDepth 100000
namespace Go.Proofs.YtgckkjgemkabnaaDoor.Pure
open Go.RowKit Go.Proofs.YtgckkjgemkabnaaDoor.PSlotFollows Go.Proofs.YtgckkjgemkabnaaDoorW.PrintWords Go.Proofs.YtgckkjgemkabnaaDoorW.PrintMore Go.Proofs.YtgckkjgemkabnaaDoorW.PrintLast

theorem chk_12 : (arrs 1 2).all chk = true := by kernel_rfl
theorem chk_13 : (arrs 1 3).all chk = true := by kernel_rfl
theorem chk_14 : (arrs 1 4).all chk = true := by kernel_rfl
theorem chk_21 : (arrs 2 1).all chk = true := by kernel_rfl
theorem chk_23 : (arrs 2 3).all chk = true := by kernel_rfl
theorem chk_24 : (arrs 2 4).all chk = true := by kernel_rfl
end Go.Proofs.YtgckkjgemkabnaaDoor.Pure
