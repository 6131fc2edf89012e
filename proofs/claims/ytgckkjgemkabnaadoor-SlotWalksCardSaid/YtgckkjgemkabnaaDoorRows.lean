/-
  NARROWER THAN 'FOR EVERY INPUT', by the rows' own cells (each row's printed sentence says how): DutyEven: laid · DutyTotals: laid · DutySteps: laid · DutyMerges: laid · DutyAll: laid · SlotWalks: laid · SlotFollows: laid · SlotEnds: laid · SlotDrops: laid · PayoffFollows: laid · PayoffWorth: laid · PayoffSteps: laid · PayoffSums: laid.
  DERIVED. THE GIVEN ROWS OF THIS SEAT. 13 by the template 'for every input the law returns true; each argument reads behind the call as it read before'; 0 by the template 'total and deterministic' (their statements: YtgckkjgemkabnaaDoorTotals.lean).
  GIVEN WITH THE SEED: the statements are not yours to turn. If you find one false, say at which input.
  Laid BY PROGRAM, IN A SANDBOX (cutbox-rows.mjs): the forced cells as the released guide's own fill.sh prints them over the translation ffbaaba01cc80a43… (all of the seat's roots in one cut). By AI agents, Wed Nov 11 2026. No macro, syntax, notation, axiom, sorry.
-/
import Derived.Test.YtgckkjgemkabnaaDoorChecked
import GoSem.Claim
import GoSem.ClaimJoined
import GoSem.ClaimMapViews
import Derived.JoinedTies
import Derived.KernelRfl
namespace Go.Proofs.YtgckkjgemkabnaaDoor
/- THE CELL 'sum', in the pinned program and in every row, IS THE sha256 OF THE DUMP (.gsa) THAT YtgckkjgemkabnaaDoorProg.lean LOADS. Nothing in Lean hashes anything: it is a label: what it is worth is what the hold of that sum in a sandbox is worth. -/
noncomputable def Tryd.pinned : Pinned := { name := "ytgckkjgemkabnaadoor", sum := "ffbaaba01cc80a436528dcebbe15768ac2f0c8d9bd838738e63effcc8e160262", checked := Tryd.checked }
namespace Rows
def none {H : Type} : Left H := { results := [], args := [] }

/- WHAT THE LISTED PACKAGE-LEVEL VARIABLES READ AS WHEN THE CALL BEGINS. Each datum BY PROGRAM (the guide's laid-datum.mjs) off the statement by which the dump's own 'gosem.cut.vars' lays the variable. In a bare row this is a premise. The card (YtgckkjgemkabnaaDoorCards.lean) ties it to the program's text. -/
def laid_storagebarter_duty_costs {H : Type} : DataW H := .agg [.lit (.int .i64 0), .lit (.int .i64 8), .lit (.int .i64 8), .lit (.int .i64 1), .lit (.int .i64 2), .lit (.int .i64 1), .lit (.int .i64 1), .lit (.int .i64 8)]

/-- 'storagebarterlaw28.DutyEven': WHATEVER THE INPUT: true; the input reads as it did. -/
def dutyEvenSpec : ChangeSpec := { name := "dutyEven", fn := fun _ => fun
  | [d1, d2] => { results := [.lit (.bool true)], args := [d1, d2] }
  | _ => none }
def dutyEvenRow : OpenClaim := { program := "ytgckkjgemkabnaadoor", sum := "ffbaaba01cc80a436528dcebbe15768ac2f0c8d9bd838738e63effcc8e160262", func := "storagebarter/storagebarterlaw28.DutyEven", spec := "dutyEven", unfollowed := true, recurses := true, named := ["storagebarter/duty.costs"], apart := false, laid := [("storagebarter/duty.costs", laid_storagebarter_duty_costs)] }
def DutyEvenSaid : Prop := dutyEvenRow.holds Tryd.pinned (OpenSpec.ofChange dutyEvenSpec)

/-- ITS FALSE NEIGHBOUR: 'it returns false'. Refute it at one input. -/
def dutyEvenWrong : ChangeSpec := { name := "dutyEven", fn := fun _ => fun
  | [d1, d2] => { results := [.lit (.bool false)], args := [d1, d2] }
  | _ => none }
def DutyEvenWrongFalsely : Prop := dutyEvenRow.holds Tryd.pinned (OpenSpec.ofChange dutyEvenWrong)

/-- 'storagebarterlaw28.DutyTotals': WHATEVER THE INPUT: true; the input reads as it did. -/
def dutyTotalsSpec : ChangeSpec := { name := "dutyTotals", fn := fun _ => fun
  | [d1, d2] => { results := [.lit (.bool true)], args := [d1, d2] }
  | _ => none }
def dutyTotalsRow : OpenClaim := { program := "ytgckkjgemkabnaadoor", sum := "ffbaaba01cc80a436528dcebbe15768ac2f0c8d9bd838738e63effcc8e160262", func := "storagebarter/storagebarterlaw28.DutyTotals", spec := "dutyTotals", unfollowed := true, recurses := true, named := ["storagebarter/duty.costs"], apart := false, laid := [("storagebarter/duty.costs", laid_storagebarter_duty_costs)] }
def DutyTotalsSaid : Prop := dutyTotalsRow.holds Tryd.pinned (OpenSpec.ofChange dutyTotalsSpec)

/-- ITS FALSE NEIGHBOUR: 'it returns false'. Refute it at one input. -/
def dutyTotalsWrong : ChangeSpec := { name := "dutyTotals", fn := fun _ => fun
  | [d1, d2] => { results := [.lit (.bool false)], args := [d1, d2] }
  | _ => none }
def DutyTotalsWrongFalsely : Prop := dutyTotalsRow.holds Tryd.pinned (OpenSpec.ofChange dutyTotalsWrong)

/-- 'storagebarterlaw28.DutySteps': WHATEVER THE INPUT: true; the input reads as it did. -/
def dutyStepsSpec : ChangeSpec := { name := "dutySteps", fn := fun _ => fun
  | [d1, d2, d3, d4, d5, d6] => { results := [.lit (.bool true)], args := [d1, d2, d3, d4, d5, d6] }
  | _ => none }
def dutyStepsRow : OpenClaim := { program := "ytgckkjgemkabnaadoor", sum := "ffbaaba01cc80a436528dcebbe15768ac2f0c8d9bd838738e63effcc8e160262", func := "storagebarter/storagebarterlaw28.DutySteps", spec := "dutySteps", unfollowed := true, recurses := true, named := ["storagebarter/duty.costs"], apart := false, laid := [("storagebarter/duty.costs", laid_storagebarter_duty_costs)] }
def DutyStepsSaid : Prop := dutyStepsRow.holds Tryd.pinned (OpenSpec.ofChange dutyStepsSpec)

/-- ITS FALSE NEIGHBOUR: 'it returns false'. Refute it at one input. -/
def dutyStepsWrong : ChangeSpec := { name := "dutySteps", fn := fun _ => fun
  | [d1, d2, d3, d4, d5, d6] => { results := [.lit (.bool false)], args := [d1, d2, d3, d4, d5, d6] }
  | _ => none }
def DutyStepsWrongFalsely : Prop := dutyStepsRow.holds Tryd.pinned (OpenSpec.ofChange dutyStepsWrong)

/-- 'storagebarterlaw28.DutyMerges': WHATEVER THE INPUT: true; the input reads as it did. -/
def dutyMergesSpec : ChangeSpec := { name := "dutyMerges", fn := fun _ => fun
  | [d1, d2] => { results := [.lit (.bool true)], args := [d1, d2] }
  | _ => none }
def dutyMergesRow : OpenClaim := { program := "ytgckkjgemkabnaadoor", sum := "ffbaaba01cc80a436528dcebbe15768ac2f0c8d9bd838738e63effcc8e160262", func := "storagebarter/storagebarterlaw28.DutyMerges", spec := "dutyMerges", unfollowed := true, recurses := true, named := ["storagebarter/duty.costs"], apart := false, laid := [("storagebarter/duty.costs", laid_storagebarter_duty_costs)] }
def DutyMergesSaid : Prop := dutyMergesRow.holds Tryd.pinned (OpenSpec.ofChange dutyMergesSpec)

/-- ITS FALSE NEIGHBOUR: 'it returns false'. Refute it at one input. -/
def dutyMergesWrong : ChangeSpec := { name := "dutyMerges", fn := fun _ => fun
  | [d1, d2] => { results := [.lit (.bool false)], args := [d1, d2] }
  | _ => none }
def DutyMergesWrongFalsely : Prop := dutyMergesRow.holds Tryd.pinned (OpenSpec.ofChange dutyMergesWrong)

/-- 'storagebarterlaw28.DutyAll': WHATEVER THE INPUT: true; the input reads as it did. -/
def dutyAllSpec : ChangeSpec := { name := "dutyAll", fn := fun _ => fun
  | [d] => { results := [.lit (.bool true)], args := [d] }
  | _ => none }
def dutyAllRow : OpenClaim := { program := "ytgckkjgemkabnaadoor", sum := "ffbaaba01cc80a436528dcebbe15768ac2f0c8d9bd838738e63effcc8e160262", func := "storagebarter/storagebarterlaw28.DutyAll", spec := "dutyAll", unfollowed := true, recurses := true, named := ["storagebarter/duty.costs"], apart := false, laid := [("storagebarter/duty.costs", laid_storagebarter_duty_costs)] }
def DutyAllSaid : Prop := dutyAllRow.holds Tryd.pinned (OpenSpec.ofChange dutyAllSpec)

/-- ITS FALSE NEIGHBOUR: 'it returns false'. Refute it at one input. -/
def dutyAllWrong : ChangeSpec := { name := "dutyAll", fn := fun _ => fun
  | [d] => { results := [.lit (.bool false)], args := [d] }
  | _ => none }
def DutyAllWrongFalsely : Prop := dutyAllRow.holds Tryd.pinned (OpenSpec.ofChange dutyAllWrong)

/-- 'storagebarterlaw29.SlotWalks': WHATEVER THE INPUT: true; the input reads as it did. -/
def slotWalksSpec : ChangeSpec := { name := "slotWalks", fn := fun _ => fun
  | [d] => { results := [.lit (.bool true)], args := [d] }
  | _ => none }
def slotWalksRow : OpenClaim := { program := "ytgckkjgemkabnaadoor", sum := "ffbaaba01cc80a436528dcebbe15768ac2f0c8d9bd838738e63effcc8e160262", func := "storagebarter/storagebarterlaw29.SlotWalks", spec := "slotWalks", unfollowed := true, recurses := true, named := ["storagebarter/duty.costs"], apart := false, laid := [("storagebarter/duty.costs", laid_storagebarter_duty_costs)] }
def SlotWalksSaid : Prop := slotWalksRow.holds Tryd.pinned (OpenSpec.ofChange slotWalksSpec)

/-- ITS FALSE NEIGHBOUR: 'it returns false'. Refute it at one input. -/
def slotWalksWrong : ChangeSpec := { name := "slotWalks", fn := fun _ => fun
  | [d] => { results := [.lit (.bool false)], args := [d] }
  | _ => none }
def SlotWalksWrongFalsely : Prop := slotWalksRow.holds Tryd.pinned (OpenSpec.ofChange slotWalksWrong)

/-- 'storagebarterlaw29.SlotFollows': WHATEVER THE INPUT: true; the input reads as it did. -/
def slotFollowsSpec : ChangeSpec := { name := "slotFollows", fn := fun _ => fun
  | [d] => { results := [.lit (.bool true)], args := [d] }
  | _ => none }
def slotFollowsRow : OpenClaim := { program := "ytgckkjgemkabnaadoor", sum := "ffbaaba01cc80a436528dcebbe15768ac2f0c8d9bd838738e63effcc8e160262", func := "storagebarter/storagebarterlaw29.SlotFollows", spec := "slotFollows", unfollowed := true, recurses := true, named := ["storagebarter/duty.costs"], apart := false, laid := [("storagebarter/duty.costs", laid_storagebarter_duty_costs)] }
def SlotFollowsSaid : Prop := slotFollowsRow.holds Tryd.pinned (OpenSpec.ofChange slotFollowsSpec)

/-- ITS FALSE NEIGHBOUR: 'it returns false'. Refute it at one input. -/
def slotFollowsWrong : ChangeSpec := { name := "slotFollows", fn := fun _ => fun
  | [d] => { results := [.lit (.bool false)], args := [d] }
  | _ => none }
def SlotFollowsWrongFalsely : Prop := slotFollowsRow.holds Tryd.pinned (OpenSpec.ofChange slotFollowsWrong)

/-- 'storagebarterlaw29.SlotEnds': WHATEVER THE INPUT: true; the input reads as it did. -/
def slotEndsSpec : ChangeSpec := { name := "slotEnds", fn := fun _ => fun
  | [d] => { results := [.lit (.bool true)], args := [d] }
  | _ => none }
def slotEndsRow : OpenClaim := { program := "ytgckkjgemkabnaadoor", sum := "ffbaaba01cc80a436528dcebbe15768ac2f0c8d9bd838738e63effcc8e160262", func := "storagebarter/storagebarterlaw29.SlotEnds", spec := "slotEnds", unfollowed := true, recurses := true, named := ["storagebarter/duty.costs"], apart := false, laid := [("storagebarter/duty.costs", laid_storagebarter_duty_costs)] }
def SlotEndsSaid : Prop := slotEndsRow.holds Tryd.pinned (OpenSpec.ofChange slotEndsSpec)

/-- ITS FALSE NEIGHBOUR: 'it returns false'. Refute it at one input. -/
def slotEndsWrong : ChangeSpec := { name := "slotEnds", fn := fun _ => fun
  | [d] => { results := [.lit (.bool false)], args := [d] }
  | _ => none }
def SlotEndsWrongFalsely : Prop := slotEndsRow.holds Tryd.pinned (OpenSpec.ofChange slotEndsWrong)

/-- 'storagebarterlaw29.SlotDrops': WHATEVER THE INPUT: true; the input reads as it did. -/
def slotDropsSpec : ChangeSpec := { name := "slotDrops", fn := fun _ => fun
  | [d] => { results := [.lit (.bool true)], args := [d] }
  | _ => none }
def slotDropsRow : OpenClaim := { program := "ytgckkjgemkabnaadoor", sum := "ffbaaba01cc80a436528dcebbe15768ac2f0c8d9bd838738e63effcc8e160262", func := "storagebarter/storagebarterlaw29.SlotDrops", spec := "slotDrops", unfollowed := true, recurses := true, named := ["storagebarter/duty.costs"], apart := false, laid := [("storagebarter/duty.costs", laid_storagebarter_duty_costs)] }
def SlotDropsSaid : Prop := slotDropsRow.holds Tryd.pinned (OpenSpec.ofChange slotDropsSpec)

/-- ITS FALSE NEIGHBOUR: 'it returns false'. Refute it at one input. -/
def slotDropsWrong : ChangeSpec := { name := "slotDrops", fn := fun _ => fun
  | [d] => { results := [.lit (.bool false)], args := [d] }
  | _ => none }
def SlotDropsWrongFalsely : Prop := slotDropsRow.holds Tryd.pinned (OpenSpec.ofChange slotDropsWrong)

/-- 'storagebarterlaw32.PayoffFollows': WHATEVER THE INPUT: true; the input reads as it did. -/
def payoffFollowsSpec : ChangeSpec := { name := "payoffFollows", fn := fun _ => fun
  | [d] => { results := [.lit (.bool true)], args := [d] }
  | _ => none }
def payoffFollowsRow : OpenClaim := { program := "ytgckkjgemkabnaadoor", sum := "ffbaaba01cc80a436528dcebbe15768ac2f0c8d9bd838738e63effcc8e160262", func := "storagebarter/storagebarterlaw32.PayoffFollows", spec := "payoffFollows", unfollowed := true, recurses := true, named := ["storagebarter/duty.costs"], apart := false, laid := [("storagebarter/duty.costs", laid_storagebarter_duty_costs)] }
def PayoffFollowsSaid : Prop := payoffFollowsRow.holds Tryd.pinned (OpenSpec.ofChange payoffFollowsSpec)

/-- ITS FALSE NEIGHBOUR: 'it returns false'. Refute it at one input. -/
def payoffFollowsWrong : ChangeSpec := { name := "payoffFollows", fn := fun _ => fun
  | [d] => { results := [.lit (.bool false)], args := [d] }
  | _ => none }
def PayoffFollowsWrongFalsely : Prop := payoffFollowsRow.holds Tryd.pinned (OpenSpec.ofChange payoffFollowsWrong)

/-- 'storagebarterlaw32.PayoffWorth': WHATEVER THE INPUT: true; the input reads as it did. -/
def payoffWorthSpec : ChangeSpec := { name := "payoffWorth", fn := fun _ => fun
  | [d1, d2] => { results := [.lit (.bool true)], args := [d1, d2] }
  | _ => none }
def payoffWorthRow : OpenClaim := { program := "ytgckkjgemkabnaadoor", sum := "ffbaaba01cc80a436528dcebbe15768ac2f0c8d9bd838738e63effcc8e160262", func := "storagebarter/storagebarterlaw32.PayoffWorth", spec := "payoffWorth", unfollowed := true, recurses := true, named := ["storagebarter/duty.costs"], apart := false, laid := [("storagebarter/duty.costs", laid_storagebarter_duty_costs)] }
def PayoffWorthSaid : Prop := payoffWorthRow.holds Tryd.pinned (OpenSpec.ofChange payoffWorthSpec)

/-- ITS FALSE NEIGHBOUR: 'it returns false'. Refute it at one input. -/
def payoffWorthWrong : ChangeSpec := { name := "payoffWorth", fn := fun _ => fun
  | [d1, d2] => { results := [.lit (.bool false)], args := [d1, d2] }
  | _ => none }
def PayoffWorthWrongFalsely : Prop := payoffWorthRow.holds Tryd.pinned (OpenSpec.ofChange payoffWorthWrong)

/-- 'storagebarterlaw32.PayoffSteps': WHATEVER THE INPUT: true; the input reads as it did. -/
def payoffStepsSpec : ChangeSpec := { name := "payoffSteps", fn := fun _ => fun
  | [d1, d2, d3] => { results := [.lit (.bool true)], args := [d1, d2, d3] }
  | _ => none }
def payoffStepsRow : OpenClaim := { program := "ytgckkjgemkabnaadoor", sum := "ffbaaba01cc80a436528dcebbe15768ac2f0c8d9bd838738e63effcc8e160262", func := "storagebarter/storagebarterlaw32.PayoffSteps", spec := "payoffSteps", unfollowed := true, recurses := true, named := ["storagebarter/duty.costs"], apart := false, laid := [("storagebarter/duty.costs", laid_storagebarter_duty_costs)] }
def PayoffStepsSaid : Prop := payoffStepsRow.holds Tryd.pinned (OpenSpec.ofChange payoffStepsSpec)

/-- ITS FALSE NEIGHBOUR: 'it returns false'. Refute it at one input. -/
def payoffStepsWrong : ChangeSpec := { name := "payoffSteps", fn := fun _ => fun
  | [d1, d2, d3] => { results := [.lit (.bool false)], args := [d1, d2, d3] }
  | _ => none }
def PayoffStepsWrongFalsely : Prop := payoffStepsRow.holds Tryd.pinned (OpenSpec.ofChange payoffStepsWrong)

/-- 'storagebarterlaw32.PayoffSums': WHATEVER THE INPUT: true; the input reads as it did. -/
def payoffSumsSpec : ChangeSpec := { name := "payoffSums", fn := fun _ => fun
  | [d] => { results := [.lit (.bool true)], args := [d] }
  | _ => none }
def payoffSumsRow : OpenClaim := { program := "ytgckkjgemkabnaadoor", sum := "ffbaaba01cc80a436528dcebbe15768ac2f0c8d9bd838738e63effcc8e160262", func := "storagebarter/storagebarterlaw32.PayoffSums", spec := "payoffSums", unfollowed := true, recurses := true, named := ["storagebarter/duty.costs"], apart := false, laid := [("storagebarter/duty.costs", laid_storagebarter_duty_costs)] }
def PayoffSumsSaid : Prop := payoffSumsRow.holds Tryd.pinned (OpenSpec.ofChange payoffSumsSpec)

/-- ITS FALSE NEIGHBOUR: 'it returns false'. Refute it at one input. -/
def payoffSumsWrong : ChangeSpec := { name := "payoffSums", fn := fun _ => fun
  | [d] => { results := [.lit (.bool false)], args := [d] }
  | _ => none }
def PayoffSumsWrongFalsely : Prop := payoffSumsRow.holds Tryd.pinned (OpenSpec.ofChange payoffSumsWrong)

/- THE SECOND FORM. 'bulk': how many values and letters a reading holds, each counted each time it is reached (what is shared counts as often as it is met; a slice's spare places count too). A statement '..UptoSaid' is the law's where the arguments, and the package variables that the reading takes, are together of bulk at most 1048576: NARROWER than '..Said'. Prove '..Said' where nothing that the law and all that it calls make is longer than what came in: it says more and counts as full. Else prove '..UptoSaid'. A law counts once. -/
mutual
def uptoBulk {H : Type} : DataW H → Nat
  | .lit (.string bytes) => bytes.length + 1
  | .lit _ => 1
  | .nil => 1
  | .ptr d => uptoBulk d + 1
  | .slice elems spare => uptoBulkAll elems + uptoBulkAll spare + 1
  | .agg parts => uptoBulkAll parts + 1
  | .iface _ d => uptoBulk d + 1
  | .map entries => uptoBulkEntries entries + 1
  | .held _ => 1
def uptoBulkAll {H : Type} : List (DataW H) → Nat
  | [] => 0
  | d :: r => uptoBulk d + uptoBulkAll r
def uptoBulkEntries {H : Type} : List (Lit × DataW H) → Nat
  | [] => 0
  | x :: r => uptoBulkEntry x + uptoBulkEntries r
def uptoBulkEntry {H : Type} : Lit × DataW H → Nat
  | (.string bytes, d) => bytes.length + uptoBulk d + 1
  | (_, d) => uptoBulk d + 1
 end
def uptoSmall : (H : Type) → List (DataW H) → Bool := fun _ ds => decide (uptoBulkAll ds ≤ 1048576)
def OpenSpec.upto (s : _root_.Go.ChangeSpec) : _root_.Go.OpenSpec := { _root_.Go.OpenSpec.ofChange s with cond := some uptoSmall }

/-- 'storagebarterlaw28.DutyEven', WHERE WHAT IT READS IS OF BULK AT MOST 1048576: true; the input reads as it did. -/
def dutyEvenUptoRow : OpenClaim := { program := "ytgckkjgemkabnaadoor", sum := "ffbaaba01cc80a436528dcebbe15768ac2f0c8d9bd838738e63effcc8e160262", func := "storagebarter/storagebarterlaw28.DutyEven", spec := "dutyEven", unfollowed := true, recurses := true, named := ["storagebarter/duty.costs"], apart := false, laid := [("storagebarter/duty.costs", laid_storagebarter_duty_costs)], narrowed := true }
def DutyEvenUptoSaid : Prop := dutyEvenUptoRow.holds Tryd.pinned (OpenSpec.upto dutyEvenSpec)

/-- 'storagebarterlaw28.DutyTotals', WHERE WHAT IT READS IS OF BULK AT MOST 1048576: true; the input reads as it did. -/
def dutyTotalsUptoRow : OpenClaim := { program := "ytgckkjgemkabnaadoor", sum := "ffbaaba01cc80a436528dcebbe15768ac2f0c8d9bd838738e63effcc8e160262", func := "storagebarter/storagebarterlaw28.DutyTotals", spec := "dutyTotals", unfollowed := true, recurses := true, named := ["storagebarter/duty.costs"], apart := false, laid := [("storagebarter/duty.costs", laid_storagebarter_duty_costs)], narrowed := true }
def DutyTotalsUptoSaid : Prop := dutyTotalsUptoRow.holds Tryd.pinned (OpenSpec.upto dutyTotalsSpec)

/-- 'storagebarterlaw28.DutySteps', WHERE WHAT IT READS IS OF BULK AT MOST 1048576: true; the input reads as it did. -/
def dutyStepsUptoRow : OpenClaim := { program := "ytgckkjgemkabnaadoor", sum := "ffbaaba01cc80a436528dcebbe15768ac2f0c8d9bd838738e63effcc8e160262", func := "storagebarter/storagebarterlaw28.DutySteps", spec := "dutySteps", unfollowed := true, recurses := true, named := ["storagebarter/duty.costs"], apart := false, laid := [("storagebarter/duty.costs", laid_storagebarter_duty_costs)], narrowed := true }
def DutyStepsUptoSaid : Prop := dutyStepsUptoRow.holds Tryd.pinned (OpenSpec.upto dutyStepsSpec)

/-- 'storagebarterlaw28.DutyMerges', WHERE WHAT IT READS IS OF BULK AT MOST 1048576: true; the input reads as it did. -/
def dutyMergesUptoRow : OpenClaim := { program := "ytgckkjgemkabnaadoor", sum := "ffbaaba01cc80a436528dcebbe15768ac2f0c8d9bd838738e63effcc8e160262", func := "storagebarter/storagebarterlaw28.DutyMerges", spec := "dutyMerges", unfollowed := true, recurses := true, named := ["storagebarter/duty.costs"], apart := false, laid := [("storagebarter/duty.costs", laid_storagebarter_duty_costs)], narrowed := true }
def DutyMergesUptoSaid : Prop := dutyMergesUptoRow.holds Tryd.pinned (OpenSpec.upto dutyMergesSpec)

/-- 'storagebarterlaw28.DutyAll', WHERE WHAT IT READS IS OF BULK AT MOST 1048576: true; the input reads as it did. -/
def dutyAllUptoRow : OpenClaim := { program := "ytgckkjgemkabnaadoor", sum := "ffbaaba01cc80a436528dcebbe15768ac2f0c8d9bd838738e63effcc8e160262", func := "storagebarter/storagebarterlaw28.DutyAll", spec := "dutyAll", unfollowed := true, recurses := true, named := ["storagebarter/duty.costs"], apart := false, laid := [("storagebarter/duty.costs", laid_storagebarter_duty_costs)], narrowed := true }
def DutyAllUptoSaid : Prop := dutyAllUptoRow.holds Tryd.pinned (OpenSpec.upto dutyAllSpec)

/-- 'storagebarterlaw29.SlotWalks', WHERE WHAT IT READS IS OF BULK AT MOST 1048576: true; the input reads as it did. -/
def slotWalksUptoRow : OpenClaim := { program := "ytgckkjgemkabnaadoor", sum := "ffbaaba01cc80a436528dcebbe15768ac2f0c8d9bd838738e63effcc8e160262", func := "storagebarter/storagebarterlaw29.SlotWalks", spec := "slotWalks", unfollowed := true, recurses := true, named := ["storagebarter/duty.costs"], apart := false, laid := [("storagebarter/duty.costs", laid_storagebarter_duty_costs)], narrowed := true }
def SlotWalksUptoSaid : Prop := slotWalksUptoRow.holds Tryd.pinned (OpenSpec.upto slotWalksSpec)

/-- 'storagebarterlaw29.SlotFollows', WHERE WHAT IT READS IS OF BULK AT MOST 1048576: true; the input reads as it did. -/
def slotFollowsUptoRow : OpenClaim := { program := "ytgckkjgemkabnaadoor", sum := "ffbaaba01cc80a436528dcebbe15768ac2f0c8d9bd838738e63effcc8e160262", func := "storagebarter/storagebarterlaw29.SlotFollows", spec := "slotFollows", unfollowed := true, recurses := true, named := ["storagebarter/duty.costs"], apart := false, laid := [("storagebarter/duty.costs", laid_storagebarter_duty_costs)], narrowed := true }
def SlotFollowsUptoSaid : Prop := slotFollowsUptoRow.holds Tryd.pinned (OpenSpec.upto slotFollowsSpec)

/-- 'storagebarterlaw29.SlotEnds', WHERE WHAT IT READS IS OF BULK AT MOST 1048576: true; the input reads as it did. -/
def slotEndsUptoRow : OpenClaim := { program := "ytgckkjgemkabnaadoor", sum := "ffbaaba01cc80a436528dcebbe15768ac2f0c8d9bd838738e63effcc8e160262", func := "storagebarter/storagebarterlaw29.SlotEnds", spec := "slotEnds", unfollowed := true, recurses := true, named := ["storagebarter/duty.costs"], apart := false, laid := [("storagebarter/duty.costs", laid_storagebarter_duty_costs)], narrowed := true }
def SlotEndsUptoSaid : Prop := slotEndsUptoRow.holds Tryd.pinned (OpenSpec.upto slotEndsSpec)

/-- 'storagebarterlaw29.SlotDrops', WHERE WHAT IT READS IS OF BULK AT MOST 1048576: true; the input reads as it did. -/
def slotDropsUptoRow : OpenClaim := { program := "ytgckkjgemkabnaadoor", sum := "ffbaaba01cc80a436528dcebbe15768ac2f0c8d9bd838738e63effcc8e160262", func := "storagebarter/storagebarterlaw29.SlotDrops", spec := "slotDrops", unfollowed := true, recurses := true, named := ["storagebarter/duty.costs"], apart := false, laid := [("storagebarter/duty.costs", laid_storagebarter_duty_costs)], narrowed := true }
def SlotDropsUptoSaid : Prop := slotDropsUptoRow.holds Tryd.pinned (OpenSpec.upto slotDropsSpec)

/-- 'storagebarterlaw32.PayoffFollows', WHERE WHAT IT READS IS OF BULK AT MOST 1048576: true; the input reads as it did. -/
def payoffFollowsUptoRow : OpenClaim := { program := "ytgckkjgemkabnaadoor", sum := "ffbaaba01cc80a436528dcebbe15768ac2f0c8d9bd838738e63effcc8e160262", func := "storagebarter/storagebarterlaw32.PayoffFollows", spec := "payoffFollows", unfollowed := true, recurses := true, named := ["storagebarter/duty.costs"], apart := false, laid := [("storagebarter/duty.costs", laid_storagebarter_duty_costs)], narrowed := true }
def PayoffFollowsUptoSaid : Prop := payoffFollowsUptoRow.holds Tryd.pinned (OpenSpec.upto payoffFollowsSpec)

/-- 'storagebarterlaw32.PayoffWorth', WHERE WHAT IT READS IS OF BULK AT MOST 1048576: true; the input reads as it did. -/
def payoffWorthUptoRow : OpenClaim := { program := "ytgckkjgemkabnaadoor", sum := "ffbaaba01cc80a436528dcebbe15768ac2f0c8d9bd838738e63effcc8e160262", func := "storagebarter/storagebarterlaw32.PayoffWorth", spec := "payoffWorth", unfollowed := true, recurses := true, named := ["storagebarter/duty.costs"], apart := false, laid := [("storagebarter/duty.costs", laid_storagebarter_duty_costs)], narrowed := true }
def PayoffWorthUptoSaid : Prop := payoffWorthUptoRow.holds Tryd.pinned (OpenSpec.upto payoffWorthSpec)

/-- 'storagebarterlaw32.PayoffSteps', WHERE WHAT IT READS IS OF BULK AT MOST 1048576: true; the input reads as it did. -/
def payoffStepsUptoRow : OpenClaim := { program := "ytgckkjgemkabnaadoor", sum := "ffbaaba01cc80a436528dcebbe15768ac2f0c8d9bd838738e63effcc8e160262", func := "storagebarter/storagebarterlaw32.PayoffSteps", spec := "payoffSteps", unfollowed := true, recurses := true, named := ["storagebarter/duty.costs"], apart := false, laid := [("storagebarter/duty.costs", laid_storagebarter_duty_costs)], narrowed := true }
def PayoffStepsUptoSaid : Prop := payoffStepsUptoRow.holds Tryd.pinned (OpenSpec.upto payoffStepsSpec)

/-- 'storagebarterlaw32.PayoffSums', WHERE WHAT IT READS IS OF BULK AT MOST 1048576: true; the input reads as it did. -/
def payoffSumsUptoRow : OpenClaim := { program := "ytgckkjgemkabnaadoor", sum := "ffbaaba01cc80a436528dcebbe15768ac2f0c8d9bd838738e63effcc8e160262", func := "storagebarter/storagebarterlaw32.PayoffSums", spec := "payoffSums", unfollowed := true, recurses := true, named := ["storagebarter/duty.costs"], apart := false, laid := [("storagebarter/duty.costs", laid_storagebarter_duty_costs)], narrowed := true }
def PayoffSumsUptoSaid : Prop := payoffSumsUptoRow.holds Tryd.pinned (OpenSpec.upto payoffSumsSpec)

end Rows
end Go.Proofs.YtgckkjgemkabnaaDoor
