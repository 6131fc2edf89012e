/-
  NARROWER THAN 'FOR EVERY INPUT', by the rows' own cells (each row's printed sentence says how): DeviationLists: laid · DeviationCounts: laid · DeviationAll: laid · DeviationSteps: laid · DeviationLess: laid.
  DERIVED. THE GIVEN ROWS OF THIS SEAT. 5 by the template 'for every input the law returns true; each argument reads behind the call as it read before'; 0 by the template 'total and deterministic' (their statements: YtdflpnfceajomaaDoorTotals.lean).
  GIVEN WITH THE SEED: the statements are not yours to turn. If you find one false, say at which input.
  Laid BY PROGRAM, IN A SANDBOX (cutbox-rows.mjs): the forced cells as the released guide's own fill.sh prints them over the translation 3f3d1c19b6098350… (all of the seat's roots in one cut). By AI agents, Wed Nov 11 2026. No macro, syntax, notation, axiom, sorry.
-/
import Derived.Test.YtdflpnfceajomaaDoorChecked
import GoSem.Claim
import GoSem.ClaimJoined
import GoSem.ClaimMapViews
import Derived.JoinedTies
import Derived.KernelRfl
namespace Go.Proofs.YtdflpnfceajomaaDoor
/- THE CELL 'sum', in the pinned program and in every row, IS THE sha256 OF THE DUMP (.gsa) THAT YtdflpnfceajomaaDoorProg.lean LOADS. Nothing in Lean hashes anything: it is a label: what it is worth is what the hold of that sum in a sandbox is worth. -/
noncomputable def Tryd.pinned : Pinned := { name := "ytdflpnfceajomaadoor", sum := "3f3d1c19b6098350870769e13625baef39c292710d7e2b2c1d998af5742c184d", checked := Tryd.checked }
namespace Rows
def none {H : Type} : Left H := { results := [], args := [] }

/- WHAT THE LISTED PACKAGE-LEVEL VARIABLES READ AS WHEN THE CALL BEGINS. Each datum BY PROGRAM (the guide's laid-datum.mjs) off the statement by which the dump's own 'gosem.cut.vars' lays the variable. In a bare row this is a premise. The card (YtdflpnfceajomaaDoorCards.lean) ties it to the program's text. -/
def laid_storagebarter_deviation_hows {H : Type} : DataW H := .agg [.lit (.int .i64 1), .lit (.int .i64 2), .lit (.int .i64 3)]

/-- 'storagebarterlaw30.DeviationLists': WHATEVER THE INPUT: true; the input reads as it did. -/
def deviationListsSpec : ChangeSpec := { name := "deviationLists", fn := fun _ => fun
  | [d1, d2, d3, d4] => { results := [.lit (.bool true)], args := [d1, d2, d3, d4] }
  | _ => none }
def deviationListsRow : OpenClaim := { program := "ytdflpnfceajomaadoor", sum := "3f3d1c19b6098350870769e13625baef39c292710d7e2b2c1d998af5742c184d", func := "storagebarter/storagebarterlaw30.DeviationLists", spec := "deviationLists", unfollowed := true, recurses := true, named := ["storagebarter/deviation.hows"], apart := false, laid := [("storagebarter/deviation.hows", laid_storagebarter_deviation_hows)] }
def DeviationListsSaid : Prop := deviationListsRow.holds Tryd.pinned (OpenSpec.ofChange deviationListsSpec)

/-- ITS FALSE NEIGHBOUR: 'it returns false'. Refute it at one input. -/
def deviationListsWrong : ChangeSpec := { name := "deviationLists", fn := fun _ => fun
  | [d1, d2, d3, d4] => { results := [.lit (.bool false)], args := [d1, d2, d3, d4] }
  | _ => none }
def DeviationListsWrongFalsely : Prop := deviationListsRow.holds Tryd.pinned (OpenSpec.ofChange deviationListsWrong)

/-- 'storagebarterlaw30.DeviationCounts': WHATEVER THE INPUT: true; the input reads as it did. -/
def deviationCountsSpec : ChangeSpec := { name := "deviationCounts", fn := fun _ => fun
  | [d1, d2] => { results := [.lit (.bool true)], args := [d1, d2] }
  | _ => none }
def deviationCountsRow : OpenClaim := { program := "ytdflpnfceajomaadoor", sum := "3f3d1c19b6098350870769e13625baef39c292710d7e2b2c1d998af5742c184d", func := "storagebarter/storagebarterlaw30.DeviationCounts", spec := "deviationCounts", unfollowed := true, recurses := true, named := ["storagebarter/deviation.hows"], apart := false, laid := [("storagebarter/deviation.hows", laid_storagebarter_deviation_hows)] }
def DeviationCountsSaid : Prop := deviationCountsRow.holds Tryd.pinned (OpenSpec.ofChange deviationCountsSpec)

/-- ITS FALSE NEIGHBOUR: 'it returns false'. Refute it at one input. -/
def deviationCountsWrong : ChangeSpec := { name := "deviationCounts", fn := fun _ => fun
  | [d1, d2] => { results := [.lit (.bool false)], args := [d1, d2] }
  | _ => none }
def DeviationCountsWrongFalsely : Prop := deviationCountsRow.holds Tryd.pinned (OpenSpec.ofChange deviationCountsWrong)

/-- 'storagebarterlaw30.DeviationAll': WHATEVER THE INPUT: true; the input reads as it did. -/
def deviationAllSpec : ChangeSpec := { name := "deviationAll", fn := fun _ => fun
  | [d1, d2] => { results := [.lit (.bool true)], args := [d1, d2] }
  | _ => none }
def deviationAllRow : OpenClaim := { program := "ytdflpnfceajomaadoor", sum := "3f3d1c19b6098350870769e13625baef39c292710d7e2b2c1d998af5742c184d", func := "storagebarter/storagebarterlaw30.DeviationAll", spec := "deviationAll", unfollowed := true, recurses := true, named := ["storagebarter/deviation.hows"], apart := false, laid := [("storagebarter/deviation.hows", laid_storagebarter_deviation_hows)] }
def DeviationAllSaid : Prop := deviationAllRow.holds Tryd.pinned (OpenSpec.ofChange deviationAllSpec)

/-- ITS FALSE NEIGHBOUR: 'it returns false'. Refute it at one input. -/
def deviationAllWrong : ChangeSpec := { name := "deviationAll", fn := fun _ => fun
  | [d1, d2] => { results := [.lit (.bool false)], args := [d1, d2] }
  | _ => none }
def DeviationAllWrongFalsely : Prop := deviationAllRow.holds Tryd.pinned (OpenSpec.ofChange deviationAllWrong)

/-- 'storagebarterlaw30.DeviationSteps': WHATEVER THE INPUT: true; the input reads as it did. -/
def deviationStepsSpec : ChangeSpec := { name := "deviationSteps", fn := fun _ => fun
  | [d1, d2, d3, d4, d5, d6, d7] => { results := [.lit (.bool true)], args := [d1, d2, d3, d4, d5, d6, d7] }
  | _ => none }
def deviationStepsRow : OpenClaim := { program := "ytdflpnfceajomaadoor", sum := "3f3d1c19b6098350870769e13625baef39c292710d7e2b2c1d998af5742c184d", func := "storagebarter/storagebarterlaw30.DeviationSteps", spec := "deviationSteps", unfollowed := true, recurses := true, named := ["storagebarter/deviation.hows"], apart := false, laid := [("storagebarter/deviation.hows", laid_storagebarter_deviation_hows)] }
def DeviationStepsSaid : Prop := deviationStepsRow.holds Tryd.pinned (OpenSpec.ofChange deviationStepsSpec)

/-- ITS FALSE NEIGHBOUR: 'it returns false'. Refute it at one input. -/
def deviationStepsWrong : ChangeSpec := { name := "deviationSteps", fn := fun _ => fun
  | [d1, d2, d3, d4, d5, d6, d7] => { results := [.lit (.bool false)], args := [d1, d2, d3, d4, d5, d6, d7] }
  | _ => none }
def DeviationStepsWrongFalsely : Prop := deviationStepsRow.holds Tryd.pinned (OpenSpec.ofChange deviationStepsWrong)

/-- 'storagebarterlaw30.DeviationLess': WHATEVER THE INPUT: true; the input reads as it did. -/
def deviationLessSpec : ChangeSpec := { name := "deviationLess", fn := fun _ => fun
  | [d] => { results := [.lit (.bool true)], args := [d] }
  | _ => none }
def deviationLessRow : OpenClaim := { program := "ytdflpnfceajomaadoor", sum := "3f3d1c19b6098350870769e13625baef39c292710d7e2b2c1d998af5742c184d", func := "storagebarter/storagebarterlaw30.DeviationLess", spec := "deviationLess", unfollowed := true, recurses := true, named := ["storagebarter/deviation.hows"], apart := false, laid := [("storagebarter/deviation.hows", laid_storagebarter_deviation_hows)] }
def DeviationLessSaid : Prop := deviationLessRow.holds Tryd.pinned (OpenSpec.ofChange deviationLessSpec)

/-- ITS FALSE NEIGHBOUR: 'it returns false'. Refute it at one input. -/
def deviationLessWrong : ChangeSpec := { name := "deviationLess", fn := fun _ => fun
  | [d] => { results := [.lit (.bool false)], args := [d] }
  | _ => none }
def DeviationLessWrongFalsely : Prop := deviationLessRow.holds Tryd.pinned (OpenSpec.ofChange deviationLessWrong)

/- THE SECOND FORM. 'bulk': how many values and letters a reading holds, each counted each time it is reached (what is shared counts as often as it is met; a slice's spare places count too). A statement '..UptoSaid' is the law's where the arguments, and the package variables that the reading takes, are together of bulk at most 1048576: NARROWER than '..Said'. Prove '..Said' where nothing that the law and all that it calls make is longer than what came in: it says more and counts as full. Else prove '..UptoSaid'. A law counts once. -/
mutual
def uptoBulk {H : Type} : DataW H → Nat
  | .lit (.string bytes) => bytes.length + 1
  | .lit _ => 1
  | .nil => 1
  | .ptr d => uptoBulk d + 1
  | .slice elems spare => uptoBulkAll elems + uptoBulkAll spare + 1
  | .agg parts => uptoBulkAll parts + 1
  | .iface _ d => uptoBulk d + 1
  | .map entries => uptoBulkEntries entries + 1
  | .held _ => 1
def uptoBulkAll {H : Type} : List (DataW H) → Nat
  | [] => 0
  | d :: r => uptoBulk d + uptoBulkAll r
def uptoBulkEntries {H : Type} : List (Lit × DataW H) → Nat
  | [] => 0
  | x :: r => uptoBulkEntry x + uptoBulkEntries r
def uptoBulkEntry {H : Type} : Lit × DataW H → Nat
  | (.string bytes, d) => bytes.length + uptoBulk d + 1
  | (_, d) => uptoBulk d + 1
 end
def uptoSmall : (H : Type) → List (DataW H) → Bool := fun _ ds => decide (uptoBulkAll ds ≤ 1048576)
def OpenSpec.upto (s : _root_.Go.ChangeSpec) : _root_.Go.OpenSpec := { _root_.Go.OpenSpec.ofChange s with cond := some uptoSmall }

/-- 'storagebarterlaw30.DeviationLists', WHERE WHAT IT READS IS OF BULK AT MOST 1048576: true; the input reads as it did. -/
def deviationListsUptoRow : OpenClaim := { program := "ytdflpnfceajomaadoor", sum := "3f3d1c19b6098350870769e13625baef39c292710d7e2b2c1d998af5742c184d", func := "storagebarter/storagebarterlaw30.DeviationLists", spec := "deviationLists", unfollowed := true, recurses := true, named := ["storagebarter/deviation.hows"], apart := false, laid := [("storagebarter/deviation.hows", laid_storagebarter_deviation_hows)], narrowed := true }
def DeviationListsUptoSaid : Prop := deviationListsUptoRow.holds Tryd.pinned (OpenSpec.upto deviationListsSpec)

/-- 'storagebarterlaw30.DeviationCounts', WHERE WHAT IT READS IS OF BULK AT MOST 1048576: true; the input reads as it did. -/
def deviationCountsUptoRow : OpenClaim := { program := "ytdflpnfceajomaadoor", sum := "3f3d1c19b6098350870769e13625baef39c292710d7e2b2c1d998af5742c184d", func := "storagebarter/storagebarterlaw30.DeviationCounts", spec := "deviationCounts", unfollowed := true, recurses := true, named := ["storagebarter/deviation.hows"], apart := false, laid := [("storagebarter/deviation.hows", laid_storagebarter_deviation_hows)], narrowed := true }
def DeviationCountsUptoSaid : Prop := deviationCountsUptoRow.holds Tryd.pinned (OpenSpec.upto deviationCountsSpec)

/-- 'storagebarterlaw30.DeviationAll', WHERE WHAT IT READS IS OF BULK AT MOST 1048576: true; the input reads as it did. -/
def deviationAllUptoRow : OpenClaim := { program := "ytdflpnfceajomaadoor", sum := "3f3d1c19b6098350870769e13625baef39c292710d7e2b2c1d998af5742c184d", func := "storagebarter/storagebarterlaw30.DeviationAll", spec := "deviationAll", unfollowed := true, recurses := true, named := ["storagebarter/deviation.hows"], apart := false, laid := [("storagebarter/deviation.hows", laid_storagebarter_deviation_hows)], narrowed := true }
def DeviationAllUptoSaid : Prop := deviationAllUptoRow.holds Tryd.pinned (OpenSpec.upto deviationAllSpec)

/-- 'storagebarterlaw30.DeviationSteps', WHERE WHAT IT READS IS OF BULK AT MOST 1048576: true; the input reads as it did. -/
def deviationStepsUptoRow : OpenClaim := { program := "ytdflpnfceajomaadoor", sum := "3f3d1c19b6098350870769e13625baef39c292710d7e2b2c1d998af5742c184d", func := "storagebarter/storagebarterlaw30.DeviationSteps", spec := "deviationSteps", unfollowed := true, recurses := true, named := ["storagebarter/deviation.hows"], apart := false, laid := [("storagebarter/deviation.hows", laid_storagebarter_deviation_hows)], narrowed := true }
def DeviationStepsUptoSaid : Prop := deviationStepsUptoRow.holds Tryd.pinned (OpenSpec.upto deviationStepsSpec)

/-- 'storagebarterlaw30.DeviationLess', WHERE WHAT IT READS IS OF BULK AT MOST 1048576: true; the input reads as it did. -/
def deviationLessUptoRow : OpenClaim := { program := "ytdflpnfceajomaadoor", sum := "3f3d1c19b6098350870769e13625baef39c292710d7e2b2c1d998af5742c184d", func := "storagebarter/storagebarterlaw30.DeviationLess", spec := "deviationLess", unfollowed := true, recurses := true, named := ["storagebarter/deviation.hows"], apart := false, laid := [("storagebarter/deviation.hows", laid_storagebarter_deviation_hows)], narrowed := true }
def DeviationLessUptoSaid : Prop := deviationLessUptoRow.holds Tryd.pinned (OpenSpec.upto deviationLessSpec)

end Rows
end Go.Proofs.YtdflpnfceajomaaDoor
