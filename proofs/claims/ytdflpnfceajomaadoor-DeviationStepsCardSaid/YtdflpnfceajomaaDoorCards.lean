/-
  DERIVED. GIVEN WITH THE SEED: THE CARDS: each row of YtdflpnfceajomaaDoorRows.lean that lists a variable, with what it lists TIED to the program's text (the seventh form; the later family's looks); each row that meets fmt, with fmt's text TOLD by the authors' own Lean function (tested against real Go, not proved from fmt's source: count such statements apart). THE CARD IS WHAT COUNTS. Prove the row's statement (the work); the ties are given (YtdflpnfceajomaaDoorTie.lean); close each card by the builder's one call (the guide's Derived/Test/ToyasCard.lean, 'card_holds'). Laid BY PROGRAM, IN A SANDBOX (cutbox-door.mjs). By AI agents, Wed Nov 11 2026. No macro, syntax, notation, axiom, sorry.
-/
import Derived.Test.YtdflpnfceajomaaDoorRows
import GoSem.ClaimSeven
namespace Go.Proofs.YtdflpnfceajomaaDoor
namespace Rows

/-- THE TIED CARD OF 'storagebarterlaw30.DeviationLists'. -/
def deviationListsCard : Claim7 := { stood := { row := deviationListsRow, standIns := [], harness := (true, "06af52723d8d30aa0dfc4faeca72aa0768c765d8993df03a0e1062c5abdbdf4b"), looks := false }, kinds := [], alts := [], laidByText := true, laidKinds := [.widerDeep], laidTests := true, laidLooks := .later }
def DeviationListsCardSaid : Prop := Claim7.holds Tryd.pinned (.plain (OpenSpec.ofChange deviationListsSpec)) deviationListsCard

/-- THE TIED CARD OF 'storagebarterlaw30.DeviationCounts'. -/
def deviationCountsCard : Claim7 := { stood := { row := deviationCountsRow, standIns := [], harness := (true, "06af52723d8d30aa0dfc4faeca72aa0768c765d8993df03a0e1062c5abdbdf4b"), looks := false }, kinds := [], alts := [], laidByText := true, laidKinds := [.widerDeep], laidTests := true, laidLooks := .later }
def DeviationCountsCardSaid : Prop := Claim7.holds Tryd.pinned (.plain (OpenSpec.ofChange deviationCountsSpec)) deviationCountsCard

/-- THE TIED CARD OF 'storagebarterlaw30.DeviationAll'. -/
def deviationAllCard : Claim7 := { stood := { row := deviationAllRow, standIns := [], harness := (true, "06af52723d8d30aa0dfc4faeca72aa0768c765d8993df03a0e1062c5abdbdf4b"), looks := false }, kinds := [], alts := [], laidByText := true, laidKinds := [.widerDeep], laidTests := true, laidLooks := .later }
def DeviationAllCardSaid : Prop := Claim7.holds Tryd.pinned (.plain (OpenSpec.ofChange deviationAllSpec)) deviationAllCard

/-- THE TIED CARD OF 'storagebarterlaw30.DeviationSteps'. -/
def deviationStepsCard : Claim7 := { stood := { row := deviationStepsRow, standIns := [], harness := (true, "06af52723d8d30aa0dfc4faeca72aa0768c765d8993df03a0e1062c5abdbdf4b"), looks := false }, kinds := [], alts := [], laidByText := true, laidKinds := [.widerDeep], laidTests := true, laidLooks := .later }
def DeviationStepsCardSaid : Prop := Claim7.holds Tryd.pinned (.plain (OpenSpec.ofChange deviationStepsSpec)) deviationStepsCard

/-- THE TIED CARD OF 'storagebarterlaw30.DeviationLess'. -/
def deviationLessCard : Claim7 := { stood := { row := deviationLessRow, standIns := [], harness := (true, "06af52723d8d30aa0dfc4faeca72aa0768c765d8993df03a0e1062c5abdbdf4b"), looks := false }, kinds := [], alts := [], laidByText := true, laidKinds := [.widerDeep], laidTests := true, laidLooks := .later }
def DeviationLessCardSaid : Prop := Claim7.holds Tryd.pinned (.plain (OpenSpec.ofChange deviationLessSpec)) deviationLessCard

/-- THE SECOND FORM's CARD OF 'storagebarterlaw30.DeviationLists'. -/
def deviationListsUptoCard : Claim7 := { stood := { row := deviationListsUptoRow, standIns := [], harness := (true, "06af52723d8d30aa0dfc4faeca72aa0768c765d8993df03a0e1062c5abdbdf4b"), looks := false }, kinds := [], alts := [], laidByText := true, laidKinds := [.widerDeep], laidTests := true, laidLooks := .later }
def DeviationListsUptoCardSaid : Prop := Claim7.holds Tryd.pinned (.plain (OpenSpec.upto deviationListsSpec)) deviationListsUptoCard

/-- THE SECOND FORM's CARD OF 'storagebarterlaw30.DeviationCounts'. -/
def deviationCountsUptoCard : Claim7 := { stood := { row := deviationCountsUptoRow, standIns := [], harness := (true, "06af52723d8d30aa0dfc4faeca72aa0768c765d8993df03a0e1062c5abdbdf4b"), looks := false }, kinds := [], alts := [], laidByText := true, laidKinds := [.widerDeep], laidTests := true, laidLooks := .later }
def DeviationCountsUptoCardSaid : Prop := Claim7.holds Tryd.pinned (.plain (OpenSpec.upto deviationCountsSpec)) deviationCountsUptoCard

/-- THE SECOND FORM's CARD OF 'storagebarterlaw30.DeviationAll'. -/
def deviationAllUptoCard : Claim7 := { stood := { row := deviationAllUptoRow, standIns := [], harness := (true, "06af52723d8d30aa0dfc4faeca72aa0768c765d8993df03a0e1062c5abdbdf4b"), looks := false }, kinds := [], alts := [], laidByText := true, laidKinds := [.widerDeep], laidTests := true, laidLooks := .later }
def DeviationAllUptoCardSaid : Prop := Claim7.holds Tryd.pinned (.plain (OpenSpec.upto deviationAllSpec)) deviationAllUptoCard

/-- THE SECOND FORM's CARD OF 'storagebarterlaw30.DeviationSteps'. -/
def deviationStepsUptoCard : Claim7 := { stood := { row := deviationStepsUptoRow, standIns := [], harness := (true, "06af52723d8d30aa0dfc4faeca72aa0768c765d8993df03a0e1062c5abdbdf4b"), looks := false }, kinds := [], alts := [], laidByText := true, laidKinds := [.widerDeep], laidTests := true, laidLooks := .later }
def DeviationStepsUptoCardSaid : Prop := Claim7.holds Tryd.pinned (.plain (OpenSpec.upto deviationStepsSpec)) deviationStepsUptoCard

/-- THE SECOND FORM's CARD OF 'storagebarterlaw30.DeviationLess'. -/
def deviationLessUptoCard : Claim7 := { stood := { row := deviationLessUptoRow, standIns := [], harness := (true, "06af52723d8d30aa0dfc4faeca72aa0768c765d8993df03a0e1062c5abdbdf4b"), looks := false }, kinds := [], alts := [], laidByText := true, laidKinds := [.widerDeep], laidTests := true, laidLooks := .later }
def DeviationLessUptoCardSaid : Prop := Claim7.holds Tryd.pinned (.plain (OpenSpec.upto deviationLessSpec)) deviationLessUptoCard
end Rows
end Go.Proofs.YtdflpnfceajomaaDoor
