/-
  DERIVED. GIVEN WITH THE SEED: THE CARDS: each row of YtgckkjgemkabnaaDoorRows.lean that lists a variable, with what it lists TIED to the program's text (the seventh form; the later family's looks); each row that meets fmt, with fmt's text TOLD by the authors' own Lean function (tested against real Go, not proved from fmt's source: count such statements apart). THE CARD IS WHAT COUNTS. Prove the row's statement (the work); the ties are given (YtgckkjgemkabnaaDoorTie.lean); close each card by the builder's one call (the guide's Derived/Test/ToyasCard.lean, 'card_holds'). Laid BY PROGRAM, IN A SANDBOX (cutbox-door.mjs). By AI agents, Wed Nov 11 2026. No macro, syntax, notation, axiom, sorry.
-/
import Derived.Test.YtgckkjgemkabnaaDoorRows
import GoSem.ClaimSeven
namespace Go.Proofs.YtgckkjgemkabnaaDoor
namespace Rows

/-- THE TIED CARD OF 'storagebarterlaw28.DutyEven'. -/
def dutyEvenCard : Claim7 := { stood := { row := dutyEvenRow, standIns := [], harness := (true, "9f6fb4bfea9dd3925fdaefc2345d17e5520d8832279774bdd7c11f5d6e3d7d3a"), looks := false }, kinds := [], alts := [], laidByText := true, laidKinds := [.data], laidTests := true, laidLooks := .later }
def DutyEvenCardSaid : Prop := Claim7.holds Tryd.pinned (.plain (OpenSpec.ofChange dutyEvenSpec)) dutyEvenCard

/-- THE TIED CARD OF 'storagebarterlaw28.DutyTotals'. -/
def dutyTotalsCard : Claim7 := { stood := { row := dutyTotalsRow, standIns := [], harness := (true, "9f6fb4bfea9dd3925fdaefc2345d17e5520d8832279774bdd7c11f5d6e3d7d3a"), looks := false }, kinds := [], alts := [], laidByText := true, laidKinds := [.data], laidTests := true, laidLooks := .later }
def DutyTotalsCardSaid : Prop := Claim7.holds Tryd.pinned (.plain (OpenSpec.ofChange dutyTotalsSpec)) dutyTotalsCard

/-- THE TIED CARD OF 'storagebarterlaw28.DutySteps'. -/
def dutyStepsCard : Claim7 := { stood := { row := dutyStepsRow, standIns := [], harness := (true, "9f6fb4bfea9dd3925fdaefc2345d17e5520d8832279774bdd7c11f5d6e3d7d3a"), looks := false }, kinds := [], alts := [], laidByText := true, laidKinds := [.data], laidTests := true, laidLooks := .later }
def DutyStepsCardSaid : Prop := Claim7.holds Tryd.pinned (.plain (OpenSpec.ofChange dutyStepsSpec)) dutyStepsCard

/-- THE TIED CARD OF 'storagebarterlaw28.DutyMerges'. -/
def dutyMergesCard : Claim7 := { stood := { row := dutyMergesRow, standIns := [], harness := (true, "9f6fb4bfea9dd3925fdaefc2345d17e5520d8832279774bdd7c11f5d6e3d7d3a"), looks := false }, kinds := [], alts := [], laidByText := true, laidKinds := [.data], laidTests := true, laidLooks := .later }
def DutyMergesCardSaid : Prop := Claim7.holds Tryd.pinned (.plain (OpenSpec.ofChange dutyMergesSpec)) dutyMergesCard

/-- THE TIED CARD OF 'storagebarterlaw28.DutyAll'. -/
def dutyAllCard : Claim7 := { stood := { row := dutyAllRow, standIns := [], harness := (true, "9f6fb4bfea9dd3925fdaefc2345d17e5520d8832279774bdd7c11f5d6e3d7d3a"), looks := false }, kinds := [], alts := [], laidByText := true, laidKinds := [.data], laidTests := true, laidLooks := .later }
def DutyAllCardSaid : Prop := Claim7.holds Tryd.pinned (.plain (OpenSpec.ofChange dutyAllSpec)) dutyAllCard

/-- THE TIED CARD OF 'storagebarterlaw29.SlotWalks'. -/
def slotWalksCard : Claim7 := { stood := { row := slotWalksRow, standIns := [], harness := (true, "9f6fb4bfea9dd3925fdaefc2345d17e5520d8832279774bdd7c11f5d6e3d7d3a"), looks := false }, kinds := [], alts := [], laidByText := true, laidKinds := [.data], laidTests := true, laidLooks := .later }
def SlotWalksCardSaid : Prop := Claim7.holds Tryd.pinned (.plain (OpenSpec.ofChange slotWalksSpec)) slotWalksCard

/-- THE TIED CARD OF 'storagebarterlaw29.SlotFollows'. -/
def slotFollowsCard : Claim7 := { stood := { row := slotFollowsRow, standIns := [], harness := (true, "9f6fb4bfea9dd3925fdaefc2345d17e5520d8832279774bdd7c11f5d6e3d7d3a"), looks := false }, kinds := [], alts := [], laidByText := true, laidKinds := [.data], laidTests := true, laidLooks := .later }
def SlotFollowsCardSaid : Prop := Claim7.holds Tryd.pinned (.plain (OpenSpec.ofChange slotFollowsSpec)) slotFollowsCard

/-- THE TIED CARD OF 'storagebarterlaw29.SlotEnds'. -/
def slotEndsCard : Claim7 := { stood := { row := slotEndsRow, standIns := [], harness := (true, "9f6fb4bfea9dd3925fdaefc2345d17e5520d8832279774bdd7c11f5d6e3d7d3a"), looks := false }, kinds := [], alts := [], laidByText := true, laidKinds := [.data], laidTests := true, laidLooks := .later }
def SlotEndsCardSaid : Prop := Claim7.holds Tryd.pinned (.plain (OpenSpec.ofChange slotEndsSpec)) slotEndsCard

/-- THE TIED CARD OF 'storagebarterlaw29.SlotDrops'. -/
def slotDropsCard : Claim7 := { stood := { row := slotDropsRow, standIns := [], harness := (true, "9f6fb4bfea9dd3925fdaefc2345d17e5520d8832279774bdd7c11f5d6e3d7d3a"), looks := false }, kinds := [], alts := [], laidByText := true, laidKinds := [.data], laidTests := true, laidLooks := .later }
def SlotDropsCardSaid : Prop := Claim7.holds Tryd.pinned (.plain (OpenSpec.ofChange slotDropsSpec)) slotDropsCard

/-- THE TIED CARD OF 'storagebarterlaw32.PayoffFollows'. -/
def payoffFollowsCard : Claim7 := { stood := { row := payoffFollowsRow, standIns := [], harness := (true, "9f6fb4bfea9dd3925fdaefc2345d17e5520d8832279774bdd7c11f5d6e3d7d3a"), looks := false }, kinds := [], alts := [], laidByText := true, laidKinds := [.data], laidTests := true, laidLooks := .later }
def PayoffFollowsCardSaid : Prop := Claim7.holds Tryd.pinned (.plain (OpenSpec.ofChange payoffFollowsSpec)) payoffFollowsCard

/-- THE TIED CARD OF 'storagebarterlaw32.PayoffWorth'. -/
def payoffWorthCard : Claim7 := { stood := { row := payoffWorthRow, standIns := [], harness := (true, "9f6fb4bfea9dd3925fdaefc2345d17e5520d8832279774bdd7c11f5d6e3d7d3a"), looks := false }, kinds := [], alts := [], laidByText := true, laidKinds := [.data], laidTests := true, laidLooks := .later }
def PayoffWorthCardSaid : Prop := Claim7.holds Tryd.pinned (.plain (OpenSpec.ofChange payoffWorthSpec)) payoffWorthCard

/-- THE TIED CARD OF 'storagebarterlaw32.PayoffSteps'. -/
def payoffStepsCard : Claim7 := { stood := { row := payoffStepsRow, standIns := [], harness := (true, "9f6fb4bfea9dd3925fdaefc2345d17e5520d8832279774bdd7c11f5d6e3d7d3a"), looks := false }, kinds := [], alts := [], laidByText := true, laidKinds := [.data], laidTests := true, laidLooks := .later }
def PayoffStepsCardSaid : Prop := Claim7.holds Tryd.pinned (.plain (OpenSpec.ofChange payoffStepsSpec)) payoffStepsCard

/-- THE TIED CARD OF 'storagebarterlaw32.PayoffSums'. -/
def payoffSumsCard : Claim7 := { stood := { row := payoffSumsRow, standIns := [], harness := (true, "9f6fb4bfea9dd3925fdaefc2345d17e5520d8832279774bdd7c11f5d6e3d7d3a"), looks := false }, kinds := [], alts := [], laidByText := true, laidKinds := [.data], laidTests := true, laidLooks := .later }
def PayoffSumsCardSaid : Prop := Claim7.holds Tryd.pinned (.plain (OpenSpec.ofChange payoffSumsSpec)) payoffSumsCard

/-- THE SECOND FORM's CARD OF 'storagebarterlaw28.DutyEven'. -/
def dutyEvenUptoCard : Claim7 := { stood := { row := dutyEvenUptoRow, standIns := [], harness := (true, "9f6fb4bfea9dd3925fdaefc2345d17e5520d8832279774bdd7c11f5d6e3d7d3a"), looks := false }, kinds := [], alts := [], laidByText := true, laidKinds := [.data], laidTests := true, laidLooks := .later }
def DutyEvenUptoCardSaid : Prop := Claim7.holds Tryd.pinned (.plain (OpenSpec.upto dutyEvenSpec)) dutyEvenUptoCard

/-- THE SECOND FORM's CARD OF 'storagebarterlaw28.DutyTotals'. -/
def dutyTotalsUptoCard : Claim7 := { stood := { row := dutyTotalsUptoRow, standIns := [], harness := (true, "9f6fb4bfea9dd3925fdaefc2345d17e5520d8832279774bdd7c11f5d6e3d7d3a"), looks := false }, kinds := [], alts := [], laidByText := true, laidKinds := [.data], laidTests := true, laidLooks := .later }
def DutyTotalsUptoCardSaid : Prop := Claim7.holds Tryd.pinned (.plain (OpenSpec.upto dutyTotalsSpec)) dutyTotalsUptoCard

/-- THE SECOND FORM's CARD OF 'storagebarterlaw28.DutySteps'. -/
def dutyStepsUptoCard : Claim7 := { stood := { row := dutyStepsUptoRow, standIns := [], harness := (true, "9f6fb4bfea9dd3925fdaefc2345d17e5520d8832279774bdd7c11f5d6e3d7d3a"), looks := false }, kinds := [], alts := [], laidByText := true, laidKinds := [.data], laidTests := true, laidLooks := .later }
def DutyStepsUptoCardSaid : Prop := Claim7.holds Tryd.pinned (.plain (OpenSpec.upto dutyStepsSpec)) dutyStepsUptoCard

/-- THE SECOND FORM's CARD OF 'storagebarterlaw28.DutyMerges'. -/
def dutyMergesUptoCard : Claim7 := { stood := { row := dutyMergesUptoRow, standIns := [], harness := (true, "9f6fb4bfea9dd3925fdaefc2345d17e5520d8832279774bdd7c11f5d6e3d7d3a"), looks := false }, kinds := [], alts := [], laidByText := true, laidKinds := [.data], laidTests := true, laidLooks := .later }
def DutyMergesUptoCardSaid : Prop := Claim7.holds Tryd.pinned (.plain (OpenSpec.upto dutyMergesSpec)) dutyMergesUptoCard

/-- THE SECOND FORM's CARD OF 'storagebarterlaw28.DutyAll'. -/
def dutyAllUptoCard : Claim7 := { stood := { row := dutyAllUptoRow, standIns := [], harness := (true, "9f6fb4bfea9dd3925fdaefc2345d17e5520d8832279774bdd7c11f5d6e3d7d3a"), looks := false }, kinds := [], alts := [], laidByText := true, laidKinds := [.data], laidTests := true, laidLooks := .later }
def DutyAllUptoCardSaid : Prop := Claim7.holds Tryd.pinned (.plain (OpenSpec.upto dutyAllSpec)) dutyAllUptoCard

/-- THE SECOND FORM's CARD OF 'storagebarterlaw29.SlotWalks'. -/
def slotWalksUptoCard : Claim7 := { stood := { row := slotWalksUptoRow, standIns := [], harness := (true, "9f6fb4bfea9dd3925fdaefc2345d17e5520d8832279774bdd7c11f5d6e3d7d3a"), looks := false }, kinds := [], alts := [], laidByText := true, laidKinds := [.data], laidTests := true, laidLooks := .later }
def SlotWalksUptoCardSaid : Prop := Claim7.holds Tryd.pinned (.plain (OpenSpec.upto slotWalksSpec)) slotWalksUptoCard

/-- THE SECOND FORM's CARD OF 'storagebarterlaw29.SlotFollows'. -/
def slotFollowsUptoCard : Claim7 := { stood := { row := slotFollowsUptoRow, standIns := [], harness := (true, "9f6fb4bfea9dd3925fdaefc2345d17e5520d8832279774bdd7c11f5d6e3d7d3a"), looks := false }, kinds := [], alts := [], laidByText := true, laidKinds := [.data], laidTests := true, laidLooks := .later }
def SlotFollowsUptoCardSaid : Prop := Claim7.holds Tryd.pinned (.plain (OpenSpec.upto slotFollowsSpec)) slotFollowsUptoCard

/-- THE SECOND FORM's CARD OF 'storagebarterlaw29.SlotEnds'. -/
def slotEndsUptoCard : Claim7 := { stood := { row := slotEndsUptoRow, standIns := [], harness := (true, "9f6fb4bfea9dd3925fdaefc2345d17e5520d8832279774bdd7c11f5d6e3d7d3a"), looks := false }, kinds := [], alts := [], laidByText := true, laidKinds := [.data], laidTests := true, laidLooks := .later }
def SlotEndsUptoCardSaid : Prop := Claim7.holds Tryd.pinned (.plain (OpenSpec.upto slotEndsSpec)) slotEndsUptoCard

/-- THE SECOND FORM's CARD OF 'storagebarterlaw29.SlotDrops'. -/
def slotDropsUptoCard : Claim7 := { stood := { row := slotDropsUptoRow, standIns := [], harness := (true, "9f6fb4bfea9dd3925fdaefc2345d17e5520d8832279774bdd7c11f5d6e3d7d3a"), looks := false }, kinds := [], alts := [], laidByText := true, laidKinds := [.data], laidTests := true, laidLooks := .later }
def SlotDropsUptoCardSaid : Prop := Claim7.holds Tryd.pinned (.plain (OpenSpec.upto slotDropsSpec)) slotDropsUptoCard

/-- THE SECOND FORM's CARD OF 'storagebarterlaw32.PayoffFollows'. -/
def payoffFollowsUptoCard : Claim7 := { stood := { row := payoffFollowsUptoRow, standIns := [], harness := (true, "9f6fb4bfea9dd3925fdaefc2345d17e5520d8832279774bdd7c11f5d6e3d7d3a"), looks := false }, kinds := [], alts := [], laidByText := true, laidKinds := [.data], laidTests := true, laidLooks := .later }
def PayoffFollowsUptoCardSaid : Prop := Claim7.holds Tryd.pinned (.plain (OpenSpec.upto payoffFollowsSpec)) payoffFollowsUptoCard

/-- THE SECOND FORM's CARD OF 'storagebarterlaw32.PayoffWorth'. -/
def payoffWorthUptoCard : Claim7 := { stood := { row := payoffWorthUptoRow, standIns := [], harness := (true, "9f6fb4bfea9dd3925fdaefc2345d17e5520d8832279774bdd7c11f5d6e3d7d3a"), looks := false }, kinds := [], alts := [], laidByText := true, laidKinds := [.data], laidTests := true, laidLooks := .later }
def PayoffWorthUptoCardSaid : Prop := Claim7.holds Tryd.pinned (.plain (OpenSpec.upto payoffWorthSpec)) payoffWorthUptoCard

/-- THE SECOND FORM's CARD OF 'storagebarterlaw32.PayoffSteps'. -/
def payoffStepsUptoCard : Claim7 := { stood := { row := payoffStepsUptoRow, standIns := [], harness := (true, "9f6fb4bfea9dd3925fdaefc2345d17e5520d8832279774bdd7c11f5d6e3d7d3a"), looks := false }, kinds := [], alts := [], laidByText := true, laidKinds := [.data], laidTests := true, laidLooks := .later }
def PayoffStepsUptoCardSaid : Prop := Claim7.holds Tryd.pinned (.plain (OpenSpec.upto payoffStepsSpec)) payoffStepsUptoCard

/-- THE SECOND FORM's CARD OF 'storagebarterlaw32.PayoffSums'. -/
def payoffSumsUptoCard : Claim7 := { stood := { row := payoffSumsUptoRow, standIns := [], harness := (true, "9f6fb4bfea9dd3925fdaefc2345d17e5520d8832279774bdd7c11f5d6e3d7d3a"), looks := false }, kinds := [], alts := [], laidByText := true, laidKinds := [.data], laidTests := true, laidLooks := .later }
def PayoffSumsUptoCardSaid : Prop := Claim7.holds Tryd.pinned (.plain (OpenSpec.upto payoffSumsSpec)) payoffSumsUptoCard
end Rows
end Go.Proofs.YtgckkjgemkabnaaDoor
