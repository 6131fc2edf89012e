/-
  No cell of these rows narrows 'for every input' (looked for: loops, veiled, ifaces, maps, wideKeys, modest, calm, conditions, laid).
  DERIVED. THE GIVEN ROWS OF THIS SEAT. 12 by the template 'for every input the law returns true; each argument reads behind the call as it read before'; 0 by the template 'total and deterministic' (their statements: YtepffabkcbfejaaTotals.lean).
  GIVEN WITH THE SEED: the statements are not yours to turn. If you find one false, say at which input.
  Laid BY PROGRAM, IN A SANDBOX (cutbox-rows.mjs): the forced cells as the released guide's own fill.sh prints them over the translation b77b1e4132c7829f… (all of the seat's roots in one cut). By AI agents, Wed Nov 11 2026. No macro, syntax, notation, axiom, sorry.
-/
import Derived.Test.YtepffabkcbfejaaChecked
import GoSem.Claim
import GoSem.ClaimJoined
import GoSem.ClaimMapViews
import Derived.JoinedTies
import Derived.KernelRfl
namespace Go.Proofs.Ytepffabkcbfejaa
/- THE CELL 'sum', in the pinned program and in every row, IS THE sha256 OF THE DUMP (.gsa) THAT YtepffabkcbfejaaProg.lean LOADS. Nothing in Lean hashes anything: it is a label: what it is worth is what the hold of that sum in a sandbox is worth. -/
noncomputable def Try.pinned : Pinned := { name := "ytepffabkcbfejaa", sum := "b77b1e4132c7829f8adfc2ac1020101d71d56d320b06916e85c6959e7ac5479f", checked := Try.checked }
namespace Rows
def none {H : Type} : Left H := { results := [], args := [] }

/-- 'storagebarterlaw26.EndingCommutes': WHATEVER THE INPUT: true; the input reads as it did. -/
def endingCommutesSpec : ChangeSpec := { name := "endingCommutes", fn := fun _ => fun
  | [d1, d2] => { results := [.lit (.bool true)], args := [d1, d2] }
  | _ => none }
def endingCommutesRow : OpenClaim := { program := "ytepffabkcbfejaa", sum := "b77b1e4132c7829f8adfc2ac1020101d71d56d320b06916e85c6959e7ac5479f", func := "storagebarter/storagebarterlaw26.EndingCommutes", spec := "endingCommutes", unfollowed := true, recurses := true, apart := false }
def EndingCommutesSaid : Prop := endingCommutesRow.holds Try.pinned (OpenSpec.ofChange endingCommutesSpec)

/-- ITS FALSE NEIGHBOUR: 'it returns false'. Refute it at one input. -/
def endingCommutesWrong : ChangeSpec := { name := "endingCommutes", fn := fun _ => fun
  | [d1, d2] => { results := [.lit (.bool false)], args := [d1, d2] }
  | _ => none }
def EndingCommutesWrongFalsely : Prop := endingCommutesRow.holds Try.pinned (OpenSpec.ofChange endingCommutesWrong)

/-- 'storagebarterlaw26.EndingRoom': WHATEVER THE INPUT: true; the input reads as it did. -/
def endingRoomSpec : ChangeSpec := { name := "endingRoom", fn := fun _ => fun
  | [d1, d2] => { results := [.lit (.bool true)], args := [d1, d2] }
  | _ => none }
def endingRoomRow : OpenClaim := { program := "ytepffabkcbfejaa", sum := "b77b1e4132c7829f8adfc2ac1020101d71d56d320b06916e85c6959e7ac5479f", func := "storagebarter/storagebarterlaw26.EndingRoom", spec := "endingRoom", unfollowed := true, recurses := true, apart := false }
def EndingRoomSaid : Prop := endingRoomRow.holds Try.pinned (OpenSpec.ofChange endingRoomSpec)

/-- ITS FALSE NEIGHBOUR: 'it returns false'. Refute it at one input. -/
def endingRoomWrong : ChangeSpec := { name := "endingRoom", fn := fun _ => fun
  | [d1, d2] => { results := [.lit (.bool false)], args := [d1, d2] }
  | _ => none }
def EndingRoomWrongFalsely : Prop := endingRoomRow.holds Try.pinned (OpenSpec.ofChange endingRoomWrong)

/-- 'storagebarterlaw26.EndingAll': WHATEVER THE INPUT: true; the input reads as it did. -/
def endingAllSpec : ChangeSpec := { name := "endingAll", fn := fun _ => fun
  | [d] => { results := [.lit (.bool true)], args := [d] }
  | _ => none }
def endingAllRow : OpenClaim := { program := "ytepffabkcbfejaa", sum := "b77b1e4132c7829f8adfc2ac1020101d71d56d320b06916e85c6959e7ac5479f", func := "storagebarter/storagebarterlaw26.EndingAll", spec := "endingAll", unfollowed := true, recurses := true, apart := false }
def EndingAllSaid : Prop := endingAllRow.holds Try.pinned (OpenSpec.ofChange endingAllSpec)

/-- ITS FALSE NEIGHBOUR: 'it returns false'. Refute it at one input. -/
def endingAllWrong : ChangeSpec := { name := "endingAll", fn := fun _ => fun
  | [d] => { results := [.lit (.bool false)], args := [d] }
  | _ => none }
def EndingAllWrongFalsely : Prop := endingAllRow.holds Try.pinned (OpenSpec.ofChange endingAllWrong)

/-- 'storagebarterlaw26.EndingFetch': WHATEVER THE INPUT: true; the input reads as it did. -/
def endingFetchSpec : ChangeSpec := { name := "endingFetch", fn := fun _ => fun
  | [d] => { results := [.lit (.bool true)], args := [d] }
  | _ => none }
def endingFetchRow : OpenClaim := { program := "ytepffabkcbfejaa", sum := "b77b1e4132c7829f8adfc2ac1020101d71d56d320b06916e85c6959e7ac5479f", func := "storagebarter/storagebarterlaw26.EndingFetch", spec := "endingFetch", unfollowed := true, recurses := true, apart := false }
def EndingFetchSaid : Prop := endingFetchRow.holds Try.pinned (OpenSpec.ofChange endingFetchSpec)

/-- ITS FALSE NEIGHBOUR: 'it returns false'. Refute it at one input. -/
def endingFetchWrong : ChangeSpec := { name := "endingFetch", fn := fun _ => fun
  | [d] => { results := [.lit (.bool false)], args := [d] }
  | _ => none }
def EndingFetchWrongFalsely : Prop := endingFetchRow.holds Try.pinned (OpenSpec.ofChange endingFetchWrong)

/-- 'storagebarterlaw26.EndingSteps': WHATEVER THE INPUT: true; the input reads as it did. -/
def endingStepsSpec : ChangeSpec := { name := "endingSteps", fn := fun _ => fun
  | [d1, d2, d3, d4, d5, d6, d7] => { results := [.lit (.bool true)], args := [d1, d2, d3, d4, d5, d6, d7] }
  | _ => none }
def endingStepsRow : OpenClaim := { program := "ytepffabkcbfejaa", sum := "b77b1e4132c7829f8adfc2ac1020101d71d56d320b06916e85c6959e7ac5479f", func := "storagebarter/storagebarterlaw26.EndingSteps", spec := "endingSteps", unfollowed := true, recurses := true, apart := false }
def EndingStepsSaid : Prop := endingStepsRow.holds Try.pinned (OpenSpec.ofChange endingStepsSpec)

/-- ITS FALSE NEIGHBOUR: 'it returns false'. Refute it at one input. -/
def endingStepsWrong : ChangeSpec := { name := "endingSteps", fn := fun _ => fun
  | [d1, d2, d3, d4, d5, d6, d7] => { results := [.lit (.bool false)], args := [d1, d2, d3, d4, d5, d6, d7] }
  | _ => none }
def EndingStepsWrongFalsely : Prop := endingStepsRow.holds Try.pinned (OpenSpec.ofChange endingStepsWrong)

/-- 'storagebarterlaw04.ChunkWeight': WHATEVER THE INPUT: true; the input reads as it did. -/
def chunkWeightSpec : ChangeSpec := { name := "chunkWeight", fn := fun _ => fun
  | [d] => { results := [.lit (.bool true)], args := [d] }
  | _ => none }
def chunkWeightRow : OpenClaim := { program := "ytepffabkcbfejaa", sum := "b77b1e4132c7829f8adfc2ac1020101d71d56d320b06916e85c6959e7ac5479f", func := "storagebarter/storagebarterlaw04.ChunkWeight", spec := "chunkWeight", apart := false }
def ChunkWeightSaid : Prop := chunkWeightRow.holds Try.pinned (OpenSpec.ofChange chunkWeightSpec)

/-- ITS FALSE NEIGHBOUR: 'it returns false'. Refute it at one input. -/
def chunkWeightWrong : ChangeSpec := { name := "chunkWeight", fn := fun _ => fun
  | [d] => { results := [.lit (.bool false)], args := [d] }
  | _ => none }
def ChunkWeightWrongFalsely : Prop := chunkWeightRow.holds Try.pinned (OpenSpec.ofChange chunkWeightWrong)

/-- 'storagebarterlaw04.ChunkFixed': WHATEVER THE INPUT: true; the input reads as it did. -/
def chunkFixedSpec : ChangeSpec := { name := "chunkFixed", fn := fun _ => fun
  | [d1, d2, d3, d4] => { results := [.lit (.bool true)], args := [d1, d2, d3, d4] }
  | _ => none }
def chunkFixedRow : OpenClaim := { program := "ytepffabkcbfejaa", sum := "b77b1e4132c7829f8adfc2ac1020101d71d56d320b06916e85c6959e7ac5479f", func := "storagebarter/storagebarterlaw04.ChunkFixed", spec := "chunkFixed", apart := false }
def ChunkFixedSaid : Prop := chunkFixedRow.holds Try.pinned (OpenSpec.ofChange chunkFixedSpec)

/-- ITS FALSE NEIGHBOUR: 'it returns false'. Refute it at one input. -/
def chunkFixedWrong : ChangeSpec := { name := "chunkFixed", fn := fun _ => fun
  | [d1, d2, d3, d4] => { results := [.lit (.bool false)], args := [d1, d2, d3, d4] }
  | _ => none }
def ChunkFixedWrongFalsely : Prop := chunkFixedRow.holds Try.pinned (OpenSpec.ofChange chunkFixedWrong)

/-- 'storagebarterlaw04.ChunkJoins': WHATEVER THE INPUT: true; the input reads as it did. -/
def chunkJoinsSpec : ChangeSpec := { name := "chunkJoins", fn := fun _ => fun
  | [d1, d2, d3] => { results := [.lit (.bool true)], args := [d1, d2, d3] }
  | _ => none }
def chunkJoinsRow : OpenClaim := { program := "ytepffabkcbfejaa", sum := "b77b1e4132c7829f8adfc2ac1020101d71d56d320b06916e85c6959e7ac5479f", func := "storagebarter/storagebarterlaw04.ChunkJoins", spec := "chunkJoins", apart := false }
def ChunkJoinsSaid : Prop := chunkJoinsRow.holds Try.pinned (OpenSpec.ofChange chunkJoinsSpec)

/-- ITS FALSE NEIGHBOUR: 'it returns false'. Refute it at one input. -/
def chunkJoinsWrong : ChangeSpec := { name := "chunkJoins", fn := fun _ => fun
  | [d1, d2, d3] => { results := [.lit (.bool false)], args := [d1, d2, d3] }
  | _ => none }
def ChunkJoinsWrongFalsely : Prop := chunkJoinsRow.holds Try.pinned (OpenSpec.ofChange chunkJoinsWrong)

/-- 'storagebarterlaw04.ChunkBack': WHATEVER THE INPUT: true; the input reads as it did. -/
def chunkBackSpec : ChangeSpec := { name := "chunkBack", fn := fun _ => fun
  | [d] => { results := [.lit (.bool true)], args := [d] }
  | _ => none }
def chunkBackRow : OpenClaim := { program := "ytepffabkcbfejaa", sum := "b77b1e4132c7829f8adfc2ac1020101d71d56d320b06916e85c6959e7ac5479f", func := "storagebarter/storagebarterlaw04.ChunkBack", spec := "chunkBack", apart := false }
def ChunkBackSaid : Prop := chunkBackRow.holds Try.pinned (OpenSpec.ofChange chunkBackSpec)

/-- ITS FALSE NEIGHBOUR: 'it returns false'. Refute it at one input. -/
def chunkBackWrong : ChangeSpec := { name := "chunkBack", fn := fun _ => fun
  | [d] => { results := [.lit (.bool false)], args := [d] }
  | _ => none }
def ChunkBackWrongFalsely : Prop := chunkBackRow.holds Try.pinned (OpenSpec.ofChange chunkBackWrong)

/-- 'storagebarterlaw04.ChunkRest': WHATEVER THE INPUT: true; the input reads as it did. -/
def chunkRestSpec : ChangeSpec := { name := "chunkRest", fn := fun _ => fun
  | [d1, d2, d3] => { results := [.lit (.bool true)], args := [d1, d2, d3] }
  | _ => none }
def chunkRestRow : OpenClaim := { program := "ytepffabkcbfejaa", sum := "b77b1e4132c7829f8adfc2ac1020101d71d56d320b06916e85c6959e7ac5479f", func := "storagebarter/storagebarterlaw04.ChunkRest", spec := "chunkRest", apart := false }
def ChunkRestSaid : Prop := chunkRestRow.holds Try.pinned (OpenSpec.ofChange chunkRestSpec)

/-- ITS FALSE NEIGHBOUR: 'it returns false'. Refute it at one input. -/
def chunkRestWrong : ChangeSpec := { name := "chunkRest", fn := fun _ => fun
  | [d1, d2, d3] => { results := [.lit (.bool false)], args := [d1, d2, d3] }
  | _ => none }
def ChunkRestWrongFalsely : Prop := chunkRestRow.holds Try.pinned (OpenSpec.ofChange chunkRestWrong)

/-- 'storagebarterlaw04.ChunkCuts': WHATEVER THE INPUT: true; the input reads as it did. -/
def chunkCutsSpec : ChangeSpec := { name := "chunkCuts", fn := fun _ => fun
  | [d1, d2, d3, d4, d5] => { results := [.lit (.bool true)], args := [d1, d2, d3, d4, d5] }
  | _ => none }
def chunkCutsRow : OpenClaim := { program := "ytepffabkcbfejaa", sum := "b77b1e4132c7829f8adfc2ac1020101d71d56d320b06916e85c6959e7ac5479f", func := "storagebarter/storagebarterlaw04.ChunkCuts", spec := "chunkCuts", apart := false }
def ChunkCutsSaid : Prop := chunkCutsRow.holds Try.pinned (OpenSpec.ofChange chunkCutsSpec)

/-- ITS FALSE NEIGHBOUR: 'it returns false'. Refute it at one input. -/
def chunkCutsWrong : ChangeSpec := { name := "chunkCuts", fn := fun _ => fun
  | [d1, d2, d3, d4, d5] => { results := [.lit (.bool false)], args := [d1, d2, d3, d4, d5] }
  | _ => none }
def ChunkCutsWrongFalsely : Prop := chunkCutsRow.holds Try.pinned (OpenSpec.ofChange chunkCutsWrong)

/-- 'storagebarterlaw04.ChunkShares': WHATEVER THE INPUT: true; the input reads as it did. -/
def chunkSharesSpec : ChangeSpec := { name := "chunkShares", fn := fun _ => fun
  | [d1, d2] => { results := [.lit (.bool true)], args := [d1, d2] }
  | _ => none }
def chunkSharesRow : OpenClaim := { program := "ytepffabkcbfejaa", sum := "b77b1e4132c7829f8adfc2ac1020101d71d56d320b06916e85c6959e7ac5479f", func := "storagebarter/storagebarterlaw04.ChunkShares", spec := "chunkShares", apart := false }
def ChunkSharesSaid : Prop := chunkSharesRow.holds Try.pinned (OpenSpec.ofChange chunkSharesSpec)

/-- ITS FALSE NEIGHBOUR: 'it returns false'. Refute it at one input. -/
def chunkSharesWrong : ChangeSpec := { name := "chunkShares", fn := fun _ => fun
  | [d1, d2] => { results := [.lit (.bool false)], args := [d1, d2] }
  | _ => none }
def ChunkSharesWrongFalsely : Prop := chunkSharesRow.holds Try.pinned (OpenSpec.ofChange chunkSharesWrong)

/- THE SECOND FORM. 'bulk': how many values and letters a reading holds, each counted each time it is reached (what is shared counts as often as it is met; a slice's spare places count too). A statement '..UptoSaid' is the law's where the arguments, and the package variables that the reading takes, are together of bulk at most 1048576: NARROWER than '..Said'. Prove '..Said' where nothing that the law and all that it calls make is longer than what came in: it says more and counts as full. Else prove '..UptoSaid'. A law counts once. -/
mutual
def uptoBulk {H : Type} : DataW H → Nat
  | .lit (.string bytes) => bytes.length + 1
  | .lit _ => 1
  | .nil => 1
  | .ptr d => uptoBulk d + 1
  | .slice elems spare => uptoBulkAll elems + uptoBulkAll spare + 1
  | .agg parts => uptoBulkAll parts + 1
  | .iface _ d => uptoBulk d + 1
  | .map entries => uptoBulkEntries entries + 1
  | .held _ => 1
def uptoBulkAll {H : Type} : List (DataW H) → Nat
  | [] => 0
  | d :: r => uptoBulk d + uptoBulkAll r
def uptoBulkEntries {H : Type} : List (Lit × DataW H) → Nat
  | [] => 0
  | x :: r => uptoBulkEntry x + uptoBulkEntries r
def uptoBulkEntry {H : Type} : Lit × DataW H → Nat
  | (.string bytes, d) => bytes.length + uptoBulk d + 1
  | (_, d) => uptoBulk d + 1
 end
def uptoSmall : (H : Type) → List (DataW H) → Bool := fun _ ds => decide (uptoBulkAll ds ≤ 1048576)
def OpenSpec.upto (s : _root_.Go.ChangeSpec) : _root_.Go.OpenSpec := { _root_.Go.OpenSpec.ofChange s with cond := some uptoSmall }

/-- 'storagebarterlaw26.EndingCommutes', WHERE WHAT IT READS IS OF BULK AT MOST 1048576: true; the input reads as it did. -/
def endingCommutesUptoRow : OpenClaim := { program := "ytepffabkcbfejaa", sum := "b77b1e4132c7829f8adfc2ac1020101d71d56d320b06916e85c6959e7ac5479f", func := "storagebarter/storagebarterlaw26.EndingCommutes", spec := "endingCommutes", unfollowed := true, recurses := true, apart := false, narrowed := true }
def EndingCommutesUptoSaid : Prop := endingCommutesUptoRow.holds Try.pinned (OpenSpec.upto endingCommutesSpec)

/-- 'storagebarterlaw26.EndingRoom', WHERE WHAT IT READS IS OF BULK AT MOST 1048576: true; the input reads as it did. -/
def endingRoomUptoRow : OpenClaim := { program := "ytepffabkcbfejaa", sum := "b77b1e4132c7829f8adfc2ac1020101d71d56d320b06916e85c6959e7ac5479f", func := "storagebarter/storagebarterlaw26.EndingRoom", spec := "endingRoom", unfollowed := true, recurses := true, apart := false, narrowed := true }
def EndingRoomUptoSaid : Prop := endingRoomUptoRow.holds Try.pinned (OpenSpec.upto endingRoomSpec)

/-- 'storagebarterlaw26.EndingAll', WHERE WHAT IT READS IS OF BULK AT MOST 1048576: true; the input reads as it did. -/
def endingAllUptoRow : OpenClaim := { program := "ytepffabkcbfejaa", sum := "b77b1e4132c7829f8adfc2ac1020101d71d56d320b06916e85c6959e7ac5479f", func := "storagebarter/storagebarterlaw26.EndingAll", spec := "endingAll", unfollowed := true, recurses := true, apart := false, narrowed := true }
def EndingAllUptoSaid : Prop := endingAllUptoRow.holds Try.pinned (OpenSpec.upto endingAllSpec)

/-- 'storagebarterlaw26.EndingFetch', WHERE WHAT IT READS IS OF BULK AT MOST 1048576: true; the input reads as it did. -/
def endingFetchUptoRow : OpenClaim := { program := "ytepffabkcbfejaa", sum := "b77b1e4132c7829f8adfc2ac1020101d71d56d320b06916e85c6959e7ac5479f", func := "storagebarter/storagebarterlaw26.EndingFetch", spec := "endingFetch", unfollowed := true, recurses := true, apart := false, narrowed := true }
def EndingFetchUptoSaid : Prop := endingFetchUptoRow.holds Try.pinned (OpenSpec.upto endingFetchSpec)

/-- 'storagebarterlaw26.EndingSteps', WHERE WHAT IT READS IS OF BULK AT MOST 1048576: true; the input reads as it did. -/
def endingStepsUptoRow : OpenClaim := { program := "ytepffabkcbfejaa", sum := "b77b1e4132c7829f8adfc2ac1020101d71d56d320b06916e85c6959e7ac5479f", func := "storagebarter/storagebarterlaw26.EndingSteps", spec := "endingSteps", unfollowed := true, recurses := true, apart := false, narrowed := true }
def EndingStepsUptoSaid : Prop := endingStepsUptoRow.holds Try.pinned (OpenSpec.upto endingStepsSpec)

/-- 'storagebarterlaw04.ChunkWeight', WHERE WHAT IT READS IS OF BULK AT MOST 1048576: true; the input reads as it did. -/
def chunkWeightUptoRow : OpenClaim := { program := "ytepffabkcbfejaa", sum := "b77b1e4132c7829f8adfc2ac1020101d71d56d320b06916e85c6959e7ac5479f", func := "storagebarter/storagebarterlaw04.ChunkWeight", spec := "chunkWeight", apart := false, narrowed := true }
def ChunkWeightUptoSaid : Prop := chunkWeightUptoRow.holds Try.pinned (OpenSpec.upto chunkWeightSpec)

/-- 'storagebarterlaw04.ChunkFixed', WHERE WHAT IT READS IS OF BULK AT MOST 1048576: true; the input reads as it did. -/
def chunkFixedUptoRow : OpenClaim := { program := "ytepffabkcbfejaa", sum := "b77b1e4132c7829f8adfc2ac1020101d71d56d320b06916e85c6959e7ac5479f", func := "storagebarter/storagebarterlaw04.ChunkFixed", spec := "chunkFixed", apart := false, narrowed := true }
def ChunkFixedUptoSaid : Prop := chunkFixedUptoRow.holds Try.pinned (OpenSpec.upto chunkFixedSpec)

/-- 'storagebarterlaw04.ChunkJoins', WHERE WHAT IT READS IS OF BULK AT MOST 1048576: true; the input reads as it did. -/
def chunkJoinsUptoRow : OpenClaim := { program := "ytepffabkcbfejaa", sum := "b77b1e4132c7829f8adfc2ac1020101d71d56d320b06916e85c6959e7ac5479f", func := "storagebarter/storagebarterlaw04.ChunkJoins", spec := "chunkJoins", apart := false, narrowed := true }
def ChunkJoinsUptoSaid : Prop := chunkJoinsUptoRow.holds Try.pinned (OpenSpec.upto chunkJoinsSpec)

/-- 'storagebarterlaw04.ChunkBack', WHERE WHAT IT READS IS OF BULK AT MOST 1048576: true; the input reads as it did. -/
def chunkBackUptoRow : OpenClaim := { program := "ytepffabkcbfejaa", sum := "b77b1e4132c7829f8adfc2ac1020101d71d56d320b06916e85c6959e7ac5479f", func := "storagebarter/storagebarterlaw04.ChunkBack", spec := "chunkBack", apart := false, narrowed := true }
def ChunkBackUptoSaid : Prop := chunkBackUptoRow.holds Try.pinned (OpenSpec.upto chunkBackSpec)

/-- 'storagebarterlaw04.ChunkRest', WHERE WHAT IT READS IS OF BULK AT MOST 1048576: true; the input reads as it did. -/
def chunkRestUptoRow : OpenClaim := { program := "ytepffabkcbfejaa", sum := "b77b1e4132c7829f8adfc2ac1020101d71d56d320b06916e85c6959e7ac5479f", func := "storagebarter/storagebarterlaw04.ChunkRest", spec := "chunkRest", apart := false, narrowed := true }
def ChunkRestUptoSaid : Prop := chunkRestUptoRow.holds Try.pinned (OpenSpec.upto chunkRestSpec)

/-- 'storagebarterlaw04.ChunkCuts', WHERE WHAT IT READS IS OF BULK AT MOST 1048576: true; the input reads as it did. -/
def chunkCutsUptoRow : OpenClaim := { program := "ytepffabkcbfejaa", sum := "b77b1e4132c7829f8adfc2ac1020101d71d56d320b06916e85c6959e7ac5479f", func := "storagebarter/storagebarterlaw04.ChunkCuts", spec := "chunkCuts", apart := false, narrowed := true }
def ChunkCutsUptoSaid : Prop := chunkCutsUptoRow.holds Try.pinned (OpenSpec.upto chunkCutsSpec)

/-- 'storagebarterlaw04.ChunkShares', WHERE WHAT IT READS IS OF BULK AT MOST 1048576: true; the input reads as it did. -/
def chunkSharesUptoRow : OpenClaim := { program := "ytepffabkcbfejaa", sum := "b77b1e4132c7829f8adfc2ac1020101d71d56d320b06916e85c6959e7ac5479f", func := "storagebarter/storagebarterlaw04.ChunkShares", spec := "chunkShares", apart := false, narrowed := true }
def ChunkSharesUptoSaid : Prop := chunkSharesUptoRow.holds Try.pinned (OpenSpec.upto chunkSharesSpec)

end Rows
end Go.Proofs.Ytepffabkcbfejaa
