/-
  No cell of these rows narrows 'for every input' (looked for: loops, veiled, ifaces, maps, wideKeys, modest, calm, conditions, laid).
  DERIVED. THE GIVEN ROWS OF THIS SEAT. 4 by the template 'for every input the law returns true; each argument reads behind the call as it read before'; 0 by the template 'total and deterministic' (their statements: YtknpkoddchphkaaTotals.lean).
  GIVEN WITH THE SEED: the statements are not yours to turn. If you find one false, say at which input.
  Laid BY PROGRAM, IN A SANDBOX (cutbox-rows.mjs): the forced cells as the released guide's own fill.sh prints them over the translation 5714b80bfc27ee2f… (all of the seat's roots in one cut). By AI agents, Wed Nov 11 2026. No macro, syntax, notation, axiom, sorry.
-/
import Derived.Test.YtknpkoddchphkaaChecked
import GoSem.Claim
import GoSem.ClaimJoined
import GoSem.ClaimMapViews
import Derived.JoinedTies
import Derived.KernelRfl
namespace Go.Proofs.Ytknpkoddchphkaa
/- THE CELL 'sum', in the pinned program and in every row, IS THE sha256 OF THE DUMP (.gsa) THAT YtknpkoddchphkaaProg.lean LOADS. Nothing in Lean hashes anything: it is a label: what it is worth is what the hold of that sum in a sandbox is worth. -/
noncomputable def Try.pinned : Pinned := { name := "ytknpkoddchphkaa", sum := "5714b80bfc27ee2f80f63a57e440a14d0753928bd176ce30898c85ea9b9d0b51", checked := Try.checked }
namespace Rows
def none {H : Type} : Left H := { results := [], args := [] }

/-- 'storagebarterlaw40.MaintainBounds': WHATEVER THE INPUT: true; the input reads as it did. -/
def maintainBoundsSpec : ChangeSpec := { name := "maintainBounds", fn := fun _ => fun
  | [d1, d2] => { results := [.lit (.bool true)], args := [d1, d2] }
  | _ => none }
def maintainBoundsRow : OpenClaim := { program := "ytknpkoddchphkaa", sum := "5714b80bfc27ee2f80f63a57e440a14d0753928bd176ce30898c85ea9b9d0b51", func := "storagebarter/storagebarterlaw40.MaintainBounds", spec := "maintainBounds", plainKeys := false, apart := false }
def MaintainBoundsSaid : Prop := maintainBoundsRow.holds Try.pinned (OpenSpec.ofChange maintainBoundsSpec)

/-- ITS FALSE NEIGHBOUR: 'it returns false'. Refute it at one input. -/
def maintainBoundsWrong : ChangeSpec := { name := "maintainBounds", fn := fun _ => fun
  | [d1, d2] => { results := [.lit (.bool false)], args := [d1, d2] }
  | _ => none }
def MaintainBoundsWrongFalsely : Prop := maintainBoundsRow.holds Try.pinned (OpenSpec.ofChange maintainBoundsWrong)

/-- 'storagebarterlaw40.MaintainOrder': WHATEVER THE INPUT: true; the input reads as it did. -/
def maintainOrderSpec : ChangeSpec := { name := "maintainOrder", fn := fun _ => fun
  | [d] => { results := [.lit (.bool true)], args := [d] }
  | _ => none }
def maintainOrderRow : OpenClaim := { program := "ytknpkoddchphkaa", sum := "5714b80bfc27ee2f80f63a57e440a14d0753928bd176ce30898c85ea9b9d0b51", func := "storagebarter/storagebarterlaw40.MaintainOrder", spec := "maintainOrder", unfollowed := true, recurses := true, plainKeys := false, apart := false }
def MaintainOrderSaid : Prop := maintainOrderRow.holds Try.pinned (OpenSpec.ofChange maintainOrderSpec)

/-- ITS FALSE NEIGHBOUR: 'it returns false'. Refute it at one input. -/
def maintainOrderWrong : ChangeSpec := { name := "maintainOrder", fn := fun _ => fun
  | [d] => { results := [.lit (.bool false)], args := [d] }
  | _ => none }
def MaintainOrderWrongFalsely : Prop := maintainOrderRow.holds Try.pinned (OpenSpec.ofChange maintainOrderWrong)

/-- 'storagebarterlaw40.MaintainEnds': WHATEVER THE INPUT: true; the input reads as it did. -/
def maintainEndsSpec : ChangeSpec := { name := "maintainEnds", fn := fun _ => fun
  | [d] => { results := [.lit (.bool true)], args := [d] }
  | _ => none }
def maintainEndsRow : OpenClaim := { program := "ytknpkoddchphkaa", sum := "5714b80bfc27ee2f80f63a57e440a14d0753928bd176ce30898c85ea9b9d0b51", func := "storagebarter/storagebarterlaw40.MaintainEnds", spec := "maintainEnds", unfollowed := true, recurses := true, plainKeys := false, apart := false }
def MaintainEndsSaid : Prop := maintainEndsRow.holds Try.pinned (OpenSpec.ofChange maintainEndsSpec)

/-- ITS FALSE NEIGHBOUR: 'it returns false'. Refute it at one input. -/
def maintainEndsWrong : ChangeSpec := { name := "maintainEnds", fn := fun _ => fun
  | [d] => { results := [.lit (.bool false)], args := [d] }
  | _ => none }
def MaintainEndsWrongFalsely : Prop := maintainEndsRow.holds Try.pinned (OpenSpec.ofChange maintainEndsWrong)

/-- 'storagebarterlaw40.MaintainUrgent': WHATEVER THE INPUT: true; the input reads as it did. -/
def maintainUrgentSpec : ChangeSpec := { name := "maintainUrgent", fn := fun _ => fun
  | [d] => { results := [.lit (.bool true)], args := [d] }
  | _ => none }
def maintainUrgentRow : OpenClaim := { program := "ytknpkoddchphkaa", sum := "5714b80bfc27ee2f80f63a57e440a14d0753928bd176ce30898c85ea9b9d0b51", func := "storagebarter/storagebarterlaw40.MaintainUrgent", spec := "maintainUrgent", unfollowed := true, recurses := true, plainKeys := false, apart := false }
def MaintainUrgentSaid : Prop := maintainUrgentRow.holds Try.pinned (OpenSpec.ofChange maintainUrgentSpec)

/-- ITS FALSE NEIGHBOUR: 'it returns false'. Refute it at one input. -/
def maintainUrgentWrong : ChangeSpec := { name := "maintainUrgent", fn := fun _ => fun
  | [d] => { results := [.lit (.bool false)], args := [d] }
  | _ => none }
def MaintainUrgentWrongFalsely : Prop := maintainUrgentRow.holds Try.pinned (OpenSpec.ofChange maintainUrgentWrong)

/- THE SECOND FORM. 'bulk': how many values and letters a reading holds, each counted each time it is reached (what is shared counts as often as it is met; a slice's spare places count too). A statement '..UptoSaid' is the law's where the arguments, and the package variables that the reading takes, are together of bulk at most 1048576: NARROWER than '..Said'. Prove '..Said' where nothing that the law and all that it calls make is longer than what came in: it says more and counts as full. Else prove '..UptoSaid'. A law counts once. -/
mutual
def uptoBulk {H : Type} : DataW H → Nat
  | .lit (.string bytes) => bytes.length + 1
  | .lit _ => 1
  | .nil => 1
  | .ptr d => uptoBulk d + 1
  | .slice elems spare => uptoBulkAll elems + uptoBulkAll spare + 1
  | .agg parts => uptoBulkAll parts + 1
  | .iface _ d => uptoBulk d + 1
  | .map entries => uptoBulkEntries entries + 1
  | .held _ => 1
def uptoBulkAll {H : Type} : List (DataW H) → Nat
  | [] => 0
  | d :: r => uptoBulk d + uptoBulkAll r
def uptoBulkEntries {H : Type} : List (Lit × DataW H) → Nat
  | [] => 0
  | x :: r => uptoBulkEntry x + uptoBulkEntries r
def uptoBulkEntry {H : Type} : Lit × DataW H → Nat
  | (.string bytes, d) => bytes.length + uptoBulk d + 1
  | (_, d) => uptoBulk d + 1
 end
def uptoSmall : (H : Type) → List (DataW H) → Bool := fun _ ds => decide (uptoBulkAll ds ≤ 1048576)
def OpenSpec.upto (s : _root_.Go.ChangeSpec) : _root_.Go.OpenSpec := { _root_.Go.OpenSpec.ofChange s with cond := some uptoSmall }

/-- 'storagebarterlaw40.MaintainBounds', WHERE WHAT IT READS IS OF BULK AT MOST 1048576: true; the input reads as it did. -/
def maintainBoundsUptoRow : OpenClaim := { program := "ytknpkoddchphkaa", sum := "5714b80bfc27ee2f80f63a57e440a14d0753928bd176ce30898c85ea9b9d0b51", func := "storagebarter/storagebarterlaw40.MaintainBounds", spec := "maintainBounds", plainKeys := false, apart := false, narrowed := true }
def MaintainBoundsUptoSaid : Prop := maintainBoundsUptoRow.holds Try.pinned (OpenSpec.upto maintainBoundsSpec)

/-- 'storagebarterlaw40.MaintainOrder', WHERE WHAT IT READS IS OF BULK AT MOST 1048576: true; the input reads as it did. -/
def maintainOrderUptoRow : OpenClaim := { program := "ytknpkoddchphkaa", sum := "5714b80bfc27ee2f80f63a57e440a14d0753928bd176ce30898c85ea9b9d0b51", func := "storagebarter/storagebarterlaw40.MaintainOrder", spec := "maintainOrder", unfollowed := true, recurses := true, plainKeys := false, apart := false, narrowed := true }
def MaintainOrderUptoSaid : Prop := maintainOrderUptoRow.holds Try.pinned (OpenSpec.upto maintainOrderSpec)

/-- 'storagebarterlaw40.MaintainEnds', WHERE WHAT IT READS IS OF BULK AT MOST 1048576: true; the input reads as it did. -/
def maintainEndsUptoRow : OpenClaim := { program := "ytknpkoddchphkaa", sum := "5714b80bfc27ee2f80f63a57e440a14d0753928bd176ce30898c85ea9b9d0b51", func := "storagebarter/storagebarterlaw40.MaintainEnds", spec := "maintainEnds", unfollowed := true, recurses := true, plainKeys := false, apart := false, narrowed := true }
def MaintainEndsUptoSaid : Prop := maintainEndsUptoRow.holds Try.pinned (OpenSpec.upto maintainEndsSpec)

/-- 'storagebarterlaw40.MaintainUrgent', WHERE WHAT IT READS IS OF BULK AT MOST 1048576: true; the input reads as it did. -/
def maintainUrgentUptoRow : OpenClaim := { program := "ytknpkoddchphkaa", sum := "5714b80bfc27ee2f80f63a57e440a14d0753928bd176ce30898c85ea9b9d0b51", func := "storagebarter/storagebarterlaw40.MaintainUrgent", spec := "maintainUrgent", unfollowed := true, recurses := true, plainKeys := false, apart := false, narrowed := true }
def MaintainUrgentUptoSaid : Prop := maintainUrgentUptoRow.holds Try.pinned (OpenSpec.upto maintainUrgentSpec)

end Rows
end Go.Proofs.Ytknpkoddchphkaa
