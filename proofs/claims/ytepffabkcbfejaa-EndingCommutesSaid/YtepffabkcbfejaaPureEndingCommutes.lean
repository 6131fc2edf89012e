/- The law EndingCommutes answers true for every input: a text of seeds of any length within the reach, and any tick. -/
import Derived.Test.YtepffabkcbfejaaPEndingCommutesx3
namespace Go.Proofs.Ytepffabkcbfejaa.Pure
open Go.RowKit Go.Proofs.Ytepffabkcbfejaa.PEndingCommutes Go.Proofs.YtepffabkcbfejaaW.PrintWords Go.Proofs.YtepffabkcbfejaaW.PrintLast

theorem EndingCommutes : storagebarterlaw26_EndingCommutes.Pure := by
  intro l0 a1 _ _ _ h
  have h : (0 : Int) ≤ a1 ∧ a1 ≤ 255 := by simp [Lit.wf, IntKind.min, IntKind.max, IntKind.signed, IntKind.bits] at h; omega
  exact if_pos h

end Go.Proofs.Ytepffabkcbfejaa.Pure
