/- The law EndingAll answers true for every input: no lease is lost or made by an ending, and nothing is left between a culprit and anybody but what may be fetched from it. -/
import Derived.Test.YtepffabkcbfejaaPEndingAllx5
namespace Go.Proofs.Ytepffabkcbfejaa.Pure
open Go.RowKit Go.Proofs.Ytepffabkcbfejaa.PEndingAll Go.Proofs.YtepffabkcbfejaaW.PrintWords Go.Proofs.YtepffabkcbfejaaW.PrintLast

theorem EndingAll : storagebarterlaw26_EndingAll.Pure := fun _ _ _ _ => if_pos trivial

end Go.Proofs.Ytepffabkcbfejaa.Pure
