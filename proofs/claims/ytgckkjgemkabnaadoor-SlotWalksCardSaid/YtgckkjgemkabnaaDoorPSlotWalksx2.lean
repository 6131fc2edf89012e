-- Written by a program of this repository (wip/tools/myprint.py over the print of the kit): contracts and rows.
import Derived.Test.YtgckkjgemkabnaaDoorPSlotWalksx0
namespace Go.Proofs.YtgckkjgemkabnaaDoor.PSlotWalks
open Go.RowKit Go.Proofs.YtgckkjgemkabnaaDoorW.PrintWords Go.Proofs.YtgckkjgemkabnaaDoorW.PrintLast Go.Proofs.YtgckkjgemkabnaaDoorW.PrintMore
attribute [local go_sem] max2_int min2_int max_two min_two max_three min_three max_four min_four   -- for this text's walks alone
set_option linter.unusedVariables false
set_option linter.unusedSimpArgs false

set_option maxHeartbeats 4000000 in
theorem eqA52 (d : Nat) (w : World) (x0 y0 : Bool) (x1 y1 : Bool) :
    (Op.equalIn (d + 2) 52 (.agg #[.bool x0, .bool x1]) (.agg #[.bool y0, .bool y1])).run Tryd.prog w = .ok (x0 == y0 && (x1 == y1)) w := by
  have hi0 : (Tryd.prog.info? 4).map (·.size) = some 1 := by kernel_rfl
  obtain ⟨i0, hi0, hs0⟩ := Option.map_eq_some_iff.mp hi0
  have hr : List.range' 0 2 = [0, 1] := rfl
  have hp0 : ∀ (a b : Value), (part 4 #[a, b] 0).run Tryd.prog w = .ok a w := fun a b => by simp [part, isAgg, run_underlying Tryd.underlying4, go_sem]
  have hp1 : ∀ (a b : Value), (part 4 #[a, b] 1).run Tryd.prog w = .ok b w := fun a b => by simp [part, isAgg, run_underlying Tryd.underlying4, go_sem]
  have he : ∀ a b : Bool, (Op.equalIn (d + 1) 4 (.bool a) (.bool b)).run Tryd.prog w = .ok (a == b) w := fun a b => by
    simp [Op.equalIn, run_underlying Tryd.underlying4, go_sem]
  rw [Op.equalIn]
  cases h0 : x0 == y0
  · simp [run_underlying Tryd.underlying52, sizeOf, typeInfo, hi0, hs0, go_sem, hr, List.forIn_cons, List.forIn_nil, hp0, hp1, he, h0]
  · cases h1 : x1 == y1
    · simp [run_underlying Tryd.underlying52, sizeOf, typeInfo, hi0, hs0, go_sem, hr, List.forIn_cons, List.forIn_nil, hp0, hp1, he, h0, h1]
    · simp [run_underlying Tryd.underlying52, sizeOf, typeInfo, hi0, hs0, go_sem, hr, List.forIn_cons, List.forIn_nil, hp0, hp1, he, h0, h1]
end Go.Proofs.YtgckkjgemkabnaaDoor.PSlotWalks
