/- The law SlotFollows answers true for every input: what its printed functions compute, in plain Lean. -/
import Derived.Test.YtgckkjgemkabnaaDoorPSlotFollowsx10
import Derived.Test.YtgckkjgemkabnaaDoorPureSlotFollowsB
import Derived.Test.YtgckkjgemkabnaaDoorPureSlotFollowsC
set_option linter.unusedVariables false
set_option linter.unusedSimpArgs false
set_option maxRecDepth 100000
namespace Go.Proofs.YtgckkjgemkabnaaDoor.Pure
open Go.RowKit Go.Proofs.YtgckkjgemkabnaaDoor.PSlotFollows Go.Proofs.YtgckkjgemkabnaaDoorW.PrintWords Go.Proofs.YtgckkjgemkabnaaDoorW.PrintMore Go.Proofs.YtgckkjgemkabnaaDoorW.PrintLast

theorem chk_all {a b : Int} (ha0 : 1 ≤ a) (ha1 : a ≤ 4) (hb0 : 1 ≤ b) (hb1 : b ≤ 4) (hab : a ≠ b) : (arrs a b).all chk = true := by
  rcases (show a = 1 ∨ a = 2 ∨ a = 3 ∨ a = 4 by omega) with rfl | rfl | rfl | rfl <;> rcases (show b = 1 ∨ b = 2 ∨ b = 3 ∨ b = 4 by omega) with rfl | rfl | rfl | rfl <;> first | exact absurd rfl hab | with_reducible exact chk_12 | with_reducible exact chk_13 | with_reducible exact chk_14 | with_reducible exact chk_21 | with_reducible exact chk_23 | with_reducible exact chk_24 | with_reducible exact chk_31 | with_reducible exact chk_32 | with_reducible exact chk_34 | with_reducible exact chk_41 | with_reducible exact chk_42 | with_reducible exact chk_43
theorem chk_at {a b st te : Int} {cs : List Int} (ha0 : 1 ≤ a) (ha1 : a ≤ 4) (hb0 : 1 ≤ b) (hb1 : b ≤ 4) (hab : a ≠ b) (h0 : 0 ≤ st) (h1 : st ≤ 2) (h2 : 1 ≤ te) (h3 : te ≤ 3) (hc : checksOK st te cs) : chk (a, b, st, te, cs) = true :=
  List.all_eq_true.1 (chk_all ha0 ha1 hb0 hb1 hab) _ (mem_arrs h0 h1 h2 h3 hc)
theorem SlotFollows : storagebarterlaw29_SlotFollows.Pure := by
  intro l _ _ hw
  obtain ⟨s, hs, sd⟩ := new_ok hw
  obtain ⟨k, a, b, st, te, cs, q, ea, ha0, ha1, hb0, hb1, hab, hs0, hs1, ht0, ht1, hc, hl, q0, q1⟩ := arr_ok sd (p := 0) (Int.le_refl 0) (by omega) (n := 4) (by omega) (by omega)
  have hk := chk_at ha0 ha1 hb0 hb1 hab hs0 hs1 ht0 ht1 hc
  have ht : tailF 200 (a, b, st, te, cs, q) = some true := eq_of_beq hk
  refine ⟨200 + k, ?_⟩
  have hK := at_rounds (tail_mono (a, b, st, te, cs, q)) (show 200 ≤ 200 + k by omega) ht
  unfold storagebarterlaw29_SlotFollows.f
  simp only [storagebarterlaw29_sane.f, Option.bind_some, if_true]
  rw [hs]
  simp only [Option.bind_some]
  rw [at_rounds (storagebarterplay_Dice_Arrangement.mono _ _ _) (show k ≤ 200 + k by omega) ea]
  simp only [Option.bind_some]
  exact hK
end Go.Proofs.YtgckkjgemkabnaaDoor.Pure
