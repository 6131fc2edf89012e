-- Written by a program of this repository (wip/tools/myprint.py over the print of the kit): contracts and rows.
import Derived.Test.YtgckkjgemkabnaaDoorPDutyStepsx0
import Derived.Test.YtgckkjgemkabnaaDoorPDutyStepsx2
import Derived.Test.YtgckkjgemkabnaaDoorPDutyStepsx3
import Derived.Test.YtgckkjgemkabnaaDoorPDutyStepsx4
import Derived.Test.YtgckkjgemkabnaaDoorPDutyStepsx5
import Derived.Test.YtgckkjgemkabnaaDoorPDutyStepsx6
import Derived.Test.YtgckkjgemkabnaaDoorPDutyStepsx7
import Derived.Test.YtgckkjgemkabnaaDoorPDutyStepsx8
namespace Go.Proofs.YtgckkjgemkabnaaDoor.PDutySteps
open Go.RowKit Go.Proofs.YtgckkjgemkabnaaDoorW.PrintWords Go.Proofs.YtgckkjgemkabnaaDoorW.PrintLast Go.Proofs.YtgckkjgemkabnaaDoorW.PrintMore
attribute [local go_sem] max2_int min2_int max_two min_two max_three min_three max_four min_four   -- for this text's walks alone
set_option linter.unusedVariables false
set_option linter.unusedSimpArgs false

/-! ### storagebarterlaw28_DutySteps: function 5 -/
mutual
def storagebarterlaw28_DutySteps.j0 : Nat → List Int → Int → Int → Int → List (S36) → Bool → Int → Int → Int → Int → List Int → Option (Bool)
  | 0, _, _, _, _, _, _, _, _, _, _, _ => none
  | k + 1, x0, x2, x3, x4, x5, x35, x229000, x229001, x229002, x229003, x229004 => if x35 = true then (some true) else ((storagebarterplay_New.f x0).bind fun bt230 => ((storagebarterplay_Dice_Odd.f k bt230.1 bt230.2).bind fun bt233 => ((storagebarterplay_Dice_Odd.f k bt230.1 bt233.2.2.2.2.2).bind fun bt241 => ((storagebarterplay_Dice_Arrangement.f k bt230.1 bt241.2.2.2.2.2 4).bind fun bt249 => ((some (([(⟨x229000, x229001, x229002, x229003, x229004⟩ : S26), (⟨bt233.1, bt233.2.1, bt233.2.2.1, bt233.2.2.2.1, bt233.2.2.2.2.1⟩ : S26), (⟨bt241.1, bt241.2.1, bt241.2.2.1, bt241.2.2.2.1, bt241.2.2.2.2.1⟩ : S26), (⟨bt249.1, bt249.2.1, bt249.2.2.1, bt249.2.2.2.1, bt249.2.2.2.2.1⟩ : S26)] : List (S26)) : List (S26))).bind fun y257 => (storagebarterlaw28_DutySteps.l0 k x2 x3 x4 x5 y257 (y257.length : Int) 0))))))
def storagebarterlaw28_DutySteps.l0 : Nat → Int → Int → Int → List (S36) → List (S26) → Int → Int → Option (Bool)
  | 0, _, _, _, _, _, _, _ => none
  | k + 1, x2, x3, x4, x5, x45, x46, x47 => if x47 < x46 then (if 0 ≤ x47 then (if x47 < (x45.length : Int) then ((duty_Valid.f k ((rd_T26 x45 x47).f0) ((rd_T26 x45 x47).f1) ((rd_T26 x45 x47).f2) ((rd_T26 x45 x47).f3) ((rd_T26 x45 x47).f4)).bind fun t262 => ((storagebarterref28_Valid.f k ((rd_T26 x45 x47).f0) ((rd_T26 x45 x47).f1) ((rd_T26 x45 x47).f2) ((rd_T26 x45 x47).f3) ((rd_T26 x45 x47).f4)).bind fun t263 => (if (t262 != t263) = true then (some false) else ((some (([x2, 0, 5, 6, (-1)] : List Int) : List Int)).bind fun y264 => (storagebarterlaw28_DutySteps.l1 k x2 x3 x4 x5 x45 x46 x47 y264 (y264.length : Int) 0 ((rd_T26 x45 x47).f0) ((rd_T26 x45 x47).f1) ((rd_T26 x45 x47).f2) ((rd_T26 x45 x47).f3) ((rd_T26 x45 x47).f4)))))) else (none)) else (none)) else (storagebarterlaw28_DutySteps.l3 k x3 x4 x5 (-1))
def storagebarterlaw28_DutySteps.l1 : Nat → Int → Int → Int → List (S36) → List (S26) → Int → Int → List Int → Int → Int → Int → Int → Int → Int → List Int → Option (Bool)
  | 0, _, _, _, _, _, _, _, _, _, _, _, _, _, _, _ => none
  | k + 1, x2, x3, x4, x5, x45, x46, x47, x57, x58, x59, x262000, x262001, x262002, x262003, x262004 => if x59 < x58 then (if 0 ≤ x59 then (if x59 < (x57.length : Int) then ((some (([true, false] : List Bool) : List Bool)).bind fun y268 => (storagebarterlaw28_DutySteps.l2 k x2 x3 x4 x5 (rd x57 x59) x45 x46 x47 x57 x58 x59 y268 (y268.length : Int) 0 x262000 x262001 x262002 x262003 x262004)) else (none)) else (none)) else (storagebarterlaw28_DutySteps.l0 k x2 x3 x4 x5 x45 x46 (wrap64 (x47 + 1)))
def storagebarterlaw28_DutySteps.l2 : Nat → Int → Int → Int → List (S36) → Int → List (S26) → Int → Int → List Int → Int → Int → List Bool → Int → Int → Int → Int → Int → Int → List Int → Option (Bool)
  | 0, _, _, _, _, _, _, _, _, _, _, _, _, _, _, _, _, _, _, _ => none
  | k + 1, x2, x3, x4, x5, x17, x45, x46, x47, x57, x58, x59, x63, x64, x65, x262000, x262001, x262002, x262003, x262004 => if x65 < x64 then (if 0 ≤ x65 then (if x65 < (x63.length : Int) then ((duty_Plan.f k x262000 x262001 x262002 x262003 x262004 x17 (rdOf false x63 x65)).bind fun bt272 => ((storagebarterref28_Plan.f k x262000 x262001 x262002 x262003 x262004 x17 (rdOf false x63 x65)).bind fun bt276 => (if bt272.2 = bt276.2 then ((storagebarterref28_Same.f k bt272.1 bt276.1).bind fun t280 => (if t280 = true then ((duty_Total.f k bt272.1 x262000).bind fun t281 => ((storagebarterref28_Total.f k bt276.1 x262000).bind fun t282 => (if t281 = t282 then (storagebarterlaw28_DutySteps.l2 k x2 x3 x4 x5 x17 x45 x46 x47 x57 x58 x59 x63 x64 (wrap64 (x65 + 1)) x262000 x262001 x262002 x262003 x262004) else (some false)))) else (some false))) else (some false)))) else (none)) else (none)) else (storagebarterlaw28_DutySteps.l1 k x2 x3 x4 x5 x45 x46 x47 x57 x58 (wrap64 (x59 + 1)) x262000 x262001 x262002 x262003 x262004)
def storagebarterlaw28_DutySteps.l3 : Nat → Int → Int → List (S36) → Int → Option (Bool)
  | 0, _, _, _, _ => none
  | k + 1, x3, x4, x5, x24 => if x24 < 10 then ((duty_Cost.f x24).bind fun t283 => ((storagebarterref28_Cost.f x24).bind fun t284 => (if t283 = t284 then (storagebarterlaw28_DutySteps.l3 k x3 x4 x5 (wrap64 (x24 + 1))) else (some false)))) else ((duty_Cost.f x3).bind fun t285 => ((storagebarterref28_Cost.f x3).bind fun t286 => (if t285 = t286 then ((duty_Total.f k x5 x4).bind fun t287 => ((storagebarterref28_Total.f k x5 x4).bind fun t288 => (if t287 = t288 then ((duty_Of.f k x5 x4).bind fun t289 => ((storagebarterref28_Of.f k x5 x4).bind fun t292 => ((storagebarterref28_SameInts.f k t289 t292).bind fun t295 => (some t295)))) else (some false)))) else (some false))))
end
def storagebarterlaw28_DutySteps.f (k : Nat) (l0 : List Int) (a1_0 : Int) (a1_1 : Int) (a1_2 : Int) (a1_3 : Int) (l1_4 : List Int) (a2 : Int) (a3 : Int) (a4 : Int) (l5 : List (S36)) : Option (Bool) := (storagebarterlaw28_sane.f k).bind fun t229 => (if t229 = true then (if (l1_4.length : Int) > 20 then (storagebarterlaw28_DutySteps.j0 k l0 a2 a3 a4 l5 true a1_0 a1_1 a1_2 a1_3 l1_4) else (storagebarterlaw28_DutySteps.j0 k l0 a2 a3 a4 l5 (decide ((l5.length : Int) > 20)) a1_0 a1_1 a1_2 a1_3 l1_4)) else (some false))
theorem storagebarterlaw28_DutySteps.mono_l : ∀ k, (∀ y0 y1 y2 y3 y4 y5 y6 y7 y8 y9 y10, LeO (storagebarterlaw28_DutySteps.j0 k y0 y1 y2 y3 y4 y5 y6 y7 y8 y9 y10) (storagebarterlaw28_DutySteps.j0 (k + 1) y0 y1 y2 y3 y4 y5 y6 y7 y8 y9 y10)) ∧ (∀ y0 y1 y2 y3 y4 y5 y6, LeO (storagebarterlaw28_DutySteps.l0 k y0 y1 y2 y3 y4 y5 y6) (storagebarterlaw28_DutySteps.l0 (k + 1) y0 y1 y2 y3 y4 y5 y6)) ∧ (∀ y0 y1 y2 y3 y4 y5 y6 y7 y8 y9 y10 y11 y12 y13 y14, LeO (storagebarterlaw28_DutySteps.l1 k y0 y1 y2 y3 y4 y5 y6 y7 y8 y9 y10 y11 y12 y13 y14) (storagebarterlaw28_DutySteps.l1 (k + 1) y0 y1 y2 y3 y4 y5 y6 y7 y8 y9 y10 y11 y12 y13 y14)) ∧ (∀ y0 y1 y2 y3 y4 y5 y6 y7 y8 y9 y10 y11 y12 y13 y14 y15 y16 y17 y18, LeO (storagebarterlaw28_DutySteps.l2 k y0 y1 y2 y3 y4 y5 y6 y7 y8 y9 y10 y11 y12 y13 y14 y15 y16 y17 y18) (storagebarterlaw28_DutySteps.l2 (k + 1) y0 y1 y2 y3 y4 y5 y6 y7 y8 y9 y10 y11 y12 y13 y14 y15 y16 y17 y18)) ∧ (∀ y0 y1 y2 y3, LeO (storagebarterlaw28_DutySteps.l3 k y0 y1 y2 y3) (storagebarterlaw28_DutySteps.l3 (k + 1) y0 y1 y2 y3))
  | 0 => ⟨fun _ _ _ _ _ _ _ _ _ _ _ r h => by simp [storagebarterlaw28_DutySteps.j0] at h, fun _ _ _ _ _ _ _ r h => by simp [storagebarterlaw28_DutySteps.l0] at h, fun _ _ _ _ _ _ _ _ _ _ _ _ _ _ _ r h => by simp [storagebarterlaw28_DutySteps.l1] at h, fun _ _ _ _ _ _ _ _ _ _ _ _ _ _ _ _ _ _ _ r h => by simp [storagebarterlaw28_DutySteps.l2] at h, fun _ _ _ _ r h => by simp [storagebarterlaw28_DutySteps.l3] at h⟩
  | k + 1 => by
    obtain ⟨ih0, ih1, ih2, ih3, ih4⟩ := storagebarterlaw28_DutySteps.mono_l k
    refine ⟨?_, ?_, ?_, ?_, ?_⟩
    · intro y0 y1 y2 y3 y4 y5 y6 y7 y8 y9 y10
      unfold storagebarterlaw28_DutySteps.j0
      repeat' first
      | (with_reducible exact ih0 _ _ _ _ _ _ _ _ _ _ _)
      | (with_reducible exact ih1 _ _ _ _ _ _ _)
      | (with_reducible exact ih2 _ _ _ _ _ _ _ _ _ _ _ _ _ _ _)
      | (with_reducible exact ih3 _ _ _ _ _ _ _ _ _ _ _ _ _ _ _ _ _ _ _)
      | (with_reducible exact ih4 _ _ _ _)
      | (with_reducible exact duty_Of.mono _ _ _)
      | (with_reducible exact duty_Plan.mono _ _ _ _ _ _ _ _)
      | (with_reducible exact duty_Total.mono _ _ _)
      | (with_reducible exact duty_Valid.mono _ _ _ _ _ _)
      | (with_reducible exact storagebarterlaw28_sane.mono _)
      | (with_reducible exact storagebarterplay_Dice_Arrangement.mono _ _ _ _)
      | (with_reducible exact storagebarterplay_Dice_Odd.mono _ _ _)
      | (with_reducible exact storagebarterref28_Of.mono _ _ _)
      | (with_reducible exact storagebarterref28_Plan.mono _ _ _ _ _ _ _ _)
      | (with_reducible exact storagebarterref28_Same.mono _ _ _)
      | (with_reducible exact storagebarterref28_SameInts.mono _ _ _)
      | (with_reducible exact storagebarterref28_Total.mono _ _ _)
      | (with_reducible exact storagebarterref28_Valid.mono _ _ _ _ _ _)
      | (with_reducible exact LeO.refl _)
      | (with_reducible exact LeO.none _)
      | (with_reducible refine LeO.ite ?_ ?_)
      | (with_reducible refine LeO.bind ?_ (fun _ => ?_))
      | exact ih0 _ _ _ _ _ _ _ _ _ _ _
      | exact ih1 _ _ _ _ _ _ _
      | exact ih2 _ _ _ _ _ _ _ _ _ _ _ _ _ _ _
      | exact ih3 _ _ _ _ _ _ _ _ _ _ _ _ _ _ _ _ _ _ _
      | exact ih4 _ _ _ _
      | exact duty_Of.mono _ _ _
      | exact duty_Plan.mono _ _ _ _ _ _ _ _
      | exact duty_Total.mono _ _ _
      | exact duty_Valid.mono _ _ _ _ _ _
      | exact storagebarterlaw28_sane.mono _
      | exact storagebarterplay_Dice_Arrangement.mono _ _ _ _
      | exact storagebarterplay_Dice_Odd.mono _ _ _
      | exact storagebarterref28_Of.mono _ _ _
      | exact storagebarterref28_Plan.mono _ _ _ _ _ _ _ _
      | exact storagebarterref28_Same.mono _ _ _
      | exact storagebarterref28_SameInts.mono _ _ _
      | exact storagebarterref28_Total.mono _ _ _
      | exact storagebarterref28_Valid.mono _ _ _ _ _ _
      | exact LeO.none _
      | refine LeO.ite ?_ ?_
      | refine LeO.bind ?_ (fun _ => ?_)
    · intro y0 y1 y2 y3 y4 y5 y6
      unfold storagebarterlaw28_DutySteps.l0
      repeat' first
      | (with_reducible exact ih0 _ _ _ _ _ _ _ _ _ _ _)
      | (with_reducible exact ih1 _ _ _ _ _ _ _)
      | (with_reducible exact ih2 _ _ _ _ _ _ _ _ _ _ _ _ _ _ _)
      | (with_reducible exact ih3 _ _ _ _ _ _ _ _ _ _ _ _ _ _ _ _ _ _ _)
      | (with_reducible exact ih4 _ _ _ _)
      | (with_reducible exact duty_Of.mono _ _ _)
      | (with_reducible exact duty_Plan.mono _ _ _ _ _ _ _ _)
      | (with_reducible exact duty_Total.mono _ _ _)
      | (with_reducible exact duty_Valid.mono _ _ _ _ _ _)
      | (with_reducible exact storagebarterlaw28_sane.mono _)
      | (with_reducible exact storagebarterplay_Dice_Arrangement.mono _ _ _ _)
      | (with_reducible exact storagebarterplay_Dice_Odd.mono _ _ _)
      | (with_reducible exact storagebarterref28_Of.mono _ _ _)
      | (with_reducible exact storagebarterref28_Plan.mono _ _ _ _ _ _ _ _)
      | (with_reducible exact storagebarterref28_Same.mono _ _ _)
      | (with_reducible exact storagebarterref28_SameInts.mono _ _ _)
      | (with_reducible exact storagebarterref28_Total.mono _ _ _)
      | (with_reducible exact storagebarterref28_Valid.mono _ _ _ _ _ _)
      | (with_reducible exact LeO.refl _)
      | (with_reducible exact LeO.none _)
      | (with_reducible refine LeO.ite ?_ ?_)
      | (with_reducible refine LeO.bind ?_ (fun _ => ?_))
      | exact ih0 _ _ _ _ _ _ _ _ _ _ _
      | exact ih1 _ _ _ _ _ _ _
      | exact ih2 _ _ _ _ _ _ _ _ _ _ _ _ _ _ _
      | exact ih3 _ _ _ _ _ _ _ _ _ _ _ _ _ _ _ _ _ _ _
      | exact ih4 _ _ _ _
      | exact duty_Of.mono _ _ _
      | exact duty_Plan.mono _ _ _ _ _ _ _ _
      | exact duty_Total.mono _ _ _
      | exact duty_Valid.mono _ _ _ _ _ _
      | exact storagebarterlaw28_sane.mono _
      | exact storagebarterplay_Dice_Arrangement.mono _ _ _ _
      | exact storagebarterplay_Dice_Odd.mono _ _ _
      | exact storagebarterref28_Of.mono _ _ _
      | exact storagebarterref28_Plan.mono _ _ _ _ _ _ _ _
      | exact storagebarterref28_Same.mono _ _ _
      | exact storagebarterref28_SameInts.mono _ _ _
      | exact storagebarterref28_Total.mono _ _ _
      | exact storagebarterref28_Valid.mono _ _ _ _ _ _
      | exact LeO.none _
      | refine LeO.ite ?_ ?_
      | refine LeO.bind ?_ (fun _ => ?_)
    · intro y0 y1 y2 y3 y4 y5 y6 y7 y8 y9 y10 y11 y12 y13 y14
      unfold storagebarterlaw28_DutySteps.l1
      repeat' first
      | (with_reducible exact ih0 _ _ _ _ _ _ _ _ _ _ _)
      | (with_reducible exact ih1 _ _ _ _ _ _ _)
      | (with_reducible exact ih2 _ _ _ _ _ _ _ _ _ _ _ _ _ _ _)
      | (with_reducible exact ih3 _ _ _ _ _ _ _ _ _ _ _ _ _ _ _ _ _ _ _)
      | (with_reducible exact ih4 _ _ _ _)
      | (with_reducible exact duty_Of.mono _ _ _)
      | (with_reducible exact duty_Plan.mono _ _ _ _ _ _ _ _)
      | (with_reducible exact duty_Total.mono _ _ _)
      | (with_reducible exact duty_Valid.mono _ _ _ _ _ _)
      | (with_reducible exact storagebarterlaw28_sane.mono _)
      | (with_reducible exact storagebarterplay_Dice_Arrangement.mono _ _ _ _)
      | (with_reducible exact storagebarterplay_Dice_Odd.mono _ _ _)
      | (with_reducible exact storagebarterref28_Of.mono _ _ _)
      | (with_reducible exact storagebarterref28_Plan.mono _ _ _ _ _ _ _ _)
      | (with_reducible exact storagebarterref28_Same.mono _ _ _)
      | (with_reducible exact storagebarterref28_SameInts.mono _ _ _)
      | (with_reducible exact storagebarterref28_Total.mono _ _ _)
      | (with_reducible exact storagebarterref28_Valid.mono _ _ _ _ _ _)
      | (with_reducible exact LeO.refl _)
      | (with_reducible exact LeO.none _)
      | (with_reducible refine LeO.ite ?_ ?_)
      | (with_reducible refine LeO.bind ?_ (fun _ => ?_))
      | exact ih0 _ _ _ _ _ _ _ _ _ _ _
      | exact ih1 _ _ _ _ _ _ _
      | exact ih2 _ _ _ _ _ _ _ _ _ _ _ _ _ _ _
      | exact ih3 _ _ _ _ _ _ _ _ _ _ _ _ _ _ _ _ _ _ _
      | exact ih4 _ _ _ _
      | exact duty_Of.mono _ _ _
      | exact duty_Plan.mono _ _ _ _ _ _ _ _
      | exact duty_Total.mono _ _ _
      | exact duty_Valid.mono _ _ _ _ _ _
      | exact storagebarterlaw28_sane.mono _
      | exact storagebarterplay_Dice_Arrangement.mono _ _ _ _
      | exact storagebarterplay_Dice_Odd.mono _ _ _
      | exact storagebarterref28_Of.mono _ _ _
      | exact storagebarterref28_Plan.mono _ _ _ _ _ _ _ _
      | exact storagebarterref28_Same.mono _ _ _
      | exact storagebarterref28_SameInts.mono _ _ _
      | exact storagebarterref28_Total.mono _ _ _
      | exact storagebarterref28_Valid.mono _ _ _ _ _ _
      | exact LeO.none _
      | refine LeO.ite ?_ ?_
      | refine LeO.bind ?_ (fun _ => ?_)
    · intro y0 y1 y2 y3 y4 y5 y6 y7 y8 y9 y10 y11 y12 y13 y14 y15 y16 y17 y18
      unfold storagebarterlaw28_DutySteps.l2
      repeat' first
      | (with_reducible exact ih0 _ _ _ _ _ _ _ _ _ _ _)
      | (with_reducible exact ih1 _ _ _ _ _ _ _)
      | (with_reducible exact ih2 _ _ _ _ _ _ _ _ _ _ _ _ _ _ _)
      | (with_reducible exact ih3 _ _ _ _ _ _ _ _ _ _ _ _ _ _ _ _ _ _ _)
      | (with_reducible exact ih4 _ _ _ _)
      | (with_reducible exact duty_Of.mono _ _ _)
      | (with_reducible exact duty_Plan.mono _ _ _ _ _ _ _ _)
      | (with_reducible exact duty_Total.mono _ _ _)
      | (with_reducible exact duty_Valid.mono _ _ _ _ _ _)
      | (with_reducible exact storagebarterlaw28_sane.mono _)
      | (with_reducible exact storagebarterplay_Dice_Arrangement.mono _ _ _ _)
      | (with_reducible exact storagebarterplay_Dice_Odd.mono _ _ _)
      | (with_reducible exact storagebarterref28_Of.mono _ _ _)
      | (with_reducible exact storagebarterref28_Plan.mono _ _ _ _ _ _ _ _)
      | (with_reducible exact storagebarterref28_Same.mono _ _ _)
      | (with_reducible exact storagebarterref28_SameInts.mono _ _ _)
      | (with_reducible exact storagebarterref28_Total.mono _ _ _)
      | (with_reducible exact storagebarterref28_Valid.mono _ _ _ _ _ _)
      | (with_reducible exact LeO.refl _)
      | (with_reducible exact LeO.none _)
      | (with_reducible refine LeO.ite ?_ ?_)
      | (with_reducible refine LeO.bind ?_ (fun _ => ?_))
      | exact ih0 _ _ _ _ _ _ _ _ _ _ _
      | exact ih1 _ _ _ _ _ _ _
      | exact ih2 _ _ _ _ _ _ _ _ _ _ _ _ _ _ _
      | exact ih3 _ _ _ _ _ _ _ _ _ _ _ _ _ _ _ _ _ _ _
      | exact ih4 _ _ _ _
      | exact duty_Of.mono _ _ _
      | exact duty_Plan.mono _ _ _ _ _ _ _ _
      | exact duty_Total.mono _ _ _
      | exact duty_Valid.mono _ _ _ _ _ _
      | exact storagebarterlaw28_sane.mono _
      | exact storagebarterplay_Dice_Arrangement.mono _ _ _ _
      | exact storagebarterplay_Dice_Odd.mono _ _ _
      | exact storagebarterref28_Of.mono _ _ _
      | exact storagebarterref28_Plan.mono _ _ _ _ _ _ _ _
      | exact storagebarterref28_Same.mono _ _ _
      | exact storagebarterref28_SameInts.mono _ _ _
      | exact storagebarterref28_Total.mono _ _ _
      | exact storagebarterref28_Valid.mono _ _ _ _ _ _
      | exact LeO.none _
      | refine LeO.ite ?_ ?_
      | refine LeO.bind ?_ (fun _ => ?_)
    · intro y0 y1 y2 y3
      unfold storagebarterlaw28_DutySteps.l3
      repeat' first
      | (with_reducible exact ih0 _ _ _ _ _ _ _ _ _ _ _)
      | (with_reducible exact ih1 _ _ _ _ _ _ _)
      | (with_reducible exact ih2 _ _ _ _ _ _ _ _ _ _ _ _ _ _ _)
      | (with_reducible exact ih3 _ _ _ _ _ _ _ _ _ _ _ _ _ _ _ _ _ _ _)
      | (with_reducible exact ih4 _ _ _ _)
      | (with_reducible exact duty_Of.mono _ _ _)
      | (with_reducible exact duty_Plan.mono _ _ _ _ _ _ _ _)
      | (with_reducible exact duty_Total.mono _ _ _)
      | (with_reducible exact duty_Valid.mono _ _ _ _ _ _)
      | (with_reducible exact storagebarterlaw28_sane.mono _)
      | (with_reducible exact storagebarterplay_Dice_Arrangement.mono _ _ _ _)
      | (with_reducible exact storagebarterplay_Dice_Odd.mono _ _ _)
      | (with_reducible exact storagebarterref28_Of.mono _ _ _)
      | (with_reducible exact storagebarterref28_Plan.mono _ _ _ _ _ _ _ _)
      | (with_reducible exact storagebarterref28_Same.mono _ _ _)
      | (with_reducible exact storagebarterref28_SameInts.mono _ _ _)
      | (with_reducible exact storagebarterref28_Total.mono _ _ _)
      | (with_reducible exact storagebarterref28_Valid.mono _ _ _ _ _ _)
      | (with_reducible exact LeO.refl _)
      | (with_reducible exact LeO.none _)
      | (with_reducible refine LeO.ite ?_ ?_)
      | (with_reducible refine LeO.bind ?_ (fun _ => ?_))
      | exact ih0 _ _ _ _ _ _ _ _ _ _ _
      | exact ih1 _ _ _ _ _ _ _
      | exact ih2 _ _ _ _ _ _ _ _ _ _ _ _ _ _ _
      | exact ih3 _ _ _ _ _ _ _ _ _ _ _ _ _ _ _ _ _ _ _
      | exact ih4 _ _ _ _
      | exact duty_Of.mono _ _ _
      | exact duty_Plan.mono _ _ _ _ _ _ _ _
      | exact duty_Total.mono _ _ _
      | exact duty_Valid.mono _ _ _ _ _ _
      | exact storagebarterlaw28_sane.mono _
      | exact storagebarterplay_Dice_Arrangement.mono _ _ _ _
      | exact storagebarterplay_Dice_Odd.mono _ _ _
      | exact storagebarterref28_Of.mono _ _ _
      | exact storagebarterref28_Plan.mono _ _ _ _ _ _ _ _
      | exact storagebarterref28_Same.mono _ _ _
      | exact storagebarterref28_SameInts.mono _ _ _
      | exact storagebarterref28_Total.mono _ _ _
      | exact storagebarterref28_Valid.mono _ _ _ _ _ _
      | exact LeO.none _
      | refine LeO.ite ?_ ?_
      | refine LeO.bind ?_ (fun _ => ?_)
theorem storagebarterlaw28_DutySteps.mono : ∀ a0 a1 a2 a3 a4 a5 a6 a7 a8 a9 k, LeO (storagebarterlaw28_DutySteps.f k a0 a1 a2 a3 a4 a5 a6 a7 a8 a9) (storagebarterlaw28_DutySteps.f (k + 1) a0 a1 a2 a3 a4 a5 a6 a7 a8 a9) := by
  intro a0 a1 a2 a3 a4 a5 a6 a7 a8 a9 k
  obtain ⟨ih0, ih1, ih2, ih3, ih4⟩ := storagebarterlaw28_DutySteps.mono_l k
  unfold storagebarterlaw28_DutySteps.f
  repeat' first
      | (with_reducible exact ih0 _ _ _ _ _ _ _ _ _ _ _)
      | (with_reducible exact ih1 _ _ _ _ _ _ _)
      | (with_reducible exact ih2 _ _ _ _ _ _ _ _ _ _ _ _ _ _ _)
      | (with_reducible exact ih3 _ _ _ _ _ _ _ _ _ _ _ _ _ _ _ _ _ _ _)
      | (with_reducible exact ih4 _ _ _ _)
      | (with_reducible exact duty_Of.mono _ _ _)
      | (with_reducible exact duty_Plan.mono _ _ _ _ _ _ _ _)
      | (with_reducible exact duty_Total.mono _ _ _)
      | (with_reducible exact duty_Valid.mono _ _ _ _ _ _)
      | (with_reducible exact storagebarterlaw28_sane.mono _)
      | (with_reducible exact storagebarterplay_Dice_Arrangement.mono _ _ _ _)
      | (with_reducible exact storagebarterplay_Dice_Odd.mono _ _ _)
      | (with_reducible exact storagebarterref28_Of.mono _ _ _)
      | (with_reducible exact storagebarterref28_Plan.mono _ _ _ _ _ _ _ _)
      | (with_reducible exact storagebarterref28_Same.mono _ _ _)
      | (with_reducible exact storagebarterref28_SameInts.mono _ _ _)
      | (with_reducible exact storagebarterref28_Total.mono _ _ _)
      | (with_reducible exact storagebarterref28_Valid.mono _ _ _ _ _ _)
      | (with_reducible exact LeO.refl _)
      | (with_reducible exact LeO.none _)
      | (with_reducible refine LeO.ite ?_ ?_)
      | (with_reducible refine LeO.bind ?_ (fun _ => ?_))
      | exact ih0 _ _ _ _ _ _ _ _ _ _ _
      | exact ih1 _ _ _ _ _ _ _
      | exact ih2 _ _ _ _ _ _ _ _ _ _ _ _ _ _ _
      | exact ih3 _ _ _ _ _ _ _ _ _ _ _ _ _ _ _ _ _ _ _
      | exact ih4 _ _ _ _
      | exact duty_Of.mono _ _ _
      | exact duty_Plan.mono _ _ _ _ _ _ _ _
      | exact duty_Total.mono _ _ _
      | exact duty_Valid.mono _ _ _ _ _ _
      | exact storagebarterlaw28_sane.mono _
      | exact storagebarterplay_Dice_Arrangement.mono _ _ _ _
      | exact storagebarterplay_Dice_Odd.mono _ _ _
      | exact storagebarterref28_Of.mono _ _ _
      | exact storagebarterref28_Plan.mono _ _ _ _ _ _ _ _
      | exact storagebarterref28_Same.mono _ _ _
      | exact storagebarterref28_SameInts.mono _ _ _
      | exact storagebarterref28_Total.mono _ _ _
      | exact storagebarterref28_Valid.mono _ _ _ _ _ _
      | exact LeO.none _
      | refine LeO.ite ?_ ?_
      | refine LeO.bind ?_ (fun _ => ?_)
def storagebarterlaw28_DutySteps.T6 : Bool × List (List Nat × List Nat) := (true, [([], []), ([], []), ([1], [1]), ([], []), ([3, 2], [3]), ([], []), ([5, 4], [5]), ([0, 2, 4, 6], [0, 2, 4, 6]), ([7], [7]), ([], [])])
def storagebarterlaw28_DutySteps.B6 : List Nat := [0, 0, 2, 0, 14, 0, 62, 127, 255, 0]
theorem storagebarterlaw28_DutySteps.tab6 : rtab .any (opsOf Tryd.f5 6) = storagebarterlaw28_DutySteps.T6 := by kernel_rfl
theorem storagebarterlaw28_DutySteps.bits6 : waitsOk storagebarterlaw28_DutySteps.T6.2 storagebarterlaw28_DutySteps.B6 = true := by kernel_rfl
def storagebarterlaw28_DutySteps.T19 : Bool × List (List Nat × List Nat) := (true, [([], []), ([], []), ([0, 1], [0, 1]), ([2], [2]), ([3], [3]), ([3], [3]), ([4, 5, 3, 3], [3, 4, 5]), ([6, 3], [3, 6]), ([3, 7], [3, 7]), ([8, 6], [8]), ([9], [9]), ([9], [9]), ([11, 9], [9, 11]), ([10, 12, 9, 9], [9, 10, 12]), ([9], [9]), ([9], [9]), ([15, 9], [9, 15]), ([14, 16, 13, 9], [9, 14, 16]), ([13, 17, 9], [9, 13, 17]), ([9, 18], [9, 18])])
def storagebarterlaw28_DutySteps.B19 : List Nat := [0, 0, 3, 7, 15, 15, 63, 127, 255, 511, 1023, 1023, 3071, 8191, 1023, 1023, 33791, 131071, 262143, 524287]
theorem storagebarterlaw28_DutySteps.tab19 : rtab .any (opsOf Tryd.f5 19) = storagebarterlaw28_DutySteps.T19 := by kernel_rfl
theorem storagebarterlaw28_DutySteps.bits19 : waitsOk storagebarterlaw28_DutySteps.T19.2 storagebarterlaw28_DutySteps.B19 = true := by kernel_rfl
set_option maxHeartbeats 60000000 in
set_option maxRecDepth 100000 in
theorem storagebarterlaw28_DutySteps.calls (k : Nat) (A0 : Option Addr) (c0 : Nat) (l0 : List Int) (a1_0 : Int) (a1_1 : Int) (a1_2 : Int) (a1_3 : Int) (P1_4_ : Nat → Prop) (A1_4 : Option Addr) (c1_4 : Nat) (l1_4 : List Int) (a2 : Int) (a3 : Int) (a4 : Int) (A5 : Option Addr) (c5 : Nat) (l5 : List (S36)) (r : Bool) (w : World) (hr0 : Kd.C (Kd.int .u8) w A0 l0.length l0) (hc0 : l0.length ≤ c0) (hs1_4 : Kd.V (Kd.int .i64) 3 w w.heap.size (fun k_ => P1_4_ k_) (.slice A1_4 l1_4.length c1_4) l1_4) (hr5 : Kd.C k36 w A5 l5.length l5) (hc5 : l5.length ≤ c5) (h : storagebarterlaw28_DutySteps.f k l0 a1_0 a1_1 a1_2 a1_3 l1_4 a2 a3 a4 l5 = some r) (hrt_ : r = true) (hL_ : Laid w) :
    Calls Tryd.prog 5 #[.slice A0 l0.length c0, .agg #[.int .i64 a1_0, .int .i64 a1_1, .int .i64 a1_2, .int .i64 a1_3, .slice A1_4 l1_4.length c1_4], .int .i64 a2, .int .i64 a3, .int .i64 a4, .slice A5 l5.length c5] w fun e w' => e = .returned (.bool r) ∧ Below w.heap.size w w' := by
  have HL_ := Aside0.mk hL_
  clear hL_
  have HRT_ := Aside0.mk hrt_
  clear hrt_
  have hu26 := Tryd.underlying26
  have HR0 := Aside0.mk hr0
  have HC0 := Aside0.mk hc0
  clear hr0 hc0
  have HO1_4 := Aside0.mk (show Kd.V (Kd.int .i64) 3 w w.heap.size (fun k_ => (P1_4_ k_ ∨ w.heap.size ≤ k_)) (.slice A1_4 l1_4.length c1_4) l1_4 from Kd.V_mono hs1_4 (fun k_ hk => .inl hk))
  have HR5 := Aside0.mk hr5
  have HC5 := Aside0.mk hc5
  clear hr5 hc5
  have HB := Aside0.mk (Below.refl w.heap.size w)
  have H : ((storagebarterlaw28_sane.f k).bind fun t229 => (if t229 = true then (if (l1_4.length : Int) > 20 then (storagebarterlaw28_DutySteps.j0 k l0 a2 a3 a4 l5 true a1_0 a1_1 a1_2 a1_3 l1_4) else (storagebarterlaw28_DutySteps.j0 k l0 a2 a3 a4 l5 (decide ((l5.length : Int) > 20)) a1_0 a1_1 a1_2 a1_3 l1_4)) else (some false))) = some r := h
  clear h
  replace H := Option.bind_eq_some_iff.mp H
  obtain ⟨t229, A70, H⟩ := H
  replace H : (if t229 = true then (if (l1_4.length : Int) > 20 then (storagebarterlaw28_DutySteps.j0 k l0 a2 a3 a4 l5 true a1_0 a1_1 a1_2 a1_3 l1_4) else (storagebarterlaw28_DutySteps.j0 k l0 a2 a3 a4 l5 (decide ((l5.length : Int) > 20)) a1_0 a1_1 a1_2 a1_3 l1_4)) else (some false)) = some r := H
  have A7 := Aside0.mk A70
  clear A70
  by_cases c8 : t229 = true
  · subst c8
    have H1 : (if (l1_4.length : Int) > 20 then (storagebarterlaw28_DutySteps.j0 k l0 a2 a3 a4 l5 true a1_0 a1_1 a1_2 a1_3 l1_4) else (storagebarterlaw28_DutySteps.j0 k l0 a2 a3 a4 l5 (decide ((l5.length : Int) > 20)) a1_0 a1_1 a1_2 a1_3 l1_4)) = some r := by rw [if_pos rfl] at H; exact H
    clear H
    have H := H1
    clear H1
    have HC9 := Aside0.mk H
    clear H
    go_enter Tryd.func5, Tryd.ntmps5
    go_upto_region 3 with (first | ((with_reducible refine gate_dst (N := 7) rfl ?_); (try (refine gate_guard (by rfl) ?_; dsimp only)); refine box_event ?hg (N := 7) ?hd (cs := #[.int .i64 a1_0, .int .i64 a1_1, .int .i64 a1_2, .int .i64 a1_3, .slice A1_4 l1_4.length c1_4]) (t := 26) ?hr ?_; (case hd => rfl); (case hg => rfl); (case hr => first | (go_simp; done) | (go_simp; rfl)); intro gb228 hg w10 hbox hb; have n0_ := Aside0.mk (Kd.V_below (Kd.V_elderB (by (with_reducible repeat (first | apply Kd.V_alloc | apply Kd.V_drewN | apply Kd.V_drew)); exact HO1_4.out) gb228 (Nat.le_of_eq hg.symm)) hb); have n1_ := Aside0.mk (below_step (by repeat (first | (with_reducible first | exact HB.out | apply below_alloc | apply pw_below_drewN | apply below_drew1) | exact HB.out)) hb); have n2_ := Aside0.mk (hbox); have n3_ := Aside0.mk ((by rw [hg]; exact (below_size (by repeat (first | (with_reducible first | exact HB.out | apply below_alloc | apply pw_below_drewN | apply below_drew1) | exact HB.out))) : w.heap.size ≤ gb228)); have n4_ := Aside0.mk ((by rw [hg]; exact (below_size (by repeat (first | (with_reducible first | exact HB.out | apply below_alloc | apply pw_below_drewN | apply below_drew1) | exact HB.out))) : w.heap.size ≤ gb228)); clear HO1_4; clear HB; have HO1_4 := n0_; have HB := n1_; have BK228 := n2_; have GW228 := n3_; have GE228 := n4_; clear n0_ n1_ n2_ n3_ n4_; clear hb hbox hg) | ((with_reducible refine gate_callee (f := 16) rfl ?_); refine goesL_ (some 25) rfl rfl Tryd.func16 (by kernel_rfl) rfl #[] rfl (by (try simp only [List.map_toArray, List.map_cons, List.map_nil]); first | done | rfl | (simp only [List.length_drop, List.length_take]; rfl)) ?_; (with_reducible refine (storagebarterlaw28_sane.calls k  true _ A7.out (by first | exact HL_.out | exact laid_below HL_.out (by repeat (first | (with_reducible first | exact HB.out | apply below_alloc | apply pw_below_drewN | apply below_drew1) | refine below_set ?_ (Aside0.out (by assumption)) | exact HB.out)) | exact laid_drawn HL_.out HD.out | exact laid_drawn HL_.out (HD.out.step _))).mono ?_); rintro e w11 ⟨rfl, hb⟩; refine ⟨_, rfl, ?_⟩; have n0_ := Aside0.mk (Kd.V_below (by (with_reducible repeat (first | apply Kd.V_alloc | apply Kd.V_drewN | apply Kd.V_drew)); exact HO1_4.out) hb); have n1_ := Aside0.mk (blk_below (g := gb228) (o := .cells #[.int .i64 a1_0, .int .i64 a1_1, .int .i64 a1_2, .int .i64 a1_3, .slice A1_4 l1_4.length c1_4] 26 (0, 0)) (by (with_reducible repeat (first | refine blk_drewN ?_ _ | refine blk_drew ?_ | refine blk_alloc ?_ _)); exact BK228.out) hb); have n2_ := Aside0.mk (below_step (by repeat (first | (with_reducible first | exact HB.out | apply below_alloc | apply pw_below_drewN | apply below_drew1 | refine below_set ?_ GE228.out) | exact HB.out)) hb); clear HO1_4; clear BK228; clear HB; have HO1_4 := n0_; have BK228 := n1_; have HB := n2_; clear n0_ n1_ n2_; (try clear hb); (try clear hb2); (try clear hk); (try clear hi); (try clear hgw)))
    (try simp only [Act.put, List.setIfInBounds_toArray, List.set_cons_zero, List.set_cons_succ])
    go_cut [35] (fun v35 wc => ∃ (kq : Nat) (x35_8 : Bool), v35 = .bool x35_8 ∧ Aside0 (storagebarterlaw28_DutySteps.j0 kq l0 a2 a3 a4 l5 x35_8 a1_0 a1_1 a1_2 a1_3 l1_4 = some r) ∧ Aside0 (kq ≤ k) ∧ Aside0 (Kd.V (Kd.int .i64) 3 wc w.heap.size (fun k_ => (P1_4_ k_ ∨ w.heap.size ≤ k_) ∧ k_ ≠ gb228) (.slice A1_4 l1_4.length c1_4) l1_4) ∧ Aside0 (wc.heap[gb228]? = some (.cells #[.int .i64 a1_0, .int .i64 a1_1, .int .i64 a1_2, .int .i64 a1_3, (.slice A1_4 l1_4.length c1_4)] 26 (0, 0))) ∧ Aside0 (Below w.heap.size w wc))
    case first =>
      have H := HC9.out
      clear HC9
      by_cases c12 : (l1_4.length : Int) > 20
      · rw [if_pos c12] at H
        have c12b0 : decide (20 < (l1_4.length : Int)) = true := decide_eq_true c12
        have c12b1 : decide (20 < l1_4.length) = true := decide_eq_true (by omega)
        clear c12
        (first | rw [c12b0] | (simp only [i64_w, i32_w]; rw [c12b0]) | skip)
        have H' := Aside0.mk H
        clear H
        have hcz13_0 : w11.cell? ⟨gb228, 0, none⟩ = some (.int .i64 a1_0) := (blk_cell BK228.out 0).trans rfl
        have hcz13_1 : w11.cell? ⟨gb228, 1, none⟩ = some (.int .i64 a1_1) := (blk_cell BK228.out 1).trans rfl
        have hcz13_2 : w11.cell? ⟨gb228, 2, none⟩ = some (.int .i64 a1_2) := (blk_cell BK228.out 2).trans rfl
        have hcz13_3 : w11.cell? ⟨gb228, 3, none⟩ = some (.int .i64 a1_3) := (blk_cell BK228.out 3).trans rfl
        have hcz13_4 : w11.cell? ⟨gb228, 4, none⟩ = some (.slice A1_4 l1_4.length c1_4) := (blk_cell BK228.out 4).trans rfl
        have hfz13_0 := blk_frozen BK228.out 0
        have hfz13_1 := blk_frozen BK228.out 1
        have hfz13_2 := blk_frozen BK228.out 2
        have hfz13_3 := blk_frozen BK228.out 3
        have hfz13_4 := blk_frozen BK228.out 4
        go_wp2
        go_meet
        case rel => exact ⟨_, (true), (by first | rfl | (simp; done) | (simp [*]; done)), H', ⟨by first | omega | exact Nat.le_refl _⟩, ⟨by (with_reducible repeat (first | apply Kd.V_alloc | apply Kd.V_drewN | apply Kd.V_drew)); exact HO1_4.out⟩, ⟨by (with_reducible repeat (first | refine blk_drewN ?_ _ | refine blk_drew ?_ | refine blk_alloc ?_ _)); exact BK228.out⟩, ⟨by repeat (first | (with_reducible first | exact HB.out | apply below_alloc | apply pw_below_drewN | apply below_drew1 | refine below_set ?_ GE228.out) | exact HB.out)⟩⟩
      · rw [if_neg c12] at H
        have c12b0 : decide (20 < (l1_4.length : Int)) = false := decide_eq_false c12
        have c12b1 : decide (20 < l1_4.length) = false := decide_eq_false (by omega)
        clear c12
        (first | rw [c12b0] | (simp only [i64_w, i32_w]; rw [c12b0]) | skip)
        have H' := Aside0.mk H
        clear H
        have hcz14_0 : w11.cell? ⟨gb228, 0, none⟩ = some (.int .i64 a1_0) := (blk_cell BK228.out 0).trans rfl
        have hcz14_1 : w11.cell? ⟨gb228, 1, none⟩ = some (.int .i64 a1_1) := (blk_cell BK228.out 1).trans rfl
        have hcz14_2 : w11.cell? ⟨gb228, 2, none⟩ = some (.int .i64 a1_2) := (blk_cell BK228.out 2).trans rfl
        have hcz14_3 : w11.cell? ⟨gb228, 3, none⟩ = some (.int .i64 a1_3) := (blk_cell BK228.out 3).trans rfl
        have hcz14_4 : w11.cell? ⟨gb228, 4, none⟩ = some (.slice A1_4 l1_4.length c1_4) := (blk_cell BK228.out 4).trans rfl
        have hfz14_0 := blk_frozen BK228.out 0
        have hfz14_1 := blk_frozen BK228.out 1
        have hfz14_2 := blk_frozen BK228.out 2
        have hfz14_3 := blk_frozen BK228.out 3
        have hfz14_4 := blk_frozen BK228.out 4
        go_wp2
        go_meet
        case rel => exact ⟨_, (decide ((l5.length : Int) > 20)), (by first | rfl | (simp; done) | (simp [*]; done)), H', ⟨by first | omega | exact Nat.le_refl _⟩, ⟨by (with_reducible repeat (first | apply Kd.V_alloc | apply Kd.V_drewN | apply Kd.V_drew)); exact HO1_4.out⟩, ⟨by (with_reducible repeat (first | refine blk_drewN ?_ _ | refine blk_drew ?_ | refine blk_alloc ?_ _)); exact BK228.out⟩, ⟨by repeat (first | (with_reducible first | exact HB.out | apply below_alloc | apply pw_below_drewN | apply below_drew1 | refine below_set ?_ GE228.out) | exact HB.out)⟩⟩
    case rest =>
      clear HC9
      try clear c1
      try clear p2
      try clear c5
      try clear c8
      try clear c12
      try clear c12b0
      try clear c12b1
      try clear hcz13_0
      try clear hcz13_1
      try clear hcz13_2
      try clear hcz13_3
      try clear hcz13_4
      try clear hcz14_0
      try clear hcz14_1
      try clear hcz14_2
      try clear hcz14_3
      try clear hcz14_4
      try clear hfz13_0
      try clear hfz13_1
      try clear hfz13_2
      try clear hfz13_3
      try clear hfz13_4
      try clear hfz14_0
      try clear hfz14_1
      try clear hfz14_2
      try clear hfz14_3
      try clear hfz14_4
      obtain ⟨kq, x35_8, rfl, HA, HJ8, HO_229004, BK228, HB⟩ := hcut
      cases kq with
      | zero => exact absurd HA.out (by simp [storagebarterlaw28_DutySteps.j0])
      | succ kj8 =>
        have H := HA.out
        clear HA
        simp only [storagebarterlaw28_DutySteps.j0] at H
        by_cases c15 : x35_8 = true
        · subst c15
          have H1 : (some true) = some r := by rw [if_pos rfl] at H; exact H
          clear H
          have H := H1
          clear H1
          obtain rfl := Option.some.inj H
          go_wp2
          go_ret
          exact ⟨by first | rfl | (simp [errW_none, errW_some] <;> rfl) | (simp [*, errW_none, errW_some] <;> rfl), by repeat (first | (with_reducible first | exact HB.out | apply below_alloc | apply pw_below_drewN | apply below_drew1 | refine below_set ?_ GE228.out) | exact HB.out)⟩
        · replace c15 := Bool.eq_false_iff.mpr c15
          subst c15
          have H1 : ((storagebarterplay_New.f l0).bind fun bt230 => ((storagebarterplay_Dice_Odd.f kj8 bt230.1 bt230.2).bind fun bt233 => ((storagebarterplay_Dice_Odd.f kj8 bt230.1 bt233.2.2.2.2.2).bind fun bt241 => ((storagebarterplay_Dice_Arrangement.f kj8 bt230.1 bt241.2.2.2.2.2 4).bind fun bt249 => ((some (([(⟨a1_0, a1_1, a1_2, a1_3, l1_4⟩ : S26), (⟨bt233.1, bt233.2.1, bt233.2.2.1, bt233.2.2.2.1, bt233.2.2.2.2.1⟩ : S26), (⟨bt241.1, bt241.2.1, bt241.2.2.1, bt241.2.2.2.1, bt241.2.2.2.2.1⟩ : S26), (⟨bt249.1, bt249.2.1, bt249.2.2.1, bt249.2.2.2.1, bt249.2.2.2.2.1⟩ : S26)] : List (S26)) : List (S26))).bind fun y257 => (storagebarterlaw28_DutySteps.l0 kj8 a2 a3 a4 l5 y257 (y257.length : Int) 0)))))) = some r := by rw [if_neg (show ¬ (false = true) by decide)] at H; exact H
          clear H
          have H := H1
          clear H1
          replace H := Option.bind_eq_some_iff.mp H
          obtain ⟨⟨t230, t231⟩, A160, H⟩ := H
          replace H : ((storagebarterplay_Dice_Odd.f kj8 t230 t231).bind fun bt233 => ((storagebarterplay_Dice_Odd.f kj8 t230 bt233.2.2.2.2.2).bind fun bt241 => ((storagebarterplay_Dice_Arrangement.f kj8 t230 bt241.2.2.2.2.2 4).bind fun bt249 => ((some (([(⟨a1_0, a1_1, a1_2, a1_3, l1_4⟩ : S26), (⟨bt233.1, bt233.2.1, bt233.2.2.1, bt233.2.2.2.1, bt233.2.2.2.2.1⟩ : S26), (⟨bt241.1, bt241.2.1, bt241.2.2.1, bt241.2.2.2.1, bt241.2.2.2.2.1⟩ : S26), (⟨bt249.1, bt249.2.1, bt249.2.2.1, bt249.2.2.2.1, bt249.2.2.2.2.1⟩ : S26)] : List (S26)) : List (S26))).bind fun y257 => (storagebarterlaw28_DutySteps.l0 kj8 a2 a3 a4 l5 y257 (y257.length : Int) 0))))) = some r := H
          have A16 := Aside0.mk A160
          clear A160
          replace H := Option.bind_eq_some_iff.mp H
          obtain ⟨⟨t233, t234, t235, t236, t237, t240⟩, A170, H⟩ := H
          replace H : ((storagebarterplay_Dice_Odd.f kj8 t230 t240).bind fun bt241 => ((storagebarterplay_Dice_Arrangement.f kj8 t230 bt241.2.2.2.2.2 4).bind fun bt249 => ((some (([(⟨a1_0, a1_1, a1_2, a1_3, l1_4⟩ : S26), (⟨t233, t234, t235, t236, t237⟩ : S26), (⟨bt241.1, bt241.2.1, bt241.2.2.1, bt241.2.2.2.1, bt241.2.2.2.2.1⟩ : S26), (⟨bt249.1, bt249.2.1, bt249.2.2.1, bt249.2.2.2.1, bt249.2.2.2.2.1⟩ : S26)] : List (S26)) : List (S26))).bind fun y257 => (storagebarterlaw28_DutySteps.l0 kj8 a2 a3 a4 l5 y257 (y257.length : Int) 0)))) = some r := H
          have A17 := Aside0.mk A170
          clear A170
          replace H := Option.bind_eq_some_iff.mp H
          obtain ⟨⟨t241, t242, t243, t244, t245, t248⟩, A180, H⟩ := H
          replace H : ((storagebarterplay_Dice_Arrangement.f kj8 t230 t248 4).bind fun bt249 => ((some (([(⟨a1_0, a1_1, a1_2, a1_3, l1_4⟩ : S26), (⟨t233, t234, t235, t236, t237⟩ : S26), (⟨t241, t242, t243, t244, t245⟩ : S26), (⟨bt249.1, bt249.2.1, bt249.2.2.1, bt249.2.2.2.1, bt249.2.2.2.2.1⟩ : S26)] : List (S26)) : List (S26))).bind fun y257 => (storagebarterlaw28_DutySteps.l0 kj8 a2 a3 a4 l5 y257 (y257.length : Int) 0))) = some r := H
          have A18 := Aside0.mk A180
          clear A180
          replace H := Option.bind_eq_some_iff.mp H
          obtain ⟨⟨t249, t250, t251, t252, t253, t256⟩, A190, H⟩ := H
          replace H : ((some (([(⟨a1_0, a1_1, a1_2, a1_3, l1_4⟩ : S26), (⟨t233, t234, t235, t236, t237⟩ : S26), (⟨t241, t242, t243, t244, t245⟩ : S26), (⟨t249, t250, t251, t252, t253⟩ : S26)] : List (S26)) : List (S26))).bind fun y257 => (storagebarterlaw28_DutySteps.l0 kj8 a2 a3 a4 l5 y257 (y257.length : Int) 0)) = some r := H
          have A19 := Aside0.mk A190
          clear A190
          obtain ⟨y257, hy257⟩ : ∃ y_ : List (S26), y_ = (([(⟨a1_0, a1_1, a1_2, a1_3, l1_4⟩ : S26), (⟨t233, t234, t235, t236, t237⟩ : S26), (⟨t241, t242, t243, t244, t245⟩ : S26), (⟨t249, t250, t251, t252, t253⟩ : S26)] : List (S26))) := ⟨_, rfl⟩
          replace H : (storagebarterlaw28_DutySteps.l0 kj8 a2 a3 a4 l5 y257 (y257.length : Int) 0) = some r := by first | (rw [hy257]; with_reducible exact H) | (have H2_ := (Option.bind_some _ _).symm.trans H; rw [hy257]; with_reducible exact H2_) | (have H2_ := (Option.bind_some _ _).symm.trans H; with_reducible exact H2_) | with_reducible exact H | (rw [hy257]; exact H) | exact H
          have Ny257 := Aside0.mk hy257
          clear hy257
          have H' := Aside0.mk H
          clear H
          try go_wp2_with (first | ((with_reducible refine gate_callee (f := 17) rfl ?_); refine goesL_ (some 37) rfl rfl Tryd.func17 (by kernel_rfl) rfl #[.slice A0 l0.length c0] rfl (by (try simp only [List.map_toArray, List.map_cons, List.map_nil]); first | done | rfl | (simp only [List.length_drop, List.length_take]; rfl)) ?_; (with_reducible refine (storagebarterplay_New.calls _ _ l0 t230 t231 w _ ?side1 ?side2 ?side3 A16.out).mono ?_); (case side1 => repeat (first | (with_reducible first | exact HB.out | apply below_alloc | apply pw_below_drewN | apply below_drew1 | refine below_set ?_ GE228.out) | exact HB.out)); (case side2 => exact HR0.out); (case side3 => exact HC0.out); rintro e w20 ⟨g232, rfl, hi, hb, hb2, hgw⟩; refine ⟨_, rfl, ?_⟩; have n0_ := Aside0.mk (Kd.V_below (Kd.V_elderB (by (with_reducible repeat (first | apply Kd.V_alloc | apply Kd.V_drewN | apply Kd.V_drew)); exact HO_229004.out) g232 hgw) hb2); have n1_ := Aside0.mk (blk_below (g := gb228) (o := .cells #[.int .i64 a1_0, .int .i64 a1_1, .int .i64 a1_2, .int .i64 a1_3, .slice A1_4 l1_4.length c1_4] 26 (0, 0)) (by (with_reducible repeat (first | refine blk_drewN ?_ _ | refine blk_drew ?_ | refine blk_alloc ?_ _)); exact BK228.out) hb2); have n2_ := Aside0.mk (hb); have n3_ := Aside0.mk (hi); have n4_ := Aside0.mk (IsS88.ne_blk hi (blk_below (g := gb228) (o := .cells #[.int .i64 a1_0, .int .i64 a1_1, .int .i64 a1_2, .int .i64 a1_3, .slice A1_4 l1_4.length c1_4] 26 (0, 0)) (by (with_reducible repeat (first | refine blk_drewN ?_ _ | refine blk_drew ?_ | refine blk_alloc ?_ _)); exact BK228.out) hb2) (by decide)); have n5_ := Aside0.mk (Ne.symm (IsS88.ne_blk hi (blk_below (g := gb228) (o := .cells #[.int .i64 a1_0, .int .i64 a1_1, .int .i64 a1_2, .int .i64 a1_3, .slice A1_4 l1_4.length c1_4] 26 (0, 0)) (by (with_reducible repeat (first | refine blk_drewN ?_ _ | refine blk_drew ?_ | refine blk_alloc ?_ _)); exact BK228.out) hb2) (by decide))); clear HO_229004; clear BK228; clear HB; have HO_229004 := n0_; have BK228 := n1_; have HB := n2_; have HI232 := n3_; have NB232_228 := n4_; have NB228_232 := n5_; clear n0_ n1_ n2_ n3_ n4_ n5_; (try clear hb); (try clear hb2); (try clear hk); (try clear hi); (try clear hgw)))
          have n0_ := Aside0.mk (Kd.V_drew HO_229004.out)
          have n1_ := Aside0.mk (blk_drew BK228.out)
          have n2_ := Aside0.mk (IsS88.drew HI232.out)
          have n3_ := Aside0.mk (below_drew1 HB.out)
          clear HO_229004
          clear BK228
          clear HI232
          clear HB
          have HO_229004 := n0_
          have BK228 := n1_
          have HI232 := n2_
          have HB := n3_
          clear n0_ n1_ n2_ n3_
          refine start_ (n := 10) (S := fun w' => w'.cell? ⟨gb228, 0, none⟩ = some (.int .i64 a1_0) ∧ w'.cell? ⟨gb228, 1, none⟩ = some (.int .i64 a1_1) ∧ w'.cell? ⟨gb228, 2, none⟩ = some (.int .i64 a1_2) ∧ w'.cell? ⟨gb228, 3, none⟩ = some (.int .i64 a1_3) ∧ w'.cell? ⟨gb228, 4, none⟩ = some (.slice A1_4 l1_4.length c1_4)) (ds := []) #[false, false, false, false, false, false, false, false, false, false] (by kernel_rfl) rfl rfl ⟨(blk_cell BK228.out 0).trans rfl, (blk_cell BK228.out 1).trans rfl, (blk_cell BK228.out 2).trans rfl, (blk_cell BK228.out 3).trans rfl, (blk_cell BK228.out 4).trans rfl⟩ (fun hHeld => ?_); refine with_tabW storagebarterlaw28_DutySteps.tab6 storagebarterlaw28_DutySteps.bits6 (fun HT_ HW_ => ?_)
          generalize w20.drew = w21 at HO_229004 BK228 HI232 HB hHeld ⊢
          refine pure_ (i := 1) (N := some 39) (v := ?_) (a' := ?_) #[false, true, false, false, false, false, false, false, false, false] rfl rfl (any_of HT_.out (by kernel_rfl)) (fun _ _ _ h => h) (Or.inl ⟨by rfl, ?_⟩) ?_ ?_
          rotate_left
          · intro w'
            go_simp
            with_reducible rfl
          rotate_left
          · simp only [Act.put, List.setIfInBounds_toArray, List.set_cons_zero, List.set_cons_succ, i64_w, i32_w]
            rfl
          refine pure_ (i := 3) (N := some 41) (v := ?_) (a' := ?_) #[false, true, false, true, false, false, false, false, false, false] rfl rfl (any_of HT_.out (by kernel_rfl)) (fun _ _ _ h => h) (Or.inl ⟨by rfl, ?_⟩) ?_ ?_
          rotate_left
          · intro w'
            go_simp
            with_reducible rfl
          rotate_left
          · simp only [Act.put, List.setIfInBounds_toArray, List.set_cons_zero, List.set_cons_succ, i64_w, i32_w]
            rfl
          refine pure_ (i := 5) (N := some 43) (v := ?_) (a' := ?_) #[false, true, false, true, false, true, false, false, false, false] rfl rfl (any_of HT_.out (by kernel_rfl)) (fun _ _ _ h => h) (Or.inl ⟨by rfl, ?_⟩) ?_ ?_
          rotate_left
          · intro w'
            go_simp
            with_reducible rfl
          rotate_left
          · simp only [Act.put, List.setIfInBounds_toArray, List.set_cons_zero, List.set_cons_succ, i64_w, i32_w]
            rfl
          refine pure_ (i := 9) (N := some 47) (v := ?_) (a' := ?_) #[false, true, false, true, false, true, false, false, false, true] rfl rfl (any_of HT_.out (by kernel_rfl)) (fun _ _ _ h => h) (Or.inl ⟨by rfl, ?_⟩) ?_ ?_
          rotate_left
          · intro w'
            go_simp
            with_reducible rfl
          rotate_left
          · simp only [Act.put, List.setIfInBounds_toArray, List.set_cons_zero, List.set_cons_succ, i64_w, i32_w]
            rfl
          refine take_ (i := 0) (N := some 38) (v := ?_) (a' := ?_) #[true, true, false, true, false, true, false, false, false, true] rfl rfl (take_ofW HT_.out HW_.out (by kernel_rfl)) (fun _ _ _ h => h) (Or.inl ⟨by rfl, ?_⟩) hHeld ?_ ?_
          rotate_left
          · rintro w' ⟨s0, s1, s2, s3, s4⟩
            go_simp
            with_reducible rfl
          rotate_left
          · simp only [Act.put, List.setIfInBounds_toArray, List.set_cons_zero, List.set_cons_succ, i64_w, i32_w]
            rfl
          refine one_ (i := 2) (N := some 40) #[true, true, true, true, false, true, false, false, false, true] rfl rfl (one_of HT_.out (by kernel_rfl)) (by decide) (fun K hK => ?_)
          refine goes_ Tryd.func21 (by kernel_rfl) rfl #[.pointer (some ⟨g232, 0, none⟩)] (by rfl) rfl rfl (by (try simp only [List.map_toArray, List.map_cons, List.map_nil]); first | done | rfl | (simp only [List.length_drop, List.length_take]; rfl)) ?_
          with_reducible refine (storagebarterplay_Dice_Odd.calls kj8 g232 t230 t231 t233 t234 t235 t236 t237 t240 w _ ?side1 ?side2 A17.out).mono ?_
          (case side1 => repeat (first | (with_reducible first | exact HI232.out | apply IsS88.alloc | apply IsS88.drewN | apply IsS88.drew | apply IsS88.set_1 | refine IsS88.far ?_ NB232_228.out _) | exact HI232.out))
          (case side2 => repeat (first | (with_reducible first | exact HB.out | apply below_alloc | apply pw_below_drewN | apply below_drew1 | refine below_set ?_ (IsS88.ge HI232.out) | refine below_set ?_ GE228.out) | exact HB.out))
          rintro e w22 ⟨v238, rfl, ho0, hi, hb, hk⟩
          refine ⟨_, rfl, ?_⟩
          have n0_ := Aside0.mk (Kd.V_mono (Kd.V_told (Kd.V_oldK (Kd.V_mono (ok := fun k_ => ((((P1_4_ k_ ∨ w.heap.size ≤ k_)) ∧ k_ ≠ gb228) ∧ k_ ≠ g232)) (by (with_reducible repeat (first | apply Kd.V_alloc | apply Kd.V_drewN | apply Kd.V_drew)); exact HO_229004.out) (fun k_ hk_ => (⟨hk_, hk_.2⟩ : _ ∧ k_ ≠ g232))) hk) (Kd.R_base ho0)) (fun _ h_ => h_.1))
          have n1_ := Aside0.mk (KeepBut.blk hk (g' := gb228) (o := .cells #[.int .i64 a1_0, .int .i64 a1_1, .int .i64 a1_2, .int .i64 a1_3, .slice A1_4 l1_4.length c1_4] 26 (0, 0)) (by (with_reducible repeat (first | refine blk_drewN ?_ _ | refine blk_drew ?_ | refine blk_alloc ?_ _)); exact BK228.out) NB228_232.out (by simp))
          have n2_ := Aside0.mk (Kd.R_lower (Kd.R_newM (M := fun k_ => (w.heap.size ≤ k_)) ho0 (below_size (by repeat (first | (with_reducible first | exact HB.out | apply below_alloc | apply pw_below_drewN | apply below_drew1 | refine below_set ?_ (IsS88.ge HI232.out) | refine below_set ?_ GE228.out) | exact HB.out))) (fun k_ h_ => h_)) (below_size (by repeat (first | (with_reducible first | exact HB.out | apply below_alloc | apply pw_below_drewN | apply below_drew1 | refine below_set ?_ (IsS88.ge HI232.out) | refine below_set ?_ GE228.out) | exact HB.out))))
          have n3_ := Aside0.mk (hb)
          have n4_ := Aside0.mk (hi)
          clear HO_229004
          clear BK228
          clear HB
          clear HI232
          have HO_229004 := n0_
          have BK228 := n1_
          have HO239 := n2_
          have HB := n3_
          have HI232 := n4_
          clear n0_ n1_ n2_ n3_ n4_
          (try clear hb)
          (try clear hb2)
          (try clear hk)
          (try clear hi)
          (try clear hgw)
          (try clear ho0)
          refine hK.out _ _ ⟨(blk_cell BK228.out 0).trans rfl, (blk_cell BK228.out 1).trans rfl, (blk_cell BK228.out 2).trans rfl, (blk_cell BK228.out 3).trans rfl, (blk_cell BK228.out 4).trans rfl⟩ (fun hHeld => ?_)
          clear hK K
          refine norm_ (a' := ?_) ?_ ?_
          rotate_left
          · show Act.put _ (some 40) _ = _
            simp only [Act.put, List.setIfInBounds_toArray, List.set_cons_zero, List.set_cons_succ, i64_w, i32_w]
            rfl
          refine one_ (i := 4) (N := some 42) #[true, true, true, true, true, true, false, false, false, true] rfl rfl (one_of HT_.out (by kernel_rfl)) (by decide) (fun K hK => ?_)
          refine goes_ Tryd.func21 (by kernel_rfl) rfl #[.pointer (some ⟨g232, 0, none⟩)] (by rfl) rfl rfl (by (try simp only [List.map_toArray, List.map_cons, List.map_nil]); first | done | rfl | (simp only [List.length_drop, List.length_take]; rfl)) ?_
          with_reducible refine (storagebarterplay_Dice_Odd.calls kj8 g232 t230 t240 t241 t242 t243 t244 t245 t248 w _ ?side1 ?side2 A18.out).mono ?_
          (case side1 => repeat (first | (with_reducible first | exact HI232.out | apply IsS88.alloc | apply IsS88.drewN | apply IsS88.drew | apply IsS88.set_1 | refine IsS88.far ?_ NB232_228.out _) | exact HI232.out))
          (case side2 => repeat (first | (with_reducible first | exact HB.out | apply below_alloc | apply pw_below_drewN | apply below_drew1 | refine below_set ?_ (IsS88.ge HI232.out) | refine below_set ?_ GE228.out) | exact HB.out))
          rintro e w23 ⟨v246, rfl, ho0, hi, hb, hk⟩
          refine ⟨_, rfl, ?_⟩
          have n0_ := Aside0.mk (Kd.V_mono (Kd.V_told (Kd.V_oldK (Kd.V_mono (ok := fun k_ => (((((P1_4_ k_ ∨ w.heap.size ≤ k_)) ∧ k_ ≠ gb228) ∧ k_ ≠ g232) ∧ some k_ ≠ (v238 : Value).ownBlock)) (by (with_reducible repeat (first | apply Kd.V_alloc | apply Kd.V_drewN | apply Kd.V_drew)); exact HO_229004.out) (fun k_ hk_ => (⟨hk_, hk_.1.2⟩ : _ ∧ k_ ≠ g232))) hk) (Kd.R_base ho0)) (fun _ h_ => h_.1))
          have n1_ := Aside0.mk (KeepBut.blk hk (g' := gb228) (o := .cells #[.int .i64 a1_0, .int .i64 a1_1, .int .i64 a1_2, .int .i64 a1_3, .slice A1_4 l1_4.length c1_4] 26 (0, 0)) (by (with_reducible repeat (first | refine blk_drewN ?_ _ | refine blk_drew ?_ | refine blk_alloc ?_ _)); exact BK228.out) NB228_232.out (by simp))
          have n2_ := Aside0.mk (Kd.R_mono (Kd.R_told (Kd.R_oldK (IsS88.apart (show IsS88 w _ g232 t230 t240 from by repeat (first | (with_reducible first | exact HI232.out | apply IsS88.alloc | apply IsS88.drewN | apply IsS88.drew | apply IsS88.set_1 | refine IsS88.far ?_ NB232_228.out _) | exact HI232.out)) (by (with_reducible repeat (first | apply Kd.R_alloc | apply Kd.R_drewN | apply Kd.R_drew)); exact HO239.out) (by decide)) hk) (Kd.R_base ho0)) (fun _ h_ => h_.1))
          have n3_ := Aside0.mk (Kd.R_lower (Kd.R_new' (Kd.R_newM (M := fun k_ => (w.heap.size ≤ k_)) ho0 (below_size (by repeat (first | (with_reducible first | exact HB.out | apply below_alloc | apply pw_below_drewN | apply below_drew1 | refine below_set ?_ (IsS88.ge HI232.out) | refine below_set ?_ GE228.out) | exact HB.out))) (fun k_ h_ => h_)) (Kd.R_lt (by (with_reducible repeat (first | apply Kd.R_alloc | apply Kd.R_drewN | apply Kd.R_drew)); exact HO239.out))) (below_size (by repeat (first | (with_reducible first | exact HB.out | apply below_alloc | apply pw_below_drewN | apply below_drew1 | refine below_set ?_ (IsS88.ge HI232.out) | refine below_set ?_ GE228.out) | exact HB.out))))
          have n4_ := Aside0.mk (hb)
          have n5_ := Aside0.mk (hi)
          clear HO_229004
          clear BK228
          clear HO239
          clear HB
          clear HI232
          have HO_229004 := n0_
          have BK228 := n1_
          have HO239 := n2_
          have HO247 := n3_
          have HB := n4_
          have HI232 := n5_
          clear n0_ n1_ n2_ n3_ n4_ n5_
          (try clear hb)
          (try clear hb2)
          (try clear hk)
          (try clear hi)
          (try clear hgw)
          (try clear ho0)
          refine hK.out _ _ ⟨(blk_cell BK228.out 0).trans rfl, (blk_cell BK228.out 1).trans rfl, (blk_cell BK228.out 2).trans rfl, (blk_cell BK228.out 3).trans rfl, (blk_cell BK228.out 4).trans rfl⟩ (fun hHeld => ?_)
          clear hK K
          refine norm_ (a' := ?_) ?_ ?_
          rotate_left
          · show Act.put _ (some 42) _ = _
            simp only [Act.put, List.setIfInBounds_toArray, List.set_cons_zero, List.set_cons_succ, i64_w, i32_w]
            rfl
          refine one_ (i := 6) (N := some 44) #[true, true, true, true, true, true, true, false, false, true] rfl rfl (one_of HT_.out (by kernel_rfl)) (by decide) (fun K hK => ?_)
          refine goes_ Tryd.func18 (by kernel_rfl) rfl #[.pointer (some ⟨g232, 0, none⟩), .int .i64 4] (by rfl) rfl rfl (by (try simp only [List.map_toArray, List.map_cons, List.map_nil]); first | done | rfl | (simp only [List.length_drop, List.length_take]; rfl)) ?_
          with_reducible refine (storagebarterplay_Dice_Arrangement.calls kj8 g232 t230 t248 4 t249 t250 t251 t252 t253 t256 w _ ?side1 ?side2 A19.out).mono ?_
          (case side1 => repeat (first | (with_reducible first | exact HI232.out | apply IsS88.alloc | apply IsS88.drewN | apply IsS88.drew | apply IsS88.set_1 | refine IsS88.far ?_ NB232_228.out _) | exact HI232.out))
          (case side2 => repeat (first | (with_reducible first | exact HB.out | apply below_alloc | apply pw_below_drewN | apply below_drew1 | refine below_set ?_ (IsS88.ge HI232.out) | refine below_set ?_ GE228.out) | exact HB.out))
          rintro e w24 ⟨v254, rfl, ho0, hi, hb, hk⟩
          refine ⟨_, rfl, ?_⟩
          have n0_ := Aside0.mk (Kd.V_mono (Kd.V_told (Kd.V_oldK (Kd.V_mono (ok := fun k_ => ((((((P1_4_ k_ ∨ w.heap.size ≤ k_)) ∧ k_ ≠ gb228) ∧ k_ ≠ g232) ∧ some k_ ≠ (v238 : Value).ownBlock) ∧ some k_ ≠ (v246 : Value).ownBlock)) (by (with_reducible repeat (first | apply Kd.V_alloc | apply Kd.V_drewN | apply Kd.V_drew)); exact HO_229004.out) (fun k_ hk_ => (⟨hk_, hk_.1.1.2⟩ : _ ∧ k_ ≠ g232))) hk) (Kd.R_base ho0)) (fun _ h_ => h_.1))
          have n1_ := Aside0.mk (KeepBut.blk hk (g' := gb228) (o := .cells #[.int .i64 a1_0, .int .i64 a1_1, .int .i64 a1_2, .int .i64 a1_3, .slice A1_4 l1_4.length c1_4] 26 (0, 0)) (by (with_reducible repeat (first | refine blk_drewN ?_ _ | refine blk_drew ?_ | refine blk_alloc ?_ _)); exact BK228.out) NB228_232.out (by simp))
          have n2_ := Aside0.mk (Kd.R_mono (Kd.R_told (Kd.R_oldK (IsS88.apart (show IsS88 w _ g232 t230 t248 from by repeat (first | (with_reducible first | exact HI232.out | apply IsS88.alloc | apply IsS88.drewN | apply IsS88.drew | apply IsS88.set_1 | refine IsS88.far ?_ NB232_228.out _) | exact HI232.out)) (by (with_reducible repeat (first | apply Kd.R_alloc | apply Kd.R_drewN | apply Kd.R_drew)); exact HO239.out) (by decide)) hk) (Kd.R_base ho0)) (fun _ h_ => h_.1))
          have n3_ := Aside0.mk (Kd.R_mono (Kd.R_told (Kd.R_oldK (IsS88.apart (show IsS88 w _ g232 t230 t248 from by repeat (first | (with_reducible first | exact HI232.out | apply IsS88.alloc | apply IsS88.drewN | apply IsS88.drew | apply IsS88.set_1 | refine IsS88.far ?_ NB232_228.out _) | exact HI232.out)) (by (with_reducible repeat (first | apply Kd.R_alloc | apply Kd.R_drewN | apply Kd.R_drew)); exact HO247.out) (by decide)) hk) (Kd.R_base ho0)) (fun _ h_ => h_.1))
          have n4_ := Aside0.mk (Kd.R_lower (Kd.R_new' (Kd.R_new' (Kd.R_newM (M := fun k_ => (w.heap.size ≤ k_)) ho0 (below_size (by repeat (first | (with_reducible first | exact HB.out | apply below_alloc | apply pw_below_drewN | apply below_drew1 | refine below_set ?_ (IsS88.ge HI232.out) | refine below_set ?_ GE228.out) | exact HB.out))) (fun k_ h_ => h_)) (Kd.R_lt (by (with_reducible repeat (first | apply Kd.R_alloc | apply Kd.R_drewN | apply Kd.R_drew)); exact HO239.out))) (Kd.R_lt (by (with_reducible repeat (first | apply Kd.R_alloc | apply Kd.R_drewN | apply Kd.R_drew)); exact HO247.out))) (below_size (by repeat (first | (with_reducible first | exact HB.out | apply below_alloc | apply pw_below_drewN | apply below_drew1 | refine below_set ?_ (IsS88.ge HI232.out) | refine below_set ?_ GE228.out) | exact HB.out))))
          have n5_ := Aside0.mk (hb)
          have n6_ := Aside0.mk (hi)
          clear HO_229004
          clear BK228
          clear HO239
          clear HO247
          clear HB
          clear HI232
          have HO_229004 := n0_
          have BK228 := n1_
          have HO239 := n2_
          have HO247 := n3_
          have HO255 := n4_
          have HB := n5_
          have HI232 := n6_
          clear n0_ n1_ n2_ n3_ n4_ n5_ n6_
          (try clear hb)
          (try clear hb2)
          (try clear hk)
          (try clear hi)
          (try clear hgw)
          (try clear ho0)
          obtain ⟨Ao25, co25, eo25⟩ := Kd.R_slice HO239.out
          (first | subst eo25 | (injection eo25 with f1_ f2_ f3_; have f4_ := f1_.symm; have f5_ := f3_.symm; clear f1_ f2_ f3_; subst f4_; subst f5_))
          obtain ⟨Ao26, co26, eo26⟩ := Kd.R_slice HO247.out
          (first | subst eo26 | (injection eo26 with f1_ f2_ f3_; have f4_ := f1_.symm; have f5_ := f3_.symm; clear f1_ f2_ f3_; subst f4_; subst f5_))
          obtain ⟨Ao27, co27, eo27⟩ := Kd.R_slice HO255.out
          (first | subst eo27 | (injection eo27 with f1_ f2_ f3_; have f4_ := f1_.symm; have f5_ := f3_.symm; clear f1_ f2_ f3_; subst f4_; subst f5_))
          refine hK.out _ _ ⟨(blk_cell BK228.out 0).trans rfl, (blk_cell BK228.out 1).trans rfl, (blk_cell BK228.out 2).trans rfl, (blk_cell BK228.out 3).trans rfl, (blk_cell BK228.out 4).trans rfl⟩ (fun hHeld => ?_)
          clear hK K
          refine norm_ (a' := ?_) ?_ ?_
          rotate_left
          · show Act.put _ (some 44) _ = _
            simp only [Act.put, List.setIfInBounds_toArray, List.set_cons_zero, List.set_cons_succ, i64_w, i32_w]
            rfl
          refine one_ (i := 7) (N := some 45) #[true, true, true, true, true, true, true, true, false, true] rfl rfl (one_of HT_.out (by kernel_rfl)) (by decide) (fun K hK => ?_)
          refine Kd.N_lit_step k26 _ 26 ?hg (N' := 45) ?hd (xs := ([(⟨a1_0, a1_1, a1_2, a1_3, l1_4⟩ : S26), (⟨t233, t234, t235, t236, t237⟩ : S26), (⟨t241, t242, t243, t244, t245⟩ : S26), (⟨t249, t250, t251, t252, t253⟩ : S26)] : List (S26))) (inner := [.int .i64 a1_0, .int .i64 a1_1, .int .i64 a1_2, .int .i64 a1_3, .slice A1_4 l1_4.length c1_4, .int .i64 t233, .int .i64 t234, .int .i64 t235, .int .i64 t236, .slice Ao25 t237.length co25, .int .i64 t241, .int .i64 t242, .int .i64 t243, .int .i64 t244, .slice Ao26 t245.length co26, .int .i64 t249, .int .i64 t250, .int .i64 t251, .int .i64 t252, .slice Ao27 t253.length co27]) (ok := (fun k_ => (P1_4_ k_ ∨ w.heap.size ≤ k_) ∧ k_ ≠ gb228 ∧ k_ ≠ g232)) (okp := (fun k_ => (P1_4_ k_ ∨ w.heap.size ≤ k_) ∧ k_ ≠ gb228 ∧ k_ ≠ g232)) ?hr ?hp (fun _ hk => hk) ((show ∀ k_, w24.heap.size ≤ k_ → (fun k_ => (P1_4_ k_ ∨ w.heap.size ≤ k_) ∧ k_ ≠ gb228 ∧ k_ ≠ g232) k_ from fun k_ hk => ⟨(.inr (Nat.le_trans (below_size (by repeat (first | (with_reducible first | exact HB.out | apply below_alloc | apply pw_below_drewN | apply below_drew1 | refine below_set ?_ (IsS88.ge HI232.out) | refine below_set ?_ GE228.out) | exact HB.out))) hk)), Kd.freshB (g := gb228) (o := .cells #[.int .i64 a1_0, .int .i64 a1_1, .int .i64 a1_2, .int .i64 a1_3, .slice A1_4 l1_4.length c1_4] 26 (0, 0)) (by (with_reducible repeat (first | refine blk_drewN ?_ _ | refine blk_drew ?_ | refine blk_alloc ?_ _)); exact BK228.out) k_ hk, IsS88.fresh (by repeat (first | (with_reducible first | exact HI232.out | apply IsS88.alloc | apply IsS88.drewN | apply IsS88.drew | apply IsS88.set_1 | refine IsS88.far ?_ NB232_228.out _) | exact HI232.out)) k_ hk⟩) _ (Nat.le_refl _)) (Below.refl _ _) (Nat.le_refl _) (by simp) ?_; (case hd => rfl); (case hg => rfl); (case hr => first | (go_simp; done) | (go_simp; rfl)); (case hp => exact (Reps.c5 (show Kd.FK k26 _ _ (⟨a1_0, a1_1, a1_2, a1_3, l1_4⟩ : S26) [.int .i64 a1_0, .int .i64 a1_1, .int .i64 a1_2, .int .i64 a1_3, .slice A1_4 l1_4.length c1_4] from (k26_mkF _ _ (⟨a1_0, a1_1, a1_2, a1_3, l1_4⟩ : S26) (Kd.V_reads' (Kd.V_mono (ok' := (fun k_ => (P1_4_ k_ ∨ w.heap.size ≤ k_) ∧ k_ ≠ gb228 ∧ k_ ≠ g232)) (HO_229004.out) (fun k_ hk => ⟨hk.1.1.1.1.1, ⟨hk.1.1.1.1.2, hk.1.1.1.2⟩⟩))).2.1 (Kd.V_F (Kd.V_mono (ok' := (fun k_ => (P1_4_ k_ ∨ w.heap.size ≤ k_) ∧ k_ ≠ gb228 ∧ k_ ≠ g232)) (HO_229004.out) (fun k_ hk => ⟨hk.1.1.1.1.1, ⟨hk.1.1.1.1.2, hk.1.1.1.2⟩⟩))))) (Reps.c5 (show Kd.FK k26 _ _ (⟨t233, t234, t235, t236, t237⟩ : S26) [.int .i64 t233, .int .i64 t234, .int .i64 t235, .int .i64 t236, .slice Ao25 t237.length co25] from (k26_mkF _ _ (⟨t233, t234, t235, t236, t237⟩ : S26) (Kd.R_reads' (Kd.R_mono (ok' := (fun k_ => (P1_4_ k_ ∨ w.heap.size ≤ k_) ∧ k_ ≠ gb228 ∧ k_ ≠ g232)) (IsS88.apart HI232.out (Kd.R_types (HO239.out) BK228.out (by decide)) (by decide)) (fun k_ hk => ⟨(.inr (hk.1.1.1.1.1)), ⟨hk.1.2, hk.2⟩⟩))).2.1 (Kd.R_F (Kd.R_mono (ok' := (fun k_ => (P1_4_ k_ ∨ w.heap.size ≤ k_) ∧ k_ ≠ gb228 ∧ k_ ≠ g232)) (IsS88.apart HI232.out (Kd.R_types (HO239.out) BK228.out (by decide)) (by decide)) (fun k_ hk => ⟨(.inr (hk.1.1.1.1.1)), ⟨hk.1.2, hk.2⟩⟩))))) (Reps.c5 (show Kd.FK k26 _ _ (⟨t241, t242, t243, t244, t245⟩ : S26) [.int .i64 t241, .int .i64 t242, .int .i64 t243, .int .i64 t244, .slice Ao26 t245.length co26] from (k26_mkF _ _ (⟨t241, t242, t243, t244, t245⟩ : S26) (Kd.R_reads' (Kd.R_mono (ok' := (fun k_ => (P1_4_ k_ ∨ w.heap.size ≤ k_) ∧ k_ ≠ gb228 ∧ k_ ≠ g232)) (IsS88.apart HI232.out (Kd.R_types (HO247.out) BK228.out (by decide)) (by decide)) (fun k_ hk => ⟨(.inr (hk.1.1.1.1.1)), ⟨hk.1.2, hk.2⟩⟩))).2.1 (Kd.R_F (Kd.R_mono (ok' := (fun k_ => (P1_4_ k_ ∨ w.heap.size ≤ k_) ∧ k_ ≠ gb228 ∧ k_ ≠ g232)) (IsS88.apart HI232.out (Kd.R_types (HO247.out) BK228.out (by decide)) (by decide)) (fun k_ hk => ⟨(.inr (hk.1.1.1.1.1)), ⟨hk.1.2, hk.2⟩⟩))))) (Reps.c5 (show Kd.FK k26 _ _ (⟨t249, t250, t251, t252, t253⟩ : S26) [.int .i64 t249, .int .i64 t250, .int .i64 t251, .int .i64 t252, .slice Ao27 t253.length co27] from (k26_mkF _ _ (⟨t249, t250, t251, t252, t253⟩ : S26) (Kd.R_reads' (Kd.R_mono (ok' := (fun k_ => (P1_4_ k_ ∨ w.heap.size ≤ k_) ∧ k_ ≠ gb228 ∧ k_ ≠ g232)) (IsS88.apart HI232.out (Kd.R_types (HO255.out) BK228.out (by decide)) (by decide)) (fun k_ hk => ⟨(.inr (hk.1.1.1.1.1)), ⟨hk.1.2, hk.2⟩⟩))).2.1 (Kd.R_F (Kd.R_mono (ok' := (fun k_ => (P1_4_ k_ ∨ w.heap.size ≤ k_) ∧ k_ ≠ gb228 ∧ k_ ≠ g232)) (IsS88.apart HI232.out (Kd.R_types (HO255.out) BK228.out (by decide)) (by decide)) (fun k_ hk => ⟨(.inr (hk.1.1.1.1.1)), ⟨hk.1.2, hk.2⟩⟩))))) (Reps.none _ _))))))
          intro v258 w28 ho29 hb hg_ hnew_
          clear hg_ hnew_
          (first | rw [← Ny257.out] at ho29 | (simp only [Int.reduceToNat] at ho29; rw [← Ny257.out] at ho29))
          have n0_ := Aside0.mk (Kd.V_elder' (by (with_reducible repeat (first | apply Kd.V_alloc | apply Kd.V_drewN | apply Kd.V_drew)); exact HO_229004.out) (Kd.N_base ho29) hb)
          have n1_ := Aside0.mk (Kd.N_lower ho29 (below_size (by repeat (first | (with_reducible first | exact HB.out | apply below_alloc | apply pw_below_drewN | apply below_drew1 | refine below_set ?_ (IsS88.ge HI232.out) | refine below_set ?_ GE228.out) | exact HB.out))))
          have n2_ := Aside0.mk (blk_below (g := gb228) (o := .cells #[.int .i64 a1_0, .int .i64 a1_1, .int .i64 a1_2, .int .i64 a1_3, .slice A1_4 l1_4.length c1_4] 26 (0, 0)) (by (with_reducible repeat (first | refine blk_drewN ?_ _ | refine blk_drew ?_ | refine blk_alloc ?_ _)); exact BK228.out) hb)
          have n3_ := Aside0.mk (IsS88.below (by repeat (first | (with_reducible first | exact HI232.out | apply IsS88.alloc | apply IsS88.drewN | apply IsS88.drew | apply IsS88.set_1 | refine IsS88.far ?_ NB232_228.out _) | exact HI232.out)) hb)
          have n4_ := Aside0.mk (below_step (by repeat (first | (with_reducible first | exact HB.out | apply below_alloc | apply pw_below_drewN | apply below_drew1 | refine below_set ?_ (IsS88.ge HI232.out) | refine below_set ?_ GE228.out) | exact HB.out)) hb)
          clear HO_229004
          clear BK228
          clear HI232
          clear HB
          clear HO239
          clear HO247
          clear HO255
          have HO_229004 := n0_
          have HO259 := n1_
          have BK228 := n2_
          have HI232 := n3_
          have HB := n4_
          clear n0_ n1_ n2_ n3_ n4_
          clear hb ho29
          obtain ⟨Ao30, co30, eo30⟩ := Kd.N_slice HO259.out
          (first | subst eo30 | (injection eo30 with f1_ f2_ f3_; have f4_ := f1_.symm; have f5_ := f3_.symm; clear f1_ f2_ f3_; subst f4_; subst f5_))
          refine hK.out _ _ ⟨(blk_cell BK228.out 0).trans rfl, (blk_cell BK228.out 1).trans rfl, (blk_cell BK228.out 2).trans rfl, (blk_cell BK228.out 3).trans rfl, (blk_cell BK228.out 4).trans rfl⟩ (fun hHeld => ?_)
          clear hK K
          refine norm_ (a' := ?_) ?_ ?_
          rotate_left
          · show Act.put _ (some 45) _ = _
            simp only [Act.put, List.setIfInBounds_toArray, List.set_cons_zero, List.set_cons_succ, i64_w, i32_w]
            rfl
          refine pure_ (i := 8) (N := some 46) (v := ?_) (a' := ?_) #[true, true, true, true, true, true, true, true, true, true] rfl rfl (any_of HT_.out (by kernel_rfl)) (fun _ _ _ h => h) (Or.inl ⟨by rfl, ?_⟩) ?_ ?_
          rotate_left
          · intro w'
            go_simp
            with_reducible rfl
          rotate_left
          · simp only [Act.put, List.setIfInBounds_toArray, List.set_cons_zero, List.set_cons_succ, i64_w, i32_w]
            rfl
          refine done_ (done_of HT_.out (by kernel_rfl)) ?_
          try go_wp2
          go_loopg [47] kj8 (fun kq v47 w' => ∃ (x47_2 : Int), v47 = .int .i64 x47_2 ∧ Aside0 (storagebarterlaw28_DutySteps.l0 kq a2 a3 a4 l5 y257 (y257.length : Int) x47_2 = some r) ∧ Aside0 (kq ≤ kj8) ∧ Aside0 (Kd.N k26 26 w' w.heap.size (fun k_ => (P1_4_ k_ ∨ w.heap.size ≤ k_) ∧ k_ ≠ gb228) (.slice Ao30 y257.length co30) y257) ∧ Aside0 (Kd.V (Kd.int .i64) 3 w' w.heap.size (fun k_ => (P1_4_ k_ ∨ w.heap.size ≤ k_) ∧ some k_ ≠ ((.slice Ao30 y257.length co30) : Value).ownBlock ∧ k_ ≠ gb228) (.slice A1_4 l1_4.length c1_4) l1_4) ∧ Aside0 (w'.heap[gb228]? = some (.cells #[.int .i64 a1_0, .int .i64 a1_1, .int .i64 a1_2, .int .i64 a1_3, (.slice A1_4 l1_4.length c1_4)] 26 (0, 0))) ∧ Aside0 (Below w.heap.size w w'))
          case atStart => exact ⟨(0), (by first | rfl | (simp; done) | (simp [*]; done)), H', ⟨Nat.le_refl _⟩, ⟨by (with_reducible repeat (first | apply Kd.N_alloc | apply Kd.N_drewN | apply Kd.N_drew)); exact Kd.N_mono HO259.out (fun _ hk => ⟨hk.1, hk.2.1⟩)⟩, ⟨by (with_reducible repeat (first | apply Kd.V_alloc | apply Kd.V_drewN | apply Kd.V_drew)); exact Kd.V_mono HO_229004.out (fun _ hk => ⟨hk.1.1.1.1.1.1, ⟨hk.2, hk.1.1.1.1.1.2⟩⟩)⟩, ⟨by (with_reducible repeat (first | refine blk_drewN ?_ _ | refine blk_drew ?_ | refine blk_alloc ?_ _)); exact BK228.out⟩, ⟨by repeat (first | (with_reducible first | exact HB.out | apply below_alloc | apply pw_below_drewN | apply below_drew1 | refine below_set ?_ (IsS88.ge HI232.out) | refine below_set ?_ GE228.out) | exact HB.out)⟩⟩
          case round =>
            clear H'
            try clear c1
            try clear c2
            try clear p2
            try clear c5
            try clear c8
            try clear c12
            try clear c12b0
            try clear c12b1
            try clear c15
            try clear c16
            try clear c17
            try clear c18
            try clear c21
            try clear hcz13_0
            try clear hcz13_1
            try clear hcz13_2
            try clear hcz13_3
            try clear hcz13_4
            try clear hcz14_0
            try clear hcz14_1
            try clear hcz14_2
            try clear hcz14_3
            try clear hcz14_4
            try clear hfz13_0
            try clear hfz13_1
            try clear hfz13_2
            try clear hfz13_3
            try clear hfz13_4
            try clear hfz14_0
            try clear hfz14_1
            try clear hfz14_2
            try clear hfz14_3
            try clear hfz14_4
            try clear p2
            obtain ⟨x47_2, rfl, HA, HK2, HO_45, HO_229004, BK228, HB⟩ := hrel
            cases gk with
            | zero => exact absurd HA.out (by simp [storagebarterlaw28_DutySteps.l0])
            | succ k2 =>
              have H := HA.out
              clear HA
              simp only [storagebarterlaw28_DutySteps.l0] at H
              by_cases c31 : x47_2 < (y257.length : Int)
              · rw [if_pos c31] at H
                have c31b0 : decide (x47_2 < (y257.length : Int)) = true := decide_eq_true c31
                clear c31
                by_cases c32 : 0 ≤ x47_2
                · rw [if_pos c32] at H
                  have c32b0 : decide (0 ≤ x47_2) = true := decide_eq_true c32
                  clear c32
                  by_cases c33 : x47_2 < (y257.length : Int)
                  · rw [if_pos c33] at H
                    have c33b0 : decide (x47_2 < (y257.length : Int)) = true := decide_eq_true c33
                    clear c33
                    replace H := Option.bind_eq_some_iff.mp H
                    obtain ⟨t262, A340, H⟩ := H
                    replace H : ((storagebarterref28_Valid.f k2 ((rd_T26 y257 x47_2).f0) ((rd_T26 y257 x47_2).f1) ((rd_T26 y257 x47_2).f2) ((rd_T26 y257 x47_2).f3) ((rd_T26 y257 x47_2).f4)).bind fun t263 => (if (t262 != t263) = true then (some false) else ((some (([a2, 0, 5, 6, (-1)] : List Int) : List Int)).bind fun y264 => (storagebarterlaw28_DutySteps.l1 k2 a2 a3 a4 l5 y257 (y257.length : Int) x47_2 y264 (y264.length : Int) 0 ((rd_T26 y257 x47_2).f0) ((rd_T26 y257 x47_2).f1) ((rd_T26 y257 x47_2).f2) ((rd_T26 y257 x47_2).f3) ((rd_T26 y257 x47_2).f4))))) = some r := H
                    have A34 := Aside0.mk A340
                    clear A340
                    replace H := Option.bind_eq_some_iff.mp H
                    obtain ⟨t263, A350, H⟩ := H
                    replace H : (if (t262 != t263) = true then (some false) else ((some (([a2, 0, 5, 6, (-1)] : List Int) : List Int)).bind fun y264 => (storagebarterlaw28_DutySteps.l1 k2 a2 a3 a4 l5 y257 (y257.length : Int) x47_2 y264 (y264.length : Int) 0 ((rd_T26 y257 x47_2).f0) ((rd_T26 y257 x47_2).f1) ((rd_T26 y257 x47_2).f2) ((rd_T26 y257 x47_2).f3) ((rd_T26 y257 x47_2).f4)))) = some r := H
                    have A35 := Aside0.mk A350
                    clear A350
                    by_cases c36 : (t262 != t263) = true
                    · rw [if_pos c36] at H
                      have c36b0 : (t262 != t263) = true := c36
                      (try (have c36b1 : decide (t262 = t263) = false := by simpa using c36))
                      (try (have c36b2 : (t262 == t263) = false := by simpa using c36))
                      (try (have c36b3 : ¬ (t262 = t263) := by simpa using c36))
                      clear c36
                      exact absurd (Option.some.inj H) (by rw [HRT_.out]; decide)
                    · rw [if_neg c36] at H
                      have c36b0 : (t262 != t263) = false := by simpa using c36
                      (try (have c36b1 : decide (t262 = t263) = true := by simpa using c36))
                      (try (have c36b2 : (t262 == t263) = true := by simpa using c36))
                      clear c36
                      obtain ⟨y264, hy264⟩ : ∃ y_ : List Int, y_ = (([a2, 0, 5, 6, (-1)] : List Int)) := ⟨_, rfl⟩
                      replace H : (storagebarterlaw28_DutySteps.l1 k2 a2 a3 a4 l5 y257 (y257.length : Int) x47_2 y264 (y264.length : Int) 0 ((rd_T26 y257 x47_2).f0) ((rd_T26 y257 x47_2).f1) ((rd_T26 y257 x47_2).f2) ((rd_T26 y257 x47_2).f3) ((rd_T26 y257 x47_2).f4)) = some r := by first | (rw [hy264]; with_reducible exact H) | (have H2_ := (Option.bind_some _ _).symm.trans H; rw [hy264]; with_reducible exact H2_) | (have H2_ := (Option.bind_some _ _).symm.trans H; with_reducible exact H2_) | with_reducible exact H | (rw [hy264]; exact H) | exact H
                      have Ny264 := Aside0.mk hy264
                      clear hy264
                      have H' := Aside0.mk H
                      clear H
                      have p260 : 0 ≤ (x47_2 : Int) := of_decide_eq_true (by first | (with_reducible assumption) | assumption)
                      have q260 : x47_2 < (y257.length : Int) := of_decide_eq_true (by first | (with_reducible assumption) | assumption)
                      obtain ⟨ad260, A260_4, c260_4, e260, hx260_0, hx260_1, hx260_2, hx260_3, hx260_4, hl260_4, hi260_4⟩ := at_T26 (Kd.N_reads' HO_45.out).2.2 x47_2 p260 q260
                      cases e260
                      obtain ⟨ce260, hce260, hMe260, hcc260⟩ := Kd.N_get HO_45.out z26 x47_2 p260 (by first | exact q260 | exact of_decide_eq_true (by first | (with_reducible assumption) | assumption) | (have e_ := (Kd.N_reads' HO_45.out).1; omega))
                      obtain ⟨ua260_4, uc260_4, rfl, ul260_4, ge260_4⟩ := k26_openF hMe260
                      have hv260_4 := hcc260 4 _ rfl
                      rw [add_field _ _ 4 (by omega)] at hv260_4
                      replace hv260_4 := Option.some.inj (hv260_4.symm.trans hx260_4)
                      injection hv260_4 with hva_ hvn_ hvc_
                      rw [hva_] at ge260_4
                      rw [hvc_] at ul260_4
                      have HL260_4 := Aside0.mk (show Kd.V (Kd.int .i64) 3 _ w.heap.size _ _ ((rd_T26 y257 x47_2).f4) from Kd.V_mk ul260_4 ge260_4)
                      clear hva_ hvn_ hvc_ ge260_4 ul260_4
                      clear hcc260 hce260
                      have HR260_4 := Aside0.mk hi260_4
                      have HC260_4 := Aside0.mk hl260_4
                      clear hi260_4 hl260_4
                      replace p260 := eq_true p260
                      replace q260 := eq_true q260
                      try go_wp2_with (first | ((with_reducible refine gate_dst (N := 15) rfl ?_); (try (refine gate_guard (by rfl) ?_; dsimp only)); refine box_event ?hg (N := 15) ?hd (cs := #[.int .i64 0, .int .i64 0, .int .i64 0, .int .i64 0, .slice none 0 0]) (t := 26) ?hr ?_; (case hd => rfl); (case hg => rfl); (case hr => first | (go_simp; done) | (go_simp; rfl)); intro gb261 hg w37 hbox hb; have n0_ := Aside0.mk (Kd.N_below (Kd.N_elderB (by (with_reducible repeat (first | apply Kd.N_alloc | apply Kd.N_drewN | apply Kd.N_drew)); exact HO_45.out) gb261 (Nat.le_of_eq hg.symm)) hb); have n1_ := Aside0.mk (Kd.V_below (Kd.V_elderB (by (with_reducible repeat (first | apply Kd.V_alloc | apply Kd.V_drewN | apply Kd.V_drew)); exact HO_229004.out) gb261 (Nat.le_of_eq hg.symm)) hb); have n2_ := Aside0.mk (Kd.V_below (Kd.V_elderB (by (with_reducible repeat (first | apply Kd.V_alloc | apply Kd.V_drewN | apply Kd.V_drew)); exact HL260_4.out) gb261 (Nat.le_of_eq hg.symm)) hb); have n3_ := Aside0.mk (blk_below (g := gb228) (o := .cells #[.int .i64 a1_0, .int .i64 a1_1, .int .i64 a1_2, .int .i64 a1_3, .slice A1_4 l1_4.length c1_4] 26 (0, 0)) (by (with_reducible repeat (first | refine blk_drewN ?_ _ | refine blk_drew ?_ | refine blk_alloc ?_ _)); exact BK228.out) hb); have n4_ := Aside0.mk (Kd.C_below (by repeat (first | (with_reducible exact HR260_4.out) | (with_reducible refine Kd.C_alloc ?_ _) | (with_reducible refine Kd.C_drewN ?_ _) | (with_reducible refine Kd.C_drew ?_) | exact HR260_4.out)) hb); have n5_ := Aside0.mk (below_step (by repeat (first | (with_reducible first | exact HB.out | apply below_alloc | apply pw_below_drewN | apply below_drew1 | refine below_set ?_ GE228.out) | exact HB.out)) hb); have n6_ := Aside0.mk (hbox); have n7_ := Aside0.mk ((by rw [hg]; exact (below_size (by repeat (first | (with_reducible first | exact HB.out | apply below_alloc | apply pw_below_drewN | apply below_drew1 | refine below_set ?_ GE228.out) | exact HB.out))) : w.heap.size ≤ gb261)); have n8_ := Aside0.mk ((by rw [hg]; exact (below_size (by repeat (first | (with_reducible first | exact HB.out | apply below_alloc | apply pw_below_drewN | apply below_drew1 | refine below_set ?_ GE228.out) | exact HB.out))) : w.heap.size ≤ gb261)); have n9_ := Aside0.mk ((by rw [hg]; exact Nat.ne_of_lt (blk_lt (g := gb228) (o := .cells #[.int .i64 a1_0, .int .i64 a1_1, .int .i64 a1_2, .int .i64 a1_3, .slice A1_4 l1_4.length c1_4] 26 (0, 0)) (by (with_reducible repeat (first | refine blk_drewN ?_ _ | refine blk_drew ?_ | refine blk_alloc ?_ _)); exact BK228.out)) : gb228 ≠ gb261)); have n10_ := Aside0.mk ((by rw [hg]; exact Nat.ne_of_gt (blk_lt (g := gb228) (o := .cells #[.int .i64 a1_0, .int .i64 a1_1, .int .i64 a1_2, .int .i64 a1_3, .slice A1_4 l1_4.length c1_4] 26 (0, 0)) (by (with_reducible repeat (first | refine blk_drewN ?_ _ | refine blk_drew ?_ | refine blk_alloc ?_ _)); exact BK228.out)) : gb261 ≠ gb228)); clear HO_45; clear HO_229004; clear HL260_4; clear BK228; clear HR260_4; clear HB; have HO_45 := n0_; have HO_229004 := n1_; have HL260_4 := n2_; have BK228 := n3_; have HR260_4 := n4_; have HB := n5_; have BK261 := n6_; have GW261 := n7_; have GE261 := n8_; have NB228_261 := n9_; have NB261_228 := n10_; clear n0_ n1_ n2_ n3_ n4_ n5_ n6_ n7_ n8_ n9_ n10_; clear hb hbox hg; have hnb38 := NB261_228.out; have hnc38 := NB228_261.out; have hcz39_0 : w37.cell? ⟨gb261, 0, none⟩ = some (.int .i64 0) := (blk_cell BK261.out 0).trans rfl; have hcz39_1 : w37.cell? ⟨gb261, 1, none⟩ = some (.int .i64 0) := (blk_cell BK261.out 1).trans rfl; have hcz39_2 : w37.cell? ⟨gb261, 2, none⟩ = some (.int .i64 0) := (blk_cell BK261.out 2).trans rfl; have hcz39_3 : w37.cell? ⟨gb261, 3, none⟩ = some (.int .i64 0) := (blk_cell BK261.out 3).trans rfl; have hcz39_4 : w37.cell? ⟨gb261, 4, none⟩ = some (.slice none 0 0) := (blk_cell BK261.out 4).trans rfl; have hfz39_0 := blk_frozen BK261.out 0; have hfz39_1 := blk_frozen BK261.out 1; have hfz39_2 := blk_frozen BK261.out 2; have hfz39_3 := blk_frozen BK261.out 3; have hfz39_4 := blk_frozen BK261.out 4))
                      have n0_ : Aside0 (Kd.N k26 26 (((((w37.setCell ⟨gb261, 0, none⟩ (.int .i64 ((rd_T26 y257 x47_2).f0))).setCell ⟨gb261, 1, none⟩ (.int .i64 ((rd_T26 y257 x47_2).f1))).setCell ⟨gb261, 2, none⟩ (.int .i64 ((rd_T26 y257 x47_2).f2))).setCell ⟨gb261, 3, none⟩ (.int .i64 ((rd_T26 y257 x47_2).f3))).setCell ⟨gb261, 4, none⟩ (.slice A260_4 ((rd_T26 y257 x47_2).f4).length c260_4)) w.heap.size (fun k_ => (P1_4_ k_ ∨ w.heap.size ≤ k_) ∧ k_ ≠ gb228 ∧ k_ ≠ gb261) (.slice (some ad260) y257.length co30) y257) := ⟨by (with_reducible repeat (first | apply Kd.N_alloc | apply Kd.N_drewN | apply Kd.N_drew)); exact Kd.N_mono (Kd.N_far (p := ⟨gb261, 4, none⟩) (Kd.N_far (p := ⟨gb261, 3, none⟩) (Kd.N_far (p := ⟨gb261, 2, none⟩) (Kd.N_far (p := ⟨gb261, 1, none⟩) (Kd.N_far (p := ⟨gb261, 0, none⟩) (Kd.N_mono HO_45.out (fun k_ hk => (⟨hk, hk.2⟩ : _ ∧ k_ ≠ gb261))) (fun _ hk => hk.2) (.int .i64 ((rd_T26 y257 x47_2).f0))) (fun _ hk => hk.2) (.int .i64 ((rd_T26 y257 x47_2).f1))) (fun _ hk => hk.2) (.int .i64 ((rd_T26 y257 x47_2).f2))) (fun _ hk => hk.2) (.int .i64 ((rd_T26 y257 x47_2).f3))) (fun _ hk => hk.2) (.slice A260_4 ((rd_T26 y257 x47_2).f4).length c260_4)) (fun _ hk => ⟨hk.1.1.1, ⟨hk.1.1.2, hk.1.2⟩⟩)⟩
                      have n1_ : Aside0 (Kd.V (Kd.int .i64) 3 (((((w37.setCell ⟨gb261, 0, none⟩ (.int .i64 ((rd_T26 y257 x47_2).f0))).setCell ⟨gb261, 1, none⟩ (.int .i64 ((rd_T26 y257 x47_2).f1))).setCell ⟨gb261, 2, none⟩ (.int .i64 ((rd_T26 y257 x47_2).f2))).setCell ⟨gb261, 3, none⟩ (.int .i64 ((rd_T26 y257 x47_2).f3))).setCell ⟨gb261, 4, none⟩ (.slice A260_4 ((rd_T26 y257 x47_2).f4).length c260_4)) w.heap.size (fun k_ => (P1_4_ k_ ∨ w.heap.size ≤ k_) ∧ some k_ ≠ (.slice (some ad260) y257.length co30 : Value).ownBlock ∧ k_ ≠ gb228 ∧ k_ ≠ gb261) (.slice A1_4 l1_4.length c1_4) l1_4) := ⟨by (with_reducible repeat (first | apply Kd.V_alloc | apply Kd.V_drewN | apply Kd.V_drew)); exact Kd.V_mono (Kd.V_far (p := ⟨gb261, 4, none⟩) (Kd.V_far (p := ⟨gb261, 3, none⟩) (Kd.V_far (p := ⟨gb261, 2, none⟩) (Kd.V_far (p := ⟨gb261, 1, none⟩) (Kd.V_far (p := ⟨gb261, 0, none⟩) (Kd.V_mono HO_229004.out (fun k_ hk => (⟨hk, hk.2⟩ : _ ∧ k_ ≠ gb261))) (fun _ hk => hk.2) (.int .i64 ((rd_T26 y257 x47_2).f0))) (fun _ hk => hk.2) (.int .i64 ((rd_T26 y257 x47_2).f1))) (fun _ hk => hk.2) (.int .i64 ((rd_T26 y257 x47_2).f2))) (fun _ hk => hk.2) (.int .i64 ((rd_T26 y257 x47_2).f3))) (fun _ hk => hk.2) (.slice A260_4 ((rd_T26 y257 x47_2).f4).length c260_4)) (fun _ hk => ⟨hk.1.1.1, ⟨hk.1.1.2.1, ⟨hk.1.1.2.2, hk.1.2⟩⟩⟩)⟩
                      have n2_ : Aside0 (Kd.V (Kd.int .i64) 3 (((((w37.setCell ⟨gb261, 0, none⟩ (.int .i64 ((rd_T26 y257 x47_2).f0))).setCell ⟨gb261, 1, none⟩ (.int .i64 ((rd_T26 y257 x47_2).f1))).setCell ⟨gb261, 2, none⟩ (.int .i64 ((rd_T26 y257 x47_2).f2))).setCell ⟨gb261, 3, none⟩ (.int .i64 ((rd_T26 y257 x47_2).f3))).setCell ⟨gb261, 4, none⟩ (.slice A260_4 ((rd_T26 y257 x47_2).f4).length c260_4)) w.heap.size (fun k_ => (P1_4_ k_ ∨ w.heap.size ≤ k_) ∧ some k_ ≠ (.slice (some ad260) y257.length co30 : Value).ownBlock ∧ k_ ≠ gb228 ∧ k_ ≠ gb261) (.slice A260_4 ((rd_T26 y257 x47_2).f4).length c260_4) ((rd_T26 y257 x47_2).f4)) := ⟨by (with_reducible repeat (first | apply Kd.V_alloc | apply Kd.V_drewN | apply Kd.V_drew)); exact Kd.V_mono (Kd.V_far (p := ⟨gb261, 4, none⟩) (Kd.V_far (p := ⟨gb261, 3, none⟩) (Kd.V_far (p := ⟨gb261, 2, none⟩) (Kd.V_far (p := ⟨gb261, 1, none⟩) (Kd.V_far (p := ⟨gb261, 0, none⟩) (Kd.V_mono HL260_4.out (fun k_ hk => (⟨hk, hk.2⟩ : _ ∧ k_ ≠ gb261))) (fun _ hk => hk.2) (.int .i64 ((rd_T26 y257 x47_2).f0))) (fun _ hk => hk.2) (.int .i64 ((rd_T26 y257 x47_2).f1))) (fun _ hk => hk.2) (.int .i64 ((rd_T26 y257 x47_2).f2))) (fun _ hk => hk.2) (.int .i64 ((rd_T26 y257 x47_2).f3))) (fun _ hk => hk.2) (.slice A260_4 ((rd_T26 y257 x47_2).f4).length c260_4)) (fun _ hk => ⟨hk.1.1.1.1, ⟨hk.1.1.2, ⟨hk.1.1.1.2, hk.1.2⟩⟩⟩)⟩
                      have n3_ : Aside0 ((((((w37.setCell ⟨gb261, 0, none⟩ (.int .i64 ((rd_T26 y257 x47_2).f0))).setCell ⟨gb261, 1, none⟩ (.int .i64 ((rd_T26 y257 x47_2).f1))).setCell ⟨gb261, 2, none⟩ (.int .i64 ((rd_T26 y257 x47_2).f2))).setCell ⟨gb261, 3, none⟩ (.int .i64 ((rd_T26 y257 x47_2).f3))).setCell ⟨gb261, 4, none⟩ (.slice A260_4 ((rd_T26 y257 x47_2).f4).length c260_4)).heap[gb228]? = some (.cells #[.int .i64 a1_0, .int .i64 a1_1, .int .i64 a1_2, .int .i64 a1_3, .slice A1_4 l1_4.length c1_4] 26 (0, 0))) := ⟨by (with_reducible repeat (first | refine blk_drewN ?_ _ | refine blk_drew ?_ | refine blk_alloc ?_ _)); refine blk_far ?_ NB228_261.out _; (with_reducible repeat (first | refine blk_drewN ?_ _ | refine blk_drew ?_ | refine blk_alloc ?_ _)); refine blk_far ?_ NB228_261.out _; (with_reducible repeat (first | refine blk_drewN ?_ _ | refine blk_drew ?_ | refine blk_alloc ?_ _)); refine blk_far ?_ NB228_261.out _; (with_reducible repeat (first | refine blk_drewN ?_ _ | refine blk_drew ?_ | refine blk_alloc ?_ _)); refine blk_far ?_ NB228_261.out _; (with_reducible repeat (first | refine blk_drewN ?_ _ | refine blk_drew ?_ | refine blk_alloc ?_ _)); refine blk_far ?_ NB228_261.out _; (with_reducible repeat (first | refine blk_drewN ?_ _ | refine blk_drew ?_ | refine blk_alloc ?_ _)); exact BK228.out⟩
                      have n4_ : Aside0 ((((((w37.setCell ⟨gb261, 0, none⟩ (.int .i64 ((rd_T26 y257 x47_2).f0))).setCell ⟨gb261, 1, none⟩ (.int .i64 ((rd_T26 y257 x47_2).f1))).setCell ⟨gb261, 2, none⟩ (.int .i64 ((rd_T26 y257 x47_2).f2))).setCell ⟨gb261, 3, none⟩ (.int .i64 ((rd_T26 y257 x47_2).f3))).setCell ⟨gb261, 4, none⟩ (.slice A260_4 ((rd_T26 y257 x47_2).f4).length c260_4)).heap[gb261]? = some (.cells #[.int .i64 ((rd_T26 y257 x47_2).f0), .int .i64 ((rd_T26 y257 x47_2).f1), .int .i64 ((rd_T26 y257 x47_2).f2), .int .i64 ((rd_T26 y257 x47_2).f3), .slice A260_4 ((rd_T26 y257 x47_2).f4).length c260_4] 26 (0, 0))) := ⟨by (with_reducible repeat (first | refine blk_drewN ?_ _ | refine blk_drew ?_ | refine blk_alloc ?_ _)); refine blk_put (cs := #[.int .i64 ((rd_T26 y257 x47_2).f0), .int .i64 ((rd_T26 y257 x47_2).f1), .int .i64 ((rd_T26 y257 x47_2).f2), .int .i64 ((rd_T26 y257 x47_2).f3), .slice none 0 0]) ?_ 4 _ rfl; (with_reducible repeat (first | refine blk_drewN ?_ _ | refine blk_drew ?_ | refine blk_alloc ?_ _)); refine blk_put (cs := #[.int .i64 ((rd_T26 y257 x47_2).f0), .int .i64 ((rd_T26 y257 x47_2).f1), .int .i64 ((rd_T26 y257 x47_2).f2), .int .i64 0, .slice none 0 0]) ?_ 3 _ rfl; (with_reducible repeat (first | refine blk_drewN ?_ _ | refine blk_drew ?_ | refine blk_alloc ?_ _)); refine blk_put (cs := #[.int .i64 ((rd_T26 y257 x47_2).f0), .int .i64 ((rd_T26 y257 x47_2).f1), .int .i64 0, .int .i64 0, .slice none 0 0]) ?_ 2 _ rfl; (with_reducible repeat (first | refine blk_drewN ?_ _ | refine blk_drew ?_ | refine blk_alloc ?_ _)); refine blk_put (cs := #[.int .i64 ((rd_T26 y257 x47_2).f0), .int .i64 0, .int .i64 0, .int .i64 0, .slice none 0 0]) ?_ 1 _ rfl; (with_reducible repeat (first | refine blk_drewN ?_ _ | refine blk_drew ?_ | refine blk_alloc ?_ _)); refine blk_put (cs := #[.int .i64 0, .int .i64 0, .int .i64 0, .int .i64 0, .slice none 0 0]) ?_ 0 _ rfl; (with_reducible repeat (first | refine blk_drewN ?_ _ | refine blk_drew ?_ | refine blk_alloc ?_ _)); exact BK261.out⟩
                      have n5_ : Aside0 (Below w.heap.size w (((((w37.setCell ⟨gb261, 0, none⟩ (.int .i64 ((rd_T26 y257 x47_2).f0))).setCell ⟨gb261, 1, none⟩ (.int .i64 ((rd_T26 y257 x47_2).f1))).setCell ⟨gb261, 2, none⟩ (.int .i64 ((rd_T26 y257 x47_2).f2))).setCell ⟨gb261, 3, none⟩ (.int .i64 ((rd_T26 y257 x47_2).f3))).setCell ⟨gb261, 4, none⟩ (.slice A260_4 ((rd_T26 y257 x47_2).f4).length c260_4))) := ⟨by repeat (first | (with_reducible first | exact HB.out | apply below_alloc | apply pw_below_drewN | apply below_drew1 | refine below_set ?_ GE228.out | refine below_set ?_ GE261.out) | exact HB.out)⟩
                      (try clear HO_45)
                      (try clear HO_229004)
                      (try clear HL260_4)
                      (try clear BK228)
                      (try clear BK261)
                      (try clear HB)
                      generalize (((((w37.setCell ⟨gb261, 0, none⟩ (.int .i64 ((rd_T26 y257 x47_2).f0))).setCell ⟨gb261, 1, none⟩ (.int .i64 ((rd_T26 y257 x47_2).f1))).setCell ⟨gb261, 2, none⟩ (.int .i64 ((rd_T26 y257 x47_2).f2))).setCell ⟨gb261, 3, none⟩ (.int .i64 ((rd_T26 y257 x47_2).f3))).setCell ⟨gb261, 4, none⟩ (.slice A260_4 ((rd_T26 y257 x47_2).f4).length c260_4)) = w40 at n0_ n1_ n2_ n3_ n4_ n5_ ⊢
                      have HO_45 := n0_
                      have HO_229004 := n1_
                      have HL260_4 := n2_
                      have BK228 := n3_
                      have BK261 := n4_
                      have HB := n5_
                      clear n0_ n1_ n2_ n3_ n4_ n5_
                      have n0_ := Aside0.mk (Kd.N_drew HO_45.out)
                      have n1_ := Aside0.mk (Kd.V_drew HO_229004.out)
                      have n2_ := Aside0.mk (Kd.V_drew HL260_4.out)
                      have n3_ := Aside0.mk (blk_drew BK228.out)
                      have n4_ := Aside0.mk (blk_drew BK261.out)
                      have n5_ := Aside0.mk (below_drew1 HB.out)
                      clear HO_45
                      clear HO_229004
                      clear HL260_4
                      clear BK228
                      clear BK261
                      clear HB
                      have HO_45 := n0_
                      have HO_229004 := n1_
                      have HL260_4 := n2_
                      have BK228 := n3_
                      have BK261 := n4_
                      have HB := n5_
                      clear n0_ n1_ n2_ n3_ n4_ n5_
                      refine start_ (n := 5) (S := fun w' => w'.cell? ⟨gb261, 0, none⟩ = some (.int .i64 ((rd_T26 y257 x47_2).f0)) ∧ w'.cell? ⟨gb261, 1, none⟩ = some (.int .i64 ((rd_T26 y257 x47_2).f1)) ∧ w'.cell? ⟨gb261, 2, none⟩ = some (.int .i64 ((rd_T26 y257 x47_2).f2)) ∧ w'.cell? ⟨gb261, 3, none⟩ = some (.int .i64 ((rd_T26 y257 x47_2).f3)) ∧ w'.cell? ⟨gb261, 4, none⟩ = some (.slice A260_4 ((rd_T26 y257 x47_2).f4).length c260_4)) (ds := []) #[false, false, false, false, false] (by kernel_rfl) rfl rfl ⟨(blk_cell BK261.out 0).trans rfl, (blk_cell BK261.out 1).trans rfl, (blk_cell BK261.out 2).trans rfl, (blk_cell BK261.out 3).trans rfl, (blk_cell BK261.out 4).trans rfl⟩ (fun hHeld => ?_)
                      generalize w40.drew = w41 at HO_45 HO_229004 HL260_4 BK228 BK261 HB hHeld ⊢
                      refine take_ (i := 0) (N := some 51) (v := ?_) (a' := ?_) #[true, false, false, false, false] rfl rfl (by kernel_rfl) (fun _ _ _ h => h) (Or.inl ⟨by rfl, ?_⟩) hHeld ?_ ?_
                      rotate_left
                      · rintro w' ⟨s0, s1, s2, s3, s4⟩
                        go_simp
                        with_reducible rfl
                      rotate_left
                      · simp only [Act.put, List.setIfInBounds_toArray, List.set_cons_zero, List.set_cons_succ, i64_w, i32_w]
                        rfl
                      refine take_ (i := 2) (N := some 53) (v := ?_) (a' := ?_) #[true, false, true, false, false] rfl rfl (by kernel_rfl) (fun _ _ _ h => h) (Or.inl ⟨by rfl, ?_⟩) hHeld ?_ ?_
                      rotate_left
                      · rintro w' ⟨s0, s1, s2, s3, s4⟩
                        go_simp
                        with_reducible rfl
                      rotate_left
                      · simp only [Act.put, List.setIfInBounds_toArray, List.set_cons_zero, List.set_cons_succ, i64_w, i32_w]
                        rfl
                      refine one_ (i := 1) (N := some 52) #[true, true, true, false, false] rfl rfl (by kernel_rfl) (by decide) (fun K hK => ?_)
                      refine goes_ Tryd.func22 (by kernel_rfl) rfl #[.agg #[.int .i64 ((rd_T26 y257 x47_2).f0), .int .i64 ((rd_T26 y257 x47_2).f1), .int .i64 ((rd_T26 y257 x47_2).f2), .int .i64 ((rd_T26 y257 x47_2).f3), .slice A260_4 ((rd_T26 y257 x47_2).f4).length c260_4]] (by rfl) rfl rfl (by (try simp only [List.map_toArray, List.map_cons, List.map_nil]); first | done | rfl | (simp only [List.length_drop, List.length_take]; rfl)) ?_
                      with_reducible refine (duty_Valid.calls k2 ((rd_T26 y257 x47_2).f0) ((rd_T26 y257 x47_2).f1) ((rd_T26 y257 x47_2).f2) ((rd_T26 y257 x47_2).f3) _ _ ((rd_T26 y257 x47_2).f4) t262 _ ?side1 ?side2 A34.out).mono ?_
                      (case side1 => repeat (first | exact ((Kd.V_reads' (by (with_reducible repeat (first | apply Kd.V_alloc | apply Kd.V_drewN | apply Kd.V_drew)); exact HL260_4.out)).2.2) | (with_reducible refine Kd.C_alloc ?_ _) | (with_reducible refine Kd.C_drewN ?_ _) | (with_reducible refine Kd.C_drew ?_)))
                      (case side2 => exact HC260_4.out)
                      rintro e w42 ⟨rfl, hb⟩
                      refine ⟨_, rfl, ?_⟩
                      have n0_ := Aside0.mk (Kd.N_below (by (with_reducible repeat (first | apply Kd.N_alloc | apply Kd.N_drewN | apply Kd.N_drew)); exact HO_45.out) hb)
                      have n1_ := Aside0.mk (Kd.V_below (by (with_reducible repeat (first | apply Kd.V_alloc | apply Kd.V_drewN | apply Kd.V_drew)); exact HO_229004.out) hb)
                      have n2_ := Aside0.mk (Kd.V_below (by (with_reducible repeat (first | apply Kd.V_alloc | apply Kd.V_drewN | apply Kd.V_drew)); exact HL260_4.out) hb)
                      have n3_ := Aside0.mk (blk_below (g := gb228) (o := .cells #[.int .i64 a1_0, .int .i64 a1_1, .int .i64 a1_2, .int .i64 a1_3, .slice A1_4 l1_4.length c1_4] 26 (0, 0)) (by (with_reducible repeat (first | refine blk_drewN ?_ _ | refine blk_drew ?_ | refine blk_alloc ?_ _)); exact BK228.out) hb)
                      have n4_ := Aside0.mk (blk_below (g := gb261) (o := .cells #[.int .i64 ((rd_T26 y257 x47_2).f0), .int .i64 ((rd_T26 y257 x47_2).f1), .int .i64 ((rd_T26 y257 x47_2).f2), .int .i64 ((rd_T26 y257 x47_2).f3), .slice A260_4 ((rd_T26 y257 x47_2).f4).length c260_4] 26 (0, 0)) (by (with_reducible repeat (first | refine blk_drewN ?_ _ | refine blk_drew ?_ | refine blk_alloc ?_ _)); exact BK261.out) hb)
                      have n5_ := Aside0.mk (below_step (by repeat (first | (with_reducible first | exact HB.out | apply below_alloc | apply pw_below_drewN | apply below_drew1 | refine below_set ?_ GE228.out | refine below_set ?_ GE261.out) | exact HB.out)) hb)
                      clear HO_45
                      clear HO_229004
                      clear HL260_4
                      clear BK228
                      clear BK261
                      clear HB
                      have HO_45 := n0_
                      have HO_229004 := n1_
                      have HL260_4 := n2_
                      have BK228 := n3_
                      have BK261 := n4_
                      have HB := n5_
                      clear n0_ n1_ n2_ n3_ n4_ n5_
                      (try clear hb)
                      (try clear hb2)
                      (try clear hk)
                      (try clear hi)
                      (try clear hgw)
                      refine hK.out _ _ ⟨(blk_cell BK261.out 0).trans rfl, (blk_cell BK261.out 1).trans rfl, (blk_cell BK261.out 2).trans rfl, (blk_cell BK261.out 3).trans rfl, (blk_cell BK261.out 4).trans rfl⟩ (fun hHeld => ?_)
                      clear hK K
                      refine norm_ (a' := ?_) ?_ ?_
                      rotate_left
                      · show Act.put _ (some 52) _ = _
                        simp only [Act.put, List.setIfInBounds_toArray, List.set_cons_zero, List.set_cons_succ, i64_w, i32_w]
                        rfl
                      refine one_ (i := 3) (N := some 54) #[true, true, true, true, false] rfl rfl (by kernel_rfl) (by decide) (fun K hK => ?_)
                      refine goes_ Tryd.func23 (by kernel_rfl) rfl #[.agg #[.int .i64 ((rd_T26 y257 x47_2).f0), .int .i64 ((rd_T26 y257 x47_2).f1), .int .i64 ((rd_T26 y257 x47_2).f2), .int .i64 ((rd_T26 y257 x47_2).f3), .slice A260_4 ((rd_T26 y257 x47_2).f4).length c260_4]] (by rfl) rfl rfl (by (try simp only [List.map_toArray, List.map_cons, List.map_nil]); first | done | rfl | (simp only [List.length_drop, List.length_take]; rfl)) ?_
                      with_reducible refine (storagebarterref28_Valid.calls k2 ((rd_T26 y257 x47_2).f0) ((rd_T26 y257 x47_2).f1) ((rd_T26 y257 x47_2).f2) ((rd_T26 y257 x47_2).f3) _ _ ((rd_T26 y257 x47_2).f4) t263 _ ?side1 ?side2 A35.out).mono ?_
                      (case side1 => repeat (first | exact ((Kd.V_reads' (by (with_reducible repeat (first | apply Kd.V_alloc | apply Kd.V_drewN | apply Kd.V_drew)); exact HL260_4.out)).2.2) | (with_reducible refine Kd.C_alloc ?_ _) | (with_reducible refine Kd.C_drewN ?_ _) | (with_reducible refine Kd.C_drew ?_)))
                      (case side2 => exact HC260_4.out)
                      rintro e w43 ⟨rfl, hb⟩
                      refine ⟨_, rfl, ?_⟩
                      have n0_ := Aside0.mk (Kd.N_below (by (with_reducible repeat (first | apply Kd.N_alloc | apply Kd.N_drewN | apply Kd.N_drew)); exact HO_45.out) hb)
                      have n1_ := Aside0.mk (Kd.V_below (by (with_reducible repeat (first | apply Kd.V_alloc | apply Kd.V_drewN | apply Kd.V_drew)); exact HO_229004.out) hb)
                      have n2_ := Aside0.mk (Kd.V_below (by (with_reducible repeat (first | apply Kd.V_alloc | apply Kd.V_drewN | apply Kd.V_drew)); exact HL260_4.out) hb)
                      have n3_ := Aside0.mk (blk_below (g := gb228) (o := .cells #[.int .i64 a1_0, .int .i64 a1_1, .int .i64 a1_2, .int .i64 a1_3, .slice A1_4 l1_4.length c1_4] 26 (0, 0)) (by (with_reducible repeat (first | refine blk_drewN ?_ _ | refine blk_drew ?_ | refine blk_alloc ?_ _)); exact BK228.out) hb)
                      have n4_ := Aside0.mk (blk_below (g := gb261) (o := .cells #[.int .i64 ((rd_T26 y257 x47_2).f0), .int .i64 ((rd_T26 y257 x47_2).f1), .int .i64 ((rd_T26 y257 x47_2).f2), .int .i64 ((rd_T26 y257 x47_2).f3), .slice A260_4 ((rd_T26 y257 x47_2).f4).length c260_4] 26 (0, 0)) (by (with_reducible repeat (first | refine blk_drewN ?_ _ | refine blk_drew ?_ | refine blk_alloc ?_ _)); exact BK261.out) hb)
                      have n5_ := Aside0.mk (below_step (by repeat (first | (with_reducible first | exact HB.out | apply below_alloc | apply pw_below_drewN | apply below_drew1 | refine below_set ?_ GE228.out | refine below_set ?_ GE261.out) | exact HB.out)) hb)
                      clear HO_45
                      clear HO_229004
                      clear HL260_4
                      clear BK228
                      clear BK261
                      clear HB
                      have HO_45 := n0_
                      have HO_229004 := n1_
                      have HL260_4 := n2_
                      have BK228 := n3_
                      have BK261 := n4_
                      have HB := n5_
                      clear n0_ n1_ n2_ n3_ n4_ n5_
                      (try clear hb)
                      (try clear hb2)
                      (try clear hk)
                      (try clear hi)
                      (try clear hgw)
                      refine hK.out _ _ ⟨(blk_cell BK261.out 0).trans rfl, (blk_cell BK261.out 1).trans rfl, (blk_cell BK261.out 2).trans rfl, (blk_cell BK261.out 3).trans rfl, (blk_cell BK261.out 4).trans rfl⟩ (fun hHeld => ?_)
                      clear hK K
                      refine norm_ (a' := ?_) ?_ ?_
                      rotate_left
                      · show Act.put _ (some 54) _ = _
                        simp only [Act.put, List.setIfInBounds_toArray, List.set_cons_zero, List.set_cons_succ, i64_w, i32_w]
                        rfl
                      refine pure_ (i := 4) (N := some 55) (v := ?_) (a' := ?_) #[true, true, true, true, true] rfl rfl (by kernel_rfl) (fun _ _ _ h => h) (Or.inl ⟨by rfl, ?_⟩) ?_ ?_
                      rotate_left
                      · intro w'
                        go_simp
                        with_reducible rfl
                      rotate_left
                      · simp only [Act.put, List.setIfInBounds_toArray, List.set_cons_zero, List.set_cons_succ, i64_w, i32_w]
                        rfl
                      refine done_ (by kernel_rfl) ?_
                      try go_wp2_with (first | ((with_reducible refine gate_dst (N := 57) rfl ?_); (try (refine gate_guard (by rfl) ?_; dsimp only)); refine Kd.R_lit (Kd.int .i64) _ 3 ?hg (N := 57) ?hd (xs := ([a2, 0, 5, 6, (-1)] : List Int)) (inner := [.int .i64 a2, .int .i64 0, .int .i64 5, .int .i64 6, .int .i64 (-1)]) (ok := fun _ => True) (okp := fun _ => True) ?hr ?hp (fun _ hk => hk) trivial (Below.refl _ _) (Nat.le_refl _) (by simp) ?_; (case hd => rfl); (case hg => rfl); (case hr => first | (go_simp; done) | (go_simp; rfl)); (case hp => exact (Reps.one (show Kd.M (Kd.int .i64) _ _ _ a2 [.int .i64 a2] from rfl) (Reps.one (show Kd.M (Kd.int .i64) _ _ _ 0 [.int .i64 0] from rfl) (Reps.one (show Kd.M (Kd.int .i64) _ _ _ 5 [.int .i64 5] from rfl) (Reps.one (show Kd.M (Kd.int .i64) _ _ _ 6 [.int .i64 6] from rfl) (Reps.one (show Kd.M (Kd.int .i64) _ _ _ (-1) [.int .i64 (-1)] from rfl) (Reps.none _ _))))))); intro v265 w44 ho45 hb hg_ hnew_; clear hg_ hnew_; (first | rw [← Ny264.out] at ho45 | (simp only [Int.reduceToNat] at ho45; rw [← Ny264.out] at ho45)); have n0_ := Aside0.mk (Kd.N_elder' (by (with_reducible repeat (first | apply Kd.N_alloc | apply Kd.N_drewN | apply Kd.N_drew)); exact HO_45.out) (Kd.R_base ho45) hb); have n1_ := Aside0.mk (Kd.V_elder' (by (with_reducible repeat (first | apply Kd.V_alloc | apply Kd.V_drewN | apply Kd.V_drew)); exact HO_229004.out) (Kd.R_base ho45) hb); have n2_ := Aside0.mk (Kd.V_elder' (by (with_reducible repeat (first | apply Kd.V_alloc | apply Kd.V_drewN | apply Kd.V_drew)); exact HL260_4.out) (Kd.R_base ho45) hb); have n3_ := Aside0.mk (Kd.R_lower (Kd.R_newM (M := fun k_ => (w.heap.size ≤ k_)) ho45 (below_size (by repeat (first | (with_reducible first | exact HB.out | apply below_alloc | apply pw_below_drewN | apply below_drew1 | refine below_set ?_ GE228.out | refine below_set ?_ GE261.out) | exact HB.out))) (fun k_ h_ => h_)) (below_size (by repeat (first | (with_reducible first | exact HB.out | apply below_alloc | apply pw_below_drewN | apply below_drew1 | refine below_set ?_ GE228.out | refine below_set ?_ GE261.out) | exact HB.out)))); have n4_ := Aside0.mk (blk_below (g := gb228) (o := .cells #[.int .i64 a1_0, .int .i64 a1_1, .int .i64 a1_2, .int .i64 a1_3, .slice A1_4 l1_4.length c1_4] 26 (0, 0)) (by (with_reducible repeat (first | refine blk_drewN ?_ _ | refine blk_drew ?_ | refine blk_alloc ?_ _)); exact BK228.out) hb); have n5_ := Aside0.mk (blk_below (g := gb261) (o := .cells #[.int .i64 ((rd_T26 y257 x47_2).f0), .int .i64 ((rd_T26 y257 x47_2).f1), .int .i64 ((rd_T26 y257 x47_2).f2), .int .i64 ((rd_T26 y257 x47_2).f3), .slice A260_4 ((rd_T26 y257 x47_2).f4).length c260_4] 26 (0, 0)) (by (with_reducible repeat (first | refine blk_drewN ?_ _ | refine blk_drew ?_ | refine blk_alloc ?_ _)); exact BK261.out) hb); have n6_ := Aside0.mk (below_step (by repeat (first | (with_reducible first | exact HB.out | apply below_alloc | apply pw_below_drewN | apply below_drew1 | refine below_set ?_ GE228.out | refine below_set ?_ GE261.out) | exact HB.out)) hb); clear HO_45; clear HO_229004; clear HL260_4; clear BK228; clear BK261; clear HB; have HO_45 := n0_; have HO_229004 := n1_; have HL260_4 := n2_; have HO266 := n3_; have BK228 := n4_; have BK261 := n5_; have HB := n6_; clear n0_ n1_ n2_ n3_ n4_ n5_ n6_; clear hb ho45; obtain ⟨Ao46, co46, eo46⟩ := Kd.R_slice HO266.out; subst eo46))
                      go_loopg [59] k2 (fun kq v59 w' => ∃ (x59_3 : Int), v59 = .int .i64 x59_3 ∧ Aside0 (storagebarterlaw28_DutySteps.l1 kq a2 a3 a4 l5 y257 (y257.length : Int) x47_2 y264 (y264.length : Int) x59_3 ((rd_T26 y257 x47_2).f0) ((rd_T26 y257 x47_2).f1) ((rd_T26 y257 x47_2).f2) ((rd_T26 y257 x47_2).f3) ((rd_T26 y257 x47_2).f4) = some r) ∧ Aside0 (kq ≤ k2) ∧ Aside0 (Kd.N k26 26 w' w.heap.size (fun k_ => (P1_4_ k_ ∨ w.heap.size ≤ k_) ∧ some k_ ≠ ((.slice Ao46 y264.length co46) : Value).ownBlock ∧ k_ ≠ gb228 ∧ k_ ≠ gb261) (.slice (some ad260) y257.length co30) y257) ∧ Aside0 (Kd.R (Kd.int .i64) 3 w' w.heap.size (fun k_ => (w.heap.size ≤ k_)) (.slice Ao46 y264.length co46) y264) ∧ Aside0 (Kd.V (Kd.int .i64) 3 w' w.heap.size (fun k_ => (P1_4_ k_ ∨ w.heap.size ≤ k_) ∧ some k_ ≠ ((.slice (some ad260) y257.length co30) : Value).ownBlock ∧ some k_ ≠ ((.slice Ao46 y264.length co46) : Value).ownBlock ∧ k_ ≠ gb228 ∧ k_ ≠ gb261) (.slice A1_4 l1_4.length c1_4) l1_4) ∧ Aside0 (Kd.V (Kd.int .i64) 3 w' w.heap.size (fun k_ => (P1_4_ k_ ∨ w.heap.size ≤ k_) ∧ some k_ ≠ ((.slice (some ad260) y257.length co30) : Value).ownBlock ∧ some k_ ≠ ((.slice Ao46 y264.length co46) : Value).ownBlock ∧ k_ ≠ gb228 ∧ k_ ≠ gb261) (.slice A260_4 ((rd_T26 y257 x47_2).f4).length c260_4) ((rd_T26 y257 x47_2).f4)) ∧ Aside0 (w'.heap[gb228]? = some (.cells #[.int .i64 a1_0, .int .i64 a1_1, .int .i64 a1_2, .int .i64 a1_3, (.slice A1_4 l1_4.length c1_4)] 26 (0, 0))) ∧ Aside0 (w'.heap[gb261]? = some (.cells #[.int .i64 ((rd_T26 y257 x47_2).f0), .int .i64 ((rd_T26 y257 x47_2).f1), .int .i64 ((rd_T26 y257 x47_2).f2), .int .i64 ((rd_T26 y257 x47_2).f3), (.slice A260_4 ((rd_T26 y257 x47_2).f4).length c260_4)] 26 (0, 0))) ∧ Aside0 (Below w.heap.size w w'))
                      case atStart => exact ⟨(0), (by first | rfl | (simp; done) | (simp [*]; done)), H', ⟨Nat.le_refl _⟩, ⟨by (with_reducible repeat (first | apply Kd.N_alloc | apply Kd.N_drewN | apply Kd.N_drew)); exact Kd.N_mono HO_45.out (fun _ hk => ⟨hk.1.1, ⟨hk.2, ⟨hk.1.2.1, hk.1.2.2⟩⟩⟩)⟩, ⟨by (with_reducible repeat (first | apply Kd.R_alloc | apply Kd.R_drewN | apply Kd.R_drew)); exact Kd.R_mono HO266.out (fun _ hk => hk.1)⟩, ⟨by (with_reducible repeat (first | apply Kd.V_alloc | apply Kd.V_drewN | apply Kd.V_drew)); exact Kd.V_mono HO_229004.out (fun _ hk => ⟨hk.1.1, ⟨hk.1.2.1, ⟨hk.2, ⟨hk.1.2.2.1, hk.1.2.2.2⟩⟩⟩⟩)⟩, ⟨by (with_reducible repeat (first | apply Kd.V_alloc | apply Kd.V_drewN | apply Kd.V_drew)); exact Kd.V_mono HL260_4.out (fun _ hk => ⟨hk.1.1, ⟨hk.1.2.1, ⟨hk.2, ⟨hk.1.2.2.1, hk.1.2.2.2⟩⟩⟩⟩)⟩, ⟨by (with_reducible repeat (first | refine blk_drewN ?_ _ | refine blk_drew ?_ | refine blk_alloc ?_ _)); exact BK228.out⟩, ⟨by (with_reducible repeat (first | refine blk_drewN ?_ _ | refine blk_drew ?_ | refine blk_alloc ?_ _)); exact BK261.out⟩, ⟨by repeat (first | (with_reducible first | exact HB.out | apply below_alloc | apply pw_below_drewN | apply below_drew1 | refine below_set ?_ GE228.out | refine below_set ?_ GE261.out) | exact HB.out)⟩⟩
                      case round =>
                        clear H'
                        try clear c1
                        try clear c2
                        try clear p2
                        try clear q2
                        try clear hx2
                        try clear c3
                        try clear c5
                        try clear c8
                        try clear c12
                        try clear c12b0
                        try clear c12b1
                        try clear c15
                        try clear c16
                        try clear c17
                        try clear c18
                        try clear c21
                        try clear c22
                        try clear c23
                        try clear c26
                        try clear p26
                        try clear q26
                        try clear hx26
                        try clear c31
                        try clear c31b0
                        try clear c32
                        try clear c32b0
                        try clear c33
                        try clear c33b0
                        try clear c36
                        try clear c36b0
                        try clear c36b1
                        try clear c36b2
                        try clear c38
                        try clear hcz13_0
                        try clear hcz13_1
                        try clear hcz13_2
                        try clear hcz13_3
                        try clear hcz13_4
                        try clear hcz14_0
                        try clear hcz14_1
                        try clear hcz14_2
                        try clear hcz14_3
                        try clear hcz14_4
                        try clear hcz39_0
                        try clear hcz39_1
                        try clear hcz39_2
                        try clear hcz39_3
                        try clear hcz39_4
                        try clear hfz13_0
                        try clear hfz13_1
                        try clear hfz13_2
                        try clear hfz13_3
                        try clear hfz13_4
                        try clear hfz14_0
                        try clear hfz14_1
                        try clear hfz14_2
                        try clear hfz14_3
                        try clear hfz14_4
                        try clear hfz39_0
                        try clear hfz39_1
                        try clear hfz39_2
                        try clear hfz39_3
                        try clear hfz39_4
                        try clear hx260_0
                        try clear hx260_1
                        try clear hx260_2
                        try clear hx260_3
                        try clear hx260_4
                        try clear p2
                        try clear p260
                        try clear q260
                        obtain ⟨x59_3, rfl, HA, HK3, HO_45, HO_57, HO_229004, HO_261004, BK228, BK261, HB⟩ := hrel
                        cases gk with
                        | zero => exact absurd HA.out (by simp [storagebarterlaw28_DutySteps.l1])
                        | succ k3 =>
                          have H := HA.out
                          clear HA
                          simp only [storagebarterlaw28_DutySteps.l1] at H
                          by_cases c47 : x59_3 < (y264.length : Int)
                          · rw [if_pos c47] at H
                            have c47b0 : decide (x59_3 < (y264.length : Int)) = true := decide_eq_true c47
                            clear c47
                            by_cases c48 : 0 ≤ x59_3
                            · rw [if_pos c48] at H
                              have c48b0 : decide (0 ≤ x59_3) = true := decide_eq_true c48
                              clear c48
                              by_cases c49 : x59_3 < (y264.length : Int)
                              · rw [if_pos c49] at H
                                have c49b0 : decide (x59_3 < (y264.length : Int)) = true := decide_eq_true c49
                                clear c49
                                obtain ⟨y268, hy268⟩ : ∃ y_ : List Bool, y_ = (([true, false] : List Bool)) := ⟨_, rfl⟩
                                replace H : (storagebarterlaw28_DutySteps.l2 k3 a2 a3 a4 l5 (rd y264 x59_3) y257 (y257.length : Int) x47_2 y264 (y264.length : Int) x59_3 y268 (y268.length : Int) 0 ((rd_T26 y257 x47_2).f0) ((rd_T26 y257 x47_2).f1) ((rd_T26 y257 x47_2).f2) ((rd_T26 y257 x47_2).f3) ((rd_T26 y257 x47_2).f4)) = some r := by first | (rw [hy268]; with_reducible exact H) | (have H2_ := (Option.bind_some _ _).symm.trans H; rw [hy268]; with_reducible exact H2_) | (have H2_ := (Option.bind_some _ _).symm.trans H; with_reducible exact H2_) | with_reducible exact H | (rw [hy268]; exact H) | exact H
                                have Ny268 := Aside0.mk hy268
                                clear hy268
                                have H' := Aside0.mk H
                                clear H
                                have p267 : 0 ≤ (x59_3 : Int) := of_decide_eq_true (by first | (with_reducible assumption) | assumption)
                                have q267 : x59_3 < (y264.length : Int) := of_decide_eq_true (by first | (with_reducible assumption) | assumption)
                                obtain ⟨ad267, e267, hx267_0⟩ := Kd.at_int (Kd.R_reads' HO_57.out).2.2 x59_3 p267 q267
                                cases e267
                                replace p267 := eq_true p267
                                replace q267 := eq_true q267
                                go_wp2_with (first | ((with_reducible refine gate_dst (N := 63) rfl ?_); (try (refine gate_guard (by rfl) ?_; dsimp only)); refine Kd.R_lit Kd.bool _ 4 ?hg (N := 63) ?hd (xs := ([true, false] : List Bool)) (inner := [.bool true, .bool false]) (ok := fun _ => True) (okp := fun _ => True) ?hr ?hp (fun _ hk => hk) trivial (Below.refl _ _) (Nat.le_refl _) (by simp) ?_; (case hd => rfl); (case hg => rfl); (case hr => first | (go_simp; done) | (go_simp; rfl)); (case hp => exact (Reps.one (show Kd.M Kd.bool _ _ _ true [.bool true] from rfl) (Reps.one (show Kd.M Kd.bool _ _ _ false [.bool false] from rfl) (Reps.none _ _)))); intro v269 w50 ho51 hb hg_ hnew_; clear hg_ hnew_; (first | rw [← Ny268.out] at ho51 | (simp only [Int.reduceToNat] at ho51; rw [← Ny268.out] at ho51)); have n0_ := Aside0.mk (Kd.N_elder' (by (with_reducible repeat (first | apply Kd.N_alloc | apply Kd.N_drewN | apply Kd.N_drew)); exact HO_45.out) (Kd.R_base ho51) hb); have n1_ := Aside0.mk (Kd.R_below (by (with_reducible repeat (first | apply Kd.R_alloc | apply Kd.R_drewN | apply Kd.R_drew)); exact HO_57.out) hb); have n2_ := Aside0.mk (Kd.V_elder' (by (with_reducible repeat (first | apply Kd.V_alloc | apply Kd.V_drewN | apply Kd.V_drew)); exact HO_229004.out) (Kd.R_base ho51) hb); have m2_ := Aside0.mk (Kd.V_elder' (by (with_reducible repeat (first | apply Kd.V_alloc | apply Kd.V_drewN | apply Kd.V_drew)); exact HO_261004.out) (Kd.R_base ho51) hb); have n3_ := Aside0.mk (Kd.R_lower (Kd.R_newM (M := fun k_ => (w.heap.size ≤ k_)) ho51 (below_size (by repeat (first | (with_reducible first | exact HB.out | apply below_alloc | apply pw_below_drewN | apply below_drew1 | refine below_set ?_ GE228.out | refine below_set ?_ GE261.out) | exact HB.out))) (fun k_ h_ => h_)) (below_size (by repeat (first | (with_reducible first | exact HB.out | apply below_alloc | apply pw_below_drewN | apply below_drew1 | refine below_set ?_ GE228.out | refine below_set ?_ GE261.out) | exact HB.out)))); have n4_ := Aside0.mk (blk_below (g := gb228) (o := .cells #[.int .i64 a1_0, .int .i64 a1_1, .int .i64 a1_2, .int .i64 a1_3, .slice A1_4 l1_4.length c1_4] 26 (0, 0)) (by (with_reducible repeat (first | refine blk_drewN ?_ _ | refine blk_drew ?_ | refine blk_alloc ?_ _)); exact BK228.out) hb); have n5_ := Aside0.mk (blk_below (g := gb261) (o := .cells #[.int .i64 ((rd_T26 y257 x47_2).f0), .int .i64 ((rd_T26 y257 x47_2).f1), .int .i64 ((rd_T26 y257 x47_2).f2), .int .i64 ((rd_T26 y257 x47_2).f3), .slice A260_4 ((rd_T26 y257 x47_2).f4).length c260_4] 26 (0, 0)) (by (with_reducible repeat (first | refine blk_drewN ?_ _ | refine blk_drew ?_ | refine blk_alloc ?_ _)); exact BK261.out) hb); have n6_ := Aside0.mk (below_step (by repeat (first | (with_reducible first | exact HB.out | apply below_alloc | apply pw_below_drewN | apply below_drew1 | refine below_set ?_ GE228.out | refine below_set ?_ GE261.out) | exact HB.out)) hb); clear HO_45; clear HO_57; clear HO_229004; clear HO_261004; clear BK228; clear BK261; clear HB; have HO_45 := n0_; have HO_57 := n1_; have HO_229004 := n2_; have HO_261004 := m2_; clear m2_; have HO270 := n3_; have BK228 := n4_; have BK261 := n5_; have HB := n6_; clear n0_ n1_ n2_ n3_ n4_ n5_ n6_; clear hb ho51; obtain ⟨Ao52, co52, eo52⟩ := Kd.R_slice HO270.out; subst eo52))
                                go_loopg [65] k3 (fun kq v65 w' => ∃ (x65_4 : Int), v65 = .int .i64 x65_4 ∧ Aside0 (storagebarterlaw28_DutySteps.l2 kq a2 a3 a4 l5 (rd y264 x59_3) y257 (y257.length : Int) x47_2 y264 (y264.length : Int) x59_3 y268 (y268.length : Int) x65_4 ((rd_T26 y257 x47_2).f0) ((rd_T26 y257 x47_2).f1) ((rd_T26 y257 x47_2).f2) ((rd_T26 y257 x47_2).f3) ((rd_T26 y257 x47_2).f4) = some r) ∧ Aside0 (kq ≤ k3) ∧ Aside0 (Kd.N k26 26 w' w.heap.size (fun k_ => (P1_4_ k_ ∨ w.heap.size ≤ k_) ∧ some k_ ≠ ((.slice (some ad267) y264.length co46) : Value).ownBlock ∧ some k_ ≠ ((.slice Ao52 y268.length co52) : Value).ownBlock ∧ k_ ≠ gb228 ∧ k_ ≠ gb261) (.slice (some ad260) y257.length co30) y257) ∧ Aside0 (Kd.R (Kd.int .i64) 3 w' w.heap.size (fun k_ => (w.heap.size ≤ k_)) (.slice (some ad267) y264.length co46) y264) ∧ Aside0 (Kd.R Kd.bool 4 w' w.heap.size (fun k_ => (w.heap.size ≤ k_)) (.slice Ao52 y268.length co52) y268) ∧ Aside0 (Kd.V (Kd.int .i64) 3 w' w.heap.size (fun k_ => (P1_4_ k_ ∨ w.heap.size ≤ k_) ∧ some k_ ≠ ((.slice (some ad260) y257.length co30) : Value).ownBlock ∧ some k_ ≠ ((.slice (some ad267) y264.length co46) : Value).ownBlock ∧ some k_ ≠ ((.slice Ao52 y268.length co52) : Value).ownBlock ∧ k_ ≠ gb228 ∧ k_ ≠ gb261) (.slice A1_4 l1_4.length c1_4) l1_4) ∧ Aside0 (Kd.V (Kd.int .i64) 3 w' w.heap.size (fun k_ => (P1_4_ k_ ∨ w.heap.size ≤ k_) ∧ some k_ ≠ ((.slice (some ad260) y257.length co30) : Value).ownBlock ∧ some k_ ≠ ((.slice (some ad267) y264.length co46) : Value).ownBlock ∧ some k_ ≠ ((.slice Ao52 y268.length co52) : Value).ownBlock ∧ k_ ≠ gb228 ∧ k_ ≠ gb261) (.slice A260_4 ((rd_T26 y257 x47_2).f4).length c260_4) ((rd_T26 y257 x47_2).f4)) ∧ Aside0 (w'.heap[gb228]? = some (.cells #[.int .i64 a1_0, .int .i64 a1_1, .int .i64 a1_2, .int .i64 a1_3, (.slice A1_4 l1_4.length c1_4)] 26 (0, 0))) ∧ Aside0 (w'.heap[gb261]? = some (.cells #[.int .i64 ((rd_T26 y257 x47_2).f0), .int .i64 ((rd_T26 y257 x47_2).f1), .int .i64 ((rd_T26 y257 x47_2).f2), .int .i64 ((rd_T26 y257 x47_2).f3), (.slice A260_4 ((rd_T26 y257 x47_2).f4).length c260_4)] 26 (0, 0))) ∧ Aside0 (Below w.heap.size w w'))
                                case atStart => exact ⟨(0), (by first | rfl | (simp; done) | (simp [*]; done)), H', ⟨Nat.le_refl _⟩, ⟨by (with_reducible repeat (first | apply Kd.N_alloc | apply Kd.N_drewN | apply Kd.N_drew)); exact Kd.N_mono HO_45.out (fun _ hk => ⟨hk.1.1, ⟨hk.1.2.1, ⟨hk.2, ⟨hk.1.2.2.1, hk.1.2.2.2⟩⟩⟩⟩)⟩, ⟨by (with_reducible repeat (first | apply Kd.R_alloc | apply Kd.R_drewN | apply Kd.R_drew)); exact HO_57.out⟩, ⟨by (with_reducible repeat (first | apply Kd.R_alloc | apply Kd.R_drewN | apply Kd.R_drew)); exact Kd.R_mono HO270.out (fun _ hk => hk.1)⟩, ⟨by (with_reducible repeat (first | apply Kd.V_alloc | apply Kd.V_drewN | apply Kd.V_drew)); exact Kd.V_mono HO_229004.out (fun _ hk => ⟨hk.1.1, ⟨hk.1.2.1, ⟨hk.1.2.2.1, ⟨hk.2, ⟨hk.1.2.2.2.1, hk.1.2.2.2.2⟩⟩⟩⟩⟩)⟩, ⟨by (with_reducible repeat (first | apply Kd.V_alloc | apply Kd.V_drewN | apply Kd.V_drew)); exact Kd.V_mono HO_261004.out (fun _ hk => ⟨hk.1.1, ⟨hk.1.2.1, ⟨hk.1.2.2.1, ⟨hk.2, ⟨hk.1.2.2.2.1, hk.1.2.2.2.2⟩⟩⟩⟩⟩)⟩, ⟨by (with_reducible repeat (first | refine blk_drewN ?_ _ | refine blk_drew ?_ | refine blk_alloc ?_ _)); exact BK228.out⟩, ⟨by (with_reducible repeat (first | refine blk_drewN ?_ _ | refine blk_drew ?_ | refine blk_alloc ?_ _)); exact BK261.out⟩, ⟨by repeat (first | (with_reducible first | exact HB.out | apply below_alloc | apply pw_below_drewN | apply below_drew1 | refine below_set ?_ GE228.out | refine below_set ?_ GE261.out) | exact HB.out)⟩⟩
                                case round =>
                                  clear H'
                                  try clear c1
                                  try clear c2
                                  try clear p2
                                  try clear q2
                                  try clear hx2
                                  try clear c3
                                  try clear c4
                                  try clear c5
                                  try clear c8
                                  try clear c12
                                  try clear c12b0
                                  try clear c12b1
                                  try clear c15
                                  try clear c16
                                  try clear c17
                                  try clear c18
                                  try clear c21
                                  try clear c22
                                  try clear c23
                                  try clear c26
                                  try clear p26
                                  try clear q26
                                  try clear hx26
                                  try clear c31
                                  try clear c31b0
                                  try clear c32
                                  try clear c32b0
                                  try clear c33
                                  try clear c33b0
                                  try clear c36
                                  try clear c36b0
                                  try clear c36b1
                                  try clear c36b2
                                  try clear c38
                                  try clear c47
                                  try clear c47b0
                                  try clear c48
                                  try clear c48b0
                                  try clear c49
                                  try clear c49b0
                                  try clear hcz13_0
                                  try clear hcz13_1
                                  try clear hcz13_2
                                  try clear hcz13_3
                                  try clear hcz13_4
                                  try clear hcz14_0
                                  try clear hcz14_1
                                  try clear hcz14_2
                                  try clear hcz14_3
                                  try clear hcz14_4
                                  try clear hcz39_0
                                  try clear hcz39_1
                                  try clear hcz39_2
                                  try clear hcz39_3
                                  try clear hcz39_4
                                  try clear hfz13_0
                                  try clear hfz13_1
                                  try clear hfz13_2
                                  try clear hfz13_3
                                  try clear hfz13_4
                                  try clear hfz14_0
                                  try clear hfz14_1
                                  try clear hfz14_2
                                  try clear hfz14_3
                                  try clear hfz14_4
                                  try clear hfz39_0
                                  try clear hfz39_1
                                  try clear hfz39_2
                                  try clear hfz39_3
                                  try clear hfz39_4
                                  try clear hx260_0
                                  try clear hx260_1
                                  try clear hx260_2
                                  try clear hx260_3
                                  try clear hx260_4
                                  try clear hx267_0
                                  try clear p2
                                  try clear p26
                                  try clear p260
                                  try clear p267
                                  try clear q2
                                  try clear q26
                                  try clear q260
                                  try clear q267
                                  obtain ⟨x65_4, rfl, HA, HK4, HO_45, HO_57, HO_63, HO_229004, HO_261004, BK228, BK261, HB⟩ := hrel
                                  cases gk with
                                  | zero => exact absurd HA.out (by simp [storagebarterlaw28_DutySteps.l2])
                                  | succ k4 =>
                                    have H := HA.out
                                    clear HA
                                    simp only [storagebarterlaw28_DutySteps.l2] at H
                                    by_cases c53 : x65_4 < (y268.length : Int)
                                    · rw [if_pos c53] at H
                                      have c53b0 : decide (x65_4 < (y268.length : Int)) = true := decide_eq_true c53
                                      clear c53
                                      by_cases c54 : 0 ≤ x65_4
                                      · rw [if_pos c54] at H
                                        have c54b0 : decide (0 ≤ x65_4) = true := decide_eq_true c54
                                        clear c54
                                        by_cases c55 : x65_4 < (y268.length : Int)
                                        · rw [if_pos c55] at H
                                          have c55b0 : decide (x65_4 < (y268.length : Int)) = true := decide_eq_true c55
                                          clear c55
                                          replace H := Option.bind_eq_some_iff.mp H
                                          obtain ⟨⟨t272, t275⟩, A560, H⟩ := H
                                          replace H : ((storagebarterref28_Plan.f k4 ((rd_T26 y257 x47_2).f0) ((rd_T26 y257 x47_2).f1) ((rd_T26 y257 x47_2).f2) ((rd_T26 y257 x47_2).f3) ((rd_T26 y257 x47_2).f4) (rd y264 x59_3) (rdOf false y268 x65_4)).bind fun bt276 => (if t275 = bt276.2 then ((storagebarterref28_Same.f k4 t272 bt276.1).bind fun t280 => (if t280 = true then ((duty_Total.f k4 t272 ((rd_T26 y257 x47_2).f0)).bind fun t281 => ((storagebarterref28_Total.f k4 bt276.1 ((rd_T26 y257 x47_2).f0)).bind fun t282 => (if t281 = t282 then (storagebarterlaw28_DutySteps.l2 k4 a2 a3 a4 l5 (rd y264 x59_3) y257 (y257.length : Int) x47_2 y264 (y264.length : Int) x59_3 y268 (y268.length : Int) (wrap64 (x65_4 + 1)) ((rd_T26 y257 x47_2).f0) ((rd_T26 y257 x47_2).f1) ((rd_T26 y257 x47_2).f2) ((rd_T26 y257 x47_2).f3) ((rd_T26 y257 x47_2).f4)) else (some false)))) else (some false))) else (some false))) = some r := H
                                          have A56 := Aside0.mk A560
                                          clear A560
                                          replace H := Option.bind_eq_some_iff.mp H
                                          obtain ⟨⟨t276, t279⟩, A570, H⟩ := H
                                          replace H : (if t275 = t279 then ((storagebarterref28_Same.f k4 t272 t276).bind fun t280 => (if t280 = true then ((duty_Total.f k4 t272 ((rd_T26 y257 x47_2).f0)).bind fun t281 => ((storagebarterref28_Total.f k4 t276 ((rd_T26 y257 x47_2).f0)).bind fun t282 => (if t281 = t282 then (storagebarterlaw28_DutySteps.l2 k4 a2 a3 a4 l5 (rd y264 x59_3) y257 (y257.length : Int) x47_2 y264 (y264.length : Int) x59_3 y268 (y268.length : Int) (wrap64 (x65_4 + 1)) ((rd_T26 y257 x47_2).f0) ((rd_T26 y257 x47_2).f1) ((rd_T26 y257 x47_2).f2) ((rd_T26 y257 x47_2).f3) ((rd_T26 y257 x47_2).f4)) else (some false)))) else (some false))) else (some false)) = some r := H
                                          have A57 := Aside0.mk A570
                                          clear A570
                                          by_cases c58 : t275 = t279
                                          · rw [if_pos c58] at H
                                            have c58b0 : (t275 == t279) = true := beq_iff_eq.mpr c58
                                            have c58b1 : (t275 != t279) = false := bne_eq_false_iff_eq.mpr c58
                                            clear c58
                                            replace H := Option.bind_eq_some_iff.mp H
                                            obtain ⟨t280, A590, H⟩ := H
                                            replace H : (if t280 = true then ((duty_Total.f k4 t272 ((rd_T26 y257 x47_2).f0)).bind fun t281 => ((storagebarterref28_Total.f k4 t276 ((rd_T26 y257 x47_2).f0)).bind fun t282 => (if t281 = t282 then (storagebarterlaw28_DutySteps.l2 k4 a2 a3 a4 l5 (rd y264 x59_3) y257 (y257.length : Int) x47_2 y264 (y264.length : Int) x59_3 y268 (y268.length : Int) (wrap64 (x65_4 + 1)) ((rd_T26 y257 x47_2).f0) ((rd_T26 y257 x47_2).f1) ((rd_T26 y257 x47_2).f2) ((rd_T26 y257 x47_2).f3) ((rd_T26 y257 x47_2).f4)) else (some false)))) else (some false)) = some r := H
                                            have A59 := Aside0.mk A590
                                            clear A590
                                            by_cases c60 : t280 = true
                                            · subst c60
                                              have H1 : ((duty_Total.f k4 t272 ((rd_T26 y257 x47_2).f0)).bind fun t281 => ((storagebarterref28_Total.f k4 t276 ((rd_T26 y257 x47_2).f0)).bind fun t282 => (if t281 = t282 then (storagebarterlaw28_DutySteps.l2 k4 a2 a3 a4 l5 (rd y264 x59_3) y257 (y257.length : Int) x47_2 y264 (y264.length : Int) x59_3 y268 (y268.length : Int) (wrap64 (x65_4 + 1)) ((rd_T26 y257 x47_2).f0) ((rd_T26 y257 x47_2).f1) ((rd_T26 y257 x47_2).f2) ((rd_T26 y257 x47_2).f3) ((rd_T26 y257 x47_2).f4)) else (some false)))) = some r := by rw [if_pos rfl] at H; exact H
                                              clear H
                                              have H := H1
                                              clear H1
                                              replace H := Option.bind_eq_some_iff.mp H
                                              obtain ⟨t281, A610, H⟩ := H
                                              replace H : ((storagebarterref28_Total.f k4 t276 ((rd_T26 y257 x47_2).f0)).bind fun t282 => (if t281 = t282 then (storagebarterlaw28_DutySteps.l2 k4 a2 a3 a4 l5 (rd y264 x59_3) y257 (y257.length : Int) x47_2 y264 (y264.length : Int) x59_3 y268 (y268.length : Int) (wrap64 (x65_4 + 1)) ((rd_T26 y257 x47_2).f0) ((rd_T26 y257 x47_2).f1) ((rd_T26 y257 x47_2).f2) ((rd_T26 y257 x47_2).f3) ((rd_T26 y257 x47_2).f4)) else (some false))) = some r := H
                                              have A61 := Aside0.mk A610
                                              clear A610
                                              replace H := Option.bind_eq_some_iff.mp H
                                              obtain ⟨t282, A620, H⟩ := H
                                              replace H : (if t281 = t282 then (storagebarterlaw28_DutySteps.l2 k4 a2 a3 a4 l5 (rd y264 x59_3) y257 (y257.length : Int) x47_2 y264 (y264.length : Int) x59_3 y268 (y268.length : Int) (wrap64 (x65_4 + 1)) ((rd_T26 y257 x47_2).f0) ((rd_T26 y257 x47_2).f1) ((rd_T26 y257 x47_2).f2) ((rd_T26 y257 x47_2).f3) ((rd_T26 y257 x47_2).f4)) else (some false)) = some r := H
                                              have A62 := Aside0.mk A620
                                              clear A620
                                              by_cases c63 : t281 = t282
                                              · rw [if_pos c63] at H
                                                have c63b0 : (t281 == t282) = true := beq_iff_eq.mpr c63
                                                have c63b1 : (t281 != t282) = false := bne_eq_false_iff_eq.mpr c63
                                                clear c63
                                                have H' := Aside0.mk H
                                                clear H
                                                have p271 : 0 ≤ (x65_4 : Int) := of_decide_eq_true (by first | (with_reducible assumption) | assumption)
                                                have q271 : x65_4 < (y268.length : Int) := of_decide_eq_true (by first | (with_reducible assumption) | assumption)
                                                obtain ⟨ad271, e271, hx271_0⟩ := Kd.at_bool (Kd.R_reads' HO_63.out).2.2 x65_4 p271 q271
                                                cases e271
                                                replace p271 := eq_true p271
                                                replace q271 := eq_true q271
                                                have hnb64 := NB261_228.out
                                                have hnc64 := NB228_261.out
                                                have hcz65_0 : wr.cell? ⟨gb261, 0, none⟩ = some (.int .i64 ((rd_T26 y257 x47_2).f0)) := (blk_cell BK261.out 0).trans rfl
                                                have hcz65_1 : wr.cell? ⟨gb261, 1, none⟩ = some (.int .i64 ((rd_T26 y257 x47_2).f1)) := (blk_cell BK261.out 1).trans rfl
                                                have hcz65_2 : wr.cell? ⟨gb261, 2, none⟩ = some (.int .i64 ((rd_T26 y257 x47_2).f2)) := (blk_cell BK261.out 2).trans rfl
                                                have hcz65_3 : wr.cell? ⟨gb261, 3, none⟩ = some (.int .i64 ((rd_T26 y257 x47_2).f3)) := (blk_cell BK261.out 3).trans rfl
                                                have hcz65_4 : wr.cell? ⟨gb261, 4, none⟩ = some (.slice A260_4 ((rd_T26 y257 x47_2).f4).length c260_4) := (blk_cell BK261.out 4).trans rfl
                                                have hfz65_0 := blk_frozen BK261.out 0
                                                have hfz65_1 := blk_frozen BK261.out 1
                                                have hfz65_2 := blk_frozen BK261.out 2
                                                have hfz65_3 := blk_frozen BK261.out 3
                                                have hfz65_4 := blk_frozen BK261.out 4
                                                try go_wp2_with (first | ((with_reducible refine gate_callee (f := 19) rfl ?_); refine goesL_ (some 73) rfl rfl Tryd.func19 (by kernel_rfl) rfl #[.agg #[.int .i64 ((rd_T26 y257 x47_2).f0), .int .i64 ((rd_T26 y257 x47_2).f1), .int .i64 ((rd_T26 y257 x47_2).f2), .int .i64 ((rd_T26 y257 x47_2).f3), .slice A260_4 ((rd_T26 y257 x47_2).f4).length c260_4], .int .i64 (rd y264 x59_3), .bool (rdOf false y268 x65_4)] rfl (by (try simp only [List.map_toArray, List.map_cons, List.map_nil]); first | done | rfl | (simp only [List.length_drop, List.length_take]; rfl)) ?_; (with_reducible refine (duty_Plan.calls k4 ((rd_T26 y257 x47_2).f0) ((rd_T26 y257 x47_2).f1) ((rd_T26 y257 x47_2).f2) ((rd_T26 y257 x47_2).f3) _ _ ((rd_T26 y257 x47_2).f4) (rd y264 x59_3) (rdOf false y268 x65_4) t272 t275 _ ?side1 ?side2 A56.out).mono ?_); (case side1 => repeat (first | exact ((Kd.V_reads' (by (with_reducible repeat (first | apply Kd.V_alloc | apply Kd.V_drewN | apply Kd.V_drew)); exact HO_261004.out)).2.2) | (with_reducible refine Kd.C_alloc ?_ _) | (with_reducible refine Kd.C_drewN ?_ _) | (with_reducible refine Kd.C_drew ?_))); (case side2 => exact HC260_4.out); rintro e w66 ⟨v273, rfl, ho0, hb⟩; refine ⟨_, rfl, ?_⟩; have n0_ := Aside0.mk (Kd.N_elder' (by (with_reducible repeat (first | apply Kd.N_alloc | apply Kd.N_drewN | apply Kd.N_drew)); exact HO_45.out) (Kd.R_base ho0) hb); have n1_ := Aside0.mk (Kd.R_below (by (with_reducible repeat (first | apply Kd.R_alloc | apply Kd.R_drewN | apply Kd.R_drew)); exact HO_57.out) hb); have n2_ := Aside0.mk (Kd.R_below (by (with_reducible repeat (first | apply Kd.R_alloc | apply Kd.R_drewN | apply Kd.R_drew)); exact HO_63.out) hb); have n3_ := Aside0.mk (Kd.V_elder' (by (with_reducible repeat (first | apply Kd.V_alloc | apply Kd.V_drewN | apply Kd.V_drew)); exact HO_229004.out) (Kd.R_base ho0) hb); have m3_ := Aside0.mk (Kd.V_elder' (by (with_reducible repeat (first | apply Kd.V_alloc | apply Kd.V_drewN | apply Kd.V_drew)); exact HO_261004.out) (Kd.R_base ho0) hb); have n4_ := Aside0.mk (Kd.R_lower (Kd.R_newM (M := fun k_ => (w.heap.size ≤ k_)) ho0 (below_size (by repeat (first | (with_reducible first | exact HB.out | apply below_alloc | apply pw_below_drewN | apply below_drew1 | refine below_set ?_ GE228.out | refine below_set ?_ GE261.out) | exact HB.out))) (fun k_ h_ => h_)) (below_size (by repeat (first | (with_reducible first | exact HB.out | apply below_alloc | apply pw_below_drewN | apply below_drew1 | refine below_set ?_ GE228.out | refine below_set ?_ GE261.out) | exact HB.out)))); have n5_ := Aside0.mk (blk_below (g := gb228) (o := .cells #[.int .i64 a1_0, .int .i64 a1_1, .int .i64 a1_2, .int .i64 a1_3, .slice A1_4 l1_4.length c1_4] 26 (0, 0)) (by (with_reducible repeat (first | refine blk_drewN ?_ _ | refine blk_drew ?_ | refine blk_alloc ?_ _)); exact BK228.out) hb); have n6_ := Aside0.mk (blk_below (g := gb261) (o := .cells #[.int .i64 ((rd_T26 y257 x47_2).f0), .int .i64 ((rd_T26 y257 x47_2).f1), .int .i64 ((rd_T26 y257 x47_2).f2), .int .i64 ((rd_T26 y257 x47_2).f3), .slice A260_4 ((rd_T26 y257 x47_2).f4).length c260_4] 26 (0, 0)) (by (with_reducible repeat (first | refine blk_drewN ?_ _ | refine blk_drew ?_ | refine blk_alloc ?_ _)); exact BK261.out) hb); have n7_ := Aside0.mk (below_step (by repeat (first | (with_reducible first | exact HB.out | apply below_alloc | apply pw_below_drewN | apply below_drew1 | refine below_set ?_ GE228.out | refine below_set ?_ GE261.out) | exact HB.out)) hb); clear HO_45; clear HO_57; clear HO_63; clear HO_229004; clear HO_261004; clear BK228; clear BK261; clear HB; have HO_45 := n0_; have HO_57 := n1_; have HO_63 := n2_; have HO_229004 := n3_; have HO_261004 := m3_; clear m3_; have HO274 := n4_; have BK228 := n5_; have BK261 := n6_; have HB := n7_; clear n0_ n1_ n2_ n3_ n4_ n5_ n6_ n7_; (try clear hb); (try clear hb2); (try clear hk); (try clear hi); (try clear hgw); (try clear ho0); have hcz67_0 : w66.cell? ⟨gb261, 0, none⟩ = some (.int .i64 ((rd_T26 y257 x47_2).f0)) := (blk_cell BK261.out 0).trans rfl; have hcz67_1 : w66.cell? ⟨gb261, 1, none⟩ = some (.int .i64 ((rd_T26 y257 x47_2).f1)) := (blk_cell BK261.out 1).trans rfl; have hcz67_2 : w66.cell? ⟨gb261, 2, none⟩ = some (.int .i64 ((rd_T26 y257 x47_2).f2)) := (blk_cell BK261.out 2).trans rfl; have hcz67_3 : w66.cell? ⟨gb261, 3, none⟩ = some (.int .i64 ((rd_T26 y257 x47_2).f3)) := (blk_cell BK261.out 3).trans rfl; have hcz67_4 : w66.cell? ⟨gb261, 4, none⟩ = some (.slice A260_4 ((rd_T26 y257 x47_2).f4).length c260_4) := (blk_cell BK261.out 4).trans rfl; have hfz67_0 := blk_frozen BK261.out 0; have hfz67_1 := blk_frozen BK261.out 1; have hfz67_2 := blk_frozen BK261.out 2; have hfz67_3 := blk_frozen BK261.out 3; have hfz67_4 := blk_frozen BK261.out 4) | ((with_reducible refine gate_callee (f := 24) rfl ?_); refine goesL_ (some 80) rfl rfl Tryd.func24 (by kernel_rfl) rfl #[.agg #[.int .i64 ((rd_T26 y257 x47_2).f0), .int .i64 ((rd_T26 y257 x47_2).f1), .int .i64 ((rd_T26 y257 x47_2).f2), .int .i64 ((rd_T26 y257 x47_2).f3), .slice A260_4 ((rd_T26 y257 x47_2).f4).length c260_4], .int .i64 (rd y264 x59_3), .bool (rdOf false y268 x65_4)] rfl (by (try simp only [List.map_toArray, List.map_cons, List.map_nil]); first | done | rfl | (simp only [List.length_drop, List.length_take]; rfl)) ?_; (with_reducible refine (storagebarterref28_Plan.calls k4 ((rd_T26 y257 x47_2).f0) ((rd_T26 y257 x47_2).f1) ((rd_T26 y257 x47_2).f2) ((rd_T26 y257 x47_2).f3) _ _ ((rd_T26 y257 x47_2).f4) (rd y264 x59_3) (rdOf false y268 x65_4) t276 t279 _ ?side1 ?side2 A57.out).mono ?_); (case side1 => repeat (first | exact ((Kd.V_reads' (by (with_reducible repeat (first | apply Kd.V_alloc | apply Kd.V_drewN | apply Kd.V_drew)); exact HO_261004.out)).2.2) | (with_reducible refine Kd.C_alloc ?_ _) | (with_reducible refine Kd.C_drewN ?_ _) | (with_reducible refine Kd.C_drew ?_))); (case side2 => exact HC260_4.out); rintro e w68 ⟨v277, rfl, ho0, hb⟩; refine ⟨_, rfl, ?_⟩; have n0_ := Aside0.mk (Kd.N_elder' (by (with_reducible repeat (first | apply Kd.N_alloc | apply Kd.N_drewN | apply Kd.N_drew)); exact HO_45.out) (Kd.R_base ho0) hb); have n1_ := Aside0.mk (Kd.R_below (by (with_reducible repeat (first | apply Kd.R_alloc | apply Kd.R_drewN | apply Kd.R_drew)); exact HO_57.out) hb); have n2_ := Aside0.mk (Kd.R_below (by (with_reducible repeat (first | apply Kd.R_alloc | apply Kd.R_drewN | apply Kd.R_drew)); exact HO_63.out) hb); have n3_ := Aside0.mk (Kd.V_elder' (by (with_reducible repeat (first | apply Kd.V_alloc | apply Kd.V_drewN | apply Kd.V_drew)); exact HO_229004.out) (Kd.R_base ho0) hb); have m3_ := Aside0.mk (Kd.V_elder' (by (with_reducible repeat (first | apply Kd.V_alloc | apply Kd.V_drewN | apply Kd.V_drew)); exact HO_261004.out) (Kd.R_base ho0) hb); have n4_ := Aside0.mk (Kd.R_elder' (by (with_reducible repeat (first | apply Kd.R_alloc | apply Kd.R_drewN | apply Kd.R_drew)); exact HO274.out) (Kd.R_base ho0) hb); have n5_ := Aside0.mk (Kd.R_lower (Kd.R_new' (Kd.R_newM (M := fun k_ => (w.heap.size ≤ k_)) ho0 (below_size (by repeat (first | (with_reducible first | exact HB.out | apply below_alloc | apply pw_below_drewN | apply below_drew1 | refine below_set ?_ GE228.out | refine below_set ?_ GE261.out) | exact HB.out))) (fun k_ h_ => h_)) (Kd.R_lt (by (with_reducible repeat (first | apply Kd.R_alloc | apply Kd.R_drewN | apply Kd.R_drew)); exact HO274.out))) (below_size (by repeat (first | (with_reducible first | exact HB.out | apply below_alloc | apply pw_below_drewN | apply below_drew1 | refine below_set ?_ GE228.out | refine below_set ?_ GE261.out) | exact HB.out)))); have n6_ := Aside0.mk (blk_below (g := gb228) (o := .cells #[.int .i64 a1_0, .int .i64 a1_1, .int .i64 a1_2, .int .i64 a1_3, .slice A1_4 l1_4.length c1_4] 26 (0, 0)) (by (with_reducible repeat (first | refine blk_drewN ?_ _ | refine blk_drew ?_ | refine blk_alloc ?_ _)); exact BK228.out) hb); have n7_ := Aside0.mk (blk_below (g := gb261) (o := .cells #[.int .i64 ((rd_T26 y257 x47_2).f0), .int .i64 ((rd_T26 y257 x47_2).f1), .int .i64 ((rd_T26 y257 x47_2).f2), .int .i64 ((rd_T26 y257 x47_2).f3), .slice A260_4 ((rd_T26 y257 x47_2).f4).length c260_4] 26 (0, 0)) (by (with_reducible repeat (first | refine blk_drewN ?_ _ | refine blk_drew ?_ | refine blk_alloc ?_ _)); exact BK261.out) hb); have n8_ := Aside0.mk (below_step (by repeat (first | (with_reducible first | exact HB.out | apply below_alloc | apply pw_below_drewN | apply below_drew1 | refine below_set ?_ GE228.out | refine below_set ?_ GE261.out) | exact HB.out)) hb); clear HO_45; clear HO_57; clear HO_63; clear HO_229004; clear HO_261004; clear HO274; clear BK228; clear BK261; clear HB; have HO_45 := n0_; have HO_57 := n1_; have HO_63 := n2_; have HO_229004 := n3_; have HO_261004 := m3_; clear m3_; have HO274 := n4_; have HO278 := n5_; have BK228 := n6_; have BK261 := n7_; have HB := n8_; clear n0_ n1_ n2_ n3_ n4_ n5_ n6_ n7_ n8_; (try clear hb); (try clear hb2); (try clear hk); (try clear hi); (try clear hgw); (try clear ho0)))
                                                have n0_ := Aside0.mk (Kd.N_drew HO_45.out)
                                                have n1_ := Aside0.mk (Kd.R_drew HO_57.out)
                                                have n2_ := Aside0.mk (Kd.R_drew HO_63.out)
                                                have n3_ := Aside0.mk (Kd.V_drew HO_229004.out)
                                                have m3_ := Aside0.mk (Kd.V_drew HO_261004.out)
                                                have n4_ := Aside0.mk (Kd.R_drew HO274.out)
                                                have n5_ := Aside0.mk (Kd.R_drew HO278.out)
                                                have n6_ := Aside0.mk (blk_drew BK228.out)
                                                have n7_ := Aside0.mk (blk_drew BK261.out)
                                                have n8_ := Aside0.mk (below_drew1 HB.out)
                                                clear HO_45
                                                clear HO_57
                                                clear HO_63
                                                clear HO_229004
                                                clear HO_261004
                                                clear HO274
                                                clear HO278
                                                clear BK228
                                                clear BK261
                                                clear HB
                                                have HO_45 := n0_
                                                have HO_57 := n1_
                                                have HO_63 := n2_
                                                have HO_229004 := n3_
                                                have HO_261004 := m3_
                                                clear m3_
                                                have HO274 := n4_
                                                have HO278 := n5_
                                                have BK228 := n6_
                                                have BK261 := n7_
                                                have HB := n8_
                                                clear n0_ n1_ n2_ n3_ n4_ n5_ n6_ n7_ n8_
                                                obtain ⟨Ao70, co70, eo70⟩ := Kd.R_slice HO274.out
                                                (first | subst eo70 | (injection eo70 with f1_ f2_ f3_; have f4_ := f1_.symm; have f5_ := f3_.symm; clear f1_ f2_ f3_; subst f4_; subst f5_))
                                                obtain ⟨Ao71, co71, eo71⟩ := Kd.R_slice HO278.out
                                                (first | subst eo71 | (injection eo71 with f1_ f2_ f3_; have f4_ := f1_.symm; have f5_ := f3_.symm; clear f1_ f2_ f3_; subst f4_; subst f5_))
                                                refine start_ (n := 20) (S := fun w' => w'.cell? ⟨gb261, 0, none⟩ = some (.int .i64 ((rd_T26 y257 x47_2).f0)) ∧ w'.cell? ⟨gb261, 1, none⟩ = some (.int .i64 ((rd_T26 y257 x47_2).f1)) ∧ w'.cell? ⟨gb261, 2, none⟩ = some (.int .i64 ((rd_T26 y257 x47_2).f2)) ∧ w'.cell? ⟨gb261, 3, none⟩ = some (.int .i64 ((rd_T26 y257 x47_2).f3)) ∧ w'.cell? ⟨gb261, 4, none⟩ = some (.slice A260_4 ((rd_T26 y257 x47_2).f4).length c260_4)) (ds := []) #[false, false, false, false, false, false, false, false, false, false, false, false, false, false, false, false, false, false, false, false] (by kernel_rfl) rfl rfl ⟨(blk_cell BK261.out 0).trans rfl, (blk_cell BK261.out 1).trans rfl, (blk_cell BK261.out 2).trans rfl, (blk_cell BK261.out 3).trans rfl, (blk_cell BK261.out 4).trans rfl⟩ (fun hHeld => ?_); refine with_tabW storagebarterlaw28_DutySteps.tab19 storagebarterlaw28_DutySteps.bits19 (fun HT_ HW_ => ?_)
                                                generalize w68.drew = w69 at HO_45 HO_57 HO_63 HO_229004 HO_261004 HO274 HO278 BK228 BK261 HB hHeld ⊢
                                                refine pure_ (i := 0) (N := some 83) (v := ?_) (a' := ?_) #[true, false, false, false, false, false, false, false, false, false, false, false, false, false, false, false, false, false, false, false] rfl rfl (any_of HT_.out (by kernel_rfl)) (fun _ _ _ h => h) (Or.inl ⟨by rfl, ?_⟩) ?_ ?_
                                                rotate_left
                                                · intro w'
                                                  go_simp
                                                  with_reducible rfl
                                                rotate_left
                                                · simp only [Act.put, List.setIfInBounds_toArray, List.set_cons_zero, List.set_cons_succ, i64_w, i32_w]
                                                  rfl
                                                refine pure_ (i := 1) (N := some 84) (v := ?_) (a' := ?_) #[true, true, false, false, false, false, false, false, false, false, false, false, false, false, false, false, false, false, false, false] rfl rfl (any_of HT_.out (by kernel_rfl)) (fun _ _ _ h => h) (Or.inl ⟨by rfl, ?_⟩) ?_ ?_
                                                rotate_left
                                                · intro w'
                                                  go_simp
                                                  with_reducible rfl
                                                rotate_left
                                                · simp only [Act.put, List.setIfInBounds_toArray, List.set_cons_zero, List.set_cons_succ, i64_w, i32_w]
                                                  rfl
                                                refine pure_ (i := 2) (N := some 85) (v := ?_) (a' := ?_) #[true, true, true, false, false, false, false, false, false, false, false, false, false, false, false, false, false, false, false, false] rfl rfl (any_of HT_.out (by kernel_rfl)) (fun _ _ _ h => h) (Or.inl ⟨by rfl, ?_⟩) ?_ ?_
                                                rotate_left
                                                · intro w'
                                                  go_simp
                                                  with_reducible rfl
                                                rotate_left
                                                · simp only [Act.put, List.setIfInBounds_toArray, List.set_cons_zero, List.set_cons_succ, i64_w, i32_w]
                                                  rfl
                                                refine pure_ (i := 3) (N := some 86) (v := ?_) (a' := ?_) #[true, true, true, true, false, false, false, false, false, false, false, false, false, false, false, false, false, false, false, false] rfl rfl (any_of HT_.out (by kernel_rfl)) (fun _ _ _ h => h) (Or.inl ⟨by rfl, ?_⟩) ?_ ?_
                                                rotate_left
                                                · intro w'
                                                  go_simp
                                                  with_reducible rfl
                                                rotate_left
                                                · simp only [Act.put, List.setIfInBounds_toArray, List.set_cons_zero, List.set_cons_succ, i64_w, i32_w]
                                                  rfl
                                                refine pure_ (i := 4) (N := some 87) (v := ?_) (a' := ?_) #[true, true, true, true, true, false, false, false, false, false, false, false, false, false, false, false, false, false, false, false] rfl rfl (any_of HT_.out (by kernel_rfl)) (fun _ _ _ h => h) (Or.inl ⟨by rfl, ?_⟩) ?_ ?_
                                                rotate_left
                                                · intro w'
                                                  go_simp
                                                  with_reducible rfl
                                                rotate_left
                                                · simp only [Act.put, List.setIfInBounds_toArray, List.set_cons_zero, List.set_cons_succ, i64_w, i32_w]
                                                  rfl
                                                refine pure_ (i := 5) (N := some 88) (v := ?_) (a' := ?_) #[true, true, true, true, true, true, false, false, false, false, false, false, false, false, false, false, false, false, false, false] rfl rfl (any_of HT_.out (by kernel_rfl)) (fun _ _ _ h => h) (Or.inl ⟨by rfl, ?_⟩) ?_ ?_
                                                rotate_left
                                                · intro w'
                                                  go_simp
                                                  with_reducible rfl
                                                rotate_left
                                                · simp only [Act.put, List.setIfInBounds_toArray, List.set_cons_zero, List.set_cons_succ, i64_w, i32_w]
                                                  rfl
                                                refine one_ (i := 6) (N := some 89) #[true, true, true, true, true, true, true, false, false, false, false, false, false, false, false, false, false, false, false, false] rfl rfl (one_of HT_.out (by kernel_rfl)) (by decide) (fun K hK => ?_)
                                                refine goes_ Tryd.func25 (by kernel_rfl) rfl #[.slice Ao70 t272.length co70, .slice Ao71 t276.length co71] (by rfl) rfl rfl (by (try simp only [List.map_toArray, List.map_cons, List.map_nil]); first | done | rfl | (simp only [List.length_drop, List.length_take]; rfl)) ?_
                                                with_reducible refine (storagebarterref28_Same.calls k4 _ _ t272 _ _ t276 true _ ?side1 ?side2 ?side3 ?side4 A59.out).mono ?_
                                                (case side1 => repeat (first | exact (Kd.R_reads' HO274.out).2.2 | (with_reducible refine Kd.C_alloc ?_ _) | (with_reducible refine Kd.C_drewN ?_ _) | (with_reducible refine Kd.C_drew ?_)))
                                                (case side2 => exact (Kd.R_reads' HO274.out).2.1)
                                                (case side3 => repeat (first | exact (Kd.R_reads' HO278.out).2.2 | (with_reducible refine Kd.C_alloc ?_ _) | (with_reducible refine Kd.C_drewN ?_ _) | (with_reducible refine Kd.C_drew ?_)))
                                                (case side4 => exact (Kd.R_reads' HO278.out).2.1)
                                                rintro e w' ⟨rfl, ⟨nd, rfl⟩⟩
                                                refine ⟨_, rfl, ?_⟩
                                                refine hK.out _ _ ⟨(blk_cell BK261.out 0).trans rfl, (blk_cell BK261.out 1).trans rfl, (blk_cell BK261.out 2).trans rfl, (blk_cell BK261.out 3).trans rfl, (blk_cell BK261.out 4).trans rfl⟩ (fun hHeld => ?_)
                                                clear hK K
                                                refine norm_ (a' := ?_) ?_ ?_
                                                rotate_left
                                                · show Act.put _ (some 89) _ = _
                                                  simp only [Act.put, List.setIfInBounds_toArray, List.set_cons_zero, List.set_cons_succ, i64_w, i32_w]
                                                  rfl
                                                refine pure_ (i := 7) (N := some 90) (v := ?_) (a' := ?_) #[true, true, true, true, true, true, true, true, false, false, false, false, false, false, false, false, false, false, false, false] rfl rfl (any_of HT_.out (by kernel_rfl)) (fun _ _ _ h => h) (Or.inl ⟨by rfl, ?_⟩) ?_ ?_
                                                rotate_left
                                                · intro w'
                                                  go_simp
                                                  with_reducible rfl
                                                rotate_left
                                                · simp only [Act.put, List.setIfInBounds_toArray, List.set_cons_zero, List.set_cons_succ, i64_w, i32_w]
                                                  rfl
                                                refine pure_ (i := 8) (N := some 91) (v := ?_) (a' := ?_) #[true, true, true, true, true, true, true, true, true, false, false, false, false, false, false, false, false, false, false, false] rfl rfl (any_of HT_.out (by kernel_rfl)) (fun _ _ _ h => h) (Or.inl ⟨by rfl, ?_⟩) ?_ ?_
                                                rotate_left
                                                · intro w'
                                                  go_simp
                                                  with_reducible rfl
                                                rotate_left
                                                · simp only [Act.put, List.setIfInBounds_toArray, List.set_cons_zero, List.set_cons_succ, i64_w, i32_w]
                                                  rfl
                                                refine pure_ (i := 9) (N := some 92) (v := ?_) (a' := ?_) #[true, true, true, true, true, true, true, true, true, true, false, false, false, false, false, false, false, false, false, false] rfl rfl (any_of HT_.out (by kernel_rfl)) (fun _ _ _ h => h) (Or.inl ⟨by rfl, ?_⟩) ?_ ?_
                                                rotate_left
                                                · intro w'
                                                  go_simp
                                                  with_reducible rfl
                                                rotate_left
                                                · simp only [Act.put, List.setIfInBounds_toArray, List.set_cons_zero, List.set_cons_succ, i64_w, i32_w]
                                                  rfl
                                                refine pure_ (i := 10) (N := some 93) (v := ?_) (a' := ?_) #[true, true, true, true, true, true, true, true, true, true, true, false, false, false, false, false, false, false, false, false] rfl rfl (any_of HT_.out (by kernel_rfl)) (fun _ _ _ h => h) (Or.inl ⟨by rfl, ?_⟩) ?_ ?_
                                                rotate_left
                                                · intro w'
                                                  go_simp
                                                  with_reducible rfl
                                                rotate_left
                                                · simp only [Act.put, List.setIfInBounds_toArray, List.set_cons_zero, List.set_cons_succ, i64_w, i32_w]
                                                  rfl
                                                refine pure_ (i := 11) (N := some 94) (v := ?_) (a' := ?_) #[true, true, true, true, true, true, true, true, true, true, true, true, false, false, false, false, false, false, false, false] rfl rfl (any_of HT_.out (by kernel_rfl)) (fun _ _ _ h => h) (Or.inl ⟨by rfl, ?_⟩) ?_ ?_
                                                rotate_left
                                                · intro w'
                                                  go_simp
                                                  with_reducible rfl
                                                rotate_left
                                                · simp only [Act.put, List.setIfInBounds_toArray, List.set_cons_zero, List.set_cons_succ, i64_w, i32_w]
                                                  rfl
                                                refine pure_ (i := 14) (N := some 97) (v := ?_) (a' := ?_) #[true, true, true, true, true, true, true, true, true, true, true, true, false, false, true, false, false, false, false, false] rfl rfl (any_of HT_.out (by kernel_rfl)) (fun _ _ _ h => h) (Or.inl ⟨by rfl, ?_⟩) ?_ ?_
                                                rotate_left
                                                · intro w'
                                                  go_simp
                                                  with_reducible rfl
                                                rotate_left
                                                · simp only [Act.put, List.setIfInBounds_toArray, List.set_cons_zero, List.set_cons_succ, i64_w, i32_w]
                                                  rfl
                                                refine pure_ (i := 15) (N := some 98) (v := ?_) (a' := ?_) #[true, true, true, true, true, true, true, true, true, true, true, true, false, false, true, true, false, false, false, false] rfl rfl (any_of HT_.out (by kernel_rfl)) (fun _ _ _ h => h) (Or.inl ⟨by rfl, ?_⟩) ?_ ?_
                                                rotate_left
                                                · intro w'
                                                  go_simp
                                                  with_reducible rfl
                                                rotate_left
                                                · simp only [Act.put, List.setIfInBounds_toArray, List.set_cons_zero, List.set_cons_succ, i64_w, i32_w]
                                                  rfl
                                                refine take_ (i := 12) (N := some 95) (v := ?_) (a' := ?_) #[true, true, true, true, true, true, true, true, true, true, true, true, true, false, true, true, false, false, false, false] rfl rfl (take_ofW HT_.out HW_.out (by kernel_rfl)) (fun _ _ _ h => h) (Or.inl ⟨by rfl, ?_⟩) hHeld ?_ ?_
                                                rotate_left
                                                · rintro w' ⟨s0, s1, s2, s3, s4⟩
                                                  go_simp
                                                  with_reducible rfl
                                                rotate_left
                                                · simp only [Act.put, List.setIfInBounds_toArray, List.set_cons_zero, List.set_cons_succ, i64_w, i32_w]
                                                  rfl
                                                refine take_ (i := 16) (N := some 99) (v := ?_) (a' := ?_) #[true, true, true, true, true, true, true, true, true, true, true, true, true, false, true, true, true, false, false, false] rfl rfl (take_ofW HT_.out HW_.out (by kernel_rfl)) (fun _ _ _ h => h) (Or.inl ⟨by rfl, ?_⟩) hHeld ?_ ?_
                                                rotate_left
                                                · rintro w' ⟨s0, s1, s2, s3, s4⟩
                                                  go_simp
                                                  with_reducible rfl
                                                rotate_left
                                                · simp only [Act.put, List.setIfInBounds_toArray, List.set_cons_zero, List.set_cons_succ, i64_w, i32_w]
                                                  rfl
                                                refine one_ (i := 13) (N := some 96) #[true, true, true, true, true, true, true, true, true, true, true, true, true, true, true, true, true, false, false, false] rfl rfl (one_of HT_.out (by kernel_rfl)) (by decide) (fun K hK => ?_)
                                                refine goes_ Tryd.func20 (by kernel_rfl) rfl #[.slice Ao70 t272.length co70, .int .i64 ((rd_T26 y257 x47_2).f0)] (by rfl) rfl rfl (by (try simp only [List.map_toArray, List.map_cons, List.map_nil]); first | done | rfl | (simp only [List.length_drop, List.length_take]; rfl)) ?_
                                                with_reducible refine (duty_Total.calls k4 _ _ t272 ((rd_T26 y257 x47_2).f0) t281 _ ?side1 ?side2 A61.out (by first | exact HL_.out | exact laid_below HL_.out (by repeat (first | (with_reducible first | exact HB.out | apply below_alloc | apply pw_below_drewN | apply below_drew1) | refine below_set ?_ (Aside0.out (by assumption)) | exact HB.out)) | exact laid_drawn HL_.out HD.out | exact laid_drawn HL_.out (HD.out.step _))).mono ?_
                                                (case side1 => repeat (first | exact (Kd.R_reads' HO274.out).2.2 | (with_reducible refine Kd.C_alloc ?_ _) | (with_reducible refine Kd.C_drewN ?_ _) | (with_reducible refine Kd.C_drew ?_)))
                                                (case side2 => exact (Kd.R_reads' HO274.out).2.1)
                                                rintro e w72 ⟨rfl, hb⟩
                                                refine ⟨_, rfl, ?_⟩
                                                have n0_ := Aside0.mk (Kd.N_below (by (with_reducible repeat (first | apply Kd.N_alloc | apply Kd.N_drewN | apply Kd.N_drew)); exact HO_45.out) hb)
                                                have n1_ := Aside0.mk (Kd.R_below (by (with_reducible repeat (first | apply Kd.R_alloc | apply Kd.R_drewN | apply Kd.R_drew)); exact HO_57.out) hb)
                                                have n2_ := Aside0.mk (Kd.R_below (by (with_reducible repeat (first | apply Kd.R_alloc | apply Kd.R_drewN | apply Kd.R_drew)); exact HO_63.out) hb)
                                                have n3_ := Aside0.mk (Kd.V_below (by (with_reducible repeat (first | apply Kd.V_alloc | apply Kd.V_drewN | apply Kd.V_drew)); exact HO_229004.out) hb)
                                                have m3_ := Aside0.mk (Kd.V_below (by (with_reducible repeat (first | apply Kd.V_alloc | apply Kd.V_drewN | apply Kd.V_drew)); exact HO_261004.out) hb)
                                                have n4_ := Aside0.mk (Kd.R_below (by (with_reducible repeat (first | apply Kd.R_alloc | apply Kd.R_drewN | apply Kd.R_drew)); exact HO274.out) hb)
                                                have n5_ := Aside0.mk (Kd.R_below (by (with_reducible repeat (first | apply Kd.R_alloc | apply Kd.R_drewN | apply Kd.R_drew)); exact HO278.out) hb)
                                                have n6_ := Aside0.mk (blk_below (g := gb228) (o := .cells #[.int .i64 a1_0, .int .i64 a1_1, .int .i64 a1_2, .int .i64 a1_3, .slice A1_4 l1_4.length c1_4] 26 (0, 0)) (by (with_reducible repeat (first | refine blk_drewN ?_ _ | refine blk_drew ?_ | refine blk_alloc ?_ _)); exact BK228.out) hb)
                                                have n7_ := Aside0.mk (blk_below (g := gb261) (o := .cells #[.int .i64 ((rd_T26 y257 x47_2).f0), .int .i64 ((rd_T26 y257 x47_2).f1), .int .i64 ((rd_T26 y257 x47_2).f2), .int .i64 ((rd_T26 y257 x47_2).f3), .slice A260_4 ((rd_T26 y257 x47_2).f4).length c260_4] 26 (0, 0)) (by (with_reducible repeat (first | refine blk_drewN ?_ _ | refine blk_drew ?_ | refine blk_alloc ?_ _)); exact BK261.out) hb)
                                                have n8_ := Aside0.mk (below_step (by repeat (first | (with_reducible first | exact HB.out | apply below_alloc | apply pw_below_drewN | apply below_drew1 | refine below_set ?_ GE228.out | refine below_set ?_ GE261.out) | exact HB.out)) hb)
                                                clear HO_45
                                                clear HO_57
                                                clear HO_63
                                                clear HO_229004
                                                clear HO_261004
                                                clear HO274
                                                clear HO278
                                                clear BK228
                                                clear BK261
                                                clear HB
                                                have HO_45 := n0_
                                                have HO_57 := n1_
                                                have HO_63 := n2_
                                                have HO_229004 := n3_
                                                have HO_261004 := m3_
                                                clear m3_
                                                have HO274 := n4_
                                                have HO278 := n5_
                                                have BK228 := n6_
                                                have BK261 := n7_
                                                have HB := n8_
                                                clear n0_ n1_ n2_ n3_ n4_ n5_ n6_ n7_ n8_
                                                (try clear hb)
                                                (try clear hb2)
                                                (try clear hk)
                                                (try clear hi)
                                                (try clear hgw)
                                                refine hK.out _ _ ⟨(blk_cell BK261.out 0).trans rfl, (blk_cell BK261.out 1).trans rfl, (blk_cell BK261.out 2).trans rfl, (blk_cell BK261.out 3).trans rfl, (blk_cell BK261.out 4).trans rfl⟩ (fun hHeld => ?_)
                                                clear hK K
                                                refine norm_ (a' := ?_) ?_ ?_
                                                rotate_left
                                                · show Act.put _ (some 96) _ = _
                                                  simp only [Act.put, List.setIfInBounds_toArray, List.set_cons_zero, List.set_cons_succ, i64_w, i32_w]
                                                  rfl
                                                refine one_ (i := 17) (N := some 100) #[true, true, true, true, true, true, true, true, true, true, true, true, true, true, true, true, true, true, false, false] rfl rfl (one_of HT_.out (by kernel_rfl)) (by decide) (fun K hK => ?_)
                                                refine goes_ Tryd.func26 (by kernel_rfl) rfl #[.slice Ao71 t276.length co71, .int .i64 ((rd_T26 y257 x47_2).f0)] (by rfl) rfl rfl (by (try simp only [List.map_toArray, List.map_cons, List.map_nil]); first | done | rfl | (simp only [List.length_drop, List.length_take]; rfl)) ?_
                                                with_reducible refine (storagebarterref28_Total.calls k4 _ _ t276 ((rd_T26 y257 x47_2).f0) t282 _ ?side1 ?side2 A62.out).mono ?_
                                                (case side1 => repeat (first | exact (Kd.R_reads' HO278.out).2.2 | (with_reducible refine Kd.C_alloc ?_ _) | (with_reducible refine Kd.C_drewN ?_ _) | (with_reducible refine Kd.C_drew ?_)))
                                                (case side2 => exact (Kd.R_reads' HO278.out).2.1)
                                                rintro e w' ⟨rfl, ⟨nd, rfl⟩⟩
                                                refine ⟨_, rfl, ?_⟩
                                                refine hK.out _ _ ⟨(blk_cell BK261.out 0).trans rfl, (blk_cell BK261.out 1).trans rfl, (blk_cell BK261.out 2).trans rfl, (blk_cell BK261.out 3).trans rfl, (blk_cell BK261.out 4).trans rfl⟩ (fun hHeld => ?_)
                                                clear hK K
                                                refine norm_ (a' := ?_) ?_ ?_
                                                rotate_left
                                                · show Act.put _ (some 100) _ = _
                                                  simp only [Act.put, List.setIfInBounds_toArray, List.set_cons_zero, List.set_cons_succ, i64_w, i32_w]
                                                  rfl
                                                refine pure_ (i := 18) (N := some 101) (v := ?_) (a' := ?_) #[true, true, true, true, true, true, true, true, true, true, true, true, true, true, true, true, true, true, true, false] rfl rfl (any_of HT_.out (by kernel_rfl)) (fun _ _ _ h => h) (Or.inl ⟨by rfl, ?_⟩) ?_ ?_
                                                rotate_left
                                                · intro w'
                                                  go_simp
                                                  with_reducible rfl
                                                rotate_left
                                                · simp only [Act.put, List.setIfInBounds_toArray, List.set_cons_zero, List.set_cons_succ, i64_w, i32_w]
                                                  rfl
                                                refine pure_ (i := 19) (N := some 102) (v := ?_) (a' := ?_) #[true, true, true, true, true, true, true, true, true, true, true, true, true, true, true, true, true, true, true, true] rfl rfl (any_of HT_.out (by kernel_rfl)) (fun _ _ _ h => h) (Or.inl ⟨by rfl, ?_⟩) ?_ ?_
                                                rotate_left
                                                · intro w'
                                                  go_simp
                                                  with_reducible rfl
                                                rotate_left
                                                · simp only [Act.put, List.setIfInBounds_toArray, List.set_cons_zero, List.set_cons_succ, i64_w, i32_w]
                                                  rfl
                                                refine done_ (done_of HT_.out (by kernel_rfl)) ?_
                                                try go_wp2
                                                go_roundg k4
                                                case measure => have := HJ8.out; have := HK2.out; have := HK3.out; have := HK4.out; omega
                                                case rel => exact ⟨(wrap64 (x65_4 + 1)), (by first | rfl | (simp; done) | (simp [*]; done)), H', ⟨by have := HJ8.out; have := HK2.out; have := HK3.out; have := HK4.out; omega⟩, ⟨by (with_reducible repeat (first | apply Kd.N_alloc | apply Kd.N_drewN | apply Kd.N_drew)); exact Kd.N_mono HO_45.out (fun _ hk => ⟨hk.1.1.1, ⟨hk.1.1.2.1, ⟨hk.1.1.2.2.1, ⟨hk.1.1.2.2.2.1, hk.1.1.2.2.2.2⟩⟩⟩⟩)⟩, ⟨by (with_reducible repeat (first | apply Kd.R_alloc | apply Kd.R_drewN | apply Kd.R_drew)); exact HO_57.out⟩, ⟨by (with_reducible repeat (first | apply Kd.R_alloc | apply Kd.R_drewN | apply Kd.R_drew)); exact HO_63.out⟩, ⟨by (with_reducible repeat (first | apply Kd.V_alloc | apply Kd.V_drewN | apply Kd.V_drew)); exact Kd.V_mono HO_229004.out (fun _ hk => ⟨hk.1.1.1, ⟨hk.1.1.2.1, ⟨hk.1.1.2.2.1, ⟨hk.1.1.2.2.2.1, ⟨hk.1.1.2.2.2.2.1, hk.1.1.2.2.2.2.2⟩⟩⟩⟩⟩)⟩, ⟨by (with_reducible repeat (first | apply Kd.V_alloc | apply Kd.V_drewN | apply Kd.V_drew)); exact Kd.V_mono HO_261004.out (fun _ hk => ⟨hk.1.1.1, ⟨hk.1.1.2.1, ⟨hk.1.1.2.2.1, ⟨hk.1.1.2.2.2.1, ⟨hk.1.1.2.2.2.2.1, hk.1.1.2.2.2.2.2⟩⟩⟩⟩⟩)⟩, ⟨by (with_reducible repeat (first | refine blk_drewN ?_ _ | refine blk_drew ?_ | refine blk_alloc ?_ _)); exact BK228.out⟩, ⟨by (with_reducible repeat (first | refine blk_drewN ?_ _ | refine blk_drew ?_ | refine blk_alloc ?_ _)); exact BK261.out⟩, ⟨by repeat (first | (with_reducible first | exact HB.out | apply below_alloc | apply pw_below_drewN | apply below_drew1 | refine below_set ?_ GE228.out | refine below_set ?_ GE261.out) | exact HB.out)⟩⟩
                                              · rw [if_neg c63] at H
                                                have c63b0 : (t281 == t282) = false := beq_eq_false_iff_ne.mpr c63
                                                have c63b1 : (t281 != t282) = true := bne_iff_ne.mpr c63
                                                exact absurd (Option.some.inj H) (by rw [HRT_.out]; decide)
                                            · replace c60 := Bool.eq_false_iff.mpr c60
                                              subst c60
                                              have H1 : (some false) = some r := by rw [if_neg (show ¬ (false = true) by decide)] at H; exact H
                                              clear H
                                              have H := H1
                                              clear H1
                                              exact absurd (Option.some.inj H) (by rw [HRT_.out]; decide)
                                          · rw [if_neg c58] at H
                                            have c58b0 : (t275 == t279) = false := beq_eq_false_iff_ne.mpr c58
                                            have c58b1 : (t275 != t279) = true := bne_iff_ne.mpr c58
                                            exact absurd (Option.some.inj H) (by rw [HRT_.out]; decide)
                                        · rw [if_neg c55] at H
                                          exact absurd H (by simp)
                                      · rw [if_neg c54] at H
                                        exact absurd H (by simp)
                                    · rw [if_neg c53] at H
                                      have c53b0 : decide (x65_4 < (y268.length : Int)) = false := decide_eq_false c53
                                      clear c53
                                      have H' := Aside0.mk H
                                      clear H
                                      go_wp2
                                      go_roundg k4
                                      case measure => have := HJ8.out; have := HK2.out; have := HK3.out; have := HK4.out; omega
                                      case rel => exact ⟨(wrap64 (x59_3 + 1)), (by first | rfl | (simp; done) | (simp [*]; done)), H', ⟨by have := HJ8.out; have := HK2.out; have := HK3.out; have := HK4.out; omega⟩, ⟨by (with_reducible repeat (first | apply Kd.N_alloc | apply Kd.N_drewN | apply Kd.N_drew)); exact Kd.N_mono HO_45.out (fun _ hk => ⟨hk.1, ⟨hk.2.1, ⟨hk.2.2.2.1, hk.2.2.2.2⟩⟩⟩)⟩, ⟨by (with_reducible repeat (first | apply Kd.R_alloc | apply Kd.R_drewN | apply Kd.R_drew)); exact HO_57.out⟩, ⟨by (with_reducible repeat (first | apply Kd.V_alloc | apply Kd.V_drewN | apply Kd.V_drew)); exact Kd.V_mono HO_229004.out (fun _ hk => ⟨hk.1, ⟨hk.2.1, ⟨hk.2.2.1, ⟨hk.2.2.2.2.1, hk.2.2.2.2.2⟩⟩⟩⟩)⟩, ⟨by (with_reducible repeat (first | apply Kd.V_alloc | apply Kd.V_drewN | apply Kd.V_drew)); exact Kd.V_mono HO_261004.out (fun _ hk => ⟨hk.1, ⟨hk.2.1, ⟨hk.2.2.1, ⟨hk.2.2.2.2.1, hk.2.2.2.2.2⟩⟩⟩⟩)⟩, ⟨by (with_reducible repeat (first | refine blk_drewN ?_ _ | refine blk_drew ?_ | refine blk_alloc ?_ _)); exact BK228.out⟩, ⟨by (with_reducible repeat (first | refine blk_drewN ?_ _ | refine blk_drew ?_ | refine blk_alloc ?_ _)); exact BK261.out⟩, ⟨by repeat (first | (with_reducible first | exact HB.out | apply below_alloc | apply pw_below_drewN | apply below_drew1 | refine below_set ?_ GE228.out | refine below_set ?_ GE261.out) | exact HB.out)⟩⟩
                              · rw [if_neg c49] at H
                                exact absurd H (by simp)
                            · rw [if_neg c48] at H
                              exact absurd H (by simp)
                          · rw [if_neg c47] at H
                            have c47b0 : decide (x59_3 < (y264.length : Int)) = false := decide_eq_false c47
                            clear c47
                            have H' := Aside0.mk H
                            clear H
                            go_wp2
                            go_roundg k3
                            case measure => have := HJ8.out; have := HK2.out; have := HK3.out; omega
                            case rel => exact ⟨(wrap64 (x47_2 + 1)), (by first | rfl | (simp; done) | (simp [*]; done)), H', ⟨by have := HJ8.out; have := HK2.out; have := HK3.out; omega⟩, ⟨by (with_reducible repeat (first | apply Kd.N_alloc | apply Kd.N_drewN | apply Kd.N_drew)); exact Kd.N_mono HO_45.out (fun _ hk => ⟨hk.1, hk.2.2.1⟩)⟩, ⟨by (with_reducible repeat (first | apply Kd.V_alloc | apply Kd.V_drewN | apply Kd.V_drew)); exact Kd.V_mono HO_229004.out (fun _ hk => ⟨hk.1, ⟨hk.2.1, hk.2.2.2.1⟩⟩)⟩, ⟨by (with_reducible repeat (first | refine blk_drewN ?_ _ | refine blk_drew ?_ | refine blk_alloc ?_ _)); exact BK228.out⟩, ⟨by repeat (first | (with_reducible first | exact HB.out | apply below_alloc | apply pw_below_drewN | apply below_drew1 | refine below_set ?_ GE228.out | refine below_set ?_ GE261.out) | exact HB.out)⟩⟩
                  · rw [if_neg c33] at H
                    exact absurd H (by simp)
                · rw [if_neg c32] at H
                  exact absurd H (by simp)
              · rw [if_neg c31] at H
                have c31b0 : decide (x47_2 < (y257.length : Int)) = false := decide_eq_false c31
                clear c31
                have H' := Aside0.mk H
                clear H
                go_wp2
                go_loopg [24] k2 (fun kq v24 w' => ∃ (x24_3 : Int), v24 = .int .i64 x24_3 ∧ Aside0 (storagebarterlaw28_DutySteps.l3 kq a3 a4 l5 x24_3 = some r) ∧ Aside0 (kq ≤ k2) ∧ Aside0 (Kd.V (Kd.int .i64) 3 w' w.heap.size (fun k_ => (P1_4_ k_ ∨ w.heap.size ≤ k_) ∧ k_ ≠ gb228) (.slice A1_4 l1_4.length c1_4) l1_4) ∧ Aside0 (w'.heap[gb228]? = some (.cells #[.int .i64 a1_0, .int .i64 a1_1, .int .i64 a1_2, .int .i64 a1_3, (.slice A1_4 l1_4.length c1_4)] 26 (0, 0))) ∧ Aside0 (Below w.heap.size w w'))
                case atStart => exact ⟨((-1)), (by first | rfl | (simp; done) | (simp [*]; done)), H', ⟨Nat.le_refl _⟩, ⟨by (with_reducible repeat (first | apply Kd.V_alloc | apply Kd.V_drewN | apply Kd.V_drew)); exact Kd.V_mono HO_229004.out (fun _ hk => ⟨hk.1, hk.2.2⟩)⟩, ⟨by (with_reducible repeat (first | refine blk_drewN ?_ _ | refine blk_drew ?_ | refine blk_alloc ?_ _)); exact BK228.out⟩, ⟨by repeat (first | (with_reducible first | exact HB.out | apply below_alloc | apply pw_below_drewN | apply below_drew1 | refine below_set ?_ GE228.out) | exact HB.out)⟩⟩
                case round =>
                  clear H'
                  try clear c1
                  try clear c2
                  try clear p2
                  try clear q2
                  try clear hx2
                  try clear c3
                  try clear c4
                  try clear c5
                  try clear c6
                  try clear p6
                  try clear c8
                  try clear c12
                  try clear c12b0
                  try clear c12b1
                  try clear c15
                  try clear c16
                  try clear c17
                  try clear c18
                  try clear c19
                  try clear c20
                  try clear c21
                  try clear c22
                  try clear c23
                  try clear c24
                  try clear c25
                  try clear c26
                  try clear p26
                  try clear q26
                  try clear hx26
                  try clear p27
                  try clear q27
                  try clear hx27
                  try clear c31
                  try clear c31b0
                  try clear c32
                  try clear c32b0
                  try clear c33
                  try clear c33b0
                  try clear c36
                  try clear c36b0
                  try clear c36b1
                  try clear c36b2
                  try clear c38
                  try clear c47
                  try clear c47b0
                  try clear c48
                  try clear c48b0
                  try clear c49
                  try clear c49b0
                  try clear c53
                  try clear c53b0
                  try clear c54
                  try clear c54b0
                  try clear c55
                  try clear c55b0
                  try clear c58
                  try clear c58b0
                  try clear c58b1
                  try clear c60
                  try clear c63
                  try clear c63b0
                  try clear c63b1
                  try clear c64
                  try clear p64
                  try clear hcz13_0
                  try clear hcz13_1
                  try clear hcz13_2
                  try clear hcz13_3
                  try clear hcz13_4
                  try clear hcz14_0
                  try clear hcz14_1
                  try clear hcz14_2
                  try clear hcz14_3
                  try clear hcz14_4
                  try clear hcz39_0
                  try clear hcz39_1
                  try clear hcz39_2
                  try clear hcz39_3
                  try clear hcz39_4
                  try clear hcz65_0
                  try clear hcz65_1
                  try clear hcz65_2
                  try clear hcz65_3
                  try clear hcz65_4
                  try clear hcz67_0
                  try clear hcz67_1
                  try clear hcz67_2
                  try clear hcz67_3
                  try clear hcz67_4
                  try clear hfz13_0
                  try clear hfz13_1
                  try clear hfz13_2
                  try clear hfz13_3
                  try clear hfz13_4
                  try clear hfz14_0
                  try clear hfz14_1
                  try clear hfz14_2
                  try clear hfz14_3
                  try clear hfz14_4
                  try clear hfz39_0
                  try clear hfz39_1
                  try clear hfz39_2
                  try clear hfz39_3
                  try clear hfz39_4
                  try clear hfz65_0
                  try clear hfz65_1
                  try clear hfz65_2
                  try clear hfz65_3
                  try clear hfz65_4
                  try clear hfz67_0
                  try clear hfz67_1
                  try clear hfz67_2
                  try clear hfz67_3
                  try clear hfz67_4
                  try clear hx260_0
                  try clear hx260_1
                  try clear hx260_2
                  try clear hx260_3
                  try clear hx260_4
                  try clear hx267_0
                  try clear hx271_0
                  try clear p2
                  try clear p26
                  try clear p260
                  try clear p267
                  try clear p271
                  try clear q2
                  try clear q26
                  try clear q260
                  try clear q267
                  try clear q271
                  obtain ⟨x24_3, rfl, HA, HK3, HO_229004, BK228, HB⟩ := hrel
                  cases gk with
                  | zero => exact absurd HA.out (by simp [storagebarterlaw28_DutySteps.l3])
                  | succ k3 =>
                    have H := HA.out
                    clear HA
                    simp only [storagebarterlaw28_DutySteps.l3] at H
                    by_cases c73 : x24_3 < 10
                    · rw [if_pos c73] at H
                      have c73b0 : decide (x24_3 < 10) = true := decide_eq_true c73
                      clear c73
                      replace H := Option.bind_eq_some_iff.mp H
                      obtain ⟨t283, A740, H⟩ := H
                      replace H : ((storagebarterref28_Cost.f x24_3).bind fun t284 => (if t283 = t284 then (storagebarterlaw28_DutySteps.l3 k3 a3 a4 l5 (wrap64 (x24_3 + 1))) else (some false))) = some r := H
                      have A74 := Aside0.mk A740
                      clear A740
                      replace H := Option.bind_eq_some_iff.mp H
                      obtain ⟨t284, A750, H⟩ := H
                      replace H : (if t283 = t284 then (storagebarterlaw28_DutySteps.l3 k3 a3 a4 l5 (wrap64 (x24_3 + 1))) else (some false)) = some r := H
                      have A75 := Aside0.mk A750
                      clear A750
                      by_cases c76 : t283 = t284
                      · rw [if_pos c76] at H
                        have c76b0 : (t283 == t284) = true := beq_iff_eq.mpr c76
                        have c76b1 : (t283 != t284) = false := bne_eq_false_iff_eq.mpr c76
                        clear c76
                        have H' := Aside0.mk H
                        clear H
                        go_wp2_with (first | ((with_reducible refine gate_callee (f := 27) rfl ?_); refine goesL_ (some 111) rfl rfl Tryd.func27 (by kernel_rfl) rfl #[.int .i64 x24_3] rfl (by (try simp only [List.map_toArray, List.map_cons, List.map_nil]); first | done | rfl | (simp only [List.length_drop, List.length_take]; rfl)) ?_; (with_reducible refine (duty_Cost.calls x24_3 t283 _ A74.out (by first | exact HL_.out | exact laid_below HL_.out (by repeat (first | (with_reducible first | exact HB.out | apply below_alloc | apply pw_below_drewN | apply below_drew1) | refine below_set ?_ (Aside0.out (by assumption)) | exact HB.out)) | exact laid_drawn HL_.out HD.out | exact laid_drawn HL_.out (HD.out.step _))).mono ?_); rintro e w' ⟨rfl, ⟨nd, rfl⟩⟩; refine ⟨_, rfl, ?_⟩) | ((with_reducible refine gate_callee (f := 28) rfl ?_); refine goesL_ (some 113) rfl rfl Tryd.func28 (by kernel_rfl) rfl #[.int .i64 x24_3] rfl (by (try simp only [List.map_toArray, List.map_cons, List.map_nil]); first | done | rfl | (simp only [List.length_drop, List.length_take]; rfl)) ?_; (with_reducible refine (storagebarterref28_Cost.calls x24_3 t284 _ A75.out).mono ?_); rintro e w' ⟨rfl, ⟨nd, rfl⟩⟩; refine ⟨_, rfl, ?_⟩))
                        go_roundg k3
                        case measure => have := HJ8.out; have := HK2.out; have := HK3.out; omega
                        case rel => exact ⟨(wrap64 (x24_3 + 1)), (by first | rfl | (simp; done) | (simp [*]; done)), H', ⟨by have := HJ8.out; have := HK2.out; have := HK3.out; omega⟩, ⟨by (with_reducible repeat (first | apply Kd.V_alloc | apply Kd.V_drewN | apply Kd.V_drew)); exact HO_229004.out⟩, ⟨by (with_reducible repeat (first | refine blk_drewN ?_ _ | refine blk_drew ?_ | refine blk_alloc ?_ _)); exact BK228.out⟩, ⟨by repeat (first | (with_reducible first | exact HB.out | apply below_alloc | apply pw_below_drewN | apply below_drew1 | refine below_set ?_ GE228.out) | exact HB.out)⟩⟩
                      · rw [if_neg c76] at H
                        have c76b0 : (t283 == t284) = false := beq_eq_false_iff_ne.mpr c76
                        have c76b1 : (t283 != t284) = true := bne_iff_ne.mpr c76
                        exact absurd (Option.some.inj H) (by rw [HRT_.out]; decide)
                    · rw [if_neg c73] at H
                      have c73b0 : decide (x24_3 < 10) = false := decide_eq_false c73
                      clear c73
                      replace H := Option.bind_eq_some_iff.mp H
                      obtain ⟨t285, A770, H⟩ := H
                      replace H : ((storagebarterref28_Cost.f a3).bind fun t286 => (if t285 = t286 then ((duty_Total.f k3 l5 a4).bind fun t287 => ((storagebarterref28_Total.f k3 l5 a4).bind fun t288 => (if t287 = t288 then ((duty_Of.f k3 l5 a4).bind fun t289 => ((storagebarterref28_Of.f k3 l5 a4).bind fun t292 => ((storagebarterref28_SameInts.f k3 t289 t292).bind fun t295 => (some t295)))) else (some false)))) else (some false))) = some r := H
                      have A77 := Aside0.mk A770
                      clear A770
                      replace H := Option.bind_eq_some_iff.mp H
                      obtain ⟨t286, A780, H⟩ := H
                      replace H : (if t285 = t286 then ((duty_Total.f k3 l5 a4).bind fun t287 => ((storagebarterref28_Total.f k3 l5 a4).bind fun t288 => (if t287 = t288 then ((duty_Of.f k3 l5 a4).bind fun t289 => ((storagebarterref28_Of.f k3 l5 a4).bind fun t292 => ((storagebarterref28_SameInts.f k3 t289 t292).bind fun t295 => (some t295)))) else (some false)))) else (some false)) = some r := H
                      have A78 := Aside0.mk A780
                      clear A780
                      by_cases c79 : t285 = t286
                      · rw [if_pos c79] at H
                        have c79b0 : (t285 == t286) = true := beq_iff_eq.mpr c79
                        have c79b1 : (t285 != t286) = false := bne_eq_false_iff_eq.mpr c79
                        clear c79
                        replace H := Option.bind_eq_some_iff.mp H
                        obtain ⟨t287, A800, H⟩ := H
                        replace H : ((storagebarterref28_Total.f k3 l5 a4).bind fun t288 => (if t287 = t288 then ((duty_Of.f k3 l5 a4).bind fun t289 => ((storagebarterref28_Of.f k3 l5 a4).bind fun t292 => ((storagebarterref28_SameInts.f k3 t289 t292).bind fun t295 => (some t295)))) else (some false))) = some r := H
                        have A80 := Aside0.mk A800
                        clear A800
                        replace H := Option.bind_eq_some_iff.mp H
                        obtain ⟨t288, A810, H⟩ := H
                        replace H : (if t287 = t288 then ((duty_Of.f k3 l5 a4).bind fun t289 => ((storagebarterref28_Of.f k3 l5 a4).bind fun t292 => ((storagebarterref28_SameInts.f k3 t289 t292).bind fun t295 => (some t295)))) else (some false)) = some r := H
                        have A81 := Aside0.mk A810
                        clear A810
                        by_cases c82 : t287 = t288
                        · rw [if_pos c82] at H
                          have c82b0 : (t287 == t288) = true := beq_iff_eq.mpr c82
                          have c82b1 : (t287 != t288) = false := bne_eq_false_iff_eq.mpr c82
                          clear c82
                          replace H := Option.bind_eq_some_iff.mp H
                          obtain ⟨t289, A830, H⟩ := H
                          replace H : ((storagebarterref28_Of.f k3 l5 a4).bind fun t292 => ((storagebarterref28_SameInts.f k3 t289 t292).bind fun t295 => (some t295))) = some r := H
                          have A83 := Aside0.mk A830
                          clear A830
                          replace H := Option.bind_eq_some_iff.mp H
                          obtain ⟨t292, A840, H⟩ := H
                          replace H : ((storagebarterref28_SameInts.f k3 t289 t292).bind fun t295 => (some t295)) = some r := H
                          have A84 := Aside0.mk A840
                          clear A840
                          replace H := Option.bind_eq_some_iff.mp H
                          obtain ⟨t295, A850, H⟩ := H
                          replace H : (some t295) = some r := H
                          have A85 := Aside0.mk A850
                          clear A850
                          obtain rfl := Option.some.inj H
                          go_wp2_with (first | ((with_reducible refine gate_callee (f := 27) rfl ?_); refine goesL_ (some 116) rfl rfl Tryd.func27 (by kernel_rfl) rfl #[.int .i64 a3] rfl (by (try simp only [List.map_toArray, List.map_cons, List.map_nil]); first | done | rfl | (simp only [List.length_drop, List.length_take]; rfl)) ?_; (with_reducible refine (duty_Cost.calls a3 t285 _ A77.out (by first | exact HL_.out | exact laid_below HL_.out (by repeat (first | (with_reducible first | exact HB.out | apply below_alloc | apply pw_below_drewN | apply below_drew1) | refine below_set ?_ (Aside0.out (by assumption)) | exact HB.out)) | exact laid_drawn HL_.out HD.out | exact laid_drawn HL_.out (HD.out.step _))).mono ?_); rintro e w' ⟨rfl, ⟨nd, rfl⟩⟩; refine ⟨_, rfl, ?_⟩) | ((with_reducible refine gate_callee (f := 28) rfl ?_); refine goesL_ (some 118) rfl rfl Tryd.func28 (by kernel_rfl) rfl #[.int .i64 a3] rfl (by (try simp only [List.map_toArray, List.map_cons, List.map_nil]); first | done | rfl | (simp only [List.length_drop, List.length_take]; rfl)) ?_; (with_reducible refine (storagebarterref28_Cost.calls a3 t286 _ A78.out).mono ?_); rintro e w' ⟨rfl, ⟨nd, rfl⟩⟩; refine ⟨_, rfl, ?_⟩) | (go_at_call 20; (with_reducible refine (duty_Total.calls k3 _ _ l5 a4 t287 _ ?side1 ?side2 A80.out (by first | exact HL_.out | exact laid_below HL_.out (by repeat (first | (with_reducible first | exact HB.out | apply below_alloc | apply pw_below_drewN | apply below_drew1) | refine below_set ?_ (Aside0.out (by assumption)) | exact HB.out)) | exact laid_drawn HL_.out HD.out | exact laid_drawn HL_.out (HD.out.step _))).mono ?_); (case side1 => repeat (first | exact (Kd.C_below HR5.out (by repeat (first | (with_reducible first | exact HB.out | apply below_alloc | apply pw_below_drewN | apply below_drew1 | refine below_set ?_ GE228.out) | exact HB.out))) | (with_reducible refine Kd.C_alloc ?_ _) | (with_reducible refine Kd.C_drewN ?_ _) | (with_reducible refine Kd.C_drew ?_))); (case side2 => exact HC5.out); rintro e w86 ⟨rfl, hb⟩; have n0_ := Aside0.mk (Kd.V_below (by (with_reducible repeat (first | apply Kd.V_alloc | apply Kd.V_drewN | apply Kd.V_drew)); exact HO_229004.out) hb); have n1_ := Aside0.mk (blk_below (g := gb228) (o := .cells #[.int .i64 a1_0, .int .i64 a1_1, .int .i64 a1_2, .int .i64 a1_3, .slice A1_4 l1_4.length c1_4] 26 (0, 0)) (by (with_reducible repeat (first | refine blk_drewN ?_ _ | refine blk_drew ?_ | refine blk_alloc ?_ _)); exact BK228.out) hb); have n2_ := Aside0.mk (below_step (by repeat (first | (with_reducible first | exact HB.out | apply below_alloc | apply pw_below_drewN | apply below_drew1 | refine below_set ?_ GE228.out) | exact HB.out)) hb); clear HO_229004; clear BK228; clear HB; have HO_229004 := n0_; have BK228 := n1_; have HB := n2_; clear n0_ n1_ n2_; (try clear hb); (try clear hb2); (try clear hk); (try clear hi); (try clear hgw)) | (go_at_call 26; (with_reducible refine (storagebarterref28_Total.calls k3 _ _ l5 a4 t288 _ ?side1 ?side2 A81.out).mono ?_); (case side1 => repeat (first | exact (Kd.C_below HR5.out HB.out) | (with_reducible refine Kd.C_alloc ?_ _) | (with_reducible refine Kd.C_drewN ?_ _) | (with_reducible refine Kd.C_drew ?_))); (case side2 => exact HC5.out); rintro e w' ⟨rfl, ⟨nd, rfl⟩⟩) | (go_at_call 30; (with_reducible refine (duty_Of.calls k3 _ _ l5 a4 t289 _ ?side1 ?side2 A83.out).mono ?_); (case side1 => repeat (first | exact (Kd.C_below HR5.out (by repeat (first | (with_reducible first | exact HB.out | apply below_alloc | apply pw_below_drewN | apply below_drew1 | refine below_set ?_ GE228.out) | exact HB.out))) | (with_reducible refine Kd.C_alloc ?_ _) | (with_reducible refine Kd.C_drewN ?_ _) | (with_reducible refine Kd.C_drew ?_))); (case side2 => exact HC5.out); rintro e w87 ⟨v290, rfl, ho0, hb⟩; have n0_ := Aside0.mk (Kd.V_elder' (by (with_reducible repeat (first | apply Kd.V_alloc | apply Kd.V_drewN | apply Kd.V_drew)); exact HO_229004.out) (Kd.R_base ho0) hb); have n1_ := Aside0.mk (Kd.R_lower (Kd.R_newM (M := fun k_ => (w.heap.size ≤ k_)) ho0 (below_size (by repeat (first | (with_reducible first | exact HB.out | apply below_alloc | apply pw_below_drewN | apply below_drew1 | refine below_set ?_ GE228.out) | exact HB.out))) (fun k_ h_ => h_)) (below_size (by repeat (first | (with_reducible first | exact HB.out | apply below_alloc | apply pw_below_drewN | apply below_drew1 | refine below_set ?_ GE228.out) | exact HB.out)))); have n2_ := Aside0.mk (blk_below (g := gb228) (o := .cells #[.int .i64 a1_0, .int .i64 a1_1, .int .i64 a1_2, .int .i64 a1_3, .slice A1_4 l1_4.length c1_4] 26 (0, 0)) (by (with_reducible repeat (first | refine blk_drewN ?_ _ | refine blk_drew ?_ | refine blk_alloc ?_ _)); exact BK228.out) hb); have n3_ := Aside0.mk (below_step (by repeat (first | (with_reducible first | exact HB.out | apply below_alloc | apply pw_below_drewN | apply below_drew1 | refine below_set ?_ GE228.out) | exact HB.out)) hb); clear HO_229004; clear BK228; clear HB; have HO_229004 := n0_; have HO291 := n1_; have BK228 := n2_; have HB := n3_; clear n0_ n1_ n2_ n3_; (try clear hb); (try clear hb2); (try clear hk); (try clear hi); (try clear hgw); (try clear ho0)) | (go_at_call 31; (with_reducible refine (storagebarterref28_Of.calls k3 _ _ l5 a4 t292 _ ?side1 ?side2 A84.out).mono ?_); (case side1 => repeat (first | exact (Kd.C_below HR5.out HB.out) | (with_reducible refine Kd.C_alloc ?_ _) | (with_reducible refine Kd.C_drewN ?_ _) | (with_reducible refine Kd.C_drew ?_))); (case side2 => exact HC5.out); rintro e w88 ⟨v293, rfl, ho0, hb⟩; have n0_ := Aside0.mk (Kd.V_elder' (by (with_reducible repeat (first | apply Kd.V_alloc | apply Kd.V_drewN | apply Kd.V_drew)); exact HO_229004.out) (Kd.R_base ho0) hb); have n1_ := Aside0.mk (Kd.R_elder' (by (with_reducible repeat (first | apply Kd.R_alloc | apply Kd.R_drewN | apply Kd.R_drew)); exact HO291.out) (Kd.R_base ho0) hb); have n2_ := Aside0.mk (Kd.R_lower (Kd.R_new' (Kd.R_newM (M := fun k_ => (w.heap.size ≤ k_)) ho0 (below_size (by repeat (first | (with_reducible first | exact HB.out | apply below_alloc | apply pw_below_drewN | apply below_drew1 | refine below_set ?_ GE228.out) | exact HB.out))) (fun k_ h_ => h_)) (Kd.R_lt (by (with_reducible repeat (first | apply Kd.R_alloc | apply Kd.R_drewN | apply Kd.R_drew)); exact HO291.out))) (below_size (by repeat (first | (with_reducible first | exact HB.out | apply below_alloc | apply pw_below_drewN | apply below_drew1 | refine below_set ?_ GE228.out) | exact HB.out)))); have n3_ := Aside0.mk (blk_below (g := gb228) (o := .cells #[.int .i64 a1_0, .int .i64 a1_1, .int .i64 a1_2, .int .i64 a1_3, .slice A1_4 l1_4.length c1_4] 26 (0, 0)) (by (with_reducible repeat (first | refine blk_drewN ?_ _ | refine blk_drew ?_ | refine blk_alloc ?_ _)); exact BK228.out) hb); have n4_ := Aside0.mk (below_step (by repeat (first | (with_reducible first | exact HB.out | apply below_alloc | apply pw_below_drewN | apply below_drew1 | refine below_set ?_ GE228.out) | exact HB.out)) hb); clear HO_229004; clear HO291; clear BK228; clear HB; have HO_229004 := n0_; have HO291 := n1_; have HO294 := n2_; have BK228 := n3_; have HB := n4_; clear n0_ n1_ n2_ n3_ n4_; (try clear hb); (try clear hb2); (try clear hk); (try clear hi); (try clear hgw); (try clear ho0); obtain ⟨Ao89, co89, eo89⟩ := Kd.R_slice HO291.out; subst eo89; obtain ⟨Ao90, co90, eo90⟩ := Kd.R_slice HO294.out; subst eo90) | (go_at_call 29; (with_reducible refine (storagebarterref28_SameInts.calls k3 _ _ t289 _ _ t292 t295 _ ?side1 ?side2 ?side3 ?side4 A85.out).mono ?_); (case side1 => repeat (first | exact (Kd.R_reads' HO291.out).2.2 | (with_reducible refine Kd.C_alloc ?_ _) | (with_reducible refine Kd.C_drewN ?_ _) | (with_reducible refine Kd.C_drew ?_))); (case side2 => exact (Kd.R_reads' HO291.out).2.1); (case side3 => repeat (first | exact (Kd.R_reads' HO294.out).2.2 | (with_reducible refine Kd.C_alloc ?_ _) | (with_reducible refine Kd.C_drewN ?_ _) | (with_reducible refine Kd.C_drew ?_))); (case side4 => exact (Kd.R_reads' HO294.out).2.1); rintro e w' ⟨rfl, ⟨nd, rfl⟩⟩))
                          go_ret
                          exact ⟨by first | rfl | (simp [errW_none, errW_some] <;> rfl) | (simp [*, errW_none, errW_some] <;> rfl), by repeat (first | (with_reducible first | exact HB.out | apply below_alloc | apply pw_below_drewN | apply below_drew1 | refine below_set ?_ GE228.out) | exact HB.out)⟩
                        · rw [if_neg c82] at H
                          have c82b0 : (t287 == t288) = false := beq_eq_false_iff_ne.mpr c82
                          have c82b1 : (t287 != t288) = true := bne_iff_ne.mpr c82
                          exact absurd (Option.some.inj H) (by rw [HRT_.out]; decide)
                      · rw [if_neg c79] at H
                        have c79b0 : (t285 == t286) = false := beq_eq_false_iff_ne.mpr c79
                        have c79b1 : (t285 != t286) = true := bne_iff_ne.mpr c79
                        exact absurd (Option.some.inj H) (by rw [HRT_.out]; decide)
  · replace c8 := Bool.eq_false_iff.mpr c8
    subst c8
    have H1 : (some false) = some r := by rw [if_neg (show ¬ (false = true) by decide)] at H; exact H
    clear H
    have H := H1
    clear H1
    exact absurd (Option.some.inj H) (by rw [HRT_.out]; decide)

/-- THE ONE PURE STATEMENT of storagebarterlaw28_DutySteps: yours. -/
def storagebarterlaw28_DutySteps.Pure : Prop := ∀ (l0 : List Int) (a1_0 : Int) (a1_1 : Int) (a1_2 : Int) (a1_3 : Int) (l1_4 : List Int) (a2 : Int) (a3 : Int) (a4 : Int) (l5 : List (S36)), l0.length ≤ maxLen → l0.length * 1 ≤ 140737488351232 → (∀ x ∈ l0, (Lit.int .u8 x).wf = true) → (((Lit.int .i64 a1_0).wf = true) ∧ (((Lit.int .i64 a1_1).wf = true) ∧ (((Lit.int .i64 a1_2).wf = true) ∧ (((Lit.int .i64 a1_3).wf = true) ∧ ((l1_4.length ≤ maxLen ∧ ∀ x0_ ∈ l1_4, (Lit.int .i64 x0_).wf = true)))))) → (Lit.int .i64 a2).wf = true → (Lit.int .i64 a3).wf = true → (Lit.int .i64 a4).wf = true → (l5.length ≤ maxLen ∧ ∀ x0_ ∈ l5, (((Lit.int .i64 x0_.f0).wf = true) ∧ (((Lit.int .i64 x0_.f1).wf = true) ∧ (((Lit.int .i64 x0_.f2).wf = true) ∧ ((Lit.int .i64 x0_.f3).wf = true))))) → ∃ k, storagebarterlaw28_DutySteps.f k l0 a1_0 a1_1 a1_2 a1_3 l1_4 a2 a3 a4 l5 = some true
theorem storagebarterlaw28_DutySteps.walk (P : storagebarterlaw28_DutySteps.Pure) (a0 : Option Addr) (len0 cap0 : Nat) (z0 : List Int) (a1_0 : Int) (a1_1 : Int) (a1_2 : Int) (a1_3 : Int) (A1_4 : Option Addr) (c1_4 : Nat) (l1_4 : List Int) (a2 : Int) (a3 : Int) (a4 : Int) (A5 : Option Addr) (c5 : Nat) (l5 : List (S36)) (w : World) (w0 : (a0 = none ∧ len0 = 0 ∧ cap0 = 0 ∧ z0 = []) ∨ ∃ x, a0 = some x ∧ len0 ≤ cap0 ∧ cap0 ≤ maxLen ∧ z0.length = cap0 ∧ (∀ i, i < z0.length → w.cell? (x.add i) = some (.int .u8 (z0.getD i 0))) ∧ ∀ n ∈ z0, (Lit.int .u8 n).wf = true) (y0 : len0 * 1 ≤ 140737488351232) (w1 : (((Lit.int .i64 a1_0).wf = true) ∧ (((Lit.int .i64 a1_1).wf = true) ∧ (((Lit.int .i64 a1_2).wf = true) ∧ (((Lit.int .i64 a1_3).wf = true) ∧ ((l1_4.length ≤ maxLen ∧ ∀ x0_ ∈ l1_4, (Lit.int .i64 x0_).wf = true))))))) (hr1_4 : Kd.C (Kd.int .i64) w A1_4 l1_4.length l1_4) (hc1_4 : l1_4.length ≤ c1_4) (w2 : (Lit.int .i64 a2).wf = true) (w3 : (Lit.int .i64 a3).wf = true) (w4 : (Lit.int .i64 a4).wf = true) (w5 : (l5.length ≤ maxLen ∧ ∀ x0_ ∈ l5, (((Lit.int .i64 x0_.f0).wf = true) ∧ (((Lit.int .i64 x0_.f1).wf = true) ∧ (((Lit.int .i64 x0_.f2).wf = true) ∧ ((Lit.int .i64 x0_.f3).wf = true)))))) (hr5 : Kd.C k36 w A5 l5.length l5) (hc5 : l5.length ≤ c5) (hL_ : Laid w) :
    Calls Tryd.prog 5 #[.slice a0 len0 cap0, .agg #[.int .i64 a1_0, .int .i64 a1_1, .int .i64 a1_2, .int .i64 a1_3, .slice A1_4 l1_4.length c1_4], .int .i64 a2, .int .i64 a3, .int .i64 a4, .slice A5 l5.length c5] w fun e w' => e = .returned (.bool true) ∧ Below w.heap.size w w' := by
  obtain ⟨l0, rfl, hr0, hm0, hw0, hc0⟩ := ReadsInt.ofRowC w0
  obtain ⟨k, h⟩ := P l0 a1_0 a1_1 a1_2 a1_3 l1_4 a2 a3 a4 l5 hm0 y0 hw0 w1 w2 w3 w4 w5
  refine (storagebarterlaw28_DutySteps.calls k _ _ l0 a1_0 a1_1 a1_2 a1_3 (fun _ => True) A1_4 c1_4 l1_4 a2 a3 a4 A5 c5 l5 true w (Kd.C_of_reads (d := (0 : Int)) (h1 := fun _ => rfl) hr0) hc0 (Kd.V_mk hc1_4 (fun W_ hW_ => Kd.Heap.C (Kd.heap_int .i64) (fun k_ hlt_ => hW_ k_ trivial hlt_) hr1_4)) hr5 hc5 h rfl hL_).mono ?_
  rintro e w' ⟨rfl, hd⟩
  exact ⟨rfl, hd⟩

end Go.Proofs.YtgckkjgemkabnaaDoor.PDutySteps
