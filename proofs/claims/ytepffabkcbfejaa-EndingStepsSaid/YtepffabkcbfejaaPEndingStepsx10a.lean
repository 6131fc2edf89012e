-- Written by a program of this repository (wip/tools/myprint.py over the print of the kit): contracts and rows.
import Derived.Test.YtepffabkcbfejaaPEndingStepsx0
import Derived.Test.YtepffabkcbfejaaPEndingStepsx1
import Derived.Test.YtepffabkcbfejaaPEndingStepsx3
import Derived.Test.YtepffabkcbfejaaPEndingStepsx4
import Derived.Test.YtepffabkcbfejaaPEndingStepsx5
import Derived.Test.YtepffabkcbfejaaPEndingStepsx6
import Derived.Test.YtepffabkcbfejaaPEndingStepsx7
import Derived.Test.YtepffabkcbfejaaPEndingStepsx8
import Derived.Test.YtepffabkcbfejaaPEndingStepsx9
namespace Go.Proofs.Ytepffabkcbfejaa.PEndingSteps
open Go.RowKit Go.Proofs.YtepffabkcbfejaaW.PrintWords Go.Proofs.YtepffabkcbfejaaW.PrintLast Go.Proofs.YtepffabkcbfejaaW.PrintMore
attribute [local go_sem] max2_int min2_int max_two min_two max_three min_three max_four min_four   -- for this text's walks alone
set_option linter.unusedVariables false
set_option linter.unusedSimpArgs false

attribute [local go_sem high] eqA39
/-! ### storagebarterlaw26_EndingSteps: function 7 -/
mutual
def storagebarterlaw26_EndingSteps.l0 : Nat → List Int → List (S44) → Int → Int → Int → Int → List (S44) → Int → Int → Int → Int → Int → Int → Int → Int → Int → Bool → Option (Bool)
  | 0, _, _, _, _, _, _, _, _, _, _, _, _, _, _, _, _, _ => none
  | k + 1, x0, x1, x2, x3, x4, x5, x52, x53, x54, x245000, x245001, x245002, x245003, x245004, x245005, x245006, x245007 => if x54 < x53 then (if 0 ≤ x54 then (if x54 < (x52.length : Int) then (if ((rd_T44 x52 x54).f4) > 1099511627776 then (some true) else (if ((rd_T44 x52 x54).f4) < (-1099511627776) then (some true) else (storagebarterlaw26_EndingSteps.l0 k x0 x1 x2 x3 x4 x5 x52 x53 (wrap64 (x54 + 1)) x245000 x245001 x245002 x245003 x245004 x245005 x245006 x245007))) else (none)) else (none)) else ((storagebarterplay_New.f x0).bind fun bt248 => ((storagebarterplay_Dice_Leases.f bt248.1 bt248.2).bind fun bt251 => ((storagebarterplay_Dice_Pick.f bt248.1 bt251.2 4).bind fun bt255 => ((storagebarterplay_Dice_Pick.f bt248.1 bt255.2 4).bind fun bt257 => ((some (([x1, bt251.1] : List (List (S44))) : List (List (S44)))).bind fun y259 => (storagebarterlaw26_EndingSteps.l1 k x1 x2 x3 x4 x5 bt251.1 (wrap64 (1 + bt255.1)) (wrap64 (1 + bt257.1)) y259 (y259.length : Int) 0 x245000 x245001 x245002 x245003 x245004 x245005 x245006 x245007 bt248.1 bt257.2))))))
def storagebarterlaw26_EndingSteps.l1 : Nat → List (S44) → Int → Int → Int → Int → List (S44) → Int → Int → List (List (S44)) → Int → Int → Int → Int → Int → Int → Int → Int → Int → Bool → List Int → Int → Option (Bool)
  | 0, _, _, _, _, _, _, _, _, _, _, _, _, _, _, _, _, _, _, _, _, _ => none
  | k + 1, x1, x2, x3, x4, x5, x18, x19, x20, x79, x80, x81, x245000, x245001, x245002, x245003, x245004, x245005, x245006, x245007, x251000, x251001 => if x81 < x80 then (if 0 ≤ x81 then (if x81 < (x79.length : Int) then ((some (([(⟨x2, x3⟩ : S49), (⟨x19, x20⟩ : S49), (⟨x19, x19⟩ : S49)] : List (S49)) : List (S49))).bind fun y266 => (storagebarterlaw26_EndingSteps.l2 k x1 x2 x3 x4 x5 x18 x19 x20 (rd_L3 x79 x81) x79 x80 x81 y266 (y266.length : Int) 0 x245000 x245001 x245002 x245003 x245004 x245005 x245006 x245007 x251000 x251001)) else (none)) else (none)) else ((ending_Same.f k x1 x18).bind fun t262 => ((storagebarterref26_Same.f k x1 x18).bind fun t263 => (some (t262 == t263))))
def storagebarterlaw26_EndingSteps.l2 : Nat → List (S44) → Int → Int → Int → Int → List (S44) → Int → Int → List (S44) → List (List (S44)) → Int → Int → List (S49) → Int → Int → Int → Int → Int → Int → Int → Int → Int → Bool → List Int → Int → Option (Bool)
  | 0, _, _, _, _, _, _, _, _, _, _, _, _, _, _, _, _, _, _, _, _, _, _, _, _, _ => none
  | k + 1, x1, x2, x3, x4, x5, x18, x19, x20, x22, x79, x80, x81, x94, x95, x96, x245000, x245001, x245002, x245003, x245004, x245005, x245006, x245007, x251000, x251001 => if x96 < x95 then (if 0 ≤ x96 then (if x96 < (x94.length : Int) then ((ending_Culprit.f x22 ((rd_T49 x94 x96).f0) (wrap64 (x4)) (wrap64 (x5))).bind fun bt271 => ((storagebarterref26_Culprit.f k x22 ((rd_T49 x94 x96).f0) (wrap64 (x4)) (wrap64 (x5))).bind fun bt283 => ((ending_Between.f x22 ((rd_T49 x94 x96).f0) ((rd_T49 x94 x96).f1)).bind fun bt295 => ((storagebarterref26_Between.f k x22 ((rd_T49 x94 x96).f0) ((rd_T49 x94 x96).f1)).bind fun bt301 => ((storagebarterref26_Same.f k bt271.1 bt283.1).bind fun t307 => (if t307 = true then ((storagebarterref26_SameEnding.f k bt271.2.1 bt271.2.2.1 bt271.2.2.2.1 bt271.2.2.2.2 bt283.2.1 bt283.2.2.1 bt283.2.2.2.1 bt283.2.2.2.2).bind fun t308 => (if t308 = true then ((storagebarterref26_Same.f k bt295.1 bt301.1).bind fun t309 => (if t309 = true then ((storagebarterref26_Same.f k bt295.2 bt301.2).bind fun t310 => (if t310 = true then ((ending_Room.f k x22 ((rd_T49 x94 x96).f0) ((rd_T49 x94 x96).f1)).bind fun bt311 => ((storagebarterref26_Room.f k x22 ((rd_T49 x94 x96).f0) ((rd_T49 x94 x96).f1)).bind fun bt313 => (storagebarterlaw26_EndingSteps.j3 k x1 x2 x3 x4 x5 x18 x19 x20 x22 x79 x80 x81 x94 x95 x96 (!(bt311.1 == bt313.1) || (!(bt311.2 == bt313.2))) x245000 x245001 x245002 x245003 x245004 x245005 x245006 x245007 x251000 x251001 bt283.2.1 bt283.2.2.1 bt283.2.2.2.1 bt283.2.2.2.2))) else (storagebarterlaw26_EndingSteps.j3 k x1 x2 x3 x4 x5 x18 x19 x20 x22 x79 x80 x81 x94 x95 x96 true x245000 x245001 x245002 x245003 x245004 x245005 x245006 x245007 x251000 x251001 bt283.2.1 bt283.2.2.1 bt283.2.2.2.1 bt283.2.2.2.2))) else (storagebarterlaw26_EndingSteps.j3 k x1 x2 x3 x4 x5 x18 x19 x20 x22 x79 x80 x81 x94 x95 x96 true x245000 x245001 x245002 x245003 x245004 x245005 x245006 x245007 x251000 x251001 bt283.2.1 bt283.2.2.1 bt283.2.2.2.1 bt283.2.2.2.2))) else (storagebarterlaw26_EndingSteps.j3 k x1 x2 x3 x4 x5 x18 x19 x20 x22 x79 x80 x81 x94 x95 x96 true x245000 x245001 x245002 x245003 x245004 x245005 x245006 x245007 x251000 x251001 bt283.2.1 bt283.2.2.1 bt283.2.2.2.1 bt283.2.2.2.2))) else (storagebarterlaw26_EndingSteps.j3 k x1 x2 x3 x4 x5 x18 x19 x20 x22 x79 x80 x81 x94 x95 x96 true x245000 x245001 x245002 x245003 x245004 x245005 x245006 x245007 x251000 x251001 bt283.2.1 bt283.2.2.1 bt283.2.2.2.1 bt283.2.2.2.2))))))) else (none)) else (none)) else ((storagebarterplay_Dice_Pick.f x251000 x251001 14).bind fun bt355 => ((some (([wrap64 (x4), bt355.1] : List Int) : List Int)).bind fun y357 => (storagebarterlaw26_EndingSteps.l5 k x1 x2 x3 x4 x5 x18 x19 x20 x22 x79 x80 x81 y357 (y357.length : Int) 0 x245000 x245001 x245002 x245003 x245004 x245005 x245006 x245007 x251000 bt355.2)))
def storagebarterlaw26_EndingSteps.j3 : Nat → List (S44) → Int → Int → Int → Int → List (S44) → Int → Int → List (S44) → List (List (S44)) → Int → Int → List (S49) → Int → Int → Bool → Int → Int → Int → Int → Int → Int → Int → Bool → List Int → Int → Int → Int → List (S44) → List (S44) → Option (Bool)
  | 0, _, _, _, _, _, _, _, _, _, _, _, _, _, _, _, _, _, _, _, _, _, _, _, _, _, _, _, _, _, _ => none
  | k + 1, x1, x2, x3, x4, x5, x18, x19, x20, x22, x79, x80, x81, x94, x95, x96, x176, x245000, x245001, x245002, x245003, x245004, x245005, x245006, x245007, x251000, x251001, x295000, x295001, x295002, x295003 => if x176 = true then (some false) else ((some (([(⟨x245000, x245001, x245002, x245003, x245004, x245005, x245006, x245007⟩ : S44)] : List (S44)) : List (S44))).bind fun y315 => (if y315.length + x22.length < 2199023255552 then ((some (y315 ++ x22 : List (S44))).bind fun y318 => (storagebarterlaw26_EndingSteps.l3 k x1 x2 x3 x4 x5 x18 x19 x20 x22 x79 x80 x81 x94 x95 x96 y318 (y318.length : Int) 0 x245000 x245001 x245002 x245003 x245004 x245005 x245006 x245007 x251000 x251001 x295000 x295001 x295002 x295003)) else (none)))
def storagebarterlaw26_EndingSteps.l3 : Nat → List (S44) → Int → Int → Int → Int → List (S44) → Int → Int → List (S44) → List (List (S44)) → Int → Int → List (S49) → Int → Int → List (S44) → Int → Int → Int → Int → Int → Int → Int → Int → Int → Bool → List Int → Int → Int → Int → List (S44) → List (S44) → Option (Bool)
  | 0, _, _, _, _, _, _, _, _, _, _, _, _, _, _, _, _, _, _, _, _, _, _, _, _, _, _, _, _, _, _, _, _ => none
  | k + 1, x1, x2, x3, x4, x5, x18, x19, x20, x22, x79, x80, x81, x94, x95, x96, x180, x181, x182, x245000, x245001, x245002, x245003, x245004, x245005, x245006, x245007, x251000, x251001, x295000, x295001, x295002, x295003 => if x182 < x181 then (if 0 ≤ x182 then (if x182 < (x180.length : Int) then ((ending_Fetch.f x295000 x295001 x295002 x295003 ((rd_T44 x180 x182).f0) ((rd_T44 x180 x182).f1) ((rd_T44 x180 x182).f2) ((rd_T44 x180 x182).f3) ((rd_T44 x180 x182).f4) ((rd_T44 x180 x182).f5) ((rd_T44 x180 x182).f6) ((rd_T44 x180 x182).f7)).bind fun bt323 => ((storagebarterref26_Fetch.f k x295000 x295001 x295002 x295003 ((rd_T44 x180 x182).f0) ((rd_T44 x180 x182).f1) ((rd_T44 x180 x182).f2) ((rd_T44 x180 x182).f3) ((rd_T44 x180 x182).f4) ((rd_T44 x180 x182).f5) ((rd_T44 x180 x182).f6) ((rd_T44 x180 x182).f7)).bind fun bt333 => (if (bt323.2.2.2.2 != bt333.2.2.2.2) = true then (some false) else ((storagebarterref26_SameEnding.f k bt323.1 bt323.2.1 bt323.2.2.1 bt323.2.2.2.1 bt333.1 bt333.2.1 bt333.2.2.1 bt333.2.2.2.1).bind fun t343 => (if t343 = true then (storagebarterlaw26_EndingSteps.l3 k x1 x2 x3 x4 x5 x18 x19 x20 x22 x79 x80 x81 x94 x95 x96 x180 x181 (wrap64 (x182 + 1)) x245000 x245001 x245002 x245003 x245004 x245005 x245006 x245007 x251000 x251001 x295000 x295001 x295002 x295003) else (some false)))))) else (none)) else (none)) else ((some (([wrap64 (x4), wrap64 ((wrap64 (x4)) + (wrap64 (x5))), wrap64 ((wrap64 ((wrap64 (x4)) + (wrap64 (x5)))) + 1)] : List Int) : List Int)).bind fun y344 => (storagebarterlaw26_EndingSteps.l4 k x1 x2 x3 x4 x5 x18 x19 x20 x22 x79 x80 x81 x94 x95 x96 y344 (y344.length : Int) 0 x245000 x245001 x245002 x245003 x245004 x245005 x245006 x245007 x251000 x251001 x295000 x295001 x295002 x295003))
def storagebarterlaw26_EndingSteps.l4 : Nat → List (S44) → Int → Int → Int → Int → List (S44) → Int → Int → List (S44) → List (List (S44)) → Int → Int → List (S49) → Int → Int → List Int → Int → Int → Int → Int → Int → Int → Int → Int → Int → Bool → List Int → Int → Int → Int → List (S44) → List (S44) → Option (Bool)
  | 0, _, _, _, _, _, _, _, _, _, _, _, _, _, _, _, _, _, _, _, _, _, _, _, _, _, _, _, _, _, _, _, _ => none
  | k + 1, x1, x2, x3, x4, x5, x18, x19, x20, x22, x79, x80, x81, x94, x95, x96, x221, x222, x223, x245000, x245001, x245002, x245003, x245004, x245005, x245006, x245007, x251000, x251001, x295000, x295001, x295002, x295003 => if x223 < x222 then (if 0 ≤ x223 then (if x223 < (x221.length : Int) then ((ending_Lost.f x295000 x295001 x295002 x295003 (rd x221 x223)).bind fun t348 => ((storagebarterref26_Lost.f x295000 x295001 x295002 x295003 (rd x221 x223)).bind fun t351 => ((storagebarterref26_Same.f k t348 t351).bind fun t354 => (if t354 = true then (storagebarterlaw26_EndingSteps.l4 k x1 x2 x3 x4 x5 x18 x19 x20 x22 x79 x80 x81 x94 x95 x96 x221 x222 (wrap64 (x223 + 1)) x245000 x245001 x245002 x245003 x245004 x245005 x245006 x245007 x251000 x251001 x295000 x295001 x295002 x295003) else (some false))))) else (none)) else (none)) else (storagebarterlaw26_EndingSteps.l2 k x1 x2 x3 x4 x5 x18 x19 x20 x22 x79 x80 x81 x94 x95 (wrap64 (x96 + 1)) x245000 x245001 x245002 x245003 x245004 x245005 x245006 x245007 x251000 x251001)
def storagebarterlaw26_EndingSteps.l5 : Nat → List (S44) → Int → Int → Int → Int → List (S44) → Int → Int → List (S44) → List (List (S44)) → Int → Int → List Int → Int → Int → Int → Int → Int → Int → Int → Int → Int → Bool → List Int → Int → Option (Bool)
  | 0, _, _, _, _, _, _, _, _, _, _, _, _, _, _, _, _, _, _, _, _, _, _, _, _, _ => none
  | k + 1, x1, x2, x3, x4, x5, x18, x19, x20, x22, x79, x80, x81, x241, x242, x243, x245000, x245001, x245002, x245003, x245004, x245005, x245006, x245007, x251000, x251001 => if x243 < x242 then (if 0 ≤ x243 then (if x243 < (x241.length : Int) then ((ending_Over.f x22 (rd x241 x243)).bind fun bt361 => ((storagebarterref26_Over.f k x22 (rd x241 x243)).bind fun bt367 => ((storagebarterref26_Same.f k bt361.1 bt367.1).bind fun t373 => (if t373 = true then ((storagebarterref26_Same.f k bt361.2 bt367.2).bind fun t374 => (if t374 = true then (storagebarterlaw26_EndingSteps.l5 k x1 x2 x3 x4 x5 x18 x19 x20 x22 x79 x80 x81 x241 x242 (wrap64 (x243 + 1)) x245000 x245001 x245002 x245003 x245004 x245005 x245006 x245007 x251000 x251001) else (some false))) else (some false))))) else (none)) else (none)) else (storagebarterlaw26_EndingSteps.l1 k x1 x2 x3 x4 x5 x18 x19 x20 x79 x80 (wrap64 (x81 + 1)) x245000 x245001 x245002 x245003 x245004 x245005 x245006 x245007 x251000 x251001)
end
def storagebarterlaw26_EndingSteps.f (k : Nat) (l0 : List Int) (l1 : List (S44)) (a2 : Int) (a3 : Int) (a4 : Int) (a5 : Int) (a6_0 : Int) (a6_1 : Int) (a6_2 : Int) (a6_3 : Int) (a6_4 : Int) (a6_5 : Int) (a6_6 : Int) (a6_7 : Bool) : Option (Bool) := (storagebarterlaw26_sane.f).bind fun t245 => (if t245 = true then (if (l1.length : Int) > 8 then (some true) else (storagebarterlaw26_EndingSteps.l0 k l0 l1 a2 a3 a4 a5 l1 (l1.length : Int) 0 a6_0 a6_1 a6_2 a6_3 a6_4 a6_5 a6_6 a6_7)) else (some false))
theorem storagebarterlaw26_EndingSteps.mono_l : ∀ k, (∀ y0 y1 y2 y3 y4 y5 y6 y7 y8 y9 y10 y11 y12 y13 y14 y15 y16, LeO (storagebarterlaw26_EndingSteps.l0 k y0 y1 y2 y3 y4 y5 y6 y7 y8 y9 y10 y11 y12 y13 y14 y15 y16) (storagebarterlaw26_EndingSteps.l0 (k + 1) y0 y1 y2 y3 y4 y5 y6 y7 y8 y9 y10 y11 y12 y13 y14 y15 y16)) ∧ (∀ y0 y1 y2 y3 y4 y5 y6 y7 y8 y9 y10 y11 y12 y13 y14 y15 y16 y17 y18 y19 y20, LeO (storagebarterlaw26_EndingSteps.l1 k y0 y1 y2 y3 y4 y5 y6 y7 y8 y9 y10 y11 y12 y13 y14 y15 y16 y17 y18 y19 y20) (storagebarterlaw26_EndingSteps.l1 (k + 1) y0 y1 y2 y3 y4 y5 y6 y7 y8 y9 y10 y11 y12 y13 y14 y15 y16 y17 y18 y19 y20)) ∧ (∀ y0 y1 y2 y3 y4 y5 y6 y7 y8 y9 y10 y11 y12 y13 y14 y15 y16 y17 y18 y19 y20 y21 y22 y23 y24, LeO (storagebarterlaw26_EndingSteps.l2 k y0 y1 y2 y3 y4 y5 y6 y7 y8 y9 y10 y11 y12 y13 y14 y15 y16 y17 y18 y19 y20 y21 y22 y23 y24) (storagebarterlaw26_EndingSteps.l2 (k + 1) y0 y1 y2 y3 y4 y5 y6 y7 y8 y9 y10 y11 y12 y13 y14 y15 y16 y17 y18 y19 y20 y21 y22 y23 y24)) ∧ (∀ y0 y1 y2 y3 y4 y5 y6 y7 y8 y9 y10 y11 y12 y13 y14 y15 y16 y17 y18 y19 y20 y21 y22 y23 y24 y25 y26 y27 y28 y29, LeO (storagebarterlaw26_EndingSteps.j3 k y0 y1 y2 y3 y4 y5 y6 y7 y8 y9 y10 y11 y12 y13 y14 y15 y16 y17 y18 y19 y20 y21 y22 y23 y24 y25 y26 y27 y28 y29) (storagebarterlaw26_EndingSteps.j3 (k + 1) y0 y1 y2 y3 y4 y5 y6 y7 y8 y9 y10 y11 y12 y13 y14 y15 y16 y17 y18 y19 y20 y21 y22 y23 y24 y25 y26 y27 y28 y29)) ∧ (∀ y0 y1 y2 y3 y4 y5 y6 y7 y8 y9 y10 y11 y12 y13 y14 y15 y16 y17 y18 y19 y20 y21 y22 y23 y24 y25 y26 y27 y28 y29 y30 y31, LeO (storagebarterlaw26_EndingSteps.l3 k y0 y1 y2 y3 y4 y5 y6 y7 y8 y9 y10 y11 y12 y13 y14 y15 y16 y17 y18 y19 y20 y21 y22 y23 y24 y25 y26 y27 y28 y29 y30 y31) (storagebarterlaw26_EndingSteps.l3 (k + 1) y0 y1 y2 y3 y4 y5 y6 y7 y8 y9 y10 y11 y12 y13 y14 y15 y16 y17 y18 y19 y20 y21 y22 y23 y24 y25 y26 y27 y28 y29 y30 y31)) ∧ (∀ y0 y1 y2 y3 y4 y5 y6 y7 y8 y9 y10 y11 y12 y13 y14 y15 y16 y17 y18 y19 y20 y21 y22 y23 y24 y25 y26 y27 y28 y29 y30 y31, LeO (storagebarterlaw26_EndingSteps.l4 k y0 y1 y2 y3 y4 y5 y6 y7 y8 y9 y10 y11 y12 y13 y14 y15 y16 y17 y18 y19 y20 y21 y22 y23 y24 y25 y26 y27 y28 y29 y30 y31) (storagebarterlaw26_EndingSteps.l4 (k + 1) y0 y1 y2 y3 y4 y5 y6 y7 y8 y9 y10 y11 y12 y13 y14 y15 y16 y17 y18 y19 y20 y21 y22 y23 y24 y25 y26 y27 y28 y29 y30 y31)) ∧ (∀ y0 y1 y2 y3 y4 y5 y6 y7 y8 y9 y10 y11 y12 y13 y14 y15 y16 y17 y18 y19 y20 y21 y22 y23 y24, LeO (storagebarterlaw26_EndingSteps.l5 k y0 y1 y2 y3 y4 y5 y6 y7 y8 y9 y10 y11 y12 y13 y14 y15 y16 y17 y18 y19 y20 y21 y22 y23 y24) (storagebarterlaw26_EndingSteps.l5 (k + 1) y0 y1 y2 y3 y4 y5 y6 y7 y8 y9 y10 y11 y12 y13 y14 y15 y16 y17 y18 y19 y20 y21 y22 y23 y24))
  | 0 => ⟨fun _ _ _ _ _ _ _ _ _ _ _ _ _ _ _ _ _ r h => by simp [storagebarterlaw26_EndingSteps.l0] at h, fun _ _ _ _ _ _ _ _ _ _ _ _ _ _ _ _ _ _ _ _ _ r h => by simp [storagebarterlaw26_EndingSteps.l1] at h, fun _ _ _ _ _ _ _ _ _ _ _ _ _ _ _ _ _ _ _ _ _ _ _ _ _ r h => by simp [storagebarterlaw26_EndingSteps.l2] at h, fun _ _ _ _ _ _ _ _ _ _ _ _ _ _ _ _ _ _ _ _ _ _ _ _ _ _ _ _ _ _ r h => by simp [storagebarterlaw26_EndingSteps.j3] at h, fun _ _ _ _ _ _ _ _ _ _ _ _ _ _ _ _ _ _ _ _ _ _ _ _ _ _ _ _ _ _ _ _ r h => by simp [storagebarterlaw26_EndingSteps.l3] at h, fun _ _ _ _ _ _ _ _ _ _ _ _ _ _ _ _ _ _ _ _ _ _ _ _ _ _ _ _ _ _ _ _ r h => by simp [storagebarterlaw26_EndingSteps.l4] at h, fun _ _ _ _ _ _ _ _ _ _ _ _ _ _ _ _ _ _ _ _ _ _ _ _ _ r h => by simp [storagebarterlaw26_EndingSteps.l5] at h⟩
  | k + 1 => by
    obtain ⟨ih0, ih1, ih2, ih3, ih4, ih5, ih6⟩ := storagebarterlaw26_EndingSteps.mono_l k
    refine ⟨?_, ?_, ?_, ?_, ?_, ?_, ?_⟩
    · intro y0 y1 y2 y3 y4 y5 y6 y7 y8 y9 y10 y11 y12 y13 y14 y15 y16
      unfold storagebarterlaw26_EndingSteps.l0
      repeat' first
      | (with_reducible exact ih0 _ _ _ _ _ _ _ _ _ _ _ _ _ _ _ _ _)
      | (with_reducible exact ih1 _ _ _ _ _ _ _ _ _ _ _ _ _ _ _ _ _ _ _ _ _)
      | (with_reducible exact ih2 _ _ _ _ _ _ _ _ _ _ _ _ _ _ _ _ _ _ _ _ _ _ _ _ _)
      | (with_reducible exact ih3 _ _ _ _ _ _ _ _ _ _ _ _ _ _ _ _ _ _ _ _ _ _ _ _ _ _ _ _ _ _)
      | (with_reducible exact ih4 _ _ _ _ _ _ _ _ _ _ _ _ _ _ _ _ _ _ _ _ _ _ _ _ _ _ _ _ _ _ _ _)
      | (with_reducible exact ih5 _ _ _ _ _ _ _ _ _ _ _ _ _ _ _ _ _ _ _ _ _ _ _ _ _ _ _ _ _ _ _ _)
      | (with_reducible exact ih6 _ _ _ _ _ _ _ _ _ _ _ _ _ _ _ _ _ _ _ _ _ _ _ _ _)
      | (with_reducible exact ending_Room.mono _ _ _ _)
      | (with_reducible exact ending_Same.mono _ _ _)
      | (with_reducible exact storagebarterref26_Between.mono _ _ _ _)
      | (with_reducible exact storagebarterref26_Culprit.mono _ _ _ _ _)
      | (with_reducible exact storagebarterref26_Fetch.mono _ _ _ _ _ _ _ _ _ _ _ _ _)
      | (with_reducible exact storagebarterref26_Over.mono _ _ _)
      | (with_reducible exact storagebarterref26_Room.mono _ _ _ _)
      | (with_reducible exact storagebarterref26_Same.mono _ _ _)
      | (with_reducible exact storagebarterref26_SameEnding.mono _ _ _ _ _ _ _ _ _)
      | (with_reducible exact LeO.refl _)
      | (with_reducible exact LeO.none _)
      | (with_reducible refine LeO.ite ?_ ?_)
      | (with_reducible refine LeO.bind ?_ (fun _ => ?_))
      | exact ih0 _ _ _ _ _ _ _ _ _ _ _ _ _ _ _ _ _
      | exact ih1 _ _ _ _ _ _ _ _ _ _ _ _ _ _ _ _ _ _ _ _ _
      | exact ih2 _ _ _ _ _ _ _ _ _ _ _ _ _ _ _ _ _ _ _ _ _ _ _ _ _
      | exact ih3 _ _ _ _ _ _ _ _ _ _ _ _ _ _ _ _ _ _ _ _ _ _ _ _ _ _ _ _ _ _
      | exact ih4 _ _ _ _ _ _ _ _ _ _ _ _ _ _ _ _ _ _ _ _ _ _ _ _ _ _ _ _ _ _ _ _
      | exact ih5 _ _ _ _ _ _ _ _ _ _ _ _ _ _ _ _ _ _ _ _ _ _ _ _ _ _ _ _ _ _ _ _
      | exact ih6 _ _ _ _ _ _ _ _ _ _ _ _ _ _ _ _ _ _ _ _ _ _ _ _ _
      | exact ending_Room.mono _ _ _ _
      | exact ending_Same.mono _ _ _
      | exact storagebarterref26_Between.mono _ _ _ _
      | exact storagebarterref26_Culprit.mono _ _ _ _ _
      | exact storagebarterref26_Fetch.mono _ _ _ _ _ _ _ _ _ _ _ _ _
      | exact storagebarterref26_Over.mono _ _ _
      | exact storagebarterref26_Room.mono _ _ _ _
      | exact storagebarterref26_Same.mono _ _ _
      | exact storagebarterref26_SameEnding.mono _ _ _ _ _ _ _ _ _
      | exact LeO.none _
      | refine LeO.ite ?_ ?_
      | refine LeO.bind ?_ (fun _ => ?_)
    · intro y0 y1 y2 y3 y4 y5 y6 y7 y8 y9 y10 y11 y12 y13 y14 y15 y16 y17 y18 y19 y20
      unfold storagebarterlaw26_EndingSteps.l1
      repeat' first
      | (with_reducible exact ih0 _ _ _ _ _ _ _ _ _ _ _ _ _ _ _ _ _)
      | (with_reducible exact ih1 _ _ _ _ _ _ _ _ _ _ _ _ _ _ _ _ _ _ _ _ _)
      | (with_reducible exact ih2 _ _ _ _ _ _ _ _ _ _ _ _ _ _ _ _ _ _ _ _ _ _ _ _ _)
      | (with_reducible exact ih3 _ _ _ _ _ _ _ _ _ _ _ _ _ _ _ _ _ _ _ _ _ _ _ _ _ _ _ _ _ _)
      | (with_reducible exact ih4 _ _ _ _ _ _ _ _ _ _ _ _ _ _ _ _ _ _ _ _ _ _ _ _ _ _ _ _ _ _ _ _)
      | (with_reducible exact ih5 _ _ _ _ _ _ _ _ _ _ _ _ _ _ _ _ _ _ _ _ _ _ _ _ _ _ _ _ _ _ _ _)
      | (with_reducible exact ih6 _ _ _ _ _ _ _ _ _ _ _ _ _ _ _ _ _ _ _ _ _ _ _ _ _)
      | (with_reducible exact ending_Room.mono _ _ _ _)
      | (with_reducible exact ending_Same.mono _ _ _)
      | (with_reducible exact storagebarterref26_Between.mono _ _ _ _)
      | (with_reducible exact storagebarterref26_Culprit.mono _ _ _ _ _)
      | (with_reducible exact storagebarterref26_Fetch.mono _ _ _ _ _ _ _ _ _ _ _ _ _)
      | (with_reducible exact storagebarterref26_Over.mono _ _ _)
      | (with_reducible exact storagebarterref26_Room.mono _ _ _ _)
      | (with_reducible exact storagebarterref26_Same.mono _ _ _)
      | (with_reducible exact storagebarterref26_SameEnding.mono _ _ _ _ _ _ _ _ _)
      | (with_reducible exact LeO.refl _)
      | (with_reducible exact LeO.none _)
      | (with_reducible refine LeO.ite ?_ ?_)
      | (with_reducible refine LeO.bind ?_ (fun _ => ?_))
      | exact ih0 _ _ _ _ _ _ _ _ _ _ _ _ _ _ _ _ _
      | exact ih1 _ _ _ _ _ _ _ _ _ _ _ _ _ _ _ _ _ _ _ _ _
      | exact ih2 _ _ _ _ _ _ _ _ _ _ _ _ _ _ _ _ _ _ _ _ _ _ _ _ _
      | exact ih3 _ _ _ _ _ _ _ _ _ _ _ _ _ _ _ _ _ _ _ _ _ _ _ _ _ _ _ _ _ _
      | exact ih4 _ _ _ _ _ _ _ _ _ _ _ _ _ _ _ _ _ _ _ _ _ _ _ _ _ _ _ _ _ _ _ _
      | exact ih5 _ _ _ _ _ _ _ _ _ _ _ _ _ _ _ _ _ _ _ _ _ _ _ _ _ _ _ _ _ _ _ _
      | exact ih6 _ _ _ _ _ _ _ _ _ _ _ _ _ _ _ _ _ _ _ _ _ _ _ _ _
      | exact ending_Room.mono _ _ _ _
      | exact ending_Same.mono _ _ _
      | exact storagebarterref26_Between.mono _ _ _ _
      | exact storagebarterref26_Culprit.mono _ _ _ _ _
      | exact storagebarterref26_Fetch.mono _ _ _ _ _ _ _ _ _ _ _ _ _
      | exact storagebarterref26_Over.mono _ _ _
      | exact storagebarterref26_Room.mono _ _ _ _
      | exact storagebarterref26_Same.mono _ _ _
      | exact storagebarterref26_SameEnding.mono _ _ _ _ _ _ _ _ _
      | exact LeO.none _
      | refine LeO.ite ?_ ?_
      | refine LeO.bind ?_ (fun _ => ?_)
    · intro y0 y1 y2 y3 y4 y5 y6 y7 y8 y9 y10 y11 y12 y13 y14 y15 y16 y17 y18 y19 y20 y21 y22 y23 y24
      unfold storagebarterlaw26_EndingSteps.l2
      repeat' first
      | (with_reducible exact ih0 _ _ _ _ _ _ _ _ _ _ _ _ _ _ _ _ _)
      | (with_reducible exact ih1 _ _ _ _ _ _ _ _ _ _ _ _ _ _ _ _ _ _ _ _ _)
      | (with_reducible exact ih2 _ _ _ _ _ _ _ _ _ _ _ _ _ _ _ _ _ _ _ _ _ _ _ _ _)
      | (with_reducible exact ih3 _ _ _ _ _ _ _ _ _ _ _ _ _ _ _ _ _ _ _ _ _ _ _ _ _ _ _ _ _ _)
      | (with_reducible exact ih4 _ _ _ _ _ _ _ _ _ _ _ _ _ _ _ _ _ _ _ _ _ _ _ _ _ _ _ _ _ _ _ _)
      | (with_reducible exact ih5 _ _ _ _ _ _ _ _ _ _ _ _ _ _ _ _ _ _ _ _ _ _ _ _ _ _ _ _ _ _ _ _)
      | (with_reducible exact ih6 _ _ _ _ _ _ _ _ _ _ _ _ _ _ _ _ _ _ _ _ _ _ _ _ _)
      | (with_reducible exact ending_Room.mono _ _ _ _)
      | (with_reducible exact ending_Same.mono _ _ _)
      | (with_reducible exact storagebarterref26_Between.mono _ _ _ _)
      | (with_reducible exact storagebarterref26_Culprit.mono _ _ _ _ _)
      | (with_reducible exact storagebarterref26_Fetch.mono _ _ _ _ _ _ _ _ _ _ _ _ _)
      | (with_reducible exact storagebarterref26_Over.mono _ _ _)
      | (with_reducible exact storagebarterref26_Room.mono _ _ _ _)
      | (with_reducible exact storagebarterref26_Same.mono _ _ _)
      | (with_reducible exact storagebarterref26_SameEnding.mono _ _ _ _ _ _ _ _ _)
      | (with_reducible exact LeO.refl _)
      | (with_reducible exact LeO.none _)
      | (with_reducible refine LeO.ite ?_ ?_)
      | (with_reducible refine LeO.bind ?_ (fun _ => ?_))
      | exact ih0 _ _ _ _ _ _ _ _ _ _ _ _ _ _ _ _ _
      | exact ih1 _ _ _ _ _ _ _ _ _ _ _ _ _ _ _ _ _ _ _ _ _
      | exact ih2 _ _ _ _ _ _ _ _ _ _ _ _ _ _ _ _ _ _ _ _ _ _ _ _ _
      | exact ih3 _ _ _ _ _ _ _ _ _ _ _ _ _ _ _ _ _ _ _ _ _ _ _ _ _ _ _ _ _ _
      | exact ih4 _ _ _ _ _ _ _ _ _ _ _ _ _ _ _ _ _ _ _ _ _ _ _ _ _ _ _ _ _ _ _ _
      | exact ih5 _ _ _ _ _ _ _ _ _ _ _ _ _ _ _ _ _ _ _ _ _ _ _ _ _ _ _ _ _ _ _ _
      | exact ih6 _ _ _ _ _ _ _ _ _ _ _ _ _ _ _ _ _ _ _ _ _ _ _ _ _
      | exact ending_Room.mono _ _ _ _
      | exact ending_Same.mono _ _ _
      | exact storagebarterref26_Between.mono _ _ _ _
      | exact storagebarterref26_Culprit.mono _ _ _ _ _
      | exact storagebarterref26_Fetch.mono _ _ _ _ _ _ _ _ _ _ _ _ _
      | exact storagebarterref26_Over.mono _ _ _
      | exact storagebarterref26_Room.mono _ _ _ _
      | exact storagebarterref26_Same.mono _ _ _
      | exact storagebarterref26_SameEnding.mono _ _ _ _ _ _ _ _ _
      | exact LeO.none _
      | refine LeO.ite ?_ ?_
      | refine LeO.bind ?_ (fun _ => ?_)
    · intro y0 y1 y2 y3 y4 y5 y6 y7 y8 y9 y10 y11 y12 y13 y14 y15 y16 y17 y18 y19 y20 y21 y22 y23 y24 y25 y26 y27 y28 y29
      unfold storagebarterlaw26_EndingSteps.j3
      repeat' first
      | (with_reducible exact ih0 _ _ _ _ _ _ _ _ _ _ _ _ _ _ _ _ _)
      | (with_reducible exact ih1 _ _ _ _ _ _ _ _ _ _ _ _ _ _ _ _ _ _ _ _ _)
      | (with_reducible exact ih2 _ _ _ _ _ _ _ _ _ _ _ _ _ _ _ _ _ _ _ _ _ _ _ _ _)
      | (with_reducible exact ih3 _ _ _ _ _ _ _ _ _ _ _ _ _ _ _ _ _ _ _ _ _ _ _ _ _ _ _ _ _ _)
      | (with_reducible exact ih4 _ _ _ _ _ _ _ _ _ _ _ _ _ _ _ _ _ _ _ _ _ _ _ _ _ _ _ _ _ _ _ _)
      | (with_reducible exact ih5 _ _ _ _ _ _ _ _ _ _ _ _ _ _ _ _ _ _ _ _ _ _ _ _ _ _ _ _ _ _ _ _)
      | (with_reducible exact ih6 _ _ _ _ _ _ _ _ _ _ _ _ _ _ _ _ _ _ _ _ _ _ _ _ _)
      | (with_reducible exact ending_Room.mono _ _ _ _)
      | (with_reducible exact ending_Same.mono _ _ _)
      | (with_reducible exact storagebarterref26_Between.mono _ _ _ _)
      | (with_reducible exact storagebarterref26_Culprit.mono _ _ _ _ _)
      | (with_reducible exact storagebarterref26_Fetch.mono _ _ _ _ _ _ _ _ _ _ _ _ _)
      | (with_reducible exact storagebarterref26_Over.mono _ _ _)
      | (with_reducible exact storagebarterref26_Room.mono _ _ _ _)
      | (with_reducible exact storagebarterref26_Same.mono _ _ _)
      | (with_reducible exact storagebarterref26_SameEnding.mono _ _ _ _ _ _ _ _ _)
      | (with_reducible exact LeO.refl _)
      | (with_reducible exact LeO.none _)
      | (with_reducible refine LeO.ite ?_ ?_)
      | (with_reducible refine LeO.bind ?_ (fun _ => ?_))
      | exact ih0 _ _ _ _ _ _ _ _ _ _ _ _ _ _ _ _ _
      | exact ih1 _ _ _ _ _ _ _ _ _ _ _ _ _ _ _ _ _ _ _ _ _
      | exact ih2 _ _ _ _ _ _ _ _ _ _ _ _ _ _ _ _ _ _ _ _ _ _ _ _ _
      | exact ih3 _ _ _ _ _ _ _ _ _ _ _ _ _ _ _ _ _ _ _ _ _ _ _ _ _ _ _ _ _ _
      | exact ih4 _ _ _ _ _ _ _ _ _ _ _ _ _ _ _ _ _ _ _ _ _ _ _ _ _ _ _ _ _ _ _ _
      | exact ih5 _ _ _ _ _ _ _ _ _ _ _ _ _ _ _ _ _ _ _ _ _ _ _ _ _ _ _ _ _ _ _ _
      | exact ih6 _ _ _ _ _ _ _ _ _ _ _ _ _ _ _ _ _ _ _ _ _ _ _ _ _
      | exact ending_Room.mono _ _ _ _
      | exact ending_Same.mono _ _ _
      | exact storagebarterref26_Between.mono _ _ _ _
      | exact storagebarterref26_Culprit.mono _ _ _ _ _
      | exact storagebarterref26_Fetch.mono _ _ _ _ _ _ _ _ _ _ _ _ _
      | exact storagebarterref26_Over.mono _ _ _
      | exact storagebarterref26_Room.mono _ _ _ _
      | exact storagebarterref26_Same.mono _ _ _
      | exact storagebarterref26_SameEnding.mono _ _ _ _ _ _ _ _ _
      | exact LeO.none _
      | refine LeO.ite ?_ ?_
      | refine LeO.bind ?_ (fun _ => ?_)
    · intro y0 y1 y2 y3 y4 y5 y6 y7 y8 y9 y10 y11 y12 y13 y14 y15 y16 y17 y18 y19 y20 y21 y22 y23 y24 y25 y26 y27 y28 y29 y30 y31
      unfold storagebarterlaw26_EndingSteps.l3
      repeat' first
      | (with_reducible exact ih0 _ _ _ _ _ _ _ _ _ _ _ _ _ _ _ _ _)
      | (with_reducible exact ih1 _ _ _ _ _ _ _ _ _ _ _ _ _ _ _ _ _ _ _ _ _)
      | (with_reducible exact ih2 _ _ _ _ _ _ _ _ _ _ _ _ _ _ _ _ _ _ _ _ _ _ _ _ _)
      | (with_reducible exact ih3 _ _ _ _ _ _ _ _ _ _ _ _ _ _ _ _ _ _ _ _ _ _ _ _ _ _ _ _ _ _)
      | (with_reducible exact ih4 _ _ _ _ _ _ _ _ _ _ _ _ _ _ _ _ _ _ _ _ _ _ _ _ _ _ _ _ _ _ _ _)
      | (with_reducible exact ih5 _ _ _ _ _ _ _ _ _ _ _ _ _ _ _ _ _ _ _ _ _ _ _ _ _ _ _ _ _ _ _ _)
      | (with_reducible exact ih6 _ _ _ _ _ _ _ _ _ _ _ _ _ _ _ _ _ _ _ _ _ _ _ _ _)
      | (with_reducible exact ending_Room.mono _ _ _ _)
      | (with_reducible exact ending_Same.mono _ _ _)
      | (with_reducible exact storagebarterref26_Between.mono _ _ _ _)
      | (with_reducible exact storagebarterref26_Culprit.mono _ _ _ _ _)
      | (with_reducible exact storagebarterref26_Fetch.mono _ _ _ _ _ _ _ _ _ _ _ _ _)
      | (with_reducible exact storagebarterref26_Over.mono _ _ _)
      | (with_reducible exact storagebarterref26_Room.mono _ _ _ _)
      | (with_reducible exact storagebarterref26_Same.mono _ _ _)
      | (with_reducible exact storagebarterref26_SameEnding.mono _ _ _ _ _ _ _ _ _)
      | (with_reducible exact LeO.refl _)
      | (with_reducible exact LeO.none _)
      | (with_reducible refine LeO.ite ?_ ?_)
      | (with_reducible refine LeO.bind ?_ (fun _ => ?_))
      | exact ih0 _ _ _ _ _ _ _ _ _ _ _ _ _ _ _ _ _
      | exact ih1 _ _ _ _ _ _ _ _ _ _ _ _ _ _ _ _ _ _ _ _ _
      | exact ih2 _ _ _ _ _ _ _ _ _ _ _ _ _ _ _ _ _ _ _ _ _ _ _ _ _
      | exact ih3 _ _ _ _ _ _ _ _ _ _ _ _ _ _ _ _ _ _ _ _ _ _ _ _ _ _ _ _ _ _
      | exact ih4 _ _ _ _ _ _ _ _ _ _ _ _ _ _ _ _ _ _ _ _ _ _ _ _ _ _ _ _ _ _ _ _
      | exact ih5 _ _ _ _ _ _ _ _ _ _ _ _ _ _ _ _ _ _ _ _ _ _ _ _ _ _ _ _ _ _ _ _
      | exact ih6 _ _ _ _ _ _ _ _ _ _ _ _ _ _ _ _ _ _ _ _ _ _ _ _ _
      | exact ending_Room.mono _ _ _ _
      | exact ending_Same.mono _ _ _
      | exact storagebarterref26_Between.mono _ _ _ _
      | exact storagebarterref26_Culprit.mono _ _ _ _ _
      | exact storagebarterref26_Fetch.mono _ _ _ _ _ _ _ _ _ _ _ _ _
      | exact storagebarterref26_Over.mono _ _ _
      | exact storagebarterref26_Room.mono _ _ _ _
      | exact storagebarterref26_Same.mono _ _ _
      | exact storagebarterref26_SameEnding.mono _ _ _ _ _ _ _ _ _
      | exact LeO.none _
      | refine LeO.ite ?_ ?_
      | refine LeO.bind ?_ (fun _ => ?_)
    · intro y0 y1 y2 y3 y4 y5 y6 y7 y8 y9 y10 y11 y12 y13 y14 y15 y16 y17 y18 y19 y20 y21 y22 y23 y24 y25 y26 y27 y28 y29 y30 y31
      unfold storagebarterlaw26_EndingSteps.l4
      repeat' first
      | (with_reducible exact ih0 _ _ _ _ _ _ _ _ _ _ _ _ _ _ _ _ _)
      | (with_reducible exact ih1 _ _ _ _ _ _ _ _ _ _ _ _ _ _ _ _ _ _ _ _ _)
      | (with_reducible exact ih2 _ _ _ _ _ _ _ _ _ _ _ _ _ _ _ _ _ _ _ _ _ _ _ _ _)
      | (with_reducible exact ih3 _ _ _ _ _ _ _ _ _ _ _ _ _ _ _ _ _ _ _ _ _ _ _ _ _ _ _ _ _ _)
      | (with_reducible exact ih4 _ _ _ _ _ _ _ _ _ _ _ _ _ _ _ _ _ _ _ _ _ _ _ _ _ _ _ _ _ _ _ _)
      | (with_reducible exact ih5 _ _ _ _ _ _ _ _ _ _ _ _ _ _ _ _ _ _ _ _ _ _ _ _ _ _ _ _ _ _ _ _)
      | (with_reducible exact ih6 _ _ _ _ _ _ _ _ _ _ _ _ _ _ _ _ _ _ _ _ _ _ _ _ _)
      | (with_reducible exact ending_Room.mono _ _ _ _)
      | (with_reducible exact ending_Same.mono _ _ _)
      | (with_reducible exact storagebarterref26_Between.mono _ _ _ _)
      | (with_reducible exact storagebarterref26_Culprit.mono _ _ _ _ _)
      | (with_reducible exact storagebarterref26_Fetch.mono _ _ _ _ _ _ _ _ _ _ _ _ _)
      | (with_reducible exact storagebarterref26_Over.mono _ _ _)
      | (with_reducible exact storagebarterref26_Room.mono _ _ _ _)
      | (with_reducible exact storagebarterref26_Same.mono _ _ _)
      | (with_reducible exact storagebarterref26_SameEnding.mono _ _ _ _ _ _ _ _ _)
      | (with_reducible exact LeO.refl _)
      | (with_reducible exact LeO.none _)
      | (with_reducible refine LeO.ite ?_ ?_)
      | (with_reducible refine LeO.bind ?_ (fun _ => ?_))
      | exact ih0 _ _ _ _ _ _ _ _ _ _ _ _ _ _ _ _ _
      | exact ih1 _ _ _ _ _ _ _ _ _ _ _ _ _ _ _ _ _ _ _ _ _
      | exact ih2 _ _ _ _ _ _ _ _ _ _ _ _ _ _ _ _ _ _ _ _ _ _ _ _ _
      | exact ih3 _ _ _ _ _ _ _ _ _ _ _ _ _ _ _ _ _ _ _ _ _ _ _ _ _ _ _ _ _ _
      | exact ih4 _ _ _ _ _ _ _ _ _ _ _ _ _ _ _ _ _ _ _ _ _ _ _ _ _ _ _ _ _ _ _ _
      | exact ih5 _ _ _ _ _ _ _ _ _ _ _ _ _ _ _ _ _ _ _ _ _ _ _ _ _ _ _ _ _ _ _ _
      | exact ih6 _ _ _ _ _ _ _ _ _ _ _ _ _ _ _ _ _ _ _ _ _ _ _ _ _
      | exact ending_Room.mono _ _ _ _
      | exact ending_Same.mono _ _ _
      | exact storagebarterref26_Between.mono _ _ _ _
      | exact storagebarterref26_Culprit.mono _ _ _ _ _
      | exact storagebarterref26_Fetch.mono _ _ _ _ _ _ _ _ _ _ _ _ _
      | exact storagebarterref26_Over.mono _ _ _
      | exact storagebarterref26_Room.mono _ _ _ _
      | exact storagebarterref26_Same.mono _ _ _
      | exact storagebarterref26_SameEnding.mono _ _ _ _ _ _ _ _ _
      | exact LeO.none _
      | refine LeO.ite ?_ ?_
      | refine LeO.bind ?_ (fun _ => ?_)
    · intro y0 y1 y2 y3 y4 y5 y6 y7 y8 y9 y10 y11 y12 y13 y14 y15 y16 y17 y18 y19 y20 y21 y22 y23 y24
      unfold storagebarterlaw26_EndingSteps.l5
      repeat' first
      | (with_reducible exact ih0 _ _ _ _ _ _ _ _ _ _ _ _ _ _ _ _ _)
      | (with_reducible exact ih1 _ _ _ _ _ _ _ _ _ _ _ _ _ _ _ _ _ _ _ _ _)
      | (with_reducible exact ih2 _ _ _ _ _ _ _ _ _ _ _ _ _ _ _ _ _ _ _ _ _ _ _ _ _)
      | (with_reducible exact ih3 _ _ _ _ _ _ _ _ _ _ _ _ _ _ _ _ _ _ _ _ _ _ _ _ _ _ _ _ _ _)
      | (with_reducible exact ih4 _ _ _ _ _ _ _ _ _ _ _ _ _ _ _ _ _ _ _ _ _ _ _ _ _ _ _ _ _ _ _ _)
      | (with_reducible exact ih5 _ _ _ _ _ _ _ _ _ _ _ _ _ _ _ _ _ _ _ _ _ _ _ _ _ _ _ _ _ _ _ _)
      | (with_reducible exact ih6 _ _ _ _ _ _ _ _ _ _ _ _ _ _ _ _ _ _ _ _ _ _ _ _ _)
      | (with_reducible exact ending_Room.mono _ _ _ _)
      | (with_reducible exact ending_Same.mono _ _ _)
      | (with_reducible exact storagebarterref26_Between.mono _ _ _ _)
      | (with_reducible exact storagebarterref26_Culprit.mono _ _ _ _ _)
      | (with_reducible exact storagebarterref26_Fetch.mono _ _ _ _ _ _ _ _ _ _ _ _ _)
      | (with_reducible exact storagebarterref26_Over.mono _ _ _)
      | (with_reducible exact storagebarterref26_Room.mono _ _ _ _)
      | (with_reducible exact storagebarterref26_Same.mono _ _ _)
      | (with_reducible exact storagebarterref26_SameEnding.mono _ _ _ _ _ _ _ _ _)
      | (with_reducible exact LeO.refl _)
      | (with_reducible exact LeO.none _)
      | (with_reducible refine LeO.ite ?_ ?_)
      | (with_reducible refine LeO.bind ?_ (fun _ => ?_))
      | exact ih0 _ _ _ _ _ _ _ _ _ _ _ _ _ _ _ _ _
      | exact ih1 _ _ _ _ _ _ _ _ _ _ _ _ _ _ _ _ _ _ _ _ _
      | exact ih2 _ _ _ _ _ _ _ _ _ _ _ _ _ _ _ _ _ _ _ _ _ _ _ _ _
      | exact ih3 _ _ _ _ _ _ _ _ _ _ _ _ _ _ _ _ _ _ _ _ _ _ _ _ _ _ _ _ _ _
      | exact ih4 _ _ _ _ _ _ _ _ _ _ _ _ _ _ _ _ _ _ _ _ _ _ _ _ _ _ _ _ _ _ _ _
      | exact ih5 _ _ _ _ _ _ _ _ _ _ _ _ _ _ _ _ _ _ _ _ _ _ _ _ _ _ _ _ _ _ _ _
      | exact ih6 _ _ _ _ _ _ _ _ _ _ _ _ _ _ _ _ _ _ _ _ _ _ _ _ _
      | exact ending_Room.mono _ _ _ _
      | exact ending_Same.mono _ _ _
      | exact storagebarterref26_Between.mono _ _ _ _
      | exact storagebarterref26_Culprit.mono _ _ _ _ _
      | exact storagebarterref26_Fetch.mono _ _ _ _ _ _ _ _ _ _ _ _ _
      | exact storagebarterref26_Over.mono _ _ _
      | exact storagebarterref26_Room.mono _ _ _ _
      | exact storagebarterref26_Same.mono _ _ _
      | exact storagebarterref26_SameEnding.mono _ _ _ _ _ _ _ _ _
      | exact LeO.none _
      | refine LeO.ite ?_ ?_
      | refine LeO.bind ?_ (fun _ => ?_)
theorem storagebarterlaw26_EndingSteps.mono : ∀ a0 a1 a2 a3 a4 a5 a6 a7 a8 a9 a10 a11 a12 a13 k, LeO (storagebarterlaw26_EndingSteps.f k a0 a1 a2 a3 a4 a5 a6 a7 a8 a9 a10 a11 a12 a13) (storagebarterlaw26_EndingSteps.f (k + 1) a0 a1 a2 a3 a4 a5 a6 a7 a8 a9 a10 a11 a12 a13) := by
  intro a0 a1 a2 a3 a4 a5 a6 a7 a8 a9 a10 a11 a12 a13 k
  obtain ⟨ih0, ih1, ih2, ih3, ih4, ih5, ih6⟩ := storagebarterlaw26_EndingSteps.mono_l k
  unfold storagebarterlaw26_EndingSteps.f
  repeat' first
      | (with_reducible exact ih0 _ _ _ _ _ _ _ _ _ _ _ _ _ _ _ _ _)
      | (with_reducible exact ih1 _ _ _ _ _ _ _ _ _ _ _ _ _ _ _ _ _ _ _ _ _)
      | (with_reducible exact ih2 _ _ _ _ _ _ _ _ _ _ _ _ _ _ _ _ _ _ _ _ _ _ _ _ _)
      | (with_reducible exact ih3 _ _ _ _ _ _ _ _ _ _ _ _ _ _ _ _ _ _ _ _ _ _ _ _ _ _ _ _ _ _)
      | (with_reducible exact ih4 _ _ _ _ _ _ _ _ _ _ _ _ _ _ _ _ _ _ _ _ _ _ _ _ _ _ _ _ _ _ _ _)
      | (with_reducible exact ih5 _ _ _ _ _ _ _ _ _ _ _ _ _ _ _ _ _ _ _ _ _ _ _ _ _ _ _ _ _ _ _ _)
      | (with_reducible exact ih6 _ _ _ _ _ _ _ _ _ _ _ _ _ _ _ _ _ _ _ _ _ _ _ _ _)
      | (with_reducible exact ending_Room.mono _ _ _ _)
      | (with_reducible exact ending_Same.mono _ _ _)
      | (with_reducible exact storagebarterref26_Between.mono _ _ _ _)
      | (with_reducible exact storagebarterref26_Culprit.mono _ _ _ _ _)
      | (with_reducible exact storagebarterref26_Fetch.mono _ _ _ _ _ _ _ _ _ _ _ _ _)
      | (with_reducible exact storagebarterref26_Over.mono _ _ _)
      | (with_reducible exact storagebarterref26_Room.mono _ _ _ _)
      | (with_reducible exact storagebarterref26_Same.mono _ _ _)
      | (with_reducible exact storagebarterref26_SameEnding.mono _ _ _ _ _ _ _ _ _)
      | (with_reducible exact LeO.refl _)
      | (with_reducible exact LeO.none _)
      | (with_reducible refine LeO.ite ?_ ?_)
      | (with_reducible refine LeO.bind ?_ (fun _ => ?_))
      | exact ih0 _ _ _ _ _ _ _ _ _ _ _ _ _ _ _ _ _
      | exact ih1 _ _ _ _ _ _ _ _ _ _ _ _ _ _ _ _ _ _ _ _ _
      | exact ih2 _ _ _ _ _ _ _ _ _ _ _ _ _ _ _ _ _ _ _ _ _ _ _ _ _
      | exact ih3 _ _ _ _ _ _ _ _ _ _ _ _ _ _ _ _ _ _ _ _ _ _ _ _ _ _ _ _ _ _
      | exact ih4 _ _ _ _ _ _ _ _ _ _ _ _ _ _ _ _ _ _ _ _ _ _ _ _ _ _ _ _ _ _ _ _
      | exact ih5 _ _ _ _ _ _ _ _ _ _ _ _ _ _ _ _ _ _ _ _ _ _ _ _ _ _ _ _ _ _ _ _
      | exact ih6 _ _ _ _ _ _ _ _ _ _ _ _ _ _ _ _ _ _ _ _ _ _ _ _ _
      | exact ending_Room.mono _ _ _ _
      | exact ending_Same.mono _ _ _
      | exact storagebarterref26_Between.mono _ _ _ _
      | exact storagebarterref26_Culprit.mono _ _ _ _ _
      | exact storagebarterref26_Fetch.mono _ _ _ _ _ _ _ _ _ _ _ _ _
      | exact storagebarterref26_Over.mono _ _ _
      | exact storagebarterref26_Room.mono _ _ _ _
      | exact storagebarterref26_Same.mono _ _ _
      | exact storagebarterref26_SameEnding.mono _ _ _ _ _ _ _ _ _
      | exact LeO.none _
      | refine LeO.ite ?_ ?_
      | refine LeO.bind ?_ (fun _ => ?_)
def storagebarterlaw26_EndingSteps.T24 : Bool × List (List Nat × List Nat) := (true, [([], []), ([], []), ([0, 1], [0, 1]), ([2], [2]), ([3, 2], [3]), ([4], [4]), ([4], [4]), ([5, 6, 4, 4], [4, 5, 6]), ([7, 4], [4, 7]), ([4, 8], [4, 8]), ([9, 7], [9]), ([10], [10]), ([10], [10]), ([11, 12, 10, 10], [10, 11, 12]), ([13, 10], [10, 13]), ([10, 14], [10, 14]), ([15, 13], [15]), ([16], [16]), ([16], [16]), ([17, 18, 16, 16], [16, 17, 18]), ([19, 16], [16, 19]), ([16, 20], [16, 20]), ([21, 19], [21]), ([22], [22]), ([22], [22]), ([24, 22], [22, 24]), ([22], [22]), ([26, 22], [22, 26]), ([23, 25, 27, 22, 22], [22, 23, 25, 27]), ([22], [22]), ([22], [22]), ([30, 22], [22, 30]), ([22], [22]), ([32, 22], [22, 32]), ([29, 31, 33, 28, 22], [22, 29, 31, 33]), ([28, 34, 22], [22, 28, 34]), ([22, 35], [22, 35])])
def storagebarterlaw26_EndingSteps.B24 : List Nat := [0, 0, 3, 7, 15, 31, 31, 127, 255, 511, 1023, 2047, 2047, 8191, 16383, 32767, 65535, 131071, 131071, 524287, 1048575, 2097151, 4194303, 8388607, 8388607, 25165823, 8388607, 75497471, 268435455, 8388607, 8388607, 1082130431, 8388607, 4303355903, 17179869183, 34359738367, 68719476735]
theorem storagebarterlaw26_EndingSteps.tab24 : rtab .any (opsOf Try.f7 24) = storagebarterlaw26_EndingSteps.T24 := by kernel_rfl
theorem storagebarterlaw26_EndingSteps.bits24 : waitsOk storagebarterlaw26_EndingSteps.T24.2 storagebarterlaw26_EndingSteps.B24 = true := by kernel_rfl
def storagebarterlaw26_EndingSteps.T37 : Bool × List (List Nat × List Nat) := (true, [([], []), ([], []), ([0, 1], [0, 1]), ([], []), ([], []), ([3, 4, 2], [3, 4]), ([2, 5, 5], [2, 5]), ([6], [6])])
def storagebarterlaw26_EndingSteps.B37 : List Nat := [0, 0, 3, 0, 0, 31, 63, 127]
theorem storagebarterlaw26_EndingSteps.tab37 : rtab .any (opsOf Try.f7 37) = storagebarterlaw26_EndingSteps.T37 := by kernel_rfl
theorem storagebarterlaw26_EndingSteps.bits37 : waitsOk storagebarterlaw26_EndingSteps.T37.2 storagebarterlaw26_EndingSteps.B37 = true := by kernel_rfl
class Up7 (W W1 : World) : Prop where
  below : Below W.heap.size W W1
instance (W : World) : Up7 W W := ⟨Below.refl _ _⟩
instance (W W1 : World) [h : Up7 W W1] (o : Obj) : Up7 W (W1.alloc o) := ⟨below_alloc h.below o⟩
instance (W W1 : World) [h : Up7 W W1] : Up7 W W1.drew := ⟨h.below.trans (below_drew (Below.refl _ _))⟩
instance (W W1 : World) [h : Up7 W W1] (n : Nat) : Up7 W (W1.drewN n) := ⟨pw_below_drewN h.below n⟩
theorem bU7 {W W1 : World} {g : Nat} {o : Obj} [u : Up7 W W1] (h : W.heap[g]? = some o) : W1.heap[g]? = some o := (u.below.block g (blk_lt h)).trans h
theorem hU7 {w W W1 : World} [u : Up7 W W1] (h : Below w.heap.size w W) : Below w.heap.size w W1 := below_step h u.below
theorem cU7 {α : Type} {d : Kd α} {A : Option Addr} {n : Nat} {xs : List α} {W W1 : World} [u : Up7 W W1] (h : d.C W A n xs) : d.C W1 A n xs := Kd.C_below h u.below
theorem rU7 {α : Type} {d : Kd α} {e base : Nat} {ok : Nat → Prop} {v : Value} {xs : List α} {W W1 : World} [u : Up7 W W1] (h : d.R e W base ok v xs) : d.R e W1 base ok v xs := Kd.R_below h u.below
theorem vU7 {α : Type} {d : Kd α} {e base : Nat} {ok : Nat → Prop} {v : Value} {xs : List α} {W W1 : World} [u : Up7 W W1] (h : d.V e W base ok v xs) : d.V e W1 base ok v xs := Kd.V_below h u.below
theorem nU7 {α : Type} {d : Kd α} {e base : Nat} {ok : Nat → Prop} {v : Value} {xs : List α} {W W1 : World} [u : Up7 W W1] (h : d.N e W base ok v xs) : d.N e W1 base ok v xs := Kd.N_below h u.below

end Go.Proofs.Ytepffabkcbfejaa.PEndingSteps
