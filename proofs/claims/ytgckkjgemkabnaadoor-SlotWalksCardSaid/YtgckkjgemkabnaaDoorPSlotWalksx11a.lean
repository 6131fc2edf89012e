-- Written by a program of this repository (wip/tools/myprint.py over the print of the kit): contracts and rows.
import Derived.Test.YtgckkjgemkabnaaDoorPSlotWalksx0
import Derived.Test.YtgckkjgemkabnaaDoorPSlotWalksx5
import Derived.Test.YtgckkjgemkabnaaDoorPSlotWalksx7
import Derived.Test.YtgckkjgemkabnaaDoorPSlotWalksx9
import Derived.Test.YtgckkjgemkabnaaDoorPSlotWalksx10
namespace Go.Proofs.YtgckkjgemkabnaaDoor.PSlotWalks
open Go.RowKit Go.Proofs.YtgckkjgemkabnaaDoorW.PrintWords Go.Proofs.YtgckkjgemkabnaaDoorW.PrintLast Go.Proofs.YtgckkjgemkabnaaDoorW.PrintMore
attribute [local go_sem] max2_int min2_int max_two min_two max_three min_three max_four min_four   -- for this text's walks alone
set_option linter.unusedVariables false
set_option linter.unusedSimpArgs false

/-! ### storagebarterref29_Step: function 38 -/
mutual
def storagebarterref29_Step.j0 : Nat → Int → Bool → Int → Int → Int → Int → List Int → Int → Int → Int → Bool → Bool → Bool → Bool → Bool → Int → Int → Int → Int → Int → Option (Int × Int × Int × Int × List Int × Int × Int × Int × Bool × Bool × Bool × Bool × Bool × Int × Int)
 | 0, _, _, _, _, _, _, _, _, _, _, _, _, _, _, _, _, _, _, _, _ => none
 | k + 1, x1, x23, ba1, ba2, ba3, ba4, ba5, ba7, ba8, ba9, bad, bae, baa, bab, ba6, bac, bah, baj, bag, baf => if x23 = true then (some (ba1, ba2, ba3, ba4, ba5, ba7, ba8, ba9, bad, bae, baa, bab, ba6, bac, 21)) else (if ba6 = true then (some (ba1, ba2, ba3, ba4, ba5, wrap64 (ba7 + 1), ba8, ba9, bad, bae, baa, bab, ba6, bac, 0)) else ((storagebarterref29_Side.f ba1 ba2 ba3 ba4 ba5 bag).bind fun t235 => (if x1 = 0 then (storagebarterref29_Step.j1 k x1 t235 true ba1 ba2 ba3 ba4 ba5 (wrap64 (ba7 + 1)) ba8 ba9 bad bae baa bab ba6 bac bah baj bag baf) else (storagebarterref29_Step.j1 k x1 t235 (x1 == 2) ba1 ba2 ba3 ba4 ba5 (wrap64 (ba7 + 1)) ba8 ba9 bad bae baa bab ba6 bac bah baj bag baf))))
def storagebarterref29_Step.j1 : Nat → Int → Int → Bool → Int → Int → Int → Int → List Int → Int → Int → Int → Bool → Bool → Bool → Bool → Bool → Int → Int → Int → Int → Int → Option (Int × Int × Int × Int × List Int × Int × Int × Int × Bool × Bool × Bool × Bool × Bool × Int × Int)
 | 0, _, _, _, _, _, _, _, _, _, _, _, _, _, _, _, _, _, _, _, _, _ => none
 | k + 1, x1, x8, x9, ba1, ba2, ba3, ba4, ba5, ba7, ba8, ba9, bad, bae, baa, bab, ba6, bac, bah, baj, bag, baf => if baf = 5 then (if x8 = 0 then (if bad = true then (if x9 = true then (some (ba1, ba2, ba3, ba4, ba5, ba7, wrap64 (ba8 + 1), ba9, x9, bae, baa, bab, ba6, bac, 0)) else (some (ba1, ba2, ba3, ba4, ba5, ba7, ba8, ba9, x9, bae, baa, bab, ba6, bac, 0))) else (some (ba1, ba2, ba3, ba4, ba5, ba7, ba8, ba9, false, bae, baa, bab, ba6, bac, 0))) else (if x8 = 1 then (if bae = true then (if x9 = true then (some (ba1, ba2, ba3, ba4, ba5, ba7, ba8, wrap64 (ba9 + 1), bad, x9, baa, bab, ba6, bac, 0)) else (some (ba1, ba2, ba3, ba4, ba5, ba7, ba8, ba9, bad, x9, baa, bab, ba6, bac, 0))) else (some (ba1, ba2, ba3, ba4, ba5, ba7, ba8, ba9, bad, false, baa, bab, ba6, bac, 0))) else (none))) else (if baf = 6 then (storagebarterref29_Step.j2 k x1 x8 x9 (baf == 6) ba1 ba2 ba3 ba4 ba5 ba7 ba8 ba9 bad bae baa bab ba6 bac bah baj bag baf) else (storagebarterref29_Step.j2 k x1 x8 x9 (baf == 7) ba1 ba2 ba3 ba4 ba5 ba7 ba8 ba9 bad bae baa bab ba6 bac bah baj bag baf))
def storagebarterref29_Step.j2 : Nat → Int → Int → Bool → Bool → Int → Int → Int → Int → List Int → Int → Int → Int → Bool → Bool → Bool → Bool → Bool → Int → Int → Int → Int → Int → Option (Int × Int × Int × Int × List Int × Int × Int × Int × Bool × Bool × Bool × Bool × Bool × Int × Int)
 | 0, _, _, _, _, _, _, _, _, _, _, _, _, _, _, _, _, _, _, _, _, _, _ => none
 | k + 1, x1, x8, x9, x76, ba1, ba2, ba3, ba4, ba5, ba7, ba8, ba9, bad, bae, baa, bab, ba6, bac, bah, baj, bag, baf => if x76 = true then (if x8 = 0 then (if bad = true then (storagebarterref29_Step.j3 k x1 0 (!x9) ba1 ba2 ba3 ba4 ba5 ba7 ba8 ba9 bad bae baa bab ba6 bac bah baj bag baf) else (storagebarterref29_Step.j3 k x1 0 true ba1 ba2 ba3 ba4 ba5 ba7 ba8 ba9 bad bae baa bab ba6 bac bah baj bag baf)) else (if x8 = 1 then (if bae = true then (storagebarterref29_Step.j3 k x1 1 (!x9) ba1 ba2 ba3 ba4 ba5 ba7 ba8 ba9 bad bae baa bab ba6 bac bah baj bag baf) else (storagebarterref29_Step.j3 k x1 1 true ba1 ba2 ba3 ba4 ba5 ba7 ba8 ba9 bad bae baa bab ba6 bac bah baj bag baf)) else (none))) else ((storagebarterref29_begin.f k ba1 ba2 ba3 ba4 ba5 ba7 ba8 ba9 bad bae baa bab ba6 bac bah baj bag baf x8 x1).bind fun bt254 => (some (bt254.1, bt254.2.1, bt254.2.2.1, bt254.2.2.2.1, bt254.2.2.2.2.1, bt254.2.2.2.2.2.1, bt254.2.2.2.2.2.2.1, bt254.2.2.2.2.2.2.2.1, bt254.2.2.2.2.2.2.2.2.1, bt254.2.2.2.2.2.2.2.2.2.1, bt254.2.2.2.2.2.2.2.2.2.2.1, bt254.2.2.2.2.2.2.2.2.2.2.2.1, bt254.2.2.2.2.2.2.2.2.2.2.2.2.1, bt254.2.2.2.2.2.2.2.2.2.2.2.2.2, 0)))
def storagebarterref29_Step.j3 : Nat → Int → Int → Bool → Int → Int → Int → Int → List Int → Int → Int → Int → Bool → Bool → Bool → Bool → Bool → Int → Int → Int → Int → Int → Option (Int × Int × Int × Int × List Int × Int × Int × Int × Bool × Bool × Bool × Bool × Bool × Int × Int)
 | 0, _, _, _, _, _, _, _, _, _, _, _, _, _, _, _, _, _, _, _, _, _ => none
 | k + 1, x1, x8, x87, ba1, ba2, ba3, ba4, ba5, ba7, ba8, ba9, bad, bae, baa, bab, ba6, bac, bah, baj, bag, baf => if x87 = true then ((storagebarterref29_End.f ba1 ba2 ba3 ba4 ba5 ba7 ba8 ba9 bad bae baa bab ba6 bac bag).bind fun bt236 => (some (bt236.1, bt236.2.1, bt236.2.2.1, bt236.2.2.2.1, bt236.2.2.2.2.1, bt236.2.2.2.2.2.1, bt236.2.2.2.2.2.2.1, bt236.2.2.2.2.2.2.2.1, bt236.2.2.2.2.2.2.2.2.1, bt236.2.2.2.2.2.2.2.2.2.1, bt236.2.2.2.2.2.2.2.2.2.2.1, bt236.2.2.2.2.2.2.2.2.2.2.2.1, bt236.2.2.2.2.2.2.2.2.2.2.2.2.1, bt236.2.2.2.2.2.2.2.2.2.2.2.2.2, 0))) else (if x1 = 2 then (if x8 = 0 then (some (ba1, ba2, ba3, ba4, ba5, ba7, wrap64 (ba8 + 8), ba9, bad, bae, baa, bab, ba6, bac, 0)) else (if x8 = 1 then (some (ba1, ba2, ba3, ba4, ba5, ba7, ba8, wrap64 (ba9 + 8), bad, bae, baa, bab, ba6, bac, 0)) else (none))) else (if x8 = 0 then ((storagebarterref28_Cost.f baf).bind fun t252 => (some (ba1, ba2, ba3, ba4, ba5, ba7, wrap64 (ba8 + t252), ba9, bad, bae, baa, bab, ba6, bac, 0))) else (if x8 = 1 then ((storagebarterref28_Cost.f baf).bind fun t253 => (some (ba1, ba2, ba3, ba4, ba5, ba7, ba8, wrap64 (ba9 + t253), bad, bae, baa, bab, ba6, bac, 0))) else (none))))
end
def storagebarterref29_Step.f (k : Nat) (a0_0 : Int) (a0_1 : Int) (a0_2 : Int) (a0_3 : Int) (l0_4 : List Int) (a0_5 : Int) (a0_6 : Int) (a0_7 : Int) (a0_8 : Bool) (a0_9 : Bool) (a0_10 : Bool) (a0_11 : Bool) (a0_12 : Bool) (a0_13 : Int) (a1 : Int) : Option (Int × Int × Int × Int × List Int × Int × Int × Int × Bool × Bool × Bool × Bool × Bool × Int × Int) := (storagebarterref29_Next.f k a0_0 a0_1 a0_2 a0_3 l0_4 a0_5 a0_6 a0_7 a0_8 a0_9 a0_10 a0_11 a0_12 a0_13).bind fun bt229 => (if bt229.2.2.2.2 = true then (if a1 < 0 then (storagebarterref29_Step.j0 k a1 true a0_0 a0_1 a0_2 a0_3 l0_4 a0_5 a0_6 a0_7 a0_8 a0_9 a0_10 a0_11 a0_12 a0_13 bt229.1 bt229.2.1 bt229.2.2.1 bt229.2.2.2.1) else (storagebarterref29_Step.j0 k a1 (decide (a1 > 3)) a0_0 a0_1 a0_2 a0_3 l0_4 a0_5 a0_6 a0_7 a0_8 a0_9 a0_10 a0_11 a0_12 a0_13 bt229.1 bt229.2.1 bt229.2.2.1 bt229.2.2.2.1)) else (some (a0_0, a0_1, a0_2, a0_3, l0_4, a0_5, a0_6, a0_7, a0_8, a0_9, a0_10, a0_11, a0_12, a0_13, 5)))
theorem storagebarterref29_Step.mono_l : ∀ k, (∀ y0 y1 y2 y3 y4 y5 y6 y7 y8 y9 y10 y11 y12 y13 y14 y15 y16 y17 y18 y19, LeO (storagebarterref29_Step.j0 k y0 y1 y2 y3 y4 y5 y6 y7 y8 y9 y10 y11 y12 y13 y14 y15 y16 y17 y18 y19) (storagebarterref29_Step.j0 (k + 1) y0 y1 y2 y3 y4 y5 y6 y7 y8 y9 y10 y11 y12 y13 y14 y15 y16 y17 y18 y19)) ∧ (∀ y0 y1 y2 y3 y4 y5 y6 y7 y8 y9 y10 y11 y12 y13 y14 y15 y16 y17 y18 y19 y20, LeO (storagebarterref29_Step.j1 k y0 y1 y2 y3 y4 y5 y6 y7 y8 y9 y10 y11 y12 y13 y14 y15 y16 y17 y18 y19 y20) (storagebarterref29_Step.j1 (k + 1) y0 y1 y2 y3 y4 y5 y6 y7 y8 y9 y10 y11 y12 y13 y14 y15 y16 y17 y18 y19 y20)) ∧ (∀ y0 y1 y2 y3 y4 y5 y6 y7 y8 y9 y10 y11 y12 y13 y14 y15 y16 y17 y18 y19 y20 y21, LeO (storagebarterref29_Step.j2 k y0 y1 y2 y3 y4 y5 y6 y7 y8 y9 y10 y11 y12 y13 y14 y15 y16 y17 y18 y19 y20 y21) (storagebarterref29_Step.j2 (k + 1) y0 y1 y2 y3 y4 y5 y6 y7 y8 y9 y10 y11 y12 y13 y14 y15 y16 y17 y18 y19 y20 y21)) ∧ (∀ y0 y1 y2 y3 y4 y5 y6 y7 y8 y9 y10 y11 y12 y13 y14 y15 y16 y17 y18 y19 y20, LeO (storagebarterref29_Step.j3 k y0 y1 y2 y3 y4 y5 y6 y7 y8 y9 y10 y11 y12 y13 y14 y15 y16 y17 y18 y19 y20) (storagebarterref29_Step.j3 (k + 1) y0 y1 y2 y3 y4 y5 y6 y7 y8 y9 y10 y11 y12 y13 y14 y15 y16 y17 y18 y19 y20))
 | 0 => ⟨fun _ _ _ _ _ _ _ _ _ _ _ _ _ _ _ _ _ _ _ _ r h => by simp [storagebarterref29_Step.j0] at h, fun _ _ _ _ _ _ _ _ _ _ _ _ _ _ _ _ _ _ _ _ _ r h => by simp [storagebarterref29_Step.j1] at h, fun _ _ _ _ _ _ _ _ _ _ _ _ _ _ _ _ _ _ _ _ _ _ r h => by simp [storagebarterref29_Step.j2] at h, fun _ _ _ _ _ _ _ _ _ _ _ _ _ _ _ _ _ _ _ _ _ r h => by simp [storagebarterref29_Step.j3] at h⟩
 | k + 1 => by
  obtain ⟨ih0, ih1, ih2, ih3⟩ := storagebarterref29_Step.mono_l k
  refine ⟨?_, ?_, ?_, ?_⟩
  ·intro y0 y1 y2 y3 y4 y5 y6 y7 y8 y9 y10 y11 y12 y13 y14 y15 y16 y17 y18 y19
   unfold storagebarterref29_Step.j0
   repeat' first
   | (with_reducible exact ih0 _ _ _ _ _ _ _ _ _ _ _ _ _ _ _ _ _ _ _ _)
   | (with_reducible exact ih1 _ _ _ _ _ _ _ _ _ _ _ _ _ _ _ _ _ _ _ _ _)
   | (with_reducible exact ih2 _ _ _ _ _ _ _ _ _ _ _ _ _ _ _ _ _ _ _ _ _ _)
   | (with_reducible exact ih3 _ _ _ _ _ _ _ _ _ _ _ _ _ _ _ _ _ _ _ _ _)
   | (with_reducible exact storagebarterref29_Next.mono _ _ _ _ _ _ _ _ _ _ _ _ _ _ _)
   | (with_reducible exact storagebarterref29_begin.mono _ _ _ _ _ _ _ _ _ _ _ _ _ _ _ _ _ _ _ _ _)
   | (with_reducible exact LeO.refl _)
   | (with_reducible exact LeO.none _)
   | (with_reducible refine LeO.ite ?_ ?_)
   | (with_reducible refine LeO.bind ?_ (fun _ => ?_))
   | exact ih0 _ _ _ _ _ _ _ _ _ _ _ _ _ _ _ _ _ _ _ _
   | exact ih1 _ _ _ _ _ _ _ _ _ _ _ _ _ _ _ _ _ _ _ _ _
   | exact ih2 _ _ _ _ _ _ _ _ _ _ _ _ _ _ _ _ _ _ _ _ _ _
   | exact ih3 _ _ _ _ _ _ _ _ _ _ _ _ _ _ _ _ _ _ _ _ _
   | exact storagebarterref29_Next.mono _ _ _ _ _ _ _ _ _ _ _ _ _ _ _
   | exact storagebarterref29_begin.mono _ _ _ _ _ _ _ _ _ _ _ _ _ _ _ _ _ _ _ _ _
   | exact LeO.none _
   | refine LeO.ite ?_ ?_
   | refine LeO.bind ?_ (fun _ => ?_)
  ·intro y0 y1 y2 y3 y4 y5 y6 y7 y8 y9 y10 y11 y12 y13 y14 y15 y16 y17 y18 y19 y20
   unfold storagebarterref29_Step.j1
   repeat' first
   | (with_reducible exact ih0 _ _ _ _ _ _ _ _ _ _ _ _ _ _ _ _ _ _ _ _)
   | (with_reducible exact ih1 _ _ _ _ _ _ _ _ _ _ _ _ _ _ _ _ _ _ _ _ _)
   | (with_reducible exact ih2 _ _ _ _ _ _ _ _ _ _ _ _ _ _ _ _ _ _ _ _ _ _)
   | (with_reducible exact ih3 _ _ _ _ _ _ _ _ _ _ _ _ _ _ _ _ _ _ _ _ _)
   | (with_reducible exact storagebarterref29_Next.mono _ _ _ _ _ _ _ _ _ _ _ _ _ _ _)
   | (with_reducible exact storagebarterref29_begin.mono _ _ _ _ _ _ _ _ _ _ _ _ _ _ _ _ _ _ _ _ _)
   | (with_reducible exact LeO.refl _)
   | (with_reducible exact LeO.none _)
   | (with_reducible refine LeO.ite ?_ ?_)
   | (with_reducible refine LeO.bind ?_ (fun _ => ?_))
   | exact ih0 _ _ _ _ _ _ _ _ _ _ _ _ _ _ _ _ _ _ _ _
   | exact ih1 _ _ _ _ _ _ _ _ _ _ _ _ _ _ _ _ _ _ _ _ _
   | exact ih2 _ _ _ _ _ _ _ _ _ _ _ _ _ _ _ _ _ _ _ _ _ _
   | exact ih3 _ _ _ _ _ _ _ _ _ _ _ _ _ _ _ _ _ _ _ _ _
   | exact storagebarterref29_Next.mono _ _ _ _ _ _ _ _ _ _ _ _ _ _ _
   | exact storagebarterref29_begin.mono _ _ _ _ _ _ _ _ _ _ _ _ _ _ _ _ _ _ _ _ _
   | exact LeO.none _
   | refine LeO.ite ?_ ?_
   | refine LeO.bind ?_ (fun _ => ?_)
  ·intro y0 y1 y2 y3 y4 y5 y6 y7 y8 y9 y10 y11 y12 y13 y14 y15 y16 y17 y18 y19 y20 y21
   unfold storagebarterref29_Step.j2
   repeat' first
   | (with_reducible exact ih0 _ _ _ _ _ _ _ _ _ _ _ _ _ _ _ _ _ _ _ _)
   | (with_reducible exact ih1 _ _ _ _ _ _ _ _ _ _ _ _ _ _ _ _ _ _ _ _ _)
   | (with_reducible exact ih2 _ _ _ _ _ _ _ _ _ _ _ _ _ _ _ _ _ _ _ _ _ _)
   | (with_reducible exact ih3 _ _ _ _ _ _ _ _ _ _ _ _ _ _ _ _ _ _ _ _ _)
   | (with_reducible exact storagebarterref29_Next.mono _ _ _ _ _ _ _ _ _ _ _ _ _ _ _)
   | (with_reducible exact storagebarterref29_begin.mono _ _ _ _ _ _ _ _ _ _ _ _ _ _ _ _ _ _ _ _ _)
   | (with_reducible exact LeO.refl _)
   | (with_reducible exact LeO.none _)
   | (with_reducible refine LeO.ite ?_ ?_)
   | (with_reducible refine LeO.bind ?_ (fun _ => ?_))
   | exact ih0 _ _ _ _ _ _ _ _ _ _ _ _ _ _ _ _ _ _ _ _
   | exact ih1 _ _ _ _ _ _ _ _ _ _ _ _ _ _ _ _ _ _ _ _ _
   | exact ih2 _ _ _ _ _ _ _ _ _ _ _ _ _ _ _ _ _ _ _ _ _ _
   | exact ih3 _ _ _ _ _ _ _ _ _ _ _ _ _ _ _ _ _ _ _ _ _
   | exact storagebarterref29_Next.mono _ _ _ _ _ _ _ _ _ _ _ _ _ _ _
   | exact storagebarterref29_begin.mono _ _ _ _ _ _ _ _ _ _ _ _ _ _ _ _ _ _ _ _ _
   | exact LeO.none _
   | refine LeO.ite ?_ ?_
   | refine LeO.bind ?_ (fun _ => ?_)
  ·intro y0 y1 y2 y3 y4 y5 y6 y7 y8 y9 y10 y11 y12 y13 y14 y15 y16 y17 y18 y19 y20
   unfold storagebarterref29_Step.j3
   repeat' first
   | (with_reducible exact ih0 _ _ _ _ _ _ _ _ _ _ _ _ _ _ _ _ _ _ _ _)
   | (with_reducible exact ih1 _ _ _ _ _ _ _ _ _ _ _ _ _ _ _ _ _ _ _ _ _)
   | (with_reducible exact ih2 _ _ _ _ _ _ _ _ _ _ _ _ _ _ _ _ _ _ _ _ _ _)
   | (with_reducible exact ih3 _ _ _ _ _ _ _ _ _ _ _ _ _ _ _ _ _ _ _ _ _)
   | (with_reducible exact storagebarterref29_Next.mono _ _ _ _ _ _ _ _ _ _ _ _ _ _ _)
   | (with_reducible exact storagebarterref29_begin.mono _ _ _ _ _ _ _ _ _ _ _ _ _ _ _ _ _ _ _ _ _)
   | (with_reducible exact LeO.refl _)
   | (with_reducible exact LeO.none _)
   | (with_reducible refine LeO.ite ?_ ?_)
   | (with_reducible refine LeO.bind ?_ (fun _ => ?_))
   | exact ih0 _ _ _ _ _ _ _ _ _ _ _ _ _ _ _ _ _ _ _ _
   | exact ih1 _ _ _ _ _ _ _ _ _ _ _ _ _ _ _ _ _ _ _ _ _
   | exact ih2 _ _ _ _ _ _ _ _ _ _ _ _ _ _ _ _ _ _ _ _ _ _
   | exact ih3 _ _ _ _ _ _ _ _ _ _ _ _ _ _ _ _ _ _ _ _ _
   | exact storagebarterref29_Next.mono _ _ _ _ _ _ _ _ _ _ _ _ _ _ _
   | exact storagebarterref29_begin.mono _ _ _ _ _ _ _ _ _ _ _ _ _ _ _ _ _ _ _ _ _
   | exact LeO.none _
   | refine LeO.ite ?_ ?_
   | refine LeO.bind ?_ (fun _ => ?_)
theorem storagebarterref29_Step.mono : ∀ a0 a1 a2 a3 a4 a5 a6 a7 a8 a9 a10 a11 a12 a13 a14 k, LeO (storagebarterref29_Step.f k a0 a1 a2 a3 a4 a5 a6 a7 a8 a9 a10 a11 a12 a13 a14) (storagebarterref29_Step.f (k + 1) a0 a1 a2 a3 a4 a5 a6 a7 a8 a9 a10 a11 a12 a13 a14) := by
 intro a0 a1 a2 a3 a4 a5 a6 a7 a8 a9 a10 a11 a12 a13 a14 k
 obtain ⟨ih0, ih1, ih2, ih3⟩ := storagebarterref29_Step.mono_l k
 unfold storagebarterref29_Step.f
 repeat' first
   | (with_reducible exact ih0 _ _ _ _ _ _ _ _ _ _ _ _ _ _ _ _ _ _ _ _)
   | (with_reducible exact ih1 _ _ _ _ _ _ _ _ _ _ _ _ _ _ _ _ _ _ _ _ _)
   | (with_reducible exact ih2 _ _ _ _ _ _ _ _ _ _ _ _ _ _ _ _ _ _ _ _ _ _)
   | (with_reducible exact ih3 _ _ _ _ _ _ _ _ _ _ _ _ _ _ _ _ _ _ _ _ _)
   | (with_reducible exact storagebarterref29_Next.mono _ _ _ _ _ _ _ _ _ _ _ _ _ _ _)
   | (with_reducible exact storagebarterref29_begin.mono _ _ _ _ _ _ _ _ _ _ _ _ _ _ _ _ _ _ _ _ _)
   | (with_reducible exact LeO.refl _)
   | (with_reducible exact LeO.none _)
   | (with_reducible refine LeO.ite ?_ ?_)
   | (with_reducible refine LeO.bind ?_ (fun _ => ?_))
   | exact ih0 _ _ _ _ _ _ _ _ _ _ _ _ _ _ _ _ _ _ _ _
   | exact ih1 _ _ _ _ _ _ _ _ _ _ _ _ _ _ _ _ _ _ _ _ _
   | exact ih2 _ _ _ _ _ _ _ _ _ _ _ _ _ _ _ _ _ _ _ _ _ _
   | exact ih3 _ _ _ _ _ _ _ _ _ _ _ _ _ _ _ _ _ _ _ _ _
   | exact storagebarterref29_Next.mono _ _ _ _ _ _ _ _ _ _ _ _ _ _ _
   | exact storagebarterref29_begin.mono _ _ _ _ _ _ _ _ _ _ _ _ _ _ _ _ _ _ _ _ _
   | exact LeO.none _
   | refine LeO.ite ?_ ?_
   | refine LeO.bind ?_ (fun _ => ?_)
def storagebarterref29_Step.T23 : Bool × List (List Nat × List Nat) := (true, [([], []), ([], []), ([1, 0], [0, 1]), ([2], [2]), ([], []), ([4], [4]), ([5], [5]), ([3, 6], [3, 6]), ([], []), ([8, 0, 0, 1, 2, 3, 4, 5, 6, 7], [0, 8]), ([9, 7, 6, 0, 1, 2, 3, 4, 5, 6, 7], [7, 9])])
def storagebarterref29_Step.B23 : List Nat := [0, 0, 3, 7, 0, 16, 48, 127, 0, 511, 1023]
theorem storagebarterref29_Step.tab23 : rtab .any (opsOf Tryd.f38 23) = storagebarterref29_Step.T23 := by kernel_rfl
theorem storagebarterref29_Step.bits23 : waitsOk storagebarterref29_Step.T23.2 storagebarterref29_Step.B23 = true := by kernel_rfl
class Up38 (W W1 : World) : Prop where
 below : Below W.heap.size W W1
instance (W : World) : Up38 W W := ⟨Below.refl _ _⟩
instance (W W1 : World) [h : Up38 W W1] (o : Obj) : Up38 W (W1.alloc o) := ⟨below_alloc h.below o⟩
instance (W W1 : World) [h : Up38 W W1] : Up38 W W1.drew := ⟨h.below.trans (below_drew (Below.refl _ _))⟩
instance (W W1 : World) [h : Up38 W W1] (n : Nat) : Up38 W (W1.drewN n) := ⟨pw_below_drewN h.below n⟩
theorem bU38 {W W1 : World} {g : Nat} {o : Obj} [u : Up38 W W1] (h : W.heap[g]? = some o) : W1.heap[g]? = some o := (u.below.block g (blk_lt h)).trans h
theorem hU38 {w W W1 : World} [u : Up38 W W1] (h : Below w.heap.size w W) : Below w.heap.size w W1 := below_step h u.below
theorem cU38 {α : Type} {d : Kd α} {A : Option Addr} {n : Nat} {xs : List α} {W W1 : World} [u : Up38 W W1] (h : d.C W A n xs) : d.C W1 A n xs := Kd.C_below h u.below
theorem vU38 {α : Type} {d : Kd α} {e base : Nat} {ok : Nat → Prop} {v : Value} {xs : List α} {W W1 : World} [u : Up38 W W1] (h : d.V e W base ok v xs) : d.V e W1 base ok v xs := Kd.V_below h u.below
set_option maxHeartbeats 60000000 in
set_option maxRecDepth 100000 in
theorem storagebarterref29_Step.calls5 (k : Nat) (a0_0 : Int) (a0_1 : Int) (a0_2 : Int) (a0_3 : Int) (P0_4_ : Nat → Prop) (A0_4 : Option Addr) (c0_4 : Nat) (l0_4 : List Int) (a0_5 : Int) (a0_6 : Int) (a0_7 : Int) (a0_8 : Bool) (a0_9 : Bool) (a0_10 : Bool) (a0_11 : Bool) (a0_12 : Bool) (a0_13 : Int) (a1 : Int) (r1 : Int) (r2 : Int) (r3 : Int) (r4 : Int) (r5 : List Int) (r6 : Int) (r7 : Int) (r8 : Int) (r9 : Bool) (r10 : Bool) (r11 : Bool) (r12 : Bool) (r13 : Bool) (r14 : Int) (r15 : Int) (w : World) (hs0_4 : Kd.V (Kd.int .i64) 3 w w.heap.size (fun k_ => P0_4_ k_) (.slice A0_4 l0_4.length c0_4) l0_4) (hE : ∀ x, storagebarterref29_Next.f k a0_0 a0_1 a0_2 a0_3 l0_4 a0_5 a0_6 a0_7 a0_8 a0_9 a0_10 a0_11 a0_12 a0_13 = some x → (x.2.2.2.1 = 5 ∨ x.2.2.2.2 = false ∨ a0_12 = true)) (h : storagebarterref29_Step.f k a0_0 a0_1 a0_2 a0_3 l0_4 a0_5 a0_6 a0_7 a0_8 a0_9 a0_10 a0_11 a0_12 a0_13 a1 = some (r1, r2, r3, r4, r5, r6, r7, r8, r9, r10, r11, r12, r13, r14, r15)) :
  Calls Tryd.prog 38 #[.agg #[.int .i64 a0_0, .int .i64 a0_1, .int .i64 a0_2, .int .i64 a0_3, .slice A0_4 l0_4.length c0_4, .int .i64 a0_5, .int .i64 a0_6, .int .i64 a0_7, .bool a0_8, .bool a0_9, .bool a0_10, .bool a0_11, .bool a0_12, .int .i64 a0_13], .int .i64 a1] w fun e w' => ∃ v4_ : Value, e = .returned (.tuple #[.agg #[.int .i64 r1, .int .i64 r2, .int .i64 r3, .int .i64 r4, v4_, .int .i64 r6, .int .i64 r7, .int .i64 r8, .bool r9, .bool r10, .bool r11, .bool r12, .bool r13, .int .i64 r14], .int .i64 r15]) ∧ Kd.V (Kd.int .i64) 3 w' w.heap.size (fun k_ => (P0_4_ k_ ∨ w.heap.size ≤ k_)) v4_ r5 ∧ Below w.heap.size w w' := by
 have hu54 := Tryd.underlying54
 have hu36 := Tryd.underlying36
 have hu26 := Tryd.underlying26
 have HO0_4 := Aside0.mk (show Kd.V (Kd.int .i64) 3 w w.heap.size (fun k_ => (P0_4_ k_ ∨ w.heap.size ≤ k_)) (.slice A0_4 l0_4.length c0_4) l0_4 from Kd.V_mono hs0_4 (fun k_ hk => .inl hk))
 have HB := Aside0.mk (Below.refl w.heap.size w)
 have H : ((storagebarterref29_Next.f k a0_0 a0_1 a0_2 a0_3 l0_4 a0_5 a0_6 a0_7 a0_8 a0_9 a0_10 a0_11 a0_12 a0_13).bind fun bt229 => (if bt229.2.2.2.2 = true then (if a1 < 0 then (storagebarterref29_Step.j0 k a1 true a0_0 a0_1 a0_2 a0_3 l0_4 a0_5 a0_6 a0_7 a0_8 a0_9 a0_10 a0_11 a0_12 a0_13 bt229.1 bt229.2.1 bt229.2.2.1 bt229.2.2.2.1) else (storagebarterref29_Step.j0 k a1 (decide (a1 > 3)) a0_0 a0_1 a0_2 a0_3 l0_4 a0_5 a0_6 a0_7 a0_8 a0_9 a0_10 a0_11 a0_12 a0_13 bt229.1 bt229.2.1 bt229.2.2.1 bt229.2.2.2.1)) else (some (a0_0, a0_1, a0_2, a0_3, l0_4, a0_5, a0_6, a0_7, a0_8, a0_9, a0_10, a0_11, a0_12, a0_13, 5)))) = some (r1, r2, r3, r4, r5, r6, r7, r8, r9, r10, r11, r12, r13, r14, r15) := h
 clear h
 replace H := Option.bind_eq_some_iff.mp H
 obtain ⟨⟨t229, t230, t231, t232, t233⟩, A30, H⟩ := H
 replace H : (if t233 = true then (if a1 < 0 then (storagebarterref29_Step.j0 k a1 true a0_0 a0_1 a0_2 a0_3 l0_4 a0_5 a0_6 a0_7 a0_8 a0_9 a0_10 a0_11 a0_12 a0_13 t229 t230 t231 t232) else (storagebarterref29_Step.j0 k a1 (decide (a1 > 3)) a0_0 a0_1 a0_2 a0_3 l0_4 a0_5 a0_6 a0_7 a0_8 a0_9 a0_10 a0_11 a0_12 a0_13 t229 t230 t231 t232)) else (some (a0_0, a0_1, a0_2, a0_3, l0_4, a0_5, a0_6, a0_7, a0_8, a0_9, a0_10, a0_11, a0_12, a0_13, 5))) = some (r1, r2, r3, r4, r5, r6, r7, r8, r9, r10, r11, r12, r13, r14, r15) := H
 have HE5 := Aside0.mk (hE _ A30)
 clear hE
 dsimp only at HE5
 have A3 := Aside0.mk A30
 clear A30
 by_cases c4 : t233 = true
 case neg =>
  replace c4 := Bool.eq_false_iff.mpr c4
  subst c4
  have H1 : (some (a0_0, a0_1, a0_2, a0_3, l0_4, a0_5, a0_6, a0_7, a0_8, a0_9, a0_10, a0_11, a0_12, a0_13, 5)) = some (r1, r2, r3, r4, r5, r6, r7, r8, r9, r10, r11, r12, r13, r14, r15) := by rw [if_neg (show ¬ (false = true) by decide)] at H; exact H
  clear H
  have H := H1
  clear H1
  simp only [Option.some.injEq, Prod.mk.injEq] at H
  obtain ⟨rfl, rfl, rfl, rfl, rfl, rfl, rfl, rfl, rfl, rfl, rfl, rfl, rfl, rfl, rfl⟩ := H
  go_enter Tryd.func38, Tryd.ntmps38
  go_wp2_with (first | ((with_reducible refine gate_dst (N := 2) rfl ?_); refine box_event ?hg (N := 2) ?hd (cs := #[.int .i64 a0_0, .int .i64 a0_1, .int .i64 a0_2, .int .i64 a0_3, .slice A0_4 l0_4.length c0_4, .int .i64 a0_5, .int .i64 a0_6, .int .i64 a0_7, .bool a0_8, .bool a0_9, .bool a0_10, .bool a0_11, .bool a0_12, .int .i64 a0_13]) (t := 54) ?hr ?_; (case hd => rfl); (case hg => rfl); (case hr => first | (go_simp; done) | (go_simp; rfl)); intro gb227 hg w153 hbox hb; have n0_ := Aside0.mk (Kd.V_below (Kd.V_elderB (vU38 HO0_4.out) gb227 (Nat.le_of_eq hg.symm)) hb); have n1_ := Aside0.mk (below_step (hU38 HB.out) hb); have n2_ := Aside0.mk (hbox); have n3_ := Aside0.mk ((by rw [hg]; exact (below_size (hU38 HB.out)) : w.heap.size ≤ gb227)); have n4_ := Aside0.mk ((by rw [hg]; exact (below_size (hU38 HB.out)) : w.heap.size ≤ gb227)); clear HO0_4; clear HB; have HO0_4 := n0_; have HB := n1_; have BK227 := n2_; have GW227 := n3_; have GE227 := n4_; clear n0_ n1_ n2_ n3_ n4_; clear hb hbox hg) | ((with_reducible refine gate_dst (N := 4) rfl ?_); refine box_event ?hg (N := 4) ?hd (cs := #[.int .i64 0, .int .i64 0, .int .i64 0, .int .i64 0, .slice none 0 0, .int .i64 0, .int .i64 0, .int .i64 0, .bool false, .bool false, .bool false, .bool false, .bool false, .int .i64 0]) (t := 54) ?hr ?_; (case hd => rfl); (case hg => rfl); (case hr => first | (go_simp; done) | (go_simp; rfl)); intro gb228 hg w154 hbox hb; have n0_ := Aside0.mk (Kd.V_below (Kd.V_elderB (vU38 HO0_4.out) gb228 (Nat.le_of_eq hg.symm)) hb); have n1_ := Aside0.mk (blk_below (g := gb227) (bU38 BK227.out) hb); have n2_ := Aside0.mk (below_step (by repeat (first | (with_reducible first | exact HB.out | apply below_alloc | apply pw_below_drewN | apply below_drew1 | refine below_set ?_ GE227.out) | exact HB.out)) hb); have n3_ := Aside0.mk (hbox); have n4_ := Aside0.mk ((by rw [hg]; exact (below_size (by repeat (first | (with_reducible first | exact HB.out | apply below_alloc | apply pw_below_drewN | apply below_drew1 | refine below_set ?_ GE227.out) | exact HB.out))) : w.heap.size ≤ gb228)); have n5_ := Aside0.mk ((by rw [hg]; exact (below_size (by repeat (first | (with_reducible first | exact HB.out | apply below_alloc | apply pw_below_drewN | apply below_drew1 | refine below_set ?_ GE227.out) | exact HB.out))) : w.heap.size ≤ gb228)); have n6_ := Aside0.mk ((by rw [hg]; exact Nat.ne_of_lt (blk_lt (g := gb227) (o := .cells #[.int .i64 a0_0, .int .i64 a0_1, .int .i64 a0_2, .int .i64 a0_3, .slice A0_4 l0_4.length c0_4, .int .i64 a0_5, .int .i64 a0_6, .int .i64 a0_7, .bool a0_8, .bool a0_9, .bool a0_10, .bool a0_11, .bool a0_12, .int .i64 a0_13] 54 (0, 0)) (bU38 BK227.out)) : gb227 ≠ gb228)); have n7_ := Aside0.mk ((by rw [hg]; exact Nat.ne_of_gt (blk_lt (g := gb227) (o := .cells #[.int .i64 a0_0, .int .i64 a0_1, .int .i64 a0_2, .int .i64 a0_3, .slice A0_4 l0_4.length c0_4, .int .i64 a0_5, .int .i64 a0_6, .int .i64 a0_7, .bool a0_8, .bool a0_9, .bool a0_10, .bool a0_11, .bool a0_12, .int .i64 a0_13] 54 (0, 0)) (bU38 BK227.out)) : gb228 ≠ gb227)); clear HO0_4; clear BK227; clear HB; have HO0_4 := n0_; have BK227 := n1_; have HB := n2_; have BK228 := n3_; have GW228 := n4_; have GE228 := n5_; have NB227_228 := n6_; have NB228_227 := n7_; clear n0_ n1_ n2_ n3_ n4_ n5_ n6_ n7_; clear hb hbox hg; have hnb155 := NB227_228.out; have hnc155 := NB228_227.out; have hcz156 := cz14 BK227.out; have hfz156 := blk_frozen BK227.out) | ((with_reducible refine gate_callee (f := 72) rfl ?_); refine goesL_ (some 12) rfl rfl Tryd.func72 (by kernel_rfl) rfl #[.agg #[.int .i64 a0_0, .int .i64 a0_1, .int .i64 a0_2, .int .i64 a0_3, .slice A0_4 l0_4.length c0_4, .int .i64 a0_5, .int .i64 a0_6, .int .i64 a0_7, .bool a0_8, .bool a0_9, .bool a0_10, .bool a0_11, .bool a0_12, .int .i64 a0_13]] rfl (by (try simp only [List.map_toArray, List.map_cons, List.map_nil]); first | done | rfl | (simp only [List.length_drop, List.length_take]; rfl)) ?_; (with_reducible refine (storagebarterref29_Next.calls k a0_0 a0_1 a0_2 a0_3 _ _ l0_4 a0_5 a0_6 a0_7 a0_8 a0_9 a0_10 a0_11 a0_12 a0_13 t229 t230 t231 t232 false _ ?side1 ?side2 A3.out).mono ?_); (case side1 => first | exact (Kd.V_reads' HO0_4.out).2.2 | exact cU38 (Kd.V_reads' HO0_4.out).2.2); (case side2 => exact (Kd.V_reads' HO0_4.out).2.1); rintro e w157 ⟨rfl, hb⟩; refine ⟨_, rfl, ?_⟩; have n0_ := Aside0.mk (Kd.V_below (vU38 HO0_4.out) hb); have n1_ := Aside0.mk (blk_below (g := gb227) (bU38 BK227.out) hb); have n2_ := Aside0.mk (blk_below (g := gb228) (bU38 BK228.out) hb); have n3_ := Aside0.mk (below_step (by repeat (first | (with_reducible first | exact HB.out | apply below_alloc | apply pw_below_drewN | apply below_drew1 | refine below_set ?_ (Aside0.out (by assumption))) | exact HB.out)) hb); clear HO0_4; clear BK227; clear BK228; clear HB; have HO0_4 := n0_; have BK227 := n1_; have BK228 := n2_; have HB := n3_; clear n0_ n1_ n2_ n3_; (try clear hb); (try clear hb2); (try clear hk); (try clear hi); (try clear hgw)) | ((with_reducible refine gate_dst (N := 6) rfl ?_); refine box_event ?hg (N := 6) ?hd (cs := #[.int .i64 0, .int .i64 0, .int .i64 0, .int .i64 0]) (t := 36) ?hr ?_; (case hd => rfl); (case hg => rfl); (case hr => first | (go_simp; done) | (go_simp; rfl)); intro gb234 hg w158 hbox hb; have n0_ := Aside0.mk (Kd.V_below (Kd.V_elderB (vU38 HO0_4.out) gb234 (Nat.le_of_eq hg.symm)) hb); have n1_ := Aside0.mk (blk_below (g := gb227) (bU38 BK227.out) hb); have n2_ := Aside0.mk (blk_below (g := gb228) (bU38 BK228.out) hb); have n3_ := Aside0.mk (below_step (by repeat (first | (with_reducible first | exact HB.out | apply below_alloc | apply pw_below_drewN | apply below_drew1 | refine below_set ?_ (Aside0.out (by assumption))) | exact HB.out)) hb); have n4_ := Aside0.mk (hbox); have n5_ := Aside0.mk ((by rw [hg]; exact (below_size (by repeat (first | (with_reducible first | exact HB.out | apply below_alloc | apply pw_below_drewN | apply below_drew1 | refine below_set ?_ (Aside0.out (by assumption))) | exact HB.out))) : w.heap.size ≤ gb234)); have n6_ := Aside0.mk ((by rw [hg]; exact (below_size (by repeat (first | (with_reducible first | exact HB.out | apply below_alloc | apply pw_below_drewN | apply below_drew1 | refine below_set ?_ (Aside0.out (by assumption))) | exact HB.out))) : w.heap.size ≤ gb234)); have n7_ := Aside0.mk ((by rw [hg]; exact Nat.ne_of_lt (blk_lt (g := gb227) (o := .cells #[.int .i64 a0_0, .int .i64 a0_1, .int .i64 a0_2, .int .i64 a0_3, .slice A0_4 l0_4.length c0_4, .int .i64 a0_5, .int .i64 a0_6, .int .i64 a0_7, .bool a0_8, .bool a0_9, .bool a0_10, .bool a0_11, .bool a0_12, .int .i64 a0_13] 54 (0, 0)) (bU38 BK227.out)) : gb227 ≠ gb234)); have n8_ := Aside0.mk ((by rw [hg]; exact Nat.ne_of_gt (blk_lt (g := gb227) (o := .cells #[.int .i64 a0_0, .int .i64 a0_1, .int .i64 a0_2, .int .i64 a0_3, .slice A0_4 l0_4.length c0_4, .int .i64 a0_5, .int .i64 a0_6, .int .i64 a0_7, .bool a0_8, .bool a0_9, .bool a0_10, .bool a0_11, .bool a0_12, .int .i64 a0_13] 54 (0, 0)) (bU38 BK227.out)) : gb234 ≠ gb227)); have n9_ := Aside0.mk ((by rw [hg]; exact Nat.ne_of_lt (blk_lt (g := gb228) (o := .cells #[.int .i64 0, .int .i64 0, .int .i64 0, .int .i64 0, .slice none 0 0, .int .i64 0, .int .i64 0, .int .i64 0, .bool false, .bool false, .bool false, .bool false, .bool false, .int .i64 0] 54 (0, 0)) (bU38 BK228.out)) : gb228 ≠ gb234)); have n10_ := Aside0.mk ((by rw [hg]; exact Nat.ne_of_gt (blk_lt (g := gb228) (o := .cells #[.int .i64 0, .int .i64 0, .int .i64 0, .int .i64 0, .slice none 0 0, .int .i64 0, .int .i64 0, .int .i64 0, .bool false, .bool false, .bool false, .bool false, .bool false, .int .i64 0] 54 (0, 0)) (bU38 BK228.out)) : gb234 ≠ gb228)); clear HO0_4; clear BK227; clear BK228; clear HB; have HO0_4 := n0_; have BK227 := n1_; have BK228 := n2_; have HB := n3_; have BK234 := n4_; have GW234 := n5_; have GE234 := n6_; have NB227_234 := n7_; have NB234_227 := n8_; have NB228_234 := n9_; have NB234_228 := n10_; clear n0_ n1_ n2_ n3_ n4_ n5_ n6_ n7_ n8_ n9_ n10_; clear hb hbox hg; have hnb159 := NB234_227.out; have hnc159 := NB227_234.out; have hnb160 := NB234_228.out; have hnc160 := NB228_234.out; have hcz161 := cz4 BK234.out; have hfz161 := blk_frozen BK234.out; have hcz162 := cz14 BK227.out; have hfz162 := blk_frozen BK227.out; have hcz163 := cz14 BK228.out; have hfz163 := blk_frozen BK228.out))
  refine bodyPost_ret (results_ct rfl _ _ gb228 54 #[.int .i64 a0_0, .int .i64 a0_1, .int .i64 a0_2, .int .i64 a0_3, .slice A0_4 l0_4.length c0_4, .int .i64 a0_5, .int .i64 a0_6, .int .i64 a0_7, .bool a0_8, .bool a0_9, .bool a0_10, .bool a0_11, .bool a0_12, .int .i64 a0_13] (0, 0) _ rfl (by (with_reducible repeat (first | refine blk_drewN ?_ _ | refine blk_drew ?_ | refine blk_alloc ?_ _)); first | exact blk_all14 (blk_far (blk_far (blk_far (blk_far (blk_drewN BK228.out nd) NB228_234.out _) NB228_234.out _) NB228_234.out _) NB228_234.out _) _ _ _ _ _ _ _ _ _ _ _ _ _ _ | exact blk_all14 (blk_far (blk_far (blk_far (blk_far BK228.out NB228_234.out _) NB228_234.out _) NB228_234.out _) NB228_234.out _) _ _ _ _ _ _ _ _ _ _ _ _ _ _ | exact blk_all14 (blk_far (blk_far (blk_far (blk_far (blk_up BK228.out) NB228_234.out _) NB228_234.out _) NB228_234.out _) NB228_234.out _) _ _ _ _ _ _ _ _ _ _ _ _ _ _) Tryd.underlying54 rfl (by kernel_rfl)) rfl ?_
  exact ⟨_, by first | rfl | (simp [errW_none, errW_some] <;> rfl) | (simp [*, errW_none, errW_some] <;> rfl), by (with_reducible repeat (first | apply Kd.V_alloc | apply Kd.V_drewN | apply Kd.V_drew)); exact Kd.V_mono (Kd.V_far (p := ⟨gb228, 13, none⟩) (Kd.V_far (p := ⟨gb228, 12, none⟩) (Kd.V_far (p := ⟨gb228, 11, none⟩) (Kd.V_far (p := ⟨gb228, 10, none⟩) (Kd.V_far (p := ⟨gb228, 9, none⟩) (Kd.V_far (p := ⟨gb228, 8, none⟩) (Kd.V_far (p := ⟨gb228, 7, none⟩) (Kd.V_far (p := ⟨gb228, 6, none⟩) (Kd.V_far (p := ⟨gb228, 5, none⟩) (Kd.V_far (p := ⟨gb228, 4, none⟩) (Kd.V_far (p := ⟨gb228, 3, none⟩) (Kd.V_far (p := ⟨gb228, 2, none⟩) (Kd.V_far (p := ⟨gb228, 1, none⟩) (Kd.V_far (p := ⟨gb228, 0, none⟩) (Kd.V_far (p := ⟨gb234, 3, none⟩) (Kd.V_far (p := ⟨gb234, 2, none⟩) (Kd.V_far (p := ⟨gb234, 1, none⟩) (Kd.V_far (p := ⟨gb234, 0, none⟩) (Kd.V_mono (Kd.V_mono HO0_4.out (fun k_ hk => (⟨hk, hk.2⟩ : _ ∧ k_ ≠ gb234))) (fun k_ hk => (⟨hk, hk.1.1.2⟩ : _ ∧ k_ ≠ gb228))) (fun _ hk => hk.1.2) (.int .i64 t229)) (fun _ hk => hk.1.2) (.int .i64 t230)) (fun _ hk => hk.1.2) (.int .i64 t231)) (fun _ hk => hk.1.2) (.int .i64 t232)) (fun _ hk => hk.2) (.int .i64 a0_0)) (fun _ hk => hk.2) (.int .i64 a0_1)) (fun _ hk => hk.2) (.int .i64 a0_2)) (fun _ hk => hk.2) (.int .i64 a0_3)) (fun _ hk => hk.2) (.slice A0_4 l0_4.length c0_4)) (fun _ hk => hk.2) (.int .i64 a0_5)) (fun _ hk => hk.2) (.int .i64 a0_6)) (fun _ hk => hk.2) (.int .i64 a0_7)) (fun _ hk => hk.2) (.bool a0_8)) (fun _ hk => hk.2) (.bool a0_9)) (fun _ hk => hk.2) (.bool a0_10)) (fun _ hk => hk.2) (.bool a0_11)) (fun _ hk => hk.2) (.bool a0_12)) (fun _ hk => hk.2) (.int .i64 a0_13)) (fun _ hk => hk.1.1.1.1.1), by repeat (first | (with_reducible first | exact HB.out | apply below_alloc | apply pw_below_drewN | apply below_drew1 | refine below_set ?_ (Aside0.out (by assumption))) | exact HB.out)⟩

 subst c4
 have H1 : (if a1 < 0 then (storagebarterref29_Step.j0 k a1 true a0_0 a0_1 a0_2 a0_3 l0_4 a0_5 a0_6 a0_7 a0_8 a0_9 a0_10 a0_11 a0_12 a0_13 t229 t230 t231 t232) else (storagebarterref29_Step.j0 k a1 (decide (a1 > 3)) a0_0 a0_1 a0_2 a0_3 l0_4 a0_5 a0_6 a0_7 a0_8 a0_9 a0_10 a0_11 a0_12 a0_13 t229 t230 t231 t232)) = some (r1, r2, r3, r4, r5, r6, r7, r8, r9, r10, r11, r12, r13, r14, r15) := by rw [if_pos rfl] at H; exact H
 clear H
 have H := H1
 clear H1
 have HC5 := Aside0.mk H
 clear H
 go_enter Tryd.func38, Tryd.ntmps38
 go_upto_region 4 with (first | ((with_reducible refine gate_dst (N := 2) rfl ?_); refine box_event ?hg (N := 2) ?hd (cs := #[.int .i64 a0_0, .int .i64 a0_1, .int .i64 a0_2, .int .i64 a0_3, .slice A0_4 l0_4.length c0_4, .int .i64 a0_5, .int .i64 a0_6, .int .i64 a0_7, .bool a0_8, .bool a0_9, .bool a0_10, .bool a0_11, .bool a0_12, .int .i64 a0_13]) (t := 54) ?hr ?_; (case hd => rfl); (case hg => rfl); (case hr => first | (go_simp; done) | (go_simp; rfl)); intro gb227 hg w6 hbox hb; have n0_ := Aside0.mk (Kd.V_below (Kd.V_elderB (vU38 HO0_4.out) gb227 (Nat.le_of_eq hg.symm)) hb); have n1_ := Aside0.mk (below_step (hU38 HB.out) hb); have n2_ := Aside0.mk (hbox); have n3_ := Aside0.mk ((by rw [hg]; exact (below_size (hU38 HB.out)) : w.heap.size ≤ gb227)); have n4_ := Aside0.mk ((by rw [hg]; exact (below_size (hU38 HB.out)) : w.heap.size ≤ gb227)); clear HO0_4; clear HB; have HO0_4 := n0_; have HB := n1_; have BK227 := n2_; have GW227 := n3_; have GE227 := n4_; clear n0_ n1_ n2_ n3_ n4_; clear hb hbox hg) | ((with_reducible refine gate_dst (N := 4) rfl ?_); refine box_event ?hg (N := 4) ?hd (cs := #[.int .i64 0, .int .i64 0, .int .i64 0, .int .i64 0, .slice none 0 0, .int .i64 0, .int .i64 0, .int .i64 0, .bool false, .bool false, .bool false, .bool false, .bool false, .int .i64 0]) (t := 54) ?hr ?_; (case hd => rfl); (case hg => rfl); (case hr => first | (go_simp; done) | (go_simp; rfl)); intro gb228 hg w7 hbox hb; have n0_ := Aside0.mk (Kd.V_below (Kd.V_elderB (vU38 HO0_4.out) gb228 (Nat.le_of_eq hg.symm)) hb); have n1_ := Aside0.mk (blk_below (g := gb227) (bU38 BK227.out) hb); have n2_ := Aside0.mk (below_step (by repeat (first | (with_reducible first | exact HB.out | apply below_alloc | apply pw_below_drewN | apply below_drew1 | refine below_set ?_ GE227.out) | exact HB.out)) hb); have n3_ := Aside0.mk (hbox); have n4_ := Aside0.mk ((by rw [hg]; exact (below_size (by repeat (first | (with_reducible first | exact HB.out | apply below_alloc | apply pw_below_drewN | apply below_drew1 | refine below_set ?_ GE227.out) | exact HB.out))) : w.heap.size ≤ gb228)); have n5_ := Aside0.mk ((by rw [hg]; exact (below_size (by repeat (first | (with_reducible first | exact HB.out | apply below_alloc | apply pw_below_drewN | apply below_drew1 | refine below_set ?_ GE227.out) | exact HB.out))) : w.heap.size ≤ gb228)); have n6_ := Aside0.mk ((by rw [hg]; exact Nat.ne_of_lt (blk_lt (g := gb227) (o := .cells #[.int .i64 a0_0, .int .i64 a0_1, .int .i64 a0_2, .int .i64 a0_3, .slice A0_4 l0_4.length c0_4, .int .i64 a0_5, .int .i64 a0_6, .int .i64 a0_7, .bool a0_8, .bool a0_9, .bool a0_10, .bool a0_11, .bool a0_12, .int .i64 a0_13] 54 (0, 0)) (bU38 BK227.out)) : gb227 ≠ gb228)); have n7_ := Aside0.mk ((by rw [hg]; exact Nat.ne_of_gt (blk_lt (g := gb227) (o := .cells #[.int .i64 a0_0, .int .i64 a0_1, .int .i64 a0_2, .int .i64 a0_3, .slice A0_4 l0_4.length c0_4, .int .i64 a0_5, .int .i64 a0_6, .int .i64 a0_7, .bool a0_8, .bool a0_9, .bool a0_10, .bool a0_11, .bool a0_12, .int .i64 a0_13] 54 (0, 0)) (bU38 BK227.out)) : gb228 ≠ gb227)); clear HO0_4; clear BK227; clear HB; have HO0_4 := n0_; have BK227 := n1_; have HB := n2_; have BK228 := n3_; have GW228 := n4_; have GE228 := n5_; have NB227_228 := n6_; have NB228_227 := n7_; clear n0_ n1_ n2_ n3_ n4_ n5_ n6_ n7_; clear hb hbox hg; have hnb8 := NB227_228.out; have hnc8 := NB228_227.out; have hcz9 := cz14 BK227.out; have hfz9 := blk_frozen BK227.out) | ((with_reducible refine gate_callee (f := 72) rfl ?_); refine goesL_ (some 12) rfl rfl Tryd.func72 (by kernel_rfl) rfl #[.agg #[.int .i64 a0_0, .int .i64 a0_1, .int .i64 a0_2, .int .i64 a0_3, .slice A0_4 l0_4.length c0_4, .int .i64 a0_5, .int .i64 a0_6, .int .i64 a0_7, .bool a0_8, .bool a0_9, .bool a0_10, .bool a0_11, .bool a0_12, .int .i64 a0_13]] rfl (by (try simp only [List.map_toArray, List.map_cons, List.map_nil]); first | done | rfl | (simp only [List.length_drop, List.length_take]; rfl)) ?_; (with_reducible refine (storagebarterref29_Next.calls k a0_0 a0_1 a0_2 a0_3 _ _ l0_4 a0_5 a0_6 a0_7 a0_8 a0_9 a0_10 a0_11 a0_12 a0_13 t229 t230 t231 t232 true _ ?side1 ?side2 A3.out).mono ?_); (case side1 => first | exact (Kd.V_reads' HO0_4.out).2.2 | exact cU38 (Kd.V_reads' HO0_4.out).2.2); (case side2 => exact (Kd.V_reads' HO0_4.out).2.1); rintro e w10 ⟨rfl, hb⟩; refine ⟨_, rfl, ?_⟩; have n0_ := Aside0.mk (Kd.V_below (vU38 HO0_4.out) hb); have n1_ := Aside0.mk (blk_below (g := gb227) (bU38 BK227.out) hb); have n2_ := Aside0.mk (blk_below (g := gb228) (bU38 BK228.out) hb); have n3_ := Aside0.mk (below_step (by repeat (first | (with_reducible first | exact HB.out | apply below_alloc | apply pw_below_drewN | apply below_drew1 | refine below_set ?_ (Aside0.out (by assumption))) | exact HB.out)) hb); clear HO0_4; clear BK227; clear BK228; clear HB; have HO0_4 := n0_; have BK227 := n1_; have BK228 := n2_; have HB := n3_; clear n0_ n1_ n2_ n3_; (try clear hb); (try clear hb2); (try clear hk); (try clear hi); (try clear hgw)) | ((with_reducible refine gate_dst (N := 6) rfl ?_); refine box_event ?hg (N := 6) ?hd (cs := #[.int .i64 0, .int .i64 0, .int .i64 0, .int .i64 0]) (t := 36) ?hr ?_; (case hd => rfl); (case hg => rfl); (case hr => first | (go_simp; done) | (go_simp; rfl)); intro gb234 hg w11 hbox hb; have n0_ := Aside0.mk (Kd.V_below (Kd.V_elderB (vU38 HO0_4.out) gb234 (Nat.le_of_eq hg.symm)) hb); have n1_ := Aside0.mk (blk_below (g := gb227) (bU38 BK227.out) hb); have n2_ := Aside0.mk (blk_below (g := gb228) (bU38 BK228.out) hb); have n3_ := Aside0.mk (below_step (by repeat (first | (with_reducible first | exact HB.out | apply below_alloc | apply pw_below_drewN | apply below_drew1 | refine below_set ?_ (Aside0.out (by assumption))) | exact HB.out)) hb); have n4_ := Aside0.mk (hbox); have n5_ := Aside0.mk ((by rw [hg]; exact (below_size (by repeat (first | (with_reducible first | exact HB.out | apply below_alloc | apply pw_below_drewN | apply below_drew1 | refine below_set ?_ (Aside0.out (by assumption))) | exact HB.out))) : w.heap.size ≤ gb234)); have n6_ := Aside0.mk ((by rw [hg]; exact (below_size (by repeat (first | (with_reducible first | exact HB.out | apply below_alloc | apply pw_below_drewN | apply below_drew1 | refine below_set ?_ (Aside0.out (by assumption))) | exact HB.out))) : w.heap.size ≤ gb234)); have n7_ := Aside0.mk ((by rw [hg]; exact Nat.ne_of_lt (blk_lt (g := gb227) (o := .cells #[.int .i64 a0_0, .int .i64 a0_1, .int .i64 a0_2, .int .i64 a0_3, .slice A0_4 l0_4.length c0_4, .int .i64 a0_5, .int .i64 a0_6, .int .i64 a0_7, .bool a0_8, .bool a0_9, .bool a0_10, .bool a0_11, .bool a0_12, .int .i64 a0_13] 54 (0, 0)) (bU38 BK227.out)) : gb227 ≠ gb234)); have n8_ := Aside0.mk ((by rw [hg]; exact Nat.ne_of_gt (blk_lt (g := gb227) (o := .cells #[.int .i64 a0_0, .int .i64 a0_1, .int .i64 a0_2, .int .i64 a0_3, .slice A0_4 l0_4.length c0_4, .int .i64 a0_5, .int .i64 a0_6, .int .i64 a0_7, .bool a0_8, .bool a0_9, .bool a0_10, .bool a0_11, .bool a0_12, .int .i64 a0_13] 54 (0, 0)) (bU38 BK227.out)) : gb234 ≠ gb227)); have n9_ := Aside0.mk ((by rw [hg]; exact Nat.ne_of_lt (blk_lt (g := gb228) (o := .cells #[.int .i64 0, .int .i64 0, .int .i64 0, .int .i64 0, .slice none 0 0, .int .i64 0, .int .i64 0, .int .i64 0, .bool false, .bool false, .bool false, .bool false, .bool false, .int .i64 0] 54 (0, 0)) (bU38 BK228.out)) : gb228 ≠ gb234)); have n10_ := Aside0.mk ((by rw [hg]; exact Nat.ne_of_gt (blk_lt (g := gb228) (o := .cells #[.int .i64 0, .int .i64 0, .int .i64 0, .int .i64 0, .slice none 0 0, .int .i64 0, .int .i64 0, .int .i64 0, .bool false, .bool false, .bool false, .bool false, .bool false, .int .i64 0] 54 (0, 0)) (bU38 BK228.out)) : gb234 ≠ gb228)); clear HO0_4; clear BK227; clear BK228; clear HB; have HO0_4 := n0_; have BK227 := n1_; have BK228 := n2_; have HB := n3_; have BK234 := n4_; have GW234 := n5_; have GE234 := n6_; have NB227_234 := n7_; have NB234_227 := n8_; have NB228_234 := n9_; have NB234_228 := n10_; clear n0_ n1_ n2_ n3_ n4_ n5_ n6_ n7_ n8_ n9_ n10_; clear hb hbox hg; have hnb12 := NB234_227.out; have hnc12 := NB227_234.out; have hnb13 := NB234_228.out; have hnc13 := NB228_234.out; have hcz14 := cz4 BK234.out; have hfz14 := blk_frozen BK234.out))
 (try simp only [Act.put, List.setIfInBounds_toArray, List.set_cons_zero, List.set_cons_succ])
 go_cut [23] (fun v23 wc => ∃ (kq : Nat) (x23_4 : Bool), v23 = .bool x23_4 ∧ Aside0 (storagebarterref29_Step.j0 kq a1 x23_4 a0_0 a0_1 a0_2 a0_3 l0_4 a0_5 a0_6 a0_7 a0_8 a0_9 a0_10 a0_11 a0_12 a0_13 t229 t230 t231 t232 = some (r1, r2, r3, r4, r5, r6, r7, r8, r9, r10, r11, r12, r13, r14, r15)) ∧ Aside0 (kq ≤ k) ∧ Aside0 (Kd.V (Kd.int .i64) 3 wc w.heap.size (fun k_ => (P0_4_ k_ ∨ w.heap.size ≤ k_) ∧ k_ ≠ gb227 ∧ k_ ≠ gb228 ∧ k_ ≠ gb234) (.slice A0_4 l0_4.length c0_4) l0_4) ∧ Aside0 (wc.heap[gb227]? = some (.cells #[.int .i64 a0_0, .int .i64 a0_1, .int .i64 a0_2, .int .i64 a0_3, (.slice A0_4 l0_4.length c0_4), .int .i64 a0_5, .int .i64 a0_6, .int .i64 a0_7, .bool a0_8, .bool a0_9, .bool a0_10, .bool a0_11, .bool a0_12, .int .i64 a0_13] 54 (0, 0))) ∧ Aside0 (wc.heap[gb228]? = some (.cells #[.int .i64 0, .int .i64 0, .int .i64 0, .int .i64 0, (.slice none 0 0), .int .i64 0, .int .i64 0, .int .i64 0, .bool false, .bool false, .bool false, .bool false, .bool false, .int .i64 0] 54 (0, 0))) ∧ Aside0 (wc.heap[gb234]? = some (.cells #[.int .i64 t229, .int .i64 t230, .int .i64 t231, .int .i64 t232] 36 (0, 0))) ∧ Aside0 (Below w.heap.size w wc))
 case first =>
  have H := HC5.out
  clear HC5
  by_cases c15 : a1 < 0
  case neg =>
   rw [if_neg c15] at H
   have c15b0 : decide (a1 < 0) = false := decide_eq_false c15
   clear c15
   (first | rw [c15b0] | (simp only [i64_w, i32_w]; rw [c15b0]) | skip)
   have H' := Aside0.mk H
   clear H
   go_wp2
   go_meet
   case rel => exact ⟨_, (decide (a1 > 3)), (by first | rfl | (simp; done) | (simp [*]; done)), H', ⟨by first | omega | exact Nat.le_refl _⟩, ⟨by (with_reducible repeat (first | apply Kd.V_alloc | apply Kd.V_drewN | apply Kd.V_drew)); exact Kd.V_mono (Kd.V_far (p := ⟨gb234, 3, none⟩) (Kd.V_far (p := ⟨gb234, 2, none⟩) (Kd.V_far (p := ⟨gb234, 1, none⟩) (Kd.V_far (p := ⟨gb234, 0, none⟩) (Kd.V_mono HO0_4.out (fun k_ hk => (⟨hk, hk.2⟩ : _ ∧ k_ ≠ gb234))) (fun _ hk => hk.2) (.int .i64 t229)) (fun _ hk => hk.2) (.int .i64 t230)) (fun _ hk => hk.2) (.int .i64 t231)) (fun _ hk => hk.2) (.int .i64 t232)) (fun _ hk => ⟨hk.1.1.1.1, ⟨hk.1.1.1.2, ⟨hk.1.1.2, hk.1.2⟩⟩⟩)⟩, ⟨by (with_reducible repeat (first | refine blk_drewN ?_ _ | refine blk_drew ?_ | refine blk_alloc ?_ _)); refine blk_far ?_ NB227_234.out _; (with_reducible repeat (first | refine blk_drewN ?_ _ | refine blk_drew ?_ | refine blk_alloc ?_ _)); refine blk_far ?_ NB227_234.out _; (with_reducible repeat (first | refine blk_drewN ?_ _ | refine blk_drew ?_ | refine blk_alloc ?_ _)); refine blk_far ?_ NB227_234.out _; (with_reducible repeat (first | refine blk_drewN ?_ _ | refine blk_drew ?_ | refine blk_alloc ?_ _)); refine blk_far ?_ NB227_234.out _; (with_reducible repeat (first | refine blk_drewN ?_ _ | refine blk_drew ?_ | refine blk_alloc ?_ _)); exact BK227.out⟩, ⟨by (with_reducible repeat (first | refine blk_drewN ?_ _ | refine blk_drew ?_ | refine blk_alloc ?_ _)); refine blk_far ?_ NB228_234.out _; (with_reducible repeat (first | refine blk_drewN ?_ _ | refine blk_drew ?_ | refine blk_alloc ?_ _)); refine blk_far ?_ NB228_234.out _; (with_reducible repeat (first | refine blk_drewN ?_ _ | refine blk_drew ?_ | refine blk_alloc ?_ _)); refine blk_far ?_ NB228_234.out _; (with_reducible repeat (first | refine blk_drewN ?_ _ | refine blk_drew ?_ | refine blk_alloc ?_ _)); refine blk_far ?_ NB228_234.out _; (with_reducible repeat (first | refine blk_drewN ?_ _ | refine blk_drew ?_ | refine blk_alloc ?_ _)); exact BK228.out⟩, ⟨by (with_reducible repeat (first | refine blk_drewN ?_ _ | refine blk_drew ?_ | refine blk_alloc ?_ _)); refine blk_put (cs := #[.int .i64 t229, .int .i64 t230, .int .i64 t231, .int .i64 0]) ?_ 3 _ rfl; (with_reducible repeat (first | refine blk_drewN ?_ _ | refine blk_drew ?_ | refine blk_alloc ?_ _)); refine blk_put (cs := #[.int .i64 t229, .int .i64 t230, .int .i64 0, .int .i64 0]) ?_ 2 _ rfl; (with_reducible repeat (first | refine blk_drewN ?_ _ | refine blk_drew ?_ | refine blk_alloc ?_ _)); refine blk_put (cs := #[.int .i64 t229, .int .i64 0, .int .i64 0, .int .i64 0]) ?_ 1 _ rfl; (with_reducible repeat (first | refine blk_drewN ?_ _ | refine blk_drew ?_ | refine blk_alloc ?_ _)); refine blk_put (cs := #[.int .i64 0, .int .i64 0, .int .i64 0, .int .i64 0]) ?_ 0 _ rfl; exact bU38 BK234.out⟩, ⟨by repeat (first | (with_reducible first | exact HB.out | apply below_alloc | apply pw_below_drewN | apply below_drew1 | refine below_set ?_ (Aside0.out (by assumption))) | exact HB.out)⟩⟩
  rw [if_pos c15] at H
  have c15b0 : decide (a1 < 0) = true := decide_eq_true c15
  clear c15
  (first | rw [c15b0] | (simp only [i64_w, i32_w]; rw [c15b0]) | skip)
  have H' := Aside0.mk H
  clear H
  go_wp2
  go_meet
  case rel => exact ⟨_, (true), (by first | rfl | (simp; done) | (simp [*]; done)), H', ⟨by first | omega | exact Nat.le_refl _⟩, ⟨by (with_reducible repeat (first | apply Kd.V_alloc | apply Kd.V_drewN | apply Kd.V_drew)); exact Kd.V_mono (Kd.V_far (p := ⟨gb234, 3, none⟩) (Kd.V_far (p := ⟨gb234, 2, none⟩) (Kd.V_far (p := ⟨gb234, 1, none⟩) (Kd.V_far (p := ⟨gb234, 0, none⟩) (Kd.V_mono HO0_4.out (fun k_ hk => (⟨hk, hk.2⟩ : _ ∧ k_ ≠ gb234))) (fun _ hk => hk.2) (.int .i64 t229)) (fun _ hk => hk.2) (.int .i64 t230)) (fun _ hk => hk.2) (.int .i64 t231)) (fun _ hk => hk.2) (.int .i64 t232)) (fun _ hk => ⟨hk.1.1.1.1, ⟨hk.1.1.1.2, ⟨hk.1.1.2, hk.1.2⟩⟩⟩)⟩, ⟨by (with_reducible repeat (first | refine blk_drewN ?_ _ | refine blk_drew ?_ | refine blk_alloc ?_ _)); refine blk_far ?_ NB227_234.out _; (with_reducible repeat (first | refine blk_drewN ?_ _ | refine blk_drew ?_ | refine blk_alloc ?_ _)); refine blk_far ?_ NB227_234.out _; (with_reducible repeat (first | refine blk_drewN ?_ _ | refine blk_drew ?_ | refine blk_alloc ?_ _)); refine blk_far ?_ NB227_234.out _; (with_reducible repeat (first | refine blk_drewN ?_ _ | refine blk_drew ?_ | refine blk_alloc ?_ _)); refine blk_far ?_ NB227_234.out _; (with_reducible repeat (first | refine blk_drewN ?_ _ | refine blk_drew ?_ | refine blk_alloc ?_ _)); exact BK227.out⟩, ⟨by (with_reducible repeat (first | refine blk_drewN ?_ _ | refine blk_drew ?_ | refine blk_alloc ?_ _)); refine blk_far ?_ NB228_234.out _; (with_reducible repeat (first | refine blk_drewN ?_ _ | refine blk_drew ?_ | refine blk_alloc ?_ _)); refine blk_far ?_ NB228_234.out _; (with_reducible repeat (first | refine blk_drewN ?_ _ | refine blk_drew ?_ | refine blk_alloc ?_ _)); refine blk_far ?_ NB228_234.out _; (with_reducible repeat (first | refine blk_drewN ?_ _ | refine blk_drew ?_ | refine blk_alloc ?_ _)); refine blk_far ?_ NB228_234.out _; (with_reducible repeat (first | refine blk_drewN ?_ _ | refine blk_drew ?_ | refine blk_alloc ?_ _)); exact BK228.out⟩, ⟨by (with_reducible repeat (first | refine blk_drewN ?_ _ | refine blk_drew ?_ | refine blk_alloc ?_ _)); refine blk_put (cs := #[.int .i64 t229, .int .i64 t230, .int .i64 t231, .int .i64 0]) ?_ 3 _ rfl; (with_reducible repeat (first | refine blk_drewN ?_ _ | refine blk_drew ?_ | refine blk_alloc ?_ _)); refine blk_put (cs := #[.int .i64 t229, .int .i64 t230, .int .i64 0, .int .i64 0]) ?_ 2 _ rfl; (with_reducible repeat (first | refine blk_drewN ?_ _ | refine blk_drew ?_ | refine blk_alloc ?_ _)); refine blk_put (cs := #[.int .i64 t229, .int .i64 0, .int .i64 0, .int .i64 0]) ?_ 1 _ rfl; (with_reducible repeat (first | refine blk_drewN ?_ _ | refine blk_drew ?_ | refine blk_alloc ?_ _)); refine blk_put (cs := #[.int .i64 0, .int .i64 0, .int .i64 0, .int .i64 0]) ?_ 0 _ rfl; exact bU38 BK234.out⟩, ⟨by repeat (first | (with_reducible first | exact HB.out | apply below_alloc | apply pw_below_drewN | apply below_drew1 | refine below_set ?_ (Aside0.out (by assumption))) | exact HB.out)⟩⟩
 case rest =>
  clear HC5
  try clear c1
  try clear p2
  try clear c3
  try clear c4
  try clear c7
  try clear c8
  try clear c12
  try clear c13
  try clear c15
  try clear c15b0
  try clear hcz14
  try clear hcz9
  try clear hfz14
  try clear hfz9
  obtain ⟨kq, x23_4, rfl, HA, HJ4, ba0, BK227, BK228, BK234, HB⟩ := hcut
  cases kq with
  | zero => exact absurd HA.out (by simp [storagebarterref29_Step.j0])
  | succ kj4 =>
   have H := HA.out
   clear HA
   simp only [storagebarterref29_Step.j0] at H
   by_cases c16 : x23_4 = true
   case pos =>
    subst c16
    have H1 : (some (a0_0, a0_1, a0_2, a0_3, l0_4, a0_5, a0_6, a0_7, a0_8, a0_9, a0_10, a0_11, a0_12, a0_13, 21)) = some (r1, r2, r3, r4, r5, r6, r7, r8, r9, r10, r11, r12, r13, r14, r15) := by rw [if_pos rfl] at H; exact H
    clear H
    have H := H1
    clear H1
    simp only [Option.some.injEq, Prod.mk.injEq] at H
    obtain ⟨rfl, rfl, rfl, rfl, rfl, rfl, rfl, rfl, rfl, rfl, rfl, rfl, rfl, rfl, rfl⟩ := H
    have hnb17 := NB227_228.out
    have hnc17 := NB228_227.out
    have hnb18 := NB227_234.out
    have hnc18 := NB234_227.out
    have hcz19 := cz14 BK227.out
    have hfz19 := blk_frozen BK227.out
    have hnb20 := NB228_234.out
    have hnc20 := NB234_228.out
    have hcz21 := cz14 BK228.out
    have hfz21 := blk_frozen BK228.out
    go_wp2
    refine bodyPost_ret (results_ct rfl _ _ gb228 54 #[.int .i64 a0_0, .int .i64 a0_1, .int .i64 a0_2, .int .i64 a0_3, .slice A0_4 l0_4.length c0_4, .int .i64 a0_5, .int .i64 a0_6, .int .i64 a0_7, .bool a0_8, .bool a0_9, .bool a0_10, .bool a0_11, .bool a0_12, .int .i64 a0_13] (0, 0) _ rfl (by (with_reducible repeat (first | refine blk_drewN ?_ _ | refine blk_drew ?_ | refine blk_alloc ?_ _)); first | exact blk_all14 (blk_drewN BK228.out nd) _ _ _ _ _ _ _ _ _ _ _ _ _ _ | exact blk_all14 BK228.out _ _ _ _ _ _ _ _ _ _ _ _ _ _ | exact blk_all14 (bU38 BK228.out) _ _ _ _ _ _ _ _ _ _ _ _ _ _ | exact blk_all14 (blk_up BK228.out) _ _ _ _ _ _ _ _ _ _ _ _ _ _) Tryd.underlying54 rfl (by kernel_rfl)) rfl ?_
    exact ⟨_, by first | rfl | (simp [errW_none, errW_some] <;> rfl) | (simp [*, errW_none, errW_some] <;> rfl), by (with_reducible repeat (first | apply Kd.V_alloc | apply Kd.V_drewN | apply Kd.V_drew)); exact Kd.V_mono (Kd.V_far (p := ⟨gb228, 13, none⟩) (Kd.V_far (p := ⟨gb228, 12, none⟩) (Kd.V_far (p := ⟨gb228, 11, none⟩) (Kd.V_far (p := ⟨gb228, 10, none⟩) (Kd.V_far (p := ⟨gb228, 9, none⟩) (Kd.V_far (p := ⟨gb228, 8, none⟩) (Kd.V_far (p := ⟨gb228, 7, none⟩) (Kd.V_far (p := ⟨gb228, 6, none⟩) (Kd.V_far (p := ⟨gb228, 5, none⟩) (Kd.V_far (p := ⟨gb228, 4, none⟩) (Kd.V_far (p := ⟨gb228, 3, none⟩) (Kd.V_far (p := ⟨gb228, 2, none⟩) (Kd.V_far (p := ⟨gb228, 1, none⟩) (Kd.V_far (p := ⟨gb228, 0, none⟩) (Kd.V_mono ba0.out (fun k_ hk => (⟨hk, hk.2.2.1⟩ : _ ∧ k_ ≠ gb228))) (fun _ hk => hk.2) (.int .i64 a0_0)) (fun _ hk => hk.2) (.int .i64 a0_1)) (fun _ hk => hk.2) (.int .i64 a0_2)) (fun _ hk => hk.2) (.int .i64 a0_3)) (fun _ hk => hk.2) (.slice A0_4 l0_4.length c0_4)) (fun _ hk => hk.2) (.int .i64 a0_5)) (fun _ hk => hk.2) (.int .i64 a0_6)) (fun _ hk => hk.2) (.int .i64 a0_7)) (fun _ hk => hk.2) (.bool a0_8)) (fun _ hk => hk.2) (.bool a0_9)) (fun _ hk => hk.2) (.bool a0_10)) (fun _ hk => hk.2) (.bool a0_11)) (fun _ hk => hk.2) (.bool a0_12)) (fun _ hk => hk.2) (.int .i64 a0_13)) (fun _ hk => hk.1.1), by repeat (first | (with_reducible first | exact HB.out | apply below_alloc | apply pw_below_drewN | apply below_drew1 | refine below_set ?_ (Aside0.out (by assumption))) | exact HB.out)⟩
   replace c16 := Bool.eq_false_iff.mpr c16
   subst c16
   have H1 : (if a0_12 = true then (some (a0_0, a0_1, a0_2, a0_3, l0_4, wrap64 (a0_5 + 1), a0_6, a0_7, a0_8, a0_9, a0_10, a0_11, a0_12, a0_13, 0)) else ((storagebarterref29_Side.f a0_0 a0_1 a0_2 a0_3 l0_4 t231).bind fun t235 => (if a1 = 0 then (storagebarterref29_Step.j1 kj4 a1 t235 true a0_0 a0_1 a0_2 a0_3 l0_4 (wrap64 (a0_5 + 1)) a0_6 a0_7 a0_8 a0_9 a0_10 a0_11 a0_12 a0_13 t229 t230 t231 t232) else (storagebarterref29_Step.j1 kj4 a1 t235 (a1 == 2) a0_0 a0_1 a0_2 a0_3 l0_4 (wrap64 (a0_5 + 1)) a0_6 a0_7 a0_8 a0_9 a0_10 a0_11 a0_12 a0_13 t229 t230 t231 t232)))) = some (r1, r2, r3, r4, r5, r6, r7, r8, r9, r10, r11, r12, r13, r14, r15) := by rw [if_neg (show ¬ (false = true) by decide)] at H; exact H
   clear H
   have H := H1
   clear H1
   by_cases c22 : a0_12 = true
   case pos =>
    subst c22
    have H1 : (some (a0_0, a0_1, a0_2, a0_3, l0_4, wrap64 (a0_5 + 1), a0_6, a0_7, a0_8, a0_9, a0_10, a0_11, true, a0_13, 0)) = some (r1, r2, r3, r4, r5, r6, r7, r8, r9, r10, r11, r12, r13, r14, r15) := by rw [if_pos rfl] at H; exact H
    clear H
    have H := H1
    clear H1
    simp only [Option.some.injEq, Prod.mk.injEq] at H
    obtain ⟨rfl, rfl, rfl, rfl, rfl, rfl, rfl, rfl, rfl, rfl, rfl, rfl, rfl, rfl, rfl⟩ := H
    have hnb23 := NB227_228.out
    have hnc23 := NB228_227.out
    have hnb24 := NB227_234.out
    have hnc24 := NB234_227.out
    have hcz25 := cz14 BK227.out
    have hfz25 := blk_frozen BK227.out
    have hnb26 := NB228_234.out
    have hnc26 := NB234_228.out
    have hcz27 := cz14 BK228.out
    have hfz27 := blk_frozen BK228.out
    go_wp2
    refine bodyPost_ret (results_ct rfl _ _ gb228 54 #[.int .i64 a0_0, .int .i64 a0_1, .int .i64 a0_2, .int .i64 a0_3, .slice A0_4 l0_4.length c0_4, .int .i64 (wrap64 (a0_5 + 1)), .int .i64 a0_6, .int .i64 a0_7, .bool a0_8, .bool a0_9, .bool a0_10, .bool a0_11, .bool true, .int .i64 a0_13] (0, 0) _ rfl (by (with_reducible repeat (first | refine blk_drewN ?_ _ | refine blk_drew ?_ | refine blk_alloc ?_ _)); first | exact blk_all14 (blk_far (blk_drewN BK228.out nd) NB228_227.out _) _ _ _ _ _ _ _ _ _ _ _ _ _ _ | exact blk_all14 (blk_far BK228.out NB228_227.out _) _ _ _ _ _ _ _ _ _ _ _ _ _ _ | exact blk_all14 (blk_far (bU38 BK228.out) NB228_227.out _) _ _ _ _ _ _ _ _ _ _ _ _ _ _ | exact blk_all14 (blk_far (blk_up BK228.out) NB228_227.out _) _ _ _ _ _ _ _ _ _ _ _ _ _ _) Tryd.underlying54 rfl (by kernel_rfl)) rfl ?_
    exact ⟨_, by first | rfl | (simp [errW_none, errW_some] <;> rfl) | (simp [*, errW_none, errW_some] <;> rfl), by (with_reducible repeat (first | apply Kd.V_alloc | apply Kd.V_drewN | apply Kd.V_drew)); exact Kd.V_mono (Kd.V_far (p := ⟨gb228, 13, none⟩) (Kd.V_far (p := ⟨gb228, 12, none⟩) (Kd.V_far (p := ⟨gb228, 11, none⟩) (Kd.V_far (p := ⟨gb228, 10, none⟩) (Kd.V_far (p := ⟨gb228, 9, none⟩) (Kd.V_far (p := ⟨gb228, 8, none⟩) (Kd.V_far (p := ⟨gb228, 7, none⟩) (Kd.V_far (p := ⟨gb228, 6, none⟩) (Kd.V_far (p := ⟨gb228, 5, none⟩) (Kd.V_far (p := ⟨gb228, 4, none⟩) (Kd.V_far (p := ⟨gb228, 3, none⟩) (Kd.V_far (p := ⟨gb228, 2, none⟩) (Kd.V_far (p := ⟨gb228, 1, none⟩) (Kd.V_far (p := ⟨gb228, 0, none⟩) (Kd.V_far (p := ⟨gb227, 5, none⟩) (Kd.V_mono (Kd.V_mono ba0.out (fun k_ hk => (⟨hk, hk.2.1⟩ : _ ∧ k_ ≠ gb227))) (fun k_ hk => (⟨hk, hk.1.2.2.1⟩ : _ ∧ k_ ≠ gb228))) (fun _ hk => hk.1.2) (.int .i64 (wrap64 (a0_5 + 1)))) (fun _ hk => hk.2) (.int .i64 a0_0)) (fun _ hk => hk.2) (.int .i64 a0_1)) (fun _ hk => hk.2) (.int .i64 a0_2)) (fun _ hk => hk.2) (.int .i64 a0_3)) (fun _ hk => hk.2) (.slice A0_4 l0_4.length c0_4)) (fun _ hk => hk.2) (.int .i64 (wrap64 (a0_5 + 1)))) (fun _ hk => hk.2) (.int .i64 a0_6)) (fun _ hk => hk.2) (.int .i64 a0_7)) (fun _ hk => hk.2) (.bool a0_8)) (fun _ hk => hk.2) (.bool a0_9)) (fun _ hk => hk.2) (.bool a0_10)) (fun _ hk => hk.2) (.bool a0_11)) (fun _ hk => hk.2) (.bool true)) (fun _ hk => hk.2) (.int .i64 a0_13)) (fun _ hk => hk.1.1.1), by repeat (first | (with_reducible first | exact HB.out | apply below_alloc | apply pw_below_drewN | apply below_drew1 | refine below_set ?_ (Aside0.out (by assumption))) | exact HB.out)⟩
   replace c22 := Bool.eq_false_iff.mpr c22
   subst c22
   have H1 : ((storagebarterref29_Side.f a0_0 a0_1 a0_2 a0_3 l0_4 t231).bind fun t235 => (if a1 = 0 then (storagebarterref29_Step.j1 kj4 a1 t235 true a0_0 a0_1 a0_2 a0_3 l0_4 (wrap64 (a0_5 + 1)) a0_6 a0_7 a0_8 a0_9 a0_10 a0_11 false a0_13 t229 t230 t231 t232) else (storagebarterref29_Step.j1 kj4 a1 t235 (a1 == 2) a0_0 a0_1 a0_2 a0_3 l0_4 (wrap64 (a0_5 + 1)) a0_6 a0_7 a0_8 a0_9 a0_10 a0_11 false a0_13 t229 t230 t231 t232))) = some (r1, r2, r3, r4, r5, r6, r7, r8, r9, r10, r11, r12, r13, r14, r15) := by rw [if_neg (show ¬ (false = true) by decide)] at H; exact H
   clear H
   have H := H1
   clear H1
   replace H := Option.bind_eq_some_iff.mp H
   obtain ⟨t235, A280, H⟩ := H
   replace H : (if a1 = 0 then (storagebarterref29_Step.j1 kj4 a1 t235 true a0_0 a0_1 a0_2 a0_3 l0_4 (wrap64 (a0_5 + 1)) a0_6 a0_7 a0_8 a0_9 a0_10 a0_11 false a0_13 t229 t230 t231 t232) else (storagebarterref29_Step.j1 kj4 a1 t235 (a1 == 2) a0_0 a0_1 a0_2 a0_3 l0_4 (wrap64 (a0_5 + 1)) a0_6 a0_7 a0_8 a0_9 a0_10 a0_11 false a0_13 t229 t230 t231 t232)) = some (r1, r2, r3, r4, r5, r6, r7, r8, r9, r10, r11, r12, r13, r14, r15) := H
   have A28 := Aside0.mk A280
   clear A280
   have HC29 := Aside0.mk H
   clear H
   have hnb30 := NB227_228.out
   have hnc30 := NB228_227.out
   have hnb31 := NB227_234.out
   have hnc31 := NB234_227.out
   have hcz32 := cz14 BK227.out
   have hfz32 := blk_frozen BK227.out
   have hnb33 := NB234_228.out
   have hnc33 := NB228_234.out
   have hcz34 := cz4 BK234.out
   have hfz34 := blk_frozen BK234.out
   go_upto_region 10 with (first | ((with_reducible refine gate_callee (f := 46) rfl ?_); refine goesL_ (some 36) rfl rfl Tryd.func46 (by kernel_rfl) rfl #[.agg #[.int .i64 a0_0, .int .i64 a0_1, .int .i64 a0_2, .int .i64 a0_3, .slice A0_4 l0_4.length c0_4], .int .i64 t231] rfl (by (try simp only [List.map_toArray, List.map_cons, List.map_nil]); first | done | rfl | (simp only [List.length_drop, List.length_take]; rfl)) ?_; (with_reducible refine (storagebarterref29_Side.calls a0_0 a0_1 a0_2 a0_3 _ _ l0_4 t231 t235 _ ?side1 ?side2 A28.out).mono ?_); (case side1 => refine (Kd.V_reads' (e := 3) (base := w.heap.size) (ok := fun k_ => ((P0_4_ k_ ∨ w.heap.size ≤ k_) ∧ (k_ ≠ gb227 ∧ (k_ ≠ gb228 ∧ k_ ≠ gb234)))) (n := l0_4.length) (c := c0_4) ?_).2.2; exact (vU38 ((Kd.V_mono (Kd.V_far (p := ⟨gb227, 5, none⟩) (Kd.V_mono ba0.out (fun k_ hk => (⟨hk, hk.2.1⟩ : _ ∧ k_ ≠ gb227))) (fun _ hk => hk.2) (.int .i64 (wrap64 (a0_5 + 1)))) (fun _ h_ => h_.1))))); (case side2 => exact (Kd.V_reads' ba0.out).2.1); rintro e w35 ⟨rfl, hb⟩; refine ⟨_, rfl, ?_⟩; have n0_ := Aside0.mk (Kd.V_below (vU38 ((Kd.V_mono (Kd.V_far (p := ⟨gb227, 5, none⟩) (Kd.V_mono ba0.out (fun k_ hk => (⟨hk, hk.2.1⟩ : _ ∧ k_ ≠ gb227))) (fun _ hk => hk.2) (.int .i64 (wrap64 (a0_5 + 1)))) (fun _ h_ => h_.1)))) hb); have n1_ := Aside0.mk (blk_below (g := gb227) (o := .cells #[.int .i64 a0_0, .int .i64 a0_1, .int .i64 a0_2, .int .i64 a0_3, .slice A0_4 l0_4.length c0_4, .int .i64 (wrap64 (a0_5 + 1)), .int .i64 a0_6, .int .i64 a0_7, .bool a0_8, .bool a0_9, .bool a0_10, .bool a0_11, .bool false, .int .i64 a0_13] 54 (0, 0)) (by (with_reducible repeat (first | refine blk_drewN ?_ _ | refine blk_drew ?_ | refine blk_alloc ?_ _)); refine blk_put (cs := #[.int .i64 a0_0, .int .i64 a0_1, .int .i64 a0_2, .int .i64 a0_3, .slice A0_4 l0_4.length c0_4, .int .i64 a0_5, .int .i64 a0_6, .int .i64 a0_7, .bool a0_8, .bool a0_9, .bool a0_10, .bool a0_11, .bool false, .int .i64 a0_13]) ?_ 5 _ rfl; exact bU38 BK227.out) hb); have n2_ := Aside0.mk (blk_below (g := gb228) (o := .cells #[.int .i64 0, .int .i64 0, .int .i64 0, .int .i64 0, .slice none 0 0, .int .i64 0, .int .i64 0, .int .i64 0, .bool false, .bool false, .bool false, .bool false, .bool false, .int .i64 0] 54 (0, 0)) (by (with_reducible repeat (first | refine blk_drewN ?_ _ | refine blk_drew ?_ | refine blk_alloc ?_ _)); refine blk_far ?_ NB228_227.out _; exact bU38 BK228.out) hb); have n3_ := Aside0.mk (blk_below (g := gb234) (o := .cells #[.int .i64 t229, .int .i64 t230, .int .i64 t231, .int .i64 t232] 36 (0, 0)) (by (with_reducible repeat (first | refine blk_drewN ?_ _ | refine blk_drew ?_ | refine blk_alloc ?_ _)); refine blk_far ?_ NB234_227.out _; exact bU38 BK234.out) hb); have n4_ := Aside0.mk (below_step (by repeat (first | (with_reducible first | exact HB.out | apply below_alloc | apply pw_below_drewN | apply below_drew1 | refine below_set ?_ (Aside0.out (by assumption))) | exact HB.out)) hb); clear ba0; clear BK227; clear BK228; clear BK234; clear HB; have ba0 := n0_; have BK227 := n1_; have BK228 := n2_; have BK234 := n3_; have HB := n4_; clear n0_ n1_ n2_ n3_ n4_; (try clear hb); (try clear hb2); (try clear hk); (try clear hi); (try clear hgw)))
   (try simp only [Act.put, List.setIfInBounds_toArray, List.set_cons_zero, List.set_cons_succ])
   go_cut [9] (fun v9 wc => ∃ (kq : Nat) (x9_28 : Bool), v9 = .bool x9_28 ∧ Aside0 (storagebarterref29_Step.j1 kq a1 t235 x9_28 a0_0 a0_1 a0_2 a0_3 l0_4 (wrap64 (a0_5 + 1)) a0_6 a0_7 a0_8 a0_9 a0_10 a0_11 false a0_13 t229 t230 t231 t232 = some (r1, r2, r3, r4, r5, r6, r7, r8, r9, r10, r11, r12, r13, r14, r15)) ∧ Aside0 (kq ≤ kj4) ∧ Aside0 (Kd.V (Kd.int .i64) 3 wc w.heap.size (fun k_ => (P0_4_ k_ ∨ w.heap.size ≤ k_) ∧ k_ ≠ gb227 ∧ k_ ≠ gb228 ∧ k_ ≠ gb234) (.slice A0_4 l0_4.length c0_4) l0_4) ∧ Aside0 (wc.heap[gb227]? = some (.cells #[.int .i64 a0_0, .int .i64 a0_1, .int .i64 a0_2, .int .i64 a0_3, (.slice A0_4 l0_4.length c0_4), .int .i64 (wrap64 (a0_5 + 1)), .int .i64 a0_6, .int .i64 a0_7, .bool a0_8, .bool a0_9, .bool a0_10, .bool a0_11, .bool false, .int .i64 a0_13] 54 (0, 0))) ∧ Aside0 (wc.heap[gb228]? = some (.cells #[.int .i64 0, .int .i64 0, .int .i64 0, .int .i64 0, (.slice none 0 0), .int .i64 0, .int .i64 0, .int .i64 0, .bool false, .bool false, .bool false, .bool false, .bool false, .int .i64 0] 54 (0, 0))) ∧ Aside0 (wc.heap[gb234]? = some (.cells #[.int .i64 t229, .int .i64 t230, .int .i64 t231, .int .i64 t232] 36 (0, 0))) ∧ Aside0 (Below w.heap.size w wc))
   case first =>
    have H := HC29.out
    clear HC29
    by_cases c36 : a1 = 0
    case neg =>
     rw [if_neg c36] at H
     have c36b0 : (a1 == 0) = false := beq_eq_false_iff_ne.mpr c36
     have c36b1 : (a1 != 0) = true := bne_iff_ne.mpr c36
     (first | rw [c36b0] | (simp only [i64_w, i32_w]; rw [c36b0]) | skip)
     have H' := Aside0.mk H
     clear H
     go_wp2
     go_meet
     case rel => exact ⟨_, ((a1 == 2)), (by first | rfl | (simp; done) | (simp [*]; done)), H', ⟨by have := HJ4.out; first | omega | exact Nat.le_refl _⟩, ⟨by (with_reducible repeat (first | apply Kd.V_alloc | apply Kd.V_drewN | apply Kd.V_drew)); exact ba0.out⟩, ⟨by exact bU38 BK227.out⟩, ⟨by exact bU38 BK228.out⟩, ⟨by exact bU38 BK234.out⟩, ⟨by repeat (first | (with_reducible first | exact HB.out | apply below_alloc | apply pw_below_drewN | apply below_drew1 | refine below_set ?_ (Aside0.out (by assumption))) | exact HB.out)⟩⟩
    rw [if_pos c36] at H
    have c36b0 : (a1 == 0) = true := beq_iff_eq.mpr c36
    have c36b1 : (a1 != 0) = false := bne_eq_false_iff_eq.mpr c36
    clear c36
    (first | rw [c36b0] | (simp only [i64_w, i32_w]; rw [c36b0]) | skip)
    have H' := Aside0.mk H
    clear H
    go_wp2
    go_meet
    case rel => exact ⟨_, (true), (by first | rfl | (simp; done) | (simp [*]; done)), H', ⟨by have := HJ4.out; first | omega | exact Nat.le_refl _⟩, ⟨by (with_reducible repeat (first | apply Kd.V_alloc | apply Kd.V_drewN | apply Kd.V_drew)); exact ba0.out⟩, ⟨by exact bU38 BK227.out⟩, ⟨by exact bU38 BK228.out⟩, ⟨by exact bU38 BK234.out⟩, ⟨by repeat (first | (with_reducible first | exact HB.out | apply below_alloc | apply pw_below_drewN | apply below_drew1 | refine below_set ?_ (Aside0.out (by assumption))) | exact HB.out)⟩⟩
   case rest =>
    clear HC29
    try clear c1
    try clear c2
    try clear p2
    try clear c3
    try clear c4
    try clear p6
    try clear c7
    try clear c8
    try clear c12
    try clear c13
    try clear c15
    try clear c15b0
    try clear c16
    try clear c17
    try clear c18
    try clear c20
    try clear c22
    try clear c23
    try clear c24
    try clear c26
    try clear c30
    try clear c31
    try clear c33
    try clear c36
    try clear c36b0
    try clear c36b1
    try clear hcz14
    try clear hcz19
    try clear hcz21
    try clear hcz25
    try clear hcz27
    try clear hcz32
    try clear hcz34
    try clear hcz9
    try clear hfz14
    try clear hfz19
    try clear hfz21
    try clear hfz25
    try clear hfz27
    try clear hfz32
    try clear hfz34
    try clear hfz9
    try clear p2
    obtain ⟨kq, x9_28, rfl, HA, HJ28, ba0, BK227, BK228, BK234, HB⟩ := hcut
    cases kq with
    | zero => exact absurd HA.out (by simp [storagebarterref29_Step.j1])
    | succ kj28 =>
     have H := HA.out
     clear HA
     simp only [storagebarterref29_Step.j1] at H
     by_cases c37 : t232 = 5
     case pos =>
      rw [if_pos c37] at H
      have c37b0 : (t232 == 5) = true := beq_iff_eq.mpr c37
      have c37b1 : (t232 != 5) = false := bne_eq_false_iff_eq.mpr c37
      clear c37
      by_cases c38 : t235 = 0
      case pos =>
       subst c38
       have H1 : (if a0_8 = true then (if x9_28 = true then (some (a0_0, a0_1, a0_2, a0_3, l0_4, (wrap64 (a0_5 + 1)), wrap64 (a0_6 + 1), a0_7, x9_28, a0_9, a0_10, a0_11, false, a0_13, 0)) else (some (a0_0, a0_1, a0_2, a0_3, l0_4, (wrap64 (a0_5 + 1)), a0_6, a0_7, x9_28, a0_9, a0_10, a0_11, false, a0_13, 0))) else (some (a0_0, a0_1, a0_2, a0_3, l0_4, (wrap64 (a0_5 + 1)), a0_6, a0_7, false, a0_9, a0_10, a0_11, false, a0_13, 0))) = some (r1, r2, r3, r4, r5, r6, r7, r8, r9, r10, r11, r12, r13, r14, r15) := by rw [if_pos rfl] at H; exact H
       clear H
       have H := H1
       clear H1
       by_cases c39 : a0_8 = true
       case neg =>
        replace c39 := Bool.eq_false_iff.mpr c39
        subst c39
        have H1 : (some (a0_0, a0_1, a0_2, a0_3, l0_4, (wrap64 (a0_5 + 1)), a0_6, a0_7, false, a0_9, a0_10, a0_11, false, a0_13, 0)) = some (r1, r2, r3, r4, r5, r6, r7, r8, r9, r10, r11, r12, r13, r14, r15) := by rw [if_neg (show ¬ (false = true) by decide)] at H; exact H
        clear H
        have H := H1
        clear H1
        simp only [Option.some.injEq, Prod.mk.injEq] at H
        obtain ⟨rfl, rfl, rfl, rfl, rfl, rfl, rfl, rfl, rfl, rfl, rfl, rfl, rfl, rfl, rfl⟩ := H
        have hnb53 := NB234_227.out
        have hnc53 := NB227_234.out
        have hnb54 := NB234_228.out
        have hnc54 := NB228_234.out
        have hcz55 := cz4 BK234.out
        have hfz55 := blk_frozen BK234.out
        have hnb56 := NB227_228.out
        have hnc56 := NB228_227.out
        have hcz57 := cz14 BK227.out
        have hfz57 := blk_frozen BK227.out
        have hcz58 := cz14 BK228.out
        have hfz58 := blk_frozen BK228.out
        go_wp2
        refine bodyPost_ret (results_ct rfl _ _ gb228 54 #[.int .i64 a0_0, .int .i64 a0_1, .int .i64 a0_2, .int .i64 a0_3, .slice A0_4 l0_4.length c0_4, .int .i64 (wrap64 (a0_5 + 1)), .int .i64 a0_6, .int .i64 a0_7, .bool false, .bool a0_9, .bool a0_10, .bool a0_11, .bool false, .int .i64 a0_13] (0, 0) _ rfl (by (with_reducible repeat (first | refine blk_drewN ?_ _ | refine blk_drew ?_ | refine blk_alloc ?_ _)); first | exact blk_all14 (blk_far (blk_drewN BK228.out nd) NB228_227.out _) _ _ _ _ _ _ _ _ _ _ _ _ _ _ | exact blk_all14 (blk_far BK228.out NB228_227.out _) _ _ _ _ _ _ _ _ _ _ _ _ _ _ | exact blk_all14 (blk_far (bU38 BK228.out) NB228_227.out _) _ _ _ _ _ _ _ _ _ _ _ _ _ _ | exact blk_all14 (blk_far (blk_up BK228.out) NB228_227.out _) _ _ _ _ _ _ _ _ _ _ _ _ _ _) Tryd.underlying54 rfl (by kernel_rfl)) rfl ?_
        exact ⟨_, by first | rfl | (simp [errW_none, errW_some] <;> rfl) | (simp [*, errW_none, errW_some] <;> rfl), by (with_reducible repeat (first | apply Kd.V_alloc | apply Kd.V_drewN | apply Kd.V_drew)); exact Kd.V_mono (Kd.V_far (p := ⟨gb228, 13, none⟩) (Kd.V_far (p := ⟨gb228, 12, none⟩) (Kd.V_far (p := ⟨gb228, 11, none⟩) (Kd.V_far (p := ⟨gb228, 10, none⟩) (Kd.V_far (p := ⟨gb228, 9, none⟩) (Kd.V_far (p := ⟨gb228, 8, none⟩) (Kd.V_far (p := ⟨gb228, 7, none⟩) (Kd.V_far (p := ⟨gb228, 6, none⟩) (Kd.V_far (p := ⟨gb228, 5, none⟩) (Kd.V_far (p := ⟨gb228, 4, none⟩) (Kd.V_far (p := ⟨gb228, 3, none⟩) (Kd.V_far (p := ⟨gb228, 2, none⟩) (Kd.V_far (p := ⟨gb228, 1, none⟩) (Kd.V_far (p := ⟨gb228, 0, none⟩) (Kd.V_far (p := ⟨gb227, 8, none⟩) (Kd.V_mono (Kd.V_mono ba0.out (fun k_ hk => (⟨hk, hk.2.1⟩ : _ ∧ k_ ≠ gb227))) (fun k_ hk => (⟨hk, hk.1.2.2.1⟩ : _ ∧ k_ ≠ gb228))) (fun _ hk => hk.1.2) (.bool false)) (fun _ hk => hk.2) (.int .i64 a0_0)) (fun _ hk => hk.2) (.int .i64 a0_1)) (fun _ hk => hk.2) (.int .i64 a0_2)) (fun _ hk => hk.2) (.int .i64 a0_3)) (fun _ hk => hk.2) (.slice A0_4 l0_4.length c0_4)) (fun _ hk => hk.2) (.int .i64 (wrap64 (a0_5 + 1)))) (fun _ hk => hk.2) (.int .i64 a0_6)) (fun _ hk => hk.2) (.int .i64 a0_7)) (fun _ hk => hk.2) (.bool false)) (fun _ hk => hk.2) (.bool a0_9)) (fun _ hk => hk.2) (.bool a0_10)) (fun _ hk => hk.2) (.bool a0_11)) (fun _ hk => hk.2) (.bool false)) (fun _ hk => hk.2) (.int .i64 a0_13)) (fun _ hk => hk.1.1.1), by repeat (first | (with_reducible first | exact HB.out | apply below_alloc | apply pw_below_drewN | apply below_drew1 | refine below_set ?_ (Aside0.out (by assumption))) | exact HB.out)⟩
       subst c39
       have H1 : (if x9_28 = true then (some (a0_0, a0_1, a0_2, a0_3, l0_4, (wrap64 (a0_5 + 1)), wrap64 (a0_6 + 1), a0_7, x9_28, a0_9, a0_10, a0_11, false, a0_13, 0)) else (some (a0_0, a0_1, a0_2, a0_3, l0_4, (wrap64 (a0_5 + 1)), a0_6, a0_7, x9_28, a0_9, a0_10, a0_11, false, a0_13, 0))) = some (r1, r2, r3, r4, r5, r6, r7, r8, r9, r10, r11, r12, r13, r14, r15) := by rw [if_pos rfl] at H; exact H
       clear H
       have H := H1
       clear H1
       by_cases c40 : x9_28 = true
       case pos =>
        subst c40
        have H1 : (some (a0_0, a0_1, a0_2, a0_3, l0_4, (wrap64 (a0_5 + 1)), wrap64 (a0_6 + 1), a0_7, true, a0_9, a0_10, a0_11, false, a0_13, 0)) = some (r1, r2, r3, r4, r5, r6, r7, r8, r9, r10, r11, r12, r13, r14, r15) := by rw [if_pos rfl] at H; exact H
        clear H
        have H := H1
        clear H1
        simp only [Option.some.injEq, Prod.mk.injEq] at H
        obtain ⟨rfl, rfl, rfl, rfl, rfl, rfl, rfl, rfl, rfl, rfl, rfl, rfl, rfl, rfl, rfl⟩ := H
        have hnb41 := NB234_227.out
        have hnc41 := NB227_234.out
        have hnb42 := NB234_228.out
        have hnc42 := NB228_234.out
        have hcz43 := cz4 BK234.out
        have hfz43 := blk_frozen BK234.out
        have hnb44 := NB227_228.out
        have hnc44 := NB228_227.out
        have hcz45 := cz14 BK227.out
        have hfz45 := blk_frozen BK227.out
        have hcz46 := cz14 BK228.out
        have hfz46 := blk_frozen BK228.out
        go_wp2
        refine bodyPost_ret (results_ct rfl _ _ gb228 54 #[.int .i64 a0_0, .int .i64 a0_1, .int .i64 a0_2, .int .i64 a0_3, .slice A0_4 l0_4.length c0_4, .int .i64 (wrap64 (a0_5 + 1)), .int .i64 (wrap64 (a0_6 + 1)), .int .i64 a0_7, .bool true, .bool a0_9, .bool a0_10, .bool a0_11, .bool false, .int .i64 a0_13] (0, 0) _ rfl (by (with_reducible repeat (first | refine blk_drewN ?_ _ | refine blk_drew ?_ | refine blk_alloc ?_ _)); first | exact blk_all14 (blk_far (blk_far (blk_drewN BK228.out nd) NB228_227.out _) NB228_227.out _) _ _ _ _ _ _ _ _ _ _ _ _ _ _ | exact blk_all14 (blk_far (blk_far BK228.out NB228_227.out _) NB228_227.out _) _ _ _ _ _ _ _ _ _ _ _ _ _ _ | exact blk_all14 (blk_far (blk_far (bU38 BK228.out) NB228_227.out _) NB228_227.out _) _ _ _ _ _ _ _ _ _ _ _ _ _ _ | exact blk_all14 (blk_far (blk_far (blk_up BK228.out) NB228_227.out _) NB228_227.out _) _ _ _ _ _ _ _ _ _ _ _ _ _ _) Tryd.underlying54 rfl (by kernel_rfl)) rfl ?_
        exact ⟨_, by first | rfl | (simp [errW_none, errW_some] <;> rfl) | (simp [*, errW_none, errW_some] <;> rfl), by (with_reducible repeat (first | apply Kd.V_alloc | apply Kd.V_drewN | apply Kd.V_drew)); exact Kd.V_mono (Kd.V_far (p := ⟨gb228, 13, none⟩) (Kd.V_far (p := ⟨gb228, 12, none⟩) (Kd.V_far (p := ⟨gb228, 11, none⟩) (Kd.V_far (p := ⟨gb228, 10, none⟩) (Kd.V_far (p := ⟨gb228, 9, none⟩) (Kd.V_far (p := ⟨gb228, 8, none⟩) (Kd.V_far (p := ⟨gb228, 7, none⟩) (Kd.V_far (p := ⟨gb228, 6, none⟩) (Kd.V_far (p := ⟨gb228, 5, none⟩) (Kd.V_far (p := ⟨gb228, 4, none⟩) (Kd.V_far (p := ⟨gb228, 3, none⟩) (Kd.V_far (p := ⟨gb228, 2, none⟩) (Kd.V_far (p := ⟨gb228, 1, none⟩) (Kd.V_far (p := ⟨gb228, 0, none⟩) (Kd.V_far (p := ⟨gb227, 8, none⟩) (Kd.V_far (p := ⟨gb227, 6, none⟩) (Kd.V_mono (Kd.V_mono ba0.out (fun k_ hk => (⟨hk, hk.2.1⟩ : _ ∧ k_ ≠ gb227))) (fun k_ hk => (⟨hk, hk.1.2.2.1⟩ : _ ∧ k_ ≠ gb228))) (fun _ hk => hk.1.2) (.int .i64 (wrap64 (a0_6 + 1)))) (fun _ hk => hk.1.2) (.bool true)) (fun _ hk => hk.2) (.int .i64 a0_0)) (fun _ hk => hk.2) (.int .i64 a0_1)) (fun _ hk => hk.2) (.int .i64 a0_2)) (fun _ hk => hk.2) (.int .i64 a0_3)) (fun _ hk => hk.2) (.slice A0_4 l0_4.length c0_4)) (fun _ hk => hk.2) (.int .i64 (wrap64 (a0_5 + 1)))) (fun _ hk => hk.2) (.int .i64 (wrap64 (a0_6 + 1)))) (fun _ hk => hk.2) (.int .i64 a0_7)) (fun _ hk => hk.2) (.bool true)) (fun _ hk => hk.2) (.bool a0_9)) (fun _ hk => hk.2) (.bool a0_10)) (fun _ hk => hk.2) (.bool a0_11)) (fun _ hk => hk.2) (.bool false)) (fun _ hk => hk.2) (.int .i64 a0_13)) (fun _ hk => hk.1.1.1), by repeat (first | (with_reducible first | exact HB.out | apply below_alloc | apply pw_below_drewN | apply below_drew1 | refine below_set ?_ (Aside0.out (by assumption))) | exact HB.out)⟩
       replace c40 := Bool.eq_false_iff.mpr c40
       subst c40
       have H1 : (some (a0_0, a0_1, a0_2, a0_3, l0_4, (wrap64 (a0_5 + 1)), a0_6, a0_7, false, a0_9, a0_10, a0_11, false, a0_13, 0)) = some (r1, r2, r3, r4, r5, r6, r7, r8, r9, r10, r11, r12, r13, r14, r15) := by rw [if_neg (show ¬ (false = true) by decide)] at H; exact H
       clear H
       have H := H1
       clear H1
       simp only [Option.some.injEq, Prod.mk.injEq] at H
       obtain ⟨rfl, rfl, rfl, rfl, rfl, rfl, rfl, rfl, rfl, rfl, rfl, rfl, rfl, rfl, rfl⟩ := H
       have hnb47 := NB234_227.out
       have hnc47 := NB227_234.out
       have hnb48 := NB234_228.out
       have hnc48 := NB228_234.out
       have hcz49 := cz4 BK234.out
       have hfz49 := blk_frozen BK234.out
       have hnb50 := NB227_228.out
       have hnc50 := NB228_227.out
       have hcz51 := cz14 BK227.out
       have hfz51 := blk_frozen BK227.out
       have hcz52 := cz14 BK228.out
       have hfz52 := blk_frozen BK228.out
       go_wp2
       refine bodyPost_ret (results_ct rfl _ _ gb228 54 #[.int .i64 a0_0, .int .i64 a0_1, .int .i64 a0_2, .int .i64 a0_3, .slice A0_4 l0_4.length c0_4, .int .i64 (wrap64 (a0_5 + 1)), .int .i64 a0_6, .int .i64 a0_7, .bool false, .bool a0_9, .bool a0_10, .bool a0_11, .bool false, .int .i64 a0_13] (0, 0) _ rfl (by (with_reducible repeat (first | refine blk_drewN ?_ _ | refine blk_drew ?_ | refine blk_alloc ?_ _)); first | exact blk_all14 (blk_far (blk_drewN BK228.out nd) NB228_227.out _) _ _ _ _ _ _ _ _ _ _ _ _ _ _ | exact blk_all14 (blk_far BK228.out NB228_227.out _) _ _ _ _ _ _ _ _ _ _ _ _ _ _ | exact blk_all14 (blk_far (bU38 BK228.out) NB228_227.out _) _ _ _ _ _ _ _ _ _ _ _ _ _ _ | exact blk_all14 (blk_far (blk_up BK228.out) NB228_227.out _) _ _ _ _ _ _ _ _ _ _ _ _ _ _) Tryd.underlying54 rfl (by kernel_rfl)) rfl ?_
       exact ⟨_, by first | rfl | (simp [errW_none, errW_some] <;> rfl) | (simp [*, errW_none, errW_some] <;> rfl), by (with_reducible repeat (first | apply Kd.V_alloc | apply Kd.V_drewN | apply Kd.V_drew)); exact Kd.V_mono (Kd.V_far (p := ⟨gb228, 13, none⟩) (Kd.V_far (p := ⟨gb228, 12, none⟩) (Kd.V_far (p := ⟨gb228, 11, none⟩) (Kd.V_far (p := ⟨gb228, 10, none⟩) (Kd.V_far (p := ⟨gb228, 9, none⟩) (Kd.V_far (p := ⟨gb228, 8, none⟩) (Kd.V_far (p := ⟨gb228, 7, none⟩) (Kd.V_far (p := ⟨gb228, 6, none⟩) (Kd.V_far (p := ⟨gb228, 5, none⟩) (Kd.V_far (p := ⟨gb228, 4, none⟩) (Kd.V_far (p := ⟨gb228, 3, none⟩) (Kd.V_far (p := ⟨gb228, 2, none⟩) (Kd.V_far (p := ⟨gb228, 1, none⟩) (Kd.V_far (p := ⟨gb228, 0, none⟩) (Kd.V_far (p := ⟨gb227, 8, none⟩) (Kd.V_mono (Kd.V_mono ba0.out (fun k_ hk => (⟨hk, hk.2.1⟩ : _ ∧ k_ ≠ gb227))) (fun k_ hk => (⟨hk, hk.1.2.2.1⟩ : _ ∧ k_ ≠ gb228))) (fun _ hk => hk.1.2) (.bool false)) (fun _ hk => hk.2) (.int .i64 a0_0)) (fun _ hk => hk.2) (.int .i64 a0_1)) (fun _ hk => hk.2) (.int .i64 a0_2)) (fun _ hk => hk.2) (.int .i64 a0_3)) (fun _ hk => hk.2) (.slice A0_4 l0_4.length c0_4)) (fun _ hk => hk.2) (.int .i64 (wrap64 (a0_5 + 1)))) (fun _ hk => hk.2) (.int .i64 a0_6)) (fun _ hk => hk.2) (.int .i64 a0_7)) (fun _ hk => hk.2) (.bool false)) (fun _ hk => hk.2) (.bool a0_9)) (fun _ hk => hk.2) (.bool a0_10)) (fun _ hk => hk.2) (.bool a0_11)) (fun _ hk => hk.2) (.bool false)) (fun _ hk => hk.2) (.int .i64 a0_13)) (fun _ hk => hk.1.1.1), by repeat (first | (with_reducible first | exact HB.out | apply below_alloc | apply pw_below_drewN | apply below_drew1 | refine below_set ?_ (Aside0.out (by assumption))) | exact HB.out)⟩
      rw [if_neg c38] at H
      have c38b0 : (t235 == 0) = false := beq_eq_false_iff_ne.mpr c38
      have c38b1 : (t235 != 0) = true := bne_iff_ne.mpr c38
      by_cases c59 : t235 = 1
      case neg =>
       rw [if_neg c59] at H
       exact absurd H (by simp)
      subst c59
      have H1 : (if a0_9 = true then (if x9_28 = true then (some (a0_0, a0_1, a0_2, a0_3, l0_4, (wrap64 (a0_5 + 1)), a0_6, wrap64 (a0_7 + 1), a0_8, x9_28, a0_10, a0_11, false, a0_13, 0)) else (some (a0_0, a0_1, a0_2, a0_3, l0_4, (wrap64 (a0_5 + 1)), a0_6, a0_7, a0_8, x9_28, a0_10, a0_11, false, a0_13, 0))) else (some (a0_0, a0_1, a0_2, a0_3, l0_4, (wrap64 (a0_5 + 1)), a0_6, a0_7, a0_8, false, a0_10, a0_11, false, a0_13, 0))) = some (r1, r2, r3, r4, r5, r6, r7, r8, r9, r10, r11, r12, r13, r14, r15) := by rw [if_pos rfl] at H; exact H
      clear H
      have H := H1
      clear H1
      by_cases c60 : a0_9 = true
      case neg =>
       replace c60 := Bool.eq_false_iff.mpr c60
       subst c60
       have H1 : (some (a0_0, a0_1, a0_2, a0_3, l0_4, (wrap64 (a0_5 + 1)), a0_6, a0_7, a0_8, false, a0_10, a0_11, false, a0_13, 0)) = some (r1, r2, r3, r4, r5, r6, r7, r8, r9, r10, r11, r12, r13, r14, r15) := by rw [if_neg (show ¬ (false = true) by decide)] at H; exact H
       clear H
       have H := H1
       clear H1
       simp only [Option.some.injEq, Prod.mk.injEq] at H
       obtain ⟨rfl, rfl, rfl, rfl, rfl, rfl, rfl, rfl, rfl, rfl, rfl, rfl, rfl, rfl, rfl⟩ := H
       have hnb74 := NB234_227.out
       have hnc74 := NB227_234.out
       have hnb75 := NB234_228.out
       have hnc75 := NB228_234.out
       have hcz76 := cz4 BK234.out
       have hfz76 := blk_frozen BK234.out
       have hnb77 := NB227_228.out
       have hnc77 := NB228_227.out
       have hcz78 := cz14 BK227.out
       have hfz78 := blk_frozen BK227.out
       have hcz79 := cz14 BK228.out
       have hfz79 := blk_frozen BK228.out
       go_wp2
       refine bodyPost_ret (results_ct rfl _ _ gb228 54 #[.int .i64 a0_0, .int .i64 a0_1, .int .i64 a0_2, .int .i64 a0_3, .slice A0_4 l0_4.length c0_4, .int .i64 (wrap64 (a0_5 + 1)), .int .i64 a0_6, .int .i64 a0_7, .bool a0_8, .bool false, .bool a0_10, .bool a0_11, .bool false, .int .i64 a0_13] (0, 0) _ rfl (by (with_reducible repeat (first | refine blk_drewN ?_ _ | refine blk_drew ?_ | refine blk_alloc ?_ _)); first | exact blk_all14 (blk_far (blk_drewN BK228.out nd) NB228_227.out _) _ _ _ _ _ _ _ _ _ _ _ _ _ _ | exact blk_all14 (blk_far BK228.out NB228_227.out _) _ _ _ _ _ _ _ _ _ _ _ _ _ _ | exact blk_all14 (blk_far (bU38 BK228.out) NB228_227.out _) _ _ _ _ _ _ _ _ _ _ _ _ _ _ | exact blk_all14 (blk_far (blk_up BK228.out) NB228_227.out _) _ _ _ _ _ _ _ _ _ _ _ _ _ _) Tryd.underlying54 rfl (by kernel_rfl)) rfl ?_
       exact ⟨_, by first | rfl | (simp [errW_none, errW_some] <;> rfl) | (simp [*, errW_none, errW_some] <;> rfl), by (with_reducible repeat (first | apply Kd.V_alloc | apply Kd.V_drewN | apply Kd.V_drew)); exact Kd.V_mono (Kd.V_far (p := ⟨gb228, 13, none⟩) (Kd.V_far (p := ⟨gb228, 12, none⟩) (Kd.V_far (p := ⟨gb228, 11, none⟩) (Kd.V_far (p := ⟨gb228, 10, none⟩) (Kd.V_far (p := ⟨gb228, 9, none⟩) (Kd.V_far (p := ⟨gb228, 8, none⟩) (Kd.V_far (p := ⟨gb228, 7, none⟩) (Kd.V_far (p := ⟨gb228, 6, none⟩) (Kd.V_far (p := ⟨gb228, 5, none⟩) (Kd.V_far (p := ⟨gb228, 4, none⟩) (Kd.V_far (p := ⟨gb228, 3, none⟩) (Kd.V_far (p := ⟨gb228, 2, none⟩) (Kd.V_far (p := ⟨gb228, 1, none⟩) (Kd.V_far (p := ⟨gb228, 0, none⟩) (Kd.V_far (p := ⟨gb227, 9, none⟩) (Kd.V_mono (Kd.V_mono ba0.out (fun k_ hk => (⟨hk, hk.2.1⟩ : _ ∧ k_ ≠ gb227))) (fun k_ hk => (⟨hk, hk.1.2.2.1⟩ : _ ∧ k_ ≠ gb228))) (fun _ hk => hk.1.2) (.bool false)) (fun _ hk => hk.2) (.int .i64 a0_0)) (fun _ hk => hk.2) (.int .i64 a0_1)) (fun _ hk => hk.2) (.int .i64 a0_2)) (fun _ hk => hk.2) (.int .i64 a0_3)) (fun _ hk => hk.2) (.slice A0_4 l0_4.length c0_4)) (fun _ hk => hk.2) (.int .i64 (wrap64 (a0_5 + 1)))) (fun _ hk => hk.2) (.int .i64 a0_6)) (fun _ hk => hk.2) (.int .i64 a0_7)) (fun _ hk => hk.2) (.bool a0_8)) (fun _ hk => hk.2) (.bool false)) (fun _ hk => hk.2) (.bool a0_10)) (fun _ hk => hk.2) (.bool a0_11)) (fun _ hk => hk.2) (.bool false)) (fun _ hk => hk.2) (.int .i64 a0_13)) (fun _ hk => hk.1.1.1), by repeat (first | (with_reducible first | exact HB.out | apply below_alloc | apply pw_below_drewN | apply below_drew1 | refine below_set ?_ (Aside0.out (by assumption))) | exact HB.out)⟩
      subst c60
      have H1 : (if x9_28 = true then (some (a0_0, a0_1, a0_2, a0_3, l0_4, (wrap64 (a0_5 + 1)), a0_6, wrap64 (a0_7 + 1), a0_8, x9_28, a0_10, a0_11, false, a0_13, 0)) else (some (a0_0, a0_1, a0_2, a0_3, l0_4, (wrap64 (a0_5 + 1)), a0_6, a0_7, a0_8, x9_28, a0_10, a0_11, false, a0_13, 0))) = some (r1, r2, r3, r4, r5, r6, r7, r8, r9, r10, r11, r12, r13, r14, r15) := by rw [if_pos rfl] at H; exact H
      clear H
      have H := H1
      clear H1
      by_cases c61 : x9_28 = true
      case pos =>
       subst c61
       have H1 : (some (a0_0, a0_1, a0_2, a0_3, l0_4, (wrap64 (a0_5 + 1)), a0_6, wrap64 (a0_7 + 1), a0_8, true, a0_10, a0_11, false, a0_13, 0)) = some (r1, r2, r3, r4, r5, r6, r7, r8, r9, r10, r11, r12, r13, r14, r15) := by rw [if_pos rfl] at H; exact H
       clear H
       have H := H1
       clear H1
       simp only [Option.some.injEq, Prod.mk.injEq] at H
       obtain ⟨rfl, rfl, rfl, rfl, rfl, rfl, rfl, rfl, rfl, rfl, rfl, rfl, rfl, rfl, rfl⟩ := H
       have hnb62 := NB234_227.out
       have hnc62 := NB227_234.out
       have hnb63 := NB234_228.out
       have hnc63 := NB228_234.out
       have hcz64 := cz4 BK234.out
       have hfz64 := blk_frozen BK234.out
       have hnb65 := NB227_228.out
       have hnc65 := NB228_227.out
       have hcz66 := cz14 BK227.out
       have hfz66 := blk_frozen BK227.out
       have hcz67 := cz14 BK228.out
       have hfz67 := blk_frozen BK228.out
       go_wp2
       refine bodyPost_ret (results_ct rfl _ _ gb228 54 #[.int .i64 a0_0, .int .i64 a0_1, .int .i64 a0_2, .int .i64 a0_3, .slice A0_4 l0_4.length c0_4, .int .i64 (wrap64 (a0_5 + 1)), .int .i64 a0_6, .int .i64 (wrap64 (a0_7 + 1)), .bool a0_8, .bool true, .bool a0_10, .bool a0_11, .bool false, .int .i64 a0_13] (0, 0) _ rfl (by (with_reducible repeat (first | refine blk_drewN ?_ _ | refine blk_drew ?_ | refine blk_alloc ?_ _)); first | exact blk_all14 (blk_far (blk_far (blk_drewN BK228.out nd) NB228_227.out _) NB228_227.out _) _ _ _ _ _ _ _ _ _ _ _ _ _ _ | exact blk_all14 (blk_far (blk_far BK228.out NB228_227.out _) NB228_227.out _) _ _ _ _ _ _ _ _ _ _ _ _ _ _ | exact blk_all14 (blk_far (blk_far (bU38 BK228.out) NB228_227.out _) NB228_227.out _) _ _ _ _ _ _ _ _ _ _ _ _ _ _ | exact blk_all14 (blk_far (blk_far (blk_up BK228.out) NB228_227.out _) NB228_227.out _) _ _ _ _ _ _ _ _ _ _ _ _ _ _) Tryd.underlying54 rfl (by kernel_rfl)) rfl ?_
       exact ⟨_, by first | rfl | (simp [errW_none, errW_some] <;> rfl) | (simp [*, errW_none, errW_some] <;> rfl), by (with_reducible repeat (first | apply Kd.V_alloc | apply Kd.V_drewN | apply Kd.V_drew)); exact Kd.V_mono (Kd.V_far (p := ⟨gb228, 13, none⟩) (Kd.V_far (p := ⟨gb228, 12, none⟩) (Kd.V_far (p := ⟨gb228, 11, none⟩) (Kd.V_far (p := ⟨gb228, 10, none⟩) (Kd.V_far (p := ⟨gb228, 9, none⟩) (Kd.V_far (p := ⟨gb228, 8, none⟩) (Kd.V_far (p := ⟨gb228, 7, none⟩) (Kd.V_far (p := ⟨gb228, 6, none⟩) (Kd.V_far (p := ⟨gb228, 5, none⟩) (Kd.V_far (p := ⟨gb228, 4, none⟩) (Kd.V_far (p := ⟨gb228, 3, none⟩) (Kd.V_far (p := ⟨gb228, 2, none⟩) (Kd.V_far (p := ⟨gb228, 1, none⟩) (Kd.V_far (p := ⟨gb228, 0, none⟩) (Kd.V_far (p := ⟨gb227, 9, none⟩) (Kd.V_far (p := ⟨gb227, 7, none⟩) (Kd.V_mono (Kd.V_mono ba0.out (fun k_ hk => (⟨hk, hk.2.1⟩ : _ ∧ k_ ≠ gb227))) (fun k_ hk => (⟨hk, hk.1.2.2.1⟩ : _ ∧ k_ ≠ gb228))) (fun _ hk => hk.1.2) (.int .i64 (wrap64 (a0_7 + 1)))) (fun _ hk => hk.1.2) (.bool true)) (fun _ hk => hk.2) (.int .i64 a0_0)) (fun _ hk => hk.2) (.int .i64 a0_1)) (fun _ hk => hk.2) (.int .i64 a0_2)) (fun _ hk => hk.2) (.int .i64 a0_3)) (fun _ hk => hk.2) (.slice A0_4 l0_4.length c0_4)) (fun _ hk => hk.2) (.int .i64 (wrap64 (a0_5 + 1)))) (fun _ hk => hk.2) (.int .i64 a0_6)) (fun _ hk => hk.2) (.int .i64 (wrap64 (a0_7 + 1)))) (fun _ hk => hk.2) (.bool a0_8)) (fun _ hk => hk.2) (.bool true)) (fun _ hk => hk.2) (.bool a0_10)) (fun _ hk => hk.2) (.bool a0_11)) (fun _ hk => hk.2) (.bool false)) (fun _ hk => hk.2) (.int .i64 a0_13)) (fun _ hk => hk.1.1.1), by repeat (first | (with_reducible first | exact HB.out | apply below_alloc | apply pw_below_drewN | apply below_drew1 | refine below_set ?_ (Aside0.out (by assumption))) | exact HB.out)⟩
      replace c61 := Bool.eq_false_iff.mpr c61
      subst c61
      have H1 : (some (a0_0, a0_1, a0_2, a0_3, l0_4, (wrap64 (a0_5 + 1)), a0_6, a0_7, a0_8, false, a0_10, a0_11, false, a0_13, 0)) = some (r1, r2, r3, r4, r5, r6, r7, r8, r9, r10, r11, r12, r13, r14, r15) := by rw [if_neg (show ¬ (false = true) by decide)] at H; exact H
      clear H
      have H := H1
      clear H1
      simp only [Option.some.injEq, Prod.mk.injEq] at H
      obtain ⟨rfl, rfl, rfl, rfl, rfl, rfl, rfl, rfl, rfl, rfl, rfl, rfl, rfl, rfl, rfl⟩ := H
      have hnb68 := NB234_227.out
      have hnc68 := NB227_234.out
      have hnb69 := NB234_228.out
      have hnc69 := NB228_234.out
      have hcz70 := cz4 BK234.out
      have hfz70 := blk_frozen BK234.out
      have hnb71 := NB227_228.out
      have hnc71 := NB228_227.out
      have hcz72 := cz14 BK227.out
      have hfz72 := blk_frozen BK227.out
      have hcz73 := cz14 BK228.out
      have hfz73 := blk_frozen BK228.out
      go_wp2
      refine bodyPost_ret (results_ct rfl _ _ gb228 54 #[.int .i64 a0_0, .int .i64 a0_1, .int .i64 a0_2, .int .i64 a0_3, .slice A0_4 l0_4.length c0_4, .int .i64 (wrap64 (a0_5 + 1)), .int .i64 a0_6, .int .i64 a0_7, .bool a0_8, .bool false, .bool a0_10, .bool a0_11, .bool false, .int .i64 a0_13] (0, 0) _ rfl (by (with_reducible repeat (first | refine blk_drewN ?_ _ | refine blk_drew ?_ | refine blk_alloc ?_ _)); first | exact blk_all14 (blk_far (blk_drewN BK228.out nd) NB228_227.out _) _ _ _ _ _ _ _ _ _ _ _ _ _ _ | exact blk_all14 (blk_far BK228.out NB228_227.out _) _ _ _ _ _ _ _ _ _ _ _ _ _ _ | exact blk_all14 (blk_far (bU38 BK228.out) NB228_227.out _) _ _ _ _ _ _ _ _ _ _ _ _ _ _ | exact blk_all14 (blk_far (blk_up BK228.out) NB228_227.out _) _ _ _ _ _ _ _ _ _ _ _ _ _ _) Tryd.underlying54 rfl (by kernel_rfl)) rfl ?_
      exact ⟨_, by first | rfl | (simp [errW_none, errW_some] <;> rfl) | (simp [*, errW_none, errW_some] <;> rfl), by (with_reducible repeat (first | apply Kd.V_alloc | apply Kd.V_drewN | apply Kd.V_drew)); exact Kd.V_mono (Kd.V_far (p := ⟨gb228, 13, none⟩) (Kd.V_far (p := ⟨gb228, 12, none⟩) (Kd.V_far (p := ⟨gb228, 11, none⟩) (Kd.V_far (p := ⟨gb228, 10, none⟩) (Kd.V_far (p := ⟨gb228, 9, none⟩) (Kd.V_far (p := ⟨gb228, 8, none⟩) (Kd.V_far (p := ⟨gb228, 7, none⟩) (Kd.V_far (p := ⟨gb228, 6, none⟩) (Kd.V_far (p := ⟨gb228, 5, none⟩) (Kd.V_far (p := ⟨gb228, 4, none⟩) (Kd.V_far (p := ⟨gb228, 3, none⟩) (Kd.V_far (p := ⟨gb228, 2, none⟩) (Kd.V_far (p := ⟨gb228, 1, none⟩) (Kd.V_far (p := ⟨gb228, 0, none⟩) (Kd.V_far (p := ⟨gb227, 9, none⟩) (Kd.V_mono (Kd.V_mono ba0.out (fun k_ hk => (⟨hk, hk.2.1⟩ : _ ∧ k_ ≠ gb227))) (fun k_ hk => (⟨hk, hk.1.2.2.1⟩ : _ ∧ k_ ≠ gb228))) (fun _ hk => hk.1.2) (.bool false)) (fun _ hk => hk.2) (.int .i64 a0_0)) (fun _ hk => hk.2) (.int .i64 a0_1)) (fun _ hk => hk.2) (.int .i64 a0_2)) (fun _ hk => hk.2) (.int .i64 a0_3)) (fun _ hk => hk.2) (.slice A0_4 l0_4.length c0_4)) (fun _ hk => hk.2) (.int .i64 (wrap64 (a0_5 + 1)))) (fun _ hk => hk.2) (.int .i64 a0_6)) (fun _ hk => hk.2) (.int .i64 a0_7)) (fun _ hk => hk.2) (.bool a0_8)) (fun _ hk => hk.2) (.bool false)) (fun _ hk => hk.2) (.bool a0_10)) (fun _ hk => hk.2) (.bool a0_11)) (fun _ hk => hk.2) (.bool false)) (fun _ hk => hk.2) (.int .i64 a0_13)) (fun _ hk => hk.1.1.1), by repeat (first | (with_reducible first | exact HB.out | apply below_alloc | apply pw_below_drewN | apply below_drew1 | refine below_set ?_ (Aside0.out (by assumption))) | exact HB.out)⟩
     exact absurd (HE5.out.resolve_right (by decide)) c37
end Go.Proofs.YtgckkjgemkabnaaDoor.PSlotWalks
