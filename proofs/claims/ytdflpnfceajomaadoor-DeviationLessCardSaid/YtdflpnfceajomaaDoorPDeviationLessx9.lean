-- Written by a program of this repository (wip/tools/myprint.py over the print of the kit): contracts and rows.
import Derived.Test.YtdflpnfceajomaaDoorPDeviationLessx0
import Derived.Test.YtdflpnfceajomaaDoorPDeviationLessx2
import Derived.Test.YtdflpnfceajomaaDoorPDeviationLessx3
import Derived.Test.YtdflpnfceajomaaDoorPDeviationLessx6
import Derived.Test.YtdflpnfceajomaaDoorPDeviationLessx7
import Derived.Test.YtdflpnfceajomaaDoorPDeviationLessx8
namespace Go.Proofs.YtdflpnfceajomaaDoor.PDeviationLess
open Go.RowKit Go.Proofs.YtdflpnfceajomaaDoorW.PrintWords Go.Proofs.YtdflpnfceajomaaDoorW.PrintLast Go.Proofs.YtdflpnfceajomaaDoorW.PrintMore
attribute [local go_sem] max2_int min2_int max_two min_two max_three min_three max_four min_four   -- for this text's walks alone
set_option linter.unusedVariables false
set_option linter.unusedSimpArgs false

/-! ### storagebarterlaw30_DeviationLess: function 7 -/
mutual
def storagebarterlaw30_DeviationLess.j0 : Nat → List (S56) → Int → Bool → Int → List (S51) → Int → List (S51) → Option (Bool)
  | 0, _, _, _, _, _, _, _ => none
  | k + 1, x4, x6, x58, x306000, x306001, x327000, x327001 => if x58 = true then (some false) else (storagebarterlaw30_DeviationLess.l0 k x6 (x4.length : Int) 0 x306000 x306001 x327000 x327001)
def storagebarterlaw30_DeviationLess.l0 : Nat → Int → Int → Int → Int → List (S51) → Int → List (S51) → Option (Bool)
  | 0, _, _, _, _, _, _, _ => none
  | k + 1, x6, x60, x61, x306000, x306001, x327000, x327001 => if x61 < x60 then ((deviation_How.f k x306000 x306001 x61).bind fun t329 => (if 0 ≤ x6 then (if x6 < (x306001.length : Int) then (if x61 = ((rd_T51 x306001 x6).f0) then ((deviation_How.f k x327000 x327001 x61).bind fun t331 => (if t331 = 0 then (storagebarterlaw30_DeviationLess.l0 k x6 x60 (wrap64 (x61 + 1)) x306000 x306001 x327000 x327001) else (some false))) else ((deviation_How.f k x327000 x327001 x61).bind fun t332 => (if t332 = t329 then (storagebarterlaw30_DeviationLess.l0 k x6 x60 (wrap64 (x61 + 1)) x306000 x306001 x327000 x327001) else (some false)))) else (none)) else (none))) else (some true)
end
def storagebarterlaw30_DeviationLess.f (k : Nat) (l0 : List Int) : Option (Bool) := (storagebarterlaw30_sane.f k).bind fun t290 => (if t290 = true then ((storagebarterplay_New.f l0).bind fun bt291 => ((storagebarterlaw30_plan.f k bt291.1 bt291.2).bind fun bt294 => ((storagebarterplay_Dice_Pick.f bt291.1 bt294.2 3).bind fun bt298 => ((storagebarterplay_Dice_Deviation.f k bt291.1 bt298.2 bt294.1 (wrap64 (1 + bt298.1)) 5).bind fun bt300 => ((deviation_Valid.f bt294.1 bt300.1 bt300.2.1).bind fun t306 => (if t306 = true then (if (bt300.2.1.length : Int) = 0 then (some true) else ((storagebarterplay_Dice_Pick.f bt291.1 bt300.2.2 (bt300.2.1.length : Int)).bind fun bt307 => ((some (([] : List (S51)) : List (S51))).bind fun y309 => (if 0 ≤ bt307.1 then (if bt307.1 ≤ (bt300.2.1.length : Int) then ((some (bt300.2.1.take (bt307.1 : Int).toNat : List (S51))).bind fun y312 => (if y309.length + y312.length < 8796093022208 then ((some (y309 ++ y312 : List (S51))).bind fun y316 => (if 0 ≤ (wrap64 (bt307.1 + 1)) then (if (wrap64 (bt307.1 + 1)) ≤ (bt300.2.1.length : Int) then ((some (bt300.2.1.drop ((wrap64 (bt307.1 + 1)) : Int).toNat : List (S51))).bind fun y319 => (if y316.length + y319.length < 8796093022208 then ((some (y316 ++ y319 : List (S51))).bind fun y323 => ((deviation_Valid.f bt294.1 bt300.1 y323).bind fun t327 => (if t327 = true then ((deviation_Same.f k bt300.1 bt300.2.1 bt300.1 y323).bind fun t328 => (storagebarterlaw30_DeviationLess.j0 k bt294.1 bt307.1 t328 bt300.1 bt300.2.1 bt300.1 y323)) else (storagebarterlaw30_DeviationLess.j0 k bt294.1 bt307.1 true bt300.1 bt300.2.1 bt300.1 y323)))) else (none))) else (none)) else (none))) else (none))) else (none)) else (none))))) else (some false))))))) else (some false))
theorem storagebarterlaw30_DeviationLess.mono_l : ∀ k, (∀ y0 y1 y2 y3 y4 y5 y6, LeO (storagebarterlaw30_DeviationLess.j0 k y0 y1 y2 y3 y4 y5 y6) (storagebarterlaw30_DeviationLess.j0 (k + 1) y0 y1 y2 y3 y4 y5 y6)) ∧ (∀ y0 y1 y2 y3 y4 y5 y6, LeO (storagebarterlaw30_DeviationLess.l0 k y0 y1 y2 y3 y4 y5 y6) (storagebarterlaw30_DeviationLess.l0 (k + 1) y0 y1 y2 y3 y4 y5 y6))
  | 0 => ⟨fun _ _ _ _ _ _ _ r h => by simp [storagebarterlaw30_DeviationLess.j0] at h, fun _ _ _ _ _ _ _ r h => by simp [storagebarterlaw30_DeviationLess.l0] at h⟩
  | k + 1 => by
    obtain ⟨ih0, ih1⟩ := storagebarterlaw30_DeviationLess.mono_l k
    refine ⟨?_, ?_⟩
    · intro y0 y1 y2 y3 y4 y5 y6
      unfold storagebarterlaw30_DeviationLess.j0
      repeat' first
      | (with_reducible exact ih0 _ _ _ _ _ _ _)
      | (with_reducible exact ih1 _ _ _ _ _ _ _)
      | (with_reducible exact deviation_How.mono _ _ _ _)
      | (with_reducible exact deviation_Same.mono _ _ _ _ _)
      | (with_reducible exact storagebarterlaw30_plan.mono _ _ _)
      | (with_reducible exact storagebarterlaw30_sane.mono _)
      | (with_reducible exact storagebarterplay_Dice_Deviation.mono _ _ _ _ _ _)
      | (with_reducible exact LeO.refl _)
      | (with_reducible exact LeO.none _)
      | (with_reducible refine LeO.ite ?_ ?_)
      | (with_reducible refine LeO.bind ?_ (fun _ => ?_))
      | exact ih0 _ _ _ _ _ _ _
      | exact ih1 _ _ _ _ _ _ _
      | exact deviation_How.mono _ _ _ _
      | exact deviation_Same.mono _ _ _ _ _
      | exact storagebarterlaw30_plan.mono _ _ _
      | exact storagebarterlaw30_sane.mono _
      | exact storagebarterplay_Dice_Deviation.mono _ _ _ _ _ _
      | exact LeO.none _
      | refine LeO.ite ?_ ?_
      | refine LeO.bind ?_ (fun _ => ?_)
    · intro y0 y1 y2 y3 y4 y5 y6
      unfold storagebarterlaw30_DeviationLess.l0
      repeat' first
      | (with_reducible exact ih0 _ _ _ _ _ _ _)
      | (with_reducible exact ih1 _ _ _ _ _ _ _)
      | (with_reducible exact deviation_How.mono _ _ _ _)
      | (with_reducible exact deviation_Same.mono _ _ _ _ _)
      | (with_reducible exact storagebarterlaw30_plan.mono _ _ _)
      | (with_reducible exact storagebarterlaw30_sane.mono _)
      | (with_reducible exact storagebarterplay_Dice_Deviation.mono _ _ _ _ _ _)
      | (with_reducible exact LeO.refl _)
      | (with_reducible exact LeO.none _)
      | (with_reducible refine LeO.ite ?_ ?_)
      | (with_reducible refine LeO.bind ?_ (fun _ => ?_))
      | exact ih0 _ _ _ _ _ _ _
      | exact ih1 _ _ _ _ _ _ _
      | exact deviation_How.mono _ _ _ _
      | exact deviation_Same.mono _ _ _ _ _
      | exact storagebarterlaw30_plan.mono _ _ _
      | exact storagebarterlaw30_sane.mono _
      | exact storagebarterplay_Dice_Deviation.mono _ _ _ _ _ _
      | exact LeO.none _
      | refine LeO.ite ?_ ?_
      | refine LeO.bind ?_ (fun _ => ?_)
theorem storagebarterlaw30_DeviationLess.mono : ∀ a0 k, LeO (storagebarterlaw30_DeviationLess.f k a0) (storagebarterlaw30_DeviationLess.f (k + 1) a0) := by
  intro a0 k
  obtain ⟨ih0, ih1⟩ := storagebarterlaw30_DeviationLess.mono_l k
  unfold storagebarterlaw30_DeviationLess.f
  repeat' first
      | (with_reducible exact ih0 _ _ _ _ _ _ _)
      | (with_reducible exact ih1 _ _ _ _ _ _ _)
      | (with_reducible exact deviation_How.mono _ _ _ _)
      | (with_reducible exact deviation_Same.mono _ _ _ _ _)
      | (with_reducible exact storagebarterlaw30_plan.mono _ _ _)
      | (with_reducible exact storagebarterlaw30_sane.mono _)
      | (with_reducible exact storagebarterplay_Dice_Deviation.mono _ _ _ _ _ _)
      | (with_reducible exact LeO.refl _)
      | (with_reducible exact LeO.none _)
      | (with_reducible refine LeO.ite ?_ ?_)
      | (with_reducible refine LeO.bind ?_ (fun _ => ?_))
      | exact ih0 _ _ _ _ _ _ _
      | exact ih1 _ _ _ _ _ _ _
      | exact deviation_How.mono _ _ _ _
      | exact deviation_Same.mono _ _ _ _ _
      | exact storagebarterlaw30_plan.mono _ _ _
      | exact storagebarterlaw30_sane.mono _
      | exact storagebarterplay_Dice_Deviation.mono _ _ _ _ _ _
      | exact LeO.none _
      | refine LeO.ite ?_ ?_
      | refine LeO.bind ?_ (fun _ => ?_)
def storagebarterlaw30_DeviationLess.T11 : Bool × List (List Nat × List Nat) := (true, [([], []), ([0], [0]), ([], []), ([], []), ([3], [3]), ([], []), ([4, 5], [4, 5]), ([2, 6], [2, 6]), ([], []), ([8], [8]), ([], []), ([10], [10]), ([9, 11], [9, 11]), ([7, 12, 7], [7, 12]), ([1, 13], [1, 13]), ([], []), ([15, 14, 13, 0, 1, 2, 3, 4, 5, 6, 7, 8, 9, 10, 11, 12, 13, 14, 15], [14, 15])])
def storagebarterlaw30_DeviationLess.B11 : List Nat := [0, 1, 0, 0, 8, 0, 56, 124, 0, 256, 0, 1024, 3840, 8188, 16383, 0, 65535]
theorem storagebarterlaw30_DeviationLess.tab11 : rtab .any (opsOf Tryd.f7 11) = storagebarterlaw30_DeviationLess.T11 := by kernel_rfl
theorem storagebarterlaw30_DeviationLess.bits11 : waitsOk storagebarterlaw30_DeviationLess.T11.2 storagebarterlaw30_DeviationLess.B11 = true := by kernel_rfl
set_option maxHeartbeats 60000000 in
set_option maxRecDepth 100000 in
theorem storagebarterlaw30_DeviationLess.calls (k : Nat) (A0 : Option Addr) (c0 : Nat) (l0 : List Int) (r : Bool) (w : World) (hr0 : Kd.C (Kd.int .u8) w A0 l0.length l0) (hc0 : l0.length ≤ c0) (h : storagebarterlaw30_DeviationLess.f k l0 = some r) (hrt_ : r = true) (hL_ : Laid w) :
    Calls Tryd.prog 7 #[.slice A0 l0.length c0] w fun e w' => e = .returned (.bool r) ∧ Below w.heap.size w w' := by
  have HL_ := Aside0.mk hL_
  clear hL_
  have HRT_ := Aside0.mk hrt_
  clear hrt_
  have hu39 := Tryd.underlying39
  have HR0 := Aside0.mk hr0
  have HC0 := Aside0.mk hc0
  clear hr0 hc0
  have HB := Aside0.mk (Below.refl w.heap.size w)
  have H : ((storagebarterlaw30_sane.f k).bind fun t290 => (if t290 = true then ((storagebarterplay_New.f l0).bind fun bt291 => ((storagebarterlaw30_plan.f k bt291.1 bt291.2).bind fun bt294 => ((storagebarterplay_Dice_Pick.f bt291.1 bt294.2 3).bind fun bt298 => ((storagebarterplay_Dice_Deviation.f k bt291.1 bt298.2 bt294.1 (wrap64 (1 + bt298.1)) 5).bind fun bt300 => ((deviation_Valid.f bt294.1 bt300.1 bt300.2.1).bind fun t306 => (if t306 = true then (if (bt300.2.1.length : Int) = 0 then (some true) else ((storagebarterplay_Dice_Pick.f bt291.1 bt300.2.2 (bt300.2.1.length : Int)).bind fun bt307 => ((some (([] : List (S51)) : List (S51))).bind fun y309 => (if 0 ≤ bt307.1 then (if bt307.1 ≤ (bt300.2.1.length : Int) then ((some (bt300.2.1.take (bt307.1 : Int).toNat : List (S51))).bind fun y312 => (if y309.length + y312.length < 8796093022208 then ((some (y309 ++ y312 : List (S51))).bind fun y316 => (if 0 ≤ (wrap64 (bt307.1 + 1)) then (if (wrap64 (bt307.1 + 1)) ≤ (bt300.2.1.length : Int) then ((some (bt300.2.1.drop ((wrap64 (bt307.1 + 1)) : Int).toNat : List (S51))).bind fun y319 => (if y316.length + y319.length < 8796093022208 then ((some (y316 ++ y319 : List (S51))).bind fun y323 => ((deviation_Valid.f bt294.1 bt300.1 y323).bind fun t327 => (if t327 = true then ((deviation_Same.f k bt300.1 bt300.2.1 bt300.1 y323).bind fun t328 => (storagebarterlaw30_DeviationLess.j0 k bt294.1 bt307.1 t328 bt300.1 bt300.2.1 bt300.1 y323)) else (storagebarterlaw30_DeviationLess.j0 k bt294.1 bt307.1 true bt300.1 bt300.2.1 bt300.1 y323)))) else (none))) else (none)) else (none))) else (none))) else (none)) else (none))))) else (some false))))))) else (some false))) = some r := h
  clear h
  replace H := Option.bind_eq_some_iff.mp H
  obtain ⟨t290, A20, H⟩ := H
  replace H : (if t290 = true then ((storagebarterplay_New.f l0).bind fun bt291 => ((storagebarterlaw30_plan.f k bt291.1 bt291.2).bind fun bt294 => ((storagebarterplay_Dice_Pick.f bt291.1 bt294.2 3).bind fun bt298 => ((storagebarterplay_Dice_Deviation.f k bt291.1 bt298.2 bt294.1 (wrap64 (1 + bt298.1)) 5).bind fun bt300 => ((deviation_Valid.f bt294.1 bt300.1 bt300.2.1).bind fun t306 => (if t306 = true then (if (bt300.2.1.length : Int) = 0 then (some true) else ((storagebarterplay_Dice_Pick.f bt291.1 bt300.2.2 (bt300.2.1.length : Int)).bind fun bt307 => ((some (([] : List (S51)) : List (S51))).bind fun y309 => (if 0 ≤ bt307.1 then (if bt307.1 ≤ (bt300.2.1.length : Int) then ((some (bt300.2.1.take (bt307.1 : Int).toNat : List (S51))).bind fun y312 => (if y309.length + y312.length < 8796093022208 then ((some (y309 ++ y312 : List (S51))).bind fun y316 => (if 0 ≤ (wrap64 (bt307.1 + 1)) then (if (wrap64 (bt307.1 + 1)) ≤ (bt300.2.1.length : Int) then ((some (bt300.2.1.drop ((wrap64 (bt307.1 + 1)) : Int).toNat : List (S51))).bind fun y319 => (if y316.length + y319.length < 8796093022208 then ((some (y316 ++ y319 : List (S51))).bind fun y323 => ((deviation_Valid.f bt294.1 bt300.1 y323).bind fun t327 => (if t327 = true then ((deviation_Same.f k bt300.1 bt300.2.1 bt300.1 y323).bind fun t328 => (storagebarterlaw30_DeviationLess.j0 k bt294.1 bt307.1 t328 bt300.1 bt300.2.1 bt300.1 y323)) else (storagebarterlaw30_DeviationLess.j0 k bt294.1 bt307.1 true bt300.1 bt300.2.1 bt300.1 y323)))) else (none))) else (none)) else (none))) else (none))) else (none)) else (none))))) else (some false))))))) else (some false)) = some r := H
  have A2 := Aside0.mk A20
  clear A20
  by_cases c3 : t290 = true
  · subst c3
    have H1 : ((storagebarterplay_New.f l0).bind fun bt291 => ((storagebarterlaw30_plan.f k bt291.1 bt291.2).bind fun bt294 => ((storagebarterplay_Dice_Pick.f bt291.1 bt294.2 3).bind fun bt298 => ((storagebarterplay_Dice_Deviation.f k bt291.1 bt298.2 bt294.1 (wrap64 (1 + bt298.1)) 5).bind fun bt300 => ((deviation_Valid.f bt294.1 bt300.1 bt300.2.1).bind fun t306 => (if t306 = true then (if (bt300.2.1.length : Int) = 0 then (some true) else ((storagebarterplay_Dice_Pick.f bt291.1 bt300.2.2 (bt300.2.1.length : Int)).bind fun bt307 => ((some (([] : List (S51)) : List (S51))).bind fun y309 => (if 0 ≤ bt307.1 then (if bt307.1 ≤ (bt300.2.1.length : Int) then ((some (bt300.2.1.take (bt307.1 : Int).toNat : List (S51))).bind fun y312 => (if y309.length + y312.length < 8796093022208 then ((some (y309 ++ y312 : List (S51))).bind fun y316 => (if 0 ≤ (wrap64 (bt307.1 + 1)) then (if (wrap64 (bt307.1 + 1)) ≤ (bt300.2.1.length : Int) then ((some (bt300.2.1.drop ((wrap64 (bt307.1 + 1)) : Int).toNat : List (S51))).bind fun y319 => (if y316.length + y319.length < 8796093022208 then ((some (y316 ++ y319 : List (S51))).bind fun y323 => ((deviation_Valid.f bt294.1 bt300.1 y323).bind fun t327 => (if t327 = true then ((deviation_Same.f k bt300.1 bt300.2.1 bt300.1 y323).bind fun t328 => (storagebarterlaw30_DeviationLess.j0 k bt294.1 bt307.1 t328 bt300.1 bt300.2.1 bt300.1 y323)) else (storagebarterlaw30_DeviationLess.j0 k bt294.1 bt307.1 true bt300.1 bt300.2.1 bt300.1 y323)))) else (none))) else (none)) else (none))) else (none))) else (none)) else (none))))) else (some false))))))) = some r := by rw [if_pos rfl] at H; exact H
    clear H
    have H := H1
    clear H1
    replace H := Option.bind_eq_some_iff.mp H
    obtain ⟨⟨t291, t292⟩, A40, H⟩ := H
    replace H : ((storagebarterlaw30_plan.f k t291 t292).bind fun bt294 => ((storagebarterplay_Dice_Pick.f t291 bt294.2 3).bind fun bt298 => ((storagebarterplay_Dice_Deviation.f k t291 bt298.2 bt294.1 (wrap64 (1 + bt298.1)) 5).bind fun bt300 => ((deviation_Valid.f bt294.1 bt300.1 bt300.2.1).bind fun t306 => (if t306 = true then (if (bt300.2.1.length : Int) = 0 then (some true) else ((storagebarterplay_Dice_Pick.f t291 bt300.2.2 (bt300.2.1.length : Int)).bind fun bt307 => ((some (([] : List (S51)) : List (S51))).bind fun y309 => (if 0 ≤ bt307.1 then (if bt307.1 ≤ (bt300.2.1.length : Int) then ((some (bt300.2.1.take (bt307.1 : Int).toNat : List (S51))).bind fun y312 => (if y309.length + y312.length < 8796093022208 then ((some (y309 ++ y312 : List (S51))).bind fun y316 => (if 0 ≤ (wrap64 (bt307.1 + 1)) then (if (wrap64 (bt307.1 + 1)) ≤ (bt300.2.1.length : Int) then ((some (bt300.2.1.drop ((wrap64 (bt307.1 + 1)) : Int).toNat : List (S51))).bind fun y319 => (if y316.length + y319.length < 8796093022208 then ((some (y316 ++ y319 : List (S51))).bind fun y323 => ((deviation_Valid.f bt294.1 bt300.1 y323).bind fun t327 => (if t327 = true then ((deviation_Same.f k bt300.1 bt300.2.1 bt300.1 y323).bind fun t328 => (storagebarterlaw30_DeviationLess.j0 k bt294.1 bt307.1 t328 bt300.1 bt300.2.1 bt300.1 y323)) else (storagebarterlaw30_DeviationLess.j0 k bt294.1 bt307.1 true bt300.1 bt300.2.1 bt300.1 y323)))) else (none))) else (none)) else (none))) else (none))) else (none)) else (none))))) else (some false)))))) = some r := H
    have A4 := Aside0.mk A40
    clear A40
    replace H := Option.bind_eq_some_iff.mp H
    obtain ⟨⟨t294, t297⟩, A50, H⟩ := H
    replace H : ((storagebarterplay_Dice_Pick.f t291 t297 3).bind fun bt298 => ((storagebarterplay_Dice_Deviation.f k t291 bt298.2 t294 (wrap64 (1 + bt298.1)) 5).bind fun bt300 => ((deviation_Valid.f t294 bt300.1 bt300.2.1).bind fun t306 => (if t306 = true then (if (bt300.2.1.length : Int) = 0 then (some true) else ((storagebarterplay_Dice_Pick.f t291 bt300.2.2 (bt300.2.1.length : Int)).bind fun bt307 => ((some (([] : List (S51)) : List (S51))).bind fun y309 => (if 0 ≤ bt307.1 then (if bt307.1 ≤ (bt300.2.1.length : Int) then ((some (bt300.2.1.take (bt307.1 : Int).toNat : List (S51))).bind fun y312 => (if y309.length + y312.length < 8796093022208 then ((some (y309 ++ y312 : List (S51))).bind fun y316 => (if 0 ≤ (wrap64 (bt307.1 + 1)) then (if (wrap64 (bt307.1 + 1)) ≤ (bt300.2.1.length : Int) then ((some (bt300.2.1.drop ((wrap64 (bt307.1 + 1)) : Int).toNat : List (S51))).bind fun y319 => (if y316.length + y319.length < 8796093022208 then ((some (y316 ++ y319 : List (S51))).bind fun y323 => ((deviation_Valid.f t294 bt300.1 y323).bind fun t327 => (if t327 = true then ((deviation_Same.f k bt300.1 bt300.2.1 bt300.1 y323).bind fun t328 => (storagebarterlaw30_DeviationLess.j0 k t294 bt307.1 t328 bt300.1 bt300.2.1 bt300.1 y323)) else (storagebarterlaw30_DeviationLess.j0 k t294 bt307.1 true bt300.1 bt300.2.1 bt300.1 y323)))) else (none))) else (none)) else (none))) else (none))) else (none)) else (none))))) else (some false))))) = some r := H
    have A5 := Aside0.mk A50
    clear A50
    replace H := Option.bind_eq_some_iff.mp H
    obtain ⟨⟨t298, t299⟩, A60, H⟩ := H
    replace H : ((storagebarterplay_Dice_Deviation.f k t291 t299 t294 (wrap64 (1 + t298)) 5).bind fun bt300 => ((deviation_Valid.f t294 bt300.1 bt300.2.1).bind fun t306 => (if t306 = true then (if (bt300.2.1.length : Int) = 0 then (some true) else ((storagebarterplay_Dice_Pick.f t291 bt300.2.2 (bt300.2.1.length : Int)).bind fun bt307 => ((some (([] : List (S51)) : List (S51))).bind fun y309 => (if 0 ≤ bt307.1 then (if bt307.1 ≤ (bt300.2.1.length : Int) then ((some (bt300.2.1.take (bt307.1 : Int).toNat : List (S51))).bind fun y312 => (if y309.length + y312.length < 8796093022208 then ((some (y309 ++ y312 : List (S51))).bind fun y316 => (if 0 ≤ (wrap64 (bt307.1 + 1)) then (if (wrap64 (bt307.1 + 1)) ≤ (bt300.2.1.length : Int) then ((some (bt300.2.1.drop ((wrap64 (bt307.1 + 1)) : Int).toNat : List (S51))).bind fun y319 => (if y316.length + y319.length < 8796093022208 then ((some (y316 ++ y319 : List (S51))).bind fun y323 => ((deviation_Valid.f t294 bt300.1 y323).bind fun t327 => (if t327 = true then ((deviation_Same.f k bt300.1 bt300.2.1 bt300.1 y323).bind fun t328 => (storagebarterlaw30_DeviationLess.j0 k t294 bt307.1 t328 bt300.1 bt300.2.1 bt300.1 y323)) else (storagebarterlaw30_DeviationLess.j0 k t294 bt307.1 true bt300.1 bt300.2.1 bt300.1 y323)))) else (none))) else (none)) else (none))) else (none))) else (none)) else (none))))) else (some false)))) = some r := H
    have A6 := Aside0.mk A60
    clear A60
    replace H := Option.bind_eq_some_iff.mp H
    obtain ⟨⟨t300, t301, t304⟩, A70, H⟩ := H
    replace H : ((deviation_Valid.f t294 t300 t301).bind fun t306 => (if t306 = true then (if (t301.length : Int) = 0 then (some true) else ((storagebarterplay_Dice_Pick.f t291 t304 (t301.length : Int)).bind fun bt307 => ((some (([] : List (S51)) : List (S51))).bind fun y309 => (if 0 ≤ bt307.1 then (if bt307.1 ≤ (t301.length : Int) then ((some (t301.take (bt307.1 : Int).toNat : List (S51))).bind fun y312 => (if y309.length + y312.length < 8796093022208 then ((some (y309 ++ y312 : List (S51))).bind fun y316 => (if 0 ≤ (wrap64 (bt307.1 + 1)) then (if (wrap64 (bt307.1 + 1)) ≤ (t301.length : Int) then ((some (t301.drop ((wrap64 (bt307.1 + 1)) : Int).toNat : List (S51))).bind fun y319 => (if y316.length + y319.length < 8796093022208 then ((some (y316 ++ y319 : List (S51))).bind fun y323 => ((deviation_Valid.f t294 t300 y323).bind fun t327 => (if t327 = true then ((deviation_Same.f k t300 t301 t300 y323).bind fun t328 => (storagebarterlaw30_DeviationLess.j0 k t294 bt307.1 t328 t300 t301 t300 y323)) else (storagebarterlaw30_DeviationLess.j0 k t294 bt307.1 true t300 t301 t300 y323)))) else (none))) else (none)) else (none))) else (none))) else (none)) else (none))))) else (some false))) = some r := H
    have A7 := Aside0.mk A70
    clear A70
    replace H := Option.bind_eq_some_iff.mp H
    obtain ⟨t306, A80, H⟩ := H
    replace H : (if t306 = true then (if (t301.length : Int) = 0 then (some true) else ((storagebarterplay_Dice_Pick.f t291 t304 (t301.length : Int)).bind fun bt307 => ((some (([] : List (S51)) : List (S51))).bind fun y309 => (if 0 ≤ bt307.1 then (if bt307.1 ≤ (t301.length : Int) then ((some (t301.take (bt307.1 : Int).toNat : List (S51))).bind fun y312 => (if y309.length + y312.length < 8796093022208 then ((some (y309 ++ y312 : List (S51))).bind fun y316 => (if 0 ≤ (wrap64 (bt307.1 + 1)) then (if (wrap64 (bt307.1 + 1)) ≤ (t301.length : Int) then ((some (t301.drop ((wrap64 (bt307.1 + 1)) : Int).toNat : List (S51))).bind fun y319 => (if y316.length + y319.length < 8796093022208 then ((some (y316 ++ y319 : List (S51))).bind fun y323 => ((deviation_Valid.f t294 t300 y323).bind fun t327 => (if t327 = true then ((deviation_Same.f k t300 t301 t300 y323).bind fun t328 => (storagebarterlaw30_DeviationLess.j0 k t294 bt307.1 t328 t300 t301 t300 y323)) else (storagebarterlaw30_DeviationLess.j0 k t294 bt307.1 true t300 t301 t300 y323)))) else (none))) else (none)) else (none))) else (none))) else (none)) else (none))))) else (some false)) = some r := H
    have A8 := Aside0.mk A80
    clear A80
    by_cases c9 : t306 = true
    · subst c9
      have H1 : (if (t301.length : Int) = 0 then (some true) else ((storagebarterplay_Dice_Pick.f t291 t304 (t301.length : Int)).bind fun bt307 => ((some (([] : List (S51)) : List (S51))).bind fun y309 => (if 0 ≤ bt307.1 then (if bt307.1 ≤ (t301.length : Int) then ((some (t301.take (bt307.1 : Int).toNat : List (S51))).bind fun y312 => (if y309.length + y312.length < 8796093022208 then ((some (y309 ++ y312 : List (S51))).bind fun y316 => (if 0 ≤ (wrap64 (bt307.1 + 1)) then (if (wrap64 (bt307.1 + 1)) ≤ (t301.length : Int) then ((some (t301.drop ((wrap64 (bt307.1 + 1)) : Int).toNat : List (S51))).bind fun y319 => (if y316.length + y319.length < 8796093022208 then ((some (y316 ++ y319 : List (S51))).bind fun y323 => ((deviation_Valid.f t294 t300 y323).bind fun t327 => (if t327 = true then ((deviation_Same.f k t300 t301 t300 y323).bind fun t328 => (storagebarterlaw30_DeviationLess.j0 k t294 bt307.1 t328 t300 t301 t300 y323)) else (storagebarterlaw30_DeviationLess.j0 k t294 bt307.1 true t300 t301 t300 y323)))) else (none))) else (none)) else (none))) else (none))) else (none)) else (none))))) = some r := by rw [if_pos rfl] at H; exact H
      clear H
      have H := H1
      clear H1
      by_cases c10 : (t301.length : Int) = 0
      · rw [if_pos c10] at H
        have c10b0 : ((t301.length : Int) == 0) = true := beq_iff_eq.mpr c10
        have c10b1 : ((t301.length : Int) != 0) = false := bne_eq_false_iff_eq.mpr c10
        clear c10
        obtain rfl := Option.some.inj H
        go_enter Tryd.func7, Tryd.ntmps7
        go_wp2_with (first | ((with_reducible refine gate_callee (f := 8) rfl ?_); refine goesL_ (some 10) rfl rfl Tryd.func8 (by kernel_rfl) rfl #[] rfl (by (try simp only [List.map_toArray, List.map_cons, List.map_nil]); first | done | rfl | (simp only [List.length_drop, List.length_take]; rfl)) ?_; (with_reducible refine (storagebarterlaw30_sane.calls k  true _ A2.out (by first | exact HL_.out | exact laid_below HL_.out (by repeat (first | (with_reducible first | exact HB.out | apply below_alloc | apply pw_below_drewN | apply below_drew1) | refine below_set ?_ (Aside0.out (by assumption)) | exact HB.out)) | exact laid_drawn HL_.out HD.out | exact laid_drawn HL_.out (HD.out.step _))).mono ?_); rintro e w11 ⟨rfl, hb⟩; refine ⟨_, rfl, ?_⟩; have n0_ := Aside0.mk (below_step (by repeat (first | (with_reducible first | exact HB.out | apply below_alloc | apply pw_below_drewN | apply below_drew1) | exact HB.out)) hb); clear HB; have HB := n0_; clear n0_; (try clear hb); (try clear hb2); (try clear hk); (try clear hi); (try clear hgw)) | ((with_reducible refine gate_callee (f := 9) rfl ?_); refine goesL_ (some 13) rfl rfl Tryd.func9 (by kernel_rfl) rfl #[.slice A0 l0.length c0] rfl (by (try simp only [List.map_toArray, List.map_cons, List.map_nil]); first | done | rfl | (simp only [List.length_drop, List.length_take]; rfl)) ?_; (with_reducible refine (storagebarterplay_New.calls _ _ l0 t291 t292 w _ ?side1 ?side2 ?side3 A4.out).mono ?_); (case side1 => repeat (first | (with_reducible first | exact HB.out | apply below_alloc | apply pw_below_drewN | apply below_drew1) | exact HB.out)); (case side2 => exact HR0.out); (case side3 => exact HC0.out); rintro e w12 ⟨g293, rfl, hi, hb, hb2, hgw⟩; refine ⟨_, rfl, ?_⟩; have n0_ := Aside0.mk (hb); have n1_ := Aside0.mk (hi); clear HB; have HB := n0_; have HI293 := n1_; clear n0_ n1_; (try clear hb); (try clear hb2); (try clear hk); (try clear hi); (try clear hgw)) | ((with_reducible refine gate_callee (f := 10) rfl ?_); refine goesL_ (some 15) rfl rfl Tryd.func10 (by kernel_rfl) rfl #[.pointer (some ⟨g293, 0, none⟩)] rfl (by (try simp only [List.map_toArray, List.map_cons, List.map_nil]); first | done | rfl | (simp only [List.length_drop, List.length_take]; rfl)) ?_; (with_reducible refine (storagebarterlaw30_plan.calls k g293 t291 t292 t294 t297 w _ ?side1 ?side2 A5.out).mono ?_); (case side1 => repeat (first | (with_reducible first | exact HI293.out | apply IsS58.alloc | apply IsS58.drewN | apply IsS58.drew | apply IsS58.set_1) | exact HI293.out)); (case side2 => repeat (first | (with_reducible first | exact HB.out | apply below_alloc | apply pw_below_drewN | apply below_drew1 | refine below_set ?_ (IsS58.ge HI293.out)) | exact HB.out)); rintro e w13 ⟨v295, rfl, ho0, hi, hb, hk⟩; refine ⟨_, rfl, ?_⟩; have n0_ := Aside0.mk (Kd.R_lower ho0 (below_size (by repeat (first | (with_reducible first | exact HB.out | apply below_alloc | apply pw_below_drewN | apply below_drew1 | refine below_set ?_ (IsS58.ge HI293.out)) | exact HB.out)))); have n1_ := Aside0.mk (hb); have n2_ := Aside0.mk (hi); clear HB; clear HI293; have HO296 := n0_; have HB := n1_; have HI293 := n2_; clear n0_ n1_ n2_; (try clear hb); (try clear hb2); (try clear hk); (try clear hi); (try clear hgw); (try clear ho0)) | ((with_reducible refine gate_callee (f := 11) rfl ?_); refine goesL_ (some 19) rfl rfl Tryd.func11 (by kernel_rfl) rfl #[.pointer (some ⟨g293, 0, none⟩), .int .i64 3] rfl (by (try simp only [List.map_toArray, List.map_cons, List.map_nil]); first | done | rfl | (simp only [List.length_drop, List.length_take]; rfl)) ?_; (with_reducible refine (storagebarterplay_Dice_Pick.calls g293 t291 t297 3 t298 t299 w _ ?side1 ?side2 A6.out).mono ?_); (case side1 => repeat (first | (with_reducible first | exact HI293.out | apply IsS58.alloc | apply IsS58.drewN | apply IsS58.drew | apply IsS58.set_1) | exact HI293.out)); (case side2 => repeat (first | (with_reducible first | exact HB.out | apply below_alloc | apply pw_below_drewN | apply below_drew1 | refine below_set ?_ (IsS58.ge HI293.out)) | exact HB.out)); rintro e w14 ⟨rfl, hi, hb, hk⟩; refine ⟨_, rfl, ?_⟩; have n0_ := Aside0.mk (Kd.R_mono (Kd.R_keep (IsS58.apart (show IsS58 w _ g293 t291 t297 from by repeat (first | (with_reducible first | exact HI293.out | apply IsS58.alloc | apply IsS58.drewN | apply IsS58.drew | apply IsS58.set_1) | exact HI293.out)) (by (with_reducible repeat (first | apply Kd.R_alloc | apply Kd.R_drewN | apply Kd.R_drew)); exact HO296.out) (by decide)) hk (fun _ h => h.2)) (fun _ h => h.1)); have n1_ := Aside0.mk (hb); have n2_ := Aside0.mk (hi); clear HO296; clear HB; clear HI293; have HO296 := n0_; have HB := n1_; have HI293 := n2_; clear n0_ n1_ n2_; (try clear hb); (try clear hb2); (try clear hk); (try clear hi); (try clear hgw); obtain ⟨Ao15, co15, eo15⟩ := Kd.R_slice HO296.out; subst eo15) | ((with_reducible refine gate_callee (f := 17) rfl ?_); refine goesL_ (some 21) rfl rfl Tryd.func17 (by kernel_rfl) rfl #[.pointer (some ⟨g293, 0, none⟩), .slice Ao15 t294.length co15, .int .i64 (wrap64 (1 + t298)), .int .i64 5] rfl (by (try simp only [List.map_toArray, List.map_cons, List.map_nil]); first | done | rfl | (simp only [List.length_drop, List.length_take]; rfl)) ?_; (with_reducible refine (storagebarterplay_Dice_Deviation.calls k g293 t291 t299 _ _ t294 (wrap64 (1 + t298)) 5 t300 t301 t304 w _ ?side1 ?side2 ?side3 ?side4 A7.out).mono ?_); (case side1 => repeat (first | (with_reducible first | exact HI293.out | apply IsS58.alloc | apply IsS58.drewN | apply IsS58.drew | apply IsS58.set_1) | exact HI293.out)); (case side2 => repeat (first | (with_reducible first | exact HB.out | apply below_alloc | apply pw_below_drewN | apply below_drew1 | refine below_set ?_ (IsS58.ge HI293.out)) | exact HB.out)); (case side3 => exact Kd.C_foot_own (IsS58.apart (show IsS58 w _ g293 t291 t299 from by repeat (first | (with_reducible first | exact HI293.out | apply IsS58.alloc | apply IsS58.drewN | apply IsS58.drew | apply IsS58.set_1) | exact HI293.out)) (by (with_reducible repeat (first | apply Kd.R_alloc | apply Kd.R_drewN | apply Kd.R_drew)); exact HO296.out) (by decide)) (fun _ h_ => h_.2)); (case side4 => exact (Kd.R_reads' HO296.out).2.1); rintro e w16 ⟨v302, rfl, ho0, hi, hb, hk⟩; refine ⟨_, rfl, ?_⟩; have n0_ := Aside0.mk (Kd.R_mono (Kd.R_keep (IsS58.apart (show IsS58 w _ g293 t291 t299 from by repeat (first | (with_reducible first | exact HI293.out | apply IsS58.alloc | apply IsS58.drewN | apply IsS58.drew | apply IsS58.set_1) | exact HI293.out)) (by (with_reducible repeat (first | apply Kd.R_alloc | apply Kd.R_drewN | apply Kd.R_drew)); exact HO296.out) (by decide)) hk (fun _ h => h.2)) (fun _ h => h.1)); have n1_ := Aside0.mk (Kd.R_lower ho0 (below_size (by repeat (first | (with_reducible first | exact HB.out | apply below_alloc | apply pw_below_drewN | apply below_drew1 | refine below_set ?_ (IsS58.ge HI293.out)) | exact HB.out)))); have n2_ := Aside0.mk (hb); have n3_ := Aside0.mk (hi); clear HO296; clear HB; clear HI293; have HO296 := n0_; have HO303 := n1_; have HB := n2_; have HI293 := n3_; clear n0_ n1_ n2_ n3_; (try clear hb); (try clear hb2); (try clear hk); (try clear hi); (try clear hgw); (try clear ho0)) | ((with_reducible refine gate_dst (N := 5) rfl ?_); refine box_event ?hg (N := 5) ?hd (cs := #[.int .i64 0, .slice none 0 0]) (t := 39) ?hr ?_; (case hd => rfl); (case hg => rfl); (case hr => first | (go_simp; done) | (go_simp; rfl)); intro gb305 hg w17 hbox hb; have n0_ := Aside0.mk (Kd.R_below (by (with_reducible repeat (first | apply Kd.R_alloc | apply Kd.R_drewN | apply Kd.R_drew)); exact HO296.out) hb); have n1_ := Aside0.mk (Kd.R_below (by (with_reducible repeat (first | apply Kd.R_alloc | apply Kd.R_drewN | apply Kd.R_drew)); exact HO303.out) hb); have n2_ := Aside0.mk (IsS58.below (by repeat (first | (with_reducible first | exact HI293.out | apply IsS58.alloc | apply IsS58.drewN | apply IsS58.drew | apply IsS58.set_1) | exact HI293.out)) hb); have n3_ := Aside0.mk (below_step (by repeat (first | (with_reducible first | exact HB.out | apply below_alloc | apply pw_below_drewN | apply below_drew1 | refine below_set ?_ (IsS58.ge HI293.out)) | exact HB.out)) hb); have n4_ := Aside0.mk (hbox); have n5_ := Aside0.mk ((by rw [hg]; exact (below_size (by repeat (first | (with_reducible first | exact HB.out | apply below_alloc | apply pw_below_drewN | apply below_drew1 | refine below_set ?_ (IsS58.ge HI293.out)) | exact HB.out))) : w.heap.size ≤ gb305)); have n6_ := Aside0.mk ((by rw [hg]; exact (below_size (by repeat (first | (with_reducible first | exact HB.out | apply below_alloc | apply pw_below_drewN | apply below_drew1 | refine below_set ?_ (IsS58.ge HI293.out)) | exact HB.out))) : w.heap.size ≤ gb305)); have n7_ := Aside0.mk ((by rw [hg]; exact Nat.ne_of_lt (IsS58.lt (show IsS58 w _ g293 t291 t304 from by repeat (first | (with_reducible first | exact HI293.out | apply IsS58.alloc | apply IsS58.drewN | apply IsS58.drew | apply IsS58.set_1) | exact HI293.out))) : g293 ≠ gb305)); have n8_ := Aside0.mk ((by rw [hg]; exact Nat.ne_of_gt (IsS58.lt (show IsS58 w _ g293 t291 t304 from by repeat (first | (with_reducible first | exact HI293.out | apply IsS58.alloc | apply IsS58.drewN | apply IsS58.drew | apply IsS58.set_1) | exact HI293.out))) : gb305 ≠ g293)); clear HO296; clear HO303; clear HI293; clear HB; have HO296 := n0_; have HO303 := n1_; have HI293 := n2_; have HB := n3_; have BK305 := n4_; have GW305 := n5_; have GE305 := n6_; have NB293_305 := n7_; have NB305_293 := n8_; clear n0_ n1_ n2_ n3_ n4_ n5_ n6_ n7_ n8_; clear hb hbox hg; have hnb18 := NB305_293.out; have hnc18 := NB293_305.out; have hcz19_0 : w17.cell? ⟨gb305, 0, none⟩ = some (.int .i64 0) := (blk_cell BK305.out 0).trans rfl; have hcz19_1 : w17.cell? ⟨gb305, 1, none⟩ = some (.slice none 0 0) := (blk_cell BK305.out 1).trans rfl; have hfz19_0 := blk_frozen BK305.out 0; have hfz19_1 := blk_frozen BK305.out 1; obtain ⟨Ao20, co20, eo20⟩ := Kd.R_slice HO303.out; subst eo20) | ((with_reducible refine gate_callee (f := 18) rfl ?_); refine goesL_ (some 24) rfl rfl Tryd.func18 (by kernel_rfl) rfl #[.slice Ao15 t294.length co15, .agg #[.int .i64 t300, .slice Ao20 t301.length co20]] rfl (by (try simp only [List.map_toArray, List.map_cons, List.map_nil]); first | done | rfl | (simp only [List.length_drop, List.length_take]; rfl)) ?_; (with_reducible refine (deviation_Valid.calls _ _ t294 t300 _ _ t301 true _ ?side1 ?side2 ?side3 ?side4 A8.out (by first | exact HL_.out | exact laid_below HL_.out (by repeat (first | (with_reducible first | exact HB.out | apply below_alloc | apply pw_below_drewN | apply below_drew1) | refine below_set ?_ (Aside0.out (by assumption)) | exact HB.out)) | exact laid_drawn HL_.out HD.out | exact laid_drawn HL_.out (HD.out.step _))).mono ?_); (case side1 => refine (Kd.R_reads' (e := 56) (base := w.heap.size) (ok := fun k_ => True) (n := t294.length) (c := co15) ?_).2.2; exact (by (with_reducible repeat (first | apply Kd.R_alloc | apply Kd.R_drewN | apply Kd.R_drew)); exact (Kd.R_mono (Kd.R_far (p := ⟨gb305, 1, none⟩) (Kd.R_far (p := ⟨gb305, 0, none⟩) (Kd.R_types HO296.out BK305.out (by decide)) (fun _ hk => hk.2) (.int .i64 t300)) (fun _ hk => hk.2) (.slice Ao20 t301.length co20)) (fun _ h_ => h_.1)))); (case side2 => exact (Kd.R_reads' HO296.out).2.1); (case side3 => refine (Kd.R_reads' (e := 51) (base := w.heap.size) (ok := fun k_ => True) (n := t301.length) (c := co20) ?_).2.2; exact (by (with_reducible repeat (first | apply Kd.R_alloc | apply Kd.R_drewN | apply Kd.R_drew)); exact (Kd.R_mono (Kd.R_far (p := ⟨gb305, 1, none⟩) (Kd.R_far (p := ⟨gb305, 0, none⟩) (Kd.R_types HO303.out BK305.out (by decide)) (fun _ hk => hk.2) (.int .i64 t300)) (fun _ hk => hk.2) (.slice Ao20 t301.length co20)) (fun _ h_ => h_.1)))); (case side4 => exact (Kd.R_reads' HO303.out).2.1); rintro e w21 ⟨rfl, hb⟩; refine ⟨_, rfl, ?_⟩; have n0_ := Aside0.mk (Kd.R_below (by (with_reducible repeat (first | apply Kd.R_alloc | apply Kd.R_drewN | apply Kd.R_drew)); exact (Kd.R_mono (Kd.R_far (p := ⟨gb305, 1, none⟩) (Kd.R_far (p := ⟨gb305, 0, none⟩) (Kd.R_types HO296.out BK305.out (by decide)) (fun _ hk => hk.2) (.int .i64 t300)) (fun _ hk => hk.2) (.slice Ao20 t301.length co20)) (fun _ h_ => h_.1))) hb); have n1_ := Aside0.mk (Kd.R_below (by (with_reducible repeat (first | apply Kd.R_alloc | apply Kd.R_drewN | apply Kd.R_drew)); exact (Kd.R_mono (Kd.R_far (p := ⟨gb305, 1, none⟩) (Kd.R_far (p := ⟨gb305, 0, none⟩) (Kd.R_types HO303.out BK305.out (by decide)) (fun _ hk => hk.2) (.int .i64 t300)) (fun _ hk => hk.2) (.slice Ao20 t301.length co20)) (fun _ h_ => h_.1))) hb); have n2_ := Aside0.mk (IsS58.below (show IsS58 w ((w17.setCell ⟨gb305, 0, none⟩ (.int .i64 t300)).setCell ⟨gb305, 1, none⟩ (.slice Ao20 t301.length co20)) g293 t291 t304 from by repeat (first | (with_reducible first | exact HI293.out | apply IsS58.alloc | apply IsS58.drewN | apply IsS58.drew | apply IsS58.set_1 | refine IsS58.far ?_ NB293_305.out _) | exact HI293.out)) hb); have n3_ := Aside0.mk (blk_below (g := gb305) (o := .cells #[.int .i64 t300, .slice Ao20 t301.length co20] 39 (0, 0)) (by (with_reducible repeat (first | refine blk_drewN ?_ _ | refine blk_drew ?_ | refine blk_alloc ?_ _)); refine blk_put (cs := #[.int .i64 t300, .slice none 0 0]) ?_ 1 _ rfl; (with_reducible repeat (first | refine blk_drewN ?_ _ | refine blk_drew ?_ | refine blk_alloc ?_ _)); refine blk_put (cs := #[.int .i64 0, .slice none 0 0]) ?_ 0 _ rfl; (with_reducible repeat (first | refine blk_drewN ?_ _ | refine blk_drew ?_ | refine blk_alloc ?_ _)); exact BK305.out) hb); have n4_ := Aside0.mk (below_step (by repeat (first | (with_reducible first | exact HB.out | apply below_alloc | apply pw_below_drewN | apply below_drew1 | refine below_set ?_ (IsS58.ge HI293.out) | refine below_set ?_ GE305.out) | exact HB.out)) hb); clear HO296; clear HO303; clear HI293; clear BK305; clear HB; have HO296 := n0_; have HO303 := n1_; have HI293 := n2_; have BK305 := n3_; have HB := n4_; clear n0_ n1_ n2_ n3_ n4_; (try clear hb); (try clear hb2); (try clear hk); (try clear hi); (try clear hgw); have hcz22_0 : w21.cell? ⟨gb305, 0, none⟩ = some (.int .i64 t300) := (blk_cell BK305.out 0).trans rfl; have hcz22_1 : w21.cell? ⟨gb305, 1, none⟩ = some (.slice Ao20 t301.length co20) := (blk_cell BK305.out 1).trans rfl; have hfz22_0 := blk_frozen BK305.out 0; have hfz22_1 := blk_frozen BK305.out 1))
        go_ret
        exact ⟨by first | rfl | (simp [errW_none, errW_some] <;> rfl) | (simp [*, errW_none, errW_some] <;> rfl), by repeat (first | (with_reducible first | exact HB.out | apply below_alloc | apply pw_below_drewN | apply below_drew1 | refine below_set ?_ (IsS58.ge HI293.out) | refine below_set ?_ GE305.out) | exact HB.out)⟩
      · rw [if_neg c10] at H
        have c10b0 : ((t301.length : Int) == 0) = false := beq_eq_false_iff_ne.mpr c10
        have c10b1 : ((t301.length : Int) != 0) = true := bne_iff_ne.mpr c10
        have c10b2 : ¬ (t301 = []) := fun h_ => c10 (by rw [h_]; rfl)
        replace H := Option.bind_eq_some_iff.mp H
        obtain ⟨⟨t307, t308⟩, A230, H⟩ := H
        replace H : ((some (([] : List (S51)) : List (S51))).bind fun y309 => (if 0 ≤ t307 then (if t307 ≤ (t301.length : Int) then ((some (t301.take (t307 : Int).toNat : List (S51))).bind fun y312 => (if y309.length + y312.length < 8796093022208 then ((some (y309 ++ y312 : List (S51))).bind fun y316 => (if 0 ≤ (wrap64 (t307 + 1)) then (if (wrap64 (t307 + 1)) ≤ (t301.length : Int) then ((some (t301.drop ((wrap64 (t307 + 1)) : Int).toNat : List (S51))).bind fun y319 => (if y316.length + y319.length < 8796093022208 then ((some (y316 ++ y319 : List (S51))).bind fun y323 => ((deviation_Valid.f t294 t300 y323).bind fun t327 => (if t327 = true then ((deviation_Same.f k t300 t301 t300 y323).bind fun t328 => (storagebarterlaw30_DeviationLess.j0 k t294 t307 t328 t300 t301 t300 y323)) else (storagebarterlaw30_DeviationLess.j0 k t294 t307 true t300 t301 t300 y323)))) else (none))) else (none)) else (none))) else (none))) else (none)) else (none))) = some r := H
        have A23 := Aside0.mk A230
        clear A230
        obtain ⟨y309, hy309⟩ : ∃ y_ : List (S51), y_ = (([] : List (S51))) := ⟨_, rfl⟩
        replace H : (if 0 ≤ t307 then (if t307 ≤ (t301.length : Int) then ((some (t301.take (t307 : Int).toNat : List (S51))).bind fun y312 => (if y309.length + y312.length < 8796093022208 then ((some (y309 ++ y312 : List (S51))).bind fun y316 => (if 0 ≤ (wrap64 (t307 + 1)) then (if (wrap64 (t307 + 1)) ≤ (t301.length : Int) then ((some (t301.drop ((wrap64 (t307 + 1)) : Int).toNat : List (S51))).bind fun y319 => (if y316.length + y319.length < 8796093022208 then ((some (y316 ++ y319 : List (S51))).bind fun y323 => ((deviation_Valid.f t294 t300 y323).bind fun t327 => (if t327 = true then ((deviation_Same.f k t300 t301 t300 y323).bind fun t328 => (storagebarterlaw30_DeviationLess.j0 k t294 t307 t328 t300 t301 t300 y323)) else (storagebarterlaw30_DeviationLess.j0 k t294 t307 true t300 t301 t300 y323)))) else (none))) else (none)) else (none))) else (none))) else (none)) else (none)) = some r := by first | (rw [hy309]; with_reducible exact H) | (have H2_ := (Option.bind_some _ _).symm.trans H; rw [hy309]; with_reducible exact H2_) | (have H2_ := (Option.bind_some _ _).symm.trans H; with_reducible exact H2_) | with_reducible exact H | (rw [hy309]; exact H) | exact H
        have Ny309 := Aside0.mk hy309
        clear hy309
        by_cases c24 : 0 ≤ t307
        · rw [if_pos c24] at H
          have c24b0 := eq_true c24
          have c24b1 : decide (0 ≤ t307) = true := decide_eq_true c24
          clear c24
          by_cases c25 : t307 ≤ (t301.length : Int)
          · rw [if_pos c25] at H
            have c25b0 := eq_true c25
            have c25b1 : decide (t307 ≤ (t301.length : Int)) = true := decide_eq_true c25
            clear c25
            obtain ⟨y312, hy312⟩ : ∃ y_ : List (S51), y_ = (t301.take (t307 : Int).toNat) := ⟨_, rfl⟩
            replace H : (if y309.length + y312.length < 8796093022208 then ((some (y309 ++ y312 : List (S51))).bind fun y316 => (if 0 ≤ (wrap64 (t307 + 1)) then (if (wrap64 (t307 + 1)) ≤ (t301.length : Int) then ((some (t301.drop ((wrap64 (t307 + 1)) : Int).toNat : List (S51))).bind fun y319 => (if y316.length + y319.length < 8796093022208 then ((some (y316 ++ y319 : List (S51))).bind fun y323 => ((deviation_Valid.f t294 t300 y323).bind fun t327 => (if t327 = true then ((deviation_Same.f k t300 t301 t300 y323).bind fun t328 => (storagebarterlaw30_DeviationLess.j0 k t294 t307 t328 t300 t301 t300 y323)) else (storagebarterlaw30_DeviationLess.j0 k t294 t307 true t300 t301 t300 y323)))) else (none))) else (none)) else (none))) else (none)) = some r := by first | (rw [hy312]; with_reducible exact H) | (have H2_ := (Option.bind_some _ _).symm.trans H; rw [hy312]; with_reducible exact H2_) | (have H2_ := (Option.bind_some _ _).symm.trans H; with_reducible exact H2_) | with_reducible exact H | (rw [hy312]; exact H) | exact H
            have Ny312 := Aside0.mk hy312
            clear hy312
            by_cases c26 : y309.length + y312.length < 8796093022208
            · rw [if_pos c26] at H
              have LMc26 := Aside0.mk c26
              clear c26
              obtain ⟨y316, hy316⟩ : ∃ y_ : List (S51), y_ = (y309 ++ y312) := ⟨_, rfl⟩
              replace H : (if 0 ≤ (wrap64 (t307 + 1)) then (if (wrap64 (t307 + 1)) ≤ (t301.length : Int) then ((some (t301.drop ((wrap64 (t307 + 1)) : Int).toNat : List (S51))).bind fun y319 => (if y316.length + y319.length < 8796093022208 then ((some (y316 ++ y319 : List (S51))).bind fun y323 => ((deviation_Valid.f t294 t300 y323).bind fun t327 => (if t327 = true then ((deviation_Same.f k t300 t301 t300 y323).bind fun t328 => (storagebarterlaw30_DeviationLess.j0 k t294 t307 t328 t300 t301 t300 y323)) else (storagebarterlaw30_DeviationLess.j0 k t294 t307 true t300 t301 t300 y323)))) else (none))) else (none)) else (none)) = some r := by first | (rw [hy316]; with_reducible exact H) | (have H2_ := (Option.bind_some _ _).symm.trans H; rw [hy316]; with_reducible exact H2_) | (have H2_ := (Option.bind_some _ _).symm.trans H; with_reducible exact H2_) | with_reducible exact H | (rw [hy316]; exact H) | exact H
              have Ny316 := Aside0.mk hy316
              clear hy316
              obtain ⟨ji27, hji27⟩ : ∃ j_ : Int, (wrap64 (t307 + 1)) = j_ := ⟨_, rfl⟩
              replace H : (if 0 ≤ (ji27) then (if (ji27) ≤ (t301.length : Int) then ((some (t301.drop ((ji27) : Int).toNat : List (S51))).bind fun y319 => (if y316.length + y319.length < 8796093022208 then ((some (y316 ++ y319 : List (S51))).bind fun y323 => ((deviation_Valid.f t294 t300 y323).bind fun t327 => (if t327 = true then ((deviation_Same.f k t300 t301 t300 y323).bind fun t328 => (storagebarterlaw30_DeviationLess.j0 k t294 t307 t328 t300 t301 t300 y323)) else (storagebarterlaw30_DeviationLess.j0 k t294 t307 true t300 t301 t300 y323)))) else (none))) else (none)) else (none)) = some r := by first | (rw [hji27] at H; exact H) | (simp only [hji27] at H ⊢; exact H)
              (try rw [hji27] at A2)
              (try rw [hji27] at A4)
              (try rw [hji27] at A5)
              (try rw [hji27] at A6)
              (try rw [hji27] at A7)
              (try rw [hji27] at A8)
              (try rw [hji27] at A23)
              have hji27w : (IntKind.i64.wrap (t307 + 1)) = ji27 := (i64_w _).trans hji27
              by_cases c28 : 0 ≤ (ji27)
              · rw [if_pos c28] at H
                have c28b0 := eq_true c28
                have c28b1 : decide (0 ≤ (ji27)) = true := decide_eq_true c28
                clear c28
                by_cases c29 : (ji27) ≤ (t301.length : Int)
                · rw [if_pos c29] at H
                  have c29b0 := eq_true c29
                  have c29b1 : decide ((ji27) ≤ (t301.length : Int)) = true := decide_eq_true c29
                  clear c29
                  obtain ⟨y319, hy319⟩ : ∃ y_ : List (S51), y_ = (t301.drop ((ji27) : Int).toNat) := ⟨_, rfl⟩
                  replace H : (if y316.length + y319.length < 8796093022208 then ((some (y316 ++ y319 : List (S51))).bind fun y323 => ((deviation_Valid.f t294 t300 y323).bind fun t327 => (if t327 = true then ((deviation_Same.f k t300 t301 t300 y323).bind fun t328 => (storagebarterlaw30_DeviationLess.j0 k t294 t307 t328 t300 t301 t300 y323)) else (storagebarterlaw30_DeviationLess.j0 k t294 t307 true t300 t301 t300 y323)))) else (none)) = some r := by first | (rw [hy319]; with_reducible exact H) | (have H2_ := (Option.bind_some _ _).symm.trans H; rw [hy319]; with_reducible exact H2_) | (have H2_ := (Option.bind_some _ _).symm.trans H; with_reducible exact H2_) | with_reducible exact H | (rw [hy319]; exact H) | exact H
                  have Ny319 := Aside0.mk hy319
                  clear hy319
                  by_cases c30 : y316.length + y319.length < 8796093022208
                  · rw [if_pos c30] at H
                    have LMc30 := Aside0.mk c30
                    clear c30
                    obtain ⟨y323, hy323⟩ : ∃ y_ : List (S51), y_ = (y316 ++ y319) := ⟨_, rfl⟩
                    replace H : ((deviation_Valid.f t294 t300 y323).bind fun t327 => (if t327 = true then ((deviation_Same.f k t300 t301 t300 y323).bind fun t328 => (storagebarterlaw30_DeviationLess.j0 k t294 t307 t328 t300 t301 t300 y323)) else (storagebarterlaw30_DeviationLess.j0 k t294 t307 true t300 t301 t300 y323))) = some r := by first | (rw [hy323]; with_reducible exact H) | (have H2_ := (Option.bind_some _ _).symm.trans H; rw [hy323]; with_reducible exact H2_) | (have H2_ := (Option.bind_some _ _).symm.trans H; with_reducible exact H2_) | with_reducible exact H | (rw [hy323]; exact H) | exact H
                    have Ny323 := Aside0.mk hy323
                    clear hy323
                    have HC31 := Aside0.mk H
                    clear H
                    go_enter Tryd.func7, Tryd.ntmps7
                    try go_wp2_with (first | ((with_reducible refine gate_callee (f := 8) rfl ?_); refine goesL_ (some 10) rfl rfl Tryd.func8 (by kernel_rfl) rfl #[] rfl (by (try simp only [List.map_toArray, List.map_cons, List.map_nil]); first | done | rfl | (simp only [List.length_drop, List.length_take]; rfl)) ?_; (with_reducible refine (storagebarterlaw30_sane.calls k  true _ A2.out (by first | exact HL_.out | exact laid_below HL_.out (by repeat (first | (with_reducible first | exact HB.out | apply below_alloc | apply pw_below_drewN | apply below_drew1) | refine below_set ?_ (Aside0.out (by assumption)) | exact HB.out)) | exact laid_drawn HL_.out HD.out | exact laid_drawn HL_.out (HD.out.step _))).mono ?_); rintro e w32 ⟨rfl, hb⟩; refine ⟨_, rfl, ?_⟩; have n0_ := Aside0.mk (below_step (by repeat (first | (with_reducible first | exact HB.out | apply below_alloc | apply pw_below_drewN | apply below_drew1) | exact HB.out)) hb); clear HB; have HB := n0_; clear n0_; (try clear hb); (try clear hb2); (try clear hk); (try clear hi); (try clear hgw)) | ((with_reducible refine gate_callee (f := 9) rfl ?_); refine goesL_ (some 13) rfl rfl Tryd.func9 (by kernel_rfl) rfl #[.slice A0 l0.length c0] rfl (by (try simp only [List.map_toArray, List.map_cons, List.map_nil]); first | done | rfl | (simp only [List.length_drop, List.length_take]; rfl)) ?_; (with_reducible refine (storagebarterplay_New.calls _ _ l0 t291 t292 w _ ?side1 ?side2 ?side3 A4.out).mono ?_); (case side1 => repeat (first | (with_reducible first | exact HB.out | apply below_alloc | apply pw_below_drewN | apply below_drew1) | exact HB.out)); (case side2 => exact HR0.out); (case side3 => exact HC0.out); rintro e w33 ⟨g293, rfl, hi, hb, hb2, hgw⟩; refine ⟨_, rfl, ?_⟩; have n0_ := Aside0.mk (hb); have n1_ := Aside0.mk (hi); clear HB; have HB := n0_; have HI293 := n1_; clear n0_ n1_; (try clear hb); (try clear hb2); (try clear hk); (try clear hi); (try clear hgw)) | ((with_reducible refine gate_callee (f := 10) rfl ?_); refine goesL_ (some 15) rfl rfl Tryd.func10 (by kernel_rfl) rfl #[.pointer (some ⟨g293, 0, none⟩)] rfl (by (try simp only [List.map_toArray, List.map_cons, List.map_nil]); first | done | rfl | (simp only [List.length_drop, List.length_take]; rfl)) ?_; (with_reducible refine (storagebarterlaw30_plan.calls k g293 t291 t292 t294 t297 w _ ?side1 ?side2 A5.out).mono ?_); (case side1 => repeat (first | (with_reducible first | exact HI293.out | apply IsS58.alloc | apply IsS58.drewN | apply IsS58.drew | apply IsS58.set_1) | exact HI293.out)); (case side2 => repeat (first | (with_reducible first | exact HB.out | apply below_alloc | apply pw_below_drewN | apply below_drew1 | refine below_set ?_ (IsS58.ge HI293.out)) | exact HB.out)); rintro e w34 ⟨v295, rfl, ho0, hi, hb, hk⟩; refine ⟨_, rfl, ?_⟩; have n0_ := Aside0.mk (Kd.R_lower ho0 (below_size (by repeat (first | (with_reducible first | exact HB.out | apply below_alloc | apply pw_below_drewN | apply below_drew1 | refine below_set ?_ (IsS58.ge HI293.out)) | exact HB.out)))); have n1_ := Aside0.mk (hb); have n2_ := Aside0.mk (hi); clear HB; clear HI293; have HO296 := n0_; have HB := n1_; have HI293 := n2_; clear n0_ n1_ n2_; (try clear hb); (try clear hb2); (try clear hk); (try clear hi); (try clear hgw); (try clear ho0)) | ((with_reducible refine gate_callee (f := 11) rfl ?_); refine goesL_ (some 19) rfl rfl Tryd.func11 (by kernel_rfl) rfl #[.pointer (some ⟨g293, 0, none⟩), .int .i64 3] rfl (by (try simp only [List.map_toArray, List.map_cons, List.map_nil]); first | done | rfl | (simp only [List.length_drop, List.length_take]; rfl)) ?_; (with_reducible refine (storagebarterplay_Dice_Pick.calls g293 t291 t297 3 t298 t299 w _ ?side1 ?side2 A6.out).mono ?_); (case side1 => repeat (first | (with_reducible first | exact HI293.out | apply IsS58.alloc | apply IsS58.drewN | apply IsS58.drew | apply IsS58.set_1) | exact HI293.out)); (case side2 => repeat (first | (with_reducible first | exact HB.out | apply below_alloc | apply pw_below_drewN | apply below_drew1 | refine below_set ?_ (IsS58.ge HI293.out)) | exact HB.out)); rintro e w35 ⟨rfl, hi, hb, hk⟩; refine ⟨_, rfl, ?_⟩; have n0_ := Aside0.mk (Kd.R_mono (Kd.R_keep (IsS58.apart (show IsS58 w _ g293 t291 t297 from by repeat (first | (with_reducible first | exact HI293.out | apply IsS58.alloc | apply IsS58.drewN | apply IsS58.drew | apply IsS58.set_1) | exact HI293.out)) (by (with_reducible repeat (first | apply Kd.R_alloc | apply Kd.R_drewN | apply Kd.R_drew)); exact HO296.out) (by decide)) hk (fun _ h => h.2)) (fun _ h => h.1)); have n1_ := Aside0.mk (hb); have n2_ := Aside0.mk (hi); clear HO296; clear HB; clear HI293; have HO296 := n0_; have HB := n1_; have HI293 := n2_; clear n0_ n1_ n2_; (try clear hb); (try clear hb2); (try clear hk); (try clear hi); (try clear hgw); obtain ⟨Ao36, co36, eo36⟩ := Kd.R_slice HO296.out; subst eo36) | ((with_reducible refine gate_callee (f := 17) rfl ?_); refine goesL_ (some 21) rfl rfl Tryd.func17 (by kernel_rfl) rfl #[.pointer (some ⟨g293, 0, none⟩), .slice Ao36 t294.length co36, .int .i64 (wrap64 (1 + t298)), .int .i64 5] rfl (by (try simp only [List.map_toArray, List.map_cons, List.map_nil]); first | done | rfl | (simp only [List.length_drop, List.length_take]; rfl)) ?_; (with_reducible refine (storagebarterplay_Dice_Deviation.calls k g293 t291 t299 _ _ t294 (wrap64 (1 + t298)) 5 t300 t301 t304 w _ ?side1 ?side2 ?side3 ?side4 A7.out).mono ?_); (case side1 => repeat (first | (with_reducible first | exact HI293.out | apply IsS58.alloc | apply IsS58.drewN | apply IsS58.drew | apply IsS58.set_1) | exact HI293.out)); (case side2 => repeat (first | (with_reducible first | exact HB.out | apply below_alloc | apply pw_below_drewN | apply below_drew1 | refine below_set ?_ (IsS58.ge HI293.out)) | exact HB.out)); (case side3 => exact Kd.C_foot_own (IsS58.apart (show IsS58 w _ g293 t291 t299 from by repeat (first | (with_reducible first | exact HI293.out | apply IsS58.alloc | apply IsS58.drewN | apply IsS58.drew | apply IsS58.set_1) | exact HI293.out)) (by (with_reducible repeat (first | apply Kd.R_alloc | apply Kd.R_drewN | apply Kd.R_drew)); exact HO296.out) (by decide)) (fun _ h_ => h_.2)); (case side4 => exact (Kd.R_reads' HO296.out).2.1); rintro e w37 ⟨v302, rfl, ho0, hi, hb, hk⟩; refine ⟨_, rfl, ?_⟩; have n0_ := Aside0.mk (Kd.R_mono (Kd.R_keep (IsS58.apart (show IsS58 w _ g293 t291 t299 from by repeat (first | (with_reducible first | exact HI293.out | apply IsS58.alloc | apply IsS58.drewN | apply IsS58.drew | apply IsS58.set_1) | exact HI293.out)) (by (with_reducible repeat (first | apply Kd.R_alloc | apply Kd.R_drewN | apply Kd.R_drew)); exact HO296.out) (by decide)) hk (fun _ h => h.2)) (fun _ h => h.1)); have n1_ := Aside0.mk (Kd.R_lower ho0 (below_size (by repeat (first | (with_reducible first | exact HB.out | apply below_alloc | apply pw_below_drewN | apply below_drew1 | refine below_set ?_ (IsS58.ge HI293.out)) | exact HB.out)))); have n2_ := Aside0.mk (hb); have n3_ := Aside0.mk (hi); clear HO296; clear HB; clear HI293; have HO296 := n0_; have HO303 := n1_; have HB := n2_; have HI293 := n3_; clear n0_ n1_ n2_ n3_; (try clear hb); (try clear hb2); (try clear hk); (try clear hi); (try clear hgw); (try clear ho0)) | ((with_reducible refine gate_dst (N := 5) rfl ?_); refine box_event ?hg (N := 5) ?hd (cs := #[.int .i64 0, .slice none 0 0]) (t := 39) ?hr ?_; (case hd => rfl); (case hg => rfl); (case hr => first | (go_simp; done) | (go_simp; rfl)); intro gb305 hg w38 hbox hb; have n0_ := Aside0.mk (Kd.R_below (by (with_reducible repeat (first | apply Kd.R_alloc | apply Kd.R_drewN | apply Kd.R_drew)); exact HO296.out) hb); have n1_ := Aside0.mk (Kd.R_below (by (with_reducible repeat (first | apply Kd.R_alloc | apply Kd.R_drewN | apply Kd.R_drew)); exact HO303.out) hb); have n2_ := Aside0.mk (IsS58.below (by repeat (first | (with_reducible first | exact HI293.out | apply IsS58.alloc | apply IsS58.drewN | apply IsS58.drew | apply IsS58.set_1) | exact HI293.out)) hb); have n3_ := Aside0.mk (below_step (by repeat (first | (with_reducible first | exact HB.out | apply below_alloc | apply pw_below_drewN | apply below_drew1 | refine below_set ?_ (IsS58.ge HI293.out)) | exact HB.out)) hb); have n4_ := Aside0.mk (hbox); have n5_ := Aside0.mk ((by rw [hg]; exact (below_size (by repeat (first | (with_reducible first | exact HB.out | apply below_alloc | apply pw_below_drewN | apply below_drew1 | refine below_set ?_ (IsS58.ge HI293.out)) | exact HB.out))) : w.heap.size ≤ gb305)); have n6_ := Aside0.mk ((by rw [hg]; exact (below_size (by repeat (first | (with_reducible first | exact HB.out | apply below_alloc | apply pw_below_drewN | apply below_drew1 | refine below_set ?_ (IsS58.ge HI293.out)) | exact HB.out))) : w.heap.size ≤ gb305)); have n7_ := Aside0.mk ((by rw [hg]; exact Nat.ne_of_lt (IsS58.lt (show IsS58 w _ g293 t291 t304 from by repeat (first | (with_reducible first | exact HI293.out | apply IsS58.alloc | apply IsS58.drewN | apply IsS58.drew | apply IsS58.set_1) | exact HI293.out))) : g293 ≠ gb305)); have n8_ := Aside0.mk ((by rw [hg]; exact Nat.ne_of_gt (IsS58.lt (show IsS58 w _ g293 t291 t304 from by repeat (first | (with_reducible first | exact HI293.out | apply IsS58.alloc | apply IsS58.drewN | apply IsS58.drew | apply IsS58.set_1) | exact HI293.out))) : gb305 ≠ g293)); clear HO296; clear HO303; clear HI293; clear HB; have HO296 := n0_; have HO303 := n1_; have HI293 := n2_; have HB := n3_; have BK305 := n4_; have GW305 := n5_; have GE305 := n6_; have NB293_305 := n7_; have NB305_293 := n8_; clear n0_ n1_ n2_ n3_ n4_ n5_ n6_ n7_ n8_; clear hb hbox hg; have hnb39 := NB305_293.out; have hnc39 := NB293_305.out; have hcz40_0 : w38.cell? ⟨gb305, 0, none⟩ = some (.int .i64 0) := (blk_cell BK305.out 0).trans rfl; have hcz40_1 : w38.cell? ⟨gb305, 1, none⟩ = some (.slice none 0 0) := (blk_cell BK305.out 1).trans rfl; have hfz40_0 := blk_frozen BK305.out 0; have hfz40_1 := blk_frozen BK305.out 1; obtain ⟨Ao41, co41, eo41⟩ := Kd.R_slice HO303.out; subst eo41) | ((with_reducible refine gate_callee (f := 18) rfl ?_); refine goesL_ (some 24) rfl rfl Tryd.func18 (by kernel_rfl) rfl #[.slice Ao36 t294.length co36, .agg #[.int .i64 t300, .slice Ao41 t301.length co41]] rfl (by (try simp only [List.map_toArray, List.map_cons, List.map_nil]); first | done | rfl | (simp only [List.length_drop, List.length_take]; rfl)) ?_; (with_reducible refine (deviation_Valid.calls _ _ t294 t300 _ _ t301 true _ ?side1 ?side2 ?side3 ?side4 A8.out (by first | exact HL_.out | exact laid_below HL_.out (by repeat (first | (with_reducible first | exact HB.out | apply below_alloc | apply pw_below_drewN | apply below_drew1) | refine below_set ?_ (Aside0.out (by assumption)) | exact HB.out)) | exact laid_drawn HL_.out HD.out | exact laid_drawn HL_.out (HD.out.step _))).mono ?_); (case side1 => refine (Kd.R_reads' (e := 56) (base := w.heap.size) (ok := fun k_ => True) (n := t294.length) (c := co36) ?_).2.2; exact (by (with_reducible repeat (first | apply Kd.R_alloc | apply Kd.R_drewN | apply Kd.R_drew)); exact (Kd.R_mono (Kd.R_far (p := ⟨gb305, 1, none⟩) (Kd.R_far (p := ⟨gb305, 0, none⟩) (Kd.R_types HO296.out BK305.out (by decide)) (fun _ hk => hk.2) (.int .i64 t300)) (fun _ hk => hk.2) (.slice Ao41 t301.length co41)) (fun _ h_ => h_.1)))); (case side2 => exact (Kd.R_reads' HO296.out).2.1); (case side3 => refine (Kd.R_reads' (e := 51) (base := w.heap.size) (ok := fun k_ => True) (n := t301.length) (c := co41) ?_).2.2; exact (by (with_reducible repeat (first | apply Kd.R_alloc | apply Kd.R_drewN | apply Kd.R_drew)); exact (Kd.R_mono (Kd.R_far (p := ⟨gb305, 1, none⟩) (Kd.R_far (p := ⟨gb305, 0, none⟩) (Kd.R_types HO303.out BK305.out (by decide)) (fun _ hk => hk.2) (.int .i64 t300)) (fun _ hk => hk.2) (.slice Ao41 t301.length co41)) (fun _ h_ => h_.1)))); (case side4 => exact (Kd.R_reads' HO303.out).2.1); rintro e w42 ⟨rfl, hb⟩; refine ⟨_, rfl, ?_⟩; have n0_ := Aside0.mk (Kd.R_below (by (with_reducible repeat (first | apply Kd.R_alloc | apply Kd.R_drewN | apply Kd.R_drew)); exact (Kd.R_mono (Kd.R_far (p := ⟨gb305, 1, none⟩) (Kd.R_far (p := ⟨gb305, 0, none⟩) (Kd.R_types HO296.out BK305.out (by decide)) (fun _ hk => hk.2) (.int .i64 t300)) (fun _ hk => hk.2) (.slice Ao41 t301.length co41)) (fun _ h_ => h_.1))) hb); have n1_ := Aside0.mk (Kd.R_below (by (with_reducible repeat (first | apply Kd.R_alloc | apply Kd.R_drewN | apply Kd.R_drew)); exact (Kd.R_mono (Kd.R_far (p := ⟨gb305, 1, none⟩) (Kd.R_far (p := ⟨gb305, 0, none⟩) (Kd.R_types HO303.out BK305.out (by decide)) (fun _ hk => hk.2) (.int .i64 t300)) (fun _ hk => hk.2) (.slice Ao41 t301.length co41)) (fun _ h_ => h_.1))) hb); have n2_ := Aside0.mk (IsS58.below (show IsS58 w ((w38.setCell ⟨gb305, 0, none⟩ (.int .i64 t300)).setCell ⟨gb305, 1, none⟩ (.slice Ao41 t301.length co41)) g293 t291 t304 from by repeat (first | (with_reducible first | exact HI293.out | apply IsS58.alloc | apply IsS58.drewN | apply IsS58.drew | apply IsS58.set_1 | refine IsS58.far ?_ NB293_305.out _) | exact HI293.out)) hb); have n3_ := Aside0.mk (blk_below (g := gb305) (o := .cells #[.int .i64 t300, .slice Ao41 t301.length co41] 39 (0, 0)) (by (with_reducible repeat (first | refine blk_drewN ?_ _ | refine blk_drew ?_ | refine blk_alloc ?_ _)); refine blk_put (cs := #[.int .i64 t300, .slice none 0 0]) ?_ 1 _ rfl; (with_reducible repeat (first | refine blk_drewN ?_ _ | refine blk_drew ?_ | refine blk_alloc ?_ _)); refine blk_put (cs := #[.int .i64 0, .slice none 0 0]) ?_ 0 _ rfl; (with_reducible repeat (first | refine blk_drewN ?_ _ | refine blk_drew ?_ | refine blk_alloc ?_ _)); exact BK305.out) hb); have n4_ := Aside0.mk (below_step (by repeat (first | (with_reducible first | exact HB.out | apply below_alloc | apply pw_below_drewN | apply below_drew1 | refine below_set ?_ (IsS58.ge HI293.out) | refine below_set ?_ GE305.out) | exact HB.out)) hb); clear HO296; clear HO303; clear HI293; clear BK305; clear HB; have HO296 := n0_; have HO303 := n1_; have HI293 := n2_; have BK305 := n3_; have HB := n4_; clear n0_ n1_ n2_ n3_ n4_; (try clear hb); (try clear hb2); (try clear hk); (try clear hi); (try clear hgw); have hcz43_0 : w42.cell? ⟨gb305, 0, none⟩ = some (.int .i64 t300) := (blk_cell BK305.out 0).trans rfl; have hcz43_1 : w42.cell? ⟨gb305, 1, none⟩ = some (.slice Ao41 t301.length co41) := (blk_cell BK305.out 1).trans rfl; have hfz43_0 := blk_frozen BK305.out 0; have hfz43_1 := blk_frozen BK305.out 1) | ((with_reducible refine gate_callee (f := 11) rfl ?_); refine goesL_ (some 34) rfl rfl Tryd.func11 (by kernel_rfl) rfl #[.pointer (some ⟨g293, 0, none⟩), .int .i64 (t301.length : Int)] rfl (by (try simp only [List.map_toArray, List.map_cons, List.map_nil]); first | done | rfl | (simp only [List.length_drop, List.length_take]; rfl)) ?_; (with_reducible refine (storagebarterplay_Dice_Pick.calls g293 t291 t304 (t301.length : Int) t307 t308 w _ ?side1 ?side2 A23.out).mono ?_); (case side1 => repeat (first | (with_reducible first | exact HI293.out | apply IsS58.alloc | apply IsS58.drewN | apply IsS58.drew | apply IsS58.set_1 | refine IsS58.far ?_ NB293_305.out _) | exact HI293.out)); (case side2 => repeat (first | (with_reducible first | exact HB.out | apply below_alloc | apply pw_below_drewN | apply below_drew1 | refine below_set ?_ (IsS58.ge HI293.out) | refine below_set ?_ GE305.out) | exact HB.out)); rintro e w44 ⟨rfl, hi, hb, hk⟩; refine ⟨_, rfl, ?_⟩; have n0_ := Aside0.mk (Kd.R_mono (Kd.R_keep (IsS58.apart (show IsS58 w _ g293 t291 t304 from by repeat (first | (with_reducible first | exact HI293.out | apply IsS58.alloc | apply IsS58.drewN | apply IsS58.drew | apply IsS58.set_1 | refine IsS58.far ?_ NB293_305.out _) | exact HI293.out)) (by (with_reducible repeat (first | apply Kd.R_alloc | apply Kd.R_drewN | apply Kd.R_drew)); exact HO296.out) (by decide)) hk (fun _ h => h.2)) (fun _ h => h.1)); have n1_ := Aside0.mk (Kd.R_mono (Kd.R_keep (IsS58.apart (show IsS58 w _ g293 t291 t304 from by repeat (first | (with_reducible first | exact HI293.out | apply IsS58.alloc | apply IsS58.drewN | apply IsS58.drew | apply IsS58.set_1 | refine IsS58.far ?_ NB293_305.out _) | exact HI293.out)) (by (with_reducible repeat (first | apply Kd.R_alloc | apply Kd.R_drewN | apply Kd.R_drew)); exact HO303.out) (by decide)) hk (fun _ h => h.2)) (fun _ h => h.1)); have n2_ := Aside0.mk (KeepBut.blk hk (g' := gb305) (o := .cells #[.int .i64 t300, .slice Ao41 t301.length co41] 39 (0, 0)) (by (with_reducible repeat (first | refine blk_drewN ?_ _ | refine blk_drew ?_ | refine blk_alloc ?_ _)); exact BK305.out) NB305_293.out (by simp)); have n3_ := Aside0.mk (hb); have n4_ := Aside0.mk (hi); clear HO296; clear HO303; clear BK305; clear HB; clear HI293; have HO296 := n0_; have HO303 := n1_; have BK305 := n2_; have HB := n3_; have HI293 := n4_; clear n0_ n1_ n2_ n3_ n4_; (try clear hb); (try clear hb2); (try clear hk); (try clear hi); (try clear hgw)))
                    have n0_ := Aside0.mk (Kd.R_drew HO296.out)
                    have n1_ := Aside0.mk (Kd.R_drew HO303.out)
                    have n2_ := Aside0.mk (blk_drew BK305.out)
                    have n3_ := Aside0.mk (IsS58.drew HI293.out)
                    have n4_ := Aside0.mk (below_drew1 HB.out)
                    clear HO296
                    clear HO303
                    clear BK305
                    clear HI293
                    clear HB
                    have HO296 := n0_
                    have HO303 := n1_
                    have BK305 := n2_
                    have HI293 := n3_
                    have HB := n4_
                    clear n0_ n1_ n2_ n3_ n4_
                    have q46 : (t307 : Int) ≤ ((t301.length : Int) : Int) := of_decide_eq_true (by first | (with_reducible assumption) | assumption)
                    obtain ⟨i046, hi046, _, hsz46, _⟩ := info_parts info51
                    have hroom46 : t301.length ≤ co41 := (Kd.R_reads' HO303.out).2.1
                    have hC46 : Kd.C k51 _ Ao41 t301.length t301 := (Kd.R_reads' HO303.out).2.2
                    have hcut46 := cut_to (P := Tryd.prog) 37 51 .i64 Tryd.underlying37 hi046 Ao41 t301.length co41 t307 (of_decide_eq_true (by first | (with_reducible assumption) | assumption)) q46 hroom46
                    have hr46 := Kd.C_take (m := (t307 : Int).toNat) hC46 (by omega)
                    have hy46 : y312.length = (t307 : Int).toNat := (by rw [Ny312.out, List.length_take]; omega)
                    rw [← Ny312.out] at hr46
                    rw [← hy46] at hcut46
                    have HR315 := Aside0.mk hr46
                    have HC315 := Aside0.mk (show y312.length ≤ co41 from by omega)
                    clear hr46 hC46 hroom46 hi046 hsz46
                    have KY46 := Aside0.mk hy46
                    clear hy46
                    have KL46 := Aside0.mk (show (t307 : Int).toNat ≤ t301.length from by omega)
                    replace q46 := eq_true q46
                    have q47 : ((ji27) : Int) ≤ ((t301.length : Int) : Int) := of_decide_eq_true (by first | (with_reducible assumption) | assumption)
                    obtain ⟨i047, hi047, _, hsz47, _⟩ := info_parts info51
                    have hroom47 : t301.length ≤ co41 := (Kd.R_reads' HO303.out).2.1
                    have hC47 : Kd.C k51 _ Ao41 t301.length t301 := (Kd.R_reads' HO303.out).2.2
                    have q047 : (0 : Int) ≤ ((ji27) : Int) := of_decide_eq_true (by first | (with_reducible assumption) | assumption)
                    have hcut47 := cut_from (P := Tryd.prog) 37 51 .i64 Tryd.underlying37 hi047 2 hsz47 Ao41 t301.length co41 (ji27) q047 q47
                    have hr47 := Kd.C_drop (m := ((ji27) : Int).toNat) (c := co41) hC47 (by omega) hroom47
                    obtain ⟨A47, hA47⟩ : ∃ A1, A1 = (if co41 = ((ji27) : Int).toNat then Ao41 else (Ao41 : Option Addr).map (·.add (((ji27) : Int).toNat * 2))) := ⟨_, rfl⟩
                    obtain ⟨c47, hc47⟩ : ∃ c1, c1 = co41 - ((ji27) : Int).toNat := ⟨_, rfl⟩
                    have hy47 : y319.length = t301.length - ((ji27) : Int).toNat := (by rw [Ny319.out, List.length_drop] <;> omega)
                    rw [show (t301).drop ((ji27) : Int).toNat = y319 from Ny319.out.symm] at hr47
                    replace hr47 : Kd.C k51 _ A47 y319.length y319 := (by rw [hA47]; exact hr47)
                    rw [← hy47, ← hA47, ← hc47] at hcut47
                    have HR322 := Aside0.mk hr47
                    have HC322 := Aside0.mk (show y319.length ≤ c47 from by rw [hy47, hc47]; exact Nat.sub_le_sub_right hroom47 _)
                    clear hr47 hC47 hroom47 hi047 hsz47 hc47
                    have KY47 := Aside0.mk hy47
                    have KA47 := Aside0.mk hA47
                    clear hy47 hA47
                    have KL47 := Aside0.mk (show ((ji27) : Int).toNat ≤ t301.length from by omega)
                    replace q47 := eq_true q47
                    refine start_ (n := 17) (S := fun w' => w'.cell? ⟨gb305, 0, none⟩ = some (.int .i64 t300) ∧ w'.cell? ⟨gb305, 1, none⟩ = some (.slice Ao41 t301.length co41)) (ds := []) #[false, false, false, false, false, false, false, false, false, false, false, false, false, false, false, false, false] (by kernel_rfl) rfl rfl ⟨(blk_cell BK305.out 0).trans rfl, (blk_cell BK305.out 1).trans rfl⟩ (fun hHeld => ?_); refine with_tabW storagebarterlaw30_DeviationLess.tab11 storagebarterlaw30_DeviationLess.bits11 (fun HT_ HW_ => ?_)
                    generalize w44.drew = w45 at HO296 HO303 BK305 HI293 HB HR315 HR322 hHeld ⊢
                    refine pure_ (i := 0) (N := some 35) (v := ?_) (a' := ?_) #[true, false, false, false, false, false, false, false, false, false, false, false, false, false, false, false, false] rfl rfl (any_of HT_.out (by kernel_rfl)) (fun _ _ _ h => h) (Or.inl ⟨by rfl, ?_⟩) ?_ ?_
                    rotate_left
                    · intro w'
                      go_simp
                      with_reducible rfl
                    rotate_left
                    · simp only [Act.put, List.setIfInBounds_toArray, List.set_cons_zero, List.set_cons_succ, i64_w, i32_w]
                      rfl
                    refine pure_ (i := 3) (N := some 38) (v := ?_) (a' := ?_) #[true, false, false, true, false, false, false, false, false, false, false, false, false, false, false, false, false] rfl rfl (any_of HT_.out (by kernel_rfl)) (fun _ _ _ h => h) (Or.inl ⟨by rfl, ?_⟩) ?_ ?_
                    rotate_left
                    · intro w'
                      go_simp
                      with_reducible rfl
                    rotate_left
                    · simp only [Act.put, List.setIfInBounds_toArray, List.set_cons_zero, List.set_cons_succ, i64_w, i32_w]
                      rfl
                    refine pure_ (i := 5) (N := some 40) (v := ?_) (a' := ?_) #[true, false, false, true, false, true, false, false, false, false, false, false, false, false, false, false, false] rfl rfl (any_of HT_.out (by kernel_rfl)) (fun _ _ _ h => h) (Or.inl ⟨by rfl, ?_⟩) ?_ ?_
                    rotate_left
                    · intro w'
                      go_simp
                      with_reducible rfl
                    rotate_left
                    · simp only [Act.put, List.setIfInBounds_toArray, List.set_cons_zero, List.set_cons_succ, i64_w, i32_w]
                      rfl
                    refine pure_ (i := 8) (N := some 43) (v := ?_) (a' := ?_) #[true, false, false, true, false, true, false, false, true, false, false, false, false, false, false, false, false] rfl rfl (any_of HT_.out (by kernel_rfl)) (fun _ _ _ h => h) (Or.inl ⟨by rfl, ?_⟩) ?_ ?_
                    rotate_left
                    · intro w'
                      go_simp
                      with_reducible rfl
                    rotate_left
                    · simp only [Act.put, List.setIfInBounds_toArray, List.set_cons_zero, List.set_cons_succ, i64_w, i32_w]
                      rfl
                    refine pure_ (i := 10) (N := some 45) (v := ?_) (a' := ?_) #[true, false, false, true, false, true, false, false, true, false, true, false, false, false, false, false, false] rfl rfl (any_of HT_.out (by kernel_rfl)) (fun _ _ _ h => h) (Or.inl ⟨by rfl, ?_⟩) ?_ ?_
                    rotate_left
                    · intro w'
                      go_simp
                      with_reducible rfl
                    rotate_left
                    · simp only [Act.put, List.setIfInBounds_toArray, List.set_cons_zero, List.set_cons_succ, i64_w, i32_w]
                      rfl
                    refine pure_ (i := 11) (N := some 46) (v := ?_) (a' := ?_) #[true, false, false, true, false, true, false, false, true, false, true, true, false, false, false, false, false] rfl rfl (any_of HT_.out (by kernel_rfl)) (fun _ _ _ h => h) (Or.inl ⟨by rfl, ?_⟩) ?_ ?_
                    rotate_left
                    · intro w'
                      go_simp
                      with_reducible rfl
                    rotate_left
                    · simp only [Act.put, List.setIfInBounds_toArray, List.set_cons_zero, List.set_cons_succ, i64_w, i32_w]
                      rfl
                    refine take_ (i := 1) (N := some 36) (v := ?_) (a' := ?_) #[true, true, false, true, false, true, false, false, true, false, true, true, false, false, false, false, false] rfl rfl (take_ofW HT_.out HW_.out (by kernel_rfl)) (fun _ _ _ h => h) (Or.inl ⟨by rfl, ?_⟩) hHeld ?_ ?_
                    rotate_left
                    · rintro w' ⟨s0, s1⟩
                      go_simp
                      with_reducible rfl
                    rotate_left
                    · simp only [Act.put, List.setIfInBounds_toArray, List.set_cons_zero, List.set_cons_succ, i64_w, i32_w]
                      rfl
                    refine take_ (i := 4) (N := some 39) (v := ?_) (a' := ?_) #[true, true, false, true, true, true, false, false, true, false, true, true, false, false, false, false, false] rfl rfl (take_ofW HT_.out HW_.out (by kernel_rfl)) (fun _ _ _ h => h) (Or.inl ⟨by rfl, ?_⟩) hHeld ?_ ?_
                    rotate_left
                    · rintro w' ⟨s0, s1⟩
                      go_simp
                      with_reducible rfl
                    rotate_left
                    · simp only [Act.put, List.setIfInBounds_toArray, List.set_cons_zero, List.set_cons_succ, i64_w, i32_w]
                      rfl
                    refine pure_ (i := 6) (N := some 41) (v := ?_) (a' := ?_) #[true, true, false, true, true, true, true, false, true, false, true, true, false, false, false, false, false] rfl rfl (any_of HT_.out (by kernel_rfl)) (fun _ _ _ h => h) (Or.inl ⟨by rfl, ?_⟩) ?_ ?_
                    rotate_left
                    · intro w'
                      go_simp
                      with_reducible rfl
                    rotate_left
                    · simp only [Act.put, List.setIfInBounds_toArray, List.set_cons_zero, List.set_cons_succ, i64_w, i32_w]
                      rfl
                    refine take_ (i := 9) (N := some 44) (v := ?_) (a' := ?_) #[true, true, false, true, true, true, true, false, true, true, true, true, false, false, false, false, false] rfl rfl (take_ofW HT_.out HW_.out (by kernel_rfl)) (fun _ _ _ h => h) (Or.inl ⟨by rfl, ?_⟩) hHeld ?_ ?_
                    rotate_left
                    · rintro w' ⟨s0, s1⟩
                      go_simp
                      with_reducible rfl
                    rotate_left
                    · simp only [Act.put, List.setIfInBounds_toArray, List.set_cons_zero, List.set_cons_succ, i64_w, i32_w]
                      rfl
                    refine pure_ (i := 12) (N := some 47) (v := ?_) (a' := ?_) #[true, true, false, true, true, true, true, false, true, true, true, true, true, false, false, false, false] rfl rfl (any_of HT_.out (by kernel_rfl)) (fun _ _ _ h => h) (Or.inl ⟨by rfl, ?_⟩) ?_ ?_
                    rotate_left
                    · intro w'
                      go_simp
                      with_reducible rfl
                    rotate_left
                    · simp only [Act.put, List.setIfInBounds_toArray, List.set_cons_zero, List.set_cons_succ, i64_w, i32_w]
                      rfl
                    refine join_ (σ := Value × Value × Value × Nat) 1 #[true, true, true, true, true, true, true, true, true, true, true, true, true, true, true, true, false] (fun s_ => [(37, s_.1), (42, s_.2.1), (48, s_.2.2.1), (7, .pointer (some ⟨s_.2.2.2, 0, none⟩)), (49, .agg #[.int .i64 t300, s_.2.2.1])]) (fun s_ w' => (w'.cell? ⟨gb305, 0, none⟩ = some (.int .i64 t300) ∧ w'.cell? ⟨gb305, 1, none⟩ = some (.slice Ao41 t301.length co41)) ∧ (Kd.R k56 56 w' w.heap.size (fun _ => True) (.slice Ao36 t294.length co36) t294) ∧ (Kd.R k51 51 w' w.heap.size (fun k_ => some k_ ≠ (s_.2.2.1 : Value).ownBlock) (.slice Ao41 t301.length co41) t301) ∧ (Kd.R k51 51 w' w.heap.size (fun k_ => some k_ ≠ (.slice Ao41 t301.length co41 : Value).ownBlock) s_.2.2.1 y323) ∧ (w'.heap[gb305]? = some (.cells #[.int .i64 t300, .slice Ao41 t301.length co41] 39 (0, 0))) ∧ (w'.heap[s_.2.2.2]? = some (.cells #[.int .i64 0, .slice none 0 0] 39 (0, 0))) ∧ (w.heap.size ≤ s_.2.2.2) ∧ (w.heap.size ≤ s_.2.2.2) ∧ (g293 ≠ s_.2.2.2) ∧ (s_.2.2.2 ≠ g293) ∧ (gb305 ≠ s_.2.2.2) ∧ (s_.2.2.2 ≠ gb305) ∧ (IsS58 w w' g293 t291 t308) ∧ (Below w.heap.size w w')) ?_ ?_
                    rotate_left
                    · intro hCont
                      refine two_ (i := 2) (j := 15) (Ni := some 37) (Nj := some 7) #[true, true, true, true, true, true, true, false, true, true, true, true, true, false, false, false, false] #[true, true, false, true, true, true, true, false, true, true, true, true, true, false, false, true, false] rfl rfl rfl rfl (two_of HT_.out (by kernel_rfl)) (by decide) (by decide) (fun K hK => ?_) (fun K hK => ?_)
                      · skip
                        refine Kd.R_lit_step k51 _ 51 ?hg (N := 37) ?hd (xs := ([] : List (S51))) (inner := []) (ok := fun _ => True) (okp := fun _ => True) ?hr ?hp (fun _ hk => hk) trivial (Below.refl _ _) (Nat.le_refl _) (by simp) ?_; (case hd => rfl); (case hg => rfl); (case hr => first | (go_simp; done) | (go_simp; rfl)); (case hp => exact (Reps.none _ _))
                        intro v310 w48 ho49 hb hg_ hnew_
                        clear hg_ hnew_
                        (first | rw [← Ny309.out] at ho49 | (simp only [Int.reduceToNat] at ho49; rw [← Ny309.out] at ho49))
                        have n0_ := Aside0.mk (Kd.R_below (by (with_reducible repeat (first | apply Kd.R_alloc | apply Kd.R_drewN | apply Kd.R_drew)); exact HO296.out) hb)
                        have n1_ := Aside0.mk (Kd.R_elder' (by (with_reducible repeat (first | apply Kd.R_alloc | apply Kd.R_drewN | apply Kd.R_drew)); exact HO303.out) (Kd.R_base ho49) hb)
                        have n2_ := Aside0.mk (Kd.R_lower (Kd.R_new' ho49 (Kd.R_lt (by (with_reducible repeat (first | apply Kd.R_alloc | apply Kd.R_drewN | apply Kd.R_drew)); exact HO303.out))) (below_size (by repeat (first | (with_reducible first | exact HB.out | apply below_alloc | apply pw_below_drewN | apply below_drew1 | refine below_set ?_ (IsS58.ge HI293.out) | refine below_set ?_ GE305.out) | exact HB.out))))
                        have n3_ := Aside0.mk (IsS58.below (by repeat (first | (with_reducible first | exact HI293.out | apply IsS58.alloc | apply IsS58.drewN | apply IsS58.drew | apply IsS58.set_1 | refine IsS58.far ?_ NB293_305.out _) | exact HI293.out)) hb)
                        have n4_ := Aside0.mk (blk_below (g := gb305) (o := .cells #[.int .i64 t300, .slice Ao41 t301.length co41] 39 (0, 0)) (by (with_reducible repeat (first | refine blk_drewN ?_ _ | refine blk_drew ?_ | refine blk_alloc ?_ _)); exact BK305.out) hb)
                        have n5_ := Aside0.mk (Kd.C_below (by repeat (first | (with_reducible exact HR315.out) | (with_reducible refine Kd.C_alloc ?_ _) | (with_reducible refine Kd.C_drewN ?_ _) | (with_reducible refine Kd.C_drew ?_) | exact HR315.out)) hb)
                        have n6_ := Aside0.mk (Kd.C_below (by repeat (first | (with_reducible exact HR322.out) | (with_reducible refine Kd.C_alloc ?_ _) | (with_reducible refine Kd.C_drewN ?_ _) | (with_reducible refine Kd.C_drew ?_) | exact HR322.out)) hb)
                        have n7_ := Aside0.mk (below_step (by repeat (first | (with_reducible first | exact HB.out | apply below_alloc | apply pw_below_drewN | apply below_drew1 | refine below_set ?_ (IsS58.ge HI293.out) | refine below_set ?_ GE305.out) | exact HB.out)) hb)
                        clear HO296
                        clear HO303
                        clear HI293
                        clear BK305
                        clear HR315
                        clear HR322
                        clear HB
                        have HO296 := n0_
                        have HO303 := n1_
                        have HO311 := n2_
                        have HI293 := n3_
                        have BK305 := n4_
                        have HR315 := n5_
                        have HR322 := n6_
                        have HB := n7_
                        clear n0_ n1_ n2_ n3_ n4_ n5_ n6_ n7_
                        clear hb ho49
                        refine hK.out _ _ ⟨(blk_cell BK305.out 0).trans rfl, (blk_cell BK305.out 1).trans rfl⟩ (fun hHeld => ?_)
                        clear hK K
                        refine norm_ (a' := ?_) ?_ ?_
                        rotate_left
                        · show Act.put _ (some 37) _ = _
                          simp only [Act.put, List.setIfInBounds_toArray, List.set_cons_zero, List.set_cons_succ, i64_w, i32_w]
                          rfl
                        refine two_ (i := 7) (j := 15) (Ni := some 42) (Nj := some 7) #[true, true, true, true, true, true, true, true, true, true, true, true, true, false, false, false, false] #[true, true, true, true, true, true, true, false, true, true, true, true, true, false, false, true, false] rfl rfl rfl rfl (two_of HT_.out (by kernel_rfl)) (by decide) (by decide) (fun K hK => ?_) (fun K hK => ?_)
                        · skip
                          refine Kd.R_append_rows_step k51 (w0 := w) w.heap.size (by rfl) (.tmp 37) (.tmp 41) 37 51 (.agg #[(.int .i64 0), (.int .i64 0)]) 16 rfl Tryd.underlying37 info51 rfl (by decide) (by omega) v310 y309 y312 _ _ _ (fun k_ => some k_ ≠ (.slice Ao41 t301.length co41 : Value).ownBlock) (fun _ => False) rfl rfl ?aO ?aR (fun _ _ h => h) (fun _ h => h.elim) ?aF ?aB ?aS ?aL ?_
                          (case aR => repeat (first | exact (by repeat (first | (with_reducible exact HR315.out) | (with_reducible refine Kd.C_alloc ?_ _) | (with_reducible refine Kd.C_drewN ?_ _) | (with_reducible refine Kd.C_drew ?_) | exact HR315.out)) | (with_reducible refine Kd.C_alloc ?_ _) | (with_reducible refine Kd.C_drewN ?_ _) | (with_reducible refine Kd.C_drew ?_)))
                          (case aB => exact (by repeat (first | (with_reducible first | exact HB.out | apply below_alloc | apply pw_below_drewN | apply below_drew1 | refine below_set ?_ (IsS58.ge HI293.out) | refine below_set ?_ GE305.out) | exact HB.out)))
                          (case aF => exact (fun k_ hk => Kd.fresh' (Kd.R_lt (by (with_reducible repeat (first | apply Kd.R_alloc | apply Kd.R_drewN | apply Kd.R_drew)); exact HO303.out)) k_ hk))
                          (case aO => exact (by (with_reducible repeat (first | apply Kd.R_alloc | apply Kd.R_drewN | apply Kd.R_drew)); exact Kd.R_mono HO311.out (fun _ hk => hk.2)))
                          (case aS => exact (below_size (by repeat (first | (with_reducible first | exact HB.out | apply below_alloc | apply pw_below_drewN | apply below_drew1 | refine below_set ?_ (IsS58.ge HI293.out) | refine below_set ?_ GE305.out) | exact HB.out))))
                          (case aL => have := LMc26.out; omega)
                          intro v317 w50 ho hb hg hat
                          rw [← Ny316.out] at ho
                          have n0_ := Aside0.mk (IsS58.grown (by repeat (first | (with_reducible first | exact HI293.out | apply IsS58.alloc | apply IsS58.drewN | apply IsS58.drew | apply IsS58.set_1 | refine IsS58.far ?_ NB293_305.out _) | exact HI293.out)) hg (IsS58.own_ne HI293.out HO311.out (by decide)))
                          have n1_ := Aside0.mk (Kd.R_over' (by (with_reducible repeat (first | apply Kd.R_alloc | apply Kd.R_drewN | apply Kd.R_drew)); exact HO296.out) (Kd.R_typed (by (with_reducible repeat (first | apply Kd.R_alloc | apply Kd.R_drewN | apply Kd.R_drew)); exact HO311.out)) (by decide) hg)
                          have n2_ := Aside0.mk (Kd.R_after (ok := (fun _ => True)) (by (with_reducible repeat (first | apply Kd.R_alloc | apply Kd.R_drewN | apply Kd.R_drew)); exact HO303.out) hg hat)
                          have n3_ := Aside0.mk (blk_grown (g := gb305) (o := .cells #[.int .i64 t300, .slice Ao41 t301.length co41] 39 (0, 0)) (by (with_reducible repeat (first | refine blk_drewN ?_ _ | refine blk_drew ?_ | refine blk_alloc ?_ _)); exact BK305.out) hg (Kd.R_ne HO311.out BK305.out (by decide)))
                          have n4_ := Aside0.mk (hb)
                          have n5_ := Aside0.mk ((show Kd.C k51 w50 Ao41 y312.length y312 from by rw [Ny312.out]; exact Kd.C_take (m := (t307 : Int).toNat) ((Kd.R_reads' (Kd.R_after (ok := (fun _ => True)) (by (with_reducible repeat (first | apply Kd.R_alloc | apply Kd.R_drewN | apply Kd.R_drew)); exact HO303.out) hg hat)).2.2) KL46.out))
                          have n6_ := Aside0.mk ((show Kd.C k51 w50 A47 y319.length y319 from by rw [Ny319.out, KA47.out]; exact Kd.C_drop (m := ((ji27) : Int).toNat) (c := co41) ((Kd.R_reads' (Kd.R_after (ok := (fun _ => True)) (by (with_reducible repeat (first | apply Kd.R_alloc | apply Kd.R_drewN | apply Kd.R_drew)); exact HO303.out) hg hat)).2.2) KL47.out ((Kd.R_reads' (Kd.R_after (ok := (fun _ => True)) (by (with_reducible repeat (first | apply Kd.R_alloc | apply Kd.R_drewN | apply Kd.R_drew)); exact HO303.out) hg hat)).2.1)))
                          have n7_ := Aside0.mk (ho)
                          clear HI293
                          clear HO296
                          clear HO303
                          clear BK305
                          clear HB
                          clear HR315
                          clear HR322
                          clear HO311
                          have HI293 := n0_
                          have HO296 := n1_
                          have HO303 := n2_
                          have BK305 := n3_
                          have HB := n4_
                          have HR315 := n5_
                          have HR322 := n6_
                          have HO318 := n7_
                          clear n0_ n1_ n2_ n3_ n4_ n5_ n6_ n7_
                          clear ho hb hg hat
                          refine hK.out _ _ ⟨(blk_cell BK305.out 0).trans rfl, (blk_cell BK305.out 1).trans rfl⟩ (fun hHeld => ?_)
                          clear hK K
                          refine norm_ (a' := ?_) ?_ ?_
                          rotate_left
                          · show Act.put _ (some 42) _ = _
                            simp only [Act.put, List.setIfInBounds_toArray, List.set_cons_zero, List.set_cons_succ, i64_w, i32_w]
                            rfl
                          refine two_ (i := 13) (j := 15) (Ni := some 48) (Nj := some 7) #[true, true, true, true, true, true, true, true, true, true, true, true, true, true, false, false, false] #[true, true, true, true, true, true, true, true, true, true, true, true, true, false, false, true, false] rfl rfl rfl rfl (two_of HT_.out (by kernel_rfl)) (by decide) (by decide) (fun K hK => ?_) (fun K hK => ?_)
                          · skip
                            refine Kd.R_append_rows_step k51 (w0 := w) w.heap.size (by rfl) (.tmp 42) (.tmp 47) 37 51 (.agg #[(.int .i64 0), (.int .i64 0)]) 16 rfl Tryd.underlying37 info51 rfl (by decide) (by omega) v317 y316 y319 _ _ _ (fun k_ => some k_ ≠ (.slice Ao41 t301.length co41 : Value).ownBlock) (fun _ => False) rfl rfl ?aO ?aR (fun _ _ h => h) (fun _ h => h.elim) ?aF ?aB ?aS ?aL ?_
                            (case aR => repeat (first | exact (by repeat (first | (with_reducible exact HR322.out) | (with_reducible refine Kd.C_alloc ?_ _) | (with_reducible refine Kd.C_drewN ?_ _) | (with_reducible refine Kd.C_drew ?_) | exact HR322.out)) | (with_reducible refine Kd.C_alloc ?_ _) | (with_reducible refine Kd.C_drewN ?_ _) | (with_reducible refine Kd.C_drew ?_)))
                            (case aB => exact (by repeat (first | (with_reducible first | exact HB.out | apply below_alloc | apply pw_below_drewN | apply below_drew1 | refine below_set ?_ (IsS58.ge HI293.out) | refine below_set ?_ GE305.out) | exact HB.out)))
                            (case aF => exact (fun k_ hk => Kd.fresh' (Kd.R_lt (by (with_reducible repeat (first | apply Kd.R_alloc | apply Kd.R_drewN | apply Kd.R_drew)); exact HO303.out)) k_ hk))
                            (case aO => exact (by (with_reducible repeat (first | apply Kd.R_alloc | apply Kd.R_drewN | apply Kd.R_drew)); exact HO318.out))
                            (case aS => exact (below_size (by repeat (first | (with_reducible first | exact HB.out | apply below_alloc | apply pw_below_drewN | apply below_drew1 | refine below_set ?_ (IsS58.ge HI293.out) | refine below_set ?_ GE305.out) | exact HB.out))))
                            (case aL => have := LMc30.out; omega)
                            intro v324 w51 ho hb hg hat
                            rw [← Ny323.out] at ho
                            have n0_ := Aside0.mk (IsS58.grown (by repeat (first | (with_reducible first | exact HI293.out | apply IsS58.alloc | apply IsS58.drewN | apply IsS58.drew | apply IsS58.set_1 | refine IsS58.far ?_ NB293_305.out _) | exact HI293.out)) hg (IsS58.own_ne HI293.out HO318.out (by decide)))
                            have n1_ := Aside0.mk (Kd.R_over' (by (with_reducible repeat (first | apply Kd.R_alloc | apply Kd.R_drewN | apply Kd.R_drew)); exact HO296.out) (Kd.R_typed (by (with_reducible repeat (first | apply Kd.R_alloc | apply Kd.R_drewN | apply Kd.R_drew)); exact HO318.out)) (by decide) hg)
                            have n2_ := Aside0.mk (Kd.R_after (ok := (fun _ => True)) (by (with_reducible repeat (first | apply Kd.R_alloc | apply Kd.R_drewN | apply Kd.R_drew)); exact HO303.out) hg hat)
                            have n3_ := Aside0.mk (blk_grown (g := gb305) (o := .cells #[.int .i64 t300, .slice Ao41 t301.length co41] 39 (0, 0)) (by (with_reducible repeat (first | refine blk_drewN ?_ _ | refine blk_drew ?_ | refine blk_alloc ?_ _)); exact BK305.out) hg (Kd.R_ne HO318.out BK305.out (by decide)))
                            have n4_ := Aside0.mk (hb)
                            have n5_ := Aside0.mk ((show Kd.C k51 w51 Ao41 y312.length y312 from by rw [Ny312.out]; exact Kd.C_take (m := (t307 : Int).toNat) ((Kd.R_reads' (Kd.R_after (ok := (fun _ => True)) (by (with_reducible repeat (first | apply Kd.R_alloc | apply Kd.R_drewN | apply Kd.R_drew)); exact HO303.out) hg hat)).2.2) KL46.out))
                            have n6_ := Aside0.mk ((show Kd.C k51 w51 A47 y319.length y319 from by rw [Ny319.out, KA47.out]; exact Kd.C_drop (m := ((ji27) : Int).toNat) (c := co41) ((Kd.R_reads' (Kd.R_after (ok := (fun _ => True)) (by (with_reducible repeat (first | apply Kd.R_alloc | apply Kd.R_drewN | apply Kd.R_drew)); exact HO303.out) hg hat)).2.2) KL47.out ((Kd.R_reads' (Kd.R_after (ok := (fun _ => True)) (by (with_reducible repeat (first | apply Kd.R_alloc | apply Kd.R_drewN | apply Kd.R_drew)); exact HO303.out) hg hat)).2.1)))
                            have n7_ := Aside0.mk (ho)
                            clear HI293
                            clear HO296
                            clear HO303
                            clear BK305
                            clear HB
                            clear HR315
                            clear HR322
                            clear HO318
                            have HI293 := n0_
                            have HO296 := n1_
                            have HO303 := n2_
                            have BK305 := n3_
                            have HB := n4_
                            have HR315 := n5_
                            have HR322 := n6_
                            have HO325 := n7_
                            clear n0_ n1_ n2_ n3_ n4_ n5_ n6_ n7_
                            clear ho hb hg hat
                            obtain ⟨Ao52, co52, eo52⟩ := Kd.R_slice HO325.out
                            (first | subst eo52 | (injection eo52 with f1_ f2_ f3_; have f4_ := f1_.symm; have f5_ := f3_.symm; clear f1_ f2_ f3_; subst f4_; subst f5_))
                            refine hK.out _ _ ⟨(blk_cell BK305.out 0).trans rfl, (blk_cell BK305.out 1).trans rfl⟩ (fun hHeld => ?_)
                            clear hK K
                            refine norm_ (a' := ?_) ?_ ?_
                            rotate_left
                            · show Act.put _ (some 48) _ = _
                              simp only [Act.put, List.setIfInBounds_toArray, List.set_cons_zero, List.set_cons_succ, i64_w, i32_w]
                              rfl
                            refine pure_ (i := 14) (N := some 49) (v := ?_) (a' := ?_) #[true, true, true, true, true, true, true, true, true, true, true, true, true, true, true, false, false] rfl rfl (any_of HT_.out (by kernel_rfl)) (fun _ _ _ h => h) (Or.inl ⟨by rfl, ?_⟩) ?_ ?_
                            rotate_left
                            · intro w'
                              go_simp
                              with_reducible rfl
                            rotate_left
                            · simp only [Act.put, List.setIfInBounds_toArray, List.set_cons_zero, List.set_cons_succ, i64_w, i32_w]
                              rfl
                            refine one_ (i := 15) (N := some 7) #[true, true, true, true, true, true, true, true, true, true, true, true, true, true, true, true, false] rfl rfl (one_of HT_.out (by kernel_rfl)) (by decide) (fun K hK => ?_)
                            refine box_step ?hg (N := 7) ?hd (cs := #[.int .i64 0, .slice none 0 0]) (t := 39) ?hr ?_; (case hd => rfl); (case hg => rfl); (case hr => first | (go_simp; done) | (go_simp; rfl))
                            intro gb326 hg w53 hbox hb
                            have n0_ := Aside0.mk (Kd.R_below (by (with_reducible repeat (first | apply Kd.R_alloc | apply Kd.R_drewN | apply Kd.R_drew)); exact HO296.out) hb)
                            have n1_ := Aside0.mk (Kd.R_below (by (with_reducible repeat (first | apply Kd.R_alloc | apply Kd.R_drewN | apply Kd.R_drew)); exact HO303.out) hb)
                            have n2_ := Aside0.mk (Kd.R_below (by (with_reducible repeat (first | apply Kd.R_alloc | apply Kd.R_drewN | apply Kd.R_drew)); exact HO325.out) hb)
                            have n3_ := Aside0.mk (IsS58.below (by repeat (first | (with_reducible first | exact HI293.out | apply IsS58.alloc | apply IsS58.drewN | apply IsS58.drew | apply IsS58.set_1 | refine IsS58.far ?_ NB293_305.out _) | exact HI293.out)) hb)
                            have n4_ := Aside0.mk (blk_below (g := gb305) (o := .cells #[.int .i64 t300, .slice Ao41 t301.length co41] 39 (0, 0)) (by (with_reducible repeat (first | refine blk_drewN ?_ _ | refine blk_drew ?_ | refine blk_alloc ?_ _)); exact BK305.out) hb)
                            have n5_ := Aside0.mk (Kd.C_below (by repeat (first | (with_reducible exact HR315.out) | (with_reducible refine Kd.C_alloc ?_ _) | (with_reducible refine Kd.C_drewN ?_ _) | (with_reducible refine Kd.C_drew ?_) | exact HR315.out)) hb)
                            have n6_ := Aside0.mk (Kd.C_below (by repeat (first | (with_reducible exact HR322.out) | (with_reducible refine Kd.C_alloc ?_ _) | (with_reducible refine Kd.C_drewN ?_ _) | (with_reducible refine Kd.C_drew ?_) | exact HR322.out)) hb)
                            have n7_ := Aside0.mk (below_step (by repeat (first | (with_reducible first | exact HB.out | apply below_alloc | apply pw_below_drewN | apply below_drew1 | refine below_set ?_ (IsS58.ge HI293.out) | refine below_set ?_ GE305.out) | exact HB.out)) hb)
                            have n8_ := Aside0.mk (hbox)
                            have n9_ := Aside0.mk ((by rw [hg]; exact (below_size (by repeat (first | (with_reducible first | exact HB.out | apply below_alloc | apply pw_below_drewN | apply below_drew1 | refine below_set ?_ (IsS58.ge HI293.out) | refine below_set ?_ GE305.out) | exact HB.out))) : w.heap.size ≤ gb326))
                            have n10_ := Aside0.mk ((by rw [hg]; exact (below_size (by repeat (first | (with_reducible first | exact HB.out | apply below_alloc | apply pw_below_drewN | apply below_drew1 | refine below_set ?_ (IsS58.ge HI293.out) | refine below_set ?_ GE305.out) | exact HB.out))) : w.heap.size ≤ gb326))
                            have n11_ := Aside0.mk ((by rw [hg]; exact Nat.ne_of_lt (blk_lt (g := gb305) (o := .cells #[.int .i64 t300, .slice Ao41 t301.length co41] 39 (0, 0)) (by (with_reducible repeat (first | refine blk_drewN ?_ _ | refine blk_drew ?_ | refine blk_alloc ?_ _)); exact BK305.out)) : gb305 ≠ gb326))
                            have n12_ := Aside0.mk ((by rw [hg]; exact Nat.ne_of_gt (blk_lt (g := gb305) (o := .cells #[.int .i64 t300, .slice Ao41 t301.length co41] 39 (0, 0)) (by (with_reducible repeat (first | refine blk_drewN ?_ _ | refine blk_drew ?_ | refine blk_alloc ?_ _)); exact BK305.out)) : gb326 ≠ gb305))
                            have n13_ := Aside0.mk ((by rw [hg]; exact Nat.ne_of_lt (IsS58.lt (show IsS58 w _ g293 t291 t308 from by repeat (first | (with_reducible first | exact HI293.out | apply IsS58.alloc | apply IsS58.drewN | apply IsS58.drew | apply IsS58.set_1 | refine IsS58.far ?_ NB293_305.out _) | exact HI293.out))) : g293 ≠ gb326))
                            have n14_ := Aside0.mk ((by rw [hg]; exact Nat.ne_of_gt (IsS58.lt (show IsS58 w _ g293 t291 t308 from by repeat (first | (with_reducible first | exact HI293.out | apply IsS58.alloc | apply IsS58.drewN | apply IsS58.drew | apply IsS58.set_1 | refine IsS58.far ?_ NB293_305.out _) | exact HI293.out))) : gb326 ≠ g293))
                            clear HO296
                            clear HO303
                            clear HO325
                            clear HI293
                            clear BK305
                            clear HR315
                            clear HR322
                            clear HB
                            have HO296 := n0_
                            have HO303 := n1_
                            have HO325 := n2_
                            have HI293 := n3_
                            have BK305 := n4_
                            have HR315 := n5_
                            have HR322 := n6_
                            have HB := n7_
                            have BK326 := n8_
                            have GW326 := n9_
                            have GE326 := n10_
                            have NB305_326 := n11_
                            have NB326_305 := n12_
                            have NB293_326 := n13_
                            have NB326_293 := n14_
                            clear n0_ n1_ n2_ n3_ n4_ n5_ n6_ n7_ n8_ n9_ n10_ n11_ n12_ n13_ n14_
                            clear hb hbox hg
                            refine hK.out _ _ ⟨(blk_cell BK305.out 0).trans rfl, (blk_cell BK305.out 1).trans rfl⟩ (fun hHeld => ?_)
                            clear hK K
                            refine norm_ (a' := ?_) ?_ ?_
                            rotate_left
                            · show Act.put _ (some 7) _ = _
                              simp only [Act.put, List.setIfInBounds_toArray, List.set_cons_zero, List.set_cons_succ, i64_w, i32_w]
                              rfl
                            exact norm_ (by simp only [putAll, Act.put, List.setIfInBounds_toArray, List.set_cons_zero, List.set_cons_succ]) (hCont (v310, v317, .slice Ao52 y323.length co52, gb326) _ ⟨hHeld, (by (with_reducible repeat (first | apply Kd.R_alloc | apply Kd.R_drewN | apply Kd.R_drew)); exact HO296.out), (by (with_reducible repeat (first | apply Kd.R_alloc | apply Kd.R_drewN | apply Kd.R_drew)); exact Kd.R_mono HO303.out (fun _ hk => hk.2)), (by (with_reducible repeat (first | apply Kd.R_alloc | apply Kd.R_drewN | apply Kd.R_drew)); exact HO325.out), (by (with_reducible repeat (first | refine blk_drewN ?_ _ | refine blk_drew ?_ | refine blk_alloc ?_ _)); exact BK305.out), (by (with_reducible repeat (first | refine blk_drewN ?_ _ | refine blk_drew ?_ | refine blk_alloc ?_ _)); exact BK326.out), GW326.out, GE326.out, NB293_326.out, NB326_293.out, NB305_326.out, NB326_305.out, (by repeat (first | (with_reducible first | exact HI293.out | apply IsS58.alloc | apply IsS58.drewN | apply IsS58.drew | apply IsS58.set_1 | refine IsS58.far ?_ NB293_305.out _ | refine IsS58.far ?_ NB293_326.out _) | exact HI293.out)), (by repeat (first | (with_reducible first | exact HB.out | apply below_alloc | apply pw_below_drewN | apply below_drew1 | refine below_set ?_ (IsS58.ge HI293.out) | refine below_set ?_ GE305.out | refine below_set ?_ GE326.out) | exact HB.out))⟩)
                          · skip
                            refine box_step ?hg (N := 7) ?hd (cs := #[.int .i64 0, .slice none 0 0]) (t := 39) ?hr ?_; (case hd => rfl); (case hg => rfl); (case hr => first | (go_simp; done) | (go_simp; rfl))
                            intro gb326 hg w51 hbox hb
                            have n0_ := Aside0.mk (Kd.R_below (by (with_reducible repeat (first | apply Kd.R_alloc | apply Kd.R_drewN | apply Kd.R_drew)); exact HO296.out) hb)
                            have n1_ := Aside0.mk (Kd.R_below (by (with_reducible repeat (first | apply Kd.R_alloc | apply Kd.R_drewN | apply Kd.R_drew)); exact HO303.out) hb)
                            have n2_ := Aside0.mk (Kd.R_below (by (with_reducible repeat (first | apply Kd.R_alloc | apply Kd.R_drewN | apply Kd.R_drew)); exact HO318.out) hb)
                            have n3_ := Aside0.mk (IsS58.below (by repeat (first | (with_reducible first | exact HI293.out | apply IsS58.alloc | apply IsS58.drewN | apply IsS58.drew | apply IsS58.set_1 | refine IsS58.far ?_ NB293_305.out _) | exact HI293.out)) hb)
                            have n4_ := Aside0.mk (blk_below (g := gb305) (o := .cells #[.int .i64 t300, .slice Ao41 t301.length co41] 39 (0, 0)) (by (with_reducible repeat (first | refine blk_drewN ?_ _ | refine blk_drew ?_ | refine blk_alloc ?_ _)); exact BK305.out) hb)
                            have n5_ := Aside0.mk (Kd.C_below (by repeat (first | (with_reducible exact HR315.out) | (with_reducible refine Kd.C_alloc ?_ _) | (with_reducible refine Kd.C_drewN ?_ _) | (with_reducible refine Kd.C_drew ?_) | exact HR315.out)) hb)
                            have n6_ := Aside0.mk (Kd.C_below (by repeat (first | (with_reducible exact HR322.out) | (with_reducible refine Kd.C_alloc ?_ _) | (with_reducible refine Kd.C_drewN ?_ _) | (with_reducible refine Kd.C_drew ?_) | exact HR322.out)) hb)
                            have n7_ := Aside0.mk (below_step (by repeat (first | (with_reducible first | exact HB.out | apply below_alloc | apply pw_below_drewN | apply below_drew1 | refine below_set ?_ (IsS58.ge HI293.out) | refine below_set ?_ GE305.out) | exact HB.out)) hb)
                            have n8_ := Aside0.mk (hbox)
                            have n9_ := Aside0.mk ((by rw [hg]; exact (below_size (by repeat (first | (with_reducible first | exact HB.out | apply below_alloc | apply pw_below_drewN | apply below_drew1 | refine below_set ?_ (IsS58.ge HI293.out) | refine below_set ?_ GE305.out) | exact HB.out))) : w.heap.size ≤ gb326))
                            have n10_ := Aside0.mk ((by rw [hg]; exact (below_size (by repeat (first | (with_reducible first | exact HB.out | apply below_alloc | apply pw_below_drewN | apply below_drew1 | refine below_set ?_ (IsS58.ge HI293.out) | refine below_set ?_ GE305.out) | exact HB.out))) : w.heap.size ≤ gb326))
                            have n11_ := Aside0.mk ((by rw [hg]; exact Nat.ne_of_lt (blk_lt (g := gb305) (o := .cells #[.int .i64 t300, .slice Ao41 t301.length co41] 39 (0, 0)) (by (with_reducible repeat (first | refine blk_drewN ?_ _ | refine blk_drew ?_ | refine blk_alloc ?_ _)); exact BK305.out)) : gb305 ≠ gb326))
                            have n12_ := Aside0.mk ((by rw [hg]; exact Nat.ne_of_gt (blk_lt (g := gb305) (o := .cells #[.int .i64 t300, .slice Ao41 t301.length co41] 39 (0, 0)) (by (with_reducible repeat (first | refine blk_drewN ?_ _ | refine blk_drew ?_ | refine blk_alloc ?_ _)); exact BK305.out)) : gb326 ≠ gb305))
                            have n13_ := Aside0.mk ((by rw [hg]; exact Nat.ne_of_lt (IsS58.lt (show IsS58 w _ g293 t291 t308 from by repeat (first | (with_reducible first | exact HI293.out | apply IsS58.alloc | apply IsS58.drewN | apply IsS58.drew | apply IsS58.set_1 | refine IsS58.far ?_ NB293_305.out _) | exact HI293.out))) : g293 ≠ gb326))
                            have n14_ := Aside0.mk ((by rw [hg]; exact Nat.ne_of_gt (IsS58.lt (show IsS58 w _ g293 t291 t308 from by repeat (first | (with_reducible first | exact HI293.out | apply IsS58.alloc | apply IsS58.drewN | apply IsS58.drew | apply IsS58.set_1 | refine IsS58.far ?_ NB293_305.out _) | exact HI293.out))) : gb326 ≠ g293))
                            clear HO296
                            clear HO303
                            clear HO318
                            clear HI293
                            clear BK305
                            clear HR315
                            clear HR322
                            clear HB
                            have HO296 := n0_
                            have HO303 := n1_
                            have HO318 := n2_
                            have HI293 := n3_
                            have BK305 := n4_
                            have HR315 := n5_
                            have HR322 := n6_
                            have HB := n7_
                            have BK326 := n8_
                            have GW326 := n9_
                            have GE326 := n10_
                            have NB305_326 := n11_
                            have NB326_305 := n12_
                            have NB293_326 := n13_
                            have NB326_293 := n14_
                            clear n0_ n1_ n2_ n3_ n4_ n5_ n6_ n7_ n8_ n9_ n10_ n11_ n12_ n13_ n14_
                            clear hb hbox hg
                            refine hK.out _ _ ⟨(blk_cell BK305.out 0).trans rfl, (blk_cell BK305.out 1).trans rfl⟩ (fun hHeld => ?_)
                            clear hK K
                            refine norm_ (a' := ?_) ?_ ?_
                            rotate_left
                            · show Act.put _ (some 7) _ = _
                              simp only [Act.put, List.setIfInBounds_toArray, List.set_cons_zero, List.set_cons_succ, i64_w, i32_w]
                              rfl
                            refine one_ (i := 13) (N := some 48) #[true, true, true, true, true, true, true, true, true, true, true, true, true, true, false, true, false] rfl rfl (one_of HT_.out (by kernel_rfl)) (by decide) (fun K hK => ?_)
                            refine Kd.R_append_rows_step k51 (w0 := w) w.heap.size (by rfl) (.tmp 42) (.tmp 47) 37 51 (.agg #[(.int .i64 0), (.int .i64 0)]) 16 rfl Tryd.underlying37 info51 rfl (by decide) (by omega) v317 y316 y319 _ _ _ (fun k_ => some k_ ≠ (.slice Ao41 t301.length co41 : Value).ownBlock) (fun _ => False) rfl rfl ?aO ?aR (fun _ _ h => h) (fun _ h => h.elim) ?aF ?aB ?aS ?aL ?_
                            (case aR => repeat (first | exact (by repeat (first | (with_reducible exact HR322.out) | (with_reducible refine Kd.C_alloc ?_ _) | (with_reducible refine Kd.C_drewN ?_ _) | (with_reducible refine Kd.C_drew ?_) | exact HR322.out)) | (with_reducible refine Kd.C_alloc ?_ _) | (with_reducible refine Kd.C_drewN ?_ _) | (with_reducible refine Kd.C_drew ?_)))
                            (case aB => exact (by repeat (first | (with_reducible first | exact HB.out | apply below_alloc | apply pw_below_drewN | apply below_drew1 | refine below_set ?_ (IsS58.ge HI293.out) | refine below_set ?_ GE305.out | refine below_set ?_ GE326.out) | exact HB.out)))
                            (case aF => exact (fun k_ hk => Kd.fresh' (Kd.R_lt (by (with_reducible repeat (first | apply Kd.R_alloc | apply Kd.R_drewN | apply Kd.R_drew)); exact HO303.out)) k_ hk))
                            (case aO => exact (by (with_reducible repeat (first | apply Kd.R_alloc | apply Kd.R_drewN | apply Kd.R_drew)); exact HO318.out))
                            (case aS => exact (below_size (by repeat (first | (with_reducible first | exact HB.out | apply below_alloc | apply pw_below_drewN | apply below_drew1 | refine below_set ?_ (IsS58.ge HI293.out) | refine below_set ?_ GE305.out | refine below_set ?_ GE326.out) | exact HB.out))))
                            (case aL => have := LMc30.out; omega)
                            intro v324 w52 ho hb hg hat
                            rw [← Ny323.out] at ho
                            have n0_ := Aside0.mk (IsS58.grown (by repeat (first | (with_reducible first | exact HI293.out | apply IsS58.alloc | apply IsS58.drewN | apply IsS58.drew | apply IsS58.set_1 | refine IsS58.far ?_ NB293_305.out _ | refine IsS58.far ?_ NB293_326.out _) | exact HI293.out)) hg (IsS58.own_ne HI293.out HO318.out (by decide)))
                            have n1_ := Aside0.mk (Kd.R_over' (by (with_reducible repeat (first | apply Kd.R_alloc | apply Kd.R_drewN | apply Kd.R_drew)); exact HO296.out) (Kd.R_typed (by (with_reducible repeat (first | apply Kd.R_alloc | apply Kd.R_drewN | apply Kd.R_drew)); exact HO318.out)) (by decide) hg)
                            have n2_ := Aside0.mk (Kd.R_after (ok := (fun _ => True)) (by (with_reducible repeat (first | apply Kd.R_alloc | apply Kd.R_drewN | apply Kd.R_drew)); exact HO303.out) hg hat)
                            have n3_ := Aside0.mk (blk_grown (g := gb305) (o := .cells #[.int .i64 t300, .slice Ao41 t301.length co41] 39 (0, 0)) (by (with_reducible repeat (first | refine blk_drewN ?_ _ | refine blk_drew ?_ | refine blk_alloc ?_ _)); exact BK305.out) hg (Kd.R_ne HO318.out BK305.out (by decide)))
                            have n4_ := Aside0.mk (blk_grown (g := gb326) (o := .cells #[.int .i64 0, .slice none 0 0] 39 (0, 0)) (by (with_reducible repeat (first | refine blk_drewN ?_ _ | refine blk_drew ?_ | refine blk_alloc ?_ _)); exact BK326.out) hg (Kd.R_ne HO318.out BK326.out (by decide)))
                            have n5_ := Aside0.mk (hb)
                            have n6_ := Aside0.mk ((show Kd.C k51 w52 Ao41 y312.length y312 from by rw [Ny312.out]; exact Kd.C_take (m := (t307 : Int).toNat) ((Kd.R_reads' (Kd.R_after (ok := (fun _ => True)) (by (with_reducible repeat (first | apply Kd.R_alloc | apply Kd.R_drewN | apply Kd.R_drew)); exact HO303.out) hg hat)).2.2) KL46.out))
                            have n7_ := Aside0.mk ((show Kd.C k51 w52 A47 y319.length y319 from by rw [Ny319.out, KA47.out]; exact Kd.C_drop (m := ((ji27) : Int).toNat) (c := co41) ((Kd.R_reads' (Kd.R_after (ok := (fun _ => True)) (by (with_reducible repeat (first | apply Kd.R_alloc | apply Kd.R_drewN | apply Kd.R_drew)); exact HO303.out) hg hat)).2.2) KL47.out ((Kd.R_reads' (Kd.R_after (ok := (fun _ => True)) (by (with_reducible repeat (first | apply Kd.R_alloc | apply Kd.R_drewN | apply Kd.R_drew)); exact HO303.out) hg hat)).2.1)))
                            have n8_ := Aside0.mk (ho)
                            clear HI293
                            clear HO296
                            clear HO303
                            clear BK305
                            clear BK326
                            clear HB
                            clear HR315
                            clear HR322
                            clear HO318
                            have HI293 := n0_
                            have HO296 := n1_
                            have HO303 := n2_
                            have BK305 := n3_
                            have BK326 := n4_
                            have HB := n5_
                            have HR315 := n6_
                            have HR322 := n7_
                            have HO325 := n8_
                            clear n0_ n1_ n2_ n3_ n4_ n5_ n6_ n7_ n8_
                            clear ho hb hg hat
                            obtain ⟨Ao53, co53, eo53⟩ := Kd.R_slice HO325.out
                            (first | subst eo53 | (injection eo53 with f1_ f2_ f3_; have f4_ := f1_.symm; have f5_ := f3_.symm; clear f1_ f2_ f3_; subst f4_; subst f5_))
                            refine hK.out _ _ ⟨(blk_cell BK305.out 0).trans rfl, (blk_cell BK305.out 1).trans rfl⟩ (fun hHeld => ?_)
                            clear hK K
                            refine norm_ (a' := ?_) ?_ ?_
                            rotate_left
                            · show Act.put _ (some 48) _ = _
                              simp only [Act.put, List.setIfInBounds_toArray, List.set_cons_zero, List.set_cons_succ, i64_w, i32_w]
                              rfl
                            refine pure_ (i := 14) (N := some 49) (v := ?_) (a' := ?_) #[true, true, true, true, true, true, true, true, true, true, true, true, true, true, true, true, false] rfl rfl (any_of HT_.out (by kernel_rfl)) (fun _ _ _ h => h) (Or.inl ⟨by rfl, ?_⟩) ?_ ?_
                            rotate_left
                            · intro w'
                              go_simp
                              with_reducible rfl
                            rotate_left
                            · simp only [Act.put, List.setIfInBounds_toArray, List.set_cons_zero, List.set_cons_succ, i64_w, i32_w]
                              rfl
                            exact norm_ (by simp only [putAll, Act.put, List.setIfInBounds_toArray, List.set_cons_zero, List.set_cons_succ]) (hCont (v310, v317, .slice Ao53 y323.length co53, gb326) _ ⟨hHeld, (by (with_reducible repeat (first | apply Kd.R_alloc | apply Kd.R_drewN | apply Kd.R_drew)); exact HO296.out), (by (with_reducible repeat (first | apply Kd.R_alloc | apply Kd.R_drewN | apply Kd.R_drew)); exact Kd.R_mono HO303.out (fun _ hk => hk.2)), (by (with_reducible repeat (first | apply Kd.R_alloc | apply Kd.R_drewN | apply Kd.R_drew)); exact HO325.out), (by (with_reducible repeat (first | refine blk_drewN ?_ _ | refine blk_drew ?_ | refine blk_alloc ?_ _)); exact BK305.out), (by (with_reducible repeat (first | refine blk_drewN ?_ _ | refine blk_drew ?_ | refine blk_alloc ?_ _)); exact BK326.out), GW326.out, GE326.out, NB293_326.out, NB326_293.out, NB305_326.out, NB326_305.out, (by repeat (first | (with_reducible first | exact HI293.out | apply IsS58.alloc | apply IsS58.drewN | apply IsS58.drew | apply IsS58.set_1 | refine IsS58.far ?_ NB293_305.out _ | refine IsS58.far ?_ NB293_326.out _) | exact HI293.out)), (by repeat (first | (with_reducible first | exact HB.out | apply below_alloc | apply pw_below_drewN | apply below_drew1 | refine below_set ?_ (IsS58.ge HI293.out) | refine below_set ?_ GE305.out | refine below_set ?_ GE326.out) | exact HB.out))⟩)
                        · skip
                          refine box_step ?hg (N := 7) ?hd (cs := #[.int .i64 0, .slice none 0 0]) (t := 39) ?hr ?_; (case hd => rfl); (case hg => rfl); (case hr => first | (go_simp; done) | (go_simp; rfl))
                          intro gb326 hg w50 hbox hb
                          have n0_ := Aside0.mk (Kd.R_below (by (with_reducible repeat (first | apply Kd.R_alloc | apply Kd.R_drewN | apply Kd.R_drew)); exact HO296.out) hb)
                          have n1_ := Aside0.mk (Kd.R_below (by (with_reducible repeat (first | apply Kd.R_alloc | apply Kd.R_drewN | apply Kd.R_drew)); exact HO303.out) hb)
                          have n2_ := Aside0.mk (Kd.R_below (by (with_reducible repeat (first | apply Kd.R_alloc | apply Kd.R_drewN | apply Kd.R_drew)); exact HO311.out) hb)
                          have n3_ := Aside0.mk (IsS58.below (by repeat (first | (with_reducible first | exact HI293.out | apply IsS58.alloc | apply IsS58.drewN | apply IsS58.drew | apply IsS58.set_1 | refine IsS58.far ?_ NB293_305.out _) | exact HI293.out)) hb)
                          have n4_ := Aside0.mk (blk_below (g := gb305) (o := .cells #[.int .i64 t300, .slice Ao41 t301.length co41] 39 (0, 0)) (by (with_reducible repeat (first | refine blk_drewN ?_ _ | refine blk_drew ?_ | refine blk_alloc ?_ _)); exact BK305.out) hb)
                          have n5_ := Aside0.mk (Kd.C_below (by repeat (first | (with_reducible exact HR315.out) | (with_reducible refine Kd.C_alloc ?_ _) | (with_reducible refine Kd.C_drewN ?_ _) | (with_reducible refine Kd.C_drew ?_) | exact HR315.out)) hb)
                          have n6_ := Aside0.mk (Kd.C_below (by repeat (first | (with_reducible exact HR322.out) | (with_reducible refine Kd.C_alloc ?_ _) | (with_reducible refine Kd.C_drewN ?_ _) | (with_reducible refine Kd.C_drew ?_) | exact HR322.out)) hb)
                          have n7_ := Aside0.mk (below_step (by repeat (first | (with_reducible first | exact HB.out | apply below_alloc | apply pw_below_drewN | apply below_drew1 | refine below_set ?_ (IsS58.ge HI293.out) | refine below_set ?_ GE305.out) | exact HB.out)) hb)
                          have n8_ := Aside0.mk (hbox)
                          have n9_ := Aside0.mk ((by rw [hg]; exact (below_size (by repeat (first | (with_reducible first | exact HB.out | apply below_alloc | apply pw_below_drewN | apply below_drew1 | refine below_set ?_ (IsS58.ge HI293.out) | refine below_set ?_ GE305.out) | exact HB.out))) : w.heap.size ≤ gb326))
                          have n10_ := Aside0.mk ((by rw [hg]; exact (below_size (by repeat (first | (with_reducible first | exact HB.out | apply below_alloc | apply pw_below_drewN | apply below_drew1 | refine below_set ?_ (IsS58.ge HI293.out) | refine below_set ?_ GE305.out) | exact HB.out))) : w.heap.size ≤ gb326))
                          have n11_ := Aside0.mk ((by rw [hg]; exact Nat.ne_of_lt (blk_lt (g := gb305) (o := .cells #[.int .i64 t300, .slice Ao41 t301.length co41] 39 (0, 0)) (by (with_reducible repeat (first | refine blk_drewN ?_ _ | refine blk_drew ?_ | refine blk_alloc ?_ _)); exact BK305.out)) : gb305 ≠ gb326))
                          have n12_ := Aside0.mk ((by rw [hg]; exact Nat.ne_of_gt (blk_lt (g := gb305) (o := .cells #[.int .i64 t300, .slice Ao41 t301.length co41] 39 (0, 0)) (by (with_reducible repeat (first | refine blk_drewN ?_ _ | refine blk_drew ?_ | refine blk_alloc ?_ _)); exact BK305.out)) : gb326 ≠ gb305))
                          have n13_ := Aside0.mk ((by rw [hg]; exact Nat.ne_of_lt (IsS58.lt (show IsS58 w _ g293 t291 t308 from by repeat (first | (with_reducible first | exact HI293.out | apply IsS58.alloc | apply IsS58.drewN | apply IsS58.drew | apply IsS58.set_1 | refine IsS58.far ?_ NB293_305.out _) | exact HI293.out))) : g293 ≠ gb326))
                          have n14_ := Aside0.mk ((by rw [hg]; exact Nat.ne_of_gt (IsS58.lt (show IsS58 w _ g293 t291 t308 from by repeat (first | (with_reducible first | exact HI293.out | apply IsS58.alloc | apply IsS58.drewN | apply IsS58.drew | apply IsS58.set_1 | refine IsS58.far ?_ NB293_305.out _) | exact HI293.out))) : gb326 ≠ g293))
                          clear HO296
                          clear HO303
                          clear HO311
                          clear HI293
                          clear BK305
                          clear HR315
                          clear HR322
                          clear HB
                          have HO296 := n0_
                          have HO303 := n1_
                          have HO311 := n2_
                          have HI293 := n3_
                          have BK305 := n4_
                          have HR315 := n5_
                          have HR322 := n6_
                          have HB := n7_
                          have BK326 := n8_
                          have GW326 := n9_
                          have GE326 := n10_
                          have NB305_326 := n11_
                          have NB326_305 := n12_
                          have NB293_326 := n13_
                          have NB326_293 := n14_
                          clear n0_ n1_ n2_ n3_ n4_ n5_ n6_ n7_ n8_ n9_ n10_ n11_ n12_ n13_ n14_
                          clear hb hbox hg
                          refine hK.out _ _ ⟨(blk_cell BK305.out 0).trans rfl, (blk_cell BK305.out 1).trans rfl⟩ (fun hHeld => ?_)
                          clear hK K
                          refine norm_ (a' := ?_) ?_ ?_
                          rotate_left
                          · show Act.put _ (some 7) _ = _
                            simp only [Act.put, List.setIfInBounds_toArray, List.set_cons_zero, List.set_cons_succ, i64_w, i32_w]
                            rfl
                          refine one_ (i := 7) (N := some 42) #[true, true, true, true, true, true, true, true, true, true, true, true, true, false, false, true, false] rfl rfl (one_of HT_.out (by kernel_rfl)) (by decide) (fun K hK => ?_)
                          refine Kd.R_append_rows_step k51 (w0 := w) w.heap.size (by rfl) (.tmp 37) (.tmp 41) 37 51 (.agg #[(.int .i64 0), (.int .i64 0)]) 16 rfl Tryd.underlying37 info51 rfl (by decide) (by omega) v310 y309 y312 _ _ _ (fun k_ => some k_ ≠ (.slice Ao41 t301.length co41 : Value).ownBlock) (fun _ => False) rfl rfl ?aO ?aR (fun _ _ h => h) (fun _ h => h.elim) ?aF ?aB ?aS ?aL ?_
                          (case aR => repeat (first | exact (by repeat (first | (with_reducible exact HR315.out) | (with_reducible refine Kd.C_alloc ?_ _) | (with_reducible refine Kd.C_drewN ?_ _) | (with_reducible refine Kd.C_drew ?_) | exact HR315.out)) | (with_reducible refine Kd.C_alloc ?_ _) | (with_reducible refine Kd.C_drewN ?_ _) | (with_reducible refine Kd.C_drew ?_)))
                          (case aB => exact (by repeat (first | (with_reducible first | exact HB.out | apply below_alloc | apply pw_below_drewN | apply below_drew1 | refine below_set ?_ (IsS58.ge HI293.out) | refine below_set ?_ GE305.out | refine below_set ?_ GE326.out) | exact HB.out)))
                          (case aF => exact (fun k_ hk => Kd.fresh' (Kd.R_lt (by (with_reducible repeat (first | apply Kd.R_alloc | apply Kd.R_drewN | apply Kd.R_drew)); exact HO303.out)) k_ hk))
                          (case aO => exact (by (with_reducible repeat (first | apply Kd.R_alloc | apply Kd.R_drewN | apply Kd.R_drew)); exact Kd.R_mono HO311.out (fun _ hk => hk.2)))
                          (case aS => exact (below_size (by repeat (first | (with_reducible first | exact HB.out | apply below_alloc | apply pw_below_drewN | apply below_drew1 | refine below_set ?_ (IsS58.ge HI293.out) | refine below_set ?_ GE305.out | refine below_set ?_ GE326.out) | exact HB.out))))
                          (case aL => have := LMc26.out; omega)
                          intro v317 w51 ho hb hg hat
                          rw [← Ny316.out] at ho
                          have n0_ := Aside0.mk (IsS58.grown (by repeat (first | (with_reducible first | exact HI293.out | apply IsS58.alloc | apply IsS58.drewN | apply IsS58.drew | apply IsS58.set_1 | refine IsS58.far ?_ NB293_305.out _ | refine IsS58.far ?_ NB293_326.out _) | exact HI293.out)) hg (IsS58.own_ne HI293.out HO311.out (by decide)))
                          have n1_ := Aside0.mk (Kd.R_over' (by (with_reducible repeat (first | apply Kd.R_alloc | apply Kd.R_drewN | apply Kd.R_drew)); exact HO296.out) (Kd.R_typed (by (with_reducible repeat (first | apply Kd.R_alloc | apply Kd.R_drewN | apply Kd.R_drew)); exact HO311.out)) (by decide) hg)
                          have n2_ := Aside0.mk (Kd.R_after (ok := (fun _ => True)) (by (with_reducible repeat (first | apply Kd.R_alloc | apply Kd.R_drewN | apply Kd.R_drew)); exact HO303.out) hg hat)
                          have n3_ := Aside0.mk (blk_grown (g := gb305) (o := .cells #[.int .i64 t300, .slice Ao41 t301.length co41] 39 (0, 0)) (by (with_reducible repeat (first | refine blk_drewN ?_ _ | refine blk_drew ?_ | refine blk_alloc ?_ _)); exact BK305.out) hg (Kd.R_ne HO311.out BK305.out (by decide)))
                          have n4_ := Aside0.mk (blk_grown (g := gb326) (o := .cells #[.int .i64 0, .slice none 0 0] 39 (0, 0)) (by (with_reducible repeat (first | refine blk_drewN ?_ _ | refine blk_drew ?_ | refine blk_alloc ?_ _)); exact BK326.out) hg (Kd.R_ne HO311.out BK326.out (by decide)))
                          have n5_ := Aside0.mk (hb)
                          have n6_ := Aside0.mk ((show Kd.C k51 w51 Ao41 y312.length y312 from by rw [Ny312.out]; exact Kd.C_take (m := (t307 : Int).toNat) ((Kd.R_reads' (Kd.R_after (ok := (fun _ => True)) (by (with_reducible repeat (first | apply Kd.R_alloc | apply Kd.R_drewN | apply Kd.R_drew)); exact HO303.out) hg hat)).2.2) KL46.out))
                          have n7_ := Aside0.mk ((show Kd.C k51 w51 A47 y319.length y319 from by rw [Ny319.out, KA47.out]; exact Kd.C_drop (m := ((ji27) : Int).toNat) (c := co41) ((Kd.R_reads' (Kd.R_after (ok := (fun _ => True)) (by (with_reducible repeat (first | apply Kd.R_alloc | apply Kd.R_drewN | apply Kd.R_drew)); exact HO303.out) hg hat)).2.2) KL47.out ((Kd.R_reads' (Kd.R_after (ok := (fun _ => True)) (by (with_reducible repeat (first | apply Kd.R_alloc | apply Kd.R_drewN | apply Kd.R_drew)); exact HO303.out) hg hat)).2.1)))
                          have n8_ := Aside0.mk (ho)
                          clear HI293
                          clear HO296
                          clear HO303
                          clear BK305
                          clear BK326
                          clear HB
                          clear HR315
                          clear HR322
                          clear HO311
                          have HI293 := n0_
                          have HO296 := n1_
                          have HO303 := n2_
                          have BK305 := n3_
                          have BK326 := n4_
                          have HB := n5_
                          have HR315 := n6_
                          have HR322 := n7_
                          have HO318 := n8_
                          clear n0_ n1_ n2_ n3_ n4_ n5_ n6_ n7_ n8_
                          clear ho hb hg hat
                          refine hK.out _ _ ⟨(blk_cell BK305.out 0).trans rfl, (blk_cell BK305.out 1).trans rfl⟩ (fun hHeld => ?_)
                          clear hK K
                          refine norm_ (a' := ?_) ?_ ?_
                          rotate_left
                          · show Act.put _ (some 42) _ = _
                            simp only [Act.put, List.setIfInBounds_toArray, List.set_cons_zero, List.set_cons_succ, i64_w, i32_w]
                            rfl
                          refine one_ (i := 13) (N := some 48) #[true, true, true, true, true, true, true, true, true, true, true, true, true, true, false, true, false] rfl rfl (one_of HT_.out (by kernel_rfl)) (by decide) (fun K hK => ?_)
                          refine Kd.R_append_rows_step k51 (w0 := w) w.heap.size (by rfl) (.tmp 42) (.tmp 47) 37 51 (.agg #[(.int .i64 0), (.int .i64 0)]) 16 rfl Tryd.underlying37 info51 rfl (by decide) (by omega) v317 y316 y319 _ _ _ (fun k_ => some k_ ≠ (.slice Ao41 t301.length co41 : Value).ownBlock) (fun _ => False) rfl rfl ?aO ?aR (fun _ _ h => h) (fun _ h => h.elim) ?aF ?aB ?aS ?aL ?_
                          (case aR => repeat (first | exact (by repeat (first | (with_reducible exact HR322.out) | (with_reducible refine Kd.C_alloc ?_ _) | (with_reducible refine Kd.C_drewN ?_ _) | (with_reducible refine Kd.C_drew ?_) | exact HR322.out)) | (with_reducible refine Kd.C_alloc ?_ _) | (with_reducible refine Kd.C_drewN ?_ _) | (with_reducible refine Kd.C_drew ?_)))
                          (case aB => exact (by repeat (first | (with_reducible first | exact HB.out | apply below_alloc | apply pw_below_drewN | apply below_drew1 | refine below_set ?_ (IsS58.ge HI293.out) | refine below_set ?_ GE305.out | refine below_set ?_ GE326.out) | exact HB.out)))
                          (case aF => exact (fun k_ hk => Kd.fresh' (Kd.R_lt (by (with_reducible repeat (first | apply Kd.R_alloc | apply Kd.R_drewN | apply Kd.R_drew)); exact HO303.out)) k_ hk))
                          (case aO => exact (by (with_reducible repeat (first | apply Kd.R_alloc | apply Kd.R_drewN | apply Kd.R_drew)); exact HO318.out))
                          (case aS => exact (below_size (by repeat (first | (with_reducible first | exact HB.out | apply below_alloc | apply pw_below_drewN | apply below_drew1 | refine below_set ?_ (IsS58.ge HI293.out) | refine below_set ?_ GE305.out | refine below_set ?_ GE326.out) | exact HB.out))))
                          (case aL => have := LMc30.out; omega)
                          intro v324 w52 ho hb hg hat
                          rw [← Ny323.out] at ho
                          have n0_ := Aside0.mk (IsS58.grown (by repeat (first | (with_reducible first | exact HI293.out | apply IsS58.alloc | apply IsS58.drewN | apply IsS58.drew | apply IsS58.set_1 | refine IsS58.far ?_ NB293_305.out _ | refine IsS58.far ?_ NB293_326.out _) | exact HI293.out)) hg (IsS58.own_ne HI293.out HO318.out (by decide)))
                          have n1_ := Aside0.mk (Kd.R_over' (by (with_reducible repeat (first | apply Kd.R_alloc | apply Kd.R_drewN | apply Kd.R_drew)); exact HO296.out) (Kd.R_typed (by (with_reducible repeat (first | apply Kd.R_alloc | apply Kd.R_drewN | apply Kd.R_drew)); exact HO318.out)) (by decide) hg)
                          have n2_ := Aside0.mk (Kd.R_after (ok := (fun _ => True)) (by (with_reducible repeat (first | apply Kd.R_alloc | apply Kd.R_drewN | apply Kd.R_drew)); exact HO303.out) hg hat)
                          have n3_ := Aside0.mk (blk_grown (g := gb305) (o := .cells #[.int .i64 t300, .slice Ao41 t301.length co41] 39 (0, 0)) (by (with_reducible repeat (first | refine blk_drewN ?_ _ | refine blk_drew ?_ | refine blk_alloc ?_ _)); exact BK305.out) hg (Kd.R_ne HO318.out BK305.out (by decide)))
                          have n4_ := Aside0.mk (blk_grown (g := gb326) (o := .cells #[.int .i64 0, .slice none 0 0] 39 (0, 0)) (by (with_reducible repeat (first | refine blk_drewN ?_ _ | refine blk_drew ?_ | refine blk_alloc ?_ _)); exact BK326.out) hg (Kd.R_ne HO318.out BK326.out (by decide)))
                          have n5_ := Aside0.mk (hb)
                          have n6_ := Aside0.mk ((show Kd.C k51 w52 Ao41 y312.length y312 from by rw [Ny312.out]; exact Kd.C_take (m := (t307 : Int).toNat) ((Kd.R_reads' (Kd.R_after (ok := (fun _ => True)) (by (with_reducible repeat (first | apply Kd.R_alloc | apply Kd.R_drewN | apply Kd.R_drew)); exact HO303.out) hg hat)).2.2) KL46.out))
                          have n7_ := Aside0.mk ((show Kd.C k51 w52 A47 y319.length y319 from by rw [Ny319.out, KA47.out]; exact Kd.C_drop (m := ((ji27) : Int).toNat) (c := co41) ((Kd.R_reads' (Kd.R_after (ok := (fun _ => True)) (by (with_reducible repeat (first | apply Kd.R_alloc | apply Kd.R_drewN | apply Kd.R_drew)); exact HO303.out) hg hat)).2.2) KL47.out ((Kd.R_reads' (Kd.R_after (ok := (fun _ => True)) (by (with_reducible repeat (first | apply Kd.R_alloc | apply Kd.R_drewN | apply Kd.R_drew)); exact HO303.out) hg hat)).2.1)))
                          have n8_ := Aside0.mk (ho)
                          clear HI293
                          clear HO296
                          clear HO303
                          clear BK305
                          clear BK326
                          clear HB
                          clear HR315
                          clear HR322
                          clear HO318
                          have HI293 := n0_
                          have HO296 := n1_
                          have HO303 := n2_
                          have BK305 := n3_
                          have BK326 := n4_
                          have HB := n5_
                          have HR315 := n6_
                          have HR322 := n7_
                          have HO325 := n8_
                          clear n0_ n1_ n2_ n3_ n4_ n5_ n6_ n7_ n8_
                          clear ho hb hg hat
                          obtain ⟨Ao53, co53, eo53⟩ := Kd.R_slice HO325.out
                          (first | subst eo53 | (injection eo53 with f1_ f2_ f3_; have f4_ := f1_.symm; have f5_ := f3_.symm; clear f1_ f2_ f3_; subst f4_; subst f5_))
                          refine hK.out _ _ ⟨(blk_cell BK305.out 0).trans rfl, (blk_cell BK305.out 1).trans rfl⟩ (fun hHeld => ?_)
                          clear hK K
                          refine norm_ (a' := ?_) ?_ ?_
                          rotate_left
                          · show Act.put _ (some 48) _ = _
                            simp only [Act.put, List.setIfInBounds_toArray, List.set_cons_zero, List.set_cons_succ, i64_w, i32_w]
                            rfl
                          refine pure_ (i := 14) (N := some 49) (v := ?_) (a' := ?_) #[true, true, true, true, true, true, true, true, true, true, true, true, true, true, true, true, false] rfl rfl (any_of HT_.out (by kernel_rfl)) (fun _ _ _ h => h) (Or.inl ⟨by rfl, ?_⟩) ?_ ?_
                          rotate_left
                          · intro w'
                            go_simp
                            with_reducible rfl
                          rotate_left
                          · simp only [Act.put, List.setIfInBounds_toArray, List.set_cons_zero, List.set_cons_succ, i64_w, i32_w]
                            rfl
                          exact norm_ (by simp only [putAll, Act.put, List.setIfInBounds_toArray, List.set_cons_zero, List.set_cons_succ]) (hCont (v310, v317, .slice Ao53 y323.length co53, gb326) _ ⟨hHeld, (by (with_reducible repeat (first | apply Kd.R_alloc | apply Kd.R_drewN | apply Kd.R_drew)); exact HO296.out), (by (with_reducible repeat (first | apply Kd.R_alloc | apply Kd.R_drewN | apply Kd.R_drew)); exact Kd.R_mono HO303.out (fun _ hk => hk.2)), (by (with_reducible repeat (first | apply Kd.R_alloc | apply Kd.R_drewN | apply Kd.R_drew)); exact HO325.out), (by (with_reducible repeat (first | refine blk_drewN ?_ _ | refine blk_drew ?_ | refine blk_alloc ?_ _)); exact BK305.out), (by (with_reducible repeat (first | refine blk_drewN ?_ _ | refine blk_drew ?_ | refine blk_alloc ?_ _)); exact BK326.out), GW326.out, GE326.out, NB293_326.out, NB326_293.out, NB305_326.out, NB326_305.out, (by repeat (first | (with_reducible first | exact HI293.out | apply IsS58.alloc | apply IsS58.drewN | apply IsS58.drew | apply IsS58.set_1 | refine IsS58.far ?_ NB293_305.out _ | refine IsS58.far ?_ NB293_326.out _) | exact HI293.out)), (by repeat (first | (with_reducible first | exact HB.out | apply below_alloc | apply pw_below_drewN | apply below_drew1 | refine below_set ?_ (IsS58.ge HI293.out) | refine below_set ?_ GE305.out | refine below_set ?_ GE326.out) | exact HB.out))⟩)
                      · skip
                        refine box_step ?hg (N := 7) ?hd (cs := #[.int .i64 0, .slice none 0 0]) (t := 39) ?hr ?_; (case hd => rfl); (case hg => rfl); (case hr => first | (go_simp; done) | (go_simp; rfl))
                        intro gb326 hg w48 hbox hb
                        have n0_ := Aside0.mk (Kd.R_below (by (with_reducible repeat (first | apply Kd.R_alloc | apply Kd.R_drewN | apply Kd.R_drew)); exact HO296.out) hb)
                        have n1_ := Aside0.mk (Kd.R_below (by (with_reducible repeat (first | apply Kd.R_alloc | apply Kd.R_drewN | apply Kd.R_drew)); exact HO303.out) hb)
                        have n2_ := Aside0.mk (IsS58.below (by repeat (first | (with_reducible first | exact HI293.out | apply IsS58.alloc | apply IsS58.drewN | apply IsS58.drew | apply IsS58.set_1 | refine IsS58.far ?_ NB293_305.out _) | exact HI293.out)) hb)
                        have n3_ := Aside0.mk (blk_below (g := gb305) (o := .cells #[.int .i64 t300, .slice Ao41 t301.length co41] 39 (0, 0)) (by (with_reducible repeat (first | refine blk_drewN ?_ _ | refine blk_drew ?_ | refine blk_alloc ?_ _)); exact BK305.out) hb)
                        have n4_ := Aside0.mk (Kd.C_below (by repeat (first | (with_reducible exact HR315.out) | (with_reducible refine Kd.C_alloc ?_ _) | (with_reducible refine Kd.C_drewN ?_ _) | (with_reducible refine Kd.C_drew ?_) | exact HR315.out)) hb)
                        have n5_ := Aside0.mk (Kd.C_below (by repeat (first | (with_reducible exact HR322.out) | (with_reducible refine Kd.C_alloc ?_ _) | (with_reducible refine Kd.C_drewN ?_ _) | (with_reducible refine Kd.C_drew ?_) | exact HR322.out)) hb)
                        have n6_ := Aside0.mk (below_step (by repeat (first | (with_reducible first | exact HB.out | apply below_alloc | apply pw_below_drewN | apply below_drew1 | refine below_set ?_ (IsS58.ge HI293.out) | refine below_set ?_ GE305.out) | exact HB.out)) hb)
                        have n7_ := Aside0.mk (hbox)
                        have n8_ := Aside0.mk ((by rw [hg]; exact (below_size (by repeat (first | (with_reducible first | exact HB.out | apply below_alloc | apply pw_below_drewN | apply below_drew1 | refine below_set ?_ (IsS58.ge HI293.out) | refine below_set ?_ GE305.out) | exact HB.out))) : w.heap.size ≤ gb326))
                        have n9_ := Aside0.mk ((by rw [hg]; exact (below_size (by repeat (first | (with_reducible first | exact HB.out | apply below_alloc | apply pw_below_drewN | apply below_drew1 | refine below_set ?_ (IsS58.ge HI293.out) | refine below_set ?_ GE305.out) | exact HB.out))) : w.heap.size ≤ gb326))
                        have n10_ := Aside0.mk ((by rw [hg]; exact Nat.ne_of_lt (blk_lt (g := gb305) (o := .cells #[.int .i64 t300, .slice Ao41 t301.length co41] 39 (0, 0)) (by (with_reducible repeat (first | refine blk_drewN ?_ _ | refine blk_drew ?_ | refine blk_alloc ?_ _)); exact BK305.out)) : gb305 ≠ gb326))
                        have n11_ := Aside0.mk ((by rw [hg]; exact Nat.ne_of_gt (blk_lt (g := gb305) (o := .cells #[.int .i64 t300, .slice Ao41 t301.length co41] 39 (0, 0)) (by (with_reducible repeat (first | refine blk_drewN ?_ _ | refine blk_drew ?_ | refine blk_alloc ?_ _)); exact BK305.out)) : gb326 ≠ gb305))
                        have n12_ := Aside0.mk ((by rw [hg]; exact Nat.ne_of_lt (IsS58.lt (show IsS58 w _ g293 t291 t308 from by repeat (first | (with_reducible first | exact HI293.out | apply IsS58.alloc | apply IsS58.drewN | apply IsS58.drew | apply IsS58.set_1 | refine IsS58.far ?_ NB293_305.out _) | exact HI293.out))) : g293 ≠ gb326))
                        have n13_ := Aside0.mk ((by rw [hg]; exact Nat.ne_of_gt (IsS58.lt (show IsS58 w _ g293 t291 t308 from by repeat (first | (with_reducible first | exact HI293.out | apply IsS58.alloc | apply IsS58.drewN | apply IsS58.drew | apply IsS58.set_1 | refine IsS58.far ?_ NB293_305.out _) | exact HI293.out))) : gb326 ≠ g293))
                        clear HO296
                        clear HO303
                        clear HI293
                        clear BK305
                        clear HR315
                        clear HR322
                        clear HB
                        have HO296 := n0_
                        have HO303 := n1_
                        have HI293 := n2_
                        have BK305 := n3_
                        have HR315 := n4_
                        have HR322 := n5_
                        have HB := n6_
                        have BK326 := n7_
                        have GW326 := n8_
                        have GE326 := n9_
                        have NB305_326 := n10_
                        have NB326_305 := n11_
                        have NB293_326 := n12_
                        have NB326_293 := n13_
                        clear n0_ n1_ n2_ n3_ n4_ n5_ n6_ n7_ n8_ n9_ n10_ n11_ n12_ n13_
                        clear hb hbox hg
                        refine hK.out _ _ ⟨(blk_cell BK305.out 0).trans rfl, (blk_cell BK305.out 1).trans rfl⟩ (fun hHeld => ?_)
                        clear hK K
                        refine norm_ (a' := ?_) ?_ ?_
                        rotate_left
                        · show Act.put _ (some 7) _ = _
                          simp only [Act.put, List.setIfInBounds_toArray, List.set_cons_zero, List.set_cons_succ, i64_w, i32_w]
                          rfl
                        refine one_ (i := 2) (N := some 37) #[true, true, true, true, true, true, true, false, true, true, true, true, true, false, false, true, false] rfl rfl (one_of HT_.out (by kernel_rfl)) (by decide) (fun K hK => ?_)
                        refine Kd.R_lit_step k51 _ 51 ?hg (N := 37) ?hd (xs := ([] : List (S51))) (inner := []) (ok := fun _ => True) (okp := fun _ => True) ?hr ?hp (fun _ hk => hk) trivial (Below.refl _ _) (Nat.le_refl _) (by simp) ?_; (case hd => rfl); (case hg => rfl); (case hr => first | (go_simp; done) | (go_simp; rfl)); (case hp => exact (Reps.none _ _))
                        intro v310 w49 ho50 hb hg_ hnew_
                        clear hg_ hnew_
                        (first | rw [← Ny309.out] at ho50 | (simp only [Int.reduceToNat] at ho50; rw [← Ny309.out] at ho50))
                        have n0_ := Aside0.mk (Kd.R_below (by (with_reducible repeat (first | apply Kd.R_alloc | apply Kd.R_drewN | apply Kd.R_drew)); exact HO296.out) hb)
                        have n1_ := Aside0.mk (Kd.R_elder' (by (with_reducible repeat (first | apply Kd.R_alloc | apply Kd.R_drewN | apply Kd.R_drew)); exact HO303.out) (Kd.R_base ho50) hb)
                        have n2_ := Aside0.mk (Kd.R_lower (Kd.R_new' ho50 (Kd.R_lt (by (with_reducible repeat (first | apply Kd.R_alloc | apply Kd.R_drewN | apply Kd.R_drew)); exact HO303.out))) (below_size (by repeat (first | (with_reducible first | exact HB.out | apply below_alloc | apply pw_below_drewN | apply below_drew1 | refine below_set ?_ (IsS58.ge HI293.out) | refine below_set ?_ GE305.out | refine below_set ?_ GE326.out) | exact HB.out))))
                        have n3_ := Aside0.mk (IsS58.below (by repeat (first | (with_reducible first | exact HI293.out | apply IsS58.alloc | apply IsS58.drewN | apply IsS58.drew | apply IsS58.set_1 | refine IsS58.far ?_ NB293_305.out _ | refine IsS58.far ?_ NB293_326.out _) | exact HI293.out)) hb)
                        have n4_ := Aside0.mk (blk_below (g := gb305) (o := .cells #[.int .i64 t300, .slice Ao41 t301.length co41] 39 (0, 0)) (by (with_reducible repeat (first | refine blk_drewN ?_ _ | refine blk_drew ?_ | refine blk_alloc ?_ _)); exact BK305.out) hb)
                        have n5_ := Aside0.mk (Kd.C_below (by repeat (first | (with_reducible exact HR315.out) | (with_reducible refine Kd.C_alloc ?_ _) | (with_reducible refine Kd.C_drewN ?_ _) | (with_reducible refine Kd.C_drew ?_) | exact HR315.out)) hb)
                        have n6_ := Aside0.mk (Kd.C_below (by repeat (first | (with_reducible exact HR322.out) | (with_reducible refine Kd.C_alloc ?_ _) | (with_reducible refine Kd.C_drewN ?_ _) | (with_reducible refine Kd.C_drew ?_) | exact HR322.out)) hb)
                        have n7_ := Aside0.mk (blk_below (g := gb326) (o := .cells #[.int .i64 0, .slice none 0 0] 39 (0, 0)) (by (with_reducible repeat (first | refine blk_drewN ?_ _ | refine blk_drew ?_ | refine blk_alloc ?_ _)); exact BK326.out) hb)
                        have n8_ := Aside0.mk (below_step (by repeat (first | (with_reducible first | exact HB.out | apply below_alloc | apply pw_below_drewN | apply below_drew1 | refine below_set ?_ (IsS58.ge HI293.out) | refine below_set ?_ GE305.out | refine below_set ?_ GE326.out) | exact HB.out)) hb)
                        clear HO296
                        clear HO303
                        clear HI293
                        clear BK305
                        clear HR315
                        clear HR322
                        clear BK326
                        clear HB
                        have HO296 := n0_
                        have HO303 := n1_
                        have HO311 := n2_
                        have HI293 := n3_
                        have BK305 := n4_
                        have HR315 := n5_
                        have HR322 := n6_
                        have BK326 := n7_
                        have HB := n8_
                        clear n0_ n1_ n2_ n3_ n4_ n5_ n6_ n7_ n8_
                        clear hb ho50
                        refine hK.out _ _ ⟨(blk_cell BK305.out 0).trans rfl, (blk_cell BK305.out 1).trans rfl⟩ (fun hHeld => ?_)
                        clear hK K
                        refine norm_ (a' := ?_) ?_ ?_
                        rotate_left
                        · show Act.put _ (some 37) _ = _
                          simp only [Act.put, List.setIfInBounds_toArray, List.set_cons_zero, List.set_cons_succ, i64_w, i32_w]
                          rfl
                        refine one_ (i := 7) (N := some 42) #[true, true, true, true, true, true, true, true, true, true, true, true, true, false, false, true, false] rfl rfl (one_of HT_.out (by kernel_rfl)) (by decide) (fun K hK => ?_)
                        refine Kd.R_append_rows_step k51 (w0 := w) w.heap.size (by rfl) (.tmp 37) (.tmp 41) 37 51 (.agg #[(.int .i64 0), (.int .i64 0)]) 16 rfl Tryd.underlying37 info51 rfl (by decide) (by omega) v310 y309 y312 _ _ _ (fun k_ => some k_ ≠ (.slice Ao41 t301.length co41 : Value).ownBlock) (fun _ => False) rfl rfl ?aO ?aR (fun _ _ h => h) (fun _ h => h.elim) ?aF ?aB ?aS ?aL ?_
                        (case aR => repeat (first | exact (by repeat (first | (with_reducible exact HR315.out) | (with_reducible refine Kd.C_alloc ?_ _) | (with_reducible refine Kd.C_drewN ?_ _) | (with_reducible refine Kd.C_drew ?_) | exact HR315.out)) | (with_reducible refine Kd.C_alloc ?_ _) | (with_reducible refine Kd.C_drewN ?_ _) | (with_reducible refine Kd.C_drew ?_)))
                        (case aB => exact (by repeat (first | (with_reducible first | exact HB.out | apply below_alloc | apply pw_below_drewN | apply below_drew1 | refine below_set ?_ (IsS58.ge HI293.out) | refine below_set ?_ GE305.out | refine below_set ?_ GE326.out) | exact HB.out)))
                        (case aF => exact (fun k_ hk => Kd.fresh' (Kd.R_lt (by (with_reducible repeat (first | apply Kd.R_alloc | apply Kd.R_drewN | apply Kd.R_drew)); exact HO303.out)) k_ hk))
                        (case aO => exact (by (with_reducible repeat (first | apply Kd.R_alloc | apply Kd.R_drewN | apply Kd.R_drew)); exact Kd.R_mono HO311.out (fun _ hk => hk.2)))
                        (case aS => exact (below_size (by repeat (first | (with_reducible first | exact HB.out | apply below_alloc | apply pw_below_drewN | apply below_drew1 | refine below_set ?_ (IsS58.ge HI293.out) | refine below_set ?_ GE305.out | refine below_set ?_ GE326.out) | exact HB.out))))
                        (case aL => have := LMc26.out; omega)
                        intro v317 w51 ho hb hg hat
                        rw [← Ny316.out] at ho
                        have n0_ := Aside0.mk (IsS58.grown (by repeat (first | (with_reducible first | exact HI293.out | apply IsS58.alloc | apply IsS58.drewN | apply IsS58.drew | apply IsS58.set_1 | refine IsS58.far ?_ NB293_305.out _ | refine IsS58.far ?_ NB293_326.out _) | exact HI293.out)) hg (IsS58.own_ne HI293.out HO311.out (by decide)))
                        have n1_ := Aside0.mk (Kd.R_over' (by (with_reducible repeat (first | apply Kd.R_alloc | apply Kd.R_drewN | apply Kd.R_drew)); exact HO296.out) (Kd.R_typed (by (with_reducible repeat (first | apply Kd.R_alloc | apply Kd.R_drewN | apply Kd.R_drew)); exact HO311.out)) (by decide) hg)
                        have n2_ := Aside0.mk (Kd.R_after (ok := (fun _ => True)) (by (with_reducible repeat (first | apply Kd.R_alloc | apply Kd.R_drewN | apply Kd.R_drew)); exact HO303.out) hg hat)
                        have n3_ := Aside0.mk (blk_grown (g := gb305) (o := .cells #[.int .i64 t300, .slice Ao41 t301.length co41] 39 (0, 0)) (by (with_reducible repeat (first | refine blk_drewN ?_ _ | refine blk_drew ?_ | refine blk_alloc ?_ _)); exact BK305.out) hg (Kd.R_ne HO311.out BK305.out (by decide)))
                        have n4_ := Aside0.mk (blk_grown (g := gb326) (o := .cells #[.int .i64 0, .slice none 0 0] 39 (0, 0)) (by (with_reducible repeat (first | refine blk_drewN ?_ _ | refine blk_drew ?_ | refine blk_alloc ?_ _)); exact BK326.out) hg (Kd.R_ne HO311.out BK326.out (by decide)))
                        have n5_ := Aside0.mk (hb)
                        have n6_ := Aside0.mk ((show Kd.C k51 w51 Ao41 y312.length y312 from by rw [Ny312.out]; exact Kd.C_take (m := (t307 : Int).toNat) ((Kd.R_reads' (Kd.R_after (ok := (fun _ => True)) (by (with_reducible repeat (first | apply Kd.R_alloc | apply Kd.R_drewN | apply Kd.R_drew)); exact HO303.out) hg hat)).2.2) KL46.out))
                        have n7_ := Aside0.mk ((show Kd.C k51 w51 A47 y319.length y319 from by rw [Ny319.out, KA47.out]; exact Kd.C_drop (m := ((ji27) : Int).toNat) (c := co41) ((Kd.R_reads' (Kd.R_after (ok := (fun _ => True)) (by (with_reducible repeat (first | apply Kd.R_alloc | apply Kd.R_drewN | apply Kd.R_drew)); exact HO303.out) hg hat)).2.2) KL47.out ((Kd.R_reads' (Kd.R_after (ok := (fun _ => True)) (by (with_reducible repeat (first | apply Kd.R_alloc | apply Kd.R_drewN | apply Kd.R_drew)); exact HO303.out) hg hat)).2.1)))
                        have n8_ := Aside0.mk (ho)
                        clear HI293
                        clear HO296
                        clear HO303
                        clear BK305
                        clear BK326
                        clear HB
                        clear HR315
                        clear HR322
                        clear HO311
                        have HI293 := n0_
                        have HO296 := n1_
                        have HO303 := n2_
                        have BK305 := n3_
                        have BK326 := n4_
                        have HB := n5_
                        have HR315 := n6_
                        have HR322 := n7_
                        have HO318 := n8_
                        clear n0_ n1_ n2_ n3_ n4_ n5_ n6_ n7_ n8_
                        clear ho hb hg hat
                        refine hK.out _ _ ⟨(blk_cell BK305.out 0).trans rfl, (blk_cell BK305.out 1).trans rfl⟩ (fun hHeld => ?_)
                        clear hK K
                        refine norm_ (a' := ?_) ?_ ?_
                        rotate_left
                        · show Act.put _ (some 42) _ = _
                          simp only [Act.put, List.setIfInBounds_toArray, List.set_cons_zero, List.set_cons_succ, i64_w, i32_w]
                          rfl
                        refine one_ (i := 13) (N := some 48) #[true, true, true, true, true, true, true, true, true, true, true, true, true, true, false, true, false] rfl rfl (one_of HT_.out (by kernel_rfl)) (by decide) (fun K hK => ?_)
                        refine Kd.R_append_rows_step k51 (w0 := w) w.heap.size (by rfl) (.tmp 42) (.tmp 47) 37 51 (.agg #[(.int .i64 0), (.int .i64 0)]) 16 rfl Tryd.underlying37 info51 rfl (by decide) (by omega) v317 y316 y319 _ _ _ (fun k_ => some k_ ≠ (.slice Ao41 t301.length co41 : Value).ownBlock) (fun _ => False) rfl rfl ?aO ?aR (fun _ _ h => h) (fun _ h => h.elim) ?aF ?aB ?aS ?aL ?_
                        (case aR => repeat (first | exact (by repeat (first | (with_reducible exact HR322.out) | (with_reducible refine Kd.C_alloc ?_ _) | (with_reducible refine Kd.C_drewN ?_ _) | (with_reducible refine Kd.C_drew ?_) | exact HR322.out)) | (with_reducible refine Kd.C_alloc ?_ _) | (with_reducible refine Kd.C_drewN ?_ _) | (with_reducible refine Kd.C_drew ?_)))
                        (case aB => exact (by repeat (first | (with_reducible first | exact HB.out | apply below_alloc | apply pw_below_drewN | apply below_drew1 | refine below_set ?_ (IsS58.ge HI293.out) | refine below_set ?_ GE305.out | refine below_set ?_ GE326.out) | exact HB.out)))
                        (case aF => exact (fun k_ hk => Kd.fresh' (Kd.R_lt (by (with_reducible repeat (first | apply Kd.R_alloc | apply Kd.R_drewN | apply Kd.R_drew)); exact HO303.out)) k_ hk))
                        (case aO => exact (by (with_reducible repeat (first | apply Kd.R_alloc | apply Kd.R_drewN | apply Kd.R_drew)); exact HO318.out))
                        (case aS => exact (below_size (by repeat (first | (with_reducible first | exact HB.out | apply below_alloc | apply pw_below_drewN | apply below_drew1 | refine below_set ?_ (IsS58.ge HI293.out) | refine below_set ?_ GE305.out | refine below_set ?_ GE326.out) | exact HB.out))))
                        (case aL => have := LMc30.out; omega)
                        intro v324 w52 ho hb hg hat
                        rw [← Ny323.out] at ho
                        have n0_ := Aside0.mk (IsS58.grown (by repeat (first | (with_reducible first | exact HI293.out | apply IsS58.alloc | apply IsS58.drewN | apply IsS58.drew | apply IsS58.set_1 | refine IsS58.far ?_ NB293_305.out _ | refine IsS58.far ?_ NB293_326.out _) | exact HI293.out)) hg (IsS58.own_ne HI293.out HO318.out (by decide)))
                        have n1_ := Aside0.mk (Kd.R_over' (by (with_reducible repeat (first | apply Kd.R_alloc | apply Kd.R_drewN | apply Kd.R_drew)); exact HO296.out) (Kd.R_typed (by (with_reducible repeat (first | apply Kd.R_alloc | apply Kd.R_drewN | apply Kd.R_drew)); exact HO318.out)) (by decide) hg)
                        have n2_ := Aside0.mk (Kd.R_after (ok := (fun _ => True)) (by (with_reducible repeat (first | apply Kd.R_alloc | apply Kd.R_drewN | apply Kd.R_drew)); exact HO303.out) hg hat)
                        have n3_ := Aside0.mk (blk_grown (g := gb305) (o := .cells #[.int .i64 t300, .slice Ao41 t301.length co41] 39 (0, 0)) (by (with_reducible repeat (first | refine blk_drewN ?_ _ | refine blk_drew ?_ | refine blk_alloc ?_ _)); exact BK305.out) hg (Kd.R_ne HO318.out BK305.out (by decide)))
                        have n4_ := Aside0.mk (blk_grown (g := gb326) (o := .cells #[.int .i64 0, .slice none 0 0] 39 (0, 0)) (by (with_reducible repeat (first | refine blk_drewN ?_ _ | refine blk_drew ?_ | refine blk_alloc ?_ _)); exact BK326.out) hg (Kd.R_ne HO318.out BK326.out (by decide)))
                        have n5_ := Aside0.mk (hb)
                        have n6_ := Aside0.mk ((show Kd.C k51 w52 Ao41 y312.length y312 from by rw [Ny312.out]; exact Kd.C_take (m := (t307 : Int).toNat) ((Kd.R_reads' (Kd.R_after (ok := (fun _ => True)) (by (with_reducible repeat (first | apply Kd.R_alloc | apply Kd.R_drewN | apply Kd.R_drew)); exact HO303.out) hg hat)).2.2) KL46.out))
                        have n7_ := Aside0.mk ((show Kd.C k51 w52 A47 y319.length y319 from by rw [Ny319.out, KA47.out]; exact Kd.C_drop (m := ((ji27) : Int).toNat) (c := co41) ((Kd.R_reads' (Kd.R_after (ok := (fun _ => True)) (by (with_reducible repeat (first | apply Kd.R_alloc | apply Kd.R_drewN | apply Kd.R_drew)); exact HO303.out) hg hat)).2.2) KL47.out ((Kd.R_reads' (Kd.R_after (ok := (fun _ => True)) (by (with_reducible repeat (first | apply Kd.R_alloc | apply Kd.R_drewN | apply Kd.R_drew)); exact HO303.out) hg hat)).2.1)))
                        have n8_ := Aside0.mk (ho)
                        clear HI293
                        clear HO296
                        clear HO303
                        clear BK305
                        clear BK326
                        clear HB
                        clear HR315
                        clear HR322
                        clear HO318
                        have HI293 := n0_
                        have HO296 := n1_
                        have HO303 := n2_
                        have BK305 := n3_
                        have BK326 := n4_
                        have HB := n5_
                        have HR315 := n6_
                        have HR322 := n7_
                        have HO325 := n8_
                        clear n0_ n1_ n2_ n3_ n4_ n5_ n6_ n7_ n8_
                        clear ho hb hg hat
                        obtain ⟨Ao53, co53, eo53⟩ := Kd.R_slice HO325.out
                        (first | subst eo53 | (injection eo53 with f1_ f2_ f3_; have f4_ := f1_.symm; have f5_ := f3_.symm; clear f1_ f2_ f3_; subst f4_; subst f5_))
                        refine hK.out _ _ ⟨(blk_cell BK305.out 0).trans rfl, (blk_cell BK305.out 1).trans rfl⟩ (fun hHeld => ?_)
                        clear hK K
                        refine norm_ (a' := ?_) ?_ ?_
                        rotate_left
                        · show Act.put _ (some 48) _ = _
                          simp only [Act.put, List.setIfInBounds_toArray, List.set_cons_zero, List.set_cons_succ, i64_w, i32_w]
                          rfl
                        refine pure_ (i := 14) (N := some 49) (v := ?_) (a' := ?_) #[true, true, true, true, true, true, true, true, true, true, true, true, true, true, true, true, false] rfl rfl (any_of HT_.out (by kernel_rfl)) (fun _ _ _ h => h) (Or.inl ⟨by rfl, ?_⟩) ?_ ?_
                        rotate_left
                        · intro w'
                          go_simp
                          with_reducible rfl
                        rotate_left
                        · simp only [Act.put, List.setIfInBounds_toArray, List.set_cons_zero, List.set_cons_succ, i64_w, i32_w]
                          rfl
                        exact norm_ (by simp only [putAll, Act.put, List.setIfInBounds_toArray, List.set_cons_zero, List.set_cons_succ]) (hCont (v310, v317, .slice Ao53 y323.length co53, gb326) _ ⟨hHeld, (by (with_reducible repeat (first | apply Kd.R_alloc | apply Kd.R_drewN | apply Kd.R_drew)); exact HO296.out), (by (with_reducible repeat (first | apply Kd.R_alloc | apply Kd.R_drewN | apply Kd.R_drew)); exact Kd.R_mono HO303.out (fun _ hk => hk.2)), (by (with_reducible repeat (first | apply Kd.R_alloc | apply Kd.R_drewN | apply Kd.R_drew)); exact HO325.out), (by (with_reducible repeat (first | refine blk_drewN ?_ _ | refine blk_drew ?_ | refine blk_alloc ?_ _)); exact BK305.out), (by (with_reducible repeat (first | refine blk_drewN ?_ _ | refine blk_drew ?_ | refine blk_alloc ?_ _)); exact BK326.out), GW326.out, GE326.out, NB293_326.out, NB326_293.out, NB305_326.out, NB326_305.out, (by repeat (first | (with_reducible first | exact HI293.out | apply IsS58.alloc | apply IsS58.drewN | apply IsS58.drew | apply IsS58.set_1 | refine IsS58.far ?_ NB293_305.out _ | refine IsS58.far ?_ NB293_326.out _) | exact HI293.out)), (by repeat (first | (with_reducible first | exact HB.out | apply below_alloc | apply pw_below_drewN | apply below_drew1 | refine below_set ?_ (IsS58.ge HI293.out) | refine below_set ?_ GE305.out | refine below_set ?_ GE326.out) | exact HB.out))⟩)
                    rintro ⟨v310, v317, v324, gb326⟩ w54 ⟨hS_, h0_, h1_, h2_, h3_, h4_, h5_, h6_, h7_, h8_, h9_, h10_, h11_, h12_⟩
                    have n0_ : Aside0 (Kd.R k56 56 w54 w.heap.size (fun _ => True) (.slice Ao36 t294.length co36) t294) := ⟨h0_⟩
                    have n1_ : Aside0 (Kd.R k51 51 w54 w.heap.size (fun k_ => some k_ ≠ (v324 : Value).ownBlock) (.slice Ao41 t301.length co41) t301) := ⟨h1_⟩
                    have n2_ : Aside0 (Kd.R k51 51 w54 w.heap.size (fun k_ => some k_ ≠ (.slice Ao41 t301.length co41 : Value).ownBlock) v324 y323) := ⟨h2_⟩
                    have n3_ : Aside0 (w54.heap[gb305]? = some (.cells #[.int .i64 t300, .slice Ao41 t301.length co41] 39 (0, 0))) := ⟨h3_⟩
                    have n4_ : Aside0 (w54.heap[gb326]? = some (.cells #[.int .i64 0, .slice none 0 0] 39 (0, 0))) := ⟨h4_⟩
                    have n5_ : Aside0 (w.heap.size ≤ gb326) := ⟨h5_⟩
                    have n6_ : Aside0 (w.heap.size ≤ gb326) := ⟨h6_⟩
                    have n7_ : Aside0 (g293 ≠ gb326) := ⟨h7_⟩
                    have n8_ : Aside0 (gb326 ≠ g293) := ⟨h8_⟩
                    have n9_ : Aside0 (gb305 ≠ gb326) := ⟨h9_⟩
                    have n10_ : Aside0 (gb326 ≠ gb305) := ⟨h10_⟩
                    have n11_ : Aside0 (IsS58 w w54 g293 t291 t308) := ⟨h11_⟩
                    have n12_ : Aside0 (Below w.heap.size w w54) := ⟨h12_⟩
                    clear HO296
                    clear HO303
                    clear BK305
                    clear HI293
                    clear HB
                    clear h0_ h1_ h2_ h3_ h4_ h5_ h6_ h7_ h8_ h9_ h10_ h11_ h12_
                    have HO296 := n0_
                    have HO303 := n1_
                    have HO325 := n2_
                    have BK305 := n3_
                    have BK326 := n4_
                    have GW326 := n5_
                    have GE326 := n6_
                    have NB293_326 := n7_
                    have NB326_293 := n8_
                    have NB305_326 := n9_
                    have NB326_305 := n10_
                    have HI293 := n11_
                    have HB := n12_
                    clear n0_ n1_ n2_ n3_ n4_ n5_ n6_ n7_ n8_ n9_ n10_ n11_ n12_
                    have hHeld : w54.cell? ⟨gb305, 0, none⟩ = some (.int .i64 t300) ∧ w54.cell? ⟨gb305, 1, none⟩ = some (.slice Ao41 t301.length co41) := hS_
                    obtain ⟨Ao55, co55, eo55⟩ := Kd.R_slice HO325.out
                    (first | subst eo55 | (injection eo55 with f1_ f2_ f3_; have f4_ := f1_.symm; have f5_ := f3_.symm; clear f1_ f2_ f3_; subst f4_; subst f5_))
                    refine norm_ (a' := ?_) ?_ ?_
                    rotate_left
                    · simp only [putAll, Act.put, List.setIfInBounds_toArray, List.set_cons_zero, List.set_cons_succ]
                      rfl
                    refine one_ (i := 16) (N := none) #[true, true, true, true, true, true, true, true, true, true, true, true, true, true, true, true, true] rfl rfl (one_of HT_.out (by kernel_rfl)) (by decide) (fun K hK => ?_)
                    have hs56 : w54.cell? ⟨gb326, 0, none⟩ = some (.int .i64 0) := (blk_cell BK326.out 0).trans rfl
                    have hfs56 := blk_frozen BK326.out 0
                    have hns56_0 := NB305_326.out
                    have hms56_0 := NB326_305.out
                    have hs57 : w54.cell? ⟨gb326, 1, none⟩ = some (.slice none 0 0) := (blk_cell BK326.out 1).trans rfl
                    have hfs57 := blk_frozen BK326.out 1
                    have hns57_0 := NB305_326.out
                    have hms57_0 := NB326_305.out
                    refine skip_ (w1 := ?_) (by rfl) rfl ?_ ?_
                    rotate_left
                    · go_simp
                      rfl
                    refine hK.out _ _ ⟨((cell_far (p := ⟨gb326, _, none⟩) NB305_326.out _).trans (((cell_far (p := ⟨gb326, _, none⟩) NB305_326.out _).trans (hHeld.1)))), ((cell_far (p := ⟨gb326, _, none⟩) NB305_326.out _).trans (((cell_far (p := ⟨gb326, _, none⟩) NB305_326.out _).trans (hHeld.2))))⟩ (fun hHeld => ?_)
                    clear hK K
                    refine done_ (done_of HT_.out (by kernel_rfl)) ?_
                    go_upto_region 12 with (fail)
                    go_cut [58] (fun v58 wc => ∃ (kq : Nat) (x58_30 : Bool), v58 = .bool x58_30 ∧ Aside0 (storagebarterlaw30_DeviationLess.j0 kq t294 t307 x58_30 t300 t301 t300 y323 = some r) ∧ Aside0 (kq ≤ k) ∧ Aside0 (Kd.R k56 56 wc w.heap.size (fun _ => True) (.slice Ao36 t294.length co36) t294) ∧ Aside0 (Kd.R k51 51 wc w.heap.size (fun k_ => some k_ ≠ ((.slice Ao55 y323.length co55) : Value).ownBlock) (.slice Ao41 t301.length co41) t301) ∧ Aside0 (Kd.R k51 51 wc w.heap.size (fun k_ => some k_ ≠ ((.slice Ao41 t301.length co41) : Value).ownBlock) (.slice Ao55 y323.length co55) y323) ∧ Aside0 (wc.heap[gb305]? = some (.cells #[.int .i64 t300, (.slice Ao41 t301.length co41)] 39 (0, 0))) ∧ Aside0 (wc.heap[gb326]? = some (.cells #[.int .i64 t300, (.slice Ao55 y323.length co55)] 39 (0, 0))) ∧ Aside0 (Below w.heap.size w wc))
                    case first =>
                      have H := HC31.out
                      clear HC31
                      replace H := Option.bind_eq_some_iff.mp H
                      obtain ⟨t327, A580, H⟩ := H
                      replace H : (if t327 = true then ((deviation_Same.f k t300 t301 t300 y323).bind fun t328 => (storagebarterlaw30_DeviationLess.j0 k t294 t307 t328 t300 t301 t300 y323)) else (storagebarterlaw30_DeviationLess.j0 k t294 t307 true t300 t301 t300 y323)) = some r := H
                      have A58 := Aside0.mk A580
                      clear A580
                      by_cases c59 : t327 = true
                      · subst c59
                        have H1 : ((deviation_Same.f k t300 t301 t300 y323).bind fun t328 => (storagebarterlaw30_DeviationLess.j0 k t294 t307 t328 t300 t301 t300 y323)) = some r := by rw [if_pos rfl] at H; exact H
                        clear H
                        have H := H1
                        clear H1
                        replace H := Option.bind_eq_some_iff.mp H
                        obtain ⟨t328, A600, H⟩ := H
                        replace H : (storagebarterlaw30_DeviationLess.j0 k t294 t307 t328 t300 t301 t300 y323) = some r := H
                        have A60 := Aside0.mk A600
                        clear A600
                        have H' := Aside0.mk H
                        clear H
                        have hnb61 := NB326_305.out
                        have hnc61 := NB305_326.out
                        have hnb62 := NB326_293.out
                        have hnc62 := NB293_326.out
                        have hcz63_0 : w54.cell? ⟨gb326, 0, none⟩ = some (.int .i64 0) := (blk_cell BK326.out 0).trans rfl
                        have hcz63_1 : w54.cell? ⟨gb326, 1, none⟩ = some (.slice none 0 0) := (blk_cell BK326.out 1).trans rfl
                        have hfz63_0 := blk_frozen BK326.out 0
                        have hfz63_1 := blk_frozen BK326.out 1
                        go_wp2_with (first | ((with_reducible refine gate_callee (f := 18) rfl ?_); refine goesL_ (some 52) rfl rfl Tryd.func18 (by kernel_rfl) rfl #[.slice Ao36 t294.length co36, .agg #[.int .i64 t300, .slice Ao55 y323.length co55]] rfl (by (try simp only [List.map_toArray, List.map_cons, List.map_nil]); first | done | rfl | (simp only [List.length_drop, List.length_take]; rfl)) ?_; (with_reducible refine (deviation_Valid.calls _ _ t294 t300 _ _ y323 true _ ?side1 ?side2 ?side3 ?side4 A58.out (by first | exact HL_.out | exact laid_below HL_.out (by repeat (first | (with_reducible first | exact HB.out | apply below_alloc | apply pw_below_drewN | apply below_drew1) | refine below_set ?_ (Aside0.out (by assumption)) | exact HB.out)) | exact laid_drawn HL_.out HD.out | exact laid_drawn HL_.out (HD.out.step _))).mono ?_); (case side1 => refine (Kd.R_reads' (e := 56) (base := w.heap.size) (ok := fun k_ => True) (n := t294.length) (c := co36) ?_).2.2; exact (by (with_reducible repeat (first | apply Kd.R_alloc | apply Kd.R_drewN | apply Kd.R_drew)); exact (Kd.R_mono (Kd.R_far (p := ⟨gb326, 1, none⟩) (Kd.R_far (p := ⟨gb326, 0, none⟩) (Kd.R_types HO296.out BK326.out (by decide)) (fun _ hk => hk.2) (.int .i64 t300)) (fun _ hk => hk.2) (.slice Ao55 y323.length co55)) (fun _ h_ => h_.1)))); (case side2 => exact (Kd.R_reads' HO296.out).2.1); (case side3 => refine (Kd.R_reads' (e := 51) (base := w.heap.size) (ok := fun k_ => some k_ ≠ (.slice Ao41 t301.length co41 : Value).ownBlock) (n := y323.length) (c := co55) ?_).2.2; exact (by (with_reducible repeat (first | apply Kd.R_alloc | apply Kd.R_drewN | apply Kd.R_drew)); exact (Kd.R_mono (Kd.R_far (p := ⟨gb326, 1, none⟩) (Kd.R_far (p := ⟨gb326, 0, none⟩) (Kd.R_types HO325.out BK326.out (by decide)) (fun _ hk => hk.2) (.int .i64 t300)) (fun _ hk => hk.2) (.slice Ao55 y323.length co55)) (fun _ h_ => h_.1)))); (case side4 => exact (Kd.R_reads' HO325.out).2.1); rintro e w64 ⟨rfl, hb⟩; refine ⟨_, rfl, ?_⟩; have n0_ := Aside0.mk (Kd.R_below (by (with_reducible repeat (first | apply Kd.R_alloc | apply Kd.R_drewN | apply Kd.R_drew)); exact (Kd.R_mono (Kd.R_far (p := ⟨gb326, 1, none⟩) (Kd.R_far (p := ⟨gb326, 0, none⟩) (Kd.R_types HO296.out BK326.out (by decide)) (fun _ hk => hk.2) (.int .i64 t300)) (fun _ hk => hk.2) (.slice Ao55 y323.length co55)) (fun _ h_ => h_.1))) hb); have n1_ := Aside0.mk (Kd.R_below (by (with_reducible repeat (first | apply Kd.R_alloc | apply Kd.R_drewN | apply Kd.R_drew)); exact (Kd.R_mono (Kd.R_far (p := ⟨gb326, 1, none⟩) (Kd.R_far (p := ⟨gb326, 0, none⟩) (Kd.R_types HO303.out BK326.out (by decide)) (fun _ hk => hk.2) (.int .i64 t300)) (fun _ hk => hk.2) (.slice Ao55 y323.length co55)) (fun _ h_ => h_.1))) hb); have n2_ := Aside0.mk (Kd.R_below (by (with_reducible repeat (first | apply Kd.R_alloc | apply Kd.R_drewN | apply Kd.R_drew)); exact (Kd.R_mono (Kd.R_far (p := ⟨gb326, 1, none⟩) (Kd.R_far (p := ⟨gb326, 0, none⟩) (Kd.R_types HO325.out BK326.out (by decide)) (fun _ hk => hk.2) (.int .i64 t300)) (fun _ hk => hk.2) (.slice Ao55 y323.length co55)) (fun _ h_ => h_.1))) hb); have n3_ := Aside0.mk (IsS58.below (show IsS58 w ((w54.setCell ⟨gb326, 0, none⟩ (.int .i64 t300)).setCell ⟨gb326, 1, none⟩ (.slice Ao55 y323.length co55)) g293 t291 t308 from by repeat (first | (with_reducible first | exact HI293.out | apply IsS58.alloc | apply IsS58.drewN | apply IsS58.drew | apply IsS58.set_1 | refine IsS58.far ?_ NB293_305.out _ | refine IsS58.far ?_ NB293_326.out _) | exact HI293.out)) hb); have n4_ := Aside0.mk (blk_below (g := gb305) (o := .cells #[.int .i64 t300, .slice Ao41 t301.length co41] 39 (0, 0)) (by (with_reducible repeat (first | refine blk_drewN ?_ _ | refine blk_drew ?_ | refine blk_alloc ?_ _)); refine blk_far ?_ NB305_326.out _; (with_reducible repeat (first | refine blk_drewN ?_ _ | refine blk_drew ?_ | refine blk_alloc ?_ _)); refine blk_far ?_ NB305_326.out _; (with_reducible repeat (first | refine blk_drewN ?_ _ | refine blk_drew ?_ | refine blk_alloc ?_ _)); exact BK305.out) hb); have n5_ := Aside0.mk (blk_below (g := gb326) (o := .cells #[.int .i64 t300, .slice Ao55 y323.length co55] 39 (0, 0)) (by (with_reducible repeat (first | refine blk_drewN ?_ _ | refine blk_drew ?_ | refine blk_alloc ?_ _)); refine blk_put (cs := #[.int .i64 t300, .slice none 0 0]) ?_ 1 _ rfl; (with_reducible repeat (first | refine blk_drewN ?_ _ | refine blk_drew ?_ | refine blk_alloc ?_ _)); refine blk_put (cs := #[.int .i64 0, .slice none 0 0]) ?_ 0 _ rfl; (with_reducible repeat (first | refine blk_drewN ?_ _ | refine blk_drew ?_ | refine blk_alloc ?_ _)); exact BK326.out) hb); have n6_ := Aside0.mk (below_step (by repeat (first | (with_reducible first | exact HB.out | apply below_alloc | apply pw_below_drewN | apply below_drew1 | refine below_set ?_ (IsS58.ge HI293.out) | refine below_set ?_ GE305.out | refine below_set ?_ GE326.out) | exact HB.out)) hb); clear HO296; clear HO303; clear HO325; clear HI293; clear BK305; clear BK326; clear HB; have HO296 := n0_; have HO303 := n1_; have HO325 := n2_; have HI293 := n3_; have BK305 := n4_; have BK326 := n5_; have HB := n6_; clear n0_ n1_ n2_ n3_ n4_ n5_ n6_; (try clear hb); (try clear hb2); (try clear hk); (try clear hi); (try clear hgw); have hnb65 := NB305_293.out; have hnc65 := NB293_305.out; have hcz66_0 : w64.cell? ⟨gb305, 0, none⟩ = some (.int .i64 t300) := (blk_cell BK305.out 0).trans rfl; have hcz66_1 : w64.cell? ⟨gb305, 1, none⟩ = some (.slice Ao41 t301.length co41) := (blk_cell BK305.out 1).trans rfl; have hfz66_0 := blk_frozen BK305.out 0; have hfz66_1 := blk_frozen BK305.out 1; have hcz67_0 : w64.cell? ⟨gb326, 0, none⟩ = some (.int .i64 t300) := (blk_cell BK326.out 0).trans rfl; have hcz67_1 : w64.cell? ⟨gb326, 1, none⟩ = some (.slice Ao55 y323.length co55) := (blk_cell BK326.out 1).trans rfl; have hfz67_0 := blk_frozen BK326.out 0; have hfz67_1 := blk_frozen BK326.out 1) | (go_at_call 20; (with_reducible refine (deviation_Same.calls k t300 _ _ t301 t300 _ _ y323 t328 _ ?side1 ?side2 ?side3 ?side4 A60.out).mono ?_); (case side1 => repeat (first | exact (Kd.R_reads' HO303.out).2.2 | (with_reducible refine Kd.C_alloc ?_ _) | (with_reducible refine Kd.C_drewN ?_ _) | (with_reducible refine Kd.C_drew ?_))); (case side2 => exact (Kd.R_reads' HO303.out).2.1); (case side3 => repeat (first | exact (Kd.R_reads' HO325.out).2.2 | (with_reducible refine Kd.C_alloc ?_ _) | (with_reducible refine Kd.C_drewN ?_ _) | (with_reducible refine Kd.C_drew ?_))); (case side4 => exact (Kd.R_reads' HO325.out).2.1); rintro e w68 ⟨rfl, hb⟩; have n0_ := Aside0.mk (Kd.R_below (by (with_reducible repeat (first | apply Kd.R_alloc | apply Kd.R_drewN | apply Kd.R_drew)); exact HO296.out) hb); have n1_ := Aside0.mk (Kd.R_below (by (with_reducible repeat (first | apply Kd.R_alloc | apply Kd.R_drewN | apply Kd.R_drew)); exact HO303.out) hb); have n2_ := Aside0.mk (Kd.R_below (by (with_reducible repeat (first | apply Kd.R_alloc | apply Kd.R_drewN | apply Kd.R_drew)); exact HO325.out) hb); have n3_ := Aside0.mk (IsS58.below (by repeat (first | (with_reducible first | exact HI293.out | apply IsS58.alloc | apply IsS58.drewN | apply IsS58.drew | apply IsS58.set_1 | refine IsS58.far ?_ NB293_305.out _ | refine IsS58.far ?_ NB293_326.out _) | exact HI293.out)) hb); have n4_ := Aside0.mk (blk_below (g := gb305) (o := .cells #[.int .i64 t300, .slice Ao41 t301.length co41] 39 (0, 0)) (by (with_reducible repeat (first | refine blk_drewN ?_ _ | refine blk_drew ?_ | refine blk_alloc ?_ _)); exact BK305.out) hb); have n5_ := Aside0.mk (blk_below (g := gb326) (o := .cells #[.int .i64 t300, .slice Ao55 y323.length co55] 39 (0, 0)) (by (with_reducible repeat (first | refine blk_drewN ?_ _ | refine blk_drew ?_ | refine blk_alloc ?_ _)); exact BK326.out) hb); have n6_ := Aside0.mk (below_step (by repeat (first | (with_reducible first | exact HB.out | apply below_alloc | apply pw_below_drewN | apply below_drew1 | refine below_set ?_ (IsS58.ge HI293.out) | refine below_set ?_ GE305.out | refine below_set ?_ GE326.out) | exact HB.out)) hb); clear HO296; clear HO303; clear HO325; clear HI293; clear BK305; clear BK326; clear HB; have HO296 := n0_; have HO303 := n1_; have HO325 := n2_; have HI293 := n3_; have BK305 := n4_; have BK326 := n5_; have HB := n6_; clear n0_ n1_ n2_ n3_ n4_ n5_ n6_; (try clear hb); (try clear hb2); (try clear hk); (try clear hi); (try clear hgw)))
                        go_meet
                        case rel => exact ⟨_, (t328), (by first | rfl | (simp; done) | (simp [*]; done)), H', ⟨by first | omega | exact Nat.le_refl _⟩, ⟨by (with_reducible repeat (first | apply Kd.R_alloc | apply Kd.R_drewN | apply Kd.R_drew)); exact HO296.out⟩, ⟨by (with_reducible repeat (first | apply Kd.R_alloc | apply Kd.R_drewN | apply Kd.R_drew)); exact HO303.out⟩, ⟨by (with_reducible repeat (first | apply Kd.R_alloc | apply Kd.R_drewN | apply Kd.R_drew)); exact HO325.out⟩, ⟨by (with_reducible repeat (first | refine blk_drewN ?_ _ | refine blk_drew ?_ | refine blk_alloc ?_ _)); exact BK305.out⟩, ⟨by (with_reducible repeat (first | refine blk_drewN ?_ _ | refine blk_drew ?_ | refine blk_alloc ?_ _)); exact BK326.out⟩, ⟨by repeat (first | (with_reducible first | exact HB.out | apply below_alloc | apply pw_below_drewN | apply below_drew1 | refine below_set ?_ (IsS58.ge HI293.out) | refine below_set ?_ GE305.out | refine below_set ?_ GE326.out) | exact HB.out)⟩⟩
                      · replace c59 := Bool.eq_false_iff.mpr c59
                        subst c59
                        have H1 : (storagebarterlaw30_DeviationLess.j0 k t294 t307 true t300 t301 t300 y323) = some r := by rw [if_neg (show ¬ (false = true) by decide)] at H; exact H
                        clear H
                        have H := H1
                        clear H1
                        have H' := Aside0.mk H
                        clear H
                        have hnb69 := NB326_305.out
                        have hnc69 := NB305_326.out
                        have hnb70 := NB326_293.out
                        have hnc70 := NB293_326.out
                        have hcz71_0 : w54.cell? ⟨gb326, 0, none⟩ = some (.int .i64 0) := (blk_cell BK326.out 0).trans rfl
                        have hcz71_1 : w54.cell? ⟨gb326, 1, none⟩ = some (.slice none 0 0) := (blk_cell BK326.out 1).trans rfl
                        have hfz71_0 := blk_frozen BK326.out 0
                        have hfz71_1 := blk_frozen BK326.out 1
                        go_wp2_with (first | ((with_reducible refine gate_callee (f := 18) rfl ?_); refine goesL_ (some 52) rfl rfl Tryd.func18 (by kernel_rfl) rfl #[.slice Ao36 t294.length co36, .agg #[.int .i64 t300, .slice Ao55 y323.length co55]] rfl (by (try simp only [List.map_toArray, List.map_cons, List.map_nil]); first | done | rfl | (simp only [List.length_drop, List.length_take]; rfl)) ?_; (with_reducible refine (deviation_Valid.calls _ _ t294 t300 _ _ y323 false _ ?side1 ?side2 ?side3 ?side4 A58.out (by first | exact HL_.out | exact laid_below HL_.out (by repeat (first | (with_reducible first | exact HB.out | apply below_alloc | apply pw_below_drewN | apply below_drew1) | refine below_set ?_ (Aside0.out (by assumption)) | exact HB.out)) | exact laid_drawn HL_.out HD.out | exact laid_drawn HL_.out (HD.out.step _))).mono ?_); (case side1 => refine (Kd.R_reads' (e := 56) (base := w.heap.size) (ok := fun k_ => True) (n := t294.length) (c := co36) ?_).2.2; exact (by (with_reducible repeat (first | apply Kd.R_alloc | apply Kd.R_drewN | apply Kd.R_drew)); exact (Kd.R_mono (Kd.R_far (p := ⟨gb326, 1, none⟩) (Kd.R_far (p := ⟨gb326, 0, none⟩) (Kd.R_types HO296.out BK326.out (by decide)) (fun _ hk => hk.2) (.int .i64 t300)) (fun _ hk => hk.2) (.slice Ao55 y323.length co55)) (fun _ h_ => h_.1)))); (case side2 => exact (Kd.R_reads' HO296.out).2.1); (case side3 => refine (Kd.R_reads' (e := 51) (base := w.heap.size) (ok := fun k_ => some k_ ≠ (.slice Ao41 t301.length co41 : Value).ownBlock) (n := y323.length) (c := co55) ?_).2.2; exact (by (with_reducible repeat (first | apply Kd.R_alloc | apply Kd.R_drewN | apply Kd.R_drew)); exact (Kd.R_mono (Kd.R_far (p := ⟨gb326, 1, none⟩) (Kd.R_far (p := ⟨gb326, 0, none⟩) (Kd.R_types HO325.out BK326.out (by decide)) (fun _ hk => hk.2) (.int .i64 t300)) (fun _ hk => hk.2) (.slice Ao55 y323.length co55)) (fun _ h_ => h_.1)))); (case side4 => exact (Kd.R_reads' HO325.out).2.1); rintro e w72 ⟨rfl, hb⟩; refine ⟨_, rfl, ?_⟩; have n0_ := Aside0.mk (Kd.R_below (by (with_reducible repeat (first | apply Kd.R_alloc | apply Kd.R_drewN | apply Kd.R_drew)); exact (Kd.R_mono (Kd.R_far (p := ⟨gb326, 1, none⟩) (Kd.R_far (p := ⟨gb326, 0, none⟩) (Kd.R_types HO296.out BK326.out (by decide)) (fun _ hk => hk.2) (.int .i64 t300)) (fun _ hk => hk.2) (.slice Ao55 y323.length co55)) (fun _ h_ => h_.1))) hb); have n1_ := Aside0.mk (Kd.R_below (by (with_reducible repeat (first | apply Kd.R_alloc | apply Kd.R_drewN | apply Kd.R_drew)); exact (Kd.R_mono (Kd.R_far (p := ⟨gb326, 1, none⟩) (Kd.R_far (p := ⟨gb326, 0, none⟩) (Kd.R_types HO303.out BK326.out (by decide)) (fun _ hk => hk.2) (.int .i64 t300)) (fun _ hk => hk.2) (.slice Ao55 y323.length co55)) (fun _ h_ => h_.1))) hb); have n2_ := Aside0.mk (Kd.R_below (by (with_reducible repeat (first | apply Kd.R_alloc | apply Kd.R_drewN | apply Kd.R_drew)); exact (Kd.R_mono (Kd.R_far (p := ⟨gb326, 1, none⟩) (Kd.R_far (p := ⟨gb326, 0, none⟩) (Kd.R_types HO325.out BK326.out (by decide)) (fun _ hk => hk.2) (.int .i64 t300)) (fun _ hk => hk.2) (.slice Ao55 y323.length co55)) (fun _ h_ => h_.1))) hb); have n3_ := Aside0.mk (IsS58.below (show IsS58 w ((w54.setCell ⟨gb326, 0, none⟩ (.int .i64 t300)).setCell ⟨gb326, 1, none⟩ (.slice Ao55 y323.length co55)) g293 t291 t308 from by repeat (first | (with_reducible first | exact HI293.out | apply IsS58.alloc | apply IsS58.drewN | apply IsS58.drew | apply IsS58.set_1 | refine IsS58.far ?_ NB293_305.out _ | refine IsS58.far ?_ NB293_326.out _) | exact HI293.out)) hb); have n4_ := Aside0.mk (blk_below (g := gb305) (o := .cells #[.int .i64 t300, .slice Ao41 t301.length co41] 39 (0, 0)) (by (with_reducible repeat (first | refine blk_drewN ?_ _ | refine blk_drew ?_ | refine blk_alloc ?_ _)); refine blk_far ?_ NB305_326.out _; (with_reducible repeat (first | refine blk_drewN ?_ _ | refine blk_drew ?_ | refine blk_alloc ?_ _)); refine blk_far ?_ NB305_326.out _; (with_reducible repeat (first | refine blk_drewN ?_ _ | refine blk_drew ?_ | refine blk_alloc ?_ _)); exact BK305.out) hb); have n5_ := Aside0.mk (blk_below (g := gb326) (o := .cells #[.int .i64 t300, .slice Ao55 y323.length co55] 39 (0, 0)) (by (with_reducible repeat (first | refine blk_drewN ?_ _ | refine blk_drew ?_ | refine blk_alloc ?_ _)); refine blk_put (cs := #[.int .i64 t300, .slice none 0 0]) ?_ 1 _ rfl; (with_reducible repeat (first | refine blk_drewN ?_ _ | refine blk_drew ?_ | refine blk_alloc ?_ _)); refine blk_put (cs := #[.int .i64 0, .slice none 0 0]) ?_ 0 _ rfl; (with_reducible repeat (first | refine blk_drewN ?_ _ | refine blk_drew ?_ | refine blk_alloc ?_ _)); exact BK326.out) hb); have n6_ := Aside0.mk (below_step (by repeat (first | (with_reducible first | exact HB.out | apply below_alloc | apply pw_below_drewN | apply below_drew1 | refine below_set ?_ (IsS58.ge HI293.out) | refine below_set ?_ GE305.out | refine below_set ?_ GE326.out) | exact HB.out)) hb); clear HO296; clear HO303; clear HO325; clear HI293; clear BK305; clear BK326; clear HB; have HO296 := n0_; have HO303 := n1_; have HO325 := n2_; have HI293 := n3_; have BK305 := n4_; have BK326 := n5_; have HB := n6_; clear n0_ n1_ n2_ n3_ n4_ n5_ n6_; (try clear hb); (try clear hb2); (try clear hk); (try clear hi); (try clear hgw)))
                        go_meet
                        case rel => exact ⟨_, (true), (by first | rfl | (simp; done) | (simp [*]; done)), H', ⟨by first | omega | exact Nat.le_refl _⟩, ⟨by (with_reducible repeat (first | apply Kd.R_alloc | apply Kd.R_drewN | apply Kd.R_drew)); exact HO296.out⟩, ⟨by (with_reducible repeat (first | apply Kd.R_alloc | apply Kd.R_drewN | apply Kd.R_drew)); exact HO303.out⟩, ⟨by (with_reducible repeat (first | apply Kd.R_alloc | apply Kd.R_drewN | apply Kd.R_drew)); exact HO325.out⟩, ⟨by (with_reducible repeat (first | refine blk_drewN ?_ _ | refine blk_drew ?_ | refine blk_alloc ?_ _)); exact BK305.out⟩, ⟨by (with_reducible repeat (first | refine blk_drewN ?_ _ | refine blk_drew ?_ | refine blk_alloc ?_ _)); exact BK326.out⟩, ⟨by repeat (first | (with_reducible first | exact HB.out | apply below_alloc | apply pw_below_drewN | apply below_drew1 | refine below_set ?_ (IsS58.ge HI293.out) | refine below_set ?_ GE305.out | refine below_set ?_ GE326.out) | exact HB.out)⟩⟩
                    case rest =>
                      clear HC31
                      try clear c1
                      try clear c2
                      try clear p2
                      try clear c3
                      try clear c5
                      try clear c6
                      try clear c7
                      try clear c18
                      try clear c26
                      try clear c30
                      try clear c59
                      try clear c61
                      try clear c62
                      try clear c65
                      try clear c69
                      try clear c70
                      try clear hcz63_0
                      try clear hcz63_1
                      try clear hcz66_0
                      try clear hcz66_1
                      try clear hcz67_0
                      try clear hcz67_1
                      try clear hcz71_0
                      try clear hcz71_1
                      try clear hfz63_0
                      try clear hfz63_1
                      try clear hfz66_0
                      try clear hfz66_1
                      try clear hfz67_0
                      try clear hfz67_1
                      try clear hfz71_0
                      try clear hfz71_1
                      obtain ⟨kq, x58_30, rfl, HA, HJ30, HO_4, HO_306001, HO_327001, BK305, BK326, HB⟩ := hcut
                      cases kq with
                      | zero => exact absurd HA.out (by simp [storagebarterlaw30_DeviationLess.j0])
                      | succ kj30 =>
                        have H := HA.out
                        clear HA
                        simp only [storagebarterlaw30_DeviationLess.j0] at H
                        by_cases c73 : x58_30 = true
                        · subst c73
                          have H1 : (some false) = some r := by rw [if_pos rfl] at H; exact H
                          clear H
                          have H := H1
                          clear H1
                          exact absurd (Option.some.inj H) (by rw [HRT_.out]; decide)
                        · replace c73 := Bool.eq_false_iff.mpr c73
                          subst c73
                          have H1 : (storagebarterlaw30_DeviationLess.l0 kj30 t307 (t294.length : Int) 0 t300 t301 t300 y323) = some r := by rw [if_neg (show ¬ (false = true) by decide)] at H; exact H
                          clear H
                          have H := H1
                          clear H1
                          have H' := Aside0.mk H
                          clear H
                          go_wp2
                          go_loopg [61] kj30 (fun kq v61 w' => ∃ (x61_2 : Int), v61 = .int .i64 x61_2 ∧ Aside0 (storagebarterlaw30_DeviationLess.l0 kq t307 (t294.length : Int) x61_2 t300 t301 t300 y323 = some r) ∧ Aside0 (kq ≤ kj30) ∧ Aside0 (Kd.R k51 51 w' w.heap.size (fun k_ => some k_ ≠ ((.slice Ao55 y323.length co55) : Value).ownBlock) (.slice Ao41 t301.length co41) t301) ∧ Aside0 (Kd.R k51 51 w' w.heap.size (fun k_ => some k_ ≠ ((.slice Ao41 t301.length co41) : Value).ownBlock) (.slice Ao55 y323.length co55) y323) ∧ Aside0 (w'.heap[gb305]? = some (.cells #[.int .i64 t300, (.slice Ao41 t301.length co41)] 39 (0, 0))) ∧ Aside0 (w'.heap[gb326]? = some (.cells #[.int .i64 t300, (.slice Ao55 y323.length co55)] 39 (0, 0))) ∧ Aside0 (Below w.heap.size w w'))
                          case atStart => exact ⟨(0), (by first | rfl | (simp; done) | (simp [*]; done)), H', ⟨Nat.le_refl _⟩, ⟨by (with_reducible repeat (first | apply Kd.R_alloc | apply Kd.R_drewN | apply Kd.R_drew)); exact HO_306001.out⟩, ⟨by (with_reducible repeat (first | apply Kd.R_alloc | apply Kd.R_drewN | apply Kd.R_drew)); exact HO_327001.out⟩, ⟨by (with_reducible repeat (first | refine blk_drewN ?_ _ | refine blk_drew ?_ | refine blk_alloc ?_ _)); exact BK305.out⟩, ⟨by (with_reducible repeat (first | refine blk_drewN ?_ _ | refine blk_drew ?_ | refine blk_alloc ?_ _)); exact BK326.out⟩, ⟨by repeat (first | (with_reducible first | exact HB.out | apply below_alloc | apply pw_below_drewN | apply below_drew1 | refine below_set ?_ GE305.out | refine below_set ?_ GE326.out) | exact HB.out)⟩⟩
                          case round =>
                            clear H'
                            try clear c1
                            try clear c2
                            try clear p2
                            try clear c3
                            try clear c5
                            try clear c6
                            try clear c7
                            try clear c18
                            try clear c26
                            try clear c30
                            try clear c59
                            try clear c61
                            try clear c62
                            try clear c65
                            try clear c69
                            try clear c70
                            try clear c73
                            try clear hcz63_0
                            try clear hcz63_1
                            try clear hcz66_0
                            try clear hcz66_1
                            try clear hcz67_0
                            try clear hcz67_1
                            try clear hcz71_0
                            try clear hcz71_1
                            try clear hfz63_0
                            try clear hfz63_1
                            try clear hfz66_0
                            try clear hfz66_1
                            try clear hfz67_0
                            try clear hfz67_1
                            try clear hfz71_0
                            try clear hfz71_1
                            try clear p2
                            obtain ⟨x61_2, rfl, HA, HK2, HO_306001, HO_327001, BK305, BK326, HB⟩ := hrel
                            cases gk with
                            | zero => exact absurd HA.out (by simp [storagebarterlaw30_DeviationLess.l0])
                            | succ k2 =>
                              have H := HA.out
                              clear HA
                              simp only [storagebarterlaw30_DeviationLess.l0] at H
                              by_cases c74 : x61_2 < (t294.length : Int)
                              · rw [if_pos c74] at H
                                have c74b0 : decide (x61_2 < (t294.length : Int)) = true := decide_eq_true c74
                                clear c74
                                replace H := Option.bind_eq_some_iff.mp H
                                obtain ⟨t329, A750, H⟩ := H
                                replace H : (if 0 ≤ t307 then (if t307 < (t301.length : Int) then (if x61_2 = ((rd_T51 t301 t307).f0) then ((deviation_How.f k2 t300 y323 x61_2).bind fun t331 => (if t331 = 0 then (storagebarterlaw30_DeviationLess.l0 k2 t307 (t294.length : Int) (wrap64 (x61_2 + 1)) t300 t301 t300 y323) else (some false))) else ((deviation_How.f k2 t300 y323 x61_2).bind fun t332 => (if t332 = t329 then (storagebarterlaw30_DeviationLess.l0 k2 t307 (t294.length : Int) (wrap64 (x61_2 + 1)) t300 t301 t300 y323) else (some false)))) else (none)) else (none)) = some r := H
                                have A75 := Aside0.mk A750
                                clear A750
                                by_cases c76 : 0 ≤ t307
                                · rw [if_pos c76] at H
                                  have c76b0 : decide (0 ≤ t307) = true := decide_eq_true c76
                                  clear c76
                                  by_cases c77 : t307 < (t301.length : Int)
                                  · rw [if_pos c77] at H
                                    have c77b0 : decide (t307 < (t301.length : Int)) = true := decide_eq_true c77
                                    clear c77
                                    by_cases c78 : x61_2 = ((rd_T51 t301 t307).f0)
                                    · rw [if_pos c78] at H
                                      have c78b0 : (x61_2 == ((rd_T51 t301 t307).f0)) = true := beq_iff_eq.mpr c78
                                      have c78b1 : (x61_2 != ((rd_T51 t301 t307).f0)) = false := bne_eq_false_iff_eq.mpr c78
                                      clear c78
                                      replace H := Option.bind_eq_some_iff.mp H
                                      obtain ⟨t331, A790, H⟩ := H
                                      replace H : (if t331 = 0 then (storagebarterlaw30_DeviationLess.l0 k2 t307 (t294.length : Int) (wrap64 (x61_2 + 1)) t300 t301 t300 y323) else (some false)) = some r := H
                                      have A79 := Aside0.mk A790
                                      clear A790
                                      by_cases c80 : t331 = 0
                                      · rw [if_pos c80] at H
                                        have c80b0 : (t331 == 0) = true := beq_iff_eq.mpr c80
                                        have c80b1 : (t331 != 0) = false := bne_eq_false_iff_eq.mpr c80
                                        clear c80
                                        have H' := Aside0.mk H
                                        clear H
                                        have hnb81 := NB305_326.out
                                        have hnc81 := NB326_305.out
                                        have hcz82_0 : wr.cell? ⟨gb305, 0, none⟩ = some (.int .i64 t300) := (blk_cell BK305.out 0).trans rfl
                                        have hcz82_1 : wr.cell? ⟨gb305, 1, none⟩ = some (.slice Ao41 t301.length co41) := (blk_cell BK305.out 1).trans rfl
                                        have hfz82_0 := blk_frozen BK305.out 0
                                        have hfz82_1 := blk_frozen BK305.out 1
                                        go_wp2_with (first | ((with_reducible refine gate_callee (f := 24) rfl ?_); refine goesL_ (some 66) rfl rfl Tryd.func24 (by kernel_rfl) rfl #[.agg #[.int .i64 t300, .slice Ao41 t301.length co41], .int .i64 x61_2] rfl (by (try simp only [List.map_toArray, List.map_cons, List.map_nil]); first | done | rfl | (simp only [List.length_drop, List.length_take]; rfl)) ?_; (with_reducible refine (deviation_How.calls k2 t300 _ _ t301 x61_2 t329 _ ?side1 ?side2 A75.out).mono ?_); (case side1 => repeat (first | exact (Kd.R_reads' HO_306001.out).2.2 | (with_reducible refine Kd.C_alloc ?_ _) | (with_reducible refine Kd.C_drewN ?_ _) | (with_reducible refine Kd.C_drew ?_))); (case side2 => exact (Kd.R_reads' HO_306001.out).2.1); rintro e w83 ⟨rfl, hb⟩; refine ⟨_, rfl, ?_⟩; have n0_ := Aside0.mk (Kd.R_below (by (with_reducible repeat (first | apply Kd.R_alloc | apply Kd.R_drewN | apply Kd.R_drew)); exact HO_306001.out) hb); have n1_ := Aside0.mk (Kd.R_below (by (with_reducible repeat (first | apply Kd.R_alloc | apply Kd.R_drewN | apply Kd.R_drew)); exact HO_327001.out) hb); have n2_ := Aside0.mk (blk_below (g := gb305) (o := .cells #[.int .i64 t300, .slice Ao41 t301.length co41] 39 (0, 0)) (by (with_reducible repeat (first | refine blk_drewN ?_ _ | refine blk_drew ?_ | refine blk_alloc ?_ _)); exact BK305.out) hb); have n3_ := Aside0.mk (blk_below (g := gb326) (o := .cells #[.int .i64 t300, .slice Ao55 y323.length co55] 39 (0, 0)) (by (with_reducible repeat (first | refine blk_drewN ?_ _ | refine blk_drew ?_ | refine blk_alloc ?_ _)); exact BK326.out) hb); have n4_ := Aside0.mk (below_step (by repeat (first | (with_reducible first | exact HB.out | apply below_alloc | apply pw_below_drewN | apply below_drew1 | refine below_set ?_ GE305.out | refine below_set ?_ GE326.out) | exact HB.out)) hb); clear HO_306001; clear HO_327001; clear BK305; clear BK326; clear HB; have HO_306001 := n0_; have HO_327001 := n1_; have BK305 := n2_; have BK326 := n3_; have HB := n4_; clear n0_ n1_ n2_ n3_ n4_; (try clear hb); (try clear hb2); (try clear hk); (try clear hi); (try clear hgw); have hcz84_0 : w83.cell? ⟨gb305, 0, none⟩ = some (.int .i64 t300) := (blk_cell BK305.out 0).trans rfl; have hcz84_1 : w83.cell? ⟨gb305, 1, none⟩ = some (.slice Ao41 t301.length co41) := (blk_cell BK305.out 1).trans rfl; have hfz84_0 := blk_frozen BK305.out 0; have hfz84_1 := blk_frozen BK305.out 1; have p330 : 0 ≤ (t307 : Int) := of_decide_eq_true (by first | (with_reducible assumption) | assumption); have q330 : t307 < (t301.length : Int) := of_decide_eq_true (by first | (with_reducible assumption) | assumption); obtain ⟨ad330, e330, hx330_0, hx330_1⟩ := at_T51 (Kd.R_reads' HO_306001.out).2.2 t307 p330 q330; cases e330; replace p330 := eq_true p330; replace q330 := eq_true q330; have hcz85_0 : w83.cell? ⟨gb326, 0, none⟩ = some (.int .i64 t300) := (blk_cell BK326.out 0).trans rfl; have hcz85_1 : w83.cell? ⟨gb326, 1, none⟩ = some (.slice Ao55 y323.length co55) := (blk_cell BK326.out 1).trans rfl; have hfz85_0 := blk_frozen BK326.out 0; have hfz85_1 := blk_frozen BK326.out 1) | ((with_reducible refine gate_callee (f := 24) rfl ?_); refine goesL_ (some 77) rfl rfl Tryd.func24 (by kernel_rfl) rfl #[.agg #[.int .i64 t300, .slice Ao55 y323.length co55], .int .i64 x61_2] rfl (by (try simp only [List.map_toArray, List.map_cons, List.map_nil]); first | done | rfl | (simp only [List.length_drop, List.length_take]; rfl)) ?_; (with_reducible refine (deviation_How.calls k2 t300 _ _ y323 x61_2 t331 _ ?side1 ?side2 A79.out).mono ?_); (case side1 => repeat (first | exact (Kd.R_reads' HO_327001.out).2.2 | (with_reducible refine Kd.C_alloc ?_ _) | (with_reducible refine Kd.C_drewN ?_ _) | (with_reducible refine Kd.C_drew ?_))); (case side2 => exact (Kd.R_reads' HO_327001.out).2.1); rintro e w86 ⟨rfl, hb⟩; refine ⟨_, rfl, ?_⟩; have n0_ := Aside0.mk (Kd.R_below (by (with_reducible repeat (first | apply Kd.R_alloc | apply Kd.R_drewN | apply Kd.R_drew)); exact HO_306001.out) hb); have n1_ := Aside0.mk (Kd.R_below (by (with_reducible repeat (first | apply Kd.R_alloc | apply Kd.R_drewN | apply Kd.R_drew)); exact HO_327001.out) hb); have n2_ := Aside0.mk (blk_below (g := gb305) (o := .cells #[.int .i64 t300, .slice (some ad330) t301.length co41] 39 (0, 0)) (by (with_reducible repeat (first | refine blk_drewN ?_ _ | refine blk_drew ?_ | refine blk_alloc ?_ _)); exact BK305.out) hb); have n3_ := Aside0.mk (blk_below (g := gb326) (o := .cells #[.int .i64 t300, .slice Ao55 y323.length co55] 39 (0, 0)) (by (with_reducible repeat (first | refine blk_drewN ?_ _ | refine blk_drew ?_ | refine blk_alloc ?_ _)); exact BK326.out) hb); have n4_ := Aside0.mk (below_step (by repeat (first | (with_reducible first | exact HB.out | apply below_alloc | apply pw_below_drewN | apply below_drew1 | refine below_set ?_ GE305.out | refine below_set ?_ GE326.out) | exact HB.out)) hb); clear HO_306001; clear HO_327001; clear BK305; clear BK326; clear HB; have HO_306001 := n0_; have HO_327001 := n1_; have BK305 := n2_; have BK326 := n3_; have HB := n4_; clear n0_ n1_ n2_ n3_ n4_; (try clear hb); (try clear hb2); (try clear hk); (try clear hi); (try clear hgw)))
                                        go_roundg k2
                                        case measure => have := HJ30.out; have := HK2.out; omega
                                        case rel => exact ⟨(wrap64 (x61_2 + 1)), (by first | rfl | (simp; done) | (simp [*]; done)), H', ⟨by have := HJ30.out; have := HK2.out; omega⟩, ⟨by (with_reducible repeat (first | apply Kd.R_alloc | apply Kd.R_drewN | apply Kd.R_drew)); exact HO_306001.out⟩, ⟨by (with_reducible repeat (first | apply Kd.R_alloc | apply Kd.R_drewN | apply Kd.R_drew)); exact HO_327001.out⟩, ⟨by (with_reducible repeat (first | refine blk_drewN ?_ _ | refine blk_drew ?_ | refine blk_alloc ?_ _)); exact BK305.out⟩, ⟨by (with_reducible repeat (first | refine blk_drewN ?_ _ | refine blk_drew ?_ | refine blk_alloc ?_ _)); exact BK326.out⟩, ⟨by repeat (first | (with_reducible first | exact HB.out | apply below_alloc | apply pw_below_drewN | apply below_drew1 | refine below_set ?_ GE305.out | refine below_set ?_ GE326.out) | exact HB.out)⟩⟩
                                      · rw [if_neg c80] at H
                                        have c80b0 : (t331 == 0) = false := beq_eq_false_iff_ne.mpr c80
                                        have c80b1 : (t331 != 0) = true := bne_iff_ne.mpr c80
                                        exact absurd (Option.some.inj H) (by rw [HRT_.out]; decide)
                                    · rw [if_neg c78] at H
                                      have c78b0 : (x61_2 == ((rd_T51 t301 t307).f0)) = false := beq_eq_false_iff_ne.mpr c78
                                      have c78b1 : (x61_2 != ((rd_T51 t301 t307).f0)) = true := bne_iff_ne.mpr c78
                                      replace H := Option.bind_eq_some_iff.mp H
                                      obtain ⟨t332, A870, H⟩ := H
                                      replace H : (if t332 = t329 then (storagebarterlaw30_DeviationLess.l0 k2 t307 (t294.length : Int) (wrap64 (x61_2 + 1)) t300 t301 t300 y323) else (some false)) = some r := H
                                      have A87 := Aside0.mk A870
                                      clear A870
                                      by_cases c88 : t332 = t329
                                      · rw [if_pos c88] at H
                                        have c88b0 : (t332 == t329) = true := beq_iff_eq.mpr c88
                                        have c88b1 : (t332 != t329) = false := bne_eq_false_iff_eq.mpr c88
                                        clear c88
                                        have H' := Aside0.mk H
                                        clear H
                                        have hnb89 := NB305_326.out
                                        have hnc89 := NB326_305.out
                                        have hcz90_0 : wr.cell? ⟨gb305, 0, none⟩ = some (.int .i64 t300) := (blk_cell BK305.out 0).trans rfl
                                        have hcz90_1 : wr.cell? ⟨gb305, 1, none⟩ = some (.slice Ao41 t301.length co41) := (blk_cell BK305.out 1).trans rfl
                                        have hfz90_0 := blk_frozen BK305.out 0
                                        have hfz90_1 := blk_frozen BK305.out 1
                                        go_wp2_with (first | ((with_reducible refine gate_callee (f := 24) rfl ?_); refine goesL_ (some 66) rfl rfl Tryd.func24 (by kernel_rfl) rfl #[.agg #[.int .i64 t300, .slice Ao41 t301.length co41], .int .i64 x61_2] rfl (by (try simp only [List.map_toArray, List.map_cons, List.map_nil]); first | done | rfl | (simp only [List.length_drop, List.length_take]; rfl)) ?_; (with_reducible refine (deviation_How.calls k2 t300 _ _ t301 x61_2 t329 _ ?side1 ?side2 A75.out).mono ?_); (case side1 => repeat (first | exact (Kd.R_reads' HO_306001.out).2.2 | (with_reducible refine Kd.C_alloc ?_ _) | (with_reducible refine Kd.C_drewN ?_ _) | (with_reducible refine Kd.C_drew ?_))); (case side2 => exact (Kd.R_reads' HO_306001.out).2.1); rintro e w91 ⟨rfl, hb⟩; refine ⟨_, rfl, ?_⟩; have n0_ := Aside0.mk (Kd.R_below (by (with_reducible repeat (first | apply Kd.R_alloc | apply Kd.R_drewN | apply Kd.R_drew)); exact HO_306001.out) hb); have n1_ := Aside0.mk (Kd.R_below (by (with_reducible repeat (first | apply Kd.R_alloc | apply Kd.R_drewN | apply Kd.R_drew)); exact HO_327001.out) hb); have n2_ := Aside0.mk (blk_below (g := gb305) (o := .cells #[.int .i64 t300, .slice Ao41 t301.length co41] 39 (0, 0)) (by (with_reducible repeat (first | refine blk_drewN ?_ _ | refine blk_drew ?_ | refine blk_alloc ?_ _)); exact BK305.out) hb); have n3_ := Aside0.mk (blk_below (g := gb326) (o := .cells #[.int .i64 t300, .slice Ao55 y323.length co55] 39 (0, 0)) (by (with_reducible repeat (first | refine blk_drewN ?_ _ | refine blk_drew ?_ | refine blk_alloc ?_ _)); exact BK326.out) hb); have n4_ := Aside0.mk (below_step (by repeat (first | (with_reducible first | exact HB.out | apply below_alloc | apply pw_below_drewN | apply below_drew1 | refine below_set ?_ GE305.out | refine below_set ?_ GE326.out) | exact HB.out)) hb); clear HO_306001; clear HO_327001; clear BK305; clear BK326; clear HB; have HO_306001 := n0_; have HO_327001 := n1_; have BK305 := n2_; have BK326 := n3_; have HB := n4_; clear n0_ n1_ n2_ n3_ n4_; (try clear hb); (try clear hb2); (try clear hk); (try clear hi); (try clear hgw); have hcz92_0 : w91.cell? ⟨gb305, 0, none⟩ = some (.int .i64 t300) := (blk_cell BK305.out 0).trans rfl; have hcz92_1 : w91.cell? ⟨gb305, 1, none⟩ = some (.slice Ao41 t301.length co41) := (blk_cell BK305.out 1).trans rfl; have hfz92_0 := blk_frozen BK305.out 0; have hfz92_1 := blk_frozen BK305.out 1; have p330 : 0 ≤ (t307 : Int) := of_decide_eq_true (by first | (with_reducible assumption) | assumption); have q330 : t307 < (t301.length : Int) := of_decide_eq_true (by first | (with_reducible assumption) | assumption); obtain ⟨ad330, e330, hx330_0, hx330_1⟩ := at_T51 (Kd.R_reads' HO_306001.out).2.2 t307 p330 q330; cases e330; replace p330 := eq_true p330; replace q330 := eq_true q330; have hcz93_0 : w91.cell? ⟨gb326, 0, none⟩ = some (.int .i64 t300) := (blk_cell BK326.out 0).trans rfl; have hcz93_1 : w91.cell? ⟨gb326, 1, none⟩ = some (.slice Ao55 y323.length co55) := (blk_cell BK326.out 1).trans rfl; have hfz93_0 := blk_frozen BK326.out 0; have hfz93_1 := blk_frozen BK326.out 1) | ((with_reducible refine gate_callee (f := 24) rfl ?_); refine goesL_ (some 77) rfl rfl Tryd.func24 (by kernel_rfl) rfl #[.agg #[.int .i64 t300, .slice Ao55 y323.length co55], .int .i64 x61_2] rfl (by (try simp only [List.map_toArray, List.map_cons, List.map_nil]); first | done | rfl | (simp only [List.length_drop, List.length_take]; rfl)) ?_; (with_reducible refine (deviation_How.calls k2 t300 _ _ y323 x61_2 t332 _ ?side1 ?side2 A87.out).mono ?_); (case side1 => repeat (first | exact (Kd.R_reads' HO_327001.out).2.2 | (with_reducible refine Kd.C_alloc ?_ _) | (with_reducible refine Kd.C_drewN ?_ _) | (with_reducible refine Kd.C_drew ?_))); (case side2 => exact (Kd.R_reads' HO_327001.out).2.1); rintro e w94 ⟨rfl, hb⟩; refine ⟨_, rfl, ?_⟩; have n0_ := Aside0.mk (Kd.R_below (by (with_reducible repeat (first | apply Kd.R_alloc | apply Kd.R_drewN | apply Kd.R_drew)); exact HO_306001.out) hb); have n1_ := Aside0.mk (Kd.R_below (by (with_reducible repeat (first | apply Kd.R_alloc | apply Kd.R_drewN | apply Kd.R_drew)); exact HO_327001.out) hb); have n2_ := Aside0.mk (blk_below (g := gb305) (o := .cells #[.int .i64 t300, .slice (some ad330) t301.length co41] 39 (0, 0)) (by (with_reducible repeat (first | refine blk_drewN ?_ _ | refine blk_drew ?_ | refine blk_alloc ?_ _)); exact BK305.out) hb); have n3_ := Aside0.mk (blk_below (g := gb326) (o := .cells #[.int .i64 t300, .slice Ao55 y323.length co55] 39 (0, 0)) (by (with_reducible repeat (first | refine blk_drewN ?_ _ | refine blk_drew ?_ | refine blk_alloc ?_ _)); exact BK326.out) hb); have n4_ := Aside0.mk (below_step (by repeat (first | (with_reducible first | exact HB.out | apply below_alloc | apply pw_below_drewN | apply below_drew1 | refine below_set ?_ GE305.out | refine below_set ?_ GE326.out) | exact HB.out)) hb); clear HO_306001; clear HO_327001; clear BK305; clear BK326; clear HB; have HO_306001 := n0_; have HO_327001 := n1_; have BK305 := n2_; have BK326 := n3_; have HB := n4_; clear n0_ n1_ n2_ n3_ n4_; (try clear hb); (try clear hb2); (try clear hk); (try clear hi); (try clear hgw)))
                                        go_roundg k2
                                        case measure => have := HJ30.out; have := HK2.out; omega
                                        case rel => exact ⟨(wrap64 (x61_2 + 1)), (by first | rfl | (simp; done) | (simp [*]; done)), H', ⟨by have := HJ30.out; have := HK2.out; omega⟩, ⟨by (with_reducible repeat (first | apply Kd.R_alloc | apply Kd.R_drewN | apply Kd.R_drew)); exact HO_306001.out⟩, ⟨by (with_reducible repeat (first | apply Kd.R_alloc | apply Kd.R_drewN | apply Kd.R_drew)); exact HO_327001.out⟩, ⟨by (with_reducible repeat (first | refine blk_drewN ?_ _ | refine blk_drew ?_ | refine blk_alloc ?_ _)); exact BK305.out⟩, ⟨by (with_reducible repeat (first | refine blk_drewN ?_ _ | refine blk_drew ?_ | refine blk_alloc ?_ _)); exact BK326.out⟩, ⟨by repeat (first | (with_reducible first | exact HB.out | apply below_alloc | apply pw_below_drewN | apply below_drew1 | refine below_set ?_ GE305.out | refine below_set ?_ GE326.out) | exact HB.out)⟩⟩
                                      · rw [if_neg c88] at H
                                        have c88b0 : (t332 == t329) = false := beq_eq_false_iff_ne.mpr c88
                                        have c88b1 : (t332 != t329) = true := bne_iff_ne.mpr c88
                                        exact absurd (Option.some.inj H) (by rw [HRT_.out]; decide)
                                  · rw [if_neg c77] at H
                                    exact absurd H (by simp)
                                · rw [if_neg c76] at H
                                  exact absurd H (by simp)
                              · rw [if_neg c74] at H
                                have c74b0 : decide (x61_2 < (t294.length : Int)) = false := decide_eq_false c74
                                clear c74
                                obtain rfl := Option.some.inj H
                                go_wp2
                                go_ret
                                exact ⟨by first | rfl | (simp [errW_none, errW_some] <;> rfl) | (simp only [← hji27]; first | rfl | (simp [errW_none, errW_some] <;> rfl)) | (simp [*, errW_none, errW_some] <;> rfl), by repeat (first | (with_reducible first | exact HB.out | apply below_alloc | apply pw_below_drewN | apply below_drew1 | refine below_set ?_ GE305.out | refine below_set ?_ GE326.out) | exact HB.out)⟩
                  · rw [if_neg c30] at H
                    exact absurd H (by simp)
                · rw [if_neg c29] at H
                  exact absurd H (by simp)
              · rw [if_neg c28] at H
                exact absurd H (by simp)
            · rw [if_neg c26] at H
              exact absurd H (by simp)
          · rw [if_neg c25] at H
            exact absurd H (by simp)
        · rw [if_neg c24] at H
          exact absurd H (by simp)
    · replace c9 := Bool.eq_false_iff.mpr c9
      subst c9
      have H1 : (some false) = some r := by rw [if_neg (show ¬ (false = true) by decide)] at H; exact H
      clear H
      have H := H1
      clear H1
      exact absurd (Option.some.inj H) (by rw [HRT_.out]; decide)
  · replace c3 := Bool.eq_false_iff.mpr c3
    subst c3
    have H1 : (some false) = some r := by rw [if_neg (show ¬ (false = true) by decide)] at H; exact H
    clear H
    have H := H1
    clear H1
    exact absurd (Option.some.inj H) (by rw [HRT_.out]; decide)

/-- THE ONE PURE STATEMENT of storagebarterlaw30_DeviationLess: yours. -/
def storagebarterlaw30_DeviationLess.Pure : Prop := ∀ (l0 : List Int), l0.length ≤ maxLen → l0.length * 1 ≤ 140737488351232 → (∀ x ∈ l0, (Lit.int .u8 x).wf = true) → ∃ k, storagebarterlaw30_DeviationLess.f k l0 = some true
theorem storagebarterlaw30_DeviationLess.walk (P : storagebarterlaw30_DeviationLess.Pure) (a0 : Option Addr) (len0 cap0 : Nat) (z0 : List Int) (w : World) (w0 : (a0 = none ∧ len0 = 0 ∧ cap0 = 0 ∧ z0 = []) ∨ ∃ x, a0 = some x ∧ len0 ≤ cap0 ∧ cap0 ≤ maxLen ∧ z0.length = cap0 ∧ (∀ i, i < z0.length → w.cell? (x.add i) = some (.int .u8 (z0.getD i 0))) ∧ ∀ n ∈ z0, (Lit.int .u8 n).wf = true) (y0 : len0 * 1 ≤ 140737488351232) (hL_ : Laid w) :
    Calls Tryd.prog 7 #[.slice a0 len0 cap0] w fun e w' => e = .returned (.bool true) ∧ Below w.heap.size w w' := by
  obtain ⟨l0, rfl, hr0, hm0, hw0, hc0⟩ := ReadsInt.ofRowC w0
  obtain ⟨k, h⟩ := P l0 hm0 y0 hw0
  refine (storagebarterlaw30_DeviationLess.calls k _ _ l0 true w (Kd.C_of_reads (d := (0 : Int)) (h1 := fun _ => rfl) hr0) hc0 h rfl hL_).mono ?_
  rintro e w' ⟨rfl, hd⟩
  exact ⟨rfl, hd⟩

end Go.Proofs.YtdflpnfceajomaaDoor.PDeviationLess
