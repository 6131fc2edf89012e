-- Written by a program of this repository (wip/tools/myprint.py over the print of the kit): contracts and rows.
import Derived.Test.YtdflpnfceajomaaDoorPDeviationAllx0
import Derived.Test.YtdflpnfceajomaaDoorPDeviationAllx2
import Derived.Test.YtdflpnfceajomaaDoorPDeviationAllx3
import Derived.Test.YtdflpnfceajomaaDoorPDeviationAllx6
import Derived.Test.YtdflpnfceajomaaDoorPDeviationAllx7
import Derived.Test.YtdflpnfceajomaaDoorPDeviationAllx8
namespace Go.Proofs.YtdflpnfceajomaaDoor.PDeviationAll
open Go.RowKit Go.Proofs.YtdflpnfceajomaaDoorW.PrintWords Go.Proofs.YtdflpnfceajomaaDoorW.PrintLast Go.Proofs.YtdflpnfceajomaaDoorW.PrintMore
attribute [local go_sem] max2_int min2_int max_two min_two max_three min_three max_four min_four   -- for this text's walks alone
set_option linter.unusedVariables false
set_option linter.unusedSimpArgs false

/-! ### storagebarterlaw30_DeviationAll: function 5 -/
mutual
def storagebarterlaw30_DeviationAll.j0 : Nat → List (S56) → Int → Int → List (S39) → Bool → List Int → Int → Option (Bool)
  | 0, _, _, _, _, _, _, _ => none
  | k + 1, x6, x7, x8, x9, x68, x299000, x299001 => if x68 = true then (some false) else ((storagebarterplay_Dice_Deviation.f k x299000 x299001 x6 x7 x8).bind fun bt315 => (storagebarterlaw30_DeviationAll.l0 k x6 x7 x8 x9 false x9 (x9.length : Int) 0 bt315.1 bt315.2.1))
def storagebarterlaw30_DeviationAll.l0 : Nat → List (S56) → Int → Int → List (S39) → Bool → List (S39) → Int → Int → Int → List (S51) → Option (Bool)
  | 0, _, _, _, _, _, _, _, _, _, _ => none
  | k + 1, x6, x7, x8, x9, x14, x74, x75, x76, x321000, x321001 => if x76 < x75 then (if 0 ≤ x76 then (if x76 < (x74.length : Int) then ((deviation_Valid.f x6 ((rd_T39 x74 x76).f0) ((rd_T39 x74 x76).f1)).bind fun t323 => (if t323 = true then (if ((rd_T39 x74 x76).f0) = x7 then (if (((rd_T39 x74 x76).f1).length : Int) > x8 then (some false) else (if x76 > 0 then (if 0 ≤ (wrap64 (x76 - 1)) then (if (wrap64 (x76 - 1)) < (x9.length : Int) then ((storagebarterlaw30_before.f k ((rd_T39 x9 (wrap64 (x76 - 1))).f1) ((rd_T39 x74 x76).f1)).bind fun t325 => (if t325 = true then (if x14 = true then (storagebarterlaw30_DeviationAll.l0 k x6 x7 x8 x9 true x74 x75 (wrap64 (x76 + 1)) x321000 x321001) else ((deviation_Same.f k ((rd_T39 x74 x76).f0) ((rd_T39 x74 x76).f1) x321000 x321001).bind fun t326 => (storagebarterlaw30_DeviationAll.l0 k x6 x7 x8 x9 t326 x74 x75 (wrap64 (x76 + 1)) x321000 x321001))) else (some false))) else (none)) else (none)) else (if x14 = true then (storagebarterlaw30_DeviationAll.l0 k x6 x7 x8 x9 true x74 x75 (wrap64 (x76 + 1)) x321000 x321001) else ((deviation_Same.f k ((rd_T39 x74 x76).f0) ((rd_T39 x74 x76).f1) x321000 x321001).bind fun t327 => (storagebarterlaw30_DeviationAll.l0 k x6 x7 x8 x9 t327 x74 x75 (wrap64 (x76 + 1)) x321000 x321001))))) else (some false)) else (some false))) else (none)) else (none)) else (some x14)
end
def storagebarterlaw30_DeviationAll.f (k : Nat) (l0 : List Int) (a1 : Int) : Option (Bool) := (storagebarterlaw30_sane.f k).bind fun t295 => (if t295 = true then ((storagebarterplay_New.f l0).bind fun bt296 => ((storagebarterlaw30_plan.f k bt296.1 bt296.2).bind fun bt299 => ((storagebarterplay_Dice_Pick.f bt296.1 bt299.2 3).bind fun bt303 => ((deviation_All.f k bt299.1 (wrap64 (1 + bt303.1)) (Int.tmod (wrap64 (a1)) 3)).bind fun bt305 => ((storagebarterref28_Of.f k bt299.1 (wrap64 (1 + bt303.1))).bind fun t309 => ((deviation_Count.f k (t309.length : Int) (Int.tmod (wrap64 (a1)) 3)).bind fun bt312 => (if bt305.2 = 0 then (if bt312.2 = true then (if (bt305.1.length : Int) = bt312.1 then (if bt312.1 < 1 then (storagebarterlaw30_DeviationAll.j0 k bt299.1 (wrap64 (1 + bt303.1)) (Int.tmod (wrap64 (a1)) 3) bt305.1 true bt296.1 bt303.2) else (if 0 < (bt305.1.length : Int) then (storagebarterlaw30_DeviationAll.j0 k bt299.1 (wrap64 (1 + bt303.1)) (Int.tmod (wrap64 (a1)) 3) bt305.1 ((((rd_T39 bt305.1 0).f1).length : Int) != 0) bt296.1 bt303.2) else (none))) else (storagebarterlaw30_DeviationAll.j0 k bt299.1 (wrap64 (1 + bt303.1)) (Int.tmod (wrap64 (a1)) 3) bt305.1 true bt296.1 bt303.2)) else (storagebarterlaw30_DeviationAll.j0 k bt299.1 (wrap64 (1 + bt303.1)) (Int.tmod (wrap64 (a1)) 3) bt305.1 true bt296.1 bt303.2)) else (storagebarterlaw30_DeviationAll.j0 k bt299.1 (wrap64 (1 + bt303.1)) (Int.tmod (wrap64 (a1)) 3) bt305.1 true bt296.1 bt303.2)))))))) else (some false))
theorem storagebarterlaw30_DeviationAll.mono_l : ∀ k, (∀ y0 y1 y2 y3 y4 y5 y6, LeO (storagebarterlaw30_DeviationAll.j0 k y0 y1 y2 y3 y4 y5 y6) (storagebarterlaw30_DeviationAll.j0 (k + 1) y0 y1 y2 y3 y4 y5 y6)) ∧ (∀ y0 y1 y2 y3 y4 y5 y6 y7 y8 y9, LeO (storagebarterlaw30_DeviationAll.l0 k y0 y1 y2 y3 y4 y5 y6 y7 y8 y9) (storagebarterlaw30_DeviationAll.l0 (k + 1) y0 y1 y2 y3 y4 y5 y6 y7 y8 y9))
  | 0 => ⟨fun _ _ _ _ _ _ _ r h => by simp [storagebarterlaw30_DeviationAll.j0] at h, fun _ _ _ _ _ _ _ _ _ _ r h => by simp [storagebarterlaw30_DeviationAll.l0] at h⟩
  | k + 1 => by
    obtain ⟨ih0, ih1⟩ := storagebarterlaw30_DeviationAll.mono_l k
    refine ⟨?_, ?_⟩
    · intro y0 y1 y2 y3 y4 y5 y6
      unfold storagebarterlaw30_DeviationAll.j0
      repeat' first
      | (with_reducible exact ih0 _ _ _ _ _ _ _)
      | (with_reducible exact ih1 _ _ _ _ _ _ _ _ _ _)
      | (with_reducible exact deviation_All.mono _ _ _ _)
      | (with_reducible exact deviation_Count.mono _ _ _)
      | (with_reducible exact deviation_Same.mono _ _ _ _ _)
      | (with_reducible exact storagebarterlaw30_before.mono _ _ _)
      | (with_reducible exact storagebarterlaw30_plan.mono _ _ _)
      | (with_reducible exact storagebarterlaw30_sane.mono _)
      | (with_reducible exact storagebarterplay_Dice_Deviation.mono _ _ _ _ _ _)
      | (with_reducible exact storagebarterref28_Of.mono _ _ _)
      | (with_reducible exact LeO.refl _)
      | (with_reducible exact LeO.none _)
      | (with_reducible refine LeO.ite ?_ ?_)
      | (with_reducible refine LeO.bind ?_ (fun _ => ?_))
      | exact ih0 _ _ _ _ _ _ _
      | exact ih1 _ _ _ _ _ _ _ _ _ _
      | exact deviation_All.mono _ _ _ _
      | exact deviation_Count.mono _ _ _
      | exact deviation_Same.mono _ _ _ _ _
      | exact storagebarterlaw30_before.mono _ _ _
      | exact storagebarterlaw30_plan.mono _ _ _
      | exact storagebarterlaw30_sane.mono _
      | exact storagebarterplay_Dice_Deviation.mono _ _ _ _ _ _
      | exact storagebarterref28_Of.mono _ _ _
      | exact LeO.none _
      | refine LeO.ite ?_ ?_
      | refine LeO.bind ?_ (fun _ => ?_)
    · intro y0 y1 y2 y3 y4 y5 y6 y7 y8 y9
      unfold storagebarterlaw30_DeviationAll.l0
      repeat' first
      | (with_reducible exact ih0 _ _ _ _ _ _ _)
      | (with_reducible exact ih1 _ _ _ _ _ _ _ _ _ _)
      | (with_reducible exact deviation_All.mono _ _ _ _)
      | (with_reducible exact deviation_Count.mono _ _ _)
      | (with_reducible exact deviation_Same.mono _ _ _ _ _)
      | (with_reducible exact storagebarterlaw30_before.mono _ _ _)
      | (with_reducible exact storagebarterlaw30_plan.mono _ _ _)
      | (with_reducible exact storagebarterlaw30_sane.mono _)
      | (with_reducible exact storagebarterplay_Dice_Deviation.mono _ _ _ _ _ _)
      | (with_reducible exact storagebarterref28_Of.mono _ _ _)
      | (with_reducible exact LeO.refl _)
      | (with_reducible exact LeO.none _)
      | (with_reducible refine LeO.ite ?_ ?_)
      | (with_reducible refine LeO.bind ?_ (fun _ => ?_))
      | exact ih0 _ _ _ _ _ _ _
      | exact ih1 _ _ _ _ _ _ _ _ _ _
      | exact deviation_All.mono _ _ _ _
      | exact deviation_Count.mono _ _ _
      | exact deviation_Same.mono _ _ _ _ _
      | exact storagebarterlaw30_before.mono _ _ _
      | exact storagebarterlaw30_plan.mono _ _ _
      | exact storagebarterlaw30_sane.mono _
      | exact storagebarterplay_Dice_Deviation.mono _ _ _ _ _ _
      | exact storagebarterref28_Of.mono _ _ _
      | exact LeO.none _
      | refine LeO.ite ?_ ?_
      | refine LeO.bind ?_ (fun _ => ?_)
theorem storagebarterlaw30_DeviationAll.mono : ∀ a0 a1 k, LeO (storagebarterlaw30_DeviationAll.f k a0 a1) (storagebarterlaw30_DeviationAll.f (k + 1) a0 a1) := by
  intro a0 a1 k
  obtain ⟨ih0, ih1⟩ := storagebarterlaw30_DeviationAll.mono_l k
  unfold storagebarterlaw30_DeviationAll.f
  repeat' first
      | (with_reducible exact ih0 _ _ _ _ _ _ _)
      | (with_reducible exact ih1 _ _ _ _ _ _ _ _ _ _)
      | (with_reducible exact deviation_All.mono _ _ _ _)
      | (with_reducible exact deviation_Count.mono _ _ _)
      | (with_reducible exact deviation_Same.mono _ _ _ _ _)
      | (with_reducible exact storagebarterlaw30_before.mono _ _ _)
      | (with_reducible exact storagebarterlaw30_plan.mono _ _ _)
      | (with_reducible exact storagebarterlaw30_sane.mono _)
      | (with_reducible exact storagebarterplay_Dice_Deviation.mono _ _ _ _ _ _)
      | (with_reducible exact storagebarterref28_Of.mono _ _ _)
      | (with_reducible exact LeO.refl _)
      | (with_reducible exact LeO.none _)
      | (with_reducible refine LeO.ite ?_ ?_)
      | (with_reducible refine LeO.bind ?_ (fun _ => ?_))
      | exact ih0 _ _ _ _ _ _ _
      | exact ih1 _ _ _ _ _ _ _ _ _ _
      | exact deviation_All.mono _ _ _ _
      | exact deviation_Count.mono _ _ _
      | exact deviation_Same.mono _ _ _ _ _
      | exact storagebarterlaw30_before.mono _ _ _
      | exact storagebarterlaw30_plan.mono _ _ _
      | exact storagebarterlaw30_sane.mono _
      | exact storagebarterplay_Dice_Deviation.mono _ _ _ _ _ _
      | exact storagebarterref28_Of.mono _ _ _
      | exact LeO.none _
      | refine LeO.ite ?_ ?_
      | refine LeO.bind ?_ (fun _ => ?_)
def storagebarterlaw30_DeviationAll.T15 : Bool × List (List Nat × List Nat) := (true, [([], []), ([], []), ([0, 1], [0, 1]), ([2], [2]), ([3, 2], [3]), ([4], [4]), ([5, 4], [4, 5]), ([4], [4]), ([6, 7, 4], [4, 6, 7]), ([4, 8], [4, 8]), ([9, 4], [9]), ([10], [10]), ([11, 10], [10, 11]), ([12, 10], [10, 12]), ([10], [10]), ([13, 14, 10], [10, 13, 14]), ([10, 15], [10, 15]), ([16, 10], [16]), ([17], [17]), ([18, 17], [17, 18]), ([19, 17, 17], [17, 19]), ([20], [20]), ([20], [20]), ([22, 20], [20, 22]), ([21, 23, 20], [20, 21, 23]), ([24, 20], [20, 24]), ([25, 20], [20, 25]), ([20], [20]), ([27, 20], [20, 27]), ([26, 28, 20, 20], [20, 26, 28]), ([29, 20], [20, 29]), ([20, 30, 17], [17, 20, 30]), ([17, 31], [17, 31])])
def storagebarterlaw30_DeviationAll.B15 : List Nat := [0, 0, 3, 7, 15, 31, 63, 31, 255, 511, 1023, 2047, 4095, 8191, 2047, 32767, 65535, 131071, 262143, 524287, 1048575, 2097151, 2097151, 6291455, 16777215, 33554431, 67108863, 2097151, 136314879, 536870911, 1073741823, 2147483647, 4294967295]
theorem storagebarterlaw30_DeviationAll.tab15 : rtab .any (opsOf Tryd.f5 15) = storagebarterlaw30_DeviationAll.T15 := by kernel_rfl
theorem storagebarterlaw30_DeviationAll.bits15 : waitsOk storagebarterlaw30_DeviationAll.T15.2 storagebarterlaw30_DeviationAll.B15 = true := by kernel_rfl
set_option maxHeartbeats 60000000 in
set_option maxRecDepth 100000 in
theorem storagebarterlaw30_DeviationAll.calls (k : Nat) (A0 : Option Addr) (c0 : Nat) (l0 : List Int) (a1 : Int) (r : Bool) (w : World) (hr0 : Kd.C (Kd.int .u8) w A0 l0.length l0) (hc0 : l0.length ≤ c0) (h : storagebarterlaw30_DeviationAll.f k l0 a1 = some r) (hrt_ : r = true) (hL_ : Laid w) :
    Calls Tryd.prog 5 #[.slice A0 l0.length c0, .int .u8 a1] w fun e w' => e = .returned (.bool r) ∧ Below w.heap.size w w' := by
  have HL_ := Aside0.mk hL_
  clear hL_
  have HRT_ := Aside0.mk hrt_
  clear hrt_
  have hu39 := Tryd.underlying39
  have HR0 := Aside0.mk hr0
  have HC0 := Aside0.mk hc0
  clear hr0 hc0
  have HB := Aside0.mk (Below.refl w.heap.size w)
  have H : ((storagebarterlaw30_sane.f k).bind fun t295 => (if t295 = true then ((storagebarterplay_New.f l0).bind fun bt296 => ((storagebarterlaw30_plan.f k bt296.1 bt296.2).bind fun bt299 => ((storagebarterplay_Dice_Pick.f bt296.1 bt299.2 3).bind fun bt303 => ((deviation_All.f k bt299.1 (wrap64 (1 + bt303.1)) (Int.tmod (wrap64 (a1)) 3)).bind fun bt305 => ((storagebarterref28_Of.f k bt299.1 (wrap64 (1 + bt303.1))).bind fun t309 => ((deviation_Count.f k (t309.length : Int) (Int.tmod (wrap64 (a1)) 3)).bind fun bt312 => (if bt305.2 = 0 then (if bt312.2 = true then (if (bt305.1.length : Int) = bt312.1 then (if bt312.1 < 1 then (storagebarterlaw30_DeviationAll.j0 k bt299.1 (wrap64 (1 + bt303.1)) (Int.tmod (wrap64 (a1)) 3) bt305.1 true bt296.1 bt303.2) else (if 0 < (bt305.1.length : Int) then (storagebarterlaw30_DeviationAll.j0 k bt299.1 (wrap64 (1 + bt303.1)) (Int.tmod (wrap64 (a1)) 3) bt305.1 ((((rd_T39 bt305.1 0).f1).length : Int) != 0) bt296.1 bt303.2) else (none))) else (storagebarterlaw30_DeviationAll.j0 k bt299.1 (wrap64 (1 + bt303.1)) (Int.tmod (wrap64 (a1)) 3) bt305.1 true bt296.1 bt303.2)) else (storagebarterlaw30_DeviationAll.j0 k bt299.1 (wrap64 (1 + bt303.1)) (Int.tmod (wrap64 (a1)) 3) bt305.1 true bt296.1 bt303.2)) else (storagebarterlaw30_DeviationAll.j0 k bt299.1 (wrap64 (1 + bt303.1)) (Int.tmod (wrap64 (a1)) 3) bt305.1 true bt296.1 bt303.2)))))))) else (some false))) = some r := h
  clear h
  replace H := Option.bind_eq_some_iff.mp H
  obtain ⟨t295, A30, H⟩ := H
  replace H : (if t295 = true then ((storagebarterplay_New.f l0).bind fun bt296 => ((storagebarterlaw30_plan.f k bt296.1 bt296.2).bind fun bt299 => ((storagebarterplay_Dice_Pick.f bt296.1 bt299.2 3).bind fun bt303 => ((deviation_All.f k bt299.1 (wrap64 (1 + bt303.1)) (Int.tmod (wrap64 (a1)) 3)).bind fun bt305 => ((storagebarterref28_Of.f k bt299.1 (wrap64 (1 + bt303.1))).bind fun t309 => ((deviation_Count.f k (t309.length : Int) (Int.tmod (wrap64 (a1)) 3)).bind fun bt312 => (if bt305.2 = 0 then (if bt312.2 = true then (if (bt305.1.length : Int) = bt312.1 then (if bt312.1 < 1 then (storagebarterlaw30_DeviationAll.j0 k bt299.1 (wrap64 (1 + bt303.1)) (Int.tmod (wrap64 (a1)) 3) bt305.1 true bt296.1 bt303.2) else (if 0 < (bt305.1.length : Int) then (storagebarterlaw30_DeviationAll.j0 k bt299.1 (wrap64 (1 + bt303.1)) (Int.tmod (wrap64 (a1)) 3) bt305.1 ((((rd_T39 bt305.1 0).f1).length : Int) != 0) bt296.1 bt303.2) else (none))) else (storagebarterlaw30_DeviationAll.j0 k bt299.1 (wrap64 (1 + bt303.1)) (Int.tmod (wrap64 (a1)) 3) bt305.1 true bt296.1 bt303.2)) else (storagebarterlaw30_DeviationAll.j0 k bt299.1 (wrap64 (1 + bt303.1)) (Int.tmod (wrap64 (a1)) 3) bt305.1 true bt296.1 bt303.2)) else (storagebarterlaw30_DeviationAll.j0 k bt299.1 (wrap64 (1 + bt303.1)) (Int.tmod (wrap64 (a1)) 3) bt305.1 true bt296.1 bt303.2)))))))) else (some false)) = some r := H
  have A3 := Aside0.mk A30
  clear A30
  by_cases c4 : t295 = true
  · subst c4
    have H1 : ((storagebarterplay_New.f l0).bind fun bt296 => ((storagebarterlaw30_plan.f k bt296.1 bt296.2).bind fun bt299 => ((storagebarterplay_Dice_Pick.f bt296.1 bt299.2 3).bind fun bt303 => ((deviation_All.f k bt299.1 (wrap64 (1 + bt303.1)) (Int.tmod (wrap64 (a1)) 3)).bind fun bt305 => ((storagebarterref28_Of.f k bt299.1 (wrap64 (1 + bt303.1))).bind fun t309 => ((deviation_Count.f k (t309.length : Int) (Int.tmod (wrap64 (a1)) 3)).bind fun bt312 => (if bt305.2 = 0 then (if bt312.2 = true then (if (bt305.1.length : Int) = bt312.1 then (if bt312.1 < 1 then (storagebarterlaw30_DeviationAll.j0 k bt299.1 (wrap64 (1 + bt303.1)) (Int.tmod (wrap64 (a1)) 3) bt305.1 true bt296.1 bt303.2) else (if 0 < (bt305.1.length : Int) then (storagebarterlaw30_DeviationAll.j0 k bt299.1 (wrap64 (1 + bt303.1)) (Int.tmod (wrap64 (a1)) 3) bt305.1 ((((rd_T39 bt305.1 0).f1).length : Int) != 0) bt296.1 bt303.2) else (none))) else (storagebarterlaw30_DeviationAll.j0 k bt299.1 (wrap64 (1 + bt303.1)) (Int.tmod (wrap64 (a1)) 3) bt305.1 true bt296.1 bt303.2)) else (storagebarterlaw30_DeviationAll.j0 k bt299.1 (wrap64 (1 + bt303.1)) (Int.tmod (wrap64 (a1)) 3) bt305.1 true bt296.1 bt303.2)) else (storagebarterlaw30_DeviationAll.j0 k bt299.1 (wrap64 (1 + bt303.1)) (Int.tmod (wrap64 (a1)) 3) bt305.1 true bt296.1 bt303.2)))))))) = some r := by rw [if_pos rfl] at H; exact H
    clear H
    have H := H1
    clear H1
    replace H := Option.bind_eq_some_iff.mp H
    obtain ⟨⟨t296, t297⟩, A50, H⟩ := H
    replace H : ((storagebarterlaw30_plan.f k t296 t297).bind fun bt299 => ((storagebarterplay_Dice_Pick.f t296 bt299.2 3).bind fun bt303 => ((deviation_All.f k bt299.1 (wrap64 (1 + bt303.1)) (Int.tmod (wrap64 (a1)) 3)).bind fun bt305 => ((storagebarterref28_Of.f k bt299.1 (wrap64 (1 + bt303.1))).bind fun t309 => ((deviation_Count.f k (t309.length : Int) (Int.tmod (wrap64 (a1)) 3)).bind fun bt312 => (if bt305.2 = 0 then (if bt312.2 = true then (if (bt305.1.length : Int) = bt312.1 then (if bt312.1 < 1 then (storagebarterlaw30_DeviationAll.j0 k bt299.1 (wrap64 (1 + bt303.1)) (Int.tmod (wrap64 (a1)) 3) bt305.1 true t296 bt303.2) else (if 0 < (bt305.1.length : Int) then (storagebarterlaw30_DeviationAll.j0 k bt299.1 (wrap64 (1 + bt303.1)) (Int.tmod (wrap64 (a1)) 3) bt305.1 ((((rd_T39 bt305.1 0).f1).length : Int) != 0) t296 bt303.2) else (none))) else (storagebarterlaw30_DeviationAll.j0 k bt299.1 (wrap64 (1 + bt303.1)) (Int.tmod (wrap64 (a1)) 3) bt305.1 true t296 bt303.2)) else (storagebarterlaw30_DeviationAll.j0 k bt299.1 (wrap64 (1 + bt303.1)) (Int.tmod (wrap64 (a1)) 3) bt305.1 true t296 bt303.2)) else (storagebarterlaw30_DeviationAll.j0 k bt299.1 (wrap64 (1 + bt303.1)) (Int.tmod (wrap64 (a1)) 3) bt305.1 true t296 bt303.2))))))) = some r := H
    have A5 := Aside0.mk A50
    clear A50
    replace H := Option.bind_eq_some_iff.mp H
    obtain ⟨⟨t299, t302⟩, A60, H⟩ := H
    replace H : ((storagebarterplay_Dice_Pick.f t296 t302 3).bind fun bt303 => ((deviation_All.f k t299 (wrap64 (1 + bt303.1)) (Int.tmod (wrap64 (a1)) 3)).bind fun bt305 => ((storagebarterref28_Of.f k t299 (wrap64 (1 + bt303.1))).bind fun t309 => ((deviation_Count.f k (t309.length : Int) (Int.tmod (wrap64 (a1)) 3)).bind fun bt312 => (if bt305.2 = 0 then (if bt312.2 = true then (if (bt305.1.length : Int) = bt312.1 then (if bt312.1 < 1 then (storagebarterlaw30_DeviationAll.j0 k t299 (wrap64 (1 + bt303.1)) (Int.tmod (wrap64 (a1)) 3) bt305.1 true t296 bt303.2) else (if 0 < (bt305.1.length : Int) then (storagebarterlaw30_DeviationAll.j0 k t299 (wrap64 (1 + bt303.1)) (Int.tmod (wrap64 (a1)) 3) bt305.1 ((((rd_T39 bt305.1 0).f1).length : Int) != 0) t296 bt303.2) else (none))) else (storagebarterlaw30_DeviationAll.j0 k t299 (wrap64 (1 + bt303.1)) (Int.tmod (wrap64 (a1)) 3) bt305.1 true t296 bt303.2)) else (storagebarterlaw30_DeviationAll.j0 k t299 (wrap64 (1 + bt303.1)) (Int.tmod (wrap64 (a1)) 3) bt305.1 true t296 bt303.2)) else (storagebarterlaw30_DeviationAll.j0 k t299 (wrap64 (1 + bt303.1)) (Int.tmod (wrap64 (a1)) 3) bt305.1 true t296 bt303.2)))))) = some r := H
    have A6 := Aside0.mk A60
    clear A60
    replace H := Option.bind_eq_some_iff.mp H
    obtain ⟨⟨t303, t304⟩, A70, H⟩ := H
    replace H : ((deviation_All.f k t299 (wrap64 (1 + t303)) (Int.tmod (wrap64 (a1)) 3)).bind fun bt305 => ((storagebarterref28_Of.f k t299 (wrap64 (1 + t303))).bind fun t309 => ((deviation_Count.f k (t309.length : Int) (Int.tmod (wrap64 (a1)) 3)).bind fun bt312 => (if bt305.2 = 0 then (if bt312.2 = true then (if (bt305.1.length : Int) = bt312.1 then (if bt312.1 < 1 then (storagebarterlaw30_DeviationAll.j0 k t299 (wrap64 (1 + t303)) (Int.tmod (wrap64 (a1)) 3) bt305.1 true t296 t304) else (if 0 < (bt305.1.length : Int) then (storagebarterlaw30_DeviationAll.j0 k t299 (wrap64 (1 + t303)) (Int.tmod (wrap64 (a1)) 3) bt305.1 ((((rd_T39 bt305.1 0).f1).length : Int) != 0) t296 t304) else (none))) else (storagebarterlaw30_DeviationAll.j0 k t299 (wrap64 (1 + t303)) (Int.tmod (wrap64 (a1)) 3) bt305.1 true t296 t304)) else (storagebarterlaw30_DeviationAll.j0 k t299 (wrap64 (1 + t303)) (Int.tmod (wrap64 (a1)) 3) bt305.1 true t296 t304)) else (storagebarterlaw30_DeviationAll.j0 k t299 (wrap64 (1 + t303)) (Int.tmod (wrap64 (a1)) 3) bt305.1 true t296 t304))))) = some r := H
    have A7 := Aside0.mk A70
    clear A70
    replace H := Option.bind_eq_some_iff.mp H
    obtain ⟨⟨t305, t306⟩, A80, H⟩ := H
    replace H : ((storagebarterref28_Of.f k t299 (wrap64 (1 + t303))).bind fun t309 => ((deviation_Count.f k (t309.length : Int) (Int.tmod (wrap64 (a1)) 3)).bind fun bt312 => (if t306 = 0 then (if bt312.2 = true then (if (t305.length : Int) = bt312.1 then (if bt312.1 < 1 then (storagebarterlaw30_DeviationAll.j0 k t299 (wrap64 (1 + t303)) (Int.tmod (wrap64 (a1)) 3) t305 true t296 t304) else (if 0 < (t305.length : Int) then (storagebarterlaw30_DeviationAll.j0 k t299 (wrap64 (1 + t303)) (Int.tmod (wrap64 (a1)) 3) t305 ((((rd_T39 t305 0).f1).length : Int) != 0) t296 t304) else (none))) else (storagebarterlaw30_DeviationAll.j0 k t299 (wrap64 (1 + t303)) (Int.tmod (wrap64 (a1)) 3) t305 true t296 t304)) else (storagebarterlaw30_DeviationAll.j0 k t299 (wrap64 (1 + t303)) (Int.tmod (wrap64 (a1)) 3) t305 true t296 t304)) else (storagebarterlaw30_DeviationAll.j0 k t299 (wrap64 (1 + t303)) (Int.tmod (wrap64 (a1)) 3) t305 true t296 t304)))) = some r := H
    have A8 := Aside0.mk A80
    clear A80
    replace H := Option.bind_eq_some_iff.mp H
    obtain ⟨t309, A90, H⟩ := H
    replace H : ((deviation_Count.f k (t309.length : Int) (Int.tmod (wrap64 (a1)) 3)).bind fun bt312 => (if t306 = 0 then (if bt312.2 = true then (if (t305.length : Int) = bt312.1 then (if bt312.1 < 1 then (storagebarterlaw30_DeviationAll.j0 k t299 (wrap64 (1 + t303)) (Int.tmod (wrap64 (a1)) 3) t305 true t296 t304) else (if 0 < (t305.length : Int) then (storagebarterlaw30_DeviationAll.j0 k t299 (wrap64 (1 + t303)) (Int.tmod (wrap64 (a1)) 3) t305 ((((rd_T39 t305 0).f1).length : Int) != 0) t296 t304) else (none))) else (storagebarterlaw30_DeviationAll.j0 k t299 (wrap64 (1 + t303)) (Int.tmod (wrap64 (a1)) 3) t305 true t296 t304)) else (storagebarterlaw30_DeviationAll.j0 k t299 (wrap64 (1 + t303)) (Int.tmod (wrap64 (a1)) 3) t305 true t296 t304)) else (storagebarterlaw30_DeviationAll.j0 k t299 (wrap64 (1 + t303)) (Int.tmod (wrap64 (a1)) 3) t305 true t296 t304))) = some r := H
    have A9 := Aside0.mk A90
    clear A90
    replace H := Option.bind_eq_some_iff.mp H
    obtain ⟨⟨t312, t313⟩, A100, H⟩ := H
    replace H : (if t306 = 0 then (if t313 = true then (if (t305.length : Int) = t312 then (if t312 < 1 then (storagebarterlaw30_DeviationAll.j0 k t299 (wrap64 (1 + t303)) (Int.tmod (wrap64 (a1)) 3) t305 true t296 t304) else (if 0 < (t305.length : Int) then (storagebarterlaw30_DeviationAll.j0 k t299 (wrap64 (1 + t303)) (Int.tmod (wrap64 (a1)) 3) t305 ((((rd_T39 t305 0).f1).length : Int) != 0) t296 t304) else (none))) else (storagebarterlaw30_DeviationAll.j0 k t299 (wrap64 (1 + t303)) (Int.tmod (wrap64 (a1)) 3) t305 true t296 t304)) else (storagebarterlaw30_DeviationAll.j0 k t299 (wrap64 (1 + t303)) (Int.tmod (wrap64 (a1)) 3) t305 true t296 t304)) else (storagebarterlaw30_DeviationAll.j0 k t299 (wrap64 (1 + t303)) (Int.tmod (wrap64 (a1)) 3) t305 true t296 t304)) = some r := H
    have A10 := Aside0.mk A100
    clear A100
    have HC11 := Aside0.mk H
    clear H
    go_enter Tryd.func5, Tryd.ntmps5
    go_upto_region 8 with (first | ((with_reducible refine gate_callee (f := 8) rfl ?_); refine goesL_ (some 17) rfl rfl Tryd.func8 (by kernel_rfl) rfl #[] rfl (by (try simp only [List.map_toArray, List.map_cons, List.map_nil]); first | done | rfl | (simp only [List.length_drop, List.length_take]; rfl)) ?_; (with_reducible refine (storagebarterlaw30_sane.calls k  true _ A3.out (by first | exact HL_.out | exact laid_below HL_.out (by repeat (first | (with_reducible first | exact HB.out | apply below_alloc | apply pw_below_drewN | apply below_drew1) | refine below_set ?_ (Aside0.out (by assumption)) | exact HB.out)) | exact laid_drawn HL_.out HD.out | exact laid_drawn HL_.out (HD.out.step _))).mono ?_); rintro e w12 ⟨rfl, hb⟩; refine ⟨_, rfl, ?_⟩; have n0_ := Aside0.mk (below_step (by repeat (first | (with_reducible first | exact HB.out | apply below_alloc | apply pw_below_drewN | apply below_drew1) | exact HB.out)) hb); clear HB; have HB := n0_; clear n0_; (try clear hb); (try clear hb2); (try clear hk); (try clear hi); (try clear hgw)) | ((with_reducible refine gate_callee (f := 9) rfl ?_); refine goesL_ (some 20) rfl rfl Tryd.func9 (by kernel_rfl) rfl #[.slice A0 l0.length c0] rfl (by (try simp only [List.map_toArray, List.map_cons, List.map_nil]); first | done | rfl | (simp only [List.length_drop, List.length_take]; rfl)) ?_; (with_reducible refine (storagebarterplay_New.calls _ _ l0 t296 t297 w _ ?side1 ?side2 ?side3 A5.out).mono ?_); (case side1 => repeat (first | (with_reducible first | exact HB.out | apply below_alloc | apply pw_below_drewN | apply below_drew1) | exact HB.out)); (case side2 => exact HR0.out); (case side3 => exact HC0.out); rintro e w13 ⟨g298, rfl, hi, hb, hb2, hgw⟩; refine ⟨_, rfl, ?_⟩; have n0_ := Aside0.mk (hb); have n1_ := Aside0.mk (hi); clear HB; have HB := n0_; have HI298 := n1_; clear n0_ n1_; (try clear hb); (try clear hb2); (try clear hk); (try clear hi); (try clear hgw)) | ((with_reducible refine gate_callee (f := 10) rfl ?_); refine goesL_ (some 22) rfl rfl Tryd.func10 (by kernel_rfl) rfl #[.pointer (some ⟨g298, 0, none⟩)] rfl (by (try simp only [List.map_toArray, List.map_cons, List.map_nil]); first | done | rfl | (simp only [List.length_drop, List.length_take]; rfl)) ?_; (with_reducible refine (storagebarterlaw30_plan.calls k g298 t296 t297 t299 t302 w _ ?side1 ?side2 A6.out).mono ?_); (case side1 => repeat (first | (with_reducible first | exact HI298.out | apply IsS58.alloc | apply IsS58.drewN | apply IsS58.drew | apply IsS58.set_1) | exact HI298.out)); (case side2 => repeat (first | (with_reducible first | exact HB.out | apply below_alloc | apply pw_below_drewN | apply below_drew1 | refine below_set ?_ (IsS58.ge HI298.out)) | exact HB.out)); rintro e w14 ⟨v300, rfl, ho0, hi, hb, hk⟩; refine ⟨_, rfl, ?_⟩; have n0_ := Aside0.mk (Kd.R_lower ho0 (below_size (by repeat (first | (with_reducible first | exact HB.out | apply below_alloc | apply pw_below_drewN | apply below_drew1 | refine below_set ?_ (IsS58.ge HI298.out)) | exact HB.out)))); have n1_ := Aside0.mk (hb); have n2_ := Aside0.mk (hi); clear HB; clear HI298; have HO301 := n0_; have HB := n1_; have HI298 := n2_; clear n0_ n1_ n2_; (try clear hb); (try clear hb2); (try clear hk); (try clear hi); (try clear hgw); (try clear ho0)) | ((with_reducible refine gate_callee (f := 11) rfl ?_); refine goesL_ (some 24) rfl rfl Tryd.func11 (by kernel_rfl) rfl #[.pointer (some ⟨g298, 0, none⟩), .int .i64 3] rfl (by (try simp only [List.map_toArray, List.map_cons, List.map_nil]); first | done | rfl | (simp only [List.length_drop, List.length_take]; rfl)) ?_; (with_reducible refine (storagebarterplay_Dice_Pick.calls g298 t296 t302 3 t303 t304 w _ ?side1 ?side2 A7.out).mono ?_); (case side1 => repeat (first | (with_reducible first | exact HI298.out | apply IsS58.alloc | apply IsS58.drewN | apply IsS58.drew | apply IsS58.set_1) | exact HI298.out)); (case side2 => repeat (first | (with_reducible first | exact HB.out | apply below_alloc | apply pw_below_drewN | apply below_drew1 | refine below_set ?_ (IsS58.ge HI298.out)) | exact HB.out)); rintro e w15 ⟨rfl, hi, hb, hk⟩; refine ⟨_, rfl, ?_⟩; have n0_ := Aside0.mk (Kd.R_mono (Kd.R_keep (IsS58.apart (show IsS58 w _ g298 t296 t302 from by repeat (first | (with_reducible first | exact HI298.out | apply IsS58.alloc | apply IsS58.drewN | apply IsS58.drew | apply IsS58.set_1) | exact HI298.out)) (by (with_reducible repeat (first | apply Kd.R_alloc | apply Kd.R_drewN | apply Kd.R_drew)); exact HO301.out) (by decide)) hk (fun _ h => h.2)) (fun _ h => h.1)); have n1_ := Aside0.mk (hb); have n2_ := Aside0.mk (hi); clear HO301; clear HB; clear HI298; have HO301 := n0_; have HB := n1_; have HI298 := n2_; clear n0_ n1_ n2_; (try clear hb); (try clear hb2); (try clear hk); (try clear hi); (try clear hgw); obtain ⟨Ao16, co16, eo16⟩ := Kd.R_slice HO301.out; subst eo16) | ((with_reducible refine gate_callee (f := 12) rfl ?_); refine goesL_ (some 33) rfl rfl Tryd.func12 (by kernel_rfl) rfl #[.slice Ao16 t299.length co16, .int .i64 (wrap64 (1 + t303)), .int .i64 (Int.tmod (wrap64 (a1)) 3)] rfl (by (try simp only [List.map_toArray, List.map_cons, List.map_nil]); first | done | rfl | (simp only [List.length_drop, List.length_take]; rfl)) ?_; (with_reducible refine (deviation_All.calls k _ _ t299 (wrap64 (1 + t303)) (Int.tmod (wrap64 (a1)) 3) t305 t306 _ ?side1 ?side2 A8.out (by first | exact HL_.out | exact laid_below HL_.out (by repeat (first | (with_reducible first | exact HB.out | apply below_alloc | apply pw_below_drewN | apply below_drew1) | refine below_set ?_ (Aside0.out (by assumption)) | exact HB.out)) | exact laid_drawn HL_.out HD.out | exact laid_drawn HL_.out (HD.out.step _))).mono ?_); (case side1 => repeat (first | exact (Kd.R_reads' HO301.out).2.2 | (with_reducible refine Kd.C_alloc ?_ _) | (with_reducible refine Kd.C_drewN ?_ _) | (with_reducible refine Kd.C_drew ?_))); (case side2 => exact (Kd.R_reads' HO301.out).2.1); rintro e w17 ⟨v307, rfl, ho0, hb⟩; refine ⟨_, rfl, ?_⟩; have n0_ := Aside0.mk (Kd.R_below (by (with_reducible repeat (first | apply Kd.R_alloc | apply Kd.R_drewN | apply Kd.R_drew)); exact HO301.out) hb); have n1_ := Aside0.mk (Kd.S_lower ho0 (below_size (by repeat (first | (with_reducible first | exact HB.out | apply below_alloc | apply pw_below_drewN | apply below_drew1 | refine below_set ?_ (IsS58.ge HI298.out)) | exact HB.out)))); have n2_ := Aside0.mk (IsS58.below (by repeat (first | (with_reducible first | exact HI298.out | apply IsS58.alloc | apply IsS58.drewN | apply IsS58.drew | apply IsS58.set_1) | exact HI298.out)) hb); have n3_ := Aside0.mk (below_step (by repeat (first | (with_reducible first | exact HB.out | apply below_alloc | apply pw_below_drewN | apply below_drew1 | refine below_set ?_ (IsS58.ge HI298.out)) | exact HB.out)) hb); clear HO301; clear HI298; clear HB; have HO301 := n0_; have HO308 := n1_; have HI298 := n2_; have HB := n3_; clear n0_ n1_ n2_ n3_; (try clear hb); (try clear hb2); (try clear hk); (try clear hi); (try clear hgw); (try clear ho0)) | ((with_reducible refine gate_callee (f := 16) rfl ?_); refine goesL_ (some 39) rfl rfl Tryd.func16 (by kernel_rfl) rfl #[.slice Ao16 t299.length co16, .int .i64 (wrap64 (1 + t303))] rfl (by (try simp only [List.map_toArray, List.map_cons, List.map_nil]); first | done | rfl | (simp only [List.length_drop, List.length_take]; rfl)) ?_; (with_reducible refine (storagebarterref28_Of.calls k _ _ t299 (wrap64 (1 + t303)) t309 _ ?side1 ?side2 A9.out).mono ?_); (case side1 => repeat (first | exact (Kd.R_reads' HO301.out).2.2 | (with_reducible refine Kd.C_alloc ?_ _) | (with_reducible refine Kd.C_drewN ?_ _) | (with_reducible refine Kd.C_drew ?_))); (case side2 => exact (Kd.R_reads' HO301.out).2.1); rintro e w18 ⟨v310, rfl, ho0, hb⟩; refine ⟨_, rfl, ?_⟩; have n0_ := Aside0.mk (Kd.R_below (by (with_reducible repeat (first | apply Kd.R_alloc | apply Kd.R_drewN | apply Kd.R_drew)); exact HO301.out) hb); have n1_ := Aside0.mk (Kd.S_below (by (with_reducible repeat (first | apply Kd.S_alloc | apply Kd.S_drewN | apply Kd.S_drew)); exact HO308.out) hb); have n2_ := Aside0.mk (Kd.R_lower ho0 (below_size (by repeat (first | (with_reducible first | exact HB.out | apply below_alloc | apply pw_below_drewN | apply below_drew1 | refine below_set ?_ (IsS58.ge HI298.out)) | exact HB.out)))); have n3_ := Aside0.mk (IsS58.below (by repeat (first | (with_reducible first | exact HI298.out | apply IsS58.alloc | apply IsS58.drewN | apply IsS58.drew | apply IsS58.set_1) | exact HI298.out)) hb); have n4_ := Aside0.mk (below_step (by repeat (first | (with_reducible first | exact HB.out | apply below_alloc | apply pw_below_drewN | apply below_drew1 | refine below_set ?_ (IsS58.ge HI298.out)) | exact HB.out)) hb); clear HO301; clear HO308; clear HI298; clear HB; have HO301 := n0_; have HO308 := n1_; have HO311 := n2_; have HI298 := n3_; have HB := n4_; clear n0_ n1_ n2_ n3_ n4_; (try clear hb); (try clear hb2); (try clear hk); (try clear hi); (try clear hgw); (try clear ho0); obtain ⟨Ao19, co19, eo19⟩ := Kd.R_slice HO311.out; subst eo19) | ((with_reducible refine gate_callee (f := 15) rfl ?_); refine goesL_ (some 42) rfl rfl Tryd.func15 (by kernel_rfl) rfl #[.int .i64 (t309.length : Int), .int .i64 (Int.tmod (wrap64 (a1)) 3)] rfl (by (try simp only [List.map_toArray, List.map_cons, List.map_nil]); first | done | rfl | (simp only [List.length_drop, List.length_take]; rfl)) ?_; (with_reducible refine (deviation_Count.calls k (t309.length : Int) (Int.tmod (wrap64 (a1)) 3) t312 t313 _ A10.out).mono ?_); rintro e w20 ⟨rfl, hb⟩; refine ⟨_, rfl, ?_⟩; have n0_ := Aside0.mk (Kd.R_below (by (with_reducible repeat (first | apply Kd.R_alloc | apply Kd.R_drewN | apply Kd.R_drew)); exact HO301.out) hb); have n1_ := Aside0.mk (Kd.S_below (by (with_reducible repeat (first | apply Kd.S_alloc | apply Kd.S_drewN | apply Kd.S_drew)); exact HO308.out) hb); have n2_ := Aside0.mk (Kd.R_below (by (with_reducible repeat (first | apply Kd.R_alloc | apply Kd.R_drewN | apply Kd.R_drew)); exact HO311.out) hb); have n3_ := Aside0.mk (IsS58.below (by repeat (first | (with_reducible first | exact HI298.out | apply IsS58.alloc | apply IsS58.drewN | apply IsS58.drew | apply IsS58.set_1) | exact HI298.out)) hb); have n4_ := Aside0.mk (below_step (by repeat (first | (with_reducible first | exact HB.out | apply below_alloc | apply pw_below_drewN | apply below_drew1 | refine below_set ?_ (IsS58.ge HI298.out)) | exact HB.out)) hb); clear HO301; clear HO308; clear HO311; clear HI298; clear HB; have HO301 := n0_; have HO308 := n1_; have HO311 := n2_; have HI298 := n3_; have HB := n4_; clear n0_ n1_ n2_ n3_ n4_; (try clear hb); (try clear hb2); (try clear hk); (try clear hi); (try clear hgw)))
    (try simp only [Act.put, List.setIfInBounds_toArray, List.set_cons_zero, List.set_cons_succ])
    go_cut [68] (fun v68 wc => ∃ (kq : Nat) (x68_10 : Bool), v68 = .bool x68_10 ∧ Aside0 (storagebarterlaw30_DeviationAll.j0 kq t299 (wrap64 (1 + t303)) (Int.tmod (wrap64 (a1)) 3) t305 x68_10 t296 t304 = some r) ∧ Aside0 (kq ≤ k) ∧ Aside0 (Kd.R k56 56 wc w.heap.size (fun _ => True) (.slice Ao16 t299.length co16) t299) ∧ Aside0 (Kd.S k39 39 wc w.heap.size (fun _ => True) v307 t305) ∧ Aside0 (IsS58 w wc g298 t296 t304) ∧ Aside0 (Below w.heap.size w wc))
    case first =>
      have H := HC11.out
      clear HC11
      by_cases c21 : t306 = 0
      · rw [if_pos c21] at H
        have c21b0 : (t306 == 0) = true := beq_iff_eq.mpr c21
        have c21b1 : (t306 != 0) = false := bne_eq_false_iff_eq.mpr c21
        clear c21
        (first | rw [c21b0] | (simp only [i64_w, i32_w]; rw [c21b0]) | skip)
        by_cases c22 : t313 = true
        · subst c22
          have H1 : (if (t305.length : Int) = t312 then (if t312 < 1 then (storagebarterlaw30_DeviationAll.j0 k t299 (wrap64 (1 + t303)) (Int.tmod (wrap64 (a1)) 3) t305 true t296 t304) else (if 0 < (t305.length : Int) then (storagebarterlaw30_DeviationAll.j0 k t299 (wrap64 (1 + t303)) (Int.tmod (wrap64 (a1)) 3) t305 ((((rd_T39 t305 0).f1).length : Int) != 0) t296 t304) else (none))) else (storagebarterlaw30_DeviationAll.j0 k t299 (wrap64 (1 + t303)) (Int.tmod (wrap64 (a1)) 3) t305 true t296 t304)) = some r := by rw [if_pos rfl] at H; exact H
          clear H
          have H := H1
          clear H1
          by_cases c23 : (t305.length : Int) = t312
          · rw [if_pos c23] at H
            have c23b0 : ((t305.length : Int) == t312) = true := beq_iff_eq.mpr c23
            have c23b1 : ((t305.length : Int) != t312) = false := bne_eq_false_iff_eq.mpr c23
            clear c23
            by_cases c24 : t312 < 1
            · rw [if_pos c24] at H
              have c24b0 : decide (t312 < 1) = true := decide_eq_true c24
              clear c24
              have H' := Aside0.mk H
              clear H
              obtain ⟨Ao25, co25, eo25⟩ := Kd.S_slice HO308.out
              subst eo25
              go_wp2
              go_meet
              case rel => exact ⟨_, (true), (by first | rfl | (simp; done) | (simp [*]; done)), H', ⟨by first | omega | exact Nat.le_refl _⟩, ⟨by (with_reducible repeat (first | apply Kd.R_alloc | apply Kd.R_drewN | apply Kd.R_drew)); exact HO301.out⟩, ⟨by (with_reducible repeat (first | apply Kd.S_alloc | apply Kd.S_drewN | apply Kd.S_drew)); exact HO308.out⟩, ⟨by repeat (first | (with_reducible first | exact HI298.out | apply IsS58.alloc | apply IsS58.drewN | apply IsS58.drew | apply IsS58.set_1) | exact HI298.out)⟩, ⟨by repeat (first | (with_reducible first | exact HB.out | apply below_alloc | apply pw_below_drewN | apply below_drew1 | refine below_set ?_ (IsS58.ge HI298.out)) | exact HB.out)⟩⟩
            · rw [if_neg c24] at H
              have c24b0 : decide (t312 < 1) = false := decide_eq_false c24
              clear c24
              by_cases c26 : 0 < (t305.length : Int)
              · rw [if_pos c26] at H
                have c26b0 : decide (0 < (t305.length : Int)) = true := decide_eq_true c26
                have c26b1 : decide (0 < t305.length) = true := decide_eq_true (by omega)
                clear c26
                have H' := Aside0.mk H
                clear H
                obtain ⟨Ao27, co27, eo27⟩ := Kd.S_slice HO308.out
                subst eo27
                have p314 : 0 ≤ (0 : Int) := (by omega)
                have q314 : 0 < (t305.length : Int) := of_decide_eq_true (by first | (with_reducible assumption) | assumption)
                obtain ⟨ad314, A314_1, c314_1, e314, hx314_0, hx314_1, hl314_1, hi314_1⟩ := at_T39 (Kd.S_reads' HO308.out).2.2 0 p314 q314
                cases e314
                obtain ⟨ce314, hce314, hMe314, hcc314⟩ := Kd.S_get HO308.out z39 0 p314 (by first | exact q314 | exact of_decide_eq_true (by first | (with_reducible assumption) | assumption) | (have e_ := (Kd.S_reads' HO308.out).1; omega))
                obtain ⟨ve314_1, rfl, ge314_1⟩ := k39_openM hMe314
                have hv314_1 := hcc314 1 _ rfl
                rw [add_field _ _ 1 (by omega)] at hv314_1
                replace hv314_1 := Option.some.inj (hv314_1.symm.trans hx314_1)
                rw [hv314_1] at ge314_1
                have HL314_1 := Aside0.mk (show Kd.R k51 51 _ _ _ _ ((rd_T39 t305 0).f1) from ge314_1)
                clear hv314_1 ge314_1
                clear hcc314 hce314
                have qi314 : (0 < t305.length) = True := eq_true (by omega)
                (try rw [show ((0 : Int)).toNat = 0 from rfl] at hx314_0)
                (try rw [show 0 * 2 = 0 from rfl] at hx314_0)
                (try rw [Addr.add_zero'] at hx314_0)
                (try rw [show ((0 : Int)).toNat = 0 from rfl] at hx314_1)
                (try rw [show 0 * 2 = 0 from rfl] at hx314_1)
                (try rw [Addr.add_zero'] at hx314_1)
                have HR314_1 := Aside0.mk hi314_1
                have HC314_1 := Aside0.mk hl314_1
                clear hi314_1 hl314_1
                replace p314 := eq_true p314
                replace q314 := eq_true q314
                go_wp2
                go_meet
                case rel => exact ⟨_, (((((rd_T39 t305 0).f1).length : Int) != 0)), (by first | rfl | (simp; done) | (simp [*]; done)), H', ⟨by first | omega | exact Nat.le_refl _⟩, ⟨by (with_reducible repeat (first | apply Kd.R_alloc | apply Kd.R_drewN | apply Kd.R_drew)); exact HO301.out⟩, ⟨by (with_reducible repeat (first | apply Kd.S_alloc | apply Kd.S_drewN | apply Kd.S_drew)); exact HO308.out⟩, ⟨by repeat (first | (with_reducible first | exact HI298.out | apply IsS58.alloc | apply IsS58.drewN | apply IsS58.drew | apply IsS58.set_1) | exact HI298.out)⟩, ⟨by repeat (first | (with_reducible first | exact HB.out | apply below_alloc | apply pw_below_drewN | apply below_drew1 | refine below_set ?_ (IsS58.ge HI298.out)) | exact HB.out)⟩⟩
              · rw [if_neg c26] at H
                exact absurd H (by simp)
          · rw [if_neg c23] at H
            have c23b0 : ((t305.length : Int) == t312) = false := beq_eq_false_iff_ne.mpr c23
            have c23b1 : ((t305.length : Int) != t312) = true := bne_iff_ne.mpr c23
            have H' := Aside0.mk H
            clear H
            obtain ⟨Ao28, co28, eo28⟩ := Kd.S_slice HO308.out
            subst eo28
            go_wp2
            go_meet
            case rel => exact ⟨_, (true), (by first | rfl | (simp; done) | (simp [*]; done)), H', ⟨by first | omega | exact Nat.le_refl _⟩, ⟨by (with_reducible repeat (first | apply Kd.R_alloc | apply Kd.R_drewN | apply Kd.R_drew)); exact HO301.out⟩, ⟨by (with_reducible repeat (first | apply Kd.S_alloc | apply Kd.S_drewN | apply Kd.S_drew)); exact HO308.out⟩, ⟨by repeat (first | (with_reducible first | exact HI298.out | apply IsS58.alloc | apply IsS58.drewN | apply IsS58.drew | apply IsS58.set_1) | exact HI298.out)⟩, ⟨by repeat (first | (with_reducible first | exact HB.out | apply below_alloc | apply pw_below_drewN | apply below_drew1 | refine below_set ?_ (IsS58.ge HI298.out)) | exact HB.out)⟩⟩
        · replace c22 := Bool.eq_false_iff.mpr c22
          subst c22
          have H1 : (storagebarterlaw30_DeviationAll.j0 k t299 (wrap64 (1 + t303)) (Int.tmod (wrap64 (a1)) 3) t305 true t296 t304) = some r := by rw [if_neg (show ¬ (false = true) by decide)] at H; exact H
          clear H
          have H := H1
          clear H1
          have H' := Aside0.mk H
          clear H
          go_wp2
          go_meet
          case rel => exact ⟨_, (true), (by first | rfl | (simp; done) | (simp [*]; done)), H', ⟨by first | omega | exact Nat.le_refl _⟩, ⟨by (with_reducible repeat (first | apply Kd.R_alloc | apply Kd.R_drewN | apply Kd.R_drew)); exact HO301.out⟩, ⟨by (with_reducible repeat (first | apply Kd.S_alloc | apply Kd.S_drewN | apply Kd.S_drew)); exact HO308.out⟩, ⟨by repeat (first | (with_reducible first | exact HI298.out | apply IsS58.alloc | apply IsS58.drewN | apply IsS58.drew | apply IsS58.set_1) | exact HI298.out)⟩, ⟨by repeat (first | (with_reducible first | exact HB.out | apply below_alloc | apply pw_below_drewN | apply below_drew1 | refine below_set ?_ (IsS58.ge HI298.out)) | exact HB.out)⟩⟩
      · rw [if_neg c21] at H
        have c21b0 : (t306 == 0) = false := beq_eq_false_iff_ne.mpr c21
        have c21b1 : (t306 != 0) = true := bne_iff_ne.mpr c21
        (first | rw [c21b0] | (simp only [i64_w, i32_w]; rw [c21b0]) | skip)
        have H' := Aside0.mk H
        clear H
        go_wp2
        go_meet
        case rel => exact ⟨_, (true), (by first | rfl | (simp; done) | (simp [*]; done)), H', ⟨by first | omega | exact Nat.le_refl _⟩, ⟨by (with_reducible repeat (first | apply Kd.R_alloc | apply Kd.R_drewN | apply Kd.R_drew)); exact HO301.out⟩, ⟨by (with_reducible repeat (first | apply Kd.S_alloc | apply Kd.S_drewN | apply Kd.S_drew)); exact HO308.out⟩, ⟨by repeat (first | (with_reducible first | exact HI298.out | apply IsS58.alloc | apply IsS58.drewN | apply IsS58.drew | apply IsS58.set_1) | exact HI298.out)⟩, ⟨by repeat (first | (with_reducible first | exact HB.out | apply below_alloc | apply pw_below_drewN | apply below_drew1 | refine below_set ?_ (IsS58.ge HI298.out)) | exact HB.out)⟩⟩
    case rest =>
      clear HC11
      try clear c1
      try clear c2
      try clear p2
      try clear c3
      try clear p3
      try clear q3
      try clear hx3
      try clear qi3
      try clear c4
      try clear c5
      try clear p6
      try clear c8
      try clear c9
      try clear c10
      try clear c11
      try clear c12
      try clear c15
      try clear c16
      try clear c21
      try clear c21b0
      try clear c21b1
      try clear c22
      try clear c23
      try clear c23b0
      try clear c23b1
      try clear c24
      try clear c24b0
      try clear c26
      try clear c26b0
      try clear c26b1
      try clear hx314_0
      try clear hx314_1
      try clear p314
      try clear q314
      obtain ⟨kq, x68_10, rfl, HA, HJ10, HO_6, HO_9, HI298, HB⟩ := hcut
      cases kq with
      | zero => exact absurd HA.out (by simp [storagebarterlaw30_DeviationAll.j0])
      | succ kj10 =>
        have H := HA.out
        clear HA
        simp only [storagebarterlaw30_DeviationAll.j0] at H
        by_cases c29 : x68_10 = true
        · subst c29
          have H1 : (some false) = some r := by rw [if_pos rfl] at H; exact H
          clear H
          have H := H1
          clear H1
          exact absurd (Option.some.inj H) (by rw [HRT_.out]; decide)
        · replace c29 := Bool.eq_false_iff.mpr c29
          subst c29
          have H1 : ((storagebarterplay_Dice_Deviation.f kj10 t296 t304 t299 (wrap64 (1 + t303)) (Int.tmod (wrap64 (a1)) 3)).bind fun bt315 => (storagebarterlaw30_DeviationAll.l0 kj10 t299 (wrap64 (1 + t303)) (Int.tmod (wrap64 (a1)) 3) t305 false t305 (t305.length : Int) 0 bt315.1 bt315.2.1)) = some r := by rw [if_neg (show ¬ (false = true) by decide)] at H; exact H
          clear H
          have H := H1
          clear H1
          replace H := Option.bind_eq_some_iff.mp H
          obtain ⟨⟨t315, t316, t319⟩, A300, H⟩ := H
          replace H : (storagebarterlaw30_DeviationAll.l0 kj10 t299 (wrap64 (1 + t303)) (Int.tmod (wrap64 (a1)) 3) t305 false t305 (t305.length : Int) 0 t315 t316) = some r := H
          have A30 := Aside0.mk A300
          clear A300
          have H' := Aside0.mk H
          clear H
          go_wp2_with (first | ((with_reducible refine gate_callee (f := 17) rfl ?_); refine goesL_ (some 73) rfl rfl Tryd.func17 (by kernel_rfl) rfl #[.pointer (some ⟨g298, 0, none⟩), .slice Ao16 t299.length co16, .int .i64 (wrap64 (1 + t303)), .int .i64 (Int.tmod (wrap64 (a1)) 3)] rfl (by (try simp only [List.map_toArray, List.map_cons, List.map_nil]); first | done | rfl | (simp only [List.length_drop, List.length_take]; rfl)) ?_; (with_reducible refine (storagebarterplay_Dice_Deviation.calls kj10 g298 t296 t304 _ _ t299 (wrap64 (1 + t303)) (Int.tmod (wrap64 (a1)) 3) t315 t316 t319 w _ ?side1 ?side2 ?side3 ?side4 A30.out).mono ?_); (case side1 => repeat (first | (with_reducible first | exact HI298.out | apply IsS58.alloc | apply IsS58.drewN | apply IsS58.drew | apply IsS58.set_1) | exact HI298.out)); (case side2 => repeat (first | (with_reducible first | exact HB.out | apply below_alloc | apply pw_below_drewN | apply below_drew1 | refine below_set ?_ (IsS58.ge HI298.out)) | exact HB.out)); (case side3 => exact Kd.C_foot_own (IsS58.apart (show IsS58 w _ g298 t296 t304 from by repeat (first | (with_reducible first | exact HI298.out | apply IsS58.alloc | apply IsS58.drewN | apply IsS58.drew | apply IsS58.set_1) | exact HI298.out)) (by (with_reducible repeat (first | apply Kd.R_alloc | apply Kd.R_drewN | apply Kd.R_drew)); exact HO_6.out) (by decide)) (fun _ h_ => h_.2)); (case side4 => exact (Kd.R_reads' HO_6.out).2.1); rintro e w31 ⟨v317, rfl, ho0, hi, hb, hk⟩; refine ⟨_, rfl, ?_⟩; have n0_ := Aside0.mk (Kd.R_mono (Kd.R_keep (IsS58.apart (show IsS58 w _ g298 t296 t304 from by repeat (first | (with_reducible first | exact HI298.out | apply IsS58.alloc | apply IsS58.drewN | apply IsS58.drew | apply IsS58.set_1) | exact HI298.out)) (by (with_reducible repeat (first | apply Kd.R_alloc | apply Kd.R_drewN | apply Kd.R_drew)); exact HO_6.out) (by decide)) hk (fun _ h => h.2)) (fun _ h => h.1)); have n1_ := Aside0.mk (Kd.S_mono (Kd.S_told (Kd.S_oldK (IsS58.apartS (show IsS58 w _ g298 t296 t304 from by repeat (first | (with_reducible first | exact HI298.out | apply IsS58.alloc | apply IsS58.drewN | apply IsS58.drew | apply IsS58.set_1) | exact HI298.out)) (by (with_reducible repeat (first | apply Kd.S_alloc | apply Kd.S_drewN | apply Kd.S_drew)); exact HO_9.out) (by decide)) hk) (Kd.R_base ho0)) (fun _ h_ => h_.1)); have n2_ := Aside0.mk (Kd.R_lower ho0 (below_size (by repeat (first | (with_reducible first | exact HB.out | apply below_alloc | apply pw_below_drewN | apply below_drew1 | refine below_set ?_ (IsS58.ge HI298.out)) | exact HB.out)))); have n3_ := Aside0.mk (hb); have n4_ := Aside0.mk (hi); clear HO_6; clear HO_9; clear HB; clear HI298; have HO_6 := n0_; have HO_9 := n1_; have HO318 := n2_; have HB := n3_; have HI298 := n4_; clear n0_ n1_ n2_ n3_ n4_; (try clear hb); (try clear hb2); (try clear hk); (try clear hi); (try clear hgw); (try clear ho0)) | ((with_reducible refine gate_dst (N := 13) rfl ?_); (try (refine gate_guard (by rfl) ?_; dsimp only)); refine box_event ?hg (N := 13) ?hd (cs := #[.int .i64 0, .slice none 0 0]) (t := 39) ?hr ?_; (case hd => rfl); (case hg => rfl); (case hr => first | (go_simp; done) | (go_simp; rfl)); intro gb320 hg w32 hbox hb; have n0_ := Aside0.mk (Kd.R_below (by (with_reducible repeat (first | apply Kd.R_alloc | apply Kd.R_drewN | apply Kd.R_drew)); exact HO_6.out) hb); have n1_ := Aside0.mk (Kd.S_below (Kd.S_elderB (by (with_reducible repeat (first | apply Kd.S_alloc | apply Kd.S_drewN | apply Kd.S_drew)); exact HO_9.out) gb320 (Nat.le_of_eq hg.symm)) hb); have n2_ := Aside0.mk (Kd.R_below (by (with_reducible repeat (first | apply Kd.R_alloc | apply Kd.R_drewN | apply Kd.R_drew)); exact HO318.out) hb); have n3_ := Aside0.mk (IsS58.below (by repeat (first | (with_reducible first | exact HI298.out | apply IsS58.alloc | apply IsS58.drewN | apply IsS58.drew | apply IsS58.set_1) | exact HI298.out)) hb); have n4_ := Aside0.mk (below_step (by repeat (first | (with_reducible first | exact HB.out | apply below_alloc | apply pw_below_drewN | apply below_drew1 | refine below_set ?_ (IsS58.ge HI298.out)) | exact HB.out)) hb); have n5_ := Aside0.mk (hbox); have n6_ := Aside0.mk ((by rw [hg]; exact (below_size (by repeat (first | (with_reducible first | exact HB.out | apply below_alloc | apply pw_below_drewN | apply below_drew1 | refine below_set ?_ (IsS58.ge HI298.out)) | exact HB.out))) : w.heap.size ≤ gb320)); have n7_ := Aside0.mk ((by rw [hg]; exact (below_size (by repeat (first | (with_reducible first | exact HB.out | apply below_alloc | apply pw_below_drewN | apply below_drew1 | refine below_set ?_ (IsS58.ge HI298.out)) | exact HB.out))) : w.heap.size ≤ gb320)); have n8_ := Aside0.mk ((by rw [hg]; exact Nat.ne_of_lt (IsS58.lt (show IsS58 w _ g298 t296 t319 from by repeat (first | (with_reducible first | exact HI298.out | apply IsS58.alloc | apply IsS58.drewN | apply IsS58.drew | apply IsS58.set_1) | exact HI298.out))) : g298 ≠ gb320)); have n9_ := Aside0.mk ((by rw [hg]; exact Nat.ne_of_gt (IsS58.lt (show IsS58 w _ g298 t296 t319 from by repeat (first | (with_reducible first | exact HI298.out | apply IsS58.alloc | apply IsS58.drewN | apply IsS58.drew | apply IsS58.set_1) | exact HI298.out))) : gb320 ≠ g298)); clear HO_6; clear HO_9; clear HO318; clear HI298; clear HB; have HO_6 := n0_; have HO_9 := n1_; have HO318 := n2_; have HI298 := n3_; have HB := n4_; have BK320 := n5_; have GW320 := n6_; have GE320 := n7_; have NB298_320 := n8_; have NB320_298 := n9_; clear n0_ n1_ n2_ n3_ n4_ n5_ n6_ n7_ n8_ n9_; clear hb hbox hg; have hnb33 := NB320_298.out; have hnc33 := NB298_320.out; have hcz34_0 : w32.cell? ⟨gb320, 0, none⟩ = some (.int .i64 0) := (blk_cell BK320.out 0).trans rfl; have hcz34_1 : w32.cell? ⟨gb320, 1, none⟩ = some (.slice none 0 0) := (blk_cell BK320.out 1).trans rfl; have hfz34_0 := blk_frozen BK320.out 0; have hfz34_1 := blk_frozen BK320.out 1; obtain ⟨Ao35, co35, eo35⟩ := Kd.R_slice HO318.out; subst eo35; obtain ⟨Ao36, co36, eo36⟩ := Kd.S_slice HO_9.out; subst eo36))
          go_loopg [14, 76] kj10 (fun kq v14 v76 w' => ∃ (x14_2 : Bool) (x76_2 : Int), v14 = .bool x14_2 ∧ v76 = .int .i64 x76_2 ∧ Aside0 (storagebarterlaw30_DeviationAll.l0 kq t299 (wrap64 (1 + t303)) (Int.tmod (wrap64 (a1)) 3) t305 x14_2 t305 (t305.length : Int) x76_2 t315 t316 = some r) ∧ Aside0 (kq ≤ kj10) ∧ Aside0 (Kd.R k56 56 w' w.heap.size (fun _ => True) (.slice Ao16 t299.length co16) t299) ∧ Aside0 (Kd.S k39 39 w' w.heap.size (fun k_ => some k_ ≠ ((.slice Ao35 t316.length co35) : Value).ownBlock ∧ k_ ≠ gb320) (.slice Ao36 t305.length co36) t305) ∧ Aside0 (Kd.S k39 39 w' w.heap.size (fun k_ => some k_ ≠ ((.slice Ao35 t316.length co35) : Value).ownBlock ∧ k_ ≠ gb320) (.slice Ao36 t305.length co36) t305) ∧ Aside0 (Kd.R k51 51 w' w.heap.size (fun _ => True) (.slice Ao35 t316.length co35) t316) ∧ Aside0 (w'.heap[gb320]? = some (.cells #[.int .i64 t315, (.slice Ao35 t316.length co35)] 39 (0, 0))) ∧ Aside0 (Below w.heap.size w w'))
          case atStart => exact ⟨(false), (0), (by first | rfl | (simp; done) | (simp [*]; done)), (by first | rfl | (simp; done) | (simp [*]; done)), H', ⟨Nat.le_refl _⟩, ⟨by (with_reducible repeat (first | apply Kd.R_alloc | apply Kd.R_drewN | apply Kd.R_drew)); exact Kd.R_mono (Kd.R_far (p := ⟨gb320, 1, none⟩) (Kd.R_far (p := ⟨gb320, 0, none⟩) (Kd.R_types HO_6.out BK320.out (by decide)) (fun _ hk => hk.2) (.int .i64 t315)) (fun _ hk => hk.2) (.slice Ao35 t316.length co35)) (fun _ hk => trivial)⟩, ⟨by (with_reducible repeat (first | apply Kd.S_alloc | apply Kd.S_drewN | apply Kd.S_drew)); exact Kd.S_mono (Kd.S_far (p := ⟨gb320, 1, none⟩) (Kd.S_far (p := ⟨gb320, 0, none⟩) (Kd.S_mono HO_9.out (fun k_ hk => (⟨hk, hk.2⟩ : _ ∧ k_ ≠ gb320))) (fun _ hk => hk.2) (.int .i64 t315)) (fun _ hk => hk.2) (.slice Ao35 t316.length co35)) (fun _ hk => ⟨hk.1.1.2, hk.1.2⟩)⟩, ⟨by (with_reducible repeat (first | apply Kd.S_alloc | apply Kd.S_drewN | apply Kd.S_drew)); exact Kd.S_mono (Kd.S_far (p := ⟨gb320, 1, none⟩) (Kd.S_far (p := ⟨gb320, 0, none⟩) (Kd.S_mono HO_9.out (fun k_ hk => (⟨hk, hk.2⟩ : _ ∧ k_ ≠ gb320))) (fun _ hk => hk.2) (.int .i64 t315)) (fun _ hk => hk.2) (.slice Ao35 t316.length co35)) (fun _ hk => ⟨hk.1.1.2, hk.1.2⟩)⟩, ⟨by (with_reducible repeat (first | apply Kd.R_alloc | apply Kd.R_drewN | apply Kd.R_drew)); exact Kd.R_mono (Kd.R_far (p := ⟨gb320, 1, none⟩) (Kd.R_far (p := ⟨gb320, 0, none⟩) (Kd.R_types HO318.out BK320.out (by decide)) (fun _ hk => hk.2) (.int .i64 t315)) (fun _ hk => hk.2) (.slice Ao35 t316.length co35)) (fun _ hk => trivial)⟩, ⟨by (with_reducible repeat (first | refine blk_drewN ?_ _ | refine blk_drew ?_ | refine blk_alloc ?_ _)); refine blk_put (cs := #[.int .i64 t315, .slice none 0 0]) ?_ 1 _ rfl; (with_reducible repeat (first | refine blk_drewN ?_ _ | refine blk_drew ?_ | refine blk_alloc ?_ _)); refine blk_put (cs := #[.int .i64 0, .slice none 0 0]) ?_ 0 _ rfl; (with_reducible repeat (first | refine blk_drewN ?_ _ | refine blk_drew ?_ | refine blk_alloc ?_ _)); exact BK320.out⟩, ⟨by repeat (first | (with_reducible first | exact HB.out | apply below_alloc | apply pw_below_drewN | apply below_drew1 | refine below_set ?_ (IsS58.ge HI298.out) | refine below_set ?_ GE320.out) | exact HB.out)⟩⟩
          case round =>
            clear H'
            try clear c1
            try clear c2
            try clear p2
            try clear c3
            try clear p3
            try clear q3
            try clear hx3
            try clear qi3
            try clear c4
            try clear c5
            try clear p6
            try clear c8
            try clear c9
            try clear c10
            try clear c11
            try clear c12
            try clear c15
            try clear c16
            try clear c17
            try clear c21
            try clear c21b0
            try clear c21b1
            try clear c22
            try clear c23
            try clear c23b0
            try clear c23b1
            try clear c24
            try clear c24b0
            try clear c26
            try clear c26b0
            try clear c26b1
            try clear c29
            try clear c31
            try clear p31
            try clear q31
            try clear hx31
            try clear qi31
            try clear c33
            try clear hcz34_0
            try clear hcz34_1
            try clear hfz34_0
            try clear hfz34_1
            try clear hx314_0
            try clear hx314_1
            try clear p2
            try clear p3
            try clear p314
            try clear p6
            try clear q3
            try clear q314
            obtain ⟨x14_2, x76_2, rfl, rfl, HA, HK2, HO_6, HO_9, HO_74, HO_321001, BK320, HB⟩ := hrel
            cases gk with
            | zero => exact absurd HA.out (by simp [storagebarterlaw30_DeviationAll.l0])
            | succ k2 =>
              have H := HA.out
              clear HA
              simp only [storagebarterlaw30_DeviationAll.l0] at H
              by_cases c37 : x76_2 < (t305.length : Int)
              · rw [if_pos c37] at H
                have c37b0 : decide (x76_2 < (t305.length : Int)) = true := decide_eq_true c37
                clear c37
                by_cases c38 : 0 ≤ x76_2
                · rw [if_pos c38] at H
                  have c38b0 : decide (0 ≤ x76_2) = true := decide_eq_true c38
                  clear c38
                  by_cases c39 : x76_2 < (t305.length : Int)
                  · rw [if_pos c39] at H
                    have c39b0 : decide (x76_2 < (t305.length : Int)) = true := decide_eq_true c39
                    clear c39
                    replace H := Option.bind_eq_some_iff.mp H
                    obtain ⟨t323, A400, H⟩ := H
                    replace H : (if t323 = true then (if ((rd_T39 t305 x76_2).f0) = (wrap64 (1 + t303)) then (if (((rd_T39 t305 x76_2).f1).length : Int) > (Int.tmod (wrap64 (a1)) 3) then (some false) else (if x76_2 > 0 then (if 0 ≤ (wrap64 (x76_2 - 1)) then (if (wrap64 (x76_2 - 1)) < (t305.length : Int) then ((storagebarterlaw30_before.f k2 ((rd_T39 t305 (wrap64 (x76_2 - 1))).f1) ((rd_T39 t305 x76_2).f1)).bind fun t325 => (if t325 = true then (if x14_2 = true then (storagebarterlaw30_DeviationAll.l0 k2 t299 (wrap64 (1 + t303)) (Int.tmod (wrap64 (a1)) 3) t305 true t305 (t305.length : Int) (wrap64 (x76_2 + 1)) t315 t316) else ((deviation_Same.f k2 ((rd_T39 t305 x76_2).f0) ((rd_T39 t305 x76_2).f1) t315 t316).bind fun t326 => (storagebarterlaw30_DeviationAll.l0 k2 t299 (wrap64 (1 + t303)) (Int.tmod (wrap64 (a1)) 3) t305 t326 t305 (t305.length : Int) (wrap64 (x76_2 + 1)) t315 t316))) else (some false))) else (none)) else (none)) else (if x14_2 = true then (storagebarterlaw30_DeviationAll.l0 k2 t299 (wrap64 (1 + t303)) (Int.tmod (wrap64 (a1)) 3) t305 true t305 (t305.length : Int) (wrap64 (x76_2 + 1)) t315 t316) else ((deviation_Same.f k2 ((rd_T39 t305 x76_2).f0) ((rd_T39 t305 x76_2).f1) t315 t316).bind fun t327 => (storagebarterlaw30_DeviationAll.l0 k2 t299 (wrap64 (1 + t303)) (Int.tmod (wrap64 (a1)) 3) t305 t327 t305 (t305.length : Int) (wrap64 (x76_2 + 1)) t315 t316))))) else (some false)) else (some false)) = some r := H
                    have A40 := Aside0.mk A400
                    clear A400
                    by_cases c41 : t323 = true
                    · subst c41
                      have H1 : (if ((rd_T39 t305 x76_2).f0) = (wrap64 (1 + t303)) then (if (((rd_T39 t305 x76_2).f1).length : Int) > (Int.tmod (wrap64 (a1)) 3) then (some false) else (if x76_2 > 0 then (if 0 ≤ (wrap64 (x76_2 - 1)) then (if (wrap64 (x76_2 - 1)) < (t305.length : Int) then ((storagebarterlaw30_before.f k2 ((rd_T39 t305 (wrap64 (x76_2 - 1))).f1) ((rd_T39 t305 x76_2).f1)).bind fun t325 => (if t325 = true then (if x14_2 = true then (storagebarterlaw30_DeviationAll.l0 k2 t299 (wrap64 (1 + t303)) (Int.tmod (wrap64 (a1)) 3) t305 true t305 (t305.length : Int) (wrap64 (x76_2 + 1)) t315 t316) else ((deviation_Same.f k2 ((rd_T39 t305 x76_2).f0) ((rd_T39 t305 x76_2).f1) t315 t316).bind fun t326 => (storagebarterlaw30_DeviationAll.l0 k2 t299 (wrap64 (1 + t303)) (Int.tmod (wrap64 (a1)) 3) t305 t326 t305 (t305.length : Int) (wrap64 (x76_2 + 1)) t315 t316))) else (some false))) else (none)) else (none)) else (if x14_2 = true then (storagebarterlaw30_DeviationAll.l0 k2 t299 (wrap64 (1 + t303)) (Int.tmod (wrap64 (a1)) 3) t305 true t305 (t305.length : Int) (wrap64 (x76_2 + 1)) t315 t316) else ((deviation_Same.f k2 ((rd_T39 t305 x76_2).f0) ((rd_T39 t305 x76_2).f1) t315 t316).bind fun t327 => (storagebarterlaw30_DeviationAll.l0 k2 t299 (wrap64 (1 + t303)) (Int.tmod (wrap64 (a1)) 3) t305 t327 t305 (t305.length : Int) (wrap64 (x76_2 + 1)) t315 t316))))) else (some false)) = some r := by rw [if_pos rfl] at H; exact H
                      clear H
                      have H := H1
                      clear H1
                      by_cases c42 : ((rd_T39 t305 x76_2).f0) = (wrap64 (1 + t303))
                      · rw [if_pos c42] at H
                        have c42b0 : (((rd_T39 t305 x76_2).f0) == (wrap64 (1 + t303))) = true := beq_iff_eq.mpr c42
                        have c42b1 : (((rd_T39 t305 x76_2).f0) != (wrap64 (1 + t303))) = false := bne_eq_false_iff_eq.mpr c42
                        clear c42
                        by_cases c43 : (((rd_T39 t305 x76_2).f1).length : Int) > (Int.tmod (wrap64 (a1)) 3)
                        · rw [if_pos c43] at H
                          have c43b0 : decide ((Int.tmod (wrap64 (a1)) 3) < (((rd_T39 t305 x76_2).f1).length : Int)) = true := decide_eq_true c43
                          clear c43
                          exact absurd (Option.some.inj H) (by rw [HRT_.out]; decide)
                        · rw [if_neg c43] at H
                          have c43b0 : decide ((Int.tmod (wrap64 (a1)) 3) < (((rd_T39 t305 x76_2).f1).length : Int)) = false := decide_eq_false c43
                          clear c43
                          by_cases c44 : x76_2 > 0
                          · rw [if_pos c44] at H
                            have c44b0 : decide (0 < x76_2) = true := decide_eq_true c44
                            clear c44
                            obtain ⟨ji45, hji45⟩ : ∃ j_ : Int, (wrap64 (x76_2 - 1)) = j_ := ⟨_, rfl⟩
                            replace H : (if 0 ≤ (ji45) then (if (ji45) < (t305.length : Int) then ((storagebarterlaw30_before.f k2 ((rd_T39 t305 (ji45)).f1) ((rd_T39 t305 x76_2).f1)).bind fun t325 => (if t325 = true then (if x14_2 = true then (storagebarterlaw30_DeviationAll.l0 k2 t299 (wrap64 (1 + t303)) (Int.tmod (wrap64 (a1)) 3) t305 true t305 (t305.length : Int) (wrap64 (x76_2 + 1)) t315 t316) else ((deviation_Same.f k2 ((rd_T39 t305 x76_2).f0) ((rd_T39 t305 x76_2).f1) t315 t316).bind fun t326 => (storagebarterlaw30_DeviationAll.l0 k2 t299 (wrap64 (1 + t303)) (Int.tmod (wrap64 (a1)) 3) t305 t326 t305 (t305.length : Int) (wrap64 (x76_2 + 1)) t315 t316))) else (some false))) else (none)) else (none)) = some r := by first | (rw [hji45] at H; exact H) | (simp only [hji45] at H ⊢; exact H)
                            (try rw [hji45] at A40)
                            have hji45w : (IntKind.i64.wrap (x76_2 - 1)) = ji45 := (i64_w _).trans hji45
                            by_cases c46 : 0 ≤ (ji45)
                            · rw [if_pos c46] at H
                              have c46b0 : decide (0 ≤ (ji45)) = true := decide_eq_true c46
                              clear c46
                              by_cases c47 : (ji45) < (t305.length : Int)
                              · rw [if_pos c47] at H
                                have c47b0 : decide ((ji45) < (t305.length : Int)) = true := decide_eq_true c47
                                clear c47
                                replace H := Option.bind_eq_some_iff.mp H
                                obtain ⟨t325, A480, H⟩ := H
                                replace H : (if t325 = true then (if x14_2 = true then (storagebarterlaw30_DeviationAll.l0 k2 t299 (wrap64 (1 + t303)) (Int.tmod (wrap64 (a1)) 3) t305 true t305 (t305.length : Int) (wrap64 (x76_2 + 1)) t315 t316) else ((deviation_Same.f k2 ((rd_T39 t305 x76_2).f0) ((rd_T39 t305 x76_2).f1) t315 t316).bind fun t326 => (storagebarterlaw30_DeviationAll.l0 k2 t299 (wrap64 (1 + t303)) (Int.tmod (wrap64 (a1)) 3) t305 t326 t305 (t305.length : Int) (wrap64 (x76_2 + 1)) t315 t316))) else (some false)) = some r := H
                                have A48 := Aside0.mk A480
                                clear A480
                                by_cases c49 : t325 = true
                                · subst c49
                                  have H1 : (if x14_2 = true then (storagebarterlaw30_DeviationAll.l0 k2 t299 (wrap64 (1 + t303)) (Int.tmod (wrap64 (a1)) 3) t305 true t305 (t305.length : Int) (wrap64 (x76_2 + 1)) t315 t316) else ((deviation_Same.f k2 ((rd_T39 t305 x76_2).f0) ((rd_T39 t305 x76_2).f1) t315 t316).bind fun t326 => (storagebarterlaw30_DeviationAll.l0 k2 t299 (wrap64 (1 + t303)) (Int.tmod (wrap64 (a1)) 3) t305 t326 t305 (t305.length : Int) (wrap64 (x76_2 + 1)) t315 t316))) = some r := by rw [if_pos rfl] at H; exact H
                                  clear H
                                  have H := H1
                                  clear H1
                                  by_cases c50 : x14_2 = true
                                  · subst c50
                                    have H1 : (storagebarterlaw30_DeviationAll.l0 k2 t299 (wrap64 (1 + t303)) (Int.tmod (wrap64 (a1)) 3) t305 true t305 (t305.length : Int) (wrap64 (x76_2 + 1)) t315 t316) = some r := by rw [if_pos rfl] at H; exact H
                                    clear H
                                    have H := H1
                                    clear H1
                                    have H' := Aside0.mk H
                                    clear H
                                    have p321 : 0 ≤ (x76_2 : Int) := of_decide_eq_true (by first | (with_reducible assumption) | assumption)
                                    have q321 : x76_2 < (t305.length : Int) := of_decide_eq_true (by first | (with_reducible assumption) | assumption)
                                    obtain ⟨ad321, A321_1, c321_1, e321, hx321_0, hx321_1, hl321_1, hi321_1⟩ := at_T39 (Kd.S_reads' HO_74.out).2.2 x76_2 p321 q321
                                    cases e321
                                    obtain ⟨ce321, hce321, hMe321, hcc321⟩ := Kd.S_get HO_74.out z39 x76_2 p321 (by first | exact q321 | exact of_decide_eq_true (by first | (with_reducible assumption) | assumption) | (have e_ := (Kd.S_reads' HO_74.out).1; omega))
                                    obtain ⟨ve321_1, rfl, ge321_1⟩ := k39_openM hMe321
                                    have hv321_1 := hcc321 1 _ rfl
                                    rw [add_field _ _ 1 (by omega)] at hv321_1
                                    replace hv321_1 := Option.some.inj (hv321_1.symm.trans hx321_1)
                                    rw [hv321_1] at ge321_1
                                    have HL321_1 := Aside0.mk (show Kd.R k51 51 _ _ _ _ ((rd_T39 t305 x76_2).f1) from ge321_1)
                                    clear hv321_1 ge321_1
                                    clear hcc321 hce321
                                    have HR321_1 := Aside0.mk hi321_1
                                    have HC321_1 := Aside0.mk hl321_1
                                    clear hi321_1 hl321_1
                                    replace p321 := eq_true p321
                                    replace q321 := eq_true q321
                                    try go_wp2_with (first | ((with_reducible refine gate_dst (N := 16) rfl ?_); (try (refine gate_guard (by rfl) ?_; dsimp only)); refine box_event ?hg (N := 16) ?hd (cs := #[.int .i64 0, .slice none 0 0]) (t := 39) ?hr ?_; (case hd => rfl); (case hg => rfl); (case hr => first | (go_simp; done) | (go_simp; rfl)); intro gb322 hg w51 hbox hb; have n0_ := Aside0.mk (Kd.R_below (by (with_reducible repeat (first | apply Kd.R_alloc | apply Kd.R_drewN | apply Kd.R_drew)); exact HO_6.out) hb); have n1_ := Aside0.mk (Kd.S_below (Kd.S_elderB (by (with_reducible repeat (first | apply Kd.S_alloc | apply Kd.S_drewN | apply Kd.S_drew)); exact HO_9.out) gb322 (Nat.le_of_eq hg.symm)) hb); have n2_ := Aside0.mk (Kd.S_below (Kd.S_elderB (by (with_reducible repeat (first | apply Kd.S_alloc | apply Kd.S_drewN | apply Kd.S_drew)); exact HO_74.out) gb322 (Nat.le_of_eq hg.symm)) hb); have n3_ := Aside0.mk (Kd.R_below (by (with_reducible repeat (first | apply Kd.R_alloc | apply Kd.R_drewN | apply Kd.R_drew)); exact HO_321001.out) hb); have n4_ := Aside0.mk (Kd.R_below (by (with_reducible repeat (first | apply Kd.R_alloc | apply Kd.R_drewN | apply Kd.R_drew)); exact HL321_1.out) hb); have n5_ := Aside0.mk (blk_below (g := gb320) (o := .cells #[.int .i64 t315, .slice Ao35 t316.length co35] 39 (0, 0)) (by (with_reducible repeat (first | refine blk_drewN ?_ _ | refine blk_drew ?_ | refine blk_alloc ?_ _)); exact BK320.out) hb); have n6_ := Aside0.mk (Kd.C_below (by repeat (first | (with_reducible exact HR321_1.out) | (with_reducible refine Kd.C_alloc ?_ _) | (with_reducible refine Kd.C_drewN ?_ _) | (with_reducible refine Kd.C_drew ?_) | exact HR321_1.out)) hb); have n7_ := Aside0.mk (below_step (by repeat (first | (with_reducible first | exact HB.out | apply below_alloc | apply pw_below_drewN | apply below_drew1 | refine below_set ?_ GE320.out) | exact HB.out)) hb); have n8_ := Aside0.mk (hbox); have n9_ := Aside0.mk ((by rw [hg]; exact (below_size (by repeat (first | (with_reducible first | exact HB.out | apply below_alloc | apply pw_below_drewN | apply below_drew1 | refine below_set ?_ GE320.out) | exact HB.out))) : w.heap.size ≤ gb322)); have n10_ := Aside0.mk ((by rw [hg]; exact (below_size (by repeat (first | (with_reducible first | exact HB.out | apply below_alloc | apply pw_below_drewN | apply below_drew1 | refine below_set ?_ GE320.out) | exact HB.out))) : w.heap.size ≤ gb322)); have n11_ := Aside0.mk ((by rw [hg]; exact Nat.ne_of_lt (blk_lt (g := gb320) (o := .cells #[.int .i64 t315, .slice Ao35 t316.length co35] 39 (0, 0)) (by (with_reducible repeat (first | refine blk_drewN ?_ _ | refine blk_drew ?_ | refine blk_alloc ?_ _)); exact BK320.out)) : gb320 ≠ gb322)); have n12_ := Aside0.mk ((by rw [hg]; exact Nat.ne_of_gt (blk_lt (g := gb320) (o := .cells #[.int .i64 t315, .slice Ao35 t316.length co35] 39 (0, 0)) (by (with_reducible repeat (first | refine blk_drewN ?_ _ | refine blk_drew ?_ | refine blk_alloc ?_ _)); exact BK320.out)) : gb322 ≠ gb320)); clear HO_6; clear HO_9; clear HO_74; clear HO_321001; clear HL321_1; clear BK320; clear HR321_1; clear HB; have HO_6 := n0_; have HO_9 := n1_; have HO_74 := n2_; have HO_321001 := n3_; have HL321_1 := n4_; have BK320 := n5_; have HR321_1 := n6_; have HB := n7_; have BK322 := n8_; have GW322 := n9_; have GE322 := n10_; have NB320_322 := n11_; have NB322_320 := n12_; clear n0_ n1_ n2_ n3_ n4_ n5_ n6_ n7_ n8_ n9_ n10_ n11_ n12_; clear hb hbox hg; have hnb52 := NB322_320.out; have hnc52 := NB320_322.out; have hcz53_0 : w51.cell? ⟨gb322, 0, none⟩ = some (.int .i64 0) := (blk_cell BK322.out 0).trans rfl; have hcz53_1 : w51.cell? ⟨gb322, 1, none⟩ = some (.slice none 0 0) := (blk_cell BK322.out 1).trans rfl; have hfz53_0 := blk_frozen BK322.out 0; have hfz53_1 := blk_frozen BK322.out 1))
                                    have n0_ : Aside0 (Kd.R k56 56 ((w51.setCell ⟨gb322, 0, none⟩ (.int .i64 ((rd_T39 t305 x76_2).f0))).setCell ⟨gb322, 1, none⟩ (.slice A321_1 ((rd_T39 t305 x76_2).f1).length c321_1)) w.heap.size (fun _ => True) (.slice Ao16 t299.length co16) t299) := ⟨by (with_reducible repeat (first | apply Kd.R_alloc | apply Kd.R_drewN | apply Kd.R_drew)); exact Kd.R_mono (Kd.R_far (p := ⟨gb322, 1, none⟩) (Kd.R_far (p := ⟨gb322, 0, none⟩) (Kd.R_types HO_6.out BK322.out (by decide)) (fun _ hk => hk.2) (.int .i64 ((rd_T39 t305 x76_2).f0))) (fun _ hk => hk.2) (.slice A321_1 ((rd_T39 t305 x76_2).f1).length c321_1)) (fun _ hk => trivial)⟩
                                    have n1_ : Aside0 (Kd.S k39 39 ((w51.setCell ⟨gb322, 0, none⟩ (.int .i64 ((rd_T39 t305 x76_2).f0))).setCell ⟨gb322, 1, none⟩ (.slice A321_1 ((rd_T39 t305 x76_2).f1).length c321_1)) w.heap.size (fun k_ => some k_ ≠ (.slice Ao35 t316.length co35 : Value).ownBlock ∧ k_ ≠ gb320 ∧ k_ ≠ gb322) (.slice (some ad321) t305.length co36) t305) := ⟨by (with_reducible repeat (first | apply Kd.S_alloc | apply Kd.S_drewN | apply Kd.S_drew)); exact Kd.S_mono (Kd.S_far (p := ⟨gb322, 1, none⟩) (Kd.S_far (p := ⟨gb322, 0, none⟩) (Kd.S_mono HO_9.out (fun k_ hk => (⟨hk, hk.2⟩ : _ ∧ k_ ≠ gb322))) (fun _ hk => hk.2) (.int .i64 ((rd_T39 t305 x76_2).f0))) (fun _ hk => hk.2) (.slice A321_1 ((rd_T39 t305 x76_2).f1).length c321_1)) (fun _ hk => ⟨hk.1.1.1, ⟨hk.1.1.2, hk.1.2⟩⟩)⟩
                                    have n2_ : Aside0 (Kd.S k39 39 ((w51.setCell ⟨gb322, 0, none⟩ (.int .i64 ((rd_T39 t305 x76_2).f0))).setCell ⟨gb322, 1, none⟩ (.slice A321_1 ((rd_T39 t305 x76_2).f1).length c321_1)) w.heap.size (fun k_ => some k_ ≠ (.slice Ao35 t316.length co35 : Value).ownBlock ∧ k_ ≠ gb320 ∧ k_ ≠ gb322) (.slice (some ad321) t305.length co36) t305) := ⟨by (with_reducible repeat (first | apply Kd.S_alloc | apply Kd.S_drewN | apply Kd.S_drew)); exact Kd.S_mono (Kd.S_far (p := ⟨gb322, 1, none⟩) (Kd.S_far (p := ⟨gb322, 0, none⟩) (Kd.S_mono HO_74.out (fun k_ hk => (⟨hk, hk.2⟩ : _ ∧ k_ ≠ gb322))) (fun _ hk => hk.2) (.int .i64 ((rd_T39 t305 x76_2).f0))) (fun _ hk => hk.2) (.slice A321_1 ((rd_T39 t305 x76_2).f1).length c321_1)) (fun _ hk => ⟨hk.1.1.1, ⟨hk.1.1.2, hk.1.2⟩⟩)⟩
                                    have n3_ : Aside0 (Kd.R k51 51 ((w51.setCell ⟨gb322, 0, none⟩ (.int .i64 ((rd_T39 t305 x76_2).f0))).setCell ⟨gb322, 1, none⟩ (.slice A321_1 ((rd_T39 t305 x76_2).f1).length c321_1)) w.heap.size (fun _ => True) (.slice Ao35 t316.length co35) t316) := ⟨by (with_reducible repeat (first | apply Kd.R_alloc | apply Kd.R_drewN | apply Kd.R_drew)); exact Kd.R_mono (Kd.R_far (p := ⟨gb322, 1, none⟩) (Kd.R_far (p := ⟨gb322, 0, none⟩) (Kd.R_types HO_321001.out BK322.out (by decide)) (fun _ hk => hk.2) (.int .i64 ((rd_T39 t305 x76_2).f0))) (fun _ hk => hk.2) (.slice A321_1 ((rd_T39 t305 x76_2).f1).length c321_1)) (fun _ hk => trivial)⟩
                                    have n4_ : Aside0 (Kd.R k51 51 ((w51.setCell ⟨gb322, 0, none⟩ (.int .i64 ((rd_T39 t305 x76_2).f0))).setCell ⟨gb322, 1, none⟩ (.slice A321_1 ((rd_T39 t305 x76_2).f1).length c321_1)) w.heap.size (fun k_ => some k_ ≠ (.slice (some ad321) t305.length co36 : Value).ownBlock ∧ some k_ ≠ (.slice Ao35 t316.length co35 : Value).ownBlock ∧ k_ ≠ gb320) (.slice A321_1 ((rd_T39 t305 x76_2).f1).length c321_1) ((rd_T39 t305 x76_2).f1)) := ⟨by (with_reducible repeat (first | apply Kd.R_alloc | apply Kd.R_drewN | apply Kd.R_drew)); exact Kd.R_mono (Kd.R_far (p := ⟨gb322, 1, none⟩) (Kd.R_far (p := ⟨gb322, 0, none⟩) (Kd.R_types HL321_1.out BK322.out (by decide)) (fun _ hk => hk.2) (.int .i64 ((rd_T39 t305 x76_2).f0))) (fun _ hk => hk.2) (.slice A321_1 ((rd_T39 t305 x76_2).f1).length c321_1)) (fun _ hk => ⟨hk.1.2, ⟨hk.1.1.1, hk.1.1.2⟩⟩)⟩
                                    have n5_ : Aside0 (((w51.setCell ⟨gb322, 0, none⟩ (.int .i64 ((rd_T39 t305 x76_2).f0))).setCell ⟨gb322, 1, none⟩ (.slice A321_1 ((rd_T39 t305 x76_2).f1).length c321_1)).heap[gb320]? = some (.cells #[.int .i64 t315, .slice Ao35 t316.length co35] 39 (0, 0))) := ⟨by (with_reducible repeat (first | refine blk_drewN ?_ _ | refine blk_drew ?_ | refine blk_alloc ?_ _)); refine blk_far ?_ NB320_322.out _; (with_reducible repeat (first | refine blk_drewN ?_ _ | refine blk_drew ?_ | refine blk_alloc ?_ _)); refine blk_far ?_ NB320_322.out _; (with_reducible repeat (first | refine blk_drewN ?_ _ | refine blk_drew ?_ | refine blk_alloc ?_ _)); exact BK320.out⟩
                                    have n6_ : Aside0 (((w51.setCell ⟨gb322, 0, none⟩ (.int .i64 ((rd_T39 t305 x76_2).f0))).setCell ⟨gb322, 1, none⟩ (.slice A321_1 ((rd_T39 t305 x76_2).f1).length c321_1)).heap[gb322]? = some (.cells #[.int .i64 ((rd_T39 t305 x76_2).f0), .slice A321_1 ((rd_T39 t305 x76_2).f1).length c321_1] 39 (0, 0))) := ⟨by (with_reducible repeat (first | refine blk_drewN ?_ _ | refine blk_drew ?_ | refine blk_alloc ?_ _)); refine blk_put (cs := #[.int .i64 ((rd_T39 t305 x76_2).f0), .slice none 0 0]) ?_ 1 _ rfl; (with_reducible repeat (first | refine blk_drewN ?_ _ | refine blk_drew ?_ | refine blk_alloc ?_ _)); refine blk_put (cs := #[.int .i64 0, .slice none 0 0]) ?_ 0 _ rfl; (with_reducible repeat (first | refine blk_drewN ?_ _ | refine blk_drew ?_ | refine blk_alloc ?_ _)); exact BK322.out⟩
                                    have n7_ : Aside0 (Below w.heap.size w ((w51.setCell ⟨gb322, 0, none⟩ (.int .i64 ((rd_T39 t305 x76_2).f0))).setCell ⟨gb322, 1, none⟩ (.slice A321_1 ((rd_T39 t305 x76_2).f1).length c321_1))) := ⟨by repeat (first | (with_reducible first | exact HB.out | apply below_alloc | apply pw_below_drewN | apply below_drew1 | refine below_set ?_ GE320.out | refine below_set ?_ GE322.out) | exact HB.out)⟩
                                    (try clear HO_6)
                                    (try clear HO_9)
                                    (try clear HO_74)
                                    (try clear HO_321001)
                                    (try clear HL321_1)
                                    (try clear BK320)
                                    (try clear BK322)
                                    (try clear HB)
                                    generalize ((w51.setCell ⟨gb322, 0, none⟩ (.int .i64 ((rd_T39 t305 x76_2).f0))).setCell ⟨gb322, 1, none⟩ (.slice A321_1 ((rd_T39 t305 x76_2).f1).length c321_1)) = w54 at n0_ n1_ n2_ n3_ n4_ n5_ n6_ n7_ ⊢
                                    have HO_6 := n0_
                                    have HO_9 := n1_
                                    have HO_74 := n2_
                                    have HO_321001 := n3_
                                    have HL321_1 := n4_
                                    have BK320 := n5_
                                    have BK322 := n6_
                                    have HB := n7_
                                    clear n0_ n1_ n2_ n3_ n4_ n5_ n6_ n7_
                                    have n0_ := Aside0.mk (Kd.R_drew HO_6.out)
                                    have n1_ := Aside0.mk (Kd.S_drew HO_9.out)
                                    have n2_ := Aside0.mk (Kd.S_drew HO_74.out)
                                    have n3_ := Aside0.mk (Kd.R_drew HO_321001.out)
                                    have n4_ := Aside0.mk (Kd.R_drew HL321_1.out)
                                    have n5_ := Aside0.mk (blk_drew BK320.out)
                                    have n6_ := Aside0.mk (blk_drew BK322.out)
                                    have n7_ := Aside0.mk (below_drew1 HB.out)
                                    clear HO_6
                                    clear HO_9
                                    clear HO_74
                                    clear HO_321001
                                    clear HL321_1
                                    clear BK320
                                    clear BK322
                                    clear HB
                                    have HO_6 := n0_
                                    have HO_9 := n1_
                                    have HO_74 := n2_
                                    have HO_321001 := n3_
                                    have HL321_1 := n4_
                                    have BK320 := n5_
                                    have BK322 := n6_
                                    have HB := n7_
                                    clear n0_ n1_ n2_ n3_ n4_ n5_ n6_ n7_
                                    have p324 : 0 ≤ ((ji45) : Int) := of_decide_eq_true (by first | (with_reducible assumption) | assumption)
                                    have q324 : (ji45) < (t305.length : Int) := of_decide_eq_true (by first | (with_reducible assumption) | assumption)
                                    obtain ⟨ad324, A324_1, c324_1, e324, hx324_0, hx324_1, hl324_1, hi324_1⟩ := at_T39 (Kd.S_reads' HO_9.out).2.2 (ji45) p324 q324
                                    obtain rfl : ad321 = ad324 := (by injection e324)
                                    obtain ⟨ce324, hce324, hMe324, hcc324⟩ := Kd.S_get HO_9.out z39 (ji45) p324 (by first | exact q324 | exact of_decide_eq_true (by first | (with_reducible assumption) | assumption) | (have e_ := (Kd.S_reads' HO_9.out).1; omega))
                                    obtain ⟨ve324_1, rfl, ge324_1⟩ := k39_openM hMe324
                                    have hv324_1 := hcc324 1 _ rfl
                                    rw [add_field _ _ 1 (by omega)] at hv324_1
                                    replace hv324_1 := Option.some.inj (hv324_1.symm.trans hx324_1)
                                    rw [hv324_1] at ge324_1
                                    have HL324_1 := Aside0.mk (show Kd.R k51 51 _ _ _ _ ((rd_T39 t305 (ji45)).f1) from ge324_1)
                                    clear hv324_1 ge324_1
                                    clear hcc324 hce324
                                    have HR324_1 := Aside0.mk hi324_1
                                    have HC324_1 := Aside0.mk hl324_1
                                    clear hi324_1 hl324_1
                                    replace p324 := eq_true p324
                                    replace q324 := eq_true q324
                                    refine start_ (n := 33) (S := fun w' => w'.cell? ⟨gb322, 0, none⟩ = some (.int .i64 ((rd_T39 t305 x76_2).f0)) ∧ w'.cell? ⟨gb322, 1, none⟩ = some (.slice A321_1 ((rd_T39 t305 x76_2).f1).length c321_1) ∧ w'.cell? (ad321.add (((ji45)).toNat * 2)) = some (.int .i64 ((rd_T39 t305 (ji45)).f0)) ∧ w'.cell? ⟨(ad321.add (((ji45)).toNat * 2)).block, (ad321.add (((ji45)).toNat * 2)).off + 1, none⟩ = some (.slice A324_1 ((rd_T39 t305 (ji45)).f1).length c324_1)) (ds := []) #[false, false, false, false, false, false, false, false, false, false, false, false, false, false, false, false, false, false, false, false, false, false, false, false, false, false, false, false, false, false, false, false, false] (by kernel_rfl) rfl rfl ⟨(blk_cell BK322.out 0).trans rfl, (blk_cell BK322.out 1).trans rfl, hx324_0, hx324_1⟩ (fun hHeld => ?_); refine with_tabW storagebarterlaw30_DeviationAll.tab15 storagebarterlaw30_DeviationAll.bits15 (fun HT_ HW_ => ?_)
                                    generalize w54.drew = w55 at HO_6 HO_9 HO_74 HO_321001 HL321_1 BK320 BK322 HB HL324_1 HR324_1 hx324_0 hx324_1 hHeld ⊢
                                    refine pure_ (i := 0) (N := some 81) (v := ?_) (a' := ?_) #[true, false, false, false, false, false, false, false, false, false, false, false, false, false, false, false, false, false, false, false, false, false, false, false, false, false, false, false, false, false, false, false, false] rfl rfl (any_of HT_.out (by kernel_rfl)) (fun _ _ _ h => h) (Or.inl ⟨by rfl, ?_⟩) ?_ ?_
                                    rotate_left
                                    · intro w'
                                      go_simp
                                      with_reducible rfl
                                    rotate_left
                                    · simp only [Act.put, List.setIfInBounds_toArray, List.set_cons_zero, List.set_cons_succ, i64_w, i32_w]
                                      rfl
                                    refine take_ (i := 1) (N := some 82) (v := ?_) (a' := ?_) #[true, true, false, false, false, false, false, false, false, false, false, false, false, false, false, false, false, false, false, false, false, false, false, false, false, false, false, false, false, false, false, false, false] rfl rfl (take_ofW HT_.out HW_.out (by kernel_rfl)) (fun _ _ _ h => h) (Or.inl ⟨by rfl, ?_⟩) hHeld ?_ ?_
                                    rotate_left
                                    · rintro w' ⟨s0, s1, s2, s3⟩
                                      go_simp
                                      with_reducible rfl
                                    rotate_left
                                    · simp only [Act.put, List.setIfInBounds_toArray, List.set_cons_zero, List.set_cons_succ, i64_w, i32_w]
                                      rfl
                                    refine one_ (i := 2) (N := some 83) #[true, true, true, false, false, false, false, false, false, false, false, false, false, false, false, false, false, false, false, false, false, false, false, false, false, false, false, false, false, false, false, false, false] rfl rfl (one_of HT_.out (by kernel_rfl)) (by decide) (fun K hK => ?_)
                                    refine goes_ Tryd.func18 (by kernel_rfl) rfl #[.slice Ao16 t299.length co16, .agg #[.int .i64 ((rd_T39 t305 x76_2).f0), .slice A321_1 ((rd_T39 t305 x76_2).f1).length c321_1]] (by rfl) rfl rfl (by (try simp only [List.map_toArray, List.map_cons, List.map_nil]); first | done | rfl | (simp only [List.length_drop, List.length_take]; rfl)) ?_
                                    with_reducible refine (deviation_Valid.calls _ _ t299 ((rd_T39 t305 x76_2).f0) _ _ ((rd_T39 t305 x76_2).f1) true _ ?side1 ?side2 ?side3 ?side4 A40.out (by first | exact HL_.out | exact laid_below HL_.out (by repeat (first | (with_reducible first | exact HB.out | apply below_alloc | apply pw_below_drewN | apply below_drew1) | refine below_set ?_ (Aside0.out (by assumption)) | exact HB.out)) | exact laid_drawn HL_.out HD.out | exact laid_drawn HL_.out (HD.out.step _))).mono ?_
                                    (case side1 => repeat (first | exact (Kd.R_reads' HO_6.out).2.2 | (with_reducible refine Kd.C_alloc ?_ _) | (with_reducible refine Kd.C_drewN ?_ _) | (with_reducible refine Kd.C_drew ?_)))
                                    (case side2 => exact (Kd.R_reads' HO_6.out).2.1)
                                    (case side3 => repeat (first | exact ((Kd.R_reads' (by (with_reducible repeat (first | apply Kd.R_alloc | apply Kd.R_drewN | apply Kd.R_drew)); exact HL321_1.out)).2.2) | (with_reducible refine Kd.C_alloc ?_ _) | (with_reducible refine Kd.C_drewN ?_ _) | (with_reducible refine Kd.C_drew ?_)))
                                    (case side4 => exact HC321_1.out)
                                    rintro e w56 ⟨rfl, hb⟩
                                    have HS2_ := (hb.cell (World.block_lt_of_cell? _ _ (hHeld.2.2.1))).trans (hHeld.2.2.1)
                                    have HS3_ := (hb.cell (World.block_lt_of_cell? _ _ (hHeld.2.2.2))).trans (hHeld.2.2.2)
                                    refine ⟨_, rfl, ?_⟩
                                    have HR324_1 := Aside0.mk (Kd.C_below HR324_1.out hb)
                                    have HL324_1 := Aside0.mk (Kd.R_below HL324_1.out hb)
                                    have n0_ := Aside0.mk (Kd.R_below (by (with_reducible repeat (first | apply Kd.R_alloc | apply Kd.R_drewN | apply Kd.R_drew)); exact HO_6.out) hb)
                                    have n1_ := Aside0.mk (Kd.S_below (by (with_reducible repeat (first | apply Kd.S_alloc | apply Kd.S_drewN | apply Kd.S_drew)); exact HO_9.out) hb)
                                    have n2_ := Aside0.mk (Kd.S_below (by (with_reducible repeat (first | apply Kd.S_alloc | apply Kd.S_drewN | apply Kd.S_drew)); exact HO_74.out) hb)
                                    have n3_ := Aside0.mk (Kd.R_below (by (with_reducible repeat (first | apply Kd.R_alloc | apply Kd.R_drewN | apply Kd.R_drew)); exact HO_321001.out) hb)
                                    have n4_ := Aside0.mk (Kd.R_below (by (with_reducible repeat (first | apply Kd.R_alloc | apply Kd.R_drewN | apply Kd.R_drew)); exact HL321_1.out) hb)
                                    have n5_ := Aside0.mk (blk_below (g := gb320) (o := .cells #[.int .i64 t315, .slice Ao35 t316.length co35] 39 (0, 0)) (by (with_reducible repeat (first | refine blk_drewN ?_ _ | refine blk_drew ?_ | refine blk_alloc ?_ _)); exact BK320.out) hb)
                                    have n6_ := Aside0.mk (blk_below (g := gb322) (o := .cells #[.int .i64 ((rd_T39 t305 x76_2).f0), .slice A321_1 ((rd_T39 t305 x76_2).f1).length c321_1] 39 (0, 0)) (by (with_reducible repeat (first | refine blk_drewN ?_ _ | refine blk_drew ?_ | refine blk_alloc ?_ _)); exact BK322.out) hb)
                                    have n7_ := Aside0.mk (below_step (by repeat (first | (with_reducible first | exact HB.out | apply below_alloc | apply pw_below_drewN | apply below_drew1 | refine below_set ?_ GE320.out | refine below_set ?_ GE322.out) | exact HB.out)) hb)
                                    clear HO_6
                                    clear HO_9
                                    clear HO_74
                                    clear HO_321001
                                    clear HL321_1
                                    clear BK320
                                    clear BK322
                                    clear HB
                                    have HO_6 := n0_
                                    have HO_9 := n1_
                                    have HO_74 := n2_
                                    have HO_321001 := n3_
                                    have HL321_1 := n4_
                                    have BK320 := n5_
                                    have BK322 := n6_
                                    have HB := n7_
                                    clear n0_ n1_ n2_ n3_ n4_ n5_ n6_ n7_
                                    (try clear hb)
                                    (try clear hb2)
                                    (try clear hk)
                                    (try clear hi)
                                    (try clear hgw)
                                    refine hK.out _ _ ⟨(blk_cell BK322.out 0).trans rfl, (blk_cell BK322.out 1).trans rfl, HS2_, HS3_⟩ (fun hHeld => ?_)
                                    clear hK K
                                    refine norm_ (a' := ?_) ?_ ?_
                                    rotate_left
                                    · show Act.put _ (some 83) _ = _
                                      simp only [Act.put, List.setIfInBounds_toArray, List.set_cons_zero, List.set_cons_succ, i64_w, i32_w]
                                      rfl
                                    refine pure_ (i := 3) (N := some 84) (v := ?_) (a' := ?_) #[true, true, true, true, false, false, false, false, false, false, false, false, false, false, false, false, false, false, false, false, false, false, false, false, false, false, false, false, false, false, false, false, false] rfl rfl (any_of HT_.out (by kernel_rfl)) (fun _ _ _ h => h) (Or.inl ⟨by rfl, ?_⟩) ?_ ?_
                                    rotate_left
                                    · intro w'
                                      go_simp
                                      with_reducible rfl
                                    rotate_left
                                    · simp only [Act.put, List.setIfInBounds_toArray, List.set_cons_zero, List.set_cons_succ, i64_w, i32_w]
                                      rfl
                                    refine pure_ (i := 4) (N := some 85) (v := ?_) (a' := ?_) #[true, true, true, true, true, false, false, false, false, false, false, false, false, false, false, false, false, false, false, false, false, false, false, false, false, false, false, false, false, false, false, false, false] rfl rfl (any_of HT_.out (by kernel_rfl)) (fun _ _ _ h => h) (Or.inl ⟨by rfl, ?_⟩) ?_ ?_
                                    rotate_left
                                    · intro w'
                                      go_simp
                                      with_reducible rfl
                                    rotate_left
                                    · simp only [Act.put, List.setIfInBounds_toArray, List.set_cons_zero, List.set_cons_succ, i64_w, i32_w]
                                      rfl
                                    refine pure_ (i := 5) (N := some 86) (v := ?_) (a' := ?_) #[true, true, true, true, true, true, false, false, false, false, false, false, false, false, false, false, false, false, false, false, false, false, false, false, false, false, false, false, false, false, false, false, false] rfl rfl (any_of HT_.out (by kernel_rfl)) (fun _ _ _ h => h) (Or.inl ⟨by rfl, ?_⟩) ?_ ?_
                                    rotate_left
                                    · intro w'
                                      go_simp
                                      with_reducible rfl
                                    rotate_left
                                    · simp only [Act.put, List.setIfInBounds_toArray, List.set_cons_zero, List.set_cons_succ, i64_w, i32_w]
                                      rfl
                                    refine pure_ (i := 7) (N := some 88) (v := ?_) (a' := ?_) #[true, true, true, true, true, true, false, true, false, false, false, false, false, false, false, false, false, false, false, false, false, false, false, false, false, false, false, false, false, false, false, false, false] rfl rfl (any_of HT_.out (by kernel_rfl)) (fun _ _ _ h => h) (Or.inl ⟨by rfl, ?_⟩) ?_ ?_
                                    rotate_left
                                    · intro w'
                                      go_simp
                                      with_reducible rfl
                                    rotate_left
                                    · simp only [Act.put, List.setIfInBounds_toArray, List.set_cons_zero, List.set_cons_succ, i64_w, i32_w]
                                      rfl
                                    refine take_ (i := 6) (N := some 87) (v := ?_) (a' := ?_) #[true, true, true, true, true, true, true, true, false, false, false, false, false, false, false, false, false, false, false, false, false, false, false, false, false, false, false, false, false, false, false, false, false] rfl rfl (take_ofW HT_.out HW_.out (by kernel_rfl)) (fun _ _ _ h => h) (Or.inl ⟨by rfl, ?_⟩) hHeld ?_ ?_
                                    rotate_left
                                    · rintro w' ⟨s0, s1, s2, s3⟩
                                      go_simp
                                      with_reducible rfl
                                    rotate_left
                                    · simp only [Act.put, List.setIfInBounds_toArray, List.set_cons_zero, List.set_cons_succ, i64_w, i32_w]
                                      rfl
                                    refine pure_ (i := 8) (N := some 89) (v := ?_) (a' := ?_) #[true, true, true, true, true, true, true, true, true, false, false, false, false, false, false, false, false, false, false, false, false, false, false, false, false, false, false, false, false, false, false, false, false] rfl rfl (any_of HT_.out (by kernel_rfl)) (fun _ _ _ h => h) (Or.inl ⟨by rfl, ?_⟩) ?_ ?_
                                    rotate_left
                                    · intro w'
                                      go_simp
                                      with_reducible rfl
                                    rotate_left
                                    · simp only [Act.put, List.setIfInBounds_toArray, List.set_cons_zero, List.set_cons_succ, i64_w, i32_w]
                                      rfl
                                    refine pure_ (i := 9) (N := some 90) (v := ?_) (a' := ?_) #[true, true, true, true, true, true, true, true, true, true, false, false, false, false, false, false, false, false, false, false, false, false, false, false, false, false, false, false, false, false, false, false, false] rfl rfl (any_of HT_.out (by kernel_rfl)) (fun _ _ _ h => h) (Or.inl ⟨by rfl, ?_⟩) ?_ ?_
                                    rotate_left
                                    · intro w'
                                      go_simp
                                      with_reducible rfl
                                    rotate_left
                                    · simp only [Act.put, List.setIfInBounds_toArray, List.set_cons_zero, List.set_cons_succ, i64_w, i32_w]
                                      rfl
                                    refine pure_ (i := 10) (N := some 91) (v := ?_) (a' := ?_) #[true, true, true, true, true, true, true, true, true, true, true, false, false, false, false, false, false, false, false, false, false, false, false, false, false, false, false, false, false, false, false, false, false] rfl rfl (any_of HT_.out (by kernel_rfl)) (fun _ _ _ h => h) (Or.inl ⟨by rfl, ?_⟩) ?_ ?_
                                    rotate_left
                                    · intro w'
                                      go_simp
                                      with_reducible rfl
                                    rotate_left
                                    · simp only [Act.put, List.setIfInBounds_toArray, List.set_cons_zero, List.set_cons_succ, i64_w, i32_w]
                                      rfl
                                    refine pure_ (i := 11) (N := some 92) (v := ?_) (a' := ?_) #[true, true, true, true, true, true, true, true, true, true, true, true, false, false, false, false, false, false, false, false, false, false, false, false, false, false, false, false, false, false, false, false, false] rfl rfl (any_of HT_.out (by kernel_rfl)) (fun _ _ _ h => h) (Or.inl ⟨by rfl, ?_⟩) ?_ ?_
                                    rotate_left
                                    · intro w'
                                      go_simp
                                      with_reducible rfl
                                    rotate_left
                                    · simp only [Act.put, List.setIfInBounds_toArray, List.set_cons_zero, List.set_cons_succ, i64_w, i32_w]
                                      rfl
                                    refine pure_ (i := 14) (N := some 95) (v := ?_) (a' := ?_) #[true, true, true, true, true, true, true, true, true, true, true, true, false, false, true, false, false, false, false, false, false, false, false, false, false, false, false, false, false, false, false, false, false] rfl rfl (any_of HT_.out (by kernel_rfl)) (fun _ _ _ h => h) (Or.inl ⟨by rfl, ?_⟩) ?_ ?_
                                    rotate_left
                                    · intro w'
                                      go_simp
                                      with_reducible rfl
                                    rotate_left
                                    · simp only [Act.put, List.setIfInBounds_toArray, List.set_cons_zero, List.set_cons_succ, i64_w, i32_w]
                                      rfl
                                    refine take_ (i := 12) (N := some 93) (v := ?_) (a' := ?_) #[true, true, true, true, true, true, true, true, true, true, true, true, true, false, true, false, false, false, false, false, false, false, false, false, false, false, false, false, false, false, false, false, false] rfl rfl (take_ofW HT_.out HW_.out (by kernel_rfl)) (fun _ _ _ h => h) (Or.inl ⟨by rfl, ?_⟩) hHeld ?_ ?_
                                    rotate_left
                                    · rintro w' ⟨s0, s1, s2, s3⟩
                                      go_simp
                                      with_reducible rfl
                                    rotate_left
                                    · simp only [Act.put, List.setIfInBounds_toArray, List.set_cons_zero, List.set_cons_succ, i64_w, i32_w]
                                      rfl
                                    refine pure_ (i := 13) (N := some 94) (v := ?_) (a' := ?_) #[true, true, true, true, true, true, true, true, true, true, true, true, true, true, true, false, false, false, false, false, false, false, false, false, false, false, false, false, false, false, false, false, false] rfl rfl (any_of HT_.out (by kernel_rfl)) (fun _ _ _ h => h) (Or.inl ⟨by rfl, ?_⟩) ?_ ?_
                                    rotate_left
                                    · intro w'
                                      go_simp
                                      with_reducible rfl
                                    rotate_left
                                    · simp only [Act.put, List.setIfInBounds_toArray, List.set_cons_zero, List.set_cons_succ, i64_w, i32_w]
                                      rfl
                                    refine pure_ (i := 15) (N := some 96) (v := ?_) (a' := ?_) #[true, true, true, true, true, true, true, true, true, true, true, true, true, true, true, true, false, false, false, false, false, false, false, false, false, false, false, false, false, false, false, false, false] rfl rfl (any_of HT_.out (by kernel_rfl)) (fun _ _ _ h => h) (Or.inl ⟨by rfl, ?_⟩) ?_ ?_
                                    rotate_left
                                    · intro w'
                                      go_simp
                                      with_reducible rfl
                                    rotate_left
                                    · simp only [Act.put, List.setIfInBounds_toArray, List.set_cons_zero, List.set_cons_succ, i64_w, i32_w]
                                      rfl
                                    refine pure_ (i := 16) (N := some 97) (v := ?_) (a' := ?_) #[true, true, true, true, true, true, true, true, true, true, true, true, true, true, true, true, true, false, false, false, false, false, false, false, false, false, false, false, false, false, false, false, false] rfl rfl (any_of HT_.out (by kernel_rfl)) (fun _ _ _ h => h) (Or.inl ⟨by rfl, ?_⟩) ?_ ?_
                                    rotate_left
                                    · intro w'
                                      go_simp
                                      with_reducible rfl
                                    rotate_left
                                    · simp only [Act.put, List.setIfInBounds_toArray, List.set_cons_zero, List.set_cons_succ, i64_w, i32_w]
                                      rfl
                                    refine pure_ (i := 17) (N := some 98) (v := ?_) (a' := ?_) #[true, true, true, true, true, true, true, true, true, true, true, true, true, true, true, true, true, true, false, false, false, false, false, false, false, false, false, false, false, false, false, false, false] rfl rfl (any_of HT_.out (by kernel_rfl)) (fun _ _ _ h => h) (Or.inl ⟨by rfl, ?_⟩) ?_ ?_
                                    rotate_left
                                    · intro w'
                                      go_simp
                                      with_reducible rfl
                                    rotate_left
                                    · simp only [Act.put, List.setIfInBounds_toArray, List.set_cons_zero, List.set_cons_succ, i64_w, i32_w]
                                      rfl
                                    refine pure_ (i := 18) (N := some 99) (v := ?_) (a' := ?_) #[true, true, true, true, true, true, true, true, true, true, true, true, true, true, true, true, true, true, true, false, false, false, false, false, false, false, false, false, false, false, false, false, false] rfl rfl (any_of HT_.out (by kernel_rfl)) (fun _ _ _ h => h) (Or.inl ⟨by rfl, ?_⟩) ?_ ?_
                                    rotate_left
                                    · intro w'
                                      go_simp
                                      with_reducible rfl
                                    rotate_left
                                    · simp only [Act.put, List.setIfInBounds_toArray, List.set_cons_zero, List.set_cons_succ, i64_w, i32_w]
                                      rfl
                                    refine pure_ (i := 19) (N := some 100) (v := ?_) (a' := ?_) #[true, true, true, true, true, true, true, true, true, true, true, true, true, true, true, true, true, true, true, true, false, false, false, false, false, false, false, false, false, false, false, false, false] rfl rfl (any_of HT_.out (by kernel_rfl)) (fun _ _ _ h => h) (Or.inl ⟨by rfl, ?_⟩) ?_ ?_
                                    rotate_left
                                    · intro w'
                                      go_simp
                                      with_reducible rfl
                                    rotate_left
                                    · simp only [Act.put, List.setIfInBounds_toArray, List.set_cons_zero, List.set_cons_succ, i64_w, i32_w]
                                      rfl
                                    refine pure_ (i := 20) (N := some 101) (v := ?_) (a' := ?_) #[true, true, true, true, true, true, true, true, true, true, true, true, true, true, true, true, true, true, true, true, true, false, false, false, false, false, false, false, false, false, false, false, false] rfl rfl (any_of HT_.out (by kernel_rfl)) (fun _ _ _ h => h) (Or.inl ⟨by rfl, ?_⟩) ?_ ?_
                                    rotate_left
                                    · intro w'
                                      go_simp
                                      with_reducible rfl
                                    rotate_left
                                    · simp only [Act.put, List.setIfInBounds_toArray, List.set_cons_zero, List.set_cons_succ, i64_w, i32_w]
                                      rfl
                                    refine pure_ (i := 21) (N := some 102) (v := ?_) (a' := ?_) #[true, true, true, true, true, true, true, true, true, true, true, true, true, true, true, true, true, true, true, true, true, true, false, false, false, false, false, false, false, false, false, false, false] rfl rfl (any_of HT_.out (by kernel_rfl)) (fun _ _ _ h => h) (Or.inl ⟨by rfl, ?_⟩) ?_ ?_
                                    rotate_left
                                    · intro w'
                                      go_simp
                                      with_reducible rfl
                                    rotate_left
                                    · simp only [Act.put, List.setIfInBounds_toArray, List.set_cons_zero, List.set_cons_succ, i64_w, i32_w]
                                      rfl
                                    refine pure_ (i := 22) (N := some 103) (v := ?_) (a' := ?_) #[true, true, true, true, true, true, true, true, true, true, true, true, true, true, true, true, true, true, true, true, true, true, true, false, false, false, false, false, false, false, false, false, false] rfl rfl (any_of HT_.out (by kernel_rfl)) (fun _ _ _ h => h) (Or.inl ⟨by rfl, ?_⟩) ?_ ?_
                                    rotate_left
                                    · intro w'
                                      go_simp
                                      with_reducible rfl
                                    rotate_left
                                    · simp only [Act.put, List.setIfInBounds_toArray, List.set_cons_zero, List.set_cons_succ, i64_w, i32_w]
                                      rfl
                                    refine pure_ (i := 23) (N := some 104) (v := ?_) (a' := ?_) #[true, true, true, true, true, true, true, true, true, true, true, true, true, true, true, true, true, true, true, true, true, true, true, true, false, false, false, false, false, false, false, false, false] rfl rfl (any_of HT_.out (by kernel_rfl)) (fun _ _ _ h => h) (Or.inl ⟨by rfl, ?_⟩) ?_ ?_
                                    rotate_left
                                    · intro w'
                                      go_simp
                                      with_reducible rfl
                                    rotate_left
                                    · simp only [Act.put, List.setIfInBounds_toArray, List.set_cons_zero, List.set_cons_succ, i64_w, i32_w]
                                      rfl
                                    refine pure_ (i := 24) (N := some 105) (v := ?_) (a' := ?_) #[true, true, true, true, true, true, true, true, true, true, true, true, true, true, true, true, true, true, true, true, true, true, true, true, true, false, false, false, false, false, false, false, false] rfl rfl (any_of HT_.out (by kernel_rfl)) (fun _ _ _ h => h) (Or.inl ⟨by rfl, ?_⟩) ?_ ?_
                                    rotate_left
                                    · intro w'
                                      go_simp
                                      with_reducible rfl
                                    rotate_left
                                    · simp only [Act.put, List.setIfInBounds_toArray, List.set_cons_zero, List.set_cons_succ, i64_w, i32_w]
                                      rfl
                                    refine pure_ (i := 25) (N := some 106) (v := ?_) (a' := ?_) #[true, true, true, true, true, true, true, true, true, true, true, true, true, true, true, true, true, true, true, true, true, true, true, true, true, true, false, false, false, false, false, false, false] rfl rfl (any_of HT_.out (by kernel_rfl)) (fun _ _ _ h => h) (Or.inl ⟨by rfl, ?_⟩) ?_ ?_
                                    rotate_left
                                    · intro w'
                                      go_simp
                                      with_reducible rfl
                                    rotate_left
                                    · simp only [Act.put, List.setIfInBounds_toArray, List.set_cons_zero, List.set_cons_succ, i64_w, i32_w]
                                      rfl
                                    refine pure_ (i := 27) (N := some 108) (v := ?_) (a' := ?_) #[true, true, true, true, true, true, true, true, true, true, true, true, true, true, true, true, true, true, true, true, true, true, true, true, true, true, false, true, false, false, false, false, false] rfl rfl (any_of HT_.out (by kernel_rfl)) (fun _ _ _ h => h) (Or.inl ⟨by rfl, ?_⟩) ?_ ?_
                                    rotate_left
                                    · intro w'
                                      go_simp
                                      with_reducible rfl
                                    rotate_left
                                    · simp only [Act.put, List.setIfInBounds_toArray, List.set_cons_zero, List.set_cons_succ, i64_w, i32_w]
                                      rfl
                                    refine take_ (i := 26) (N := some 107) (v := ?_) (a' := ?_) #[true, true, true, true, true, true, true, true, true, true, true, true, true, true, true, true, true, true, true, true, true, true, true, true, true, true, true, true, false, false, false, false, false] rfl rfl (take_ofW HT_.out HW_.out (by kernel_rfl)) (fun _ _ _ h => h) (Or.inl ⟨by rfl, ?_⟩) hHeld ?_ ?_
                                    rotate_left
                                    · rintro w' ⟨s0, s1, s2, s3⟩
                                      go_simp
                                      with_reducible rfl
                                    rotate_left
                                    · simp only [Act.put, List.setIfInBounds_toArray, List.set_cons_zero, List.set_cons_succ, i64_w, i32_w]
                                      rfl
                                    refine take_ (i := 28) (N := some 109) (v := ?_) (a' := ?_) #[true, true, true, true, true, true, true, true, true, true, true, true, true, true, true, true, true, true, true, true, true, true, true, true, true, true, true, true, true, false, false, false, false] rfl rfl (take_ofW HT_.out HW_.out (by kernel_rfl)) (fun _ _ _ h => h) (Or.inl ⟨by rfl, ?_⟩) hHeld ?_ ?_
                                    rotate_left
                                    · rintro w' ⟨s0, s1, s2, s3⟩
                                      go_simp
                                      with_reducible rfl
                                    rotate_left
                                    · simp only [Act.put, List.setIfInBounds_toArray, List.set_cons_zero, List.set_cons_succ, i64_w, i32_w]
                                      rfl
                                    refine one_ (i := 29) (N := some 110) #[true, true, true, true, true, true, true, true, true, true, true, true, true, true, true, true, true, true, true, true, true, true, true, true, true, true, true, true, true, true, false, false, false] rfl rfl (one_of HT_.out (by kernel_rfl)) (by decide) (fun K hK => ?_)
                                    refine goes_ Tryd.func19 (by kernel_rfl) rfl #[.slice A324_1 ((rd_T39 t305 (ji45)).f1).length c324_1, .slice A321_1 ((rd_T39 t305 x76_2).f1).length c321_1] (by rfl) rfl rfl (by (try simp only [List.map_toArray, List.map_cons, List.map_nil]); first | done | (simp only [hji45]; rfl) | rfl | (simp only [List.length_drop, List.length_take]; rfl)) ?_
                                    with_reducible refine (storagebarterlaw30_before.calls k2 _ _ ((rd_T39 t305 (ji45)).f1) _ _ ((rd_T39 t305 x76_2).f1) true _ ?side1 ?side2 ?side3 ?side4 A48.out).mono ?_
                                    (case side1 => repeat (first | exact (by repeat (first | (with_reducible exact HR324_1.out) | (with_reducible refine Kd.C_alloc ?_ _) | (with_reducible refine Kd.C_drewN ?_ _) | (with_reducible refine Kd.C_drew ?_) | exact HR324_1.out)) | (with_reducible refine Kd.C_alloc ?_ _) | (with_reducible refine Kd.C_drewN ?_ _) | (with_reducible refine Kd.C_drew ?_)))
                                    (case side2 => exact HC324_1.out)
                                    (case side3 => repeat (first | exact ((Kd.R_reads' (by (with_reducible repeat (first | apply Kd.R_alloc | apply Kd.R_drewN | apply Kd.R_drew)); exact HL321_1.out)).2.2) | (with_reducible refine Kd.C_alloc ?_ _) | (with_reducible refine Kd.C_drewN ?_ _) | (with_reducible refine Kd.C_drew ?_)))
                                    (case side4 => exact HC321_1.out)
                                    rintro e w' ⟨rfl, ⟨nd, rfl⟩⟩
                                    refine ⟨_, rfl, ?_⟩
                                    refine hK.out _ _ ⟨(blk_cell BK322.out 0).trans rfl, (blk_cell BK322.out 1).trans rfl, hHeld.2.2.1, hHeld.2.2.2⟩ (fun hHeld => ?_)
                                    clear hK K
                                    refine norm_ (a' := ?_) ?_ ?_
                                    rotate_left
                                    · show Act.put _ (some 110) _ = _
                                      simp only [Act.put, List.setIfInBounds_toArray, List.set_cons_zero, List.set_cons_succ, i64_w, i32_w]
                                      rfl
                                    refine pure_ (i := 30) (N := some 111) (v := ?_) (a' := ?_) #[true, true, true, true, true, true, true, true, true, true, true, true, true, true, true, true, true, true, true, true, true, true, true, true, true, true, true, true, true, true, true, false, false] rfl rfl (any_of HT_.out (by kernel_rfl)) (fun _ _ _ h => h) (Or.inl ⟨by rfl, ?_⟩) ?_ ?_
                                    rotate_left
                                    · intro w'
                                      go_simp
                                      with_reducible rfl
                                    rotate_left
                                    · simp only [Act.put, List.setIfInBounds_toArray, List.set_cons_zero, List.set_cons_succ, i64_w, i32_w]
                                      rfl
                                    refine pure_ (i := 31) (N := some 112) (v := ?_) (a' := ?_) #[true, true, true, true, true, true, true, true, true, true, true, true, true, true, true, true, true, true, true, true, true, true, true, true, true, true, true, true, true, true, true, true, false] rfl rfl (any_of HT_.out (by kernel_rfl)) (fun _ _ _ h => h) (Or.inl ⟨by rfl, ?_⟩) ?_ ?_
                                    rotate_left
                                    · intro w'
                                      go_simp
                                      with_reducible rfl
                                    rotate_left
                                    · simp only [Act.put, List.setIfInBounds_toArray, List.set_cons_zero, List.set_cons_succ, i64_w, i32_w]
                                      rfl
                                    refine pure_ (i := 32) (N := some 113) (v := ?_) (a' := ?_) #[true, true, true, true, true, true, true, true, true, true, true, true, true, true, true, true, true, true, true, true, true, true, true, true, true, true, true, true, true, true, true, true, true] rfl rfl (any_of HT_.out (by kernel_rfl)) (fun _ _ _ h => h) (Or.inl ⟨by rfl, ?_⟩) ?_ ?_
                                    rotate_left
                                    · intro w'
                                      go_simp
                                      with_reducible rfl
                                    rotate_left
                                    · simp only [Act.put, List.setIfInBounds_toArray, List.set_cons_zero, List.set_cons_succ, i64_w, i32_w]
                                      rfl
                                    refine done_ (done_of HT_.out (by kernel_rfl)) ?_
                                    try go_wp2
                                    go_roundg k2
                                    case measure => have := HJ10.out; have := HK2.out; omega
                                    case rel => exact ⟨(true), (wrap64 (x76_2 + 1)), (by first | rfl | (simp; done) | (simp [*]; done)), (by first | rfl | (simp; done) | (simp [*]; done)), H', ⟨by have := HJ10.out; have := HK2.out; omega⟩, ⟨by (with_reducible repeat (first | apply Kd.R_alloc | apply Kd.R_drewN | apply Kd.R_drew)); exact HO_6.out⟩, ⟨by (with_reducible repeat (first | apply Kd.S_alloc | apply Kd.S_drewN | apply Kd.S_drew)); exact Kd.S_mono HO_9.out (fun _ hk => ⟨hk.1, hk.2.1⟩)⟩, ⟨by (with_reducible repeat (first | apply Kd.S_alloc | apply Kd.S_drewN | apply Kd.S_drew)); exact Kd.S_mono HO_74.out (fun _ hk => ⟨hk.1, hk.2.1⟩)⟩, ⟨by (with_reducible repeat (first | apply Kd.R_alloc | apply Kd.R_drewN | apply Kd.R_drew)); exact HO_321001.out⟩, ⟨by (with_reducible repeat (first | refine blk_drewN ?_ _ | refine blk_drew ?_ | refine blk_alloc ?_ _)); exact BK320.out⟩, ⟨by repeat (first | (with_reducible first | exact HB.out | apply below_alloc | apply pw_below_drewN | apply below_drew1 | refine below_set ?_ GE320.out | refine below_set ?_ GE322.out) | exact HB.out)⟩⟩
                                  · replace c50 := Bool.eq_false_iff.mpr c50
                                    subst c50
                                    have H1 : ((deviation_Same.f k2 ((rd_T39 t305 x76_2).f0) ((rd_T39 t305 x76_2).f1) t315 t316).bind fun t326 => (storagebarterlaw30_DeviationAll.l0 k2 t299 (wrap64 (1 + t303)) (Int.tmod (wrap64 (a1)) 3) t305 t326 t305 (t305.length : Int) (wrap64 (x76_2 + 1)) t315 t316)) = some r := by rw [if_neg (show ¬ (false = true) by decide)] at H; exact H
                                    clear H
                                    have H := H1
                                    clear H1
                                    replace H := Option.bind_eq_some_iff.mp H
                                    obtain ⟨t326, A570, H⟩ := H
                                    replace H : (storagebarterlaw30_DeviationAll.l0 k2 t299 (wrap64 (1 + t303)) (Int.tmod (wrap64 (a1)) 3) t305 t326 t305 (t305.length : Int) (wrap64 (x76_2 + 1)) t315 t316) = some r := H
                                    have A57 := Aside0.mk A570
                                    clear A570
                                    have H' := Aside0.mk H
                                    clear H
                                    have p321 : 0 ≤ (x76_2 : Int) := of_decide_eq_true (by first | (with_reducible assumption) | assumption)
                                    have q321 : x76_2 < (t305.length : Int) := of_decide_eq_true (by first | (with_reducible assumption) | assumption)
                                    obtain ⟨ad321, A321_1, c321_1, e321, hx321_0, hx321_1, hl321_1, hi321_1⟩ := at_T39 (Kd.S_reads' HO_74.out).2.2 x76_2 p321 q321
                                    cases e321
                                    obtain ⟨ce321, hce321, hMe321, hcc321⟩ := Kd.S_get HO_74.out z39 x76_2 p321 (by first | exact q321 | exact of_decide_eq_true (by first | (with_reducible assumption) | assumption) | (have e_ := (Kd.S_reads' HO_74.out).1; omega))
                                    obtain ⟨ve321_1, rfl, ge321_1⟩ := k39_openM hMe321
                                    have hv321_1 := hcc321 1 _ rfl
                                    rw [add_field _ _ 1 (by omega)] at hv321_1
                                    replace hv321_1 := Option.some.inj (hv321_1.symm.trans hx321_1)
                                    rw [hv321_1] at ge321_1
                                    have HL321_1 := Aside0.mk (show Kd.R k51 51 _ _ _ _ ((rd_T39 t305 x76_2).f1) from ge321_1)
                                    clear hv321_1 ge321_1
                                    clear hcc321 hce321
                                    have HR321_1 := Aside0.mk hi321_1
                                    have HC321_1 := Aside0.mk hl321_1
                                    clear hi321_1 hl321_1
                                    replace p321 := eq_true p321
                                    replace q321 := eq_true q321
                                    try go_wp2_with (first | ((with_reducible refine gate_dst (N := 16) rfl ?_); (try (refine gate_guard (by rfl) ?_; dsimp only)); refine box_event ?hg (N := 16) ?hd (cs := #[.int .i64 0, .slice none 0 0]) (t := 39) ?hr ?_; (case hd => rfl); (case hg => rfl); (case hr => first | (go_simp; done) | (go_simp; rfl)); intro gb322 hg w58 hbox hb; have n0_ := Aside0.mk (Kd.R_below (by (with_reducible repeat (first | apply Kd.R_alloc | apply Kd.R_drewN | apply Kd.R_drew)); exact HO_6.out) hb); have n1_ := Aside0.mk (Kd.S_below (Kd.S_elderB (by (with_reducible repeat (first | apply Kd.S_alloc | apply Kd.S_drewN | apply Kd.S_drew)); exact HO_9.out) gb322 (Nat.le_of_eq hg.symm)) hb); have n2_ := Aside0.mk (Kd.S_below (Kd.S_elderB (by (with_reducible repeat (first | apply Kd.S_alloc | apply Kd.S_drewN | apply Kd.S_drew)); exact HO_74.out) gb322 (Nat.le_of_eq hg.symm)) hb); have n3_ := Aside0.mk (Kd.R_below (by (with_reducible repeat (first | apply Kd.R_alloc | apply Kd.R_drewN | apply Kd.R_drew)); exact HO_321001.out) hb); have n4_ := Aside0.mk (Kd.R_below (by (with_reducible repeat (first | apply Kd.R_alloc | apply Kd.R_drewN | apply Kd.R_drew)); exact HL321_1.out) hb); have n5_ := Aside0.mk (blk_below (g := gb320) (o := .cells #[.int .i64 t315, .slice Ao35 t316.length co35] 39 (0, 0)) (by (with_reducible repeat (first | refine blk_drewN ?_ _ | refine blk_drew ?_ | refine blk_alloc ?_ _)); exact BK320.out) hb); have n6_ := Aside0.mk (Kd.C_below (by repeat (first | (with_reducible exact HR321_1.out) | (with_reducible refine Kd.C_alloc ?_ _) | (with_reducible refine Kd.C_drewN ?_ _) | (with_reducible refine Kd.C_drew ?_) | exact HR321_1.out)) hb); have n7_ := Aside0.mk (below_step (by repeat (first | (with_reducible first | exact HB.out | apply below_alloc | apply pw_below_drewN | apply below_drew1 | refine below_set ?_ GE320.out) | exact HB.out)) hb); have n8_ := Aside0.mk (hbox); have n9_ := Aside0.mk ((by rw [hg]; exact (below_size (by repeat (first | (with_reducible first | exact HB.out | apply below_alloc | apply pw_below_drewN | apply below_drew1 | refine below_set ?_ GE320.out) | exact HB.out))) : w.heap.size ≤ gb322)); have n10_ := Aside0.mk ((by rw [hg]; exact (below_size (by repeat (first | (with_reducible first | exact HB.out | apply below_alloc | apply pw_below_drewN | apply below_drew1 | refine below_set ?_ GE320.out) | exact HB.out))) : w.heap.size ≤ gb322)); have n11_ := Aside0.mk ((by rw [hg]; exact Nat.ne_of_lt (blk_lt (g := gb320) (o := .cells #[.int .i64 t315, .slice Ao35 t316.length co35] 39 (0, 0)) (by (with_reducible repeat (first | refine blk_drewN ?_ _ | refine blk_drew ?_ | refine blk_alloc ?_ _)); exact BK320.out)) : gb320 ≠ gb322)); have n12_ := Aside0.mk ((by rw [hg]; exact Nat.ne_of_gt (blk_lt (g := gb320) (o := .cells #[.int .i64 t315, .slice Ao35 t316.length co35] 39 (0, 0)) (by (with_reducible repeat (first | refine blk_drewN ?_ _ | refine blk_drew ?_ | refine blk_alloc ?_ _)); exact BK320.out)) : gb322 ≠ gb320)); clear HO_6; clear HO_9; clear HO_74; clear HO_321001; clear HL321_1; clear BK320; clear HR321_1; clear HB; have HO_6 := n0_; have HO_9 := n1_; have HO_74 := n2_; have HO_321001 := n3_; have HL321_1 := n4_; have BK320 := n5_; have HR321_1 := n6_; have HB := n7_; have BK322 := n8_; have GW322 := n9_; have GE322 := n10_; have NB320_322 := n11_; have NB322_320 := n12_; clear n0_ n1_ n2_ n3_ n4_ n5_ n6_ n7_ n8_ n9_ n10_ n11_ n12_; clear hb hbox hg; have hnb59 := NB322_320.out; have hnc59 := NB320_322.out; have hcz60_0 : w58.cell? ⟨gb322, 0, none⟩ = some (.int .i64 0) := (blk_cell BK322.out 0).trans rfl; have hcz60_1 : w58.cell? ⟨gb322, 1, none⟩ = some (.slice none 0 0) := (blk_cell BK322.out 1).trans rfl; have hfz60_0 := blk_frozen BK322.out 0; have hfz60_1 := blk_frozen BK322.out 1))
                                    have n0_ : Aside0 (Kd.R k56 56 ((w58.setCell ⟨gb322, 0, none⟩ (.int .i64 ((rd_T39 t305 x76_2).f0))).setCell ⟨gb322, 1, none⟩ (.slice A321_1 ((rd_T39 t305 x76_2).f1).length c321_1)) w.heap.size (fun _ => True) (.slice Ao16 t299.length co16) t299) := ⟨by (with_reducible repeat (first | apply Kd.R_alloc | apply Kd.R_drewN | apply Kd.R_drew)); exact Kd.R_mono (Kd.R_far (p := ⟨gb322, 1, none⟩) (Kd.R_far (p := ⟨gb322, 0, none⟩) (Kd.R_types HO_6.out BK322.out (by decide)) (fun _ hk => hk.2) (.int .i64 ((rd_T39 t305 x76_2).f0))) (fun _ hk => hk.2) (.slice A321_1 ((rd_T39 t305 x76_2).f1).length c321_1)) (fun _ hk => trivial)⟩
                                    have n1_ : Aside0 (Kd.S k39 39 ((w58.setCell ⟨gb322, 0, none⟩ (.int .i64 ((rd_T39 t305 x76_2).f0))).setCell ⟨gb322, 1, none⟩ (.slice A321_1 ((rd_T39 t305 x76_2).f1).length c321_1)) w.heap.size (fun k_ => some k_ ≠ (.slice Ao35 t316.length co35 : Value).ownBlock ∧ k_ ≠ gb320 ∧ k_ ≠ gb322) (.slice (some ad321) t305.length co36) t305) := ⟨by (with_reducible repeat (first | apply Kd.S_alloc | apply Kd.S_drewN | apply Kd.S_drew)); exact Kd.S_mono (Kd.S_far (p := ⟨gb322, 1, none⟩) (Kd.S_far (p := ⟨gb322, 0, none⟩) (Kd.S_mono HO_9.out (fun k_ hk => (⟨hk, hk.2⟩ : _ ∧ k_ ≠ gb322))) (fun _ hk => hk.2) (.int .i64 ((rd_T39 t305 x76_2).f0))) (fun _ hk => hk.2) (.slice A321_1 ((rd_T39 t305 x76_2).f1).length c321_1)) (fun _ hk => ⟨hk.1.1.1, ⟨hk.1.1.2, hk.1.2⟩⟩)⟩
                                    have n2_ : Aside0 (Kd.S k39 39 ((w58.setCell ⟨gb322, 0, none⟩ (.int .i64 ((rd_T39 t305 x76_2).f0))).setCell ⟨gb322, 1, none⟩ (.slice A321_1 ((rd_T39 t305 x76_2).f1).length c321_1)) w.heap.size (fun k_ => some k_ ≠ (.slice Ao35 t316.length co35 : Value).ownBlock ∧ k_ ≠ gb320 ∧ k_ ≠ gb322) (.slice (some ad321) t305.length co36) t305) := ⟨by (with_reducible repeat (first | apply Kd.S_alloc | apply Kd.S_drewN | apply Kd.S_drew)); exact Kd.S_mono (Kd.S_far (p := ⟨gb322, 1, none⟩) (Kd.S_far (p := ⟨gb322, 0, none⟩) (Kd.S_mono HO_74.out (fun k_ hk => (⟨hk, hk.2⟩ : _ ∧ k_ ≠ gb322))) (fun _ hk => hk.2) (.int .i64 ((rd_T39 t305 x76_2).f0))) (fun _ hk => hk.2) (.slice A321_1 ((rd_T39 t305 x76_2).f1).length c321_1)) (fun _ hk => ⟨hk.1.1.1, ⟨hk.1.1.2, hk.1.2⟩⟩)⟩
                                    have n3_ : Aside0 (Kd.R k51 51 ((w58.setCell ⟨gb322, 0, none⟩ (.int .i64 ((rd_T39 t305 x76_2).f0))).setCell ⟨gb322, 1, none⟩ (.slice A321_1 ((rd_T39 t305 x76_2).f1).length c321_1)) w.heap.size (fun _ => True) (.slice Ao35 t316.length co35) t316) := ⟨by (with_reducible repeat (first | apply Kd.R_alloc | apply Kd.R_drewN | apply Kd.R_drew)); exact Kd.R_mono (Kd.R_far (p := ⟨gb322, 1, none⟩) (Kd.R_far (p := ⟨gb322, 0, none⟩) (Kd.R_types HO_321001.out BK322.out (by decide)) (fun _ hk => hk.2) (.int .i64 ((rd_T39 t305 x76_2).f0))) (fun _ hk => hk.2) (.slice A321_1 ((rd_T39 t305 x76_2).f1).length c321_1)) (fun _ hk => trivial)⟩
                                    have n4_ : Aside0 (Kd.R k51 51 ((w58.setCell ⟨gb322, 0, none⟩ (.int .i64 ((rd_T39 t305 x76_2).f0))).setCell ⟨gb322, 1, none⟩ (.slice A321_1 ((rd_T39 t305 x76_2).f1).length c321_1)) w.heap.size (fun k_ => some k_ ≠ (.slice (some ad321) t305.length co36 : Value).ownBlock ∧ some k_ ≠ (.slice Ao35 t316.length co35 : Value).ownBlock ∧ k_ ≠ gb320) (.slice A321_1 ((rd_T39 t305 x76_2).f1).length c321_1) ((rd_T39 t305 x76_2).f1)) := ⟨by (with_reducible repeat (first | apply Kd.R_alloc | apply Kd.R_drewN | apply Kd.R_drew)); exact Kd.R_mono (Kd.R_far (p := ⟨gb322, 1, none⟩) (Kd.R_far (p := ⟨gb322, 0, none⟩) (Kd.R_types HL321_1.out BK322.out (by decide)) (fun _ hk => hk.2) (.int .i64 ((rd_T39 t305 x76_2).f0))) (fun _ hk => hk.2) (.slice A321_1 ((rd_T39 t305 x76_2).f1).length c321_1)) (fun _ hk => ⟨hk.1.2, ⟨hk.1.1.1, hk.1.1.2⟩⟩)⟩
                                    have n5_ : Aside0 (((w58.setCell ⟨gb322, 0, none⟩ (.int .i64 ((rd_T39 t305 x76_2).f0))).setCell ⟨gb322, 1, none⟩ (.slice A321_1 ((rd_T39 t305 x76_2).f1).length c321_1)).heap[gb320]? = some (.cells #[.int .i64 t315, .slice Ao35 t316.length co35] 39 (0, 0))) := ⟨by (with_reducible repeat (first | refine blk_drewN ?_ _ | refine blk_drew ?_ | refine blk_alloc ?_ _)); refine blk_far ?_ NB320_322.out _; (with_reducible repeat (first | refine blk_drewN ?_ _ | refine blk_drew ?_ | refine blk_alloc ?_ _)); refine blk_far ?_ NB320_322.out _; (with_reducible repeat (first | refine blk_drewN ?_ _ | refine blk_drew ?_ | refine blk_alloc ?_ _)); exact BK320.out⟩
                                    have n6_ : Aside0 (((w58.setCell ⟨gb322, 0, none⟩ (.int .i64 ((rd_T39 t305 x76_2).f0))).setCell ⟨gb322, 1, none⟩ (.slice A321_1 ((rd_T39 t305 x76_2).f1).length c321_1)).heap[gb322]? = some (.cells #[.int .i64 ((rd_T39 t305 x76_2).f0), .slice A321_1 ((rd_T39 t305 x76_2).f1).length c321_1] 39 (0, 0))) := ⟨by (with_reducible repeat (first | refine blk_drewN ?_ _ | refine blk_drew ?_ | refine blk_alloc ?_ _)); refine blk_put (cs := #[.int .i64 ((rd_T39 t305 x76_2).f0), .slice none 0 0]) ?_ 1 _ rfl; (with_reducible repeat (first | refine blk_drewN ?_ _ | refine blk_drew ?_ | refine blk_alloc ?_ _)); refine blk_put (cs := #[.int .i64 0, .slice none 0 0]) ?_ 0 _ rfl; (with_reducible repeat (first | refine blk_drewN ?_ _ | refine blk_drew ?_ | refine blk_alloc ?_ _)); exact BK322.out⟩
                                    have n7_ : Aside0 (Below w.heap.size w ((w58.setCell ⟨gb322, 0, none⟩ (.int .i64 ((rd_T39 t305 x76_2).f0))).setCell ⟨gb322, 1, none⟩ (.slice A321_1 ((rd_T39 t305 x76_2).f1).length c321_1))) := ⟨by repeat (first | (with_reducible first | exact HB.out | apply below_alloc | apply pw_below_drewN | apply below_drew1 | refine below_set ?_ GE320.out | refine below_set ?_ GE322.out) | exact HB.out)⟩
                                    (try clear HO_6)
                                    (try clear HO_9)
                                    (try clear HO_74)
                                    (try clear HO_321001)
                                    (try clear HL321_1)
                                    (try clear BK320)
                                    (try clear BK322)
                                    (try clear HB)
                                    generalize ((w58.setCell ⟨gb322, 0, none⟩ (.int .i64 ((rd_T39 t305 x76_2).f0))).setCell ⟨gb322, 1, none⟩ (.slice A321_1 ((rd_T39 t305 x76_2).f1).length c321_1)) = w61 at n0_ n1_ n2_ n3_ n4_ n5_ n6_ n7_ ⊢
                                    have HO_6 := n0_
                                    have HO_9 := n1_
                                    have HO_74 := n2_
                                    have HO_321001 := n3_
                                    have HL321_1 := n4_
                                    have BK320 := n5_
                                    have BK322 := n6_
                                    have HB := n7_
                                    clear n0_ n1_ n2_ n3_ n4_ n5_ n6_ n7_
                                    have n0_ := Aside0.mk (Kd.R_drew HO_6.out)
                                    have n1_ := Aside0.mk (Kd.S_drew HO_9.out)
                                    have n2_ := Aside0.mk (Kd.S_drew HO_74.out)
                                    have n3_ := Aside0.mk (Kd.R_drew HO_321001.out)
                                    have n4_ := Aside0.mk (Kd.R_drew HL321_1.out)
                                    have n5_ := Aside0.mk (blk_drew BK320.out)
                                    have n6_ := Aside0.mk (blk_drew BK322.out)
                                    have n7_ := Aside0.mk (below_drew1 HB.out)
                                    clear HO_6
                                    clear HO_9
                                    clear HO_74
                                    clear HO_321001
                                    clear HL321_1
                                    clear BK320
                                    clear BK322
                                    clear HB
                                    have HO_6 := n0_
                                    have HO_9 := n1_
                                    have HO_74 := n2_
                                    have HO_321001 := n3_
                                    have HL321_1 := n4_
                                    have BK320 := n5_
                                    have BK322 := n6_
                                    have HB := n7_
                                    clear n0_ n1_ n2_ n3_ n4_ n5_ n6_ n7_
                                    have p324 : 0 ≤ ((ji45) : Int) := of_decide_eq_true (by first | (with_reducible assumption) | assumption)
                                    have q324 : (ji45) < (t305.length : Int) := of_decide_eq_true (by first | (with_reducible assumption) | assumption)
                                    obtain ⟨ad324, A324_1, c324_1, e324, hx324_0, hx324_1, hl324_1, hi324_1⟩ := at_T39 (Kd.S_reads' HO_9.out).2.2 (ji45) p324 q324
                                    obtain rfl : ad321 = ad324 := (by injection e324)
                                    obtain ⟨ce324, hce324, hMe324, hcc324⟩ := Kd.S_get HO_9.out z39 (ji45) p324 (by first | exact q324 | exact of_decide_eq_true (by first | (with_reducible assumption) | assumption) | (have e_ := (Kd.S_reads' HO_9.out).1; omega))
                                    obtain ⟨ve324_1, rfl, ge324_1⟩ := k39_openM hMe324
                                    have hv324_1 := hcc324 1 _ rfl
                                    rw [add_field _ _ 1 (by omega)] at hv324_1
                                    replace hv324_1 := Option.some.inj (hv324_1.symm.trans hx324_1)
                                    rw [hv324_1] at ge324_1
                                    have HL324_1 := Aside0.mk (show Kd.R k51 51 _ _ _ _ ((rd_T39 t305 (ji45)).f1) from ge324_1)
                                    clear hv324_1 ge324_1
                                    clear hcc324 hce324
                                    have HR324_1 := Aside0.mk hi324_1
                                    have HC324_1 := Aside0.mk hl324_1
                                    clear hi324_1 hl324_1
                                    replace p324 := eq_true p324
                                    replace q324 := eq_true q324
                                    refine start_ (n := 33) (S := fun w' => w'.cell? ⟨gb322, 0, none⟩ = some (.int .i64 ((rd_T39 t305 x76_2).f0)) ∧ w'.cell? ⟨gb322, 1, none⟩ = some (.slice A321_1 ((rd_T39 t305 x76_2).f1).length c321_1) ∧ w'.cell? (ad321.add (((ji45)).toNat * 2)) = some (.int .i64 ((rd_T39 t305 (ji45)).f0)) ∧ w'.cell? ⟨(ad321.add (((ji45)).toNat * 2)).block, (ad321.add (((ji45)).toNat * 2)).off + 1, none⟩ = some (.slice A324_1 ((rd_T39 t305 (ji45)).f1).length c324_1)) (ds := []) #[false, false, false, false, false, false, false, false, false, false, false, false, false, false, false, false, false, false, false, false, false, false, false, false, false, false, false, false, false, false, false, false, false] (by kernel_rfl) rfl rfl ⟨(blk_cell BK322.out 0).trans rfl, (blk_cell BK322.out 1).trans rfl, hx324_0, hx324_1⟩ (fun hHeld => ?_); refine with_tabW storagebarterlaw30_DeviationAll.tab15 storagebarterlaw30_DeviationAll.bits15 (fun HT_ HW_ => ?_)
                                    generalize w61.drew = w62 at HO_6 HO_9 HO_74 HO_321001 HL321_1 BK320 BK322 HB HL324_1 HR324_1 hx324_0 hx324_1 hHeld ⊢
                                    refine pure_ (i := 0) (N := some 81) (v := ?_) (a' := ?_) #[true, false, false, false, false, false, false, false, false, false, false, false, false, false, false, false, false, false, false, false, false, false, false, false, false, false, false, false, false, false, false, false, false] rfl rfl (any_of HT_.out (by kernel_rfl)) (fun _ _ _ h => h) (Or.inl ⟨by rfl, ?_⟩) ?_ ?_
                                    rotate_left
                                    · intro w'
                                      go_simp
                                      with_reducible rfl
                                    rotate_left
                                    · simp only [Act.put, List.setIfInBounds_toArray, List.set_cons_zero, List.set_cons_succ, i64_w, i32_w]
                                      rfl
                                    refine take_ (i := 1) (N := some 82) (v := ?_) (a' := ?_) #[true, true, false, false, false, false, false, false, false, false, false, false, false, false, false, false, false, false, false, false, false, false, false, false, false, false, false, false, false, false, false, false, false] rfl rfl (take_ofW HT_.out HW_.out (by kernel_rfl)) (fun _ _ _ h => h) (Or.inl ⟨by rfl, ?_⟩) hHeld ?_ ?_
                                    rotate_left
                                    · rintro w' ⟨s0, s1, s2, s3⟩
                                      go_simp
                                      with_reducible rfl
                                    rotate_left
                                    · simp only [Act.put, List.setIfInBounds_toArray, List.set_cons_zero, List.set_cons_succ, i64_w, i32_w]
                                      rfl
                                    refine one_ (i := 2) (N := some 83) #[true, true, true, false, false, false, false, false, false, false, false, false, false, false, false, false, false, false, false, false, false, false, false, false, false, false, false, false, false, false, false, false, false] rfl rfl (one_of HT_.out (by kernel_rfl)) (by decide) (fun K hK => ?_)
                                    refine goes_ Tryd.func18 (by kernel_rfl) rfl #[.slice Ao16 t299.length co16, .agg #[.int .i64 ((rd_T39 t305 x76_2).f0), .slice A321_1 ((rd_T39 t305 x76_2).f1).length c321_1]] (by rfl) rfl rfl (by (try simp only [List.map_toArray, List.map_cons, List.map_nil]); first | done | rfl | (simp only [List.length_drop, List.length_take]; rfl)) ?_
                                    with_reducible refine (deviation_Valid.calls _ _ t299 ((rd_T39 t305 x76_2).f0) _ _ ((rd_T39 t305 x76_2).f1) true _ ?side1 ?side2 ?side3 ?side4 A40.out (by first | exact HL_.out | exact laid_below HL_.out (by repeat (first | (with_reducible first | exact HB.out | apply below_alloc | apply pw_below_drewN | apply below_drew1) | refine below_set ?_ (Aside0.out (by assumption)) | exact HB.out)) | exact laid_drawn HL_.out HD.out | exact laid_drawn HL_.out (HD.out.step _))).mono ?_
                                    (case side1 => repeat (first | exact (Kd.R_reads' HO_6.out).2.2 | (with_reducible refine Kd.C_alloc ?_ _) | (with_reducible refine Kd.C_drewN ?_ _) | (with_reducible refine Kd.C_drew ?_)))
                                    (case side2 => exact (Kd.R_reads' HO_6.out).2.1)
                                    (case side3 => repeat (first | exact ((Kd.R_reads' (by (with_reducible repeat (first | apply Kd.R_alloc | apply Kd.R_drewN | apply Kd.R_drew)); exact HL321_1.out)).2.2) | (with_reducible refine Kd.C_alloc ?_ _) | (with_reducible refine Kd.C_drewN ?_ _) | (with_reducible refine Kd.C_drew ?_)))
                                    (case side4 => exact HC321_1.out)
                                    rintro e w63 ⟨rfl, hb⟩
                                    have HS2_ := (hb.cell (World.block_lt_of_cell? _ _ (hHeld.2.2.1))).trans (hHeld.2.2.1)
                                    have HS3_ := (hb.cell (World.block_lt_of_cell? _ _ (hHeld.2.2.2))).trans (hHeld.2.2.2)
                                    refine ⟨_, rfl, ?_⟩
                                    have HR324_1 := Aside0.mk (Kd.C_below HR324_1.out hb)
                                    have HL324_1 := Aside0.mk (Kd.R_below HL324_1.out hb)
                                    have n0_ := Aside0.mk (Kd.R_below (by (with_reducible repeat (first | apply Kd.R_alloc | apply Kd.R_drewN | apply Kd.R_drew)); exact HO_6.out) hb)
                                    have n1_ := Aside0.mk (Kd.S_below (by (with_reducible repeat (first | apply Kd.S_alloc | apply Kd.S_drewN | apply Kd.S_drew)); exact HO_9.out) hb)
                                    have n2_ := Aside0.mk (Kd.S_below (by (with_reducible repeat (first | apply Kd.S_alloc | apply Kd.S_drewN | apply Kd.S_drew)); exact HO_74.out) hb)
                                    have n3_ := Aside0.mk (Kd.R_below (by (with_reducible repeat (first | apply Kd.R_alloc | apply Kd.R_drewN | apply Kd.R_drew)); exact HO_321001.out) hb)
                                    have n4_ := Aside0.mk (Kd.R_below (by (with_reducible repeat (first | apply Kd.R_alloc | apply Kd.R_drewN | apply Kd.R_drew)); exact HL321_1.out) hb)
                                    have n5_ := Aside0.mk (blk_below (g := gb320) (o := .cells #[.int .i64 t315, .slice Ao35 t316.length co35] 39 (0, 0)) (by (with_reducible repeat (first | refine blk_drewN ?_ _ | refine blk_drew ?_ | refine blk_alloc ?_ _)); exact BK320.out) hb)
                                    have n6_ := Aside0.mk (blk_below (g := gb322) (o := .cells #[.int .i64 ((rd_T39 t305 x76_2).f0), .slice A321_1 ((rd_T39 t305 x76_2).f1).length c321_1] 39 (0, 0)) (by (with_reducible repeat (first | refine blk_drewN ?_ _ | refine blk_drew ?_ | refine blk_alloc ?_ _)); exact BK322.out) hb)
                                    have n7_ := Aside0.mk (below_step (by repeat (first | (with_reducible first | exact HB.out | apply below_alloc | apply pw_below_drewN | apply below_drew1 | refine below_set ?_ GE320.out | refine below_set ?_ GE322.out) | exact HB.out)) hb)
                                    clear HO_6
                                    clear HO_9
                                    clear HO_74
                                    clear HO_321001
                                    clear HL321_1
                                    clear BK320
                                    clear BK322
                                    clear HB
                                    have HO_6 := n0_
                                    have HO_9 := n1_
                                    have HO_74 := n2_
                                    have HO_321001 := n3_
                                    have HL321_1 := n4_
                                    have BK320 := n5_
                                    have BK322 := n6_
                                    have HB := n7_
                                    clear n0_ n1_ n2_ n3_ n4_ n5_ n6_ n7_
                                    (try clear hb)
                                    (try clear hb2)
                                    (try clear hk)
                                    (try clear hi)
                                    (try clear hgw)
                                    refine hK.out _ _ ⟨(blk_cell BK322.out 0).trans rfl, (blk_cell BK322.out 1).trans rfl, HS2_, HS3_⟩ (fun hHeld => ?_)
                                    clear hK K
                                    refine norm_ (a' := ?_) ?_ ?_
                                    rotate_left
                                    · show Act.put _ (some 83) _ = _
                                      simp only [Act.put, List.setIfInBounds_toArray, List.set_cons_zero, List.set_cons_succ, i64_w, i32_w]
                                      rfl
                                    refine pure_ (i := 3) (N := some 84) (v := ?_) (a' := ?_) #[true, true, true, true, false, false, false, false, false, false, false, false, false, false, false, false, false, false, false, false, false, false, false, false, false, false, false, false, false, false, false, false, false] rfl rfl (any_of HT_.out (by kernel_rfl)) (fun _ _ _ h => h) (Or.inl ⟨by rfl, ?_⟩) ?_ ?_
                                    rotate_left
                                    · intro w'
                                      go_simp
                                      with_reducible rfl
                                    rotate_left
                                    · simp only [Act.put, List.setIfInBounds_toArray, List.set_cons_zero, List.set_cons_succ, i64_w, i32_w]
                                      rfl
                                    refine pure_ (i := 4) (N := some 85) (v := ?_) (a' := ?_) #[true, true, true, true, true, false, false, false, false, false, false, false, false, false, false, false, false, false, false, false, false, false, false, false, false, false, false, false, false, false, false, false, false] rfl rfl (any_of HT_.out (by kernel_rfl)) (fun _ _ _ h => h) (Or.inl ⟨by rfl, ?_⟩) ?_ ?_
                                    rotate_left
                                    · intro w'
                                      go_simp
                                      with_reducible rfl
                                    rotate_left
                                    · simp only [Act.put, List.setIfInBounds_toArray, List.set_cons_zero, List.set_cons_succ, i64_w, i32_w]
                                      rfl
                                    refine pure_ (i := 5) (N := some 86) (v := ?_) (a' := ?_) #[true, true, true, true, true, true, false, false, false, false, false, false, false, false, false, false, false, false, false, false, false, false, false, false, false, false, false, false, false, false, false, false, false] rfl rfl (any_of HT_.out (by kernel_rfl)) (fun _ _ _ h => h) (Or.inl ⟨by rfl, ?_⟩) ?_ ?_
                                    rotate_left
                                    · intro w'
                                      go_simp
                                      with_reducible rfl
                                    rotate_left
                                    · simp only [Act.put, List.setIfInBounds_toArray, List.set_cons_zero, List.set_cons_succ, i64_w, i32_w]
                                      rfl
                                    refine pure_ (i := 7) (N := some 88) (v := ?_) (a' := ?_) #[true, true, true, true, true, true, false, true, false, false, false, false, false, false, false, false, false, false, false, false, false, false, false, false, false, false, false, false, false, false, false, false, false] rfl rfl (any_of HT_.out (by kernel_rfl)) (fun _ _ _ h => h) (Or.inl ⟨by rfl, ?_⟩) ?_ ?_
                                    rotate_left
                                    · intro w'
                                      go_simp
                                      with_reducible rfl
                                    rotate_left
                                    · simp only [Act.put, List.setIfInBounds_toArray, List.set_cons_zero, List.set_cons_succ, i64_w, i32_w]
                                      rfl
                                    refine take_ (i := 6) (N := some 87) (v := ?_) (a' := ?_) #[true, true, true, true, true, true, true, true, false, false, false, false, false, false, false, false, false, false, false, false, false, false, false, false, false, false, false, false, false, false, false, false, false] rfl rfl (take_ofW HT_.out HW_.out (by kernel_rfl)) (fun _ _ _ h => h) (Or.inl ⟨by rfl, ?_⟩) hHeld ?_ ?_
                                    rotate_left
                                    · rintro w' ⟨s0, s1, s2, s3⟩
                                      go_simp
                                      with_reducible rfl
                                    rotate_left
                                    · simp only [Act.put, List.setIfInBounds_toArray, List.set_cons_zero, List.set_cons_succ, i64_w, i32_w]
                                      rfl
                                    refine pure_ (i := 8) (N := some 89) (v := ?_) (a' := ?_) #[true, true, true, true, true, true, true, true, true, false, false, false, false, false, false, false, false, false, false, false, false, false, false, false, false, false, false, false, false, false, false, false, false] rfl rfl (any_of HT_.out (by kernel_rfl)) (fun _ _ _ h => h) (Or.inl ⟨by rfl, ?_⟩) ?_ ?_
                                    rotate_left
                                    · intro w'
                                      go_simp
                                      with_reducible rfl
                                    rotate_left
                                    · simp only [Act.put, List.setIfInBounds_toArray, List.set_cons_zero, List.set_cons_succ, i64_w, i32_w]
                                      rfl
                                    refine pure_ (i := 9) (N := some 90) (v := ?_) (a' := ?_) #[true, true, true, true, true, true, true, true, true, true, false, false, false, false, false, false, false, false, false, false, false, false, false, false, false, false, false, false, false, false, false, false, false] rfl rfl (any_of HT_.out (by kernel_rfl)) (fun _ _ _ h => h) (Or.inl ⟨by rfl, ?_⟩) ?_ ?_
                                    rotate_left
                                    · intro w'
                                      go_simp
                                      with_reducible rfl
                                    rotate_left
                                    · simp only [Act.put, List.setIfInBounds_toArray, List.set_cons_zero, List.set_cons_succ, i64_w, i32_w]
                                      rfl
                                    refine pure_ (i := 10) (N := some 91) (v := ?_) (a' := ?_) #[true, true, true, true, true, true, true, true, true, true, true, false, false, false, false, false, false, false, false, false, false, false, false, false, false, false, false, false, false, false, false, false, false] rfl rfl (any_of HT_.out (by kernel_rfl)) (fun _ _ _ h => h) (Or.inl ⟨by rfl, ?_⟩) ?_ ?_
                                    rotate_left
                                    · intro w'
                                      go_simp
                                      with_reducible rfl
                                    rotate_left
                                    · simp only [Act.put, List.setIfInBounds_toArray, List.set_cons_zero, List.set_cons_succ, i64_w, i32_w]
                                      rfl
                                    refine pure_ (i := 11) (N := some 92) (v := ?_) (a' := ?_) #[true, true, true, true, true, true, true, true, true, true, true, true, false, false, false, false, false, false, false, false, false, false, false, false, false, false, false, false, false, false, false, false, false] rfl rfl (any_of HT_.out (by kernel_rfl)) (fun _ _ _ h => h) (Or.inl ⟨by rfl, ?_⟩) ?_ ?_
                                    rotate_left
                                    · intro w'
                                      go_simp
                                      with_reducible rfl
                                    rotate_left
                                    · simp only [Act.put, List.setIfInBounds_toArray, List.set_cons_zero, List.set_cons_succ, i64_w, i32_w]
                                      rfl
                                    refine pure_ (i := 14) (N := some 95) (v := ?_) (a' := ?_) #[true, true, true, true, true, true, true, true, true, true, true, true, false, false, true, false, false, false, false, false, false, false, false, false, false, false, false, false, false, false, false, false, false] rfl rfl (any_of HT_.out (by kernel_rfl)) (fun _ _ _ h => h) (Or.inl ⟨by rfl, ?_⟩) ?_ ?_
                                    rotate_left
                                    · intro w'
                                      go_simp
                                      with_reducible rfl
                                    rotate_left
                                    · simp only [Act.put, List.setIfInBounds_toArray, List.set_cons_zero, List.set_cons_succ, i64_w, i32_w]
                                      rfl
                                    refine take_ (i := 12) (N := some 93) (v := ?_) (a' := ?_) #[true, true, true, true, true, true, true, true, true, true, true, true, true, false, true, false, false, false, false, false, false, false, false, false, false, false, false, false, false, false, false, false, false] rfl rfl (take_ofW HT_.out HW_.out (by kernel_rfl)) (fun _ _ _ h => h) (Or.inl ⟨by rfl, ?_⟩) hHeld ?_ ?_
                                    rotate_left
                                    · rintro w' ⟨s0, s1, s2, s3⟩
                                      go_simp
                                      with_reducible rfl
                                    rotate_left
                                    · simp only [Act.put, List.setIfInBounds_toArray, List.set_cons_zero, List.set_cons_succ, i64_w, i32_w]
                                      rfl
                                    refine pure_ (i := 13) (N := some 94) (v := ?_) (a' := ?_) #[true, true, true, true, true, true, true, true, true, true, true, true, true, true, true, false, false, false, false, false, false, false, false, false, false, false, false, false, false, false, false, false, false] rfl rfl (any_of HT_.out (by kernel_rfl)) (fun _ _ _ h => h) (Or.inl ⟨by rfl, ?_⟩) ?_ ?_
                                    rotate_left
                                    · intro w'
                                      go_simp
                                      with_reducible rfl
                                    rotate_left
                                    · simp only [Act.put, List.setIfInBounds_toArray, List.set_cons_zero, List.set_cons_succ, i64_w, i32_w]
                                      rfl
                                    refine pure_ (i := 15) (N := some 96) (v := ?_) (a' := ?_) #[true, true, true, true, true, true, true, true, true, true, true, true, true, true, true, true, false, false, false, false, false, false, false, false, false, false, false, false, false, false, false, false, false] rfl rfl (any_of HT_.out (by kernel_rfl)) (fun _ _ _ h => h) (Or.inl ⟨by rfl, ?_⟩) ?_ ?_
                                    rotate_left
                                    · intro w'
                                      go_simp
                                      with_reducible rfl
                                    rotate_left
                                    · simp only [Act.put, List.setIfInBounds_toArray, List.set_cons_zero, List.set_cons_succ, i64_w, i32_w]
                                      rfl
                                    refine pure_ (i := 16) (N := some 97) (v := ?_) (a' := ?_) #[true, true, true, true, true, true, true, true, true, true, true, true, true, true, true, true, true, false, false, false, false, false, false, false, false, false, false, false, false, false, false, false, false] rfl rfl (any_of HT_.out (by kernel_rfl)) (fun _ _ _ h => h) (Or.inl ⟨by rfl, ?_⟩) ?_ ?_
                                    rotate_left
                                    · intro w'
                                      go_simp
                                      with_reducible rfl
                                    rotate_left
                                    · simp only [Act.put, List.setIfInBounds_toArray, List.set_cons_zero, List.set_cons_succ, i64_w, i32_w]
                                      rfl
                                    refine pure_ (i := 17) (N := some 98) (v := ?_) (a' := ?_) #[true, true, true, true, true, true, true, true, true, true, true, true, true, true, true, true, true, true, false, false, false, false, false, false, false, false, false, false, false, false, false, false, false] rfl rfl (any_of HT_.out (by kernel_rfl)) (fun _ _ _ h => h) (Or.inl ⟨by rfl, ?_⟩) ?_ ?_
                                    rotate_left
                                    · intro w'
                                      go_simp
                                      with_reducible rfl
                                    rotate_left
                                    · simp only [Act.put, List.setIfInBounds_toArray, List.set_cons_zero, List.set_cons_succ, i64_w, i32_w]
                                      rfl
                                    refine pure_ (i := 18) (N := some 99) (v := ?_) (a' := ?_) #[true, true, true, true, true, true, true, true, true, true, true, true, true, true, true, true, true, true, true, false, false, false, false, false, false, false, false, false, false, false, false, false, false] rfl rfl (any_of HT_.out (by kernel_rfl)) (fun _ _ _ h => h) (Or.inl ⟨by rfl, ?_⟩) ?_ ?_
                                    rotate_left
                                    · intro w'
                                      go_simp
                                      with_reducible rfl
                                    rotate_left
                                    · simp only [Act.put, List.setIfInBounds_toArray, List.set_cons_zero, List.set_cons_succ, i64_w, i32_w]
                                      rfl
                                    refine pure_ (i := 19) (N := some 100) (v := ?_) (a' := ?_) #[true, true, true, true, true, true, true, true, true, true, true, true, true, true, true, true, true, true, true, true, false, false, false, false, false, false, false, false, false, false, false, false, false] rfl rfl (any_of HT_.out (by kernel_rfl)) (fun _ _ _ h => h) (Or.inl ⟨by rfl, ?_⟩) ?_ ?_
                                    rotate_left
                                    · intro w'
                                      go_simp
                                      with_reducible rfl
                                    rotate_left
                                    · simp only [Act.put, List.setIfInBounds_toArray, List.set_cons_zero, List.set_cons_succ, i64_w, i32_w]
                                      rfl
                                    refine pure_ (i := 20) (N := some 101) (v := ?_) (a' := ?_) #[true, true, true, true, true, true, true, true, true, true, true, true, true, true, true, true, true, true, true, true, true, false, false, false, false, false, false, false, false, false, false, false, false] rfl rfl (any_of HT_.out (by kernel_rfl)) (fun _ _ _ h => h) (Or.inl ⟨by rfl, ?_⟩) ?_ ?_
                                    rotate_left
                                    · intro w'
                                      go_simp
                                      with_reducible rfl
                                    rotate_left
                                    · simp only [Act.put, List.setIfInBounds_toArray, List.set_cons_zero, List.set_cons_succ, i64_w, i32_w]
                                      rfl
                                    refine pure_ (i := 21) (N := some 102) (v := ?_) (a' := ?_) #[true, true, true, true, true, true, true, true, true, true, true, true, true, true, true, true, true, true, true, true, true, true, false, false, false, false, false, false, false, false, false, false, false] rfl rfl (any_of HT_.out (by kernel_rfl)) (fun _ _ _ h => h) (Or.inl ⟨by rfl, ?_⟩) ?_ ?_
                                    rotate_left
                                    · intro w'
                                      go_simp
                                      with_reducible rfl
                                    rotate_left
                                    · simp only [Act.put, List.setIfInBounds_toArray, List.set_cons_zero, List.set_cons_succ, i64_w, i32_w]
                                      rfl
                                    refine pure_ (i := 22) (N := some 103) (v := ?_) (a' := ?_) #[true, true, true, true, true, true, true, true, true, true, true, true, true, true, true, true, true, true, true, true, true, true, true, false, false, false, false, false, false, false, false, false, false] rfl rfl (any_of HT_.out (by kernel_rfl)) (fun _ _ _ h => h) (Or.inl ⟨by rfl, ?_⟩) ?_ ?_
                                    rotate_left
                                    · intro w'
                                      go_simp
                                      with_reducible rfl
                                    rotate_left
                                    · simp only [Act.put, List.setIfInBounds_toArray, List.set_cons_zero, List.set_cons_succ, i64_w, i32_w]
                                      rfl
                                    refine pure_ (i := 23) (N := some 104) (v := ?_) (a' := ?_) #[true, true, true, true, true, true, true, true, true, true, true, true, true, true, true, true, true, true, true, true, true, true, true, true, false, false, false, false, false, false, false, false, false] rfl rfl (any_of HT_.out (by kernel_rfl)) (fun _ _ _ h => h) (Or.inl ⟨by rfl, ?_⟩) ?_ ?_
                                    rotate_left
                                    · intro w'
                                      go_simp
                                      with_reducible rfl
                                    rotate_left
                                    · simp only [Act.put, List.setIfInBounds_toArray, List.set_cons_zero, List.set_cons_succ, i64_w, i32_w]
                                      rfl
                                    refine pure_ (i := 24) (N := some 105) (v := ?_) (a' := ?_) #[true, true, true, true, true, true, true, true, true, true, true, true, true, true, true, true, true, true, true, true, true, true, true, true, true, false, false, false, false, false, false, false, false] rfl rfl (any_of HT_.out (by kernel_rfl)) (fun _ _ _ h => h) (Or.inl ⟨by rfl, ?_⟩) ?_ ?_
                                    rotate_left
                                    · intro w'
                                      go_simp
                                      with_reducible rfl
                                    rotate_left
                                    · simp only [Act.put, List.setIfInBounds_toArray, List.set_cons_zero, List.set_cons_succ, i64_w, i32_w]
                                      rfl
                                    refine pure_ (i := 25) (N := some 106) (v := ?_) (a' := ?_) #[true, true, true, true, true, true, true, true, true, true, true, true, true, true, true, true, true, true, true, true, true, true, true, true, true, true, false, false, false, false, false, false, false] rfl rfl (any_of HT_.out (by kernel_rfl)) (fun _ _ _ h => h) (Or.inl ⟨by rfl, ?_⟩) ?_ ?_
                                    rotate_left
                                    · intro w'
                                      go_simp
                                      with_reducible rfl
                                    rotate_left
                                    · simp only [Act.put, List.setIfInBounds_toArray, List.set_cons_zero, List.set_cons_succ, i64_w, i32_w]
                                      rfl
                                    refine pure_ (i := 27) (N := some 108) (v := ?_) (a' := ?_) #[true, true, true, true, true, true, true, true, true, true, true, true, true, true, true, true, true, true, true, true, true, true, true, true, true, true, false, true, false, false, false, false, false] rfl rfl (any_of HT_.out (by kernel_rfl)) (fun _ _ _ h => h) (Or.inl ⟨by rfl, ?_⟩) ?_ ?_
                                    rotate_left
                                    · intro w'
                                      go_simp
                                      with_reducible rfl
                                    rotate_left
                                    · simp only [Act.put, List.setIfInBounds_toArray, List.set_cons_zero, List.set_cons_succ, i64_w, i32_w]
                                      rfl
                                    refine take_ (i := 26) (N := some 107) (v := ?_) (a' := ?_) #[true, true, true, true, true, true, true, true, true, true, true, true, true, true, true, true, true, true, true, true, true, true, true, true, true, true, true, true, false, false, false, false, false] rfl rfl (take_ofW HT_.out HW_.out (by kernel_rfl)) (fun _ _ _ h => h) (Or.inl ⟨by rfl, ?_⟩) hHeld ?_ ?_
                                    rotate_left
                                    · rintro w' ⟨s0, s1, s2, s3⟩
                                      go_simp
                                      with_reducible rfl
                                    rotate_left
                                    · simp only [Act.put, List.setIfInBounds_toArray, List.set_cons_zero, List.set_cons_succ, i64_w, i32_w]
                                      rfl
                                    refine take_ (i := 28) (N := some 109) (v := ?_) (a' := ?_) #[true, true, true, true, true, true, true, true, true, true, true, true, true, true, true, true, true, true, true, true, true, true, true, true, true, true, true, true, true, false, false, false, false] rfl rfl (take_ofW HT_.out HW_.out (by kernel_rfl)) (fun _ _ _ h => h) (Or.inl ⟨by rfl, ?_⟩) hHeld ?_ ?_
                                    rotate_left
                                    · rintro w' ⟨s0, s1, s2, s3⟩
                                      go_simp
                                      with_reducible rfl
                                    rotate_left
                                    · simp only [Act.put, List.setIfInBounds_toArray, List.set_cons_zero, List.set_cons_succ, i64_w, i32_w]
                                      rfl
                                    refine one_ (i := 29) (N := some 110) #[true, true, true, true, true, true, true, true, true, true, true, true, true, true, true, true, true, true, true, true, true, true, true, true, true, true, true, true, true, true, false, false, false] rfl rfl (one_of HT_.out (by kernel_rfl)) (by decide) (fun K hK => ?_)
                                    refine goes_ Tryd.func19 (by kernel_rfl) rfl #[.slice A324_1 ((rd_T39 t305 (ji45)).f1).length c324_1, .slice A321_1 ((rd_T39 t305 x76_2).f1).length c321_1] (by rfl) rfl rfl (by (try simp only [List.map_toArray, List.map_cons, List.map_nil]); first | done | (simp only [hji45]; rfl) | rfl | (simp only [List.length_drop, List.length_take]; rfl)) ?_
                                    with_reducible refine (storagebarterlaw30_before.calls k2 _ _ ((rd_T39 t305 (ji45)).f1) _ _ ((rd_T39 t305 x76_2).f1) true _ ?side1 ?side2 ?side3 ?side4 A48.out).mono ?_
                                    (case side1 => repeat (first | exact (by repeat (first | (with_reducible exact HR324_1.out) | (with_reducible refine Kd.C_alloc ?_ _) | (with_reducible refine Kd.C_drewN ?_ _) | (with_reducible refine Kd.C_drew ?_) | exact HR324_1.out)) | (with_reducible refine Kd.C_alloc ?_ _) | (with_reducible refine Kd.C_drewN ?_ _) | (with_reducible refine Kd.C_drew ?_)))
                                    (case side2 => exact HC324_1.out)
                                    (case side3 => repeat (first | exact ((Kd.R_reads' (by (with_reducible repeat (first | apply Kd.R_alloc | apply Kd.R_drewN | apply Kd.R_drew)); exact HL321_1.out)).2.2) | (with_reducible refine Kd.C_alloc ?_ _) | (with_reducible refine Kd.C_drewN ?_ _) | (with_reducible refine Kd.C_drew ?_)))
                                    (case side4 => exact HC321_1.out)
                                    rintro e w' ⟨rfl, ⟨nd, rfl⟩⟩
                                    refine ⟨_, rfl, ?_⟩
                                    refine hK.out _ _ ⟨(blk_cell BK322.out 0).trans rfl, (blk_cell BK322.out 1).trans rfl, hHeld.2.2.1, hHeld.2.2.2⟩ (fun hHeld => ?_)
                                    clear hK K
                                    refine norm_ (a' := ?_) ?_ ?_
                                    rotate_left
                                    · show Act.put _ (some 110) _ = _
                                      simp only [Act.put, List.setIfInBounds_toArray, List.set_cons_zero, List.set_cons_succ, i64_w, i32_w]
                                      rfl
                                    refine pure_ (i := 30) (N := some 111) (v := ?_) (a' := ?_) #[true, true, true, true, true, true, true, true, true, true, true, true, true, true, true, true, true, true, true, true, true, true, true, true, true, true, true, true, true, true, true, false, false] rfl rfl (any_of HT_.out (by kernel_rfl)) (fun _ _ _ h => h) (Or.inl ⟨by rfl, ?_⟩) ?_ ?_
                                    rotate_left
                                    · intro w'
                                      go_simp
                                      with_reducible rfl
                                    rotate_left
                                    · simp only [Act.put, List.setIfInBounds_toArray, List.set_cons_zero, List.set_cons_succ, i64_w, i32_w]
                                      rfl
                                    refine pure_ (i := 31) (N := some 112) (v := ?_) (a' := ?_) #[true, true, true, true, true, true, true, true, true, true, true, true, true, true, true, true, true, true, true, true, true, true, true, true, true, true, true, true, true, true, true, true, false] rfl rfl (any_of HT_.out (by kernel_rfl)) (fun _ _ _ h => h) (Or.inl ⟨by rfl, ?_⟩) ?_ ?_
                                    rotate_left
                                    · intro w'
                                      go_simp
                                      with_reducible rfl
                                    rotate_left
                                    · simp only [Act.put, List.setIfInBounds_toArray, List.set_cons_zero, List.set_cons_succ, i64_w, i32_w]
                                      rfl
                                    refine pure_ (i := 32) (N := some 113) (v := ?_) (a' := ?_) #[true, true, true, true, true, true, true, true, true, true, true, true, true, true, true, true, true, true, true, true, true, true, true, true, true, true, true, true, true, true, true, true, true] rfl rfl (any_of HT_.out (by kernel_rfl)) (fun _ _ _ h => h) (Or.inl ⟨by rfl, ?_⟩) ?_ ?_
                                    rotate_left
                                    · intro w'
                                      go_simp
                                      with_reducible rfl
                                    rotate_left
                                    · simp only [Act.put, List.setIfInBounds_toArray, List.set_cons_zero, List.set_cons_succ, i64_w, i32_w]
                                      rfl
                                    refine done_ (done_of HT_.out (by kernel_rfl)) ?_
                                    have hcz64_0 : w63.cell? ⟨gb322, 0, none⟩ = some (.int .i64 ((rd_T39 t305 x76_2).f0)) := (blk_cell BK322.out 0).trans rfl
                                    have hcz64_1 : w63.cell? ⟨gb322, 1, none⟩ = some (.slice A321_1 ((rd_T39 t305 x76_2).f1).length c321_1) := (blk_cell BK322.out 1).trans rfl
                                    have hfz64_0 := blk_frozen BK322.out 0
                                    have hfz64_1 := blk_frozen BK322.out 1
                                    have hcz65_0 : w63.cell? ⟨gb320, 0, none⟩ = some (.int .i64 t315) := (blk_cell BK320.out 0).trans rfl
                                    have hcz65_1 : w63.cell? ⟨gb320, 1, none⟩ = some (.slice Ao35 t316.length co35) := (blk_cell BK320.out 1).trans rfl
                                    have hfz65_0 := blk_frozen BK320.out 0
                                    have hfz65_1 := blk_frozen BK320.out 1
                                    try go_wp2_with (first | (go_at_call 20; (with_reducible refine (deviation_Same.calls k2 ((rd_T39 t305 x76_2).f0) _ _ ((rd_T39 t305 x76_2).f1) t315 _ _ t316 t326 _ ?side1 ?side2 ?side3 ?side4 A57.out).mono ?_); (case side1 => repeat (first | exact ((Kd.R_reads' (by (with_reducible repeat (first | apply Kd.R_alloc | apply Kd.R_drewN | apply Kd.R_drew)); exact HL321_1.out)).2.2) | (with_reducible refine Kd.C_alloc ?_ _) | (with_reducible refine Kd.C_drewN ?_ _) | (with_reducible refine Kd.C_drew ?_))); (case side2 => exact HC321_1.out); (case side3 => repeat (first | exact (Kd.R_reads' HO_321001.out).2.2 | (with_reducible refine Kd.C_alloc ?_ _) | (with_reducible refine Kd.C_drewN ?_ _) | (with_reducible refine Kd.C_drew ?_))); (case side4 => exact (Kd.R_reads' HO_321001.out).2.1); rintro e w66 ⟨rfl, hb⟩; have n0_ := Aside0.mk (Kd.R_below (by (with_reducible repeat (first | apply Kd.R_alloc | apply Kd.R_drewN | apply Kd.R_drew)); exact HO_6.out) hb); have n1_ := Aside0.mk (Kd.S_below (by (with_reducible repeat (first | apply Kd.S_alloc | apply Kd.S_drewN | apply Kd.S_drew)); exact HO_9.out) hb); have n2_ := Aside0.mk (Kd.S_below (by (with_reducible repeat (first | apply Kd.S_alloc | apply Kd.S_drewN | apply Kd.S_drew)); exact HO_74.out) hb); have n3_ := Aside0.mk (Kd.R_below (by (with_reducible repeat (first | apply Kd.R_alloc | apply Kd.R_drewN | apply Kd.R_drew)); exact HO_321001.out) hb); have n4_ := Aside0.mk (Kd.R_below (by (with_reducible repeat (first | apply Kd.R_alloc | apply Kd.R_drewN | apply Kd.R_drew)); exact HL321_1.out) hb); have n5_ := Aside0.mk (Kd.R_below (by (with_reducible repeat (first | apply Kd.R_alloc | apply Kd.R_drewN | apply Kd.R_drew)); exact HL324_1.out) hb); have n6_ := Aside0.mk (blk_below (g := gb320) (o := .cells #[.int .i64 t315, .slice Ao35 t316.length co35] 39 (0, 0)) (by (with_reducible repeat (first | refine blk_drewN ?_ _ | refine blk_drew ?_ | refine blk_alloc ?_ _)); exact BK320.out) hb); have n7_ := Aside0.mk (blk_below (g := gb322) (o := .cells #[.int .i64 ((rd_T39 t305 x76_2).f0), .slice A321_1 ((rd_T39 t305 x76_2).f1).length c321_1] 39 (0, 0)) (by (with_reducible repeat (first | refine blk_drewN ?_ _ | refine blk_drew ?_ | refine blk_alloc ?_ _)); exact BK322.out) hb); have n8_ := Aside0.mk (Kd.C_below (by repeat (first | (with_reducible exact HR324_1.out) | (with_reducible refine Kd.C_alloc ?_ _) | (with_reducible refine Kd.C_drewN ?_ _) | (with_reducible refine Kd.C_drew ?_) | exact HR324_1.out)) hb); have n9_ := Aside0.mk (below_step (by repeat (first | (with_reducible first | exact HB.out | apply below_alloc | apply pw_below_drewN | apply below_drew1 | refine below_set ?_ GE320.out | refine below_set ?_ GE322.out) | exact HB.out)) hb); clear HO_6; clear HO_9; clear HO_74; clear HO_321001; clear HL321_1; clear HL324_1; clear BK320; clear BK322; clear HR324_1; clear HB; have HO_6 := n0_; have HO_9 := n1_; have HO_74 := n2_; have HO_321001 := n3_; have HL321_1 := n4_; have HL324_1 := n5_; have BK320 := n6_; have BK322 := n7_; have HR324_1 := n8_; have HB := n9_; clear n0_ n1_ n2_ n3_ n4_ n5_ n6_ n7_ n8_ n9_; (try clear hb); (try clear hb2); (try clear hk); (try clear hi); (try clear hgw)))
                                    go_roundg k2
                                    case measure => have := HJ10.out; have := HK2.out; omega
                                    case rel => exact ⟨(t326), (wrap64 (x76_2 + 1)), (by first | rfl | (simp; done) | (simp [*]; done)), (by first | rfl | (simp; done) | (simp [*]; done)), H', ⟨by have := HJ10.out; have := HK2.out; omega⟩, ⟨by (with_reducible repeat (first | apply Kd.R_alloc | apply Kd.R_drewN | apply Kd.R_drew)); exact HO_6.out⟩, ⟨by (with_reducible repeat (first | apply Kd.S_alloc | apply Kd.S_drewN | apply Kd.S_drew)); exact Kd.S_mono HO_9.out (fun _ hk => ⟨hk.1, hk.2.1⟩)⟩, ⟨by (with_reducible repeat (first | apply Kd.S_alloc | apply Kd.S_drewN | apply Kd.S_drew)); exact Kd.S_mono HO_74.out (fun _ hk => ⟨hk.1, hk.2.1⟩)⟩, ⟨by (with_reducible repeat (first | apply Kd.R_alloc | apply Kd.R_drewN | apply Kd.R_drew)); exact HO_321001.out⟩, ⟨by (with_reducible repeat (first | refine blk_drewN ?_ _ | refine blk_drew ?_ | refine blk_alloc ?_ _)); exact BK320.out⟩, ⟨by repeat (first | (with_reducible first | exact HB.out | apply below_alloc | apply pw_below_drewN | apply below_drew1 | refine below_set ?_ GE320.out | refine below_set ?_ GE322.out) | exact HB.out)⟩⟩
                                · replace c49 := Bool.eq_false_iff.mpr c49
                                  subst c49
                                  have H1 : (some false) = some r := by rw [if_neg (show ¬ (false = true) by decide)] at H; exact H
                                  clear H
                                  have H := H1
                                  clear H1
                                  exact absurd (Option.some.inj H) (by rw [HRT_.out]; decide)
                              · rw [if_neg c47] at H
                                exact absurd H (by simp)
                            · rw [if_neg c46] at H
                              exact absurd H (by simp)
                          · rw [if_neg c44] at H
                            have c44b0 : decide (0 < x76_2) = false := decide_eq_false c44
                            clear c44
                            by_cases c67 : x14_2 = true
                            · subst c67
                              have H1 : (storagebarterlaw30_DeviationAll.l0 k2 t299 (wrap64 (1 + t303)) (Int.tmod (wrap64 (a1)) 3) t305 true t305 (t305.length : Int) (wrap64 (x76_2 + 1)) t315 t316) = some r := by rw [if_pos rfl] at H; exact H
                              clear H
                              have H := H1
                              clear H1
                              have H' := Aside0.mk H
                              clear H
                              have p321 : 0 ≤ (x76_2 : Int) := of_decide_eq_true (by first | (with_reducible assumption) | assumption)
                              have q321 : x76_2 < (t305.length : Int) := of_decide_eq_true (by first | (with_reducible assumption) | assumption)
                              obtain ⟨ad321, A321_1, c321_1, e321, hx321_0, hx321_1, hl321_1, hi321_1⟩ := at_T39 (Kd.S_reads' HO_74.out).2.2 x76_2 p321 q321
                              cases e321
                              obtain ⟨ce321, hce321, hMe321, hcc321⟩ := Kd.S_get HO_74.out z39 x76_2 p321 (by first | exact q321 | exact of_decide_eq_true (by first | (with_reducible assumption) | assumption) | (have e_ := (Kd.S_reads' HO_74.out).1; omega))
                              obtain ⟨ve321_1, rfl, ge321_1⟩ := k39_openM hMe321
                              have hv321_1 := hcc321 1 _ rfl
                              rw [add_field _ _ 1 (by omega)] at hv321_1
                              replace hv321_1 := Option.some.inj (hv321_1.symm.trans hx321_1)
                              rw [hv321_1] at ge321_1
                              have HL321_1 := Aside0.mk (show Kd.R k51 51 _ _ _ _ ((rd_T39 t305 x76_2).f1) from ge321_1)
                              clear hv321_1 ge321_1
                              clear hcc321 hce321
                              have HR321_1 := Aside0.mk hi321_1
                              have HC321_1 := Aside0.mk hl321_1
                              clear hi321_1 hl321_1
                              replace p321 := eq_true p321
                              replace q321 := eq_true q321
                              try go_wp2_with (first | ((with_reducible refine gate_dst (N := 16) rfl ?_); (try (refine gate_guard (by rfl) ?_; dsimp only)); refine box_event ?hg (N := 16) ?hd (cs := #[.int .i64 0, .slice none 0 0]) (t := 39) ?hr ?_; (case hd => rfl); (case hg => rfl); (case hr => first | (go_simp; done) | (go_simp; rfl)); intro gb322 hg w68 hbox hb; have n0_ := Aside0.mk (Kd.R_below (by (with_reducible repeat (first | apply Kd.R_alloc | apply Kd.R_drewN | apply Kd.R_drew)); exact HO_6.out) hb); have n1_ := Aside0.mk (Kd.S_below (Kd.S_elderB (by (with_reducible repeat (first | apply Kd.S_alloc | apply Kd.S_drewN | apply Kd.S_drew)); exact HO_9.out) gb322 (Nat.le_of_eq hg.symm)) hb); have n2_ := Aside0.mk (Kd.S_below (Kd.S_elderB (by (with_reducible repeat (first | apply Kd.S_alloc | apply Kd.S_drewN | apply Kd.S_drew)); exact HO_74.out) gb322 (Nat.le_of_eq hg.symm)) hb); have n3_ := Aside0.mk (Kd.R_below (by (with_reducible repeat (first | apply Kd.R_alloc | apply Kd.R_drewN | apply Kd.R_drew)); exact HO_321001.out) hb); have n4_ := Aside0.mk (Kd.R_below (by (with_reducible repeat (first | apply Kd.R_alloc | apply Kd.R_drewN | apply Kd.R_drew)); exact HL321_1.out) hb); have n5_ := Aside0.mk (blk_below (g := gb320) (o := .cells #[.int .i64 t315, .slice Ao35 t316.length co35] 39 (0, 0)) (by (with_reducible repeat (first | refine blk_drewN ?_ _ | refine blk_drew ?_ | refine blk_alloc ?_ _)); exact BK320.out) hb); have n6_ := Aside0.mk (Kd.C_below (by repeat (first | (with_reducible exact HR321_1.out) | (with_reducible refine Kd.C_alloc ?_ _) | (with_reducible refine Kd.C_drewN ?_ _) | (with_reducible refine Kd.C_drew ?_) | exact HR321_1.out)) hb); have n7_ := Aside0.mk (below_step (by repeat (first | (with_reducible first | exact HB.out | apply below_alloc | apply pw_below_drewN | apply below_drew1 | refine below_set ?_ GE320.out) | exact HB.out)) hb); have n8_ := Aside0.mk (hbox); have n9_ := Aside0.mk ((by rw [hg]; exact (below_size (by repeat (first | (with_reducible first | exact HB.out | apply below_alloc | apply pw_below_drewN | apply below_drew1 | refine below_set ?_ GE320.out) | exact HB.out))) : w.heap.size ≤ gb322)); have n10_ := Aside0.mk ((by rw [hg]; exact (below_size (by repeat (first | (with_reducible first | exact HB.out | apply below_alloc | apply pw_below_drewN | apply below_drew1 | refine below_set ?_ GE320.out) | exact HB.out))) : w.heap.size ≤ gb322)); have n11_ := Aside0.mk ((by rw [hg]; exact Nat.ne_of_lt (blk_lt (g := gb320) (o := .cells #[.int .i64 t315, .slice Ao35 t316.length co35] 39 (0, 0)) (by (with_reducible repeat (first | refine blk_drewN ?_ _ | refine blk_drew ?_ | refine blk_alloc ?_ _)); exact BK320.out)) : gb320 ≠ gb322)); have n12_ := Aside0.mk ((by rw [hg]; exact Nat.ne_of_gt (blk_lt (g := gb320) (o := .cells #[.int .i64 t315, .slice Ao35 t316.length co35] 39 (0, 0)) (by (with_reducible repeat (first | refine blk_drewN ?_ _ | refine blk_drew ?_ | refine blk_alloc ?_ _)); exact BK320.out)) : gb322 ≠ gb320)); clear HO_6; clear HO_9; clear HO_74; clear HO_321001; clear HL321_1; clear BK320; clear HR321_1; clear HB; have HO_6 := n0_; have HO_9 := n1_; have HO_74 := n2_; have HO_321001 := n3_; have HL321_1 := n4_; have BK320 := n5_; have HR321_1 := n6_; have HB := n7_; have BK322 := n8_; have GW322 := n9_; have GE322 := n10_; have NB320_322 := n11_; have NB322_320 := n12_; clear n0_ n1_ n2_ n3_ n4_ n5_ n6_ n7_ n8_ n9_ n10_ n11_ n12_; clear hb hbox hg; have hnb69 := NB322_320.out; have hnc69 := NB320_322.out; have hcz70_0 : w68.cell? ⟨gb322, 0, none⟩ = some (.int .i64 0) := (blk_cell BK322.out 0).trans rfl; have hcz70_1 : w68.cell? ⟨gb322, 1, none⟩ = some (.slice none 0 0) := (blk_cell BK322.out 1).trans rfl; have hfz70_0 := blk_frozen BK322.out 0; have hfz70_1 := blk_frozen BK322.out 1))
                              have n0_ : Aside0 (Kd.R k56 56 ((w68.setCell ⟨gb322, 0, none⟩ (.int .i64 ((rd_T39 t305 x76_2).f0))).setCell ⟨gb322, 1, none⟩ (.slice A321_1 ((rd_T39 t305 x76_2).f1).length c321_1)) w.heap.size (fun _ => True) (.slice Ao16 t299.length co16) t299) := ⟨by (with_reducible repeat (first | apply Kd.R_alloc | apply Kd.R_drewN | apply Kd.R_drew)); exact Kd.R_mono (Kd.R_far (p := ⟨gb322, 1, none⟩) (Kd.R_far (p := ⟨gb322, 0, none⟩) (Kd.R_types HO_6.out BK322.out (by decide)) (fun _ hk => hk.2) (.int .i64 ((rd_T39 t305 x76_2).f0))) (fun _ hk => hk.2) (.slice A321_1 ((rd_T39 t305 x76_2).f1).length c321_1)) (fun _ hk => trivial)⟩
                              have n1_ : Aside0 (Kd.S k39 39 ((w68.setCell ⟨gb322, 0, none⟩ (.int .i64 ((rd_T39 t305 x76_2).f0))).setCell ⟨gb322, 1, none⟩ (.slice A321_1 ((rd_T39 t305 x76_2).f1).length c321_1)) w.heap.size (fun k_ => some k_ ≠ (.slice Ao35 t316.length co35 : Value).ownBlock ∧ k_ ≠ gb320 ∧ k_ ≠ gb322) (.slice (some ad321) t305.length co36) t305) := ⟨by (with_reducible repeat (first | apply Kd.S_alloc | apply Kd.S_drewN | apply Kd.S_drew)); exact Kd.S_mono (Kd.S_far (p := ⟨gb322, 1, none⟩) (Kd.S_far (p := ⟨gb322, 0, none⟩) (Kd.S_mono HO_9.out (fun k_ hk => (⟨hk, hk.2⟩ : _ ∧ k_ ≠ gb322))) (fun _ hk => hk.2) (.int .i64 ((rd_T39 t305 x76_2).f0))) (fun _ hk => hk.2) (.slice A321_1 ((rd_T39 t305 x76_2).f1).length c321_1)) (fun _ hk => ⟨hk.1.1.1, ⟨hk.1.1.2, hk.1.2⟩⟩)⟩
                              have n2_ : Aside0 (Kd.S k39 39 ((w68.setCell ⟨gb322, 0, none⟩ (.int .i64 ((rd_T39 t305 x76_2).f0))).setCell ⟨gb322, 1, none⟩ (.slice A321_1 ((rd_T39 t305 x76_2).f1).length c321_1)) w.heap.size (fun k_ => some k_ ≠ (.slice Ao35 t316.length co35 : Value).ownBlock ∧ k_ ≠ gb320 ∧ k_ ≠ gb322) (.slice (some ad321) t305.length co36) t305) := ⟨by (with_reducible repeat (first | apply Kd.S_alloc | apply Kd.S_drewN | apply Kd.S_drew)); exact Kd.S_mono (Kd.S_far (p := ⟨gb322, 1, none⟩) (Kd.S_far (p := ⟨gb322, 0, none⟩) (Kd.S_mono HO_74.out (fun k_ hk => (⟨hk, hk.2⟩ : _ ∧ k_ ≠ gb322))) (fun _ hk => hk.2) (.int .i64 ((rd_T39 t305 x76_2).f0))) (fun _ hk => hk.2) (.slice A321_1 ((rd_T39 t305 x76_2).f1).length c321_1)) (fun _ hk => ⟨hk.1.1.1, ⟨hk.1.1.2, hk.1.2⟩⟩)⟩
                              have n3_ : Aside0 (Kd.R k51 51 ((w68.setCell ⟨gb322, 0, none⟩ (.int .i64 ((rd_T39 t305 x76_2).f0))).setCell ⟨gb322, 1, none⟩ (.slice A321_1 ((rd_T39 t305 x76_2).f1).length c321_1)) w.heap.size (fun _ => True) (.slice Ao35 t316.length co35) t316) := ⟨by (with_reducible repeat (first | apply Kd.R_alloc | apply Kd.R_drewN | apply Kd.R_drew)); exact Kd.R_mono (Kd.R_far (p := ⟨gb322, 1, none⟩) (Kd.R_far (p := ⟨gb322, 0, none⟩) (Kd.R_types HO_321001.out BK322.out (by decide)) (fun _ hk => hk.2) (.int .i64 ((rd_T39 t305 x76_2).f0))) (fun _ hk => hk.2) (.slice A321_1 ((rd_T39 t305 x76_2).f1).length c321_1)) (fun _ hk => trivial)⟩
                              have n4_ : Aside0 (Kd.R k51 51 ((w68.setCell ⟨gb322, 0, none⟩ (.int .i64 ((rd_T39 t305 x76_2).f0))).setCell ⟨gb322, 1, none⟩ (.slice A321_1 ((rd_T39 t305 x76_2).f1).length c321_1)) w.heap.size (fun k_ => some k_ ≠ (.slice (some ad321) t305.length co36 : Value).ownBlock ∧ some k_ ≠ (.slice Ao35 t316.length co35 : Value).ownBlock ∧ k_ ≠ gb320) (.slice A321_1 ((rd_T39 t305 x76_2).f1).length c321_1) ((rd_T39 t305 x76_2).f1)) := ⟨by (with_reducible repeat (first | apply Kd.R_alloc | apply Kd.R_drewN | apply Kd.R_drew)); exact Kd.R_mono (Kd.R_far (p := ⟨gb322, 1, none⟩) (Kd.R_far (p := ⟨gb322, 0, none⟩) (Kd.R_types HL321_1.out BK322.out (by decide)) (fun _ hk => hk.2) (.int .i64 ((rd_T39 t305 x76_2).f0))) (fun _ hk => hk.2) (.slice A321_1 ((rd_T39 t305 x76_2).f1).length c321_1)) (fun _ hk => ⟨hk.1.2, ⟨hk.1.1.1, hk.1.1.2⟩⟩)⟩
                              have n5_ : Aside0 (((w68.setCell ⟨gb322, 0, none⟩ (.int .i64 ((rd_T39 t305 x76_2).f0))).setCell ⟨gb322, 1, none⟩ (.slice A321_1 ((rd_T39 t305 x76_2).f1).length c321_1)).heap[gb320]? = some (.cells #[.int .i64 t315, .slice Ao35 t316.length co35] 39 (0, 0))) := ⟨by (with_reducible repeat (first | refine blk_drewN ?_ _ | refine blk_drew ?_ | refine blk_alloc ?_ _)); refine blk_far ?_ NB320_322.out _; (with_reducible repeat (first | refine blk_drewN ?_ _ | refine blk_drew ?_ | refine blk_alloc ?_ _)); refine blk_far ?_ NB320_322.out _; (with_reducible repeat (first | refine blk_drewN ?_ _ | refine blk_drew ?_ | refine blk_alloc ?_ _)); exact BK320.out⟩
                              have n6_ : Aside0 (((w68.setCell ⟨gb322, 0, none⟩ (.int .i64 ((rd_T39 t305 x76_2).f0))).setCell ⟨gb322, 1, none⟩ (.slice A321_1 ((rd_T39 t305 x76_2).f1).length c321_1)).heap[gb322]? = some (.cells #[.int .i64 ((rd_T39 t305 x76_2).f0), .slice A321_1 ((rd_T39 t305 x76_2).f1).length c321_1] 39 (0, 0))) := ⟨by (with_reducible repeat (first | refine blk_drewN ?_ _ | refine blk_drew ?_ | refine blk_alloc ?_ _)); refine blk_put (cs := #[.int .i64 ((rd_T39 t305 x76_2).f0), .slice none 0 0]) ?_ 1 _ rfl; (with_reducible repeat (first | refine blk_drewN ?_ _ | refine blk_drew ?_ | refine blk_alloc ?_ _)); refine blk_put (cs := #[.int .i64 0, .slice none 0 0]) ?_ 0 _ rfl; (with_reducible repeat (first | refine blk_drewN ?_ _ | refine blk_drew ?_ | refine blk_alloc ?_ _)); exact BK322.out⟩
                              have n7_ : Aside0 (Below w.heap.size w ((w68.setCell ⟨gb322, 0, none⟩ (.int .i64 ((rd_T39 t305 x76_2).f0))).setCell ⟨gb322, 1, none⟩ (.slice A321_1 ((rd_T39 t305 x76_2).f1).length c321_1))) := ⟨by repeat (first | (with_reducible first | exact HB.out | apply below_alloc | apply pw_below_drewN | apply below_drew1 | refine below_set ?_ GE320.out | refine below_set ?_ GE322.out) | exact HB.out)⟩
                              (try clear HO_6)
                              (try clear HO_9)
                              (try clear HO_74)
                              (try clear HO_321001)
                              (try clear HL321_1)
                              (try clear BK320)
                              (try clear BK322)
                              (try clear HB)
                              generalize ((w68.setCell ⟨gb322, 0, none⟩ (.int .i64 ((rd_T39 t305 x76_2).f0))).setCell ⟨gb322, 1, none⟩ (.slice A321_1 ((rd_T39 t305 x76_2).f1).length c321_1)) = w71 at n0_ n1_ n2_ n3_ n4_ n5_ n6_ n7_ ⊢
                              have HO_6 := n0_
                              have HO_9 := n1_
                              have HO_74 := n2_
                              have HO_321001 := n3_
                              have HL321_1 := n4_
                              have BK320 := n5_
                              have BK322 := n6_
                              have HB := n7_
                              clear n0_ n1_ n2_ n3_ n4_ n5_ n6_ n7_
                              have n0_ := Aside0.mk (Kd.R_drew HO_6.out)
                              have n1_ := Aside0.mk (Kd.S_drew HO_9.out)
                              have n2_ := Aside0.mk (Kd.S_drew HO_74.out)
                              have n3_ := Aside0.mk (Kd.R_drew HO_321001.out)
                              have n4_ := Aside0.mk (Kd.R_drew HL321_1.out)
                              have n5_ := Aside0.mk (blk_drew BK320.out)
                              have n6_ := Aside0.mk (blk_drew BK322.out)
                              have n7_ := Aside0.mk (below_drew1 HB.out)
                              clear HO_6
                              clear HO_9
                              clear HO_74
                              clear HO_321001
                              clear HL321_1
                              clear BK320
                              clear BK322
                              clear HB
                              have HO_6 := n0_
                              have HO_9 := n1_
                              have HO_74 := n2_
                              have HO_321001 := n3_
                              have HL321_1 := n4_
                              have BK320 := n5_
                              have BK322 := n6_
                              have HB := n7_
                              clear n0_ n1_ n2_ n3_ n4_ n5_ n6_ n7_
                              refine start_ (n := 33) (S := fun w' => w'.cell? ⟨gb322, 0, none⟩ = some (.int .i64 ((rd_T39 t305 x76_2).f0)) ∧ w'.cell? ⟨gb322, 1, none⟩ = some (.slice A321_1 ((rd_T39 t305 x76_2).f1).length c321_1)) (ds := []) #[false, false, false, false, false, false, false, false, false, false, false, false, false, false, false, false, false, false, false, false, false, false, false, false, false, false, false, false, false, false, false, false, false] (by kernel_rfl) rfl rfl ⟨(blk_cell BK322.out 0).trans rfl, (blk_cell BK322.out 1).trans rfl⟩ (fun hHeld => ?_); refine with_tabW storagebarterlaw30_DeviationAll.tab15 storagebarterlaw30_DeviationAll.bits15 (fun HT_ HW_ => ?_)
                              generalize w71.drew = w72 at HO_6 HO_9 HO_74 HO_321001 HL321_1 BK320 BK322 HB hHeld ⊢
                              refine pure_ (i := 0) (N := some 81) (v := ?_) (a' := ?_) #[true, false, false, false, false, false, false, false, false, false, false, false, false, false, false, false, false, false, false, false, false, false, false, false, false, false, false, false, false, false, false, false, false] rfl rfl (any_of HT_.out (by kernel_rfl)) (fun _ _ _ h => h) (Or.inl ⟨by rfl, ?_⟩) ?_ ?_
                              rotate_left
                              · intro w'
                                go_simp
                                with_reducible rfl
                              rotate_left
                              · simp only [Act.put, List.setIfInBounds_toArray, List.set_cons_zero, List.set_cons_succ, i64_w, i32_w]
                                rfl
                              refine take_ (i := 1) (N := some 82) (v := ?_) (a' := ?_) #[true, true, false, false, false, false, false, false, false, false, false, false, false, false, false, false, false, false, false, false, false, false, false, false, false, false, false, false, false, false, false, false, false] rfl rfl (take_ofW HT_.out HW_.out (by kernel_rfl)) (fun _ _ _ h => h) (Or.inl ⟨by rfl, ?_⟩) hHeld ?_ ?_
                              rotate_left
                              · rintro w' ⟨s0, s1⟩
                                go_simp
                                with_reducible rfl
                              rotate_left
                              · simp only [Act.put, List.setIfInBounds_toArray, List.set_cons_zero, List.set_cons_succ, i64_w, i32_w]
                                rfl
                              refine one_ (i := 2) (N := some 83) #[true, true, true, false, false, false, false, false, false, false, false, false, false, false, false, false, false, false, false, false, false, false, false, false, false, false, false, false, false, false, false, false, false] rfl rfl (one_of HT_.out (by kernel_rfl)) (by decide) (fun K hK => ?_)
                              refine goes_ Tryd.func18 (by kernel_rfl) rfl #[.slice Ao16 t299.length co16, .agg #[.int .i64 ((rd_T39 t305 x76_2).f0), .slice A321_1 ((rd_T39 t305 x76_2).f1).length c321_1]] (by rfl) rfl rfl (by (try simp only [List.map_toArray, List.map_cons, List.map_nil]); first | done | rfl | (simp only [List.length_drop, List.length_take]; rfl)) ?_
                              with_reducible refine (deviation_Valid.calls _ _ t299 ((rd_T39 t305 x76_2).f0) _ _ ((rd_T39 t305 x76_2).f1) true _ ?side1 ?side2 ?side3 ?side4 A40.out (by first | exact HL_.out | exact laid_below HL_.out (by repeat (first | (with_reducible first | exact HB.out | apply below_alloc | apply pw_below_drewN | apply below_drew1) | refine below_set ?_ (Aside0.out (by assumption)) | exact HB.out)) | exact laid_drawn HL_.out HD.out | exact laid_drawn HL_.out (HD.out.step _))).mono ?_
                              (case side1 => repeat (first | exact (Kd.R_reads' HO_6.out).2.2 | (with_reducible refine Kd.C_alloc ?_ _) | (with_reducible refine Kd.C_drewN ?_ _) | (with_reducible refine Kd.C_drew ?_)))
                              (case side2 => exact (Kd.R_reads' HO_6.out).2.1)
                              (case side3 => repeat (first | exact ((Kd.R_reads' (by (with_reducible repeat (first | apply Kd.R_alloc | apply Kd.R_drewN | apply Kd.R_drew)); exact HL321_1.out)).2.2) | (with_reducible refine Kd.C_alloc ?_ _) | (with_reducible refine Kd.C_drewN ?_ _) | (with_reducible refine Kd.C_drew ?_)))
                              (case side4 => exact HC321_1.out)
                              rintro e w73 ⟨rfl, hb⟩
                              refine ⟨_, rfl, ?_⟩
                              have n0_ := Aside0.mk (Kd.R_below (by (with_reducible repeat (first | apply Kd.R_alloc | apply Kd.R_drewN | apply Kd.R_drew)); exact HO_6.out) hb)
                              have n1_ := Aside0.mk (Kd.S_below (by (with_reducible repeat (first | apply Kd.S_alloc | apply Kd.S_drewN | apply Kd.S_drew)); exact HO_9.out) hb)
                              have n2_ := Aside0.mk (Kd.S_below (by (with_reducible repeat (first | apply Kd.S_alloc | apply Kd.S_drewN | apply Kd.S_drew)); exact HO_74.out) hb)
                              have n3_ := Aside0.mk (Kd.R_below (by (with_reducible repeat (first | apply Kd.R_alloc | apply Kd.R_drewN | apply Kd.R_drew)); exact HO_321001.out) hb)
                              have n4_ := Aside0.mk (Kd.R_below (by (with_reducible repeat (first | apply Kd.R_alloc | apply Kd.R_drewN | apply Kd.R_drew)); exact HL321_1.out) hb)
                              have n5_ := Aside0.mk (blk_below (g := gb320) (o := .cells #[.int .i64 t315, .slice Ao35 t316.length co35] 39 (0, 0)) (by (with_reducible repeat (first | refine blk_drewN ?_ _ | refine blk_drew ?_ | refine blk_alloc ?_ _)); exact BK320.out) hb)
                              have n6_ := Aside0.mk (blk_below (g := gb322) (o := .cells #[.int .i64 ((rd_T39 t305 x76_2).f0), .slice A321_1 ((rd_T39 t305 x76_2).f1).length c321_1] 39 (0, 0)) (by (with_reducible repeat (first | refine blk_drewN ?_ _ | refine blk_drew ?_ | refine blk_alloc ?_ _)); exact BK322.out) hb)
                              have n7_ := Aside0.mk (below_step (by repeat (first | (with_reducible first | exact HB.out | apply below_alloc | apply pw_below_drewN | apply below_drew1 | refine below_set ?_ GE320.out | refine below_set ?_ GE322.out) | exact HB.out)) hb)
                              clear HO_6
                              clear HO_9
                              clear HO_74
                              clear HO_321001
                              clear HL321_1
                              clear BK320
                              clear BK322
                              clear HB
                              have HO_6 := n0_
                              have HO_9 := n1_
                              have HO_74 := n2_
                              have HO_321001 := n3_
                              have HL321_1 := n4_
                              have BK320 := n5_
                              have BK322 := n6_
                              have HB := n7_
                              clear n0_ n1_ n2_ n3_ n4_ n5_ n6_ n7_
                              (try clear hb)
                              (try clear hb2)
                              (try clear hk)
                              (try clear hi)
                              (try clear hgw)
                              refine hK.out _ _ ⟨(blk_cell BK322.out 0).trans rfl, (blk_cell BK322.out 1).trans rfl⟩ (fun hHeld => ?_)
                              clear hK K
                              refine norm_ (a' := ?_) ?_ ?_
                              rotate_left
                              · show Act.put _ (some 83) _ = _
                                simp only [Act.put, List.setIfInBounds_toArray, List.set_cons_zero, List.set_cons_succ, i64_w, i32_w]
                                rfl
                              refine pure_ (i := 3) (N := some 84) (v := ?_) (a' := ?_) #[true, true, true, true, false, false, false, false, false, false, false, false, false, false, false, false, false, false, false, false, false, false, false, false, false, false, false, false, false, false, false, false, false] rfl rfl (any_of HT_.out (by kernel_rfl)) (fun _ _ _ h => h) (Or.inl ⟨by rfl, ?_⟩) ?_ ?_
                              rotate_left
                              · intro w'
                                go_simp
                                with_reducible rfl
                              rotate_left
                              · simp only [Act.put, List.setIfInBounds_toArray, List.set_cons_zero, List.set_cons_succ, i64_w, i32_w]
                                rfl
                              refine pure_ (i := 4) (N := some 85) (v := ?_) (a' := ?_) #[true, true, true, true, true, false, false, false, false, false, false, false, false, false, false, false, false, false, false, false, false, false, false, false, false, false, false, false, false, false, false, false, false] rfl rfl (any_of HT_.out (by kernel_rfl)) (fun _ _ _ h => h) (Or.inl ⟨by rfl, ?_⟩) ?_ ?_
                              rotate_left
                              · intro w'
                                go_simp
                                with_reducible rfl
                              rotate_left
                              · simp only [Act.put, List.setIfInBounds_toArray, List.set_cons_zero, List.set_cons_succ, i64_w, i32_w]
                                rfl
                              refine pure_ (i := 5) (N := some 86) (v := ?_) (a' := ?_) #[true, true, true, true, true, true, false, false, false, false, false, false, false, false, false, false, false, false, false, false, false, false, false, false, false, false, false, false, false, false, false, false, false] rfl rfl (any_of HT_.out (by kernel_rfl)) (fun _ _ _ h => h) (Or.inl ⟨by rfl, ?_⟩) ?_ ?_
                              rotate_left
                              · intro w'
                                go_simp
                                with_reducible rfl
                              rotate_left
                              · simp only [Act.put, List.setIfInBounds_toArray, List.set_cons_zero, List.set_cons_succ, i64_w, i32_w]
                                rfl
                              refine pure_ (i := 7) (N := some 88) (v := ?_) (a' := ?_) #[true, true, true, true, true, true, false, true, false, false, false, false, false, false, false, false, false, false, false, false, false, false, false, false, false, false, false, false, false, false, false, false, false] rfl rfl (any_of HT_.out (by kernel_rfl)) (fun _ _ _ h => h) (Or.inl ⟨by rfl, ?_⟩) ?_ ?_
                              rotate_left
                              · intro w'
                                go_simp
                                with_reducible rfl
                              rotate_left
                              · simp only [Act.put, List.setIfInBounds_toArray, List.set_cons_zero, List.set_cons_succ, i64_w, i32_w]
                                rfl
                              refine take_ (i := 6) (N := some 87) (v := ?_) (a' := ?_) #[true, true, true, true, true, true, true, true, false, false, false, false, false, false, false, false, false, false, false, false, false, false, false, false, false, false, false, false, false, false, false, false, false] rfl rfl (take_ofW HT_.out HW_.out (by kernel_rfl)) (fun _ _ _ h => h) (Or.inl ⟨by rfl, ?_⟩) hHeld ?_ ?_
                              rotate_left
                              · rintro w' ⟨s0, s1⟩
                                go_simp
                                with_reducible rfl
                              rotate_left
                              · simp only [Act.put, List.setIfInBounds_toArray, List.set_cons_zero, List.set_cons_succ, i64_w, i32_w]
                                rfl
                              refine pure_ (i := 8) (N := some 89) (v := ?_) (a' := ?_) #[true, true, true, true, true, true, true, true, true, false, false, false, false, false, false, false, false, false, false, false, false, false, false, false, false, false, false, false, false, false, false, false, false] rfl rfl (any_of HT_.out (by kernel_rfl)) (fun _ _ _ h => h) (Or.inl ⟨by rfl, ?_⟩) ?_ ?_
                              rotate_left
                              · intro w'
                                go_simp
                                with_reducible rfl
                              rotate_left
                              · simp only [Act.put, List.setIfInBounds_toArray, List.set_cons_zero, List.set_cons_succ, i64_w, i32_w]
                                rfl
                              refine pure_ (i := 9) (N := some 90) (v := ?_) (a' := ?_) #[true, true, true, true, true, true, true, true, true, true, false, false, false, false, false, false, false, false, false, false, false, false, false, false, false, false, false, false, false, false, false, false, false] rfl rfl (any_of HT_.out (by kernel_rfl)) (fun _ _ _ h => h) (Or.inl ⟨by rfl, ?_⟩) ?_ ?_
                              rotate_left
                              · intro w'
                                go_simp
                                with_reducible rfl
                              rotate_left
                              · simp only [Act.put, List.setIfInBounds_toArray, List.set_cons_zero, List.set_cons_succ, i64_w, i32_w]
                                rfl
                              refine pure_ (i := 10) (N := some 91) (v := ?_) (a' := ?_) #[true, true, true, true, true, true, true, true, true, true, true, false, false, false, false, false, false, false, false, false, false, false, false, false, false, false, false, false, false, false, false, false, false] rfl rfl (any_of HT_.out (by kernel_rfl)) (fun _ _ _ h => h) (Or.inl ⟨by rfl, ?_⟩) ?_ ?_
                              rotate_left
                              · intro w'
                                go_simp
                                with_reducible rfl
                              rotate_left
                              · simp only [Act.put, List.setIfInBounds_toArray, List.set_cons_zero, List.set_cons_succ, i64_w, i32_w]
                                rfl
                              refine pure_ (i := 11) (N := some 92) (v := ?_) (a' := ?_) #[true, true, true, true, true, true, true, true, true, true, true, true, false, false, false, false, false, false, false, false, false, false, false, false, false, false, false, false, false, false, false, false, false] rfl rfl (any_of HT_.out (by kernel_rfl)) (fun _ _ _ h => h) (Or.inl ⟨by rfl, ?_⟩) ?_ ?_
                              rotate_left
                              · intro w'
                                go_simp
                                with_reducible rfl
                              rotate_left
                              · simp only [Act.put, List.setIfInBounds_toArray, List.set_cons_zero, List.set_cons_succ, i64_w, i32_w]
                                rfl
                              refine pure_ (i := 14) (N := some 95) (v := ?_) (a' := ?_) #[true, true, true, true, true, true, true, true, true, true, true, true, false, false, true, false, false, false, false, false, false, false, false, false, false, false, false, false, false, false, false, false, false] rfl rfl (any_of HT_.out (by kernel_rfl)) (fun _ _ _ h => h) (Or.inl ⟨by rfl, ?_⟩) ?_ ?_
                              rotate_left
                              · intro w'
                                go_simp
                                with_reducible rfl
                              rotate_left
                              · simp only [Act.put, List.setIfInBounds_toArray, List.set_cons_zero, List.set_cons_succ, i64_w, i32_w]
                                rfl
                              refine take_ (i := 12) (N := some 93) (v := ?_) (a' := ?_) #[true, true, true, true, true, true, true, true, true, true, true, true, true, false, true, false, false, false, false, false, false, false, false, false, false, false, false, false, false, false, false, false, false] rfl rfl (take_ofW HT_.out HW_.out (by kernel_rfl)) (fun _ _ _ h => h) (Or.inl ⟨by rfl, ?_⟩) hHeld ?_ ?_
                              rotate_left
                              · rintro w' ⟨s0, s1⟩
                                go_simp
                                with_reducible rfl
                              rotate_left
                              · simp only [Act.put, List.setIfInBounds_toArray, List.set_cons_zero, List.set_cons_succ, i64_w, i32_w]
                                rfl
                              refine pure_ (i := 13) (N := some 94) (v := ?_) (a' := ?_) #[true, true, true, true, true, true, true, true, true, true, true, true, true, true, true, false, false, false, false, false, false, false, false, false, false, false, false, false, false, false, false, false, false] rfl rfl (any_of HT_.out (by kernel_rfl)) (fun _ _ _ h => h) (Or.inl ⟨by rfl, ?_⟩) ?_ ?_
                              rotate_left
                              · intro w'
                                go_simp
                                with_reducible rfl
                              rotate_left
                              · simp only [Act.put, List.setIfInBounds_toArray, List.set_cons_zero, List.set_cons_succ, i64_w, i32_w]
                                rfl
                              refine pure_ (i := 15) (N := some 96) (v := ?_) (a' := ?_) #[true, true, true, true, true, true, true, true, true, true, true, true, true, true, true, true, false, false, false, false, false, false, false, false, false, false, false, false, false, false, false, false, false] rfl rfl (any_of HT_.out (by kernel_rfl)) (fun _ _ _ h => h) (Or.inl ⟨by rfl, ?_⟩) ?_ ?_
                              rotate_left
                              · intro w'
                                go_simp
                                with_reducible rfl
                              rotate_left
                              · simp only [Act.put, List.setIfInBounds_toArray, List.set_cons_zero, List.set_cons_succ, i64_w, i32_w]
                                rfl
                              refine pure_ (i := 16) (N := some 97) (v := ?_) (a' := ?_) #[true, true, true, true, true, true, true, true, true, true, true, true, true, true, true, true, true, false, false, false, false, false, false, false, false, false, false, false, false, false, false, false, false] rfl rfl (any_of HT_.out (by kernel_rfl)) (fun _ _ _ h => h) (Or.inl ⟨by rfl, ?_⟩) ?_ ?_
                              rotate_left
                              · intro w'
                                go_simp
                                with_reducible rfl
                              rotate_left
                              · simp only [Act.put, List.setIfInBounds_toArray, List.set_cons_zero, List.set_cons_succ, i64_w, i32_w]
                                rfl
                              refine pure_ (i := 17) (N := some 98) (v := ?_) (a' := ?_) #[true, true, true, true, true, true, true, true, true, true, true, true, true, true, true, true, true, true, false, false, false, false, false, false, false, false, false, false, false, false, false, false, false] rfl rfl (any_of HT_.out (by kernel_rfl)) (fun _ _ _ h => h) (Or.inl ⟨by rfl, ?_⟩) ?_ ?_
                              rotate_left
                              · intro w'
                                go_simp
                                with_reducible rfl
                              rotate_left
                              · simp only [Act.put, List.setIfInBounds_toArray, List.set_cons_zero, List.set_cons_succ, i64_w, i32_w]
                                rfl
                              refine pure_ (i := 18) (N := some 99) (v := ?_) (a' := ?_) #[true, true, true, true, true, true, true, true, true, true, true, true, true, true, true, true, true, true, true, false, false, false, false, false, false, false, false, false, false, false, false, false, false] rfl rfl (any_of HT_.out (by kernel_rfl)) (fun _ _ _ h => h) (Or.inl ⟨by rfl, ?_⟩) ?_ ?_
                              rotate_left
                              · intro w'
                                go_simp
                                with_reducible rfl
                              rotate_left
                              · simp only [Act.put, List.setIfInBounds_toArray, List.set_cons_zero, List.set_cons_succ, i64_w, i32_w]
                                rfl
                              refine pure_ (i := 19) (N := some 100) (v := ?_) (a' := ?_) #[true, true, true, true, true, true, true, true, true, true, true, true, true, true, true, true, true, true, true, true, false, false, false, false, false, false, false, false, false, false, false, false, false] rfl rfl (any_of HT_.out (by kernel_rfl)) (fun _ _ _ h => h) (Or.inl ⟨by rfl, ?_⟩) ?_ ?_
                              rotate_left
                              · intro w'
                                go_simp
                                with_reducible rfl
                              rotate_left
                              · simp only [Act.put, List.setIfInBounds_toArray, List.set_cons_zero, List.set_cons_succ, i64_w, i32_w]
                                rfl
                              refine pure_ (i := 20) (N := some 101) (v := ?_) (a' := ?_) #[true, true, true, true, true, true, true, true, true, true, true, true, true, true, true, true, true, true, true, true, true, false, false, false, false, false, false, false, false, false, false, false, false] rfl rfl (any_of HT_.out (by kernel_rfl)) (fun _ _ _ h => h) (Or.inl ⟨by rfl, ?_⟩) ?_ ?_
                              rotate_left
                              · intro w'
                                go_simp
                                with_reducible rfl
                              rotate_left
                              · simp only [Act.put, List.setIfInBounds_toArray, List.set_cons_zero, List.set_cons_succ, i64_w, i32_w]
                                rfl
                              refine pure_ (i := 21) (N := some 102) (v := undef) (a' := ?_) #[true, true, true, true, true, true, true, true, true, true, true, true, true, true, true, true, true, true, true, true, true, true, false, false, false, false, false, false, false, false, false, false, false] rfl rfl (any_of HT_.out (by kernel_rfl)) (fun _ _ _ h => h) (Or.inr ⟨by rfl, rfl⟩) ?_ ?_
                              rotate_left
                              · simp only [Act.put, List.setIfInBounds_toArray, List.set_cons_zero, List.set_cons_succ, i64_w, i32_w]
                                rfl
                              refine pure_ (i := 22) (N := some 103) (v := undef) (a' := ?_) #[true, true, true, true, true, true, true, true, true, true, true, true, true, true, true, true, true, true, true, true, true, true, true, false, false, false, false, false, false, false, false, false, false] rfl rfl (any_of HT_.out (by kernel_rfl)) (fun _ _ _ h => h) (Or.inr ⟨by rfl, rfl⟩) ?_ ?_
                              rotate_left
                              · simp only [Act.put, List.setIfInBounds_toArray, List.set_cons_zero, List.set_cons_succ, i64_w, i32_w]
                                rfl
                              refine pure_ (i := 23) (N := some 104) (v := undef) (a' := ?_) #[true, true, true, true, true, true, true, true, true, true, true, true, true, true, true, true, true, true, true, true, true, true, true, true, false, false, false, false, false, false, false, false, false] rfl rfl (any_of HT_.out (by kernel_rfl)) (fun _ _ _ h => h) (Or.inr ⟨by rfl, rfl⟩) ?_ ?_
                              rotate_left
                              · simp only [Act.put, List.setIfInBounds_toArray, List.set_cons_zero, List.set_cons_succ, i64_w, i32_w]
                                rfl
                              refine pure_ (i := 24) (N := some 105) (v := undef) (a' := ?_) #[true, true, true, true, true, true, true, true, true, true, true, true, true, true, true, true, true, true, true, true, true, true, true, true, true, false, false, false, false, false, false, false, false] rfl rfl (any_of HT_.out (by kernel_rfl)) (fun _ _ _ h => h) (Or.inr ⟨by rfl, rfl⟩) ?_ ?_
                              rotate_left
                              · simp only [Act.put, List.setIfInBounds_toArray, List.set_cons_zero, List.set_cons_succ, i64_w, i32_w]
                                rfl
                              refine pure_ (i := 25) (N := some 106) (v := undef) (a' := ?_) #[true, true, true, true, true, true, true, true, true, true, true, true, true, true, true, true, true, true, true, true, true, true, true, true, true, true, false, false, false, false, false, false, false] rfl rfl (any_of HT_.out (by kernel_rfl)) (fun _ _ _ h => h) (Or.inr ⟨by rfl, rfl⟩) ?_ ?_
                              rotate_left
                              · simp only [Act.put, List.setIfInBounds_toArray, List.set_cons_zero, List.set_cons_succ, i64_w, i32_w]
                                rfl
                              refine pure_ (i := 26) (N := some 107) (v := undef) (a' := ?_) #[true, true, true, true, true, true, true, true, true, true, true, true, true, true, true, true, true, true, true, true, true, true, true, true, true, true, true, false, false, false, false, false, false] rfl rfl (any_of HT_.out (by kernel_rfl)) (fun _ _ _ h => h) (Or.inr ⟨by rfl, rfl⟩) ?_ ?_
                              rotate_left
                              · simp only [Act.put, List.setIfInBounds_toArray, List.set_cons_zero, List.set_cons_succ, i64_w, i32_w]
                                rfl
                              refine pure_ (i := 27) (N := some 108) (v := undef) (a' := ?_) #[true, true, true, true, true, true, true, true, true, true, true, true, true, true, true, true, true, true, true, true, true, true, true, true, true, true, true, true, false, false, false, false, false] rfl rfl (any_of HT_.out (by kernel_rfl)) (fun _ _ _ h => h) (Or.inr ⟨by rfl, rfl⟩) ?_ ?_
                              rotate_left
                              · simp only [Act.put, List.setIfInBounds_toArray, List.set_cons_zero, List.set_cons_succ, i64_w, i32_w]
                                rfl
                              refine pure_ (i := 28) (N := some 109) (v := undef) (a' := ?_) #[true, true, true, true, true, true, true, true, true, true, true, true, true, true, true, true, true, true, true, true, true, true, true, true, true, true, true, true, true, false, false, false, false] rfl rfl (any_of HT_.out (by kernel_rfl)) (fun _ _ _ h => h) (Or.inr ⟨by rfl, rfl⟩) ?_ ?_
                              rotate_left
                              · simp only [Act.put, List.setIfInBounds_toArray, List.set_cons_zero, List.set_cons_succ, i64_w, i32_w]
                                rfl
                              refine pure_ (i := 29) (N := some 110) (v := undef) (a' := ?_) #[true, true, true, true, true, true, true, true, true, true, true, true, true, true, true, true, true, true, true, true, true, true, true, true, true, true, true, true, true, true, false, false, false] rfl rfl (any_of HT_.out (by kernel_rfl)) (fun _ _ _ h => h) (Or.inr ⟨by rfl, rfl⟩) ?_ ?_
                              rotate_left
                              · simp only [Act.put, List.setIfInBounds_toArray, List.set_cons_zero, List.set_cons_succ, i64_w, i32_w]
                                rfl
                              refine pure_ (i := 30) (N := some 111) (v := undef) (a' := ?_) #[true, true, true, true, true, true, true, true, true, true, true, true, true, true, true, true, true, true, true, true, true, true, true, true, true, true, true, true, true, true, true, false, false] rfl rfl (any_of HT_.out (by kernel_rfl)) (fun _ _ _ h => h) (Or.inr ⟨by rfl, rfl⟩) ?_ ?_
                              rotate_left
                              · simp only [Act.put, List.setIfInBounds_toArray, List.set_cons_zero, List.set_cons_succ, i64_w, i32_w]
                                rfl
                              refine pure_ (i := 31) (N := some 112) (v := ?_) (a' := ?_) #[true, true, true, true, true, true, true, true, true, true, true, true, true, true, true, true, true, true, true, true, true, true, true, true, true, true, true, true, true, true, true, true, false] rfl rfl (any_of HT_.out (by kernel_rfl)) (fun _ _ _ h => h) (Or.inl ⟨by rfl, ?_⟩) ?_ ?_
                              rotate_left
                              · intro w'
                                go_simp
                                with_reducible rfl
                              rotate_left
                              · simp only [Act.put, List.setIfInBounds_toArray, List.set_cons_zero, List.set_cons_succ, i64_w, i32_w]
                                rfl
                              refine pure_ (i := 32) (N := some 113) (v := ?_) (a' := ?_) #[true, true, true, true, true, true, true, true, true, true, true, true, true, true, true, true, true, true, true, true, true, true, true, true, true, true, true, true, true, true, true, true, true] rfl rfl (any_of HT_.out (by kernel_rfl)) (fun _ _ _ h => h) (Or.inl ⟨by rfl, ?_⟩) ?_ ?_
                              rotate_left
                              · intro w'
                                go_simp
                                with_reducible rfl
                              rotate_left
                              · simp only [Act.put, List.setIfInBounds_toArray, List.set_cons_zero, List.set_cons_succ, i64_w, i32_w]
                                rfl
                              refine done_ (done_of HT_.out (by kernel_rfl)) ?_
                              try go_wp2
                              go_roundg k2
                              case measure => have := HJ10.out; have := HK2.out; omega
                              case rel => exact ⟨(true), (wrap64 (x76_2 + 1)), (by first | rfl | (simp; done) | (simp [*]; done)), (by first | rfl | (simp; done) | (simp [*]; done)), H', ⟨by have := HJ10.out; have := HK2.out; omega⟩, ⟨by (with_reducible repeat (first | apply Kd.R_alloc | apply Kd.R_drewN | apply Kd.R_drew)); exact HO_6.out⟩, ⟨by (with_reducible repeat (first | apply Kd.S_alloc | apply Kd.S_drewN | apply Kd.S_drew)); exact Kd.S_mono HO_9.out (fun _ hk => ⟨hk.1, hk.2.1⟩)⟩, ⟨by (with_reducible repeat (first | apply Kd.S_alloc | apply Kd.S_drewN | apply Kd.S_drew)); exact Kd.S_mono HO_74.out (fun _ hk => ⟨hk.1, hk.2.1⟩)⟩, ⟨by (with_reducible repeat (first | apply Kd.R_alloc | apply Kd.R_drewN | apply Kd.R_drew)); exact HO_321001.out⟩, ⟨by (with_reducible repeat (first | refine blk_drewN ?_ _ | refine blk_drew ?_ | refine blk_alloc ?_ _)); exact BK320.out⟩, ⟨by repeat (first | (with_reducible first | exact HB.out | apply below_alloc | apply pw_below_drewN | apply below_drew1 | refine below_set ?_ GE320.out | refine below_set ?_ GE322.out) | exact HB.out)⟩⟩
                            · replace c67 := Bool.eq_false_iff.mpr c67
                              subst c67
                              have H1 : ((deviation_Same.f k2 ((rd_T39 t305 x76_2).f0) ((rd_T39 t305 x76_2).f1) t315 t316).bind fun t327 => (storagebarterlaw30_DeviationAll.l0 k2 t299 (wrap64 (1 + t303)) (Int.tmod (wrap64 (a1)) 3) t305 t327 t305 (t305.length : Int) (wrap64 (x76_2 + 1)) t315 t316)) = some r := by rw [if_neg (show ¬ (false = true) by decide)] at H; exact H
                              clear H
                              have H := H1
                              clear H1
                              replace H := Option.bind_eq_some_iff.mp H
                              obtain ⟨t327, A740, H⟩ := H
                              replace H : (storagebarterlaw30_DeviationAll.l0 k2 t299 (wrap64 (1 + t303)) (Int.tmod (wrap64 (a1)) 3) t305 t327 t305 (t305.length : Int) (wrap64 (x76_2 + 1)) t315 t316) = some r := H
                              have A74 := Aside0.mk A740
                              clear A740
                              have H' := Aside0.mk H
                              clear H
                              have p321 : 0 ≤ (x76_2 : Int) := of_decide_eq_true (by first | (with_reducible assumption) | assumption)
                              have q321 : x76_2 < (t305.length : Int) := of_decide_eq_true (by first | (with_reducible assumption) | assumption)
                              obtain ⟨ad321, A321_1, c321_1, e321, hx321_0, hx321_1, hl321_1, hi321_1⟩ := at_T39 (Kd.S_reads' HO_74.out).2.2 x76_2 p321 q321
                              cases e321
                              obtain ⟨ce321, hce321, hMe321, hcc321⟩ := Kd.S_get HO_74.out z39 x76_2 p321 (by first | exact q321 | exact of_decide_eq_true (by first | (with_reducible assumption) | assumption) | (have e_ := (Kd.S_reads' HO_74.out).1; omega))
                              obtain ⟨ve321_1, rfl, ge321_1⟩ := k39_openM hMe321
                              have hv321_1 := hcc321 1 _ rfl
                              rw [add_field _ _ 1 (by omega)] at hv321_1
                              replace hv321_1 := Option.some.inj (hv321_1.symm.trans hx321_1)
                              rw [hv321_1] at ge321_1
                              have HL321_1 := Aside0.mk (show Kd.R k51 51 _ _ _ _ ((rd_T39 t305 x76_2).f1) from ge321_1)
                              clear hv321_1 ge321_1
                              clear hcc321 hce321
                              have HR321_1 := Aside0.mk hi321_1
                              have HC321_1 := Aside0.mk hl321_1
                              clear hi321_1 hl321_1
                              replace p321 := eq_true p321
                              replace q321 := eq_true q321
                              try go_wp2_with (first | ((with_reducible refine gate_dst (N := 16) rfl ?_); (try (refine gate_guard (by rfl) ?_; dsimp only)); refine box_event ?hg (N := 16) ?hd (cs := #[.int .i64 0, .slice none 0 0]) (t := 39) ?hr ?_; (case hd => rfl); (case hg => rfl); (case hr => first | (go_simp; done) | (go_simp; rfl)); intro gb322 hg w75 hbox hb; have n0_ := Aside0.mk (Kd.R_below (by (with_reducible repeat (first | apply Kd.R_alloc | apply Kd.R_drewN | apply Kd.R_drew)); exact HO_6.out) hb); have n1_ := Aside0.mk (Kd.S_below (Kd.S_elderB (by (with_reducible repeat (first | apply Kd.S_alloc | apply Kd.S_drewN | apply Kd.S_drew)); exact HO_9.out) gb322 (Nat.le_of_eq hg.symm)) hb); have n2_ := Aside0.mk (Kd.S_below (Kd.S_elderB (by (with_reducible repeat (first | apply Kd.S_alloc | apply Kd.S_drewN | apply Kd.S_drew)); exact HO_74.out) gb322 (Nat.le_of_eq hg.symm)) hb); have n3_ := Aside0.mk (Kd.R_below (by (with_reducible repeat (first | apply Kd.R_alloc | apply Kd.R_drewN | apply Kd.R_drew)); exact HO_321001.out) hb); have n4_ := Aside0.mk (Kd.R_below (by (with_reducible repeat (first | apply Kd.R_alloc | apply Kd.R_drewN | apply Kd.R_drew)); exact HL321_1.out) hb); have n5_ := Aside0.mk (blk_below (g := gb320) (o := .cells #[.int .i64 t315, .slice Ao35 t316.length co35] 39 (0, 0)) (by (with_reducible repeat (first | refine blk_drewN ?_ _ | refine blk_drew ?_ | refine blk_alloc ?_ _)); exact BK320.out) hb); have n6_ := Aside0.mk (Kd.C_below (by repeat (first | (with_reducible exact HR321_1.out) | (with_reducible refine Kd.C_alloc ?_ _) | (with_reducible refine Kd.C_drewN ?_ _) | (with_reducible refine Kd.C_drew ?_) | exact HR321_1.out)) hb); have n7_ := Aside0.mk (below_step (by repeat (first | (with_reducible first | exact HB.out | apply below_alloc | apply pw_below_drewN | apply below_drew1 | refine below_set ?_ GE320.out) | exact HB.out)) hb); have n8_ := Aside0.mk (hbox); have n9_ := Aside0.mk ((by rw [hg]; exact (below_size (by repeat (first | (with_reducible first | exact HB.out | apply below_alloc | apply pw_below_drewN | apply below_drew1 | refine below_set ?_ GE320.out) | exact HB.out))) : w.heap.size ≤ gb322)); have n10_ := Aside0.mk ((by rw [hg]; exact (below_size (by repeat (first | (with_reducible first | exact HB.out | apply below_alloc | apply pw_below_drewN | apply below_drew1 | refine below_set ?_ GE320.out) | exact HB.out))) : w.heap.size ≤ gb322)); have n11_ := Aside0.mk ((by rw [hg]; exact Nat.ne_of_lt (blk_lt (g := gb320) (o := .cells #[.int .i64 t315, .slice Ao35 t316.length co35] 39 (0, 0)) (by (with_reducible repeat (first | refine blk_drewN ?_ _ | refine blk_drew ?_ | refine blk_alloc ?_ _)); exact BK320.out)) : gb320 ≠ gb322)); have n12_ := Aside0.mk ((by rw [hg]; exact Nat.ne_of_gt (blk_lt (g := gb320) (o := .cells #[.int .i64 t315, .slice Ao35 t316.length co35] 39 (0, 0)) (by (with_reducible repeat (first | refine blk_drewN ?_ _ | refine blk_drew ?_ | refine blk_alloc ?_ _)); exact BK320.out)) : gb322 ≠ gb320)); clear HO_6; clear HO_9; clear HO_74; clear HO_321001; clear HL321_1; clear BK320; clear HR321_1; clear HB; have HO_6 := n0_; have HO_9 := n1_; have HO_74 := n2_; have HO_321001 := n3_; have HL321_1 := n4_; have BK320 := n5_; have HR321_1 := n6_; have HB := n7_; have BK322 := n8_; have GW322 := n9_; have GE322 := n10_; have NB320_322 := n11_; have NB322_320 := n12_; clear n0_ n1_ n2_ n3_ n4_ n5_ n6_ n7_ n8_ n9_ n10_ n11_ n12_; clear hb hbox hg; have hnb76 := NB322_320.out; have hnc76 := NB320_322.out; have hcz77_0 : w75.cell? ⟨gb322, 0, none⟩ = some (.int .i64 0) := (blk_cell BK322.out 0).trans rfl; have hcz77_1 : w75.cell? ⟨gb322, 1, none⟩ = some (.slice none 0 0) := (blk_cell BK322.out 1).trans rfl; have hfz77_0 := blk_frozen BK322.out 0; have hfz77_1 := blk_frozen BK322.out 1))
                              have n0_ : Aside0 (Kd.R k56 56 ((w75.setCell ⟨gb322, 0, none⟩ (.int .i64 ((rd_T39 t305 x76_2).f0))).setCell ⟨gb322, 1, none⟩ (.slice A321_1 ((rd_T39 t305 x76_2).f1).length c321_1)) w.heap.size (fun _ => True) (.slice Ao16 t299.length co16) t299) := ⟨by (with_reducible repeat (first | apply Kd.R_alloc | apply Kd.R_drewN | apply Kd.R_drew)); exact Kd.R_mono (Kd.R_far (p := ⟨gb322, 1, none⟩) (Kd.R_far (p := ⟨gb322, 0, none⟩) (Kd.R_types HO_6.out BK322.out (by decide)) (fun _ hk => hk.2) (.int .i64 ((rd_T39 t305 x76_2).f0))) (fun _ hk => hk.2) (.slice A321_1 ((rd_T39 t305 x76_2).f1).length c321_1)) (fun _ hk => trivial)⟩
                              have n1_ : Aside0 (Kd.S k39 39 ((w75.setCell ⟨gb322, 0, none⟩ (.int .i64 ((rd_T39 t305 x76_2).f0))).setCell ⟨gb322, 1, none⟩ (.slice A321_1 ((rd_T39 t305 x76_2).f1).length c321_1)) w.heap.size (fun k_ => some k_ ≠ (.slice Ao35 t316.length co35 : Value).ownBlock ∧ k_ ≠ gb320 ∧ k_ ≠ gb322) (.slice (some ad321) t305.length co36) t305) := ⟨by (with_reducible repeat (first | apply Kd.S_alloc | apply Kd.S_drewN | apply Kd.S_drew)); exact Kd.S_mono (Kd.S_far (p := ⟨gb322, 1, none⟩) (Kd.S_far (p := ⟨gb322, 0, none⟩) (Kd.S_mono HO_9.out (fun k_ hk => (⟨hk, hk.2⟩ : _ ∧ k_ ≠ gb322))) (fun _ hk => hk.2) (.int .i64 ((rd_T39 t305 x76_2).f0))) (fun _ hk => hk.2) (.slice A321_1 ((rd_T39 t305 x76_2).f1).length c321_1)) (fun _ hk => ⟨hk.1.1.1, ⟨hk.1.1.2, hk.1.2⟩⟩)⟩
                              have n2_ : Aside0 (Kd.S k39 39 ((w75.setCell ⟨gb322, 0, none⟩ (.int .i64 ((rd_T39 t305 x76_2).f0))).setCell ⟨gb322, 1, none⟩ (.slice A321_1 ((rd_T39 t305 x76_2).f1).length c321_1)) w.heap.size (fun k_ => some k_ ≠ (.slice Ao35 t316.length co35 : Value).ownBlock ∧ k_ ≠ gb320 ∧ k_ ≠ gb322) (.slice (some ad321) t305.length co36) t305) := ⟨by (with_reducible repeat (first | apply Kd.S_alloc | apply Kd.S_drewN | apply Kd.S_drew)); exact Kd.S_mono (Kd.S_far (p := ⟨gb322, 1, none⟩) (Kd.S_far (p := ⟨gb322, 0, none⟩) (Kd.S_mono HO_74.out (fun k_ hk => (⟨hk, hk.2⟩ : _ ∧ k_ ≠ gb322))) (fun _ hk => hk.2) (.int .i64 ((rd_T39 t305 x76_2).f0))) (fun _ hk => hk.2) (.slice A321_1 ((rd_T39 t305 x76_2).f1).length c321_1)) (fun _ hk => ⟨hk.1.1.1, ⟨hk.1.1.2, hk.1.2⟩⟩)⟩
                              have n3_ : Aside0 (Kd.R k51 51 ((w75.setCell ⟨gb322, 0, none⟩ (.int .i64 ((rd_T39 t305 x76_2).f0))).setCell ⟨gb322, 1, none⟩ (.slice A321_1 ((rd_T39 t305 x76_2).f1).length c321_1)) w.heap.size (fun _ => True) (.slice Ao35 t316.length co35) t316) := ⟨by (with_reducible repeat (first | apply Kd.R_alloc | apply Kd.R_drewN | apply Kd.R_drew)); exact Kd.R_mono (Kd.R_far (p := ⟨gb322, 1, none⟩) (Kd.R_far (p := ⟨gb322, 0, none⟩) (Kd.R_types HO_321001.out BK322.out (by decide)) (fun _ hk => hk.2) (.int .i64 ((rd_T39 t305 x76_2).f0))) (fun _ hk => hk.2) (.slice A321_1 ((rd_T39 t305 x76_2).f1).length c321_1)) (fun _ hk => trivial)⟩
                              have n4_ : Aside0 (Kd.R k51 51 ((w75.setCell ⟨gb322, 0, none⟩ (.int .i64 ((rd_T39 t305 x76_2).f0))).setCell ⟨gb322, 1, none⟩ (.slice A321_1 ((rd_T39 t305 x76_2).f1).length c321_1)) w.heap.size (fun k_ => some k_ ≠ (.slice (some ad321) t305.length co36 : Value).ownBlock ∧ some k_ ≠ (.slice Ao35 t316.length co35 : Value).ownBlock ∧ k_ ≠ gb320) (.slice A321_1 ((rd_T39 t305 x76_2).f1).length c321_1) ((rd_T39 t305 x76_2).f1)) := ⟨by (with_reducible repeat (first | apply Kd.R_alloc | apply Kd.R_drewN | apply Kd.R_drew)); exact Kd.R_mono (Kd.R_far (p := ⟨gb322, 1, none⟩) (Kd.R_far (p := ⟨gb322, 0, none⟩) (Kd.R_types HL321_1.out BK322.out (by decide)) (fun _ hk => hk.2) (.int .i64 ((rd_T39 t305 x76_2).f0))) (fun _ hk => hk.2) (.slice A321_1 ((rd_T39 t305 x76_2).f1).length c321_1)) (fun _ hk => ⟨hk.1.2, ⟨hk.1.1.1, hk.1.1.2⟩⟩)⟩
                              have n5_ : Aside0 (((w75.setCell ⟨gb322, 0, none⟩ (.int .i64 ((rd_T39 t305 x76_2).f0))).setCell ⟨gb322, 1, none⟩ (.slice A321_1 ((rd_T39 t305 x76_2).f1).length c321_1)).heap[gb320]? = some (.cells #[.int .i64 t315, .slice Ao35 t316.length co35] 39 (0, 0))) := ⟨by (with_reducible repeat (first | refine blk_drewN ?_ _ | refine blk_drew ?_ | refine blk_alloc ?_ _)); refine blk_far ?_ NB320_322.out _; (with_reducible repeat (first | refine blk_drewN ?_ _ | refine blk_drew ?_ | refine blk_alloc ?_ _)); refine blk_far ?_ NB320_322.out _; (with_reducible repeat (first | refine blk_drewN ?_ _ | refine blk_drew ?_ | refine blk_alloc ?_ _)); exact BK320.out⟩
                              have n6_ : Aside0 (((w75.setCell ⟨gb322, 0, none⟩ (.int .i64 ((rd_T39 t305 x76_2).f0))).setCell ⟨gb322, 1, none⟩ (.slice A321_1 ((rd_T39 t305 x76_2).f1).length c321_1)).heap[gb322]? = some (.cells #[.int .i64 ((rd_T39 t305 x76_2).f0), .slice A321_1 ((rd_T39 t305 x76_2).f1).length c321_1] 39 (0, 0))) := ⟨by (with_reducible repeat (first | refine blk_drewN ?_ _ | refine blk_drew ?_ | refine blk_alloc ?_ _)); refine blk_put (cs := #[.int .i64 ((rd_T39 t305 x76_2).f0), .slice none 0 0]) ?_ 1 _ rfl; (with_reducible repeat (first | refine blk_drewN ?_ _ | refine blk_drew ?_ | refine blk_alloc ?_ _)); refine blk_put (cs := #[.int .i64 0, .slice none 0 0]) ?_ 0 _ rfl; (with_reducible repeat (first | refine blk_drewN ?_ _ | refine blk_drew ?_ | refine blk_alloc ?_ _)); exact BK322.out⟩
                              have n7_ : Aside0 (Below w.heap.size w ((w75.setCell ⟨gb322, 0, none⟩ (.int .i64 ((rd_T39 t305 x76_2).f0))).setCell ⟨gb322, 1, none⟩ (.slice A321_1 ((rd_T39 t305 x76_2).f1).length c321_1))) := ⟨by repeat (first | (with_reducible first | exact HB.out | apply below_alloc | apply pw_below_drewN | apply below_drew1 | refine below_set ?_ GE320.out | refine below_set ?_ GE322.out) | exact HB.out)⟩
                              (try clear HO_6)
                              (try clear HO_9)
                              (try clear HO_74)
                              (try clear HO_321001)
                              (try clear HL321_1)
                              (try clear BK320)
                              (try clear BK322)
                              (try clear HB)
                              generalize ((w75.setCell ⟨gb322, 0, none⟩ (.int .i64 ((rd_T39 t305 x76_2).f0))).setCell ⟨gb322, 1, none⟩ (.slice A321_1 ((rd_T39 t305 x76_2).f1).length c321_1)) = w78 at n0_ n1_ n2_ n3_ n4_ n5_ n6_ n7_ ⊢
                              have HO_6 := n0_
                              have HO_9 := n1_
                              have HO_74 := n2_
                              have HO_321001 := n3_
                              have HL321_1 := n4_
                              have BK320 := n5_
                              have BK322 := n6_
                              have HB := n7_
                              clear n0_ n1_ n2_ n3_ n4_ n5_ n6_ n7_
                              have n0_ := Aside0.mk (Kd.R_drew HO_6.out)
                              have n1_ := Aside0.mk (Kd.S_drew HO_9.out)
                              have n2_ := Aside0.mk (Kd.S_drew HO_74.out)
                              have n3_ := Aside0.mk (Kd.R_drew HO_321001.out)
                              have n4_ := Aside0.mk (Kd.R_drew HL321_1.out)
                              have n5_ := Aside0.mk (blk_drew BK320.out)
                              have n6_ := Aside0.mk (blk_drew BK322.out)
                              have n7_ := Aside0.mk (below_drew1 HB.out)
                              clear HO_6
                              clear HO_9
                              clear HO_74
                              clear HO_321001
                              clear HL321_1
                              clear BK320
                              clear BK322
                              clear HB
                              have HO_6 := n0_
                              have HO_9 := n1_
                              have HO_74 := n2_
                              have HO_321001 := n3_
                              have HL321_1 := n4_
                              have BK320 := n5_
                              have BK322 := n6_
                              have HB := n7_
                              clear n0_ n1_ n2_ n3_ n4_ n5_ n6_ n7_
                              refine start_ (n := 33) (S := fun w' => w'.cell? ⟨gb322, 0, none⟩ = some (.int .i64 ((rd_T39 t305 x76_2).f0)) ∧ w'.cell? ⟨gb322, 1, none⟩ = some (.slice A321_1 ((rd_T39 t305 x76_2).f1).length c321_1)) (ds := []) #[false, false, false, false, false, false, false, false, false, false, false, false, false, false, false, false, false, false, false, false, false, false, false, false, false, false, false, false, false, false, false, false, false] (by kernel_rfl) rfl rfl ⟨(blk_cell BK322.out 0).trans rfl, (blk_cell BK322.out 1).trans rfl⟩ (fun hHeld => ?_); refine with_tabW storagebarterlaw30_DeviationAll.tab15 storagebarterlaw30_DeviationAll.bits15 (fun HT_ HW_ => ?_)
                              generalize w78.drew = w79 at HO_6 HO_9 HO_74 HO_321001 HL321_1 BK320 BK322 HB hHeld ⊢
                              refine pure_ (i := 0) (N := some 81) (v := ?_) (a' := ?_) #[true, false, false, false, false, false, false, false, false, false, false, false, false, false, false, false, false, false, false, false, false, false, false, false, false, false, false, false, false, false, false, false, false] rfl rfl (any_of HT_.out (by kernel_rfl)) (fun _ _ _ h => h) (Or.inl ⟨by rfl, ?_⟩) ?_ ?_
                              rotate_left
                              · intro w'
                                go_simp
                                with_reducible rfl
                              rotate_left
                              · simp only [Act.put, List.setIfInBounds_toArray, List.set_cons_zero, List.set_cons_succ, i64_w, i32_w]
                                rfl
                              refine take_ (i := 1) (N := some 82) (v := ?_) (a' := ?_) #[true, true, false, false, false, false, false, false, false, false, false, false, false, false, false, false, false, false, false, false, false, false, false, false, false, false, false, false, false, false, false, false, false] rfl rfl (take_ofW HT_.out HW_.out (by kernel_rfl)) (fun _ _ _ h => h) (Or.inl ⟨by rfl, ?_⟩) hHeld ?_ ?_
                              rotate_left
                              · rintro w' ⟨s0, s1⟩
                                go_simp
                                with_reducible rfl
                              rotate_left
                              · simp only [Act.put, List.setIfInBounds_toArray, List.set_cons_zero, List.set_cons_succ, i64_w, i32_w]
                                rfl
                              refine one_ (i := 2) (N := some 83) #[true, true, true, false, false, false, false, false, false, false, false, false, false, false, false, false, false, false, false, false, false, false, false, false, false, false, false, false, false, false, false, false, false] rfl rfl (one_of HT_.out (by kernel_rfl)) (by decide) (fun K hK => ?_)
                              refine goes_ Tryd.func18 (by kernel_rfl) rfl #[.slice Ao16 t299.length co16, .agg #[.int .i64 ((rd_T39 t305 x76_2).f0), .slice A321_1 ((rd_T39 t305 x76_2).f1).length c321_1]] (by rfl) rfl rfl (by (try simp only [List.map_toArray, List.map_cons, List.map_nil]); first | done | rfl | (simp only [List.length_drop, List.length_take]; rfl)) ?_
                              with_reducible refine (deviation_Valid.calls _ _ t299 ((rd_T39 t305 x76_2).f0) _ _ ((rd_T39 t305 x76_2).f1) true _ ?side1 ?side2 ?side3 ?side4 A40.out (by first | exact HL_.out | exact laid_below HL_.out (by repeat (first | (with_reducible first | exact HB.out | apply below_alloc | apply pw_below_drewN | apply below_drew1) | refine below_set ?_ (Aside0.out (by assumption)) | exact HB.out)) | exact laid_drawn HL_.out HD.out | exact laid_drawn HL_.out (HD.out.step _))).mono ?_
                              (case side1 => repeat (first | exact (Kd.R_reads' HO_6.out).2.2 | (with_reducible refine Kd.C_alloc ?_ _) | (with_reducible refine Kd.C_drewN ?_ _) | (with_reducible refine Kd.C_drew ?_)))
                              (case side2 => exact (Kd.R_reads' HO_6.out).2.1)
                              (case side3 => repeat (first | exact ((Kd.R_reads' (by (with_reducible repeat (first | apply Kd.R_alloc | apply Kd.R_drewN | apply Kd.R_drew)); exact HL321_1.out)).2.2) | (with_reducible refine Kd.C_alloc ?_ _) | (with_reducible refine Kd.C_drewN ?_ _) | (with_reducible refine Kd.C_drew ?_)))
                              (case side4 => exact HC321_1.out)
                              rintro e w80 ⟨rfl, hb⟩
                              refine ⟨_, rfl, ?_⟩
                              have n0_ := Aside0.mk (Kd.R_below (by (with_reducible repeat (first | apply Kd.R_alloc | apply Kd.R_drewN | apply Kd.R_drew)); exact HO_6.out) hb)
                              have n1_ := Aside0.mk (Kd.S_below (by (with_reducible repeat (first | apply Kd.S_alloc | apply Kd.S_drewN | apply Kd.S_drew)); exact HO_9.out) hb)
                              have n2_ := Aside0.mk (Kd.S_below (by (with_reducible repeat (first | apply Kd.S_alloc | apply Kd.S_drewN | apply Kd.S_drew)); exact HO_74.out) hb)
                              have n3_ := Aside0.mk (Kd.R_below (by (with_reducible repeat (first | apply Kd.R_alloc | apply Kd.R_drewN | apply Kd.R_drew)); exact HO_321001.out) hb)
                              have n4_ := Aside0.mk (Kd.R_below (by (with_reducible repeat (first | apply Kd.R_alloc | apply Kd.R_drewN | apply Kd.R_drew)); exact HL321_1.out) hb)
                              have n5_ := Aside0.mk (blk_below (g := gb320) (o := .cells #[.int .i64 t315, .slice Ao35 t316.length co35] 39 (0, 0)) (by (with_reducible repeat (first | refine blk_drewN ?_ _ | refine blk_drew ?_ | refine blk_alloc ?_ _)); exact BK320.out) hb)
                              have n6_ := Aside0.mk (blk_below (g := gb322) (o := .cells #[.int .i64 ((rd_T39 t305 x76_2).f0), .slice A321_1 ((rd_T39 t305 x76_2).f1).length c321_1] 39 (0, 0)) (by (with_reducible repeat (first | refine blk_drewN ?_ _ | refine blk_drew ?_ | refine blk_alloc ?_ _)); exact BK322.out) hb)
                              have n7_ := Aside0.mk (below_step (by repeat (first | (with_reducible first | exact HB.out | apply below_alloc | apply pw_below_drewN | apply below_drew1 | refine below_set ?_ GE320.out | refine below_set ?_ GE322.out) | exact HB.out)) hb)
                              clear HO_6
                              clear HO_9
                              clear HO_74
                              clear HO_321001
                              clear HL321_1
                              clear BK320
                              clear BK322
                              clear HB
                              have HO_6 := n0_
                              have HO_9 := n1_
                              have HO_74 := n2_
                              have HO_321001 := n3_
                              have HL321_1 := n4_
                              have BK320 := n5_
                              have BK322 := n6_
                              have HB := n7_
                              clear n0_ n1_ n2_ n3_ n4_ n5_ n6_ n7_
                              (try clear hb)
                              (try clear hb2)
                              (try clear hk)
                              (try clear hi)
                              (try clear hgw)
                              refine hK.out _ _ ⟨(blk_cell BK322.out 0).trans rfl, (blk_cell BK322.out 1).trans rfl⟩ (fun hHeld => ?_)
                              clear hK K
                              refine norm_ (a' := ?_) ?_ ?_
                              rotate_left
                              · show Act.put _ (some 83) _ = _
                                simp only [Act.put, List.setIfInBounds_toArray, List.set_cons_zero, List.set_cons_succ, i64_w, i32_w]
                                rfl
                              refine pure_ (i := 3) (N := some 84) (v := ?_) (a' := ?_) #[true, true, true, true, false, false, false, false, false, false, false, false, false, false, false, false, false, false, false, false, false, false, false, false, false, false, false, false, false, false, false, false, false] rfl rfl (any_of HT_.out (by kernel_rfl)) (fun _ _ _ h => h) (Or.inl ⟨by rfl, ?_⟩) ?_ ?_
                              rotate_left
                              · intro w'
                                go_simp
                                with_reducible rfl
                              rotate_left
                              · simp only [Act.put, List.setIfInBounds_toArray, List.set_cons_zero, List.set_cons_succ, i64_w, i32_w]
                                rfl
                              refine pure_ (i := 4) (N := some 85) (v := ?_) (a' := ?_) #[true, true, true, true, true, false, false, false, false, false, false, false, false, false, false, false, false, false, false, false, false, false, false, false, false, false, false, false, false, false, false, false, false] rfl rfl (any_of HT_.out (by kernel_rfl)) (fun _ _ _ h => h) (Or.inl ⟨by rfl, ?_⟩) ?_ ?_
                              rotate_left
                              · intro w'
                                go_simp
                                with_reducible rfl
                              rotate_left
                              · simp only [Act.put, List.setIfInBounds_toArray, List.set_cons_zero, List.set_cons_succ, i64_w, i32_w]
                                rfl
                              refine pure_ (i := 5) (N := some 86) (v := ?_) (a' := ?_) #[true, true, true, true, true, true, false, false, false, false, false, false, false, false, false, false, false, false, false, false, false, false, false, false, false, false, false, false, false, false, false, false, false] rfl rfl (any_of HT_.out (by kernel_rfl)) (fun _ _ _ h => h) (Or.inl ⟨by rfl, ?_⟩) ?_ ?_
                              rotate_left
                              · intro w'
                                go_simp
                                with_reducible rfl
                              rotate_left
                              · simp only [Act.put, List.setIfInBounds_toArray, List.set_cons_zero, List.set_cons_succ, i64_w, i32_w]
                                rfl
                              refine pure_ (i := 7) (N := some 88) (v := ?_) (a' := ?_) #[true, true, true, true, true, true, false, true, false, false, false, false, false, false, false, false, false, false, false, false, false, false, false, false, false, false, false, false, false, false, false, false, false] rfl rfl (any_of HT_.out (by kernel_rfl)) (fun _ _ _ h => h) (Or.inl ⟨by rfl, ?_⟩) ?_ ?_
                              rotate_left
                              · intro w'
                                go_simp
                                with_reducible rfl
                              rotate_left
                              · simp only [Act.put, List.setIfInBounds_toArray, List.set_cons_zero, List.set_cons_succ, i64_w, i32_w]
                                rfl
                              refine take_ (i := 6) (N := some 87) (v := ?_) (a' := ?_) #[true, true, true, true, true, true, true, true, false, false, false, false, false, false, false, false, false, false, false, false, false, false, false, false, false, false, false, false, false, false, false, false, false] rfl rfl (take_ofW HT_.out HW_.out (by kernel_rfl)) (fun _ _ _ h => h) (Or.inl ⟨by rfl, ?_⟩) hHeld ?_ ?_
                              rotate_left
                              · rintro w' ⟨s0, s1⟩
                                go_simp
                                with_reducible rfl
                              rotate_left
                              · simp only [Act.put, List.setIfInBounds_toArray, List.set_cons_zero, List.set_cons_succ, i64_w, i32_w]
                                rfl
                              refine pure_ (i := 8) (N := some 89) (v := ?_) (a' := ?_) #[true, true, true, true, true, true, true, true, true, false, false, false, false, false, false, false, false, false, false, false, false, false, false, false, false, false, false, false, false, false, false, false, false] rfl rfl (any_of HT_.out (by kernel_rfl)) (fun _ _ _ h => h) (Or.inl ⟨by rfl, ?_⟩) ?_ ?_
                              rotate_left
                              · intro w'
                                go_simp
                                with_reducible rfl
                              rotate_left
                              · simp only [Act.put, List.setIfInBounds_toArray, List.set_cons_zero, List.set_cons_succ, i64_w, i32_w]
                                rfl
                              refine pure_ (i := 9) (N := some 90) (v := ?_) (a' := ?_) #[true, true, true, true, true, true, true, true, true, true, false, false, false, false, false, false, false, false, false, false, false, false, false, false, false, false, false, false, false, false, false, false, false] rfl rfl (any_of HT_.out (by kernel_rfl)) (fun _ _ _ h => h) (Or.inl ⟨by rfl, ?_⟩) ?_ ?_
                              rotate_left
                              · intro w'
                                go_simp
                                with_reducible rfl
                              rotate_left
                              · simp only [Act.put, List.setIfInBounds_toArray, List.set_cons_zero, List.set_cons_succ, i64_w, i32_w]
                                rfl
                              refine pure_ (i := 10) (N := some 91) (v := ?_) (a' := ?_) #[true, true, true, true, true, true, true, true, true, true, true, false, false, false, false, false, false, false, false, false, false, false, false, false, false, false, false, false, false, false, false, false, false] rfl rfl (any_of HT_.out (by kernel_rfl)) (fun _ _ _ h => h) (Or.inl ⟨by rfl, ?_⟩) ?_ ?_
                              rotate_left
                              · intro w'
                                go_simp
                                with_reducible rfl
                              rotate_left
                              · simp only [Act.put, List.setIfInBounds_toArray, List.set_cons_zero, List.set_cons_succ, i64_w, i32_w]
                                rfl
                              refine pure_ (i := 11) (N := some 92) (v := ?_) (a' := ?_) #[true, true, true, true, true, true, true, true, true, true, true, true, false, false, false, false, false, false, false, false, false, false, false, false, false, false, false, false, false, false, false, false, false] rfl rfl (any_of HT_.out (by kernel_rfl)) (fun _ _ _ h => h) (Or.inl ⟨by rfl, ?_⟩) ?_ ?_
                              rotate_left
                              · intro w'
                                go_simp
                                with_reducible rfl
                              rotate_left
                              · simp only [Act.put, List.setIfInBounds_toArray, List.set_cons_zero, List.set_cons_succ, i64_w, i32_w]
                                rfl
                              refine pure_ (i := 14) (N := some 95) (v := ?_) (a' := ?_) #[true, true, true, true, true, true, true, true, true, true, true, true, false, false, true, false, false, false, false, false, false, false, false, false, false, false, false, false, false, false, false, false, false] rfl rfl (any_of HT_.out (by kernel_rfl)) (fun _ _ _ h => h) (Or.inl ⟨by rfl, ?_⟩) ?_ ?_
                              rotate_left
                              · intro w'
                                go_simp
                                with_reducible rfl
                              rotate_left
                              · simp only [Act.put, List.setIfInBounds_toArray, List.set_cons_zero, List.set_cons_succ, i64_w, i32_w]
                                rfl
                              refine take_ (i := 12) (N := some 93) (v := ?_) (a' := ?_) #[true, true, true, true, true, true, true, true, true, true, true, true, true, false, true, false, false, false, false, false, false, false, false, false, false, false, false, false, false, false, false, false, false] rfl rfl (take_ofW HT_.out HW_.out (by kernel_rfl)) (fun _ _ _ h => h) (Or.inl ⟨by rfl, ?_⟩) hHeld ?_ ?_
                              rotate_left
                              · rintro w' ⟨s0, s1⟩
                                go_simp
                                with_reducible rfl
                              rotate_left
                              · simp only [Act.put, List.setIfInBounds_toArray, List.set_cons_zero, List.set_cons_succ, i64_w, i32_w]
                                rfl
                              refine pure_ (i := 13) (N := some 94) (v := ?_) (a' := ?_) #[true, true, true, true, true, true, true, true, true, true, true, true, true, true, true, false, false, false, false, false, false, false, false, false, false, false, false, false, false, false, false, false, false] rfl rfl (any_of HT_.out (by kernel_rfl)) (fun _ _ _ h => h) (Or.inl ⟨by rfl, ?_⟩) ?_ ?_
                              rotate_left
                              · intro w'
                                go_simp
                                with_reducible rfl
                              rotate_left
                              · simp only [Act.put, List.setIfInBounds_toArray, List.set_cons_zero, List.set_cons_succ, i64_w, i32_w]
                                rfl
                              refine pure_ (i := 15) (N := some 96) (v := ?_) (a' := ?_) #[true, true, true, true, true, true, true, true, true, true, true, true, true, true, true, true, false, false, false, false, false, false, false, false, false, false, false, false, false, false, false, false, false] rfl rfl (any_of HT_.out (by kernel_rfl)) (fun _ _ _ h => h) (Or.inl ⟨by rfl, ?_⟩) ?_ ?_
                              rotate_left
                              · intro w'
                                go_simp
                                with_reducible rfl
                              rotate_left
                              · simp only [Act.put, List.setIfInBounds_toArray, List.set_cons_zero, List.set_cons_succ, i64_w, i32_w]
                                rfl
                              refine pure_ (i := 16) (N := some 97) (v := ?_) (a' := ?_) #[true, true, true, true, true, true, true, true, true, true, true, true, true, true, true, true, true, false, false, false, false, false, false, false, false, false, false, false, false, false, false, false, false] rfl rfl (any_of HT_.out (by kernel_rfl)) (fun _ _ _ h => h) (Or.inl ⟨by rfl, ?_⟩) ?_ ?_
                              rotate_left
                              · intro w'
                                go_simp
                                with_reducible rfl
                              rotate_left
                              · simp only [Act.put, List.setIfInBounds_toArray, List.set_cons_zero, List.set_cons_succ, i64_w, i32_w]
                                rfl
                              refine pure_ (i := 17) (N := some 98) (v := ?_) (a' := ?_) #[true, true, true, true, true, true, true, true, true, true, true, true, true, true, true, true, true, true, false, false, false, false, false, false, false, false, false, false, false, false, false, false, false] rfl rfl (any_of HT_.out (by kernel_rfl)) (fun _ _ _ h => h) (Or.inl ⟨by rfl, ?_⟩) ?_ ?_
                              rotate_left
                              · intro w'
                                go_simp
                                with_reducible rfl
                              rotate_left
                              · simp only [Act.put, List.setIfInBounds_toArray, List.set_cons_zero, List.set_cons_succ, i64_w, i32_w]
                                rfl
                              refine pure_ (i := 18) (N := some 99) (v := ?_) (a' := ?_) #[true, true, true, true, true, true, true, true, true, true, true, true, true, true, true, true, true, true, true, false, false, false, false, false, false, false, false, false, false, false, false, false, false] rfl rfl (any_of HT_.out (by kernel_rfl)) (fun _ _ _ h => h) (Or.inl ⟨by rfl, ?_⟩) ?_ ?_
                              rotate_left
                              · intro w'
                                go_simp
                                with_reducible rfl
                              rotate_left
                              · simp only [Act.put, List.setIfInBounds_toArray, List.set_cons_zero, List.set_cons_succ, i64_w, i32_w]
                                rfl
                              refine pure_ (i := 19) (N := some 100) (v := ?_) (a' := ?_) #[true, true, true, true, true, true, true, true, true, true, true, true, true, true, true, true, true, true, true, true, false, false, false, false, false, false, false, false, false, false, false, false, false] rfl rfl (any_of HT_.out (by kernel_rfl)) (fun _ _ _ h => h) (Or.inl ⟨by rfl, ?_⟩) ?_ ?_
                              rotate_left
                              · intro w'
                                go_simp
                                with_reducible rfl
                              rotate_left
                              · simp only [Act.put, List.setIfInBounds_toArray, List.set_cons_zero, List.set_cons_succ, i64_w, i32_w]
                                rfl
                              refine pure_ (i := 20) (N := some 101) (v := ?_) (a' := ?_) #[true, true, true, true, true, true, true, true, true, true, true, true, true, true, true, true, true, true, true, true, true, false, false, false, false, false, false, false, false, false, false, false, false] rfl rfl (any_of HT_.out (by kernel_rfl)) (fun _ _ _ h => h) (Or.inl ⟨by rfl, ?_⟩) ?_ ?_
                              rotate_left
                              · intro w'
                                go_simp
                                with_reducible rfl
                              rotate_left
                              · simp only [Act.put, List.setIfInBounds_toArray, List.set_cons_zero, List.set_cons_succ, i64_w, i32_w]
                                rfl
                              refine pure_ (i := 21) (N := some 102) (v := undef) (a' := ?_) #[true, true, true, true, true, true, true, true, true, true, true, true, true, true, true, true, true, true, true, true, true, true, false, false, false, false, false, false, false, false, false, false, false] rfl rfl (any_of HT_.out (by kernel_rfl)) (fun _ _ _ h => h) (Or.inr ⟨by rfl, rfl⟩) ?_ ?_
                              rotate_left
                              · simp only [Act.put, List.setIfInBounds_toArray, List.set_cons_zero, List.set_cons_succ, i64_w, i32_w]
                                rfl
                              refine pure_ (i := 22) (N := some 103) (v := undef) (a' := ?_) #[true, true, true, true, true, true, true, true, true, true, true, true, true, true, true, true, true, true, true, true, true, true, true, false, false, false, false, false, false, false, false, false, false] rfl rfl (any_of HT_.out (by kernel_rfl)) (fun _ _ _ h => h) (Or.inr ⟨by rfl, rfl⟩) ?_ ?_
                              rotate_left
                              · simp only [Act.put, List.setIfInBounds_toArray, List.set_cons_zero, List.set_cons_succ, i64_w, i32_w]
                                rfl
                              refine pure_ (i := 23) (N := some 104) (v := undef) (a' := ?_) #[true, true, true, true, true, true, true, true, true, true, true, true, true, true, true, true, true, true, true, true, true, true, true, true, false, false, false, false, false, false, false, false, false] rfl rfl (any_of HT_.out (by kernel_rfl)) (fun _ _ _ h => h) (Or.inr ⟨by rfl, rfl⟩) ?_ ?_
                              rotate_left
                              · simp only [Act.put, List.setIfInBounds_toArray, List.set_cons_zero, List.set_cons_succ, i64_w, i32_w]
                                rfl
                              refine pure_ (i := 24) (N := some 105) (v := undef) (a' := ?_) #[true, true, true, true, true, true, true, true, true, true, true, true, true, true, true, true, true, true, true, true, true, true, true, true, true, false, false, false, false, false, false, false, false] rfl rfl (any_of HT_.out (by kernel_rfl)) (fun _ _ _ h => h) (Or.inr ⟨by rfl, rfl⟩) ?_ ?_
                              rotate_left
                              · simp only [Act.put, List.setIfInBounds_toArray, List.set_cons_zero, List.set_cons_succ, i64_w, i32_w]
                                rfl
                              refine pure_ (i := 25) (N := some 106) (v := undef) (a' := ?_) #[true, true, true, true, true, true, true, true, true, true, true, true, true, true, true, true, true, true, true, true, true, true, true, true, true, true, false, false, false, false, false, false, false] rfl rfl (any_of HT_.out (by kernel_rfl)) (fun _ _ _ h => h) (Or.inr ⟨by rfl, rfl⟩) ?_ ?_
                              rotate_left
                              · simp only [Act.put, List.setIfInBounds_toArray, List.set_cons_zero, List.set_cons_succ, i64_w, i32_w]
                                rfl
                              refine pure_ (i := 26) (N := some 107) (v := undef) (a' := ?_) #[true, true, true, true, true, true, true, true, true, true, true, true, true, true, true, true, true, true, true, true, true, true, true, true, true, true, true, false, false, false, false, false, false] rfl rfl (any_of HT_.out (by kernel_rfl)) (fun _ _ _ h => h) (Or.inr ⟨by rfl, rfl⟩) ?_ ?_
                              rotate_left
                              · simp only [Act.put, List.setIfInBounds_toArray, List.set_cons_zero, List.set_cons_succ, i64_w, i32_w]
                                rfl
                              refine pure_ (i := 27) (N := some 108) (v := undef) (a' := ?_) #[true, true, true, true, true, true, true, true, true, true, true, true, true, true, true, true, true, true, true, true, true, true, true, true, true, true, true, true, false, false, false, false, false] rfl rfl (any_of HT_.out (by kernel_rfl)) (fun _ _ _ h => h) (Or.inr ⟨by rfl, rfl⟩) ?_ ?_
                              rotate_left
                              · simp only [Act.put, List.setIfInBounds_toArray, List.set_cons_zero, List.set_cons_succ, i64_w, i32_w]
                                rfl
                              refine pure_ (i := 28) (N := some 109) (v := undef) (a' := ?_) #[true, true, true, true, true, true, true, true, true, true, true, true, true, true, true, true, true, true, true, true, true, true, true, true, true, true, true, true, true, false, false, false, false] rfl rfl (any_of HT_.out (by kernel_rfl)) (fun _ _ _ h => h) (Or.inr ⟨by rfl, rfl⟩) ?_ ?_
                              rotate_left
                              · simp only [Act.put, List.setIfInBounds_toArray, List.set_cons_zero, List.set_cons_succ, i64_w, i32_w]
                                rfl
                              refine pure_ (i := 29) (N := some 110) (v := undef) (a' := ?_) #[true, true, true, true, true, true, true, true, true, true, true, true, true, true, true, true, true, true, true, true, true, true, true, true, true, true, true, true, true, true, false, false, false] rfl rfl (any_of HT_.out (by kernel_rfl)) (fun _ _ _ h => h) (Or.inr ⟨by rfl, rfl⟩) ?_ ?_
                              rotate_left
                              · simp only [Act.put, List.setIfInBounds_toArray, List.set_cons_zero, List.set_cons_succ, i64_w, i32_w]
                                rfl
                              refine pure_ (i := 30) (N := some 111) (v := undef) (a' := ?_) #[true, true, true, true, true, true, true, true, true, true, true, true, true, true, true, true, true, true, true, true, true, true, true, true, true, true, true, true, true, true, true, false, false] rfl rfl (any_of HT_.out (by kernel_rfl)) (fun _ _ _ h => h) (Or.inr ⟨by rfl, rfl⟩) ?_ ?_
                              rotate_left
                              · simp only [Act.put, List.setIfInBounds_toArray, List.set_cons_zero, List.set_cons_succ, i64_w, i32_w]
                                rfl
                              refine pure_ (i := 31) (N := some 112) (v := ?_) (a' := ?_) #[true, true, true, true, true, true, true, true, true, true, true, true, true, true, true, true, true, true, true, true, true, true, true, true, true, true, true, true, true, true, true, true, false] rfl rfl (any_of HT_.out (by kernel_rfl)) (fun _ _ _ h => h) (Or.inl ⟨by rfl, ?_⟩) ?_ ?_
                              rotate_left
                              · intro w'
                                go_simp
                                with_reducible rfl
                              rotate_left
                              · simp only [Act.put, List.setIfInBounds_toArray, List.set_cons_zero, List.set_cons_succ, i64_w, i32_w]
                                rfl
                              refine pure_ (i := 32) (N := some 113) (v := ?_) (a' := ?_) #[true, true, true, true, true, true, true, true, true, true, true, true, true, true, true, true, true, true, true, true, true, true, true, true, true, true, true, true, true, true, true, true, true] rfl rfl (any_of HT_.out (by kernel_rfl)) (fun _ _ _ h => h) (Or.inl ⟨by rfl, ?_⟩) ?_ ?_
                              rotate_left
                              · intro w'
                                go_simp
                                with_reducible rfl
                              rotate_left
                              · simp only [Act.put, List.setIfInBounds_toArray, List.set_cons_zero, List.set_cons_succ, i64_w, i32_w]
                                rfl
                              refine done_ (done_of HT_.out (by kernel_rfl)) ?_
                              have hcz81_0 : w80.cell? ⟨gb322, 0, none⟩ = some (.int .i64 ((rd_T39 t305 x76_2).f0)) := (blk_cell BK322.out 0).trans rfl
                              have hcz81_1 : w80.cell? ⟨gb322, 1, none⟩ = some (.slice A321_1 ((rd_T39 t305 x76_2).f1).length c321_1) := (blk_cell BK322.out 1).trans rfl
                              have hfz81_0 := blk_frozen BK322.out 0
                              have hfz81_1 := blk_frozen BK322.out 1
                              have hcz82_0 : w80.cell? ⟨gb320, 0, none⟩ = some (.int .i64 t315) := (blk_cell BK320.out 0).trans rfl
                              have hcz82_1 : w80.cell? ⟨gb320, 1, none⟩ = some (.slice Ao35 t316.length co35) := (blk_cell BK320.out 1).trans rfl
                              have hfz82_0 := blk_frozen BK320.out 0
                              have hfz82_1 := blk_frozen BK320.out 1
                              try go_wp2_with (first | (go_at_call 20; (with_reducible refine (deviation_Same.calls k2 ((rd_T39 t305 x76_2).f0) _ _ ((rd_T39 t305 x76_2).f1) t315 _ _ t316 t327 _ ?side1 ?side2 ?side3 ?side4 A74.out).mono ?_); (case side1 => repeat (first | exact ((Kd.R_reads' (by (with_reducible repeat (first | apply Kd.R_alloc | apply Kd.R_drewN | apply Kd.R_drew)); exact HL321_1.out)).2.2) | (with_reducible refine Kd.C_alloc ?_ _) | (with_reducible refine Kd.C_drewN ?_ _) | (with_reducible refine Kd.C_drew ?_))); (case side2 => exact HC321_1.out); (case side3 => repeat (first | exact (Kd.R_reads' HO_321001.out).2.2 | (with_reducible refine Kd.C_alloc ?_ _) | (with_reducible refine Kd.C_drewN ?_ _) | (with_reducible refine Kd.C_drew ?_))); (case side4 => exact (Kd.R_reads' HO_321001.out).2.1); rintro e w83 ⟨rfl, hb⟩; have n0_ := Aside0.mk (Kd.R_below (by (with_reducible repeat (first | apply Kd.R_alloc | apply Kd.R_drewN | apply Kd.R_drew)); exact HO_6.out) hb); have n1_ := Aside0.mk (Kd.S_below (by (with_reducible repeat (first | apply Kd.S_alloc | apply Kd.S_drewN | apply Kd.S_drew)); exact HO_9.out) hb); have n2_ := Aside0.mk (Kd.S_below (by (with_reducible repeat (first | apply Kd.S_alloc | apply Kd.S_drewN | apply Kd.S_drew)); exact HO_74.out) hb); have n3_ := Aside0.mk (Kd.R_below (by (with_reducible repeat (first | apply Kd.R_alloc | apply Kd.R_drewN | apply Kd.R_drew)); exact HO_321001.out) hb); have n4_ := Aside0.mk (Kd.R_below (by (with_reducible repeat (first | apply Kd.R_alloc | apply Kd.R_drewN | apply Kd.R_drew)); exact HL321_1.out) hb); have n5_ := Aside0.mk (blk_below (g := gb320) (o := .cells #[.int .i64 t315, .slice Ao35 t316.length co35] 39 (0, 0)) (by (with_reducible repeat (first | refine blk_drewN ?_ _ | refine blk_drew ?_ | refine blk_alloc ?_ _)); exact BK320.out) hb); have n6_ := Aside0.mk (blk_below (g := gb322) (o := .cells #[.int .i64 ((rd_T39 t305 x76_2).f0), .slice A321_1 ((rd_T39 t305 x76_2).f1).length c321_1] 39 (0, 0)) (by (with_reducible repeat (first | refine blk_drewN ?_ _ | refine blk_drew ?_ | refine blk_alloc ?_ _)); exact BK322.out) hb); have n7_ := Aside0.mk (below_step (by repeat (first | (with_reducible first | exact HB.out | apply below_alloc | apply pw_below_drewN | apply below_drew1 | refine below_set ?_ GE320.out | refine below_set ?_ GE322.out) | exact HB.out)) hb); clear HO_6; clear HO_9; clear HO_74; clear HO_321001; clear HL321_1; clear BK320; clear BK322; clear HB; have HO_6 := n0_; have HO_9 := n1_; have HO_74 := n2_; have HO_321001 := n3_; have HL321_1 := n4_; have BK320 := n5_; have BK322 := n6_; have HB := n7_; clear n0_ n1_ n2_ n3_ n4_ n5_ n6_ n7_; (try clear hb); (try clear hb2); (try clear hk); (try clear hi); (try clear hgw)))
                              go_roundg k2
                              case measure => have := HJ10.out; have := HK2.out; omega
                              case rel => exact ⟨(t327), (wrap64 (x76_2 + 1)), (by first | rfl | (simp; done) | (simp [*]; done)), (by first | rfl | (simp; done) | (simp [*]; done)), H', ⟨by have := HJ10.out; have := HK2.out; omega⟩, ⟨by (with_reducible repeat (first | apply Kd.R_alloc | apply Kd.R_drewN | apply Kd.R_drew)); exact HO_6.out⟩, ⟨by (with_reducible repeat (first | apply Kd.S_alloc | apply Kd.S_drewN | apply Kd.S_drew)); exact Kd.S_mono HO_9.out (fun _ hk => ⟨hk.1, hk.2.1⟩)⟩, ⟨by (with_reducible repeat (first | apply Kd.S_alloc | apply Kd.S_drewN | apply Kd.S_drew)); exact Kd.S_mono HO_74.out (fun _ hk => ⟨hk.1, hk.2.1⟩)⟩, ⟨by (with_reducible repeat (first | apply Kd.R_alloc | apply Kd.R_drewN | apply Kd.R_drew)); exact HO_321001.out⟩, ⟨by (with_reducible repeat (first | refine blk_drewN ?_ _ | refine blk_drew ?_ | refine blk_alloc ?_ _)); exact BK320.out⟩, ⟨by repeat (first | (with_reducible first | exact HB.out | apply below_alloc | apply pw_below_drewN | apply below_drew1 | refine below_set ?_ GE320.out | refine below_set ?_ GE322.out) | exact HB.out)⟩⟩
                      · rw [if_neg c42] at H
                        have c42b0 : (((rd_T39 t305 x76_2).f0) == (wrap64 (1 + t303))) = false := beq_eq_false_iff_ne.mpr c42
                        have c42b1 : (((rd_T39 t305 x76_2).f0) != (wrap64 (1 + t303))) = true := bne_iff_ne.mpr c42
                        exact absurd (Option.some.inj H) (by rw [HRT_.out]; decide)
                    · replace c41 := Bool.eq_false_iff.mpr c41
                      subst c41
                      have H1 : (some false) = some r := by rw [if_neg (show ¬ (false = true) by decide)] at H; exact H
                      clear H
                      have H := H1
                      clear H1
                      exact absurd (Option.some.inj H) (by rw [HRT_.out]; decide)
                  · rw [if_neg c39] at H
                    exact absurd H (by simp)
                · rw [if_neg c38] at H
                  exact absurd H (by simp)
              · rw [if_neg c37] at H
                have c37b0 : decide (x76_2 < (t305.length : Int)) = false := decide_eq_false c37
                clear c37
                obtain rfl := Option.some.inj H
                go_wp2
                go_ret
                exact ⟨by first | rfl | (simp [errW_none, errW_some] <;> rfl) | (simp [*, errW_none, errW_some] <;> rfl), by repeat (first | (with_reducible first | exact HB.out | apply below_alloc | apply pw_below_drewN | apply below_drew1 | refine below_set ?_ GE320.out) | exact HB.out)⟩
  · replace c4 := Bool.eq_false_iff.mpr c4
    subst c4
    have H1 : (some false) = some r := by rw [if_neg (show ¬ (false = true) by decide)] at H; exact H
    clear H
    have H := H1
    clear H1
    exact absurd (Option.some.inj H) (by rw [HRT_.out]; decide)

/-- THE ONE PURE STATEMENT of storagebarterlaw30_DeviationAll: yours. -/
def storagebarterlaw30_DeviationAll.Pure : Prop := ∀ (l0 : List Int) (a1 : Int), l0.length ≤ maxLen → l0.length * 1 ≤ 140737488351232 → (∀ x ∈ l0, (Lit.int .u8 x).wf = true) → (Lit.int .u8 a1).wf = true → ∃ k, storagebarterlaw30_DeviationAll.f k l0 a1 = some true
theorem storagebarterlaw30_DeviationAll.walk (P : storagebarterlaw30_DeviationAll.Pure) (a0 : Option Addr) (len0 cap0 : Nat) (z0 : List Int) (a1 : Int) (w : World) (w0 : (a0 = none ∧ len0 = 0 ∧ cap0 = 0 ∧ z0 = []) ∨ ∃ x, a0 = some x ∧ len0 ≤ cap0 ∧ cap0 ≤ maxLen ∧ z0.length = cap0 ∧ (∀ i, i < z0.length → w.cell? (x.add i) = some (.int .u8 (z0.getD i 0))) ∧ ∀ n ∈ z0, (Lit.int .u8 n).wf = true) (y0 : len0 * 1 ≤ 140737488351232) (w1 : (Lit.int .u8 a1).wf = true) (hL_ : Laid w) :
    Calls Tryd.prog 5 #[.slice a0 len0 cap0, .int .u8 a1] w fun e w' => e = .returned (.bool true) ∧ Below w.heap.size w w' := by
  obtain ⟨l0, rfl, hr0, hm0, hw0, hc0⟩ := ReadsInt.ofRowC w0
  obtain ⟨k, h⟩ := P l0 a1 hm0 y0 hw0 w1
  refine (storagebarterlaw30_DeviationAll.calls k _ _ l0 a1 true w (Kd.C_of_reads (d := (0 : Int)) (h1 := fun _ => rfl) hr0) hc0 h rfl hL_).mono ?_
  rintro e w' ⟨rfl, hd⟩
  exact ⟨rfl, hd⟩

end Go.Proofs.YtdflpnfceajomaaDoor.PDeviationAll
