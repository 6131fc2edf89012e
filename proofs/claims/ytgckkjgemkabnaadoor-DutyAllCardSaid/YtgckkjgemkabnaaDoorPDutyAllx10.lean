-- Written by a program of this repository (wip/tools/myprint.py over the print of the kit): contracts and rows.
import Derived.Test.YtgckkjgemkabnaaDoorPDutyAllx0
import Derived.Test.YtgckkjgemkabnaaDoorPDutyAllx1
import Derived.Test.YtgckkjgemkabnaaDoorPDutyAllx3
import Derived.Test.YtgckkjgemkabnaaDoorPDutyAllx4
import Derived.Test.YtgckkjgemkabnaaDoorPDutyAllx9
namespace Go.Proofs.YtgckkjgemkabnaaDoor.PDutyAll
open Go.RowKit Go.Proofs.YtgckkjgemkabnaaDoorW.PrintWords Go.Proofs.YtgckkjgemkabnaaDoorW.PrintLast Go.Proofs.YtgckkjgemkabnaaDoorW.PrintMore
attribute [local go_sem] max2_int min2_int max_two min_two max_three min_three max_four min_four   -- for this text's walks alone
set_option linter.unusedVariables false
set_option linter.unusedSimpArgs false

attribute [local go_sem high] eqA36
/-! ### storagebarterlaw28_DutyAll: function 7 -/
mutual
def storagebarterlaw28_DutyAll.l0 : Nat → List (List (S36)) → Int → Int → List Int → Int → Option (Bool)
  | 0, _, _, _, _, _ => none
  | k + 1, x4, x5, x6, x213000, x213001 => if x6 > 0 then ((storagebarterplay_Dice_Arrangement.f k x213000 x213001 4).bind fun bt215 => ((storagebarterplay_Dice_Pick.f x213000 bt215.2.2.2.2.2 2).bind fun bt223 => ((duty_Plan.f k bt215.1 bt215.2.1 bt215.2.2.1 bt215.2.2.2.1 bt215.2.2.2.2.1 x6 (bt223.1 == 0)).bind fun bt225 => (if bt225.2 = 0 then (if x4.length < 5864062014805 then (storagebarterlaw28_DutyAll.l0 k (x4 ++ [bt225.1]) (wrap64 (x5 + (bt225.1.length : Int))) (wrap64 (x6 - 1)) x213000 bt223.2) else (none)) else (some false))))) else ((duty_Merge.f k x4).bind fun t232 => (if (t232.length : Int) = x5 then (if 8 ≤ 35184372088832 then (storagebarterlaw28_DutyAll.l1 k x4 x5 t232 (List.replicate 8 0) t232 (t232.length : Int) 0) else (none)) else (some false)))
def storagebarterlaw28_DutyAll.l1 : Nat → List (List (S36)) → Int → List (S36) → List Int → List (S36) → Int → Int → Option (Bool)
  | 0, _, _, _, _, _, _, _ => none
  | k + 1, x4, x5, x9, x10, x55, x56, x57 => if x57 < x56 then (if 0 ≤ x57 then (if x57 < (x55.length : Int) then (if x57 > 0 then (if 0 ≤ (wrap64 (x57 - 1)) then (if (wrap64 (x57 - 1)) < (x9.length : Int) then (if ((rd_T36 x9 (wrap64 (x57 - 1))).f0) > ((rd_T36 x55 x57).f0) then (storagebarterlaw28_DutyAll.j2 k x4 x5 x9 x10 x55 x56 x57 true ((rd_T36 x55 x57).f0) ((rd_T36 x55 x57).f1) ((rd_T36 x55 x57).f2) ((rd_T36 x55 x57).f3)) else (if ((rd_T36 x9 (wrap64 (x57 - 1))).f0) = ((rd_T36 x55 x57).f0) then (storagebarterlaw28_DutyAll.j2 k x4 x5 x9 x10 x55 x56 x57 (decide (((rd_T36 x9 (wrap64 (x57 - 1))).f1) > ((rd_T36 x55 x57).f1))) ((rd_T36 x55 x57).f0) ((rd_T36 x55 x57).f1) ((rd_T36 x55 x57).f2) ((rd_T36 x55 x57).f3)) else (storagebarterlaw28_DutyAll.j2 k x4 x5 x9 x10 x55 x56 x57 false ((rd_T36 x55 x57).f0) ((rd_T36 x55 x57).f1) ((rd_T36 x55 x57).f2) ((rd_T36 x55 x57).f3)))) else (none)) else (none)) else (storagebarterlaw28_DutyAll.j2 k x4 x5 x9 x10 x55 x56 x57 false ((rd_T36 x55 x57).f0) ((rd_T36 x55 x57).f1) ((rd_T36 x55 x57).f2) ((rd_T36 x55 x57).f3))) else (none)) else (none)) else (storagebarterlaw28_DutyAll.l3 k x5 x9 0 1)
def storagebarterlaw28_DutyAll.j2 : Nat → List (List (S36)) → Int → List (S36) → List Int → List (S36) → Int → Int → Bool → Int → Int → Int → Int → Option (Bool)
  | 0, _, _, _, _, _, _, _, _, _, _, _, _ => none
  | k + 1, x4, x5, x9, x10, x55, x56, x57, x96, x240000, x240001, x240002, x240003 => if x96 = true then (some false) else (storagebarterlaw28_DutyAll.l2 k x4 x5 x9 x10 (-1) x55 x56 x57 x4 (x4.length : Int) 0 x240000 x240001 x240002 x240003)
def storagebarterlaw28_DutyAll.l2 : Nat → List (List (S36)) → Int → List (S36) → List Int → Int → List (S36) → Int → Int → List (List (S36)) → Int → Int → Int → Int → Int → Int → Option (Bool)
  | 0, _, _, _, _, _, _, _, _, _, _, _, _, _, _, _ => none
  | k + 1, x4, x5, x9, x10, x13, x55, x56, x57, x97, x98, x99, x240000, x240001, x240002, x240003 => if x99 < x98 then (if 0 ≤ x99 then (if x99 < (x97.length : Int) then (if ((rd_L5 x97 x99).length : Int) > 0 then (if 0 < ((rd_L5 x97 x99).length : Int) then (if ((rd_T36 (rd_L5 x97 x99) 0).f1) = x240001 then (storagebarterlaw28_DutyAll.l2 k x4 x5 x9 x10 x99 x55 x56 x57 x97 x98 (wrap64 (x99 + 1)) x240000 x240001 x240002 x240003) else (storagebarterlaw28_DutyAll.l2 k x4 x5 x9 x10 x13 x55 x56 x57 x97 x98 (wrap64 (x99 + 1)) x240000 x240001 x240002 x240003)) else (none)) else (storagebarterlaw28_DutyAll.l2 k x4 x5 x9 x10 x13 x55 x56 x57 x97 x98 (wrap64 (x99 + 1)) x240000 x240001 x240002 x240003)) else (none)) else (none)) else (if x13 < 0 then (some false) else (if x240001 < 0 then (some false) else (if x240001 ≥ (x10.length : Int) then (some false) else (if 0 ≤ x240001 then (if x240001 < (x10.length : Int) then (if 0 ≤ x13 then (if x13 < (x4.length : Int) then (if (rd x10 x240001) ≥ ((rd_L5 x4 x13).length : Int) then (some false) else (if 0 ≤ (rd x10 x240001) then (if (rd x10 x240001) < ((rd_L5 x4 x13).length : Int) then (if (!(((rd_T36 (rd_L5 x4 x13) (rd x10 x240001)).f0) == x240000) || (!(((rd_T36 (rd_L5 x4 x13) (rd x10 x240001)).f1) == x240001) || (!(((rd_T36 (rd_L5 x4 x13) (rd x10 x240001)).f2) == x240002) || (!(((rd_T36 (rd_L5 x4 x13) (rd x10 x240001)).f3) == x240003))))) = true then (some false) else (storagebarterlaw28_DutyAll.l1 k x4 x5 x9 (x10.set (x240001 : Int).toNat (wrap64 ((rd x10 x240001) + 1))) x55 x56 (wrap64 (x57 + 1)))) else (none)) else (none))) else (none)) else (none)) else (none)) else (none)))))
def storagebarterlaw28_DutyAll.l3 : Nat → Int → List (S36) → Int → Int → Option (Bool)
  | 0, _, _, _, _ => none
  | k + 1, x5, x9, x16, x17 => if x17 ≤ 4 then ((duty_Of.f k x9 x17).bind fun t252 => (storagebarterlaw28_DutyAll.l3 k x5 x9 (wrap64 (x16 + (t252.length : Int))) (wrap64 (x17 + 1)))) else (some (x16 == x5))
end
def storagebarterlaw28_DutyAll.f (k : Nat) (l0 : List Int) : Option (Bool) := (storagebarterlaw28_sane.f k).bind fun t209 => (if t209 = true then ((storagebarterplay_New.f l0).bind fun bt210 => ((storagebarterplay_Dice_Pick.f bt210.1 bt210.2 5).bind fun bt213 => (storagebarterlaw28_DutyAll.l0 k ([] : List (List (S36))) 0 bt213.1 bt210.1 bt213.2))) else (some false))
theorem storagebarterlaw28_DutyAll.mono_l : ∀ k, (∀ y0 y1 y2 y3 y4, LeO (storagebarterlaw28_DutyAll.l0 k y0 y1 y2 y3 y4) (storagebarterlaw28_DutyAll.l0 (k + 1) y0 y1 y2 y3 y4)) ∧ (∀ y0 y1 y2 y3 y4 y5 y6, LeO (storagebarterlaw28_DutyAll.l1 k y0 y1 y2 y3 y4 y5 y6) (storagebarterlaw28_DutyAll.l1 (k + 1) y0 y1 y2 y3 y4 y5 y6)) ∧ (∀ y0 y1 y2 y3 y4 y5 y6 y7 y8 y9 y10 y11, LeO (storagebarterlaw28_DutyAll.j2 k y0 y1 y2 y3 y4 y5 y6 y7 y8 y9 y10 y11) (storagebarterlaw28_DutyAll.j2 (k + 1) y0 y1 y2 y3 y4 y5 y6 y7 y8 y9 y10 y11)) ∧ (∀ y0 y1 y2 y3 y4 y5 y6 y7 y8 y9 y10 y11 y12 y13 y14, LeO (storagebarterlaw28_DutyAll.l2 k y0 y1 y2 y3 y4 y5 y6 y7 y8 y9 y10 y11 y12 y13 y14) (storagebarterlaw28_DutyAll.l2 (k + 1) y0 y1 y2 y3 y4 y5 y6 y7 y8 y9 y10 y11 y12 y13 y14)) ∧ (∀ y0 y1 y2 y3, LeO (storagebarterlaw28_DutyAll.l3 k y0 y1 y2 y3) (storagebarterlaw28_DutyAll.l3 (k + 1) y0 y1 y2 y3))
  | 0 => ⟨fun _ _ _ _ _ r h => by simp [storagebarterlaw28_DutyAll.l0] at h, fun _ _ _ _ _ _ _ r h => by simp [storagebarterlaw28_DutyAll.l1] at h, fun _ _ _ _ _ _ _ _ _ _ _ _ r h => by simp [storagebarterlaw28_DutyAll.j2] at h, fun _ _ _ _ _ _ _ _ _ _ _ _ _ _ _ r h => by simp [storagebarterlaw28_DutyAll.l2] at h, fun _ _ _ _ r h => by simp [storagebarterlaw28_DutyAll.l3] at h⟩
  | k + 1 => by
    obtain ⟨ih0, ih1, ih2, ih3, ih4⟩ := storagebarterlaw28_DutyAll.mono_l k
    refine ⟨?_, ?_, ?_, ?_, ?_⟩
    · intro y0 y1 y2 y3 y4
      unfold storagebarterlaw28_DutyAll.l0
      repeat' first
      | (with_reducible exact ih0 _ _ _ _ _)
      | (with_reducible exact ih1 _ _ _ _ _ _ _)
      | (with_reducible exact ih2 _ _ _ _ _ _ _ _ _ _ _ _)
      | (with_reducible exact ih3 _ _ _ _ _ _ _ _ _ _ _ _ _ _ _)
      | (with_reducible exact ih4 _ _ _ _)
      | (with_reducible exact duty_Merge.mono _ _)
      | (with_reducible exact duty_Of.mono _ _ _)
      | (with_reducible exact duty_Plan.mono _ _ _ _ _ _ _ _)
      | (with_reducible exact storagebarterlaw28_sane.mono _)
      | (with_reducible exact storagebarterplay_Dice_Arrangement.mono _ _ _ _)
      | (with_reducible exact LeO.refl _)
      | (with_reducible exact LeO.none _)
      | (with_reducible refine LeO.ite ?_ ?_)
      | (with_reducible refine LeO.bind ?_ (fun _ => ?_))
      | exact ih0 _ _ _ _ _
      | exact ih1 _ _ _ _ _ _ _
      | exact ih2 _ _ _ _ _ _ _ _ _ _ _ _
      | exact ih3 _ _ _ _ _ _ _ _ _ _ _ _ _ _ _
      | exact ih4 _ _ _ _
      | exact duty_Merge.mono _ _
      | exact duty_Of.mono _ _ _
      | exact duty_Plan.mono _ _ _ _ _ _ _ _
      | exact storagebarterlaw28_sane.mono _
      | exact storagebarterplay_Dice_Arrangement.mono _ _ _ _
      | exact LeO.none _
      | refine LeO.ite ?_ ?_
      | refine LeO.bind ?_ (fun _ => ?_)
    · intro y0 y1 y2 y3 y4 y5 y6
      unfold storagebarterlaw28_DutyAll.l1
      repeat' first
      | (with_reducible exact ih0 _ _ _ _ _)
      | (with_reducible exact ih1 _ _ _ _ _ _ _)
      | (with_reducible exact ih2 _ _ _ _ _ _ _ _ _ _ _ _)
      | (with_reducible exact ih3 _ _ _ _ _ _ _ _ _ _ _ _ _ _ _)
      | (with_reducible exact ih4 _ _ _ _)
      | (with_reducible exact duty_Merge.mono _ _)
      | (with_reducible exact duty_Of.mono _ _ _)
      | (with_reducible exact duty_Plan.mono _ _ _ _ _ _ _ _)
      | (with_reducible exact storagebarterlaw28_sane.mono _)
      | (with_reducible exact storagebarterplay_Dice_Arrangement.mono _ _ _ _)
      | (with_reducible exact LeO.refl _)
      | (with_reducible exact LeO.none _)
      | (with_reducible refine LeO.ite ?_ ?_)
      | (with_reducible refine LeO.bind ?_ (fun _ => ?_))
      | exact ih0 _ _ _ _ _
      | exact ih1 _ _ _ _ _ _ _
      | exact ih2 _ _ _ _ _ _ _ _ _ _ _ _
      | exact ih3 _ _ _ _ _ _ _ _ _ _ _ _ _ _ _
      | exact ih4 _ _ _ _
      | exact duty_Merge.mono _ _
      | exact duty_Of.mono _ _ _
      | exact duty_Plan.mono _ _ _ _ _ _ _ _
      | exact storagebarterlaw28_sane.mono _
      | exact storagebarterplay_Dice_Arrangement.mono _ _ _ _
      | exact LeO.none _
      | refine LeO.ite ?_ ?_
      | refine LeO.bind ?_ (fun _ => ?_)
    · intro y0 y1 y2 y3 y4 y5 y6 y7 y8 y9 y10 y11
      unfold storagebarterlaw28_DutyAll.j2
      repeat' first
      | (with_reducible exact ih0 _ _ _ _ _)
      | (with_reducible exact ih1 _ _ _ _ _ _ _)
      | (with_reducible exact ih2 _ _ _ _ _ _ _ _ _ _ _ _)
      | (with_reducible exact ih3 _ _ _ _ _ _ _ _ _ _ _ _ _ _ _)
      | (with_reducible exact ih4 _ _ _ _)
      | (with_reducible exact duty_Merge.mono _ _)
      | (with_reducible exact duty_Of.mono _ _ _)
      | (with_reducible exact duty_Plan.mono _ _ _ _ _ _ _ _)
      | (with_reducible exact storagebarterlaw28_sane.mono _)
      | (with_reducible exact storagebarterplay_Dice_Arrangement.mono _ _ _ _)
      | (with_reducible exact LeO.refl _)
      | (with_reducible exact LeO.none _)
      | (with_reducible refine LeO.ite ?_ ?_)
      | (with_reducible refine LeO.bind ?_ (fun _ => ?_))
      | exact ih0 _ _ _ _ _
      | exact ih1 _ _ _ _ _ _ _
      | exact ih2 _ _ _ _ _ _ _ _ _ _ _ _
      | exact ih3 _ _ _ _ _ _ _ _ _ _ _ _ _ _ _
      | exact ih4 _ _ _ _
      | exact duty_Merge.mono _ _
      | exact duty_Of.mono _ _ _
      | exact duty_Plan.mono _ _ _ _ _ _ _ _
      | exact storagebarterlaw28_sane.mono _
      | exact storagebarterplay_Dice_Arrangement.mono _ _ _ _
      | exact LeO.none _
      | refine LeO.ite ?_ ?_
      | refine LeO.bind ?_ (fun _ => ?_)
    · intro y0 y1 y2 y3 y4 y5 y6 y7 y8 y9 y10 y11 y12 y13 y14
      unfold storagebarterlaw28_DutyAll.l2
      repeat' first
      | (with_reducible exact ih0 _ _ _ _ _)
      | (with_reducible exact ih1 _ _ _ _ _ _ _)
      | (with_reducible exact ih2 _ _ _ _ _ _ _ _ _ _ _ _)
      | (with_reducible exact ih3 _ _ _ _ _ _ _ _ _ _ _ _ _ _ _)
      | (with_reducible exact ih4 _ _ _ _)
      | (with_reducible exact duty_Merge.mono _ _)
      | (with_reducible exact duty_Of.mono _ _ _)
      | (with_reducible exact duty_Plan.mono _ _ _ _ _ _ _ _)
      | (with_reducible exact storagebarterlaw28_sane.mono _)
      | (with_reducible exact storagebarterplay_Dice_Arrangement.mono _ _ _ _)
      | (with_reducible exact LeO.refl _)
      | (with_reducible exact LeO.none _)
      | (with_reducible refine LeO.ite ?_ ?_)
      | (with_reducible refine LeO.bind ?_ (fun _ => ?_))
      | exact ih0 _ _ _ _ _
      | exact ih1 _ _ _ _ _ _ _
      | exact ih2 _ _ _ _ _ _ _ _ _ _ _ _
      | exact ih3 _ _ _ _ _ _ _ _ _ _ _ _ _ _ _
      | exact ih4 _ _ _ _
      | exact duty_Merge.mono _ _
      | exact duty_Of.mono _ _ _
      | exact duty_Plan.mono _ _ _ _ _ _ _ _
      | exact storagebarterlaw28_sane.mono _
      | exact storagebarterplay_Dice_Arrangement.mono _ _ _ _
      | exact LeO.none _
      | refine LeO.ite ?_ ?_
      | refine LeO.bind ?_ (fun _ => ?_)
    · intro y0 y1 y2 y3
      unfold storagebarterlaw28_DutyAll.l3
      repeat' first
      | (with_reducible exact ih0 _ _ _ _ _)
      | (with_reducible exact ih1 _ _ _ _ _ _ _)
      | (with_reducible exact ih2 _ _ _ _ _ _ _ _ _ _ _ _)
      | (with_reducible exact ih3 _ _ _ _ _ _ _ _ _ _ _ _ _ _ _)
      | (with_reducible exact ih4 _ _ _ _)
      | (with_reducible exact duty_Merge.mono _ _)
      | (with_reducible exact duty_Of.mono _ _ _)
      | (with_reducible exact duty_Plan.mono _ _ _ _ _ _ _ _)
      | (with_reducible exact storagebarterlaw28_sane.mono _)
      | (with_reducible exact storagebarterplay_Dice_Arrangement.mono _ _ _ _)
      | (with_reducible exact LeO.refl _)
      | (with_reducible exact LeO.none _)
      | (with_reducible refine LeO.ite ?_ ?_)
      | (with_reducible refine LeO.bind ?_ (fun _ => ?_))
      | exact ih0 _ _ _ _ _
      | exact ih1 _ _ _ _ _ _ _
      | exact ih2 _ _ _ _ _ _ _ _ _ _ _ _
      | exact ih3 _ _ _ _ _ _ _ _ _ _ _ _ _ _ _
      | exact ih4 _ _ _ _
      | exact duty_Merge.mono _ _
      | exact duty_Of.mono _ _ _
      | exact duty_Plan.mono _ _ _ _ _ _ _ _
      | exact storagebarterlaw28_sane.mono _
      | exact storagebarterplay_Dice_Arrangement.mono _ _ _ _
      | exact LeO.none _
      | refine LeO.ite ?_ ?_
      | refine LeO.bind ?_ (fun _ => ?_)
theorem storagebarterlaw28_DutyAll.mono : ∀ a0 k, LeO (storagebarterlaw28_DutyAll.f k a0) (storagebarterlaw28_DutyAll.f (k + 1) a0) := by
  intro a0 k
  obtain ⟨ih0, ih1, ih2, ih3, ih4⟩ := storagebarterlaw28_DutyAll.mono_l k
  unfold storagebarterlaw28_DutyAll.f
  repeat' first
      | (with_reducible exact ih0 _ _ _ _ _)
      | (with_reducible exact ih1 _ _ _ _ _ _ _)
      | (with_reducible exact ih2 _ _ _ _ _ _ _ _ _ _ _ _)
      | (with_reducible exact ih3 _ _ _ _ _ _ _ _ _ _ _ _ _ _ _)
      | (with_reducible exact ih4 _ _ _ _)
      | (with_reducible exact duty_Merge.mono _ _)
      | (with_reducible exact duty_Of.mono _ _ _)
      | (with_reducible exact duty_Plan.mono _ _ _ _ _ _ _ _)
      | (with_reducible exact storagebarterlaw28_sane.mono _)
      | (with_reducible exact storagebarterplay_Dice_Arrangement.mono _ _ _ _)
      | (with_reducible exact LeO.refl _)
      | (with_reducible exact LeO.none _)
      | (with_reducible refine LeO.ite ?_ ?_)
      | (with_reducible refine LeO.bind ?_ (fun _ => ?_))
      | exact ih0 _ _ _ _ _
      | exact ih1 _ _ _ _ _ _ _
      | exact ih2 _ _ _ _ _ _ _ _ _ _ _ _
      | exact ih3 _ _ _ _ _ _ _ _ _ _ _ _ _ _ _
      | exact ih4 _ _ _ _
      | exact duty_Merge.mono _ _
      | exact duty_Of.mono _ _ _
      | exact duty_Plan.mono _ _ _ _ _ _ _ _
      | exact storagebarterlaw28_sane.mono _
      | exact storagebarterplay_Dice_Arrangement.mono _ _ _ _
      | exact LeO.none _
      | refine LeO.ite ?_ ?_
      | refine LeO.bind ?_ (fun _ => ?_)
set_option maxHeartbeats 60000000 in
set_option maxRecDepth 100000 in
theorem storagebarterlaw28_DutyAll.calls (k : Nat) (A0 : Option Addr) (c0 : Nat) (l0 : List Int) (r : Bool) (w : World) (hr0 : Kd.C (Kd.int .u8) w A0 l0.length l0) (hc0 : l0.length ≤ c0) (h : storagebarterlaw28_DutyAll.f k l0 = some r) (hrt_ : r = true) (hL_ : Laid w) :
    Calls Tryd.prog 7 #[.slice A0 l0.length c0] w fun e w' => e = .returned (.bool r) ∧ Below w.heap.size w w' := by
  have HL_ := Aside0.mk hL_
  clear hL_
  have HRT_ := Aside0.mk hrt_
  clear hrt_
  have hu36 := Tryd.underlying36
  have HR0 := Aside0.mk hr0
  have HC0 := Aside0.mk hc0
  clear hr0 hc0
  have HB := Aside0.mk (Below.refl w.heap.size w)
  have H : ((storagebarterlaw28_sane.f k).bind fun t209 => (if t209 = true then ((storagebarterplay_New.f l0).bind fun bt210 => ((storagebarterplay_Dice_Pick.f bt210.1 bt210.2 5).bind fun bt213 => (storagebarterlaw28_DutyAll.l0 k ([] : List (List (S36))) 0 bt213.1 bt210.1 bt213.2))) else (some false))) = some r := h
  clear h
  replace H := Option.bind_eq_some_iff.mp H
  obtain ⟨t209, A20, H⟩ := H
  replace H : (if t209 = true then ((storagebarterplay_New.f l0).bind fun bt210 => ((storagebarterplay_Dice_Pick.f bt210.1 bt210.2 5).bind fun bt213 => (storagebarterlaw28_DutyAll.l0 k ([] : List (List (S36))) 0 bt213.1 bt210.1 bt213.2))) else (some false)) = some r := H
  have A2 := Aside0.mk A20
  clear A20
  by_cases c3 : t209 = true
  · subst c3
    have H1 : ((storagebarterplay_New.f l0).bind fun bt210 => ((storagebarterplay_Dice_Pick.f bt210.1 bt210.2 5).bind fun bt213 => (storagebarterlaw28_DutyAll.l0 k ([] : List (List (S36))) 0 bt213.1 bt210.1 bt213.2))) = some r := by rw [if_pos rfl] at H; exact H
    clear H
    have H := H1
    clear H1
    replace H := Option.bind_eq_some_iff.mp H
    obtain ⟨⟨t210, t211⟩, A40, H⟩ := H
    replace H : ((storagebarterplay_Dice_Pick.f t210 t211 5).bind fun bt213 => (storagebarterlaw28_DutyAll.l0 k ([] : List (List (S36))) 0 bt213.1 t210 bt213.2)) = some r := H
    have A4 := Aside0.mk A40
    clear A40
    replace H := Option.bind_eq_some_iff.mp H
    obtain ⟨⟨t213, t214⟩, A50, H⟩ := H
    replace H : (storagebarterlaw28_DutyAll.l0 k ([] : List (List (S36))) 0 t213 t210 t214) = some r := H
    have A5 := Aside0.mk A50
    clear A50
    have H' := Aside0.mk H
    clear H
    go_enter Tryd.func7, Tryd.ntmps7
    go_wp2_with (first | (go_at_call 16; (with_reducible refine (storagebarterlaw28_sane.calls k  true _ A2.out (by first | exact HL_.out | exact laid_below HL_.out (by repeat (first | (with_reducible first | exact HB.out | apply below_alloc | apply pw_below_drewN | apply below_drew1) | refine below_set ?_ (Aside0.out (by assumption)) | exact HB.out)) | exact laid_drawn HL_.out HD.out | exact laid_drawn HL_.out (HD.out.step _))).mono ?_); rintro e w6 ⟨rfl, hb⟩; have n0_ := Aside0.mk (below_step (by repeat (first | (with_reducible first | exact HB.out | apply below_alloc | apply pw_below_drewN | apply below_drew1) | exact HB.out)) hb); clear HB; have HB := n0_; clear n0_; (try clear hb); (try clear hb2); (try clear hk); (try clear hi); (try clear hgw)) | (go_at_call 17; (with_reducible refine (storagebarterplay_New.calls _ _ l0 t210 t211 w _ ?side1 ?side2 ?side3 A4.out).mono ?_); (case side1 => repeat (first | (with_reducible first | exact HB.out | apply below_alloc | apply pw_below_drewN | apply below_drew1) | exact HB.out)); (case side2 => exact HR0.out); (case side3 => exact HC0.out); rintro e w7 ⟨g212, rfl, hi, hb, hb2, hgw⟩; have n0_ := Aside0.mk (hb); have n1_ := Aside0.mk (hi); clear HB; have HB := n0_; have HI212 := n1_; clear n0_ n1_; (try clear hb); (try clear hb2); (try clear hk); (try clear hi); (try clear hgw)) | (go_at_call 32; (with_reducible refine (storagebarterplay_Dice_Pick.calls g212 t210 t211 5 t213 t214 w _ ?side1 ?side2 A5.out).mono ?_); (case side1 => repeat (first | (with_reducible first | exact HI212.out | apply IsS88.alloc | apply IsS88.drewN | apply IsS88.drew | apply IsS88.set_1) | exact HI212.out)); (case side2 => repeat (first | (with_reducible first | exact HB.out | apply below_alloc | apply pw_below_drewN | apply below_drew1 | refine below_set ?_ (IsS88.ge HI212.out)) | exact HB.out)); rintro e w8 ⟨rfl, hi, hb, hk⟩; have n0_ := Aside0.mk (hb); have n1_ := Aside0.mk (hi); clear HB; clear HI212; have HB := n0_; have HI212 := n1_; clear n0_ n1_; (try clear hb); (try clear hb2); (try clear hk); (try clear hi); (try clear hgw)))
    repeat (go_quiet (first | (go_at_call 16; (with_reducible refine (storagebarterlaw28_sane.calls k  true _ A2.out (by first | exact HL_.out | exact laid_below HL_.out (by repeat (first | (with_reducible first | exact HB.out | apply below_alloc | apply pw_below_drewN | apply below_drew1) | refine below_set ?_ (Aside0.out (by assumption)) | exact HB.out)) | exact laid_drawn HL_.out HD.out | exact laid_drawn HL_.out (HD.out.step _))).mono ?_); rintro e w6 ⟨rfl, hb⟩; have n0_ := Aside0.mk (below_step (by repeat (first | (with_reducible first | exact HB.out | apply below_alloc | apply pw_below_drewN | apply below_drew1) | exact HB.out)) hb); clear HB; have HB := n0_; clear n0_; (try clear hb); (try clear hb2); (try clear hk); (try clear hi); (try clear hgw)) | (go_at_call 17; (with_reducible refine (storagebarterplay_New.calls _ _ l0 t210 t211 w _ ?side1 ?side2 ?side3 A4.out).mono ?_); (case side1 => repeat (first | (with_reducible first | exact HB.out | apply below_alloc | apply pw_below_drewN | apply below_drew1) | exact HB.out)); (case side2 => exact HR0.out); (case side3 => exact HC0.out); rintro e w7 ⟨g212, rfl, hi, hb, hb2, hgw⟩; have n0_ := Aside0.mk (hb); have n1_ := Aside0.mk (hi); clear HB; have HB := n0_; have HI212 := n1_; clear n0_ n1_; (try clear hb); (try clear hb2); (try clear hk); (try clear hi); (try clear hgw)) | (go_at_call 32; (with_reducible refine (storagebarterplay_Dice_Pick.calls g212 t210 t211 5 t213 t214 w _ ?side1 ?side2 A5.out).mono ?_); (case side1 => repeat (first | (with_reducible first | exact HI212.out | apply IsS88.alloc | apply IsS88.drewN | apply IsS88.drew | apply IsS88.set_1) | exact HI212.out)); (case side2 => repeat (first | (with_reducible first | exact HB.out | apply below_alloc | apply pw_below_drewN | apply below_drew1 | refine below_set ?_ (IsS88.ge HI212.out)) | exact HB.out)); rintro e w8 ⟨rfl, hi, hb, hk⟩; have n0_ := Aside0.mk (hb); have n1_ := Aside0.mk (hi); clear HB; clear HI212; have HB := n0_; have HI212 := n1_; clear n0_ n1_; (try clear hb); (try clear hb2); (try clear hk); (try clear hi); (try clear hgw))); try go_wp2_with (first | (go_at_call 16; (with_reducible refine (storagebarterlaw28_sane.calls k  true _ A2.out (by first | exact HL_.out | exact laid_below HL_.out (by repeat (first | (with_reducible first | exact HB.out | apply below_alloc | apply pw_below_drewN | apply below_drew1) | refine below_set ?_ (Aside0.out (by assumption)) | exact HB.out)) | exact laid_drawn HL_.out HD.out | exact laid_drawn HL_.out (HD.out.step _))).mono ?_); rintro e w6 ⟨rfl, hb⟩; have n0_ := Aside0.mk (below_step (by repeat (first | (with_reducible first | exact HB.out | apply below_alloc | apply pw_below_drewN | apply below_drew1) | exact HB.out)) hb); clear HB; have HB := n0_; clear n0_; (try clear hb); (try clear hb2); (try clear hk); (try clear hi); (try clear hgw)) | (go_at_call 17; (with_reducible refine (storagebarterplay_New.calls _ _ l0 t210 t211 w _ ?side1 ?side2 ?side3 A4.out).mono ?_); (case side1 => repeat (first | (with_reducible first | exact HB.out | apply below_alloc | apply pw_below_drewN | apply below_drew1) | exact HB.out)); (case side2 => exact HR0.out); (case side3 => exact HC0.out); rintro e w7 ⟨g212, rfl, hi, hb, hb2, hgw⟩; have n0_ := Aside0.mk (hb); have n1_ := Aside0.mk (hi); clear HB; have HB := n0_; have HI212 := n1_; clear n0_ n1_; (try clear hb); (try clear hb2); (try clear hk); (try clear hi); (try clear hgw)) | (go_at_call 32; (with_reducible refine (storagebarterplay_Dice_Pick.calls g212 t210 t211 5 t213 t214 w _ ?side1 ?side2 A5.out).mono ?_); (case side1 => repeat (first | (with_reducible first | exact HI212.out | apply IsS88.alloc | apply IsS88.drewN | apply IsS88.drew | apply IsS88.set_1) | exact HI212.out)); (case side2 => repeat (first | (with_reducible first | exact HB.out | apply below_alloc | apply pw_below_drewN | apply below_drew1 | refine below_set ?_ (IsS88.ge HI212.out)) | exact HB.out)); rintro e w8 ⟨rfl, hi, hb, hk⟩; have n0_ := Aside0.mk (hb); have n1_ := Aside0.mk (hi); clear HB; clear HI212; have HB := n0_; have HI212 := n1_; clear n0_ n1_; (try clear hb); (try clear hb2); (try clear hk); (try clear hi); (try clear hgw))))
    go_loopg [4, 5, 6] k (fun kq v4 v5 v6 w' => ∃ (x4_1 : List (List (S36))) (x5_1 : Int) (x6_1 : Int) (x213001_1 : Int), v5 = .int .i64 x5_1 ∧ v6 = .int .i64 x6_1 ∧ Aside0 (storagebarterlaw28_DutyAll.l0 kq x4_1 x5_1 x6_1 t210 x213001_1 = some r) ∧ Aside0 (kq ≤ k) ∧ Aside0 (Kd.S (Kd.slice 36 k36) 30 w' w.heap.size (fun _ => True) v4 x4_1) ∧ Aside0 (IsS88 w w' g212 t210 x213001_1) ∧ Aside0 (Below w.heap.size w w'))
    case atStart => exact ⟨(([] : List (List (S36)))), (0), (t213), (t214), (by first | rfl | (simp; done) | (simp [*]; done)), (by first | rfl | (simp; done) | (simp [*]; done)), H', ⟨Nat.le_refl _⟩, ⟨by first | exact Kd.S_nil _ _ _ _ _ | exact Kd.N_nil _ _ _ _ _ | exact Kd.V_nil _ _ _ _ _ | exact Kd.Q_nil _ _ _ _ _ | exact Kd.R_nil _ _ _ _ _⟩, ⟨by repeat (first | (with_reducible first | exact HI212.out | apply IsS88.alloc | apply IsS88.drewN | apply IsS88.drew | apply IsS88.set_1) | exact HI212.out)⟩, ⟨by repeat (first | (with_reducible first | exact HB.out | apply below_alloc | apply pw_below_drewN | apply below_drew1 | refine below_set ?_ (IsS88.ge HI212.out)) | exact HB.out)⟩⟩
    case round =>
      clear H'
      try clear p2
      try clear c3
      try clear c7
      obtain ⟨x4_1, x5_1, x6_1, x213001_1, rfl, rfl, HA, HK1, HO_4, HI212, HB⟩ := hrel
      cases gk with
      | zero => exact absurd HA.out (by simp [storagebarterlaw28_DutyAll.l0])
      | succ k1 =>
        have H := HA.out
        clear HA
        simp only [storagebarterlaw28_DutyAll.l0] at H
        by_cases c9 : x6_1 > 0
        · rw [if_pos c9] at H
          have c9b0 : decide (0 < x6_1) = true := decide_eq_true c9
          clear c9
          replace H := Option.bind_eq_some_iff.mp H
          obtain ⟨⟨t215, t216, t217, t218, t219, t222⟩, A100, H⟩ := H
          replace H : ((storagebarterplay_Dice_Pick.f t210 t222 2).bind fun bt223 => ((duty_Plan.f k1 t215 t216 t217 t218 t219 x6_1 (bt223.1 == 0)).bind fun bt225 => (if bt225.2 = 0 then (if x4_1.length < 5864062014805 then (storagebarterlaw28_DutyAll.l0 k1 (x4_1 ++ [bt225.1]) (wrap64 (x5_1 + (bt225.1.length : Int))) (wrap64 (x6_1 - 1)) t210 bt223.2) else (none)) else (some false)))) = some r := H
          have A10 := Aside0.mk A100
          clear A100
          replace H := Option.bind_eq_some_iff.mp H
          obtain ⟨⟨t223, t224⟩, A110, H⟩ := H
          replace H : ((duty_Plan.f k1 t215 t216 t217 t218 t219 x6_1 (t223 == 0)).bind fun bt225 => (if bt225.2 = 0 then (if x4_1.length < 5864062014805 then (storagebarterlaw28_DutyAll.l0 k1 (x4_1 ++ [bt225.1]) (wrap64 (x5_1 + (bt225.1.length : Int))) (wrap64 (x6_1 - 1)) t210 t224) else (none)) else (some false))) = some r := H
          have A11 := Aside0.mk A110
          clear A110
          replace H := Option.bind_eq_some_iff.mp H
          obtain ⟨⟨t225, t228⟩, A120, H⟩ := H
          replace H : (if t228 = 0 then (if x4_1.length < 5864062014805 then (storagebarterlaw28_DutyAll.l0 k1 (x4_1 ++ [t225]) (wrap64 (x5_1 + (t225.length : Int))) (wrap64 (x6_1 - 1)) t210 t224) else (none)) else (some false)) = some r := H
          have A12 := Aside0.mk A120
          clear A120
          by_cases c13 : t228 = 0
          · rw [if_pos c13] at H
            have c13b0 : (t228 == 0) = true := beq_iff_eq.mpr c13
            have c13b1 : (t228 != 0) = false := bne_eq_false_iff_eq.mpr c13
            clear c13
            by_cases c14 : x4_1.length < 5864062014805
            · rw [if_pos c14] at H
              have LMc14 := Aside0.mk c14
              clear c14
              obtain ⟨y229, hy229⟩ : ∃ y_ : List (List (S36)), y_ = (x4_1 ++ [t225]) := ⟨_, rfl⟩
              replace H : (storagebarterlaw28_DutyAll.l0 k1 y229 (wrap64 (x5_1 + (t225.length : Int))) (wrap64 (x6_1 - 1)) t210 t224) = some r := by first | (rw [hy229]; with_reducible exact H) | (have H2_ := (Option.bind_some _ _).symm.trans H; rw [hy229]; with_reducible exact H2_) | (have H2_ := (Option.bind_some _ _).symm.trans H; with_reducible exact H2_) | with_reducible exact H | (rw [hy229]; exact H) | exact H
              have Ny229 := Aside0.mk hy229
              clear hy229
              have H' := Aside0.mk H
              clear H
              go_wp2_with (first | (go_at_call 18; (with_reducible refine (storagebarterplay_Dice_Arrangement.calls k1 g212 t210 x213001_1 4 t215 t216 t217 t218 t219 t222 w _ ?side1 ?side2 A10.out).mono ?_); (case side1 => repeat (first | (with_reducible first | exact HI212.out | apply IsS88.alloc | apply IsS88.drewN | apply IsS88.drew | apply IsS88.set_1) | exact HI212.out)); (case side2 => repeat (first | (with_reducible first | exact HB.out | apply below_alloc | apply pw_below_drewN | apply below_drew1 | refine below_set ?_ (IsS88.ge HI212.out)) | exact HB.out)); rintro e w15 ⟨v220, rfl, ho0, hi, hb, hk⟩; have n0_ := Aside0.mk (Kd.S_mono (Kd.S_keep (IsS88.apartS (show IsS88 w _ g212 t210 x213001_1 from by repeat (first | (with_reducible first | exact HI212.out | apply IsS88.alloc | apply IsS88.drewN | apply IsS88.drew | apply IsS88.set_1) | exact HI212.out)) (by (with_reducible repeat (first | apply Kd.S_alloc | apply Kd.S_drewN | apply Kd.S_drew)); exact HO_4.out) (by decide)) hk (fun _ h => h.2)) (fun _ h => h.1)); have n1_ := Aside0.mk (Kd.R_lower ho0 (below_size (by repeat (first | (with_reducible first | exact HB.out | apply below_alloc | apply pw_below_drewN | apply below_drew1 | refine below_set ?_ (IsS88.ge HI212.out)) | exact HB.out)))); have n2_ := Aside0.mk (hb); have n3_ := Aside0.mk (hi); clear HO_4; clear HB; clear HI212; have HO_4 := n0_; have HO221 := n1_; have HB := n2_; have HI212 := n3_; clear n0_ n1_ n2_ n3_; (try clear hb); (try clear hb2); (try clear hk); (try clear hi); (try clear hgw); (try clear ho0)) | (go_at_call 32; (with_reducible refine (storagebarterplay_Dice_Pick.calls g212 t210 t222 2 t223 t224 w _ ?side1 ?side2 A11.out).mono ?_); (case side1 => repeat (first | (with_reducible first | exact HI212.out | apply IsS88.alloc | apply IsS88.drewN | apply IsS88.drew | apply IsS88.set_1) | exact HI212.out)); (case side2 => repeat (first | (with_reducible first | exact HB.out | apply below_alloc | apply pw_below_drewN | apply below_drew1 | refine below_set ?_ (IsS88.ge HI212.out)) | exact HB.out)); rintro e w16 ⟨rfl, hi, hb, hk⟩; have n0_ := Aside0.mk (Kd.S_mono (Kd.S_keep (IsS88.apartS (show IsS88 w _ g212 t210 t222 from by repeat (first | (with_reducible first | exact HI212.out | apply IsS88.alloc | apply IsS88.drewN | apply IsS88.drew | apply IsS88.set_1) | exact HI212.out)) (by (with_reducible repeat (first | apply Kd.S_alloc | apply Kd.S_drewN | apply Kd.S_drew)); exact HO_4.out) (by decide)) hk (fun _ h => h.2)) (fun _ h => h.1)); have n1_ := Aside0.mk (Kd.R_mono (Kd.R_keep (IsS88.apart (show IsS88 w _ g212 t210 t222 from by repeat (first | (with_reducible first | exact HI212.out | apply IsS88.alloc | apply IsS88.drewN | apply IsS88.drew | apply IsS88.set_1) | exact HI212.out)) (by (with_reducible repeat (first | apply Kd.R_alloc | apply Kd.R_drewN | apply Kd.R_drew)); exact HO221.out) (by decide)) hk (fun _ h => h.2)) (fun _ h => h.1)); have n2_ := Aside0.mk (hb); have n3_ := Aside0.mk (hi); clear HO_4; clear HO221; clear HB; clear HI212; have HO_4 := n0_; have HO221 := n1_; have HB := n2_; have HI212 := n3_; clear n0_ n1_ n2_ n3_; (try clear hb); (try clear hb2); (try clear hk); (try clear hi); (try clear hgw); obtain ⟨Ao17, co17, eo17⟩ := Kd.R_slice HO221.out; subst eo17) | (go_at_call 19; (with_reducible refine (duty_Plan.calls k1 t215 t216 t217 t218 _ _ t219 x6_1 (t223 == 0) t225 t228 _ ?side1 ?side2 A12.out).mono ?_); (case side1 => repeat (first | exact (Kd.R_reads' HO221.out).2.2 | (with_reducible refine Kd.C_alloc ?_ _) | (with_reducible refine Kd.C_drewN ?_ _) | (with_reducible refine Kd.C_drew ?_))); (case side2 => exact (Kd.R_reads' HO221.out).2.1); rintro e w18 ⟨v226, rfl, ho0, hb⟩; have n0_ := Aside0.mk (Kd.S_elder' (by (with_reducible repeat (first | apply Kd.S_alloc | apply Kd.S_drewN | apply Kd.S_drew)); exact HO_4.out) (Kd.R_base ho0) hb); have n1_ := Aside0.mk (Kd.R_below (by (with_reducible repeat (first | apply Kd.R_alloc | apply Kd.R_drewN | apply Kd.R_drew)); exact HO221.out) hb); have n2_ := Aside0.mk (Kd.R_lower ho0 (below_size (by repeat (first | (with_reducible first | exact HB.out | apply below_alloc | apply pw_below_drewN | apply below_drew1 | refine below_set ?_ (IsS88.ge HI212.out)) | exact HB.out)))); have n3_ := Aside0.mk (IsS88.below (by repeat (first | (with_reducible first | exact HI212.out | apply IsS88.alloc | apply IsS88.drewN | apply IsS88.drew | apply IsS88.set_1) | exact HI212.out)) hb); have n4_ := Aside0.mk (below_step (by repeat (first | (with_reducible first | exact HB.out | apply below_alloc | apply pw_below_drewN | apply below_drew1 | refine below_set ?_ (IsS88.ge HI212.out)) | exact HB.out)) hb); clear HO_4; clear HO221; clear HI212; clear HB; have HO_4 := n0_; have HO221 := n1_; have HO227 := n2_; have HI212 := n3_; have HB := n4_; clear n0_ n1_ n2_ n3_ n4_; (try clear hb); (try clear hb2); (try clear hk); (try clear hi); (try clear hgw); (try clear ho0); obtain ⟨Ao20, co20, eo20⟩ := Kd.R_slice HO227.out; subst eo20) | ((with_reducible refine gate_builtin (b := .append) (xs := #[.tmp 40, .tmp 42]) rfl ?_); (try (refine gate_guard (by rfl) ?_; dsimp only)); at_builtin; refine Kd.S_append (Kd.slice 36 k36) (w0 := w) w.heap.size rfl (.tmp 40) (.tmp 42) 47 30 (.slice none 0 0) 24 rfl Tryd.underlying47 info30 rfl (by decide) (by omega) u4 x4_1 t225 [.slice Ao20 t225.length co20] (fun _ => True) (fun k_ => some k_ = (.slice Ao20 t225.length co20 : Value).ownBlock) rfl rfl ?aP (fun k_ hk_ => ((Kd.R_mono (ok' := fun k_ => ((fun _ => True)) k_ ∧ some k_ ≠ (u4 : Value).ownBlock) (Kd.R_apart' (HO227.out) (Kd.S_typed HO_4.out) (by decide)) (fun k_ hk => ⟨trivial, hk.2⟩))).1 k_ hk_.symm) ?aF ?aO ?aB ?aS ?aL ?_; (case aP => exact Kd.M_row (Kd.R_mono (Kd.R_tight rfl (Kd.R_mono (ok' := fun k_ => ((fun _ => True)) k_ ∧ some k_ ≠ (u4 : Value).ownBlock) (Kd.R_apart' (HO227.out) (Kd.S_typed HO_4.out) (by decide)) (fun k_ hk => ⟨trivial, hk.2⟩))) (fun _ h_ => h_))); (case aB => exact (by repeat (first | (with_reducible first | exact HB.out | apply below_alloc | apply pw_below_drewN | apply below_drew1 | refine below_set ?_ (IsS88.ge HI212.out)) | exact HB.out))); (case aF => exact (fun _ _ => trivial)); (case aO => exact (by (with_reducible repeat (first | apply Kd.S_alloc | apply Kd.S_drewN | apply Kd.S_drew)); exact Kd.S_mono HO_4.out (fun k_ hk => ⟨trivial, fun e_ => hk.2 e_⟩))); (case aS => exact (below_size (by repeat (first | (with_reducible first | exact HB.out | apply below_alloc | apply pw_below_drewN | apply below_drew1 | refine below_set ?_ (IsS88.ge HI212.out)) | exact HB.out)))); (case aL => have := LMc14.out; omega); intro v230 w19 ho hb hg hat; rw [← Ny229.out] at ho; have n0_ := Aside0.mk (IsS88.grown (by repeat (first | (with_reducible first | exact HI212.out | apply IsS88.alloc | apply IsS88.drewN | apply IsS88.drew | apply IsS88.set_1) | exact HI212.out)) hg (IsS88.own_neS HI212.out HO_4.out (by decide))); have n1_ := Aside0.mk (Kd.R_over' (by (with_reducible repeat (first | apply Kd.R_alloc | apply Kd.R_drewN | apply Kd.R_drew)); exact HO221.out) (Kd.S_typed (by (with_reducible repeat (first | apply Kd.S_alloc | apply Kd.S_drewN | apply Kd.S_drew)); exact HO_4.out)) (by decide) hg); have n2_ := Aside0.mk (hb); have n3_ := Aside0.mk (ho); clear HI212; clear HO221; clear HB; clear HO_4; clear HO227; have HI212 := n0_; have HO221 := n1_; have HB := n2_; have HO231 := n3_; clear n0_ n1_ n2_ n3_; clear ho hb hg hat))
              repeat (go_quiet (first | (go_at_call 18; (with_reducible refine (storagebarterplay_Dice_Arrangement.calls k1 g212 t210 x213001_1 4 t215 t216 t217 t218 t219 t222 w _ ?side1 ?side2 A10.out).mono ?_); (case side1 => repeat (first | (with_reducible first | exact HI212.out | apply IsS88.alloc | apply IsS88.drewN | apply IsS88.drew | apply IsS88.set_1) | exact HI212.out)); (case side2 => repeat (first | (with_reducible first | exact HB.out | apply below_alloc | apply pw_below_drewN | apply below_drew1 | refine below_set ?_ (IsS88.ge HI212.out)) | exact HB.out)); rintro e w15 ⟨v220, rfl, ho0, hi, hb, hk⟩; have n0_ := Aside0.mk (Kd.S_mono (Kd.S_keep (IsS88.apartS (show IsS88 w _ g212 t210 x213001_1 from by repeat (first | (with_reducible first | exact HI212.out | apply IsS88.alloc | apply IsS88.drewN | apply IsS88.drew | apply IsS88.set_1) | exact HI212.out)) (by (with_reducible repeat (first | apply Kd.S_alloc | apply Kd.S_drewN | apply Kd.S_drew)); exact HO_4.out) (by decide)) hk (fun _ h => h.2)) (fun _ h => h.1)); have n1_ := Aside0.mk (Kd.R_lower ho0 (below_size (by repeat (first | (with_reducible first | exact HB.out | apply below_alloc | apply pw_below_drewN | apply below_drew1 | refine below_set ?_ (IsS88.ge HI212.out)) | exact HB.out)))); have n2_ := Aside0.mk (hb); have n3_ := Aside0.mk (hi); clear HO_4; clear HB; clear HI212; have HO_4 := n0_; have HO221 := n1_; have HB := n2_; have HI212 := n3_; clear n0_ n1_ n2_ n3_; (try clear hb); (try clear hb2); (try clear hk); (try clear hi); (try clear hgw); (try clear ho0)) | (go_at_call 32; (with_reducible refine (storagebarterplay_Dice_Pick.calls g212 t210 t222 2 t223 t224 w _ ?side1 ?side2 A11.out).mono ?_); (case side1 => repeat (first | (with_reducible first | exact HI212.out | apply IsS88.alloc | apply IsS88.drewN | apply IsS88.drew | apply IsS88.set_1) | exact HI212.out)); (case side2 => repeat (first | (with_reducible first | exact HB.out | apply below_alloc | apply pw_below_drewN | apply below_drew1 | refine below_set ?_ (IsS88.ge HI212.out)) | exact HB.out)); rintro e w16 ⟨rfl, hi, hb, hk⟩; have n0_ := Aside0.mk (Kd.S_mono (Kd.S_keep (IsS88.apartS (show IsS88 w _ g212 t210 t222 from by repeat (first | (with_reducible first | exact HI212.out | apply IsS88.alloc | apply IsS88.drewN | apply IsS88.drew | apply IsS88.set_1) | exact HI212.out)) (by (with_reducible repeat (first | apply Kd.S_alloc | apply Kd.S_drewN | apply Kd.S_drew)); exact HO_4.out) (by decide)) hk (fun _ h => h.2)) (fun _ h => h.1)); have n1_ := Aside0.mk (Kd.R_mono (Kd.R_keep (IsS88.apart (show IsS88 w _ g212 t210 t222 from by repeat (first | (with_reducible first | exact HI212.out | apply IsS88.alloc | apply IsS88.drewN | apply IsS88.drew | apply IsS88.set_1) | exact HI212.out)) (by (with_reducible repeat (first | apply Kd.R_alloc | apply Kd.R_drewN | apply Kd.R_drew)); exact HO221.out) (by decide)) hk (fun _ h => h.2)) (fun _ h => h.1)); have n2_ := Aside0.mk (hb); have n3_ := Aside0.mk (hi); clear HO_4; clear HO221; clear HB; clear HI212; have HO_4 := n0_; have HO221 := n1_; have HB := n2_; have HI212 := n3_; clear n0_ n1_ n2_ n3_; (try clear hb); (try clear hb2); (try clear hk); (try clear hi); (try clear hgw); obtain ⟨Ao17, co17, eo17⟩ := Kd.R_slice HO221.out; subst eo17) | (go_at_call 19; (with_reducible refine (duty_Plan.calls k1 t215 t216 t217 t218 _ _ t219 x6_1 (t223 == 0) t225 t228 _ ?side1 ?side2 A12.out).mono ?_); (case side1 => repeat (first | exact (Kd.R_reads' HO221.out).2.2 | (with_reducible refine Kd.C_alloc ?_ _) | (with_reducible refine Kd.C_drewN ?_ _) | (with_reducible refine Kd.C_drew ?_))); (case side2 => exact (Kd.R_reads' HO221.out).2.1); rintro e w18 ⟨v226, rfl, ho0, hb⟩; have n0_ := Aside0.mk (Kd.S_elder' (by (with_reducible repeat (first | apply Kd.S_alloc | apply Kd.S_drewN | apply Kd.S_drew)); exact HO_4.out) (Kd.R_base ho0) hb); have n1_ := Aside0.mk (Kd.R_below (by (with_reducible repeat (first | apply Kd.R_alloc | apply Kd.R_drewN | apply Kd.R_drew)); exact HO221.out) hb); have n2_ := Aside0.mk (Kd.R_lower ho0 (below_size (by repeat (first | (with_reducible first | exact HB.out | apply below_alloc | apply pw_below_drewN | apply below_drew1 | refine below_set ?_ (IsS88.ge HI212.out)) | exact HB.out)))); have n3_ := Aside0.mk (IsS88.below (by repeat (first | (with_reducible first | exact HI212.out | apply IsS88.alloc | apply IsS88.drewN | apply IsS88.drew | apply IsS88.set_1) | exact HI212.out)) hb); have n4_ := Aside0.mk (below_step (by repeat (first | (with_reducible first | exact HB.out | apply below_alloc | apply pw_below_drewN | apply below_drew1 | refine below_set ?_ (IsS88.ge HI212.out)) | exact HB.out)) hb); clear HO_4; clear HO221; clear HI212; clear HB; have HO_4 := n0_; have HO221 := n1_; have HO227 := n2_; have HI212 := n3_; have HB := n4_; clear n0_ n1_ n2_ n3_ n4_; (try clear hb); (try clear hb2); (try clear hk); (try clear hi); (try clear hgw); (try clear ho0); obtain ⟨Ao20, co20, eo20⟩ := Kd.R_slice HO227.out; subst eo20) | ((with_reducible refine gate_builtin (b := .append) (xs := #[.tmp 40, .tmp 42]) rfl ?_); (try (refine gate_guard (by rfl) ?_; dsimp only)); at_builtin; refine Kd.S_append (Kd.slice 36 k36) (w0 := w) w.heap.size rfl (.tmp 40) (.tmp 42) 47 30 (.slice none 0 0) 24 rfl Tryd.underlying47 info30 rfl (by decide) (by omega) u4 x4_1 t225 [.slice Ao20 t225.length co20] (fun _ => True) (fun k_ => some k_ = (.slice Ao20 t225.length co20 : Value).ownBlock) rfl rfl ?aP (fun k_ hk_ => ((Kd.R_mono (ok' := fun k_ => ((fun _ => True)) k_ ∧ some k_ ≠ (u4 : Value).ownBlock) (Kd.R_apart' (HO227.out) (Kd.S_typed HO_4.out) (by decide)) (fun k_ hk => ⟨trivial, hk.2⟩))).1 k_ hk_.symm) ?aF ?aO ?aB ?aS ?aL ?_; (case aP => exact Kd.M_row (Kd.R_mono (Kd.R_tight rfl (Kd.R_mono (ok' := fun k_ => ((fun _ => True)) k_ ∧ some k_ ≠ (u4 : Value).ownBlock) (Kd.R_apart' (HO227.out) (Kd.S_typed HO_4.out) (by decide)) (fun k_ hk => ⟨trivial, hk.2⟩))) (fun _ h_ => h_))); (case aB => exact (by repeat (first | (with_reducible first | exact HB.out | apply below_alloc | apply pw_below_drewN | apply below_drew1 | refine below_set ?_ (IsS88.ge HI212.out)) | exact HB.out))); (case aF => exact (fun _ _ => trivial)); (case aO => exact (by (with_reducible repeat (first | apply Kd.S_alloc | apply Kd.S_drewN | apply Kd.S_drew)); exact Kd.S_mono HO_4.out (fun k_ hk => ⟨trivial, fun e_ => hk.2 e_⟩))); (case aS => exact (below_size (by repeat (first | (with_reducible first | exact HB.out | apply below_alloc | apply pw_below_drewN | apply below_drew1 | refine below_set ?_ (IsS88.ge HI212.out)) | exact HB.out)))); (case aL => have := LMc14.out; omega); intro v230 w19 ho hb hg hat; rw [← Ny229.out] at ho; have n0_ := Aside0.mk (IsS88.grown (by repeat (first | (with_reducible first | exact HI212.out | apply IsS88.alloc | apply IsS88.drewN | apply IsS88.drew | apply IsS88.set_1) | exact HI212.out)) hg (IsS88.own_neS HI212.out HO_4.out (by decide))); have n1_ := Aside0.mk (Kd.R_over' (by (with_reducible repeat (first | apply Kd.R_alloc | apply Kd.R_drewN | apply Kd.R_drew)); exact HO221.out) (Kd.S_typed (by (with_reducible repeat (first | apply Kd.S_alloc | apply Kd.S_drewN | apply Kd.S_drew)); exact HO_4.out)) (by decide) hg); have n2_ := Aside0.mk (hb); have n3_ := Aside0.mk (ho); clear HI212; clear HO221; clear HB; clear HO_4; clear HO227; have HI212 := n0_; have HO221 := n1_; have HB := n2_; have HO231 := n3_; clear n0_ n1_ n2_ n3_; clear ho hb hg hat)); try go_wp2_with (first | (go_at_call 18; (with_reducible refine (storagebarterplay_Dice_Arrangement.calls k1 g212 t210 x213001_1 4 t215 t216 t217 t218 t219 t222 w _ ?side1 ?side2 A10.out).mono ?_); (case side1 => repeat (first | (with_reducible first | exact HI212.out | apply IsS88.alloc | apply IsS88.drewN | apply IsS88.drew | apply IsS88.set_1) | exact HI212.out)); (case side2 => repeat (first | (with_reducible first | exact HB.out | apply below_alloc | apply pw_below_drewN | apply below_drew1 | refine below_set ?_ (IsS88.ge HI212.out)) | exact HB.out)); rintro e w15 ⟨v220, rfl, ho0, hi, hb, hk⟩; have n0_ := Aside0.mk (Kd.S_mono (Kd.S_keep (IsS88.apartS (show IsS88 w _ g212 t210 x213001_1 from by repeat (first | (with_reducible first | exact HI212.out | apply IsS88.alloc | apply IsS88.drewN | apply IsS88.drew | apply IsS88.set_1) | exact HI212.out)) (by (with_reducible repeat (first | apply Kd.S_alloc | apply Kd.S_drewN | apply Kd.S_drew)); exact HO_4.out) (by decide)) hk (fun _ h => h.2)) (fun _ h => h.1)); have n1_ := Aside0.mk (Kd.R_lower ho0 (below_size (by repeat (first | (with_reducible first | exact HB.out | apply below_alloc | apply pw_below_drewN | apply below_drew1 | refine below_set ?_ (IsS88.ge HI212.out)) | exact HB.out)))); have n2_ := Aside0.mk (hb); have n3_ := Aside0.mk (hi); clear HO_4; clear HB; clear HI212; have HO_4 := n0_; have HO221 := n1_; have HB := n2_; have HI212 := n3_; clear n0_ n1_ n2_ n3_; (try clear hb); (try clear hb2); (try clear hk); (try clear hi); (try clear hgw); (try clear ho0)) | (go_at_call 32; (with_reducible refine (storagebarterplay_Dice_Pick.calls g212 t210 t222 2 t223 t224 w _ ?side1 ?side2 A11.out).mono ?_); (case side1 => repeat (first | (with_reducible first | exact HI212.out | apply IsS88.alloc | apply IsS88.drewN | apply IsS88.drew | apply IsS88.set_1) | exact HI212.out)); (case side2 => repeat (first | (with_reducible first | exact HB.out | apply below_alloc | apply pw_below_drewN | apply below_drew1 | refine below_set ?_ (IsS88.ge HI212.out)) | exact HB.out)); rintro e w16 ⟨rfl, hi, hb, hk⟩; have n0_ := Aside0.mk (Kd.S_mono (Kd.S_keep (IsS88.apartS (show IsS88 w _ g212 t210 t222 from by repeat (first | (with_reducible first | exact HI212.out | apply IsS88.alloc | apply IsS88.drewN | apply IsS88.drew | apply IsS88.set_1) | exact HI212.out)) (by (with_reducible repeat (first | apply Kd.S_alloc | apply Kd.S_drewN | apply Kd.S_drew)); exact HO_4.out) (by decide)) hk (fun _ h => h.2)) (fun _ h => h.1)); have n1_ := Aside0.mk (Kd.R_mono (Kd.R_keep (IsS88.apart (show IsS88 w _ g212 t210 t222 from by repeat (first | (with_reducible first | exact HI212.out | apply IsS88.alloc | apply IsS88.drewN | apply IsS88.drew | apply IsS88.set_1) | exact HI212.out)) (by (with_reducible repeat (first | apply Kd.R_alloc | apply Kd.R_drewN | apply Kd.R_drew)); exact HO221.out) (by decide)) hk (fun _ h => h.2)) (fun _ h => h.1)); have n2_ := Aside0.mk (hb); have n3_ := Aside0.mk (hi); clear HO_4; clear HO221; clear HB; clear HI212; have HO_4 := n0_; have HO221 := n1_; have HB := n2_; have HI212 := n3_; clear n0_ n1_ n2_ n3_; (try clear hb); (try clear hb2); (try clear hk); (try clear hi); (try clear hgw); obtain ⟨Ao17, co17, eo17⟩ := Kd.R_slice HO221.out; subst eo17) | (go_at_call 19; (with_reducible refine (duty_Plan.calls k1 t215 t216 t217 t218 _ _ t219 x6_1 (t223 == 0) t225 t228 _ ?side1 ?side2 A12.out).mono ?_); (case side1 => repeat (first | exact (Kd.R_reads' HO221.out).2.2 | (with_reducible refine Kd.C_alloc ?_ _) | (with_reducible refine Kd.C_drewN ?_ _) | (with_reducible refine Kd.C_drew ?_))); (case side2 => exact (Kd.R_reads' HO221.out).2.1); rintro e w18 ⟨v226, rfl, ho0, hb⟩; have n0_ := Aside0.mk (Kd.S_elder' (by (with_reducible repeat (first | apply Kd.S_alloc | apply Kd.S_drewN | apply Kd.S_drew)); exact HO_4.out) (Kd.R_base ho0) hb); have n1_ := Aside0.mk (Kd.R_below (by (with_reducible repeat (first | apply Kd.R_alloc | apply Kd.R_drewN | apply Kd.R_drew)); exact HO221.out) hb); have n2_ := Aside0.mk (Kd.R_lower ho0 (below_size (by repeat (first | (with_reducible first | exact HB.out | apply below_alloc | apply pw_below_drewN | apply below_drew1 | refine below_set ?_ (IsS88.ge HI212.out)) | exact HB.out)))); have n3_ := Aside0.mk (IsS88.below (by repeat (first | (with_reducible first | exact HI212.out | apply IsS88.alloc | apply IsS88.drewN | apply IsS88.drew | apply IsS88.set_1) | exact HI212.out)) hb); have n4_ := Aside0.mk (below_step (by repeat (first | (with_reducible first | exact HB.out | apply below_alloc | apply pw_below_drewN | apply below_drew1 | refine below_set ?_ (IsS88.ge HI212.out)) | exact HB.out)) hb); clear HO_4; clear HO221; clear HI212; clear HB; have HO_4 := n0_; have HO221 := n1_; have HO227 := n2_; have HI212 := n3_; have HB := n4_; clear n0_ n1_ n2_ n3_ n4_; (try clear hb); (try clear hb2); (try clear hk); (try clear hi); (try clear hgw); (try clear ho0); obtain ⟨Ao20, co20, eo20⟩ := Kd.R_slice HO227.out; subst eo20) | ((with_reducible refine gate_builtin (b := .append) (xs := #[.tmp 40, .tmp 42]) rfl ?_); (try (refine gate_guard (by rfl) ?_; dsimp only)); at_builtin; refine Kd.S_append (Kd.slice 36 k36) (w0 := w) w.heap.size rfl (.tmp 40) (.tmp 42) 47 30 (.slice none 0 0) 24 rfl Tryd.underlying47 info30 rfl (by decide) (by omega) u4 x4_1 t225 [.slice Ao20 t225.length co20] (fun _ => True) (fun k_ => some k_ = (.slice Ao20 t225.length co20 : Value).ownBlock) rfl rfl ?aP (fun k_ hk_ => ((Kd.R_mono (ok' := fun k_ => ((fun _ => True)) k_ ∧ some k_ ≠ (u4 : Value).ownBlock) (Kd.R_apart' (HO227.out) (Kd.S_typed HO_4.out) (by decide)) (fun k_ hk => ⟨trivial, hk.2⟩))).1 k_ hk_.symm) ?aF ?aO ?aB ?aS ?aL ?_; (case aP => exact Kd.M_row (Kd.R_mono (Kd.R_tight rfl (Kd.R_mono (ok' := fun k_ => ((fun _ => True)) k_ ∧ some k_ ≠ (u4 : Value).ownBlock) (Kd.R_apart' (HO227.out) (Kd.S_typed HO_4.out) (by decide)) (fun k_ hk => ⟨trivial, hk.2⟩))) (fun _ h_ => h_))); (case aB => exact (by repeat (first | (with_reducible first | exact HB.out | apply below_alloc | apply pw_below_drewN | apply below_drew1 | refine below_set ?_ (IsS88.ge HI212.out)) | exact HB.out))); (case aF => exact (fun _ _ => trivial)); (case aO => exact (by (with_reducible repeat (first | apply Kd.S_alloc | apply Kd.S_drewN | apply Kd.S_drew)); exact Kd.S_mono HO_4.out (fun k_ hk => ⟨trivial, fun e_ => hk.2 e_⟩))); (case aS => exact (below_size (by repeat (first | (with_reducible first | exact HB.out | apply below_alloc | apply pw_below_drewN | apply below_drew1 | refine below_set ?_ (IsS88.ge HI212.out)) | exact HB.out)))); (case aL => have := LMc14.out; omega); intro v230 w19 ho hb hg hat; rw [← Ny229.out] at ho; have n0_ := Aside0.mk (IsS88.grown (by repeat (first | (with_reducible first | exact HI212.out | apply IsS88.alloc | apply IsS88.drewN | apply IsS88.drew | apply IsS88.set_1) | exact HI212.out)) hg (IsS88.own_neS HI212.out HO_4.out (by decide))); have n1_ := Aside0.mk (Kd.R_over' (by (with_reducible repeat (first | apply Kd.R_alloc | apply Kd.R_drewN | apply Kd.R_drew)); exact HO221.out) (Kd.S_typed (by (with_reducible repeat (first | apply Kd.S_alloc | apply Kd.S_drewN | apply Kd.S_drew)); exact HO_4.out)) (by decide) hg); have n2_ := Aside0.mk (hb); have n3_ := Aside0.mk (ho); clear HI212; clear HO221; clear HB; clear HO_4; clear HO227; have HI212 := n0_; have HO221 := n1_; have HB := n2_; have HO231 := n3_; clear n0_ n1_ n2_ n3_; clear ho hb hg hat)))
              go_roundg k1
              case measure => have := HK1.out; omega
              case rel => exact ⟨(y229), (wrap64 (x5_1 + (t225.length : Int))), (wrap64 (x6_1 - 1)), (t224), (by first | rfl | (simp; done) | (simp [*]; done)), (by first | rfl | (simp; done) | (simp [*]; done)), H', ⟨by have := HK1.out; omega⟩, ⟨by (with_reducible repeat (first | apply Kd.S_alloc | apply Kd.S_drewN | apply Kd.S_drew)); exact HO231.out⟩, ⟨by repeat (first | (with_reducible first | exact HI212.out | apply IsS88.alloc | apply IsS88.drewN | apply IsS88.drew | apply IsS88.set_1) | exact HI212.out)⟩, ⟨by repeat (first | (with_reducible first | exact HB.out | apply below_alloc | apply pw_below_drewN | apply below_drew1 | refine below_set ?_ (IsS88.ge HI212.out)) | exact HB.out)⟩⟩
            · rw [if_neg c14] at H
              exact absurd H (by simp)
          · rw [if_neg c13] at H
            have c13b0 : (t228 == 0) = false := beq_eq_false_iff_ne.mpr c13
            have c13b1 : (t228 != 0) = true := bne_iff_ne.mpr c13
            exact absurd (Option.some.inj H) (by rw [HRT_.out]; decide)
        · rw [if_neg c9] at H
          have c9b0 : decide (0 < x6_1) = false := decide_eq_false c9
          clear c9
          replace H := Option.bind_eq_some_iff.mp H
          obtain ⟨t232, A210, H⟩ := H
          replace H : (if (t232.length : Int) = x5_1 then (if 8 ≤ 35184372088832 then (storagebarterlaw28_DutyAll.l1 k1 x4_1 x5_1 t232 (List.replicate 8 0) t232 (t232.length : Int) 0) else (none)) else (some false)) = some r := H
          have A21 := Aside0.mk A210
          clear A210
          by_cases c22 : (t232.length : Int) = x5_1
          · rw [if_pos c22] at H
            have c22b0 : ((t232.length : Int) == x5_1) = true := beq_iff_eq.mpr c22
            have c22b1 : ((t232.length : Int) != x5_1) = false := bne_eq_false_iff_eq.mpr c22
            clear c22
            by_cases c23 : 8 ≤ 35184372088832
            · rw [if_pos c23] at H
              have c23b0 := eq_true c23
              have c23b1 : decide (8 ≤ 35184372088832) = true := decide_eq_true c23
              clear c23
              obtain ⟨y235, hy235⟩ : ∃ y_ : List Int, y_ = (List.replicate 8 0) := ⟨_, rfl⟩
              replace H : (storagebarterlaw28_DutyAll.l1 k1 x4_1 x5_1 t232 y235 t232 (t232.length : Int) 0) = some r := by first | (rw [hy235]; with_reducible exact H) | (have H2_ := (Option.bind_some _ _).symm.trans H; rw [hy235]; with_reducible exact H2_) | (have H2_ := (Option.bind_some _ _).symm.trans H; with_reducible exact H2_) | with_reducible exact H | (rw [hy235]; exact H) | exact H
              have Ny235 := Aside0.mk hy235
              clear hy235
              have H' := Aside0.mk H
              clear H
              obtain ⟨Ao24, co24, eo24⟩ := Kd.S_slice HO_4.out
              subst eo24
              go_wp2_with (first | (go_at_call 33; (with_reducible refine (duty_Merge.calls k1 _ _ x4_1 t232 _ ?side1 ?side2 A21.out).mono ?_); (case side1 => repeat (first | exact (Kd.S_reads' HO_4.out).2.2 | (with_reducible refine Kd.C_alloc ?_ _) | (with_reducible refine Kd.C_drewN ?_ _) | (with_reducible refine Kd.C_drew ?_))); (case side2 => exact (Kd.S_reads' HO_4.out).2.1); rintro e w25 ⟨v233, rfl, ho0, hb⟩; have n0_ := Aside0.mk (Kd.S_elder' (by (with_reducible repeat (first | apply Kd.S_alloc | apply Kd.S_drewN | apply Kd.S_drew)); exact HO_4.out) (Kd.R_base ho0) hb); have n1_ := Aside0.mk (Kd.R_lower ho0 (below_size (by repeat (first | (with_reducible first | exact HB.out | apply below_alloc | apply pw_below_drewN | apply below_drew1 | refine below_set ?_ (IsS88.ge HI212.out)) | exact HB.out)))); have n2_ := Aside0.mk (IsS88.below (by repeat (first | (with_reducible first | exact HI212.out | apply IsS88.alloc | apply IsS88.drewN | apply IsS88.drew | apply IsS88.set_1) | exact HI212.out)) hb); have n3_ := Aside0.mk (below_step (by repeat (first | (with_reducible first | exact HB.out | apply below_alloc | apply pw_below_drewN | apply below_drew1 | refine below_set ?_ (IsS88.ge HI212.out)) | exact HB.out)) hb); clear HO_4; clear HI212; clear HB; have HO_4 := n0_; have HO234 := n1_; have HI212 := n2_; have HB := n3_; clear n0_ n1_ n2_ n3_; (try clear hb); (try clear hb2); (try clear hk); (try clear hi); (try clear hgw); (try clear ho0); obtain ⟨Ao26, co26, eo26⟩ := Kd.R_slice HO234.out; subst eo26) | ((with_reducible refine gate_dst (N := 54) rfl ?_); (try (refine gate_guard (by rfl) ?_; dsimp only)); refine Kd.R_make (Kd.int .i64) _ 3 rfl (N := 54) rfl 24 _ _ rfl 8 rfl rfl Tryd.underlying24 (.int .i64 0) 8 info3 rfl (by decide) (by omega) 0 (ok := fun _ => True) (okp := fun _ => True) rfl (fun _ hk => hk) trivial (by omega) (by omega) (Below.refl _ _) (Nat.le_refl _) ?_; intro v236 w27 ho28 hb hg_ hnew_; clear hg_ hnew_; (first | rw [← Ny235.out] at ho28 | (simp only [Int.reduceToNat] at ho28; rw [← Ny235.out] at ho28)); have n0_ := Aside0.mk (Kd.S_below (by (with_reducible repeat (first | apply Kd.S_alloc | apply Kd.S_drewN | apply Kd.S_drew)); exact HO_4.out) hb); have n1_ := Aside0.mk (Kd.R_below (by (with_reducible repeat (first | apply Kd.R_alloc | apply Kd.R_drewN | apply Kd.R_drew)); exact HO234.out) hb); have n2_ := Aside0.mk (Kd.R_lower ho28 (below_size (by repeat (first | (with_reducible first | exact HB.out | apply below_alloc | apply pw_below_drewN | apply below_drew1 | refine below_set ?_ (IsS88.ge HI212.out)) | exact HB.out)))); have n3_ := Aside0.mk (IsS88.below (by repeat (first | (with_reducible first | exact HI212.out | apply IsS88.alloc | apply IsS88.drewN | apply IsS88.drew | apply IsS88.set_1) | exact HI212.out)) hb); have n4_ := Aside0.mk (below_step (by repeat (first | (with_reducible first | exact HB.out | apply below_alloc | apply pw_below_drewN | apply below_drew1 | refine below_set ?_ (IsS88.ge HI212.out)) | exact HB.out)) hb); clear HO_4; clear HO234; clear HI212; clear HB; have HO_4 := n0_; have HO234 := n1_; have HO237 := n2_; have HI212 := n3_; have HB := n4_; clear n0_ n1_ n2_ n3_ n4_; clear hb ho28))
              repeat (go_quiet (first | (go_at_call 33; (with_reducible refine (duty_Merge.calls k1 _ _ x4_1 t232 _ ?side1 ?side2 A21.out).mono ?_); (case side1 => repeat (first | exact (Kd.S_reads' HO_4.out).2.2 | (with_reducible refine Kd.C_alloc ?_ _) | (with_reducible refine Kd.C_drewN ?_ _) | (with_reducible refine Kd.C_drew ?_))); (case side2 => exact (Kd.S_reads' HO_4.out).2.1); rintro e w25 ⟨v233, rfl, ho0, hb⟩; have n0_ := Aside0.mk (Kd.S_elder' (by (with_reducible repeat (first | apply Kd.S_alloc | apply Kd.S_drewN | apply Kd.S_drew)); exact HO_4.out) (Kd.R_base ho0) hb); have n1_ := Aside0.mk (Kd.R_lower ho0 (below_size (by repeat (first | (with_reducible first | exact HB.out | apply below_alloc | apply pw_below_drewN | apply below_drew1 | refine below_set ?_ (IsS88.ge HI212.out)) | exact HB.out)))); have n2_ := Aside0.mk (IsS88.below (by repeat (first | (with_reducible first | exact HI212.out | apply IsS88.alloc | apply IsS88.drewN | apply IsS88.drew | apply IsS88.set_1) | exact HI212.out)) hb); have n3_ := Aside0.mk (below_step (by repeat (first | (with_reducible first | exact HB.out | apply below_alloc | apply pw_below_drewN | apply below_drew1 | refine below_set ?_ (IsS88.ge HI212.out)) | exact HB.out)) hb); clear HO_4; clear HI212; clear HB; have HO_4 := n0_; have HO234 := n1_; have HI212 := n2_; have HB := n3_; clear n0_ n1_ n2_ n3_; (try clear hb); (try clear hb2); (try clear hk); (try clear hi); (try clear hgw); (try clear ho0); obtain ⟨Ao26, co26, eo26⟩ := Kd.R_slice HO234.out; subst eo26) | ((with_reducible refine gate_dst (N := 54) rfl ?_); (try (refine gate_guard (by rfl) ?_; dsimp only)); refine Kd.R_make (Kd.int .i64) _ 3 rfl (N := 54) rfl 24 _ _ rfl 8 rfl rfl Tryd.underlying24 (.int .i64 0) 8 info3 rfl (by decide) (by omega) 0 (ok := fun _ => True) (okp := fun _ => True) rfl (fun _ hk => hk) trivial (by omega) (by omega) (Below.refl _ _) (Nat.le_refl _) ?_; intro v236 w27 ho28 hb hg_ hnew_; clear hg_ hnew_; (first | rw [← Ny235.out] at ho28 | (simp only [Int.reduceToNat] at ho28; rw [← Ny235.out] at ho28)); have n0_ := Aside0.mk (Kd.S_below (by (with_reducible repeat (first | apply Kd.S_alloc | apply Kd.S_drewN | apply Kd.S_drew)); exact HO_4.out) hb); have n1_ := Aside0.mk (Kd.R_below (by (with_reducible repeat (first | apply Kd.R_alloc | apply Kd.R_drewN | apply Kd.R_drew)); exact HO234.out) hb); have n2_ := Aside0.mk (Kd.R_lower ho28 (below_size (by repeat (first | (with_reducible first | exact HB.out | apply below_alloc | apply pw_below_drewN | apply below_drew1 | refine below_set ?_ (IsS88.ge HI212.out)) | exact HB.out)))); have n3_ := Aside0.mk (IsS88.below (by repeat (first | (with_reducible first | exact HI212.out | apply IsS88.alloc | apply IsS88.drewN | apply IsS88.drew | apply IsS88.set_1) | exact HI212.out)) hb); have n4_ := Aside0.mk (below_step (by repeat (first | (with_reducible first | exact HB.out | apply below_alloc | apply pw_below_drewN | apply below_drew1 | refine below_set ?_ (IsS88.ge HI212.out)) | exact HB.out)) hb); clear HO_4; clear HO234; clear HI212; clear HB; have HO_4 := n0_; have HO234 := n1_; have HO237 := n2_; have HI212 := n3_; have HB := n4_; clear n0_ n1_ n2_ n3_ n4_; clear hb ho28)); try go_wp2_with (first | (go_at_call 33; (with_reducible refine (duty_Merge.calls k1 _ _ x4_1 t232 _ ?side1 ?side2 A21.out).mono ?_); (case side1 => repeat (first | exact (Kd.S_reads' HO_4.out).2.2 | (with_reducible refine Kd.C_alloc ?_ _) | (with_reducible refine Kd.C_drewN ?_ _) | (with_reducible refine Kd.C_drew ?_))); (case side2 => exact (Kd.S_reads' HO_4.out).2.1); rintro e w25 ⟨v233, rfl, ho0, hb⟩; have n0_ := Aside0.mk (Kd.S_elder' (by (with_reducible repeat (first | apply Kd.S_alloc | apply Kd.S_drewN | apply Kd.S_drew)); exact HO_4.out) (Kd.R_base ho0) hb); have n1_ := Aside0.mk (Kd.R_lower ho0 (below_size (by repeat (first | (with_reducible first | exact HB.out | apply below_alloc | apply pw_below_drewN | apply below_drew1 | refine below_set ?_ (IsS88.ge HI212.out)) | exact HB.out)))); have n2_ := Aside0.mk (IsS88.below (by repeat (first | (with_reducible first | exact HI212.out | apply IsS88.alloc | apply IsS88.drewN | apply IsS88.drew | apply IsS88.set_1) | exact HI212.out)) hb); have n3_ := Aside0.mk (below_step (by repeat (first | (with_reducible first | exact HB.out | apply below_alloc | apply pw_below_drewN | apply below_drew1 | refine below_set ?_ (IsS88.ge HI212.out)) | exact HB.out)) hb); clear HO_4; clear HI212; clear HB; have HO_4 := n0_; have HO234 := n1_; have HI212 := n2_; have HB := n3_; clear n0_ n1_ n2_ n3_; (try clear hb); (try clear hb2); (try clear hk); (try clear hi); (try clear hgw); (try clear ho0); obtain ⟨Ao26, co26, eo26⟩ := Kd.R_slice HO234.out; subst eo26) | ((with_reducible refine gate_dst (N := 54) rfl ?_); (try (refine gate_guard (by rfl) ?_; dsimp only)); refine Kd.R_make (Kd.int .i64) _ 3 rfl (N := 54) rfl 24 _ _ rfl 8 rfl rfl Tryd.underlying24 (.int .i64 0) 8 info3 rfl (by decide) (by omega) 0 (ok := fun _ => True) (okp := fun _ => True) rfl (fun _ hk => hk) trivial (by omega) (by omega) (Below.refl _ _) (Nat.le_refl _) ?_; intro v236 w27 ho28 hb hg_ hnew_; clear hg_ hnew_; (first | rw [← Ny235.out] at ho28 | (simp only [Int.reduceToNat] at ho28; rw [← Ny235.out] at ho28)); have n0_ := Aside0.mk (Kd.S_below (by (with_reducible repeat (first | apply Kd.S_alloc | apply Kd.S_drewN | apply Kd.S_drew)); exact HO_4.out) hb); have n1_ := Aside0.mk (Kd.R_below (by (with_reducible repeat (first | apply Kd.R_alloc | apply Kd.R_drewN | apply Kd.R_drew)); exact HO234.out) hb); have n2_ := Aside0.mk (Kd.R_lower ho28 (below_size (by repeat (first | (with_reducible first | exact HB.out | apply below_alloc | apply pw_below_drewN | apply below_drew1 | refine below_set ?_ (IsS88.ge HI212.out)) | exact HB.out)))); have n3_ := Aside0.mk (IsS88.below (by repeat (first | (with_reducible first | exact HI212.out | apply IsS88.alloc | apply IsS88.drewN | apply IsS88.drew | apply IsS88.set_1) | exact HI212.out)) hb); have n4_ := Aside0.mk (below_step (by repeat (first | (with_reducible first | exact HB.out | apply below_alloc | apply pw_below_drewN | apply below_drew1 | refine below_set ?_ (IsS88.ge HI212.out)) | exact HB.out)) hb); clear HO_4; clear HO234; clear HI212; clear HB; have HO_4 := n0_; have HO234 := n1_; have HO237 := n2_; have HI212 := n3_; have HB := n4_; clear n0_ n1_ n2_ n3_ n4_; clear hb ho28)))
              go_loopg [57] k1 (fun kq v57 w' => ∃ (x10_2 : List Int) (x57_2 : Int), v57 = .int .i64 x57_2 ∧ Aside0 (storagebarterlaw28_DutyAll.l1 kq x4_1 x5_1 t232 x10_2 t232 (t232.length : Int) x57_2 = some r) ∧ Aside0 (kq ≤ k1) ∧ Aside0 (Kd.S (Kd.slice 36 k36) 30 w' w.heap.size (fun k_ => some k_ ≠ ((.slice Ao26 t232.length co26) : Value).ownBlock ∧ some k_ ≠ ((.slice Ao26 t232.length co26) : Value).ownBlock) (.slice Ao24 x4_1.length co24) x4_1) ∧ Aside0 (Kd.R k36 36 w' w.heap.size (fun _ => True) (.slice Ao26 t232.length co26) t232) ∧ Aside0 (Kd.R (Kd.int .i64) 3 w' w.heap.size (fun _ => True) v236 x10_2) ∧ Aside0 (Kd.R k36 36 w' w.heap.size (fun _ => True) (.slice Ao26 t232.length co26) t232) ∧ Aside0 (Below w.heap.size w w'))
              case atStart => exact ⟨(y235), (0), (by first | rfl | (simp; done) | (simp [*]; done)), H', ⟨Nat.le_refl _⟩, ⟨by (with_reducible repeat (first | apply Kd.S_alloc | apply Kd.S_drewN | apply Kd.S_drew)); exact Kd.S_mono HO_4.out (fun _ hk => ⟨hk.2, hk.2⟩)⟩, ⟨by (with_reducible repeat (first | apply Kd.R_alloc | apply Kd.R_drewN | apply Kd.R_drew)); exact HO234.out⟩, ⟨by (with_reducible repeat (first | apply Kd.R_alloc | apply Kd.R_drewN | apply Kd.R_drew)); exact HO237.out⟩, ⟨by (with_reducible repeat (first | apply Kd.R_alloc | apply Kd.R_drewN | apply Kd.R_drew)); exact HO234.out⟩, ⟨by repeat (first | (with_reducible first | exact HB.out | apply below_alloc | apply pw_below_drewN | apply below_drew1 | refine below_set ?_ (IsS88.ge HI212.out)) | exact HB.out)⟩⟩
              case round =>
                clear H'
                try clear c1
                try clear c2
                try clear p2
                try clear c3
                try clear p6
                try clear c7
                try clear c9
                try clear c9b0
                try clear c13
                try clear c13b0
                try clear c13b1
                try clear c14
                try clear c22
                try clear c22b0
                try clear c22b1
                try clear c23
                try clear c23b0
                try clear c23b1
                try clear p2
                obtain ⟨x10_2, x57_2, rfl, HA, HK2, HO_4, HO_9, HO_10, HO_55, HB⟩ := hrel
                cases gk with
                | zero => exact absurd HA.out (by simp [storagebarterlaw28_DutyAll.l1])
                | succ k2 =>
                  have H := HA.out
                  clear HA
                  simp only [storagebarterlaw28_DutyAll.l1] at H
                  by_cases c29 : x57_2 < (t232.length : Int)
                  · rw [if_pos c29] at H
                    have c29b0 : decide (x57_2 < (t232.length : Int)) = true := decide_eq_true c29
                    clear c29
                    by_cases c30 : 0 ≤ x57_2
                    · rw [if_pos c30] at H
                      have c30b0 : decide (0 ≤ x57_2) = true := decide_eq_true c30
                      clear c30
                      by_cases c31 : x57_2 < (t232.length : Int)
                      · rw [if_pos c31] at H
                        have c31b0 : decide (x57_2 < (t232.length : Int)) = true := decide_eq_true c31
                        clear c31
                        have HC32 := Aside0.mk H
                        clear H
                        have p238 : 0 ≤ (x57_2 : Int) := of_decide_eq_true (by first | (with_reducible assumption) | assumption)
                        have q238 : x57_2 < (t232.length : Int) := of_decide_eq_true (by first | (with_reducible assumption) | assumption)
                        obtain ⟨ad238, e238, hx238_0, hx238_1, hx238_2, hx238_3⟩ := at_T36 (Kd.R_reads' HO_55.out).2.2 x57_2 p238 q238
                        cases e238
                        replace p238 := eq_true p238
                        replace q238 := eq_true q238
                        go_upto_region 21 with (first | ((with_reducible refine gate_dst (N := 12) rfl ?_); (try (refine gate_guard (by rfl) ?_; dsimp only)); refine box_event ?hg (N := 12) ?hd (cs := #[.int .i64 0, .int .i64 0, .int .i64 0, .int .i64 0]) (t := 36) ?hr ?_; (case hd => rfl); (case hg => rfl); (case hr => first | (go_simp; done) | (go_simp; rfl)); intro gb239 hg w33 hbox hb; have n0_ := Aside0.mk (Kd.S_below (Kd.S_elderB (by (with_reducible repeat (first | apply Kd.S_alloc | apply Kd.S_drewN | apply Kd.S_drew)); exact HO_4.out) gb239 (Nat.le_of_eq hg.symm)) hb); have n1_ := Aside0.mk (Kd.R_below (Kd.R_elderB (by (with_reducible repeat (first | apply Kd.R_alloc | apply Kd.R_drewN | apply Kd.R_drew)); exact HO_9.out) gb239 (Nat.le_of_eq hg.symm)) hb); have n2_ := Aside0.mk (Kd.R_below (by (with_reducible repeat (first | apply Kd.R_alloc | apply Kd.R_drewN | apply Kd.R_drew)); exact HO_10.out) hb); have n3_ := Aside0.mk (Kd.R_below (Kd.R_elderB (by (with_reducible repeat (first | apply Kd.R_alloc | apply Kd.R_drewN | apply Kd.R_drew)); exact HO_55.out) gb239 (Nat.le_of_eq hg.symm)) hb); have n4_ := Aside0.mk (below_step (by repeat (first | (with_reducible first | exact HB.out | apply below_alloc | apply pw_below_drewN | apply below_drew1) | exact HB.out)) hb); have n5_ := Aside0.mk (hbox); have n6_ := Aside0.mk ((by rw [hg]; exact (below_size (by repeat (first | (with_reducible first | exact HB.out | apply below_alloc | apply pw_below_drewN | apply below_drew1) | exact HB.out))) : w.heap.size ≤ gb239)); have n7_ := Aside0.mk ((by rw [hg]; exact (below_size (by repeat (first | (with_reducible first | exact HB.out | apply below_alloc | apply pw_below_drewN | apply below_drew1) | exact HB.out))) : w.heap.size ≤ gb239)); clear HO_4; clear HO_9; clear HO_10; clear HO_55; clear HB; have HO_4 := n0_; have HO_9 := n1_; have HO_10 := n2_; have HO_55 := n3_; have HB := n4_; have BK239 := n5_; have GW239 := n6_; have GE239 := n7_; clear n0_ n1_ n2_ n3_ n4_ n5_ n6_ n7_; clear hb hbox hg; have hcz34_0 : w33.cell? ⟨gb239, 0, none⟩ = some (.int .i64 0) := (blk_cell BK239.out 0).trans rfl; have hcz34_1 : w33.cell? ⟨gb239, 1, none⟩ = some (.int .i64 0) := (blk_cell BK239.out 1).trans rfl; have hcz34_2 : w33.cell? ⟨gb239, 2, none⟩ = some (.int .i64 0) := (blk_cell BK239.out 2).trans rfl; have hcz34_3 : w33.cell? ⟨gb239, 3, none⟩ = some (.int .i64 0) := (blk_cell BK239.out 3).trans rfl; have hfz34_0 := blk_frozen BK239.out 0; have hfz34_1 := blk_frozen BK239.out 1; have hfz34_2 := blk_frozen BK239.out 2; have hfz34_3 := blk_frozen BK239.out 3))
                        repeat (go_quiet (first | ((with_reducible refine gate_dst (N := 12) rfl ?_); (try (refine gate_guard (by rfl) ?_; dsimp only)); refine box_event ?hg (N := 12) ?hd (cs := #[.int .i64 0, .int .i64 0, .int .i64 0, .int .i64 0]) (t := 36) ?hr ?_; (case hd => rfl); (case hg => rfl); (case hr => first | (go_simp; done) | (go_simp; rfl)); intro gb239 hg w33 hbox hb; have n0_ := Aside0.mk (Kd.S_below (Kd.S_elderB (by (with_reducible repeat (first | apply Kd.S_alloc | apply Kd.S_drewN | apply Kd.S_drew)); exact HO_4.out) gb239 (Nat.le_of_eq hg.symm)) hb); have n1_ := Aside0.mk (Kd.R_below (Kd.R_elderB (by (with_reducible repeat (first | apply Kd.R_alloc | apply Kd.R_drewN | apply Kd.R_drew)); exact HO_9.out) gb239 (Nat.le_of_eq hg.symm)) hb); have n2_ := Aside0.mk (Kd.R_below (by (with_reducible repeat (first | apply Kd.R_alloc | apply Kd.R_drewN | apply Kd.R_drew)); exact HO_10.out) hb); have n3_ := Aside0.mk (Kd.R_below (Kd.R_elderB (by (with_reducible repeat (first | apply Kd.R_alloc | apply Kd.R_drewN | apply Kd.R_drew)); exact HO_55.out) gb239 (Nat.le_of_eq hg.symm)) hb); have n4_ := Aside0.mk (below_step (by repeat (first | (with_reducible first | exact HB.out | apply below_alloc | apply pw_below_drewN | apply below_drew1) | exact HB.out)) hb); have n5_ := Aside0.mk (hbox); have n6_ := Aside0.mk ((by rw [hg]; exact (below_size (by repeat (first | (with_reducible first | exact HB.out | apply below_alloc | apply pw_below_drewN | apply below_drew1) | exact HB.out))) : w.heap.size ≤ gb239)); have n7_ := Aside0.mk ((by rw [hg]; exact (below_size (by repeat (first | (with_reducible first | exact HB.out | apply below_alloc | apply pw_below_drewN | apply below_drew1) | exact HB.out))) : w.heap.size ≤ gb239)); clear HO_4; clear HO_9; clear HO_10; clear HO_55; clear HB; have HO_4 := n0_; have HO_9 := n1_; have HO_10 := n2_; have HO_55 := n3_; have HB := n4_; have BK239 := n5_; have GW239 := n6_; have GE239 := n7_; clear n0_ n1_ n2_ n3_ n4_ n5_ n6_ n7_; clear hb hbox hg; have hcz34_0 : w33.cell? ⟨gb239, 0, none⟩ = some (.int .i64 0) := (blk_cell BK239.out 0).trans rfl; have hcz34_1 : w33.cell? ⟨gb239, 1, none⟩ = some (.int .i64 0) := (blk_cell BK239.out 1).trans rfl; have hcz34_2 : w33.cell? ⟨gb239, 2, none⟩ = some (.int .i64 0) := (blk_cell BK239.out 2).trans rfl; have hcz34_3 : w33.cell? ⟨gb239, 3, none⟩ = some (.int .i64 0) := (blk_cell BK239.out 3).trans rfl; have hfz34_0 := blk_frozen BK239.out 0; have hfz34_1 := blk_frozen BK239.out 1; have hfz34_2 := blk_frozen BK239.out 2; have hfz34_3 := blk_frozen BK239.out 3)); go_upto_region 21 with (first | ((with_reducible refine gate_dst (N := 12) rfl ?_); (try (refine gate_guard (by rfl) ?_; dsimp only)); refine box_event ?hg (N := 12) ?hd (cs := #[.int .i64 0, .int .i64 0, .int .i64 0, .int .i64 0]) (t := 36) ?hr ?_; (case hd => rfl); (case hg => rfl); (case hr => first | (go_simp; done) | (go_simp; rfl)); intro gb239 hg w33 hbox hb; have n0_ := Aside0.mk (Kd.S_below (Kd.S_elderB (by (with_reducible repeat (first | apply Kd.S_alloc | apply Kd.S_drewN | apply Kd.S_drew)); exact HO_4.out) gb239 (Nat.le_of_eq hg.symm)) hb); have n1_ := Aside0.mk (Kd.R_below (Kd.R_elderB (by (with_reducible repeat (first | apply Kd.R_alloc | apply Kd.R_drewN | apply Kd.R_drew)); exact HO_9.out) gb239 (Nat.le_of_eq hg.symm)) hb); have n2_ := Aside0.mk (Kd.R_below (by (with_reducible repeat (first | apply Kd.R_alloc | apply Kd.R_drewN | apply Kd.R_drew)); exact HO_10.out) hb); have n3_ := Aside0.mk (Kd.R_below (Kd.R_elderB (by (with_reducible repeat (first | apply Kd.R_alloc | apply Kd.R_drewN | apply Kd.R_drew)); exact HO_55.out) gb239 (Nat.le_of_eq hg.symm)) hb); have n4_ := Aside0.mk (below_step (by repeat (first | (with_reducible first | exact HB.out | apply below_alloc | apply pw_below_drewN | apply below_drew1) | exact HB.out)) hb); have n5_ := Aside0.mk (hbox); have n6_ := Aside0.mk ((by rw [hg]; exact (below_size (by repeat (first | (with_reducible first | exact HB.out | apply below_alloc | apply pw_below_drewN | apply below_drew1) | exact HB.out))) : w.heap.size ≤ gb239)); have n7_ := Aside0.mk ((by rw [hg]; exact (below_size (by repeat (first | (with_reducible first | exact HB.out | apply below_alloc | apply pw_below_drewN | apply below_drew1) | exact HB.out))) : w.heap.size ≤ gb239)); clear HO_4; clear HO_9; clear HO_10; clear HO_55; clear HB; have HO_4 := n0_; have HO_9 := n1_; have HO_10 := n2_; have HO_55 := n3_; have HB := n4_; have BK239 := n5_; have GW239 := n6_; have GE239 := n7_; clear n0_ n1_ n2_ n3_ n4_ n5_ n6_ n7_; clear hb hbox hg; have hcz34_0 : w33.cell? ⟨gb239, 0, none⟩ = some (.int .i64 0) := (blk_cell BK239.out 0).trans rfl; have hcz34_1 : w33.cell? ⟨gb239, 1, none⟩ = some (.int .i64 0) := (blk_cell BK239.out 1).trans rfl; have hcz34_2 : w33.cell? ⟨gb239, 2, none⟩ = some (.int .i64 0) := (blk_cell BK239.out 2).trans rfl; have hcz34_3 : w33.cell? ⟨gb239, 3, none⟩ = some (.int .i64 0) := (blk_cell BK239.out 3).trans rfl; have hfz34_0 := blk_frozen BK239.out 0; have hfz34_1 := blk_frozen BK239.out 1; have hfz34_2 := blk_frozen BK239.out 2; have hfz34_3 := blk_frozen BK239.out 3)))
                        (try simp only [Act.put, List.setIfInBounds_toArray, List.set_cons_zero, List.set_cons_succ])
                        go_cut [96] (fun v96 wc => ∃ (kq : Nat) (x96_31 : Bool), v96 = .bool x96_31 ∧ Aside0 (storagebarterlaw28_DutyAll.j2 kq x4_1 x5_1 t232 x10_2 t232 (t232.length : Int) x57_2 x96_31 ((rd_T36 t232 x57_2).f0) ((rd_T36 t232 x57_2).f1) ((rd_T36 t232 x57_2).f2) ((rd_T36 t232 x57_2).f3) = some r) ∧ Aside0 (kq ≤ k2) ∧ Aside0 (Kd.S (Kd.slice 36 k36) 30 wc w.heap.size (fun k_ => some k_ ≠ ((.slice (some ad238) t232.length co26) : Value).ownBlock ∧ some k_ ≠ ((.slice (some ad238) t232.length co26) : Value).ownBlock ∧ k_ ≠ gb239) (.slice Ao24 x4_1.length co24) x4_1) ∧ Aside0 (Kd.R k36 36 wc w.heap.size (fun k_ => k_ ≠ gb239) (.slice (some ad238) t232.length co26) t232) ∧ Aside0 (Kd.R (Kd.int .i64) 3 wc w.heap.size (fun _ => True) v236 x10_2) ∧ Aside0 (Kd.R k36 36 wc w.heap.size (fun k_ => k_ ≠ gb239) (.slice (some ad238) t232.length co26) t232) ∧ Aside0 (wc.heap[gb239]? = some (.cells #[.int .i64 ((rd_T36 t232 x57_2).f0), .int .i64 ((rd_T36 t232 x57_2).f1), .int .i64 ((rd_T36 t232 x57_2).f2), .int .i64 ((rd_T36 t232 x57_2).f3)] 36 (0, 0))) ∧ Aside0 (Below w.heap.size w wc))
                        case first =>
                          have H := HC32.out
                          clear HC32
                          by_cases c35 : x57_2 > 0
                          · rw [if_pos c35] at H
                            have c35b0 : decide (0 < x57_2) = true := decide_eq_true c35
                            clear c35
                            (first | rw [c35b0] | (simp only [i64_w, i32_w]; rw [c35b0]) | skip)
                            obtain ⟨ji36, hji36⟩ : ∃ j_ : Int, (wrap64 (x57_2 - 1)) = j_ := ⟨_, rfl⟩
                            replace H : (if 0 ≤ (ji36) then (if (ji36) < (t232.length : Int) then (if ((rd_T36 t232 (ji36)).f0) > ((rd_T36 t232 x57_2).f0) then (storagebarterlaw28_DutyAll.j2 k2 x4_1 x5_1 t232 x10_2 t232 (t232.length : Int) x57_2 true ((rd_T36 t232 x57_2).f0) ((rd_T36 t232 x57_2).f1) ((rd_T36 t232 x57_2).f2) ((rd_T36 t232 x57_2).f3)) else (if ((rd_T36 t232 (ji36)).f0) = ((rd_T36 t232 x57_2).f0) then (storagebarterlaw28_DutyAll.j2 k2 x4_1 x5_1 t232 x10_2 t232 (t232.length : Int) x57_2 (decide (((rd_T36 t232 (ji36)).f1) > ((rd_T36 t232 x57_2).f1))) ((rd_T36 t232 x57_2).f0) ((rd_T36 t232 x57_2).f1) ((rd_T36 t232 x57_2).f2) ((rd_T36 t232 x57_2).f3)) else (storagebarterlaw28_DutyAll.j2 k2 x4_1 x5_1 t232 x10_2 t232 (t232.length : Int) x57_2 false ((rd_T36 t232 x57_2).f0) ((rd_T36 t232 x57_2).f1) ((rd_T36 t232 x57_2).f2) ((rd_T36 t232 x57_2).f3)))) else (none)) else (none)) = some r := by first | (rw [hji36] at H; exact H) | (simp only [hji36] at H ⊢; exact H)
                            have hji36w : (IntKind.i64.wrap (x57_2 - 1)) = ji36 := (i64_w _).trans hji36
                            by_cases c37 : 0 ≤ (ji36)
                            · rw [if_pos c37] at H
                              have c37b0 : decide (0 ≤ (ji36)) = true := decide_eq_true c37
                              clear c37
                              by_cases c38 : (ji36) < (t232.length : Int)
                              · rw [if_pos c38] at H
                                have c38b0 : decide ((ji36) < (t232.length : Int)) = true := decide_eq_true c38
                                clear c38
                                by_cases c39 : ((rd_T36 t232 (ji36)).f0) > ((rd_T36 t232 x57_2).f0)
                                · rw [if_pos c39] at H
                                  have c39b0 : decide (((rd_T36 t232 x57_2).f0) < ((rd_T36 t232 (ji36)).f0)) = true := decide_eq_true c39
                                  clear c39
                                  have H' := Aside0.mk H
                                  clear H
                                  have p240 : 0 ≤ ((ji36) : Int) := of_decide_eq_true (by first | (with_reducible assumption) | assumption)
                                  have q240 : (ji36) < (t232.length : Int) := of_decide_eq_true (by first | (with_reducible assumption) | assumption)
                                  obtain ⟨ad240, e240, hx240_0, hx240_1, hx240_2, hx240_3⟩ := at_T36 (Kd.R_reads' HO_9.out).2.2 (ji36) p240 q240
                                  obtain rfl : ad238 = ad240 := (by injection e240)
                                  have hn240_0 : ad238.block ≠ gb239 := by first | exact Kd.own_blk (Kd.R_ne HO_9.out BK239.out (by decide)) | (have h_ := HO_9.out.1 _ rfl; first | exact h_ | exact h_.2 | exact h_.2.2)
                                  have hn240_1 : ad238.block ≠ gb239 := by first | exact Kd.own_blk (Kd.R_ne HO_9.out BK239.out (by decide)) | (have h_ := HO_9.out.1 _ rfl; first | exact h_ | exact h_.2 | exact h_.2.2)
                                  have hn240_2 : ad238.block ≠ gb239 := by first | exact Kd.own_blk (Kd.R_ne HO_9.out BK239.out (by decide)) | (have h_ := HO_9.out.1 _ rfl; first | exact h_ | exact h_.2 | exact h_.2.2)
                                  have hn240_3 : ad238.block ≠ gb239 := by first | exact Kd.own_blk (Kd.R_ne HO_9.out BK239.out (by decide)) | (have h_ := HO_9.out.1 _ rfl; first | exact h_ | exact h_.2 | exact h_.2.2)
                                  replace hx240_0 := (cell_far (p := ⟨gb239, 0, none⟩) (by first | (rw [add_block]; exact hn240_0) | (show (Addr.add _ _).block ≠ _; rw [add_block]; exact hn240_0) | exact hn240_0) (.int .i64 ((rd_T36 t232 x57_2).f0))).trans hx240_0
                                  replace hx240_1 := (cell_far (p := ⟨gb239, 0, none⟩) (by first | (rw [add_block]; exact hn240_0) | (show (Addr.add _ _).block ≠ _; rw [add_block]; exact hn240_0) | exact hn240_0) (.int .i64 ((rd_T36 t232 x57_2).f0))).trans hx240_1
                                  replace hx240_2 := (cell_far (p := ⟨gb239, 0, none⟩) (by first | (rw [add_block]; exact hn240_0) | (show (Addr.add _ _).block ≠ _; rw [add_block]; exact hn240_0) | exact hn240_0) (.int .i64 ((rd_T36 t232 x57_2).f0))).trans hx240_2
                                  replace hx240_3 := (cell_far (p := ⟨gb239, 0, none⟩) (by first | (rw [add_block]; exact hn240_0) | (show (Addr.add _ _).block ≠ _; rw [add_block]; exact hn240_0) | exact hn240_0) (.int .i64 ((rd_T36 t232 x57_2).f0))).trans hx240_3
                                  replace hx240_0 := (cell_far (p := ⟨gb239, 1, none⟩) (by first | (rw [add_block]; exact hn240_1) | (show (Addr.add _ _).block ≠ _; rw [add_block]; exact hn240_1) | exact hn240_1) (.int .i64 ((rd_T36 t232 x57_2).f1))).trans hx240_0
                                  replace hx240_1 := (cell_far (p := ⟨gb239, 1, none⟩) (by first | (rw [add_block]; exact hn240_1) | (show (Addr.add _ _).block ≠ _; rw [add_block]; exact hn240_1) | exact hn240_1) (.int .i64 ((rd_T36 t232 x57_2).f1))).trans hx240_1
                                  replace hx240_2 := (cell_far (p := ⟨gb239, 1, none⟩) (by first | (rw [add_block]; exact hn240_1) | (show (Addr.add _ _).block ≠ _; rw [add_block]; exact hn240_1) | exact hn240_1) (.int .i64 ((rd_T36 t232 x57_2).f1))).trans hx240_2
                                  replace hx240_3 := (cell_far (p := ⟨gb239, 1, none⟩) (by first | (rw [add_block]; exact hn240_1) | (show (Addr.add _ _).block ≠ _; rw [add_block]; exact hn240_1) | exact hn240_1) (.int .i64 ((rd_T36 t232 x57_2).f1))).trans hx240_3
                                  replace hx240_0 := (cell_far (p := ⟨gb239, 2, none⟩) (by first | (rw [add_block]; exact hn240_2) | (show (Addr.add _ _).block ≠ _; rw [add_block]; exact hn240_2) | exact hn240_2) (.int .i64 ((rd_T36 t232 x57_2).f2))).trans hx240_0
                                  replace hx240_1 := (cell_far (p := ⟨gb239, 2, none⟩) (by first | (rw [add_block]; exact hn240_2) | (show (Addr.add _ _).block ≠ _; rw [add_block]; exact hn240_2) | exact hn240_2) (.int .i64 ((rd_T36 t232 x57_2).f2))).trans hx240_1
                                  replace hx240_2 := (cell_far (p := ⟨gb239, 2, none⟩) (by first | (rw [add_block]; exact hn240_2) | (show (Addr.add _ _).block ≠ _; rw [add_block]; exact hn240_2) | exact hn240_2) (.int .i64 ((rd_T36 t232 x57_2).f2))).trans hx240_2
                                  replace hx240_3 := (cell_far (p := ⟨gb239, 2, none⟩) (by first | (rw [add_block]; exact hn240_2) | (show (Addr.add _ _).block ≠ _; rw [add_block]; exact hn240_2) | exact hn240_2) (.int .i64 ((rd_T36 t232 x57_2).f2))).trans hx240_3
                                  replace hx240_0 := (cell_far (p := ⟨gb239, 3, none⟩) (by first | (rw [add_block]; exact hn240_3) | (show (Addr.add _ _).block ≠ _; rw [add_block]; exact hn240_3) | exact hn240_3) (.int .i64 ((rd_T36 t232 x57_2).f3))).trans hx240_0
                                  replace hx240_1 := (cell_far (p := ⟨gb239, 3, none⟩) (by first | (rw [add_block]; exact hn240_3) | (show (Addr.add _ _).block ≠ _; rw [add_block]; exact hn240_3) | exact hn240_3) (.int .i64 ((rd_T36 t232 x57_2).f3))).trans hx240_1
                                  replace hx240_2 := (cell_far (p := ⟨gb239, 3, none⟩) (by first | (rw [add_block]; exact hn240_3) | (show (Addr.add _ _).block ≠ _; rw [add_block]; exact hn240_3) | exact hn240_3) (.int .i64 ((rd_T36 t232 x57_2).f3))).trans hx240_2
                                  replace hx240_3 := (cell_far (p := ⟨gb239, 3, none⟩) (by first | (rw [add_block]; exact hn240_3) | (show (Addr.add _ _).block ≠ _; rw [add_block]; exact hn240_3) | exact hn240_3) (.int .i64 ((rd_T36 t232 x57_2).f3))).trans hx240_3
                                  (try have hy240_0 := fun (n_ : Nat) => (show ((((((w33.drewN n_).setCell ⟨gb239, 0, none⟩ (.int .i64 ((rd_T36 t232 x57_2).f0))).setCell ⟨gb239, 1, none⟩ (.int .i64 ((rd_T36 t232 x57_2).f1))).setCell ⟨gb239, 2, none⟩ (.int .i64 ((rd_T36 t232 x57_2).f2))).setCell ⟨gb239, 3, none⟩ (.int .i64 ((rd_T36 t232 x57_2).f3)))).cell? _ = some _ from hx240_0))
                                  (try have hy240_1 := fun (n_ : Nat) => (show ((((((w33.drewN n_).setCell ⟨gb239, 0, none⟩ (.int .i64 ((rd_T36 t232 x57_2).f0))).setCell ⟨gb239, 1, none⟩ (.int .i64 ((rd_T36 t232 x57_2).f1))).setCell ⟨gb239, 2, none⟩ (.int .i64 ((rd_T36 t232 x57_2).f2))).setCell ⟨gb239, 3, none⟩ (.int .i64 ((rd_T36 t232 x57_2).f3)))).cell? _ = some _ from hx240_1))
                                  (try have hy240_2 := fun (n_ : Nat) => (show ((((((w33.drewN n_).setCell ⟨gb239, 0, none⟩ (.int .i64 ((rd_T36 t232 x57_2).f0))).setCell ⟨gb239, 1, none⟩ (.int .i64 ((rd_T36 t232 x57_2).f1))).setCell ⟨gb239, 2, none⟩ (.int .i64 ((rd_T36 t232 x57_2).f2))).setCell ⟨gb239, 3, none⟩ (.int .i64 ((rd_T36 t232 x57_2).f3)))).cell? _ = some _ from hx240_2))
                                  (try have hy240_3 := fun (n_ : Nat) => (show ((((((w33.drewN n_).setCell ⟨gb239, 0, none⟩ (.int .i64 ((rd_T36 t232 x57_2).f0))).setCell ⟨gb239, 1, none⟩ (.int .i64 ((rd_T36 t232 x57_2).f1))).setCell ⟨gb239, 2, none⟩ (.int .i64 ((rd_T36 t232 x57_2).f2))).setCell ⟨gb239, 3, none⟩ (.int .i64 ((rd_T36 t232 x57_2).f3)))).cell? _ = some _ from hx240_3))
                                  clear hn240_0
                                  clear hn240_1
                                  clear hn240_2
                                  clear hn240_3
                                  replace p240 := eq_true p240
                                  replace q240 := eq_true q240
                                  have hcz40_0 : w33.cell? ⟨gb239, 0, none⟩ = some (.int .i64 0) := (blk_cell BK239.out 0).trans rfl
                                  have hcz40_1 : w33.cell? ⟨gb239, 1, none⟩ = some (.int .i64 0) := (blk_cell BK239.out 1).trans rfl
                                  have hcz40_2 : w33.cell? ⟨gb239, 2, none⟩ = some (.int .i64 0) := (blk_cell BK239.out 2).trans rfl
                                  have hcz40_3 : w33.cell? ⟨gb239, 3, none⟩ = some (.int .i64 0) := (blk_cell BK239.out 3).trans rfl
                                  have hfz40_0 := blk_frozen BK239.out 0
                                  have hfz40_1 := blk_frozen BK239.out 1
                                  have hfz40_2 := blk_frozen BK239.out 2
                                  have hfz40_3 := blk_frozen BK239.out 3
                                  go_wp2
                                  repeat (go_quiet (fail); try go_wp2)
                                  go_meet
                                  case rel => exact ⟨_, (true), (by first | rfl | (simp; done) | (simp [*]; done)), H', ⟨by have := HK1.out; have := HK2.out; first | omega | exact Nat.le_refl _⟩, ⟨by (with_reducible repeat (first | apply Kd.S_alloc | apply Kd.S_drewN | apply Kd.S_drew)); exact Kd.S_mono (Kd.S_far (p := ⟨gb239, 3, none⟩) (Kd.S_far (p := ⟨gb239, 2, none⟩) (Kd.S_far (p := ⟨gb239, 1, none⟩) (Kd.S_far (p := ⟨gb239, 0, none⟩) (Kd.S_mono HO_4.out (fun k_ hk => (⟨hk, hk.2⟩ : _ ∧ k_ ≠ gb239))) (fun _ hk => hk.2) (.int .i64 ((rd_T36 t232 x57_2).f0))) (fun _ hk => hk.2) (.int .i64 ((rd_T36 t232 x57_2).f1))) (fun _ hk => hk.2) (.int .i64 ((rd_T36 t232 x57_2).f2))) (fun _ hk => hk.2) (.int .i64 ((rd_T36 t232 x57_2).f3))) (fun _ hk => ⟨hk.1.1.1, ⟨hk.1.1.2, hk.1.2⟩⟩)⟩, ⟨by (with_reducible repeat (first | apply Kd.R_alloc | apply Kd.R_drewN | apply Kd.R_drew)); exact Kd.R_mono (Kd.R_far (p := ⟨gb239, 3, none⟩) (Kd.R_far (p := ⟨gb239, 2, none⟩) (Kd.R_far (p := ⟨gb239, 1, none⟩) (Kd.R_far (p := ⟨gb239, 0, none⟩) (Kd.R_mono HO_9.out (fun k_ hk => (⟨hk, hk.2⟩ : _ ∧ k_ ≠ gb239))) (fun _ hk => hk.2) (.int .i64 ((rd_T36 t232 x57_2).f0))) (fun _ hk => hk.2) (.int .i64 ((rd_T36 t232 x57_2).f1))) (fun _ hk => hk.2) (.int .i64 ((rd_T36 t232 x57_2).f2))) (fun _ hk => hk.2) (.int .i64 ((rd_T36 t232 x57_2).f3))) (fun _ hk => hk.1.2)⟩, ⟨by (with_reducible repeat (first | apply Kd.R_alloc | apply Kd.R_drewN | apply Kd.R_drew)); exact Kd.R_mono (Kd.R_far (p := ⟨gb239, 3, none⟩) (Kd.R_far (p := ⟨gb239, 2, none⟩) (Kd.R_far (p := ⟨gb239, 1, none⟩) (Kd.R_far (p := ⟨gb239, 0, none⟩) (Kd.R_types HO_10.out BK239.out (by decide)) (fun _ hk => hk.2) (.int .i64 ((rd_T36 t232 x57_2).f0))) (fun _ hk => hk.2) (.int .i64 ((rd_T36 t232 x57_2).f1))) (fun _ hk => hk.2) (.int .i64 ((rd_T36 t232 x57_2).f2))) (fun _ hk => hk.2) (.int .i64 ((rd_T36 t232 x57_2).f3))) (fun _ hk => trivial)⟩, ⟨by (with_reducible repeat (first | apply Kd.R_alloc | apply Kd.R_drewN | apply Kd.R_drew)); exact Kd.R_mono (Kd.R_far (p := ⟨gb239, 3, none⟩) (Kd.R_far (p := ⟨gb239, 2, none⟩) (Kd.R_far (p := ⟨gb239, 1, none⟩) (Kd.R_far (p := ⟨gb239, 0, none⟩) (Kd.R_mono HO_55.out (fun k_ hk => (⟨hk, hk.2⟩ : _ ∧ k_ ≠ gb239))) (fun _ hk => hk.2) (.int .i64 ((rd_T36 t232 x57_2).f0))) (fun _ hk => hk.2) (.int .i64 ((rd_T36 t232 x57_2).f1))) (fun _ hk => hk.2) (.int .i64 ((rd_T36 t232 x57_2).f2))) (fun _ hk => hk.2) (.int .i64 ((rd_T36 t232 x57_2).f3))) (fun _ hk => hk.1.2)⟩, ⟨by (with_reducible repeat (first | refine blk_drewN ?_ _ | refine blk_drew ?_ | refine blk_alloc ?_ _)); refine blk_put (cs := #[.int .i64 ((rd_T36 t232 x57_2).f0), .int .i64 ((rd_T36 t232 x57_2).f1), .int .i64 ((rd_T36 t232 x57_2).f2), .int .i64 0]) ?_ 3 _ rfl; (with_reducible repeat (first | refine blk_drewN ?_ _ | refine blk_drew ?_ | refine blk_alloc ?_ _)); refine blk_put (cs := #[.int .i64 ((rd_T36 t232 x57_2).f0), .int .i64 ((rd_T36 t232 x57_2).f1), .int .i64 0, .int .i64 0]) ?_ 2 _ rfl; (with_reducible repeat (first | refine blk_drewN ?_ _ | refine blk_drew ?_ | refine blk_alloc ?_ _)); refine blk_put (cs := #[.int .i64 ((rd_T36 t232 x57_2).f0), .int .i64 0, .int .i64 0, .int .i64 0]) ?_ 1 _ rfl; (with_reducible repeat (first | refine blk_drewN ?_ _ | refine blk_drew ?_ | refine blk_alloc ?_ _)); refine blk_put (cs := #[.int .i64 0, .int .i64 0, .int .i64 0, .int .i64 0]) ?_ 0 _ rfl; (with_reducible repeat (first | refine blk_drewN ?_ _ | refine blk_drew ?_ | refine blk_alloc ?_ _)); exact BK239.out⟩, ⟨by repeat (first | (with_reducible first | exact HB.out | apply below_alloc | apply pw_below_drewN | apply below_drew1 | refine below_set ?_ GE239.out) | exact HB.out)⟩⟩
                                · rw [if_neg c39] at H
                                  have c39b0 : decide (((rd_T36 t232 x57_2).f0) < ((rd_T36 t232 (ji36)).f0)) = false := decide_eq_false c39
                                  clear c39
                                  by_cases c41 : ((rd_T36 t232 (ji36)).f0) = ((rd_T36 t232 x57_2).f0)
                                  · rw [if_pos c41] at H
                                    have c41b0 : (((rd_T36 t232 (ji36)).f0) == ((rd_T36 t232 x57_2).f0)) = true := beq_iff_eq.mpr c41
                                    have c41b1 : (((rd_T36 t232 (ji36)).f0) != ((rd_T36 t232 x57_2).f0)) = false := bne_eq_false_iff_eq.mpr c41
                                    clear c41
                                    have H' := Aside0.mk H
                                    clear H
                                    have p240 : 0 ≤ ((ji36) : Int) := of_decide_eq_true (by first | (with_reducible assumption) | assumption)
                                    have q240 : (ji36) < (t232.length : Int) := of_decide_eq_true (by first | (with_reducible assumption) | assumption)
                                    obtain ⟨ad240, e240, hx240_0, hx240_1, hx240_2, hx240_3⟩ := at_T36 (Kd.R_reads' HO_9.out).2.2 (ji36) p240 q240
                                    obtain rfl : ad238 = ad240 := (by injection e240)
                                    have hn240_0 : ad238.block ≠ gb239 := by first | exact Kd.own_blk (Kd.R_ne HO_9.out BK239.out (by decide)) | (have h_ := HO_9.out.1 _ rfl; first | exact h_ | exact h_.2 | exact h_.2.2)
                                    have hn240_1 : ad238.block ≠ gb239 := by first | exact Kd.own_blk (Kd.R_ne HO_9.out BK239.out (by decide)) | (have h_ := HO_9.out.1 _ rfl; first | exact h_ | exact h_.2 | exact h_.2.2)
                                    have hn240_2 : ad238.block ≠ gb239 := by first | exact Kd.own_blk (Kd.R_ne HO_9.out BK239.out (by decide)) | (have h_ := HO_9.out.1 _ rfl; first | exact h_ | exact h_.2 | exact h_.2.2)
                                    have hn240_3 : ad238.block ≠ gb239 := by first | exact Kd.own_blk (Kd.R_ne HO_9.out BK239.out (by decide)) | (have h_ := HO_9.out.1 _ rfl; first | exact h_ | exact h_.2 | exact h_.2.2)
                                    replace hx240_0 := (cell_far (p := ⟨gb239, 0, none⟩) (by first | (rw [add_block]; exact hn240_0) | (show (Addr.add _ _).block ≠ _; rw [add_block]; exact hn240_0) | exact hn240_0) (.int .i64 ((rd_T36 t232 x57_2).f0))).trans hx240_0
                                    replace hx240_1 := (cell_far (p := ⟨gb239, 0, none⟩) (by first | (rw [add_block]; exact hn240_0) | (show (Addr.add _ _).block ≠ _; rw [add_block]; exact hn240_0) | exact hn240_0) (.int .i64 ((rd_T36 t232 x57_2).f0))).trans hx240_1
                                    replace hx240_2 := (cell_far (p := ⟨gb239, 0, none⟩) (by first | (rw [add_block]; exact hn240_0) | (show (Addr.add _ _).block ≠ _; rw [add_block]; exact hn240_0) | exact hn240_0) (.int .i64 ((rd_T36 t232 x57_2).f0))).trans hx240_2
                                    replace hx240_3 := (cell_far (p := ⟨gb239, 0, none⟩) (by first | (rw [add_block]; exact hn240_0) | (show (Addr.add _ _).block ≠ _; rw [add_block]; exact hn240_0) | exact hn240_0) (.int .i64 ((rd_T36 t232 x57_2).f0))).trans hx240_3
                                    replace hx240_0 := (cell_far (p := ⟨gb239, 1, none⟩) (by first | (rw [add_block]; exact hn240_1) | (show (Addr.add _ _).block ≠ _; rw [add_block]; exact hn240_1) | exact hn240_1) (.int .i64 ((rd_T36 t232 x57_2).f1))).trans hx240_0
                                    replace hx240_1 := (cell_far (p := ⟨gb239, 1, none⟩) (by first | (rw [add_block]; exact hn240_1) | (show (Addr.add _ _).block ≠ _; rw [add_block]; exact hn240_1) | exact hn240_1) (.int .i64 ((rd_T36 t232 x57_2).f1))).trans hx240_1
                                    replace hx240_2 := (cell_far (p := ⟨gb239, 1, none⟩) (by first | (rw [add_block]; exact hn240_1) | (show (Addr.add _ _).block ≠ _; rw [add_block]; exact hn240_1) | exact hn240_1) (.int .i64 ((rd_T36 t232 x57_2).f1))).trans hx240_2
                                    replace hx240_3 := (cell_far (p := ⟨gb239, 1, none⟩) (by first | (rw [add_block]; exact hn240_1) | (show (Addr.add _ _).block ≠ _; rw [add_block]; exact hn240_1) | exact hn240_1) (.int .i64 ((rd_T36 t232 x57_2).f1))).trans hx240_3
                                    replace hx240_0 := (cell_far (p := ⟨gb239, 2, none⟩) (by first | (rw [add_block]; exact hn240_2) | (show (Addr.add _ _).block ≠ _; rw [add_block]; exact hn240_2) | exact hn240_2) (.int .i64 ((rd_T36 t232 x57_2).f2))).trans hx240_0
                                    replace hx240_1 := (cell_far (p := ⟨gb239, 2, none⟩) (by first | (rw [add_block]; exact hn240_2) | (show (Addr.add _ _).block ≠ _; rw [add_block]; exact hn240_2) | exact hn240_2) (.int .i64 ((rd_T36 t232 x57_2).f2))).trans hx240_1
                                    replace hx240_2 := (cell_far (p := ⟨gb239, 2, none⟩) (by first | (rw [add_block]; exact hn240_2) | (show (Addr.add _ _).block ≠ _; rw [add_block]; exact hn240_2) | exact hn240_2) (.int .i64 ((rd_T36 t232 x57_2).f2))).trans hx240_2
                                    replace hx240_3 := (cell_far (p := ⟨gb239, 2, none⟩) (by first | (rw [add_block]; exact hn240_2) | (show (Addr.add _ _).block ≠ _; rw [add_block]; exact hn240_2) | exact hn240_2) (.int .i64 ((rd_T36 t232 x57_2).f2))).trans hx240_3
                                    replace hx240_0 := (cell_far (p := ⟨gb239, 3, none⟩) (by first | (rw [add_block]; exact hn240_3) | (show (Addr.add _ _).block ≠ _; rw [add_block]; exact hn240_3) | exact hn240_3) (.int .i64 ((rd_T36 t232 x57_2).f3))).trans hx240_0
                                    replace hx240_1 := (cell_far (p := ⟨gb239, 3, none⟩) (by first | (rw [add_block]; exact hn240_3) | (show (Addr.add _ _).block ≠ _; rw [add_block]; exact hn240_3) | exact hn240_3) (.int .i64 ((rd_T36 t232 x57_2).f3))).trans hx240_1
                                    replace hx240_2 := (cell_far (p := ⟨gb239, 3, none⟩) (by first | (rw [add_block]; exact hn240_3) | (show (Addr.add _ _).block ≠ _; rw [add_block]; exact hn240_3) | exact hn240_3) (.int .i64 ((rd_T36 t232 x57_2).f3))).trans hx240_2
                                    replace hx240_3 := (cell_far (p := ⟨gb239, 3, none⟩) (by first | (rw [add_block]; exact hn240_3) | (show (Addr.add _ _).block ≠ _; rw [add_block]; exact hn240_3) | exact hn240_3) (.int .i64 ((rd_T36 t232 x57_2).f3))).trans hx240_3
                                    (try have hy240_0 := fun (n_ : Nat) => (show ((((((w33.drewN n_).setCell ⟨gb239, 0, none⟩ (.int .i64 ((rd_T36 t232 x57_2).f0))).setCell ⟨gb239, 1, none⟩ (.int .i64 ((rd_T36 t232 x57_2).f1))).setCell ⟨gb239, 2, none⟩ (.int .i64 ((rd_T36 t232 x57_2).f2))).setCell ⟨gb239, 3, none⟩ (.int .i64 ((rd_T36 t232 x57_2).f3)))).cell? _ = some _ from hx240_0))
                                    (try have hy240_1 := fun (n_ : Nat) => (show ((((((w33.drewN n_).setCell ⟨gb239, 0, none⟩ (.int .i64 ((rd_T36 t232 x57_2).f0))).setCell ⟨gb239, 1, none⟩ (.int .i64 ((rd_T36 t232 x57_2).f1))).setCell ⟨gb239, 2, none⟩ (.int .i64 ((rd_T36 t232 x57_2).f2))).setCell ⟨gb239, 3, none⟩ (.int .i64 ((rd_T36 t232 x57_2).f3)))).cell? _ = some _ from hx240_1))
                                    (try have hy240_2 := fun (n_ : Nat) => (show ((((((w33.drewN n_).setCell ⟨gb239, 0, none⟩ (.int .i64 ((rd_T36 t232 x57_2).f0))).setCell ⟨gb239, 1, none⟩ (.int .i64 ((rd_T36 t232 x57_2).f1))).setCell ⟨gb239, 2, none⟩ (.int .i64 ((rd_T36 t232 x57_2).f2))).setCell ⟨gb239, 3, none⟩ (.int .i64 ((rd_T36 t232 x57_2).f3)))).cell? _ = some _ from hx240_2))
                                    (try have hy240_3 := fun (n_ : Nat) => (show ((((((w33.drewN n_).setCell ⟨gb239, 0, none⟩ (.int .i64 ((rd_T36 t232 x57_2).f0))).setCell ⟨gb239, 1, none⟩ (.int .i64 ((rd_T36 t232 x57_2).f1))).setCell ⟨gb239, 2, none⟩ (.int .i64 ((rd_T36 t232 x57_2).f2))).setCell ⟨gb239, 3, none⟩ (.int .i64 ((rd_T36 t232 x57_2).f3)))).cell? _ = some _ from hx240_3))
                                    clear hn240_0
                                    clear hn240_1
                                    clear hn240_2
                                    clear hn240_3
                                    replace p240 := eq_true p240
                                    replace q240 := eq_true q240
                                    have hcz42_0 : w33.cell? ⟨gb239, 0, none⟩ = some (.int .i64 0) := (blk_cell BK239.out 0).trans rfl
                                    have hcz42_1 : w33.cell? ⟨gb239, 1, none⟩ = some (.int .i64 0) := (blk_cell BK239.out 1).trans rfl
                                    have hcz42_2 : w33.cell? ⟨gb239, 2, none⟩ = some (.int .i64 0) := (blk_cell BK239.out 2).trans rfl
                                    have hcz42_3 : w33.cell? ⟨gb239, 3, none⟩ = some (.int .i64 0) := (blk_cell BK239.out 3).trans rfl
                                    have hfz42_0 := blk_frozen BK239.out 0
                                    have hfz42_1 := blk_frozen BK239.out 1
                                    have hfz42_2 := blk_frozen BK239.out 2
                                    have hfz42_3 := blk_frozen BK239.out 3
                                    have p241 : 0 ≤ ((ji36) : Int) := of_decide_eq_true (by first | (with_reducible assumption) | assumption)
                                    have q241 : (ji36) < (t232.length : Int) := of_decide_eq_true (by first | (with_reducible assumption) | assumption)
                                    obtain ⟨ad241, e241, hx241_0, hx241_1, hx241_2, hx241_3⟩ := at_T36 (Kd.R_reads' HO_9.out).2.2 (ji36) p241 q241
                                    obtain rfl : ad238 = ad241 := (by injection e241)
                                    have hn241_0 : ad238.block ≠ gb239 := by first | exact Kd.own_blk (Kd.R_ne HO_9.out BK239.out (by decide)) | (have h_ := HO_9.out.1 _ rfl; first | exact h_ | exact h_.2 | exact h_.2.2)
                                    have hn241_1 : ad238.block ≠ gb239 := by first | exact Kd.own_blk (Kd.R_ne HO_9.out BK239.out (by decide)) | (have h_ := HO_9.out.1 _ rfl; first | exact h_ | exact h_.2 | exact h_.2.2)
                                    have hn241_2 : ad238.block ≠ gb239 := by first | exact Kd.own_blk (Kd.R_ne HO_9.out BK239.out (by decide)) | (have h_ := HO_9.out.1 _ rfl; first | exact h_ | exact h_.2 | exact h_.2.2)
                                    have hn241_3 : ad238.block ≠ gb239 := by first | exact Kd.own_blk (Kd.R_ne HO_9.out BK239.out (by decide)) | (have h_ := HO_9.out.1 _ rfl; first | exact h_ | exact h_.2 | exact h_.2.2)
                                    replace hx241_0 := (cell_far (p := ⟨gb239, 0, none⟩) (by first | (rw [add_block]; exact hn241_0) | (show (Addr.add _ _).block ≠ _; rw [add_block]; exact hn241_0) | exact hn241_0) (.int .i64 ((rd_T36 t232 x57_2).f0))).trans hx241_0
                                    replace hx241_1 := (cell_far (p := ⟨gb239, 0, none⟩) (by first | (rw [add_block]; exact hn241_0) | (show (Addr.add _ _).block ≠ _; rw [add_block]; exact hn241_0) | exact hn241_0) (.int .i64 ((rd_T36 t232 x57_2).f0))).trans hx241_1
                                    replace hx241_2 := (cell_far (p := ⟨gb239, 0, none⟩) (by first | (rw [add_block]; exact hn241_0) | (show (Addr.add _ _).block ≠ _; rw [add_block]; exact hn241_0) | exact hn241_0) (.int .i64 ((rd_T36 t232 x57_2).f0))).trans hx241_2
                                    replace hx241_3 := (cell_far (p := ⟨gb239, 0, none⟩) (by first | (rw [add_block]; exact hn241_0) | (show (Addr.add _ _).block ≠ _; rw [add_block]; exact hn241_0) | exact hn241_0) (.int .i64 ((rd_T36 t232 x57_2).f0))).trans hx241_3
                                    replace hx241_0 := (cell_far (p := ⟨gb239, 1, none⟩) (by first | (rw [add_block]; exact hn241_1) | (show (Addr.add _ _).block ≠ _; rw [add_block]; exact hn241_1) | exact hn241_1) (.int .i64 ((rd_T36 t232 x57_2).f1))).trans hx241_0
                                    replace hx241_1 := (cell_far (p := ⟨gb239, 1, none⟩) (by first | (rw [add_block]; exact hn241_1) | (show (Addr.add _ _).block ≠ _; rw [add_block]; exact hn241_1) | exact hn241_1) (.int .i64 ((rd_T36 t232 x57_2).f1))).trans hx241_1
                                    replace hx241_2 := (cell_far (p := ⟨gb239, 1, none⟩) (by first | (rw [add_block]; exact hn241_1) | (show (Addr.add _ _).block ≠ _; rw [add_block]; exact hn241_1) | exact hn241_1) (.int .i64 ((rd_T36 t232 x57_2).f1))).trans hx241_2
                                    replace hx241_3 := (cell_far (p := ⟨gb239, 1, none⟩) (by first | (rw [add_block]; exact hn241_1) | (show (Addr.add _ _).block ≠ _; rw [add_block]; exact hn241_1) | exact hn241_1) (.int .i64 ((rd_T36 t232 x57_2).f1))).trans hx241_3
                                    replace hx241_0 := (cell_far (p := ⟨gb239, 2, none⟩) (by first | (rw [add_block]; exact hn241_2) | (show (Addr.add _ _).block ≠ _; rw [add_block]; exact hn241_2) | exact hn241_2) (.int .i64 ((rd_T36 t232 x57_2).f2))).trans hx241_0
                                    replace hx241_1 := (cell_far (p := ⟨gb239, 2, none⟩) (by first | (rw [add_block]; exact hn241_2) | (show (Addr.add _ _).block ≠ _; rw [add_block]; exact hn241_2) | exact hn241_2) (.int .i64 ((rd_T36 t232 x57_2).f2))).trans hx241_1
                                    replace hx241_2 := (cell_far (p := ⟨gb239, 2, none⟩) (by first | (rw [add_block]; exact hn241_2) | (show (Addr.add _ _).block ≠ _; rw [add_block]; exact hn241_2) | exact hn241_2) (.int .i64 ((rd_T36 t232 x57_2).f2))).trans hx241_2
                                    replace hx241_3 := (cell_far (p := ⟨gb239, 2, none⟩) (by first | (rw [add_block]; exact hn241_2) | (show (Addr.add _ _).block ≠ _; rw [add_block]; exact hn241_2) | exact hn241_2) (.int .i64 ((rd_T36 t232 x57_2).f2))).trans hx241_3
                                    replace hx241_0 := (cell_far (p := ⟨gb239, 3, none⟩) (by first | (rw [add_block]; exact hn241_3) | (show (Addr.add _ _).block ≠ _; rw [add_block]; exact hn241_3) | exact hn241_3) (.int .i64 ((rd_T36 t232 x57_2).f3))).trans hx241_0
                                    replace hx241_1 := (cell_far (p := ⟨gb239, 3, none⟩) (by first | (rw [add_block]; exact hn241_3) | (show (Addr.add _ _).block ≠ _; rw [add_block]; exact hn241_3) | exact hn241_3) (.int .i64 ((rd_T36 t232 x57_2).f3))).trans hx241_1
                                    replace hx241_2 := (cell_far (p := ⟨gb239, 3, none⟩) (by first | (rw [add_block]; exact hn241_3) | (show (Addr.add _ _).block ≠ _; rw [add_block]; exact hn241_3) | exact hn241_3) (.int .i64 ((rd_T36 t232 x57_2).f3))).trans hx241_2
                                    replace hx241_3 := (cell_far (p := ⟨gb239, 3, none⟩) (by first | (rw [add_block]; exact hn241_3) | (show (Addr.add _ _).block ≠ _; rw [add_block]; exact hn241_3) | exact hn241_3) (.int .i64 ((rd_T36 t232 x57_2).f3))).trans hx241_3
                                    (try have hy241_0 := fun (n_ : Nat) => (show ((((((w33.drewN n_).setCell ⟨gb239, 0, none⟩ (.int .i64 ((rd_T36 t232 x57_2).f0))).setCell ⟨gb239, 1, none⟩ (.int .i64 ((rd_T36 t232 x57_2).f1))).setCell ⟨gb239, 2, none⟩ (.int .i64 ((rd_T36 t232 x57_2).f2))).setCell ⟨gb239, 3, none⟩ (.int .i64 ((rd_T36 t232 x57_2).f3)))).cell? _ = some _ from hx241_0))
                                    (try have hy241_1 := fun (n_ : Nat) => (show ((((((w33.drewN n_).setCell ⟨gb239, 0, none⟩ (.int .i64 ((rd_T36 t232 x57_2).f0))).setCell ⟨gb239, 1, none⟩ (.int .i64 ((rd_T36 t232 x57_2).f1))).setCell ⟨gb239, 2, none⟩ (.int .i64 ((rd_T36 t232 x57_2).f2))).setCell ⟨gb239, 3, none⟩ (.int .i64 ((rd_T36 t232 x57_2).f3)))).cell? _ = some _ from hx241_1))
                                    (try have hy241_2 := fun (n_ : Nat) => (show ((((((w33.drewN n_).setCell ⟨gb239, 0, none⟩ (.int .i64 ((rd_T36 t232 x57_2).f0))).setCell ⟨gb239, 1, none⟩ (.int .i64 ((rd_T36 t232 x57_2).f1))).setCell ⟨gb239, 2, none⟩ (.int .i64 ((rd_T36 t232 x57_2).f2))).setCell ⟨gb239, 3, none⟩ (.int .i64 ((rd_T36 t232 x57_2).f3)))).cell? _ = some _ from hx241_2))
                                    (try have hy241_3 := fun (n_ : Nat) => (show ((((((w33.drewN n_).setCell ⟨gb239, 0, none⟩ (.int .i64 ((rd_T36 t232 x57_2).f0))).setCell ⟨gb239, 1, none⟩ (.int .i64 ((rd_T36 t232 x57_2).f1))).setCell ⟨gb239, 2, none⟩ (.int .i64 ((rd_T36 t232 x57_2).f2))).setCell ⟨gb239, 3, none⟩ (.int .i64 ((rd_T36 t232 x57_2).f3)))).cell? _ = some _ from hx241_3))
                                    clear hn241_0
                                    clear hn241_1
                                    clear hn241_2
                                    clear hn241_3
                                    replace p241 := eq_true p241
                                    replace q241 := eq_true q241
                                    have p242 : 0 ≤ ((ji36) : Int) := of_decide_eq_true (by first | (with_reducible assumption) | assumption)
                                    have q242 : (ji36) < (t232.length : Int) := of_decide_eq_true (by first | (with_reducible assumption) | assumption)
                                    obtain ⟨ad242, e242, hx242_0, hx242_1, hx242_2, hx242_3⟩ := at_T36 (Kd.R_reads' HO_9.out).2.2 (ji36) p242 q242
                                    obtain rfl : ad238 = ad242 := (by injection e242)
                                    have hn242_0 : ad238.block ≠ gb239 := by first | exact Kd.own_blk (Kd.R_ne HO_9.out BK239.out (by decide)) | (have h_ := HO_9.out.1 _ rfl; first | exact h_ | exact h_.2 | exact h_.2.2)
                                    have hn242_1 : ad238.block ≠ gb239 := by first | exact Kd.own_blk (Kd.R_ne HO_9.out BK239.out (by decide)) | (have h_ := HO_9.out.1 _ rfl; first | exact h_ | exact h_.2 | exact h_.2.2)
                                    have hn242_2 : ad238.block ≠ gb239 := by first | exact Kd.own_blk (Kd.R_ne HO_9.out BK239.out (by decide)) | (have h_ := HO_9.out.1 _ rfl; first | exact h_ | exact h_.2 | exact h_.2.2)
                                    have hn242_3 : ad238.block ≠ gb239 := by first | exact Kd.own_blk (Kd.R_ne HO_9.out BK239.out (by decide)) | (have h_ := HO_9.out.1 _ rfl; first | exact h_ | exact h_.2 | exact h_.2.2)
                                    replace hx242_0 := (cell_far (p := ⟨gb239, 0, none⟩) (by first | (rw [add_block]; exact hn242_0) | (show (Addr.add _ _).block ≠ _; rw [add_block]; exact hn242_0) | exact hn242_0) (.int .i64 ((rd_T36 t232 x57_2).f0))).trans hx242_0
                                    replace hx242_1 := (cell_far (p := ⟨gb239, 0, none⟩) (by first | (rw [add_block]; exact hn242_0) | (show (Addr.add _ _).block ≠ _; rw [add_block]; exact hn242_0) | exact hn242_0) (.int .i64 ((rd_T36 t232 x57_2).f0))).trans hx242_1
                                    replace hx242_2 := (cell_far (p := ⟨gb239, 0, none⟩) (by first | (rw [add_block]; exact hn242_0) | (show (Addr.add _ _).block ≠ _; rw [add_block]; exact hn242_0) | exact hn242_0) (.int .i64 ((rd_T36 t232 x57_2).f0))).trans hx242_2
                                    replace hx242_3 := (cell_far (p := ⟨gb239, 0, none⟩) (by first | (rw [add_block]; exact hn242_0) | (show (Addr.add _ _).block ≠ _; rw [add_block]; exact hn242_0) | exact hn242_0) (.int .i64 ((rd_T36 t232 x57_2).f0))).trans hx242_3
                                    replace hx242_0 := (cell_far (p := ⟨gb239, 1, none⟩) (by first | (rw [add_block]; exact hn242_1) | (show (Addr.add _ _).block ≠ _; rw [add_block]; exact hn242_1) | exact hn242_1) (.int .i64 ((rd_T36 t232 x57_2).f1))).trans hx242_0
                                    replace hx242_1 := (cell_far (p := ⟨gb239, 1, none⟩) (by first | (rw [add_block]; exact hn242_1) | (show (Addr.add _ _).block ≠ _; rw [add_block]; exact hn242_1) | exact hn242_1) (.int .i64 ((rd_T36 t232 x57_2).f1))).trans hx242_1
                                    replace hx242_2 := (cell_far (p := ⟨gb239, 1, none⟩) (by first | (rw [add_block]; exact hn242_1) | (show (Addr.add _ _).block ≠ _; rw [add_block]; exact hn242_1) | exact hn242_1) (.int .i64 ((rd_T36 t232 x57_2).f1))).trans hx242_2
                                    replace hx242_3 := (cell_far (p := ⟨gb239, 1, none⟩) (by first | (rw [add_block]; exact hn242_1) | (show (Addr.add _ _).block ≠ _; rw [add_block]; exact hn242_1) | exact hn242_1) (.int .i64 ((rd_T36 t232 x57_2).f1))).trans hx242_3
                                    replace hx242_0 := (cell_far (p := ⟨gb239, 2, none⟩) (by first | (rw [add_block]; exact hn242_2) | (show (Addr.add _ _).block ≠ _; rw [add_block]; exact hn242_2) | exact hn242_2) (.int .i64 ((rd_T36 t232 x57_2).f2))).trans hx242_0
                                    replace hx242_1 := (cell_far (p := ⟨gb239, 2, none⟩) (by first | (rw [add_block]; exact hn242_2) | (show (Addr.add _ _).block ≠ _; rw [add_block]; exact hn242_2) | exact hn242_2) (.int .i64 ((rd_T36 t232 x57_2).f2))).trans hx242_1
                                    replace hx242_2 := (cell_far (p := ⟨gb239, 2, none⟩) (by first | (rw [add_block]; exact hn242_2) | (show (Addr.add _ _).block ≠ _; rw [add_block]; exact hn242_2) | exact hn242_2) (.int .i64 ((rd_T36 t232 x57_2).f2))).trans hx242_2
                                    replace hx242_3 := (cell_far (p := ⟨gb239, 2, none⟩) (by first | (rw [add_block]; exact hn242_2) | (show (Addr.add _ _).block ≠ _; rw [add_block]; exact hn242_2) | exact hn242_2) (.int .i64 ((rd_T36 t232 x57_2).f2))).trans hx242_3
                                    replace hx242_0 := (cell_far (p := ⟨gb239, 3, none⟩) (by first | (rw [add_block]; exact hn242_3) | (show (Addr.add _ _).block ≠ _; rw [add_block]; exact hn242_3) | exact hn242_3) (.int .i64 ((rd_T36 t232 x57_2).f3))).trans hx242_0
                                    replace hx242_1 := (cell_far (p := ⟨gb239, 3, none⟩) (by first | (rw [add_block]; exact hn242_3) | (show (Addr.add _ _).block ≠ _; rw [add_block]; exact hn242_3) | exact hn242_3) (.int .i64 ((rd_T36 t232 x57_2).f3))).trans hx242_1
                                    replace hx242_2 := (cell_far (p := ⟨gb239, 3, none⟩) (by first | (rw [add_block]; exact hn242_3) | (show (Addr.add _ _).block ≠ _; rw [add_block]; exact hn242_3) | exact hn242_3) (.int .i64 ((rd_T36 t232 x57_2).f3))).trans hx242_2
                                    replace hx242_3 := (cell_far (p := ⟨gb239, 3, none⟩) (by first | (rw [add_block]; exact hn242_3) | (show (Addr.add _ _).block ≠ _; rw [add_block]; exact hn242_3) | exact hn242_3) (.int .i64 ((rd_T36 t232 x57_2).f3))).trans hx242_3
                                    (try have hy242_0 := fun (n_ : Nat) => (show ((((((w33.drewN n_).setCell ⟨gb239, 0, none⟩ (.int .i64 ((rd_T36 t232 x57_2).f0))).setCell ⟨gb239, 1, none⟩ (.int .i64 ((rd_T36 t232 x57_2).f1))).setCell ⟨gb239, 2, none⟩ (.int .i64 ((rd_T36 t232 x57_2).f2))).setCell ⟨gb239, 3, none⟩ (.int .i64 ((rd_T36 t232 x57_2).f3)))).cell? _ = some _ from hx242_0))
                                    (try have hy242_1 := fun (n_ : Nat) => (show ((((((w33.drewN n_).setCell ⟨gb239, 0, none⟩ (.int .i64 ((rd_T36 t232 x57_2).f0))).setCell ⟨gb239, 1, none⟩ (.int .i64 ((rd_T36 t232 x57_2).f1))).setCell ⟨gb239, 2, none⟩ (.int .i64 ((rd_T36 t232 x57_2).f2))).setCell ⟨gb239, 3, none⟩ (.int .i64 ((rd_T36 t232 x57_2).f3)))).cell? _ = some _ from hx242_1))
                                    (try have hy242_2 := fun (n_ : Nat) => (show ((((((w33.drewN n_).setCell ⟨gb239, 0, none⟩ (.int .i64 ((rd_T36 t232 x57_2).f0))).setCell ⟨gb239, 1, none⟩ (.int .i64 ((rd_T36 t232 x57_2).f1))).setCell ⟨gb239, 2, none⟩ (.int .i64 ((rd_T36 t232 x57_2).f2))).setCell ⟨gb239, 3, none⟩ (.int .i64 ((rd_T36 t232 x57_2).f3)))).cell? _ = some _ from hx242_2))
                                    (try have hy242_3 := fun (n_ : Nat) => (show ((((((w33.drewN n_).setCell ⟨gb239, 0, none⟩ (.int .i64 ((rd_T36 t232 x57_2).f0))).setCell ⟨gb239, 1, none⟩ (.int .i64 ((rd_T36 t232 x57_2).f1))).setCell ⟨gb239, 2, none⟩ (.int .i64 ((rd_T36 t232 x57_2).f2))).setCell ⟨gb239, 3, none⟩ (.int .i64 ((rd_T36 t232 x57_2).f3)))).cell? _ = some _ from hx242_3))
                                    clear hn242_0
                                    clear hn242_1
                                    clear hn242_2
                                    clear hn242_3
                                    replace p242 := eq_true p242
                                    replace q242 := eq_true q242
                                    go_wp2
                                    repeat (go_quiet (fail); try go_wp2)
                                    go_meet
                                    case rel => exact ⟨_, (decide (((rd_T36 t232 (ji36)).f1) > ((rd_T36 t232 x57_2).f1))), (by first | rfl | (simp; done) | (simp only [← hji36] <;> (first | rfl | simp)) | (simp [*]; done)), H', ⟨by have := HK1.out; have := HK2.out; first | omega | exact Nat.le_refl _⟩, ⟨by (with_reducible repeat (first | apply Kd.S_alloc | apply Kd.S_drewN | apply Kd.S_drew)); exact Kd.S_mono (Kd.S_far (p := ⟨gb239, 3, none⟩) (Kd.S_far (p := ⟨gb239, 2, none⟩) (Kd.S_far (p := ⟨gb239, 1, none⟩) (Kd.S_far (p := ⟨gb239, 0, none⟩) (Kd.S_mono HO_4.out (fun k_ hk => (⟨hk, hk.2⟩ : _ ∧ k_ ≠ gb239))) (fun _ hk => hk.2) (.int .i64 ((rd_T36 t232 x57_2).f0))) (fun _ hk => hk.2) (.int .i64 ((rd_T36 t232 x57_2).f1))) (fun _ hk => hk.2) (.int .i64 ((rd_T36 t232 x57_2).f2))) (fun _ hk => hk.2) (.int .i64 ((rd_T36 t232 x57_2).f3))) (fun _ hk => ⟨hk.1.1.1, ⟨hk.1.1.2, hk.1.2⟩⟩)⟩, ⟨by (with_reducible repeat (first | apply Kd.R_alloc | apply Kd.R_drewN | apply Kd.R_drew)); exact Kd.R_mono (Kd.R_far (p := ⟨gb239, 3, none⟩) (Kd.R_far (p := ⟨gb239, 2, none⟩) (Kd.R_far (p := ⟨gb239, 1, none⟩) (Kd.R_far (p := ⟨gb239, 0, none⟩) (Kd.R_mono HO_9.out (fun k_ hk => (⟨hk, hk.2⟩ : _ ∧ k_ ≠ gb239))) (fun _ hk => hk.2) (.int .i64 ((rd_T36 t232 x57_2).f0))) (fun _ hk => hk.2) (.int .i64 ((rd_T36 t232 x57_2).f1))) (fun _ hk => hk.2) (.int .i64 ((rd_T36 t232 x57_2).f2))) (fun _ hk => hk.2) (.int .i64 ((rd_T36 t232 x57_2).f3))) (fun _ hk => hk.1.2)⟩, ⟨by (with_reducible repeat (first | apply Kd.R_alloc | apply Kd.R_drewN | apply Kd.R_drew)); exact Kd.R_mono (Kd.R_far (p := ⟨gb239, 3, none⟩) (Kd.R_far (p := ⟨gb239, 2, none⟩) (Kd.R_far (p := ⟨gb239, 1, none⟩) (Kd.R_far (p := ⟨gb239, 0, none⟩) (Kd.R_types HO_10.out BK239.out (by decide)) (fun _ hk => hk.2) (.int .i64 ((rd_T36 t232 x57_2).f0))) (fun _ hk => hk.2) (.int .i64 ((rd_T36 t232 x57_2).f1))) (fun _ hk => hk.2) (.int .i64 ((rd_T36 t232 x57_2).f2))) (fun _ hk => hk.2) (.int .i64 ((rd_T36 t232 x57_2).f3))) (fun _ hk => trivial)⟩, ⟨by (with_reducible repeat (first | apply Kd.R_alloc | apply Kd.R_drewN | apply Kd.R_drew)); exact Kd.R_mono (Kd.R_far (p := ⟨gb239, 3, none⟩) (Kd.R_far (p := ⟨gb239, 2, none⟩) (Kd.R_far (p := ⟨gb239, 1, none⟩) (Kd.R_far (p := ⟨gb239, 0, none⟩) (Kd.R_mono HO_55.out (fun k_ hk => (⟨hk, hk.2⟩ : _ ∧ k_ ≠ gb239))) (fun _ hk => hk.2) (.int .i64 ((rd_T36 t232 x57_2).f0))) (fun _ hk => hk.2) (.int .i64 ((rd_T36 t232 x57_2).f1))) (fun _ hk => hk.2) (.int .i64 ((rd_T36 t232 x57_2).f2))) (fun _ hk => hk.2) (.int .i64 ((rd_T36 t232 x57_2).f3))) (fun _ hk => hk.1.2)⟩, ⟨by (with_reducible repeat (first | refine blk_drewN ?_ _ | refine blk_drew ?_ | refine blk_alloc ?_ _)); refine blk_put (cs := #[.int .i64 ((rd_T36 t232 x57_2).f0), .int .i64 ((rd_T36 t232 x57_2).f1), .int .i64 ((rd_T36 t232 x57_2).f2), .int .i64 0]) ?_ 3 _ rfl; (with_reducible repeat (first | refine blk_drewN ?_ _ | refine blk_drew ?_ | refine blk_alloc ?_ _)); refine blk_put (cs := #[.int .i64 ((rd_T36 t232 x57_2).f0), .int .i64 ((rd_T36 t232 x57_2).f1), .int .i64 0, .int .i64 0]) ?_ 2 _ rfl; (with_reducible repeat (first | refine blk_drewN ?_ _ | refine blk_drew ?_ | refine blk_alloc ?_ _)); refine blk_put (cs := #[.int .i64 ((rd_T36 t232 x57_2).f0), .int .i64 0, .int .i64 0, .int .i64 0]) ?_ 1 _ rfl; (with_reducible repeat (first | refine blk_drewN ?_ _ | refine blk_drew ?_ | refine blk_alloc ?_ _)); refine blk_put (cs := #[.int .i64 0, .int .i64 0, .int .i64 0, .int .i64 0]) ?_ 0 _ rfl; (with_reducible repeat (first | refine blk_drewN ?_ _ | refine blk_drew ?_ | refine blk_alloc ?_ _)); exact BK239.out⟩, ⟨by repeat (first | (with_reducible first | exact HB.out | apply below_alloc | apply pw_below_drewN | apply below_drew1 | refine below_set ?_ GE239.out) | exact HB.out)⟩⟩
                                  · rw [if_neg c41] at H
                                    have c41b0 : (((rd_T36 t232 (ji36)).f0) == ((rd_T36 t232 x57_2).f0)) = false := beq_eq_false_iff_ne.mpr c41
                                    have c41b1 : (((rd_T36 t232 (ji36)).f0) != ((rd_T36 t232 x57_2).f0)) = true := bne_iff_ne.mpr c41
                                    have H' := Aside0.mk H
                                    clear H
                                    have p240 : 0 ≤ ((ji36) : Int) := of_decide_eq_true (by first | (with_reducible assumption) | assumption)
                                    have q240 : (ji36) < (t232.length : Int) := of_decide_eq_true (by first | (with_reducible assumption) | assumption)
                                    obtain ⟨ad240, e240, hx240_0, hx240_1, hx240_2, hx240_3⟩ := at_T36 (Kd.R_reads' HO_9.out).2.2 (ji36) p240 q240
                                    obtain rfl : ad238 = ad240 := (by injection e240)
                                    have hn240_0 : ad238.block ≠ gb239 := by first | exact Kd.own_blk (Kd.R_ne HO_9.out BK239.out (by decide)) | (have h_ := HO_9.out.1 _ rfl; first | exact h_ | exact h_.2 | exact h_.2.2)
                                    have hn240_1 : ad238.block ≠ gb239 := by first | exact Kd.own_blk (Kd.R_ne HO_9.out BK239.out (by decide)) | (have h_ := HO_9.out.1 _ rfl; first | exact h_ | exact h_.2 | exact h_.2.2)
                                    have hn240_2 : ad238.block ≠ gb239 := by first | exact Kd.own_blk (Kd.R_ne HO_9.out BK239.out (by decide)) | (have h_ := HO_9.out.1 _ rfl; first | exact h_ | exact h_.2 | exact h_.2.2)
                                    have hn240_3 : ad238.block ≠ gb239 := by first | exact Kd.own_blk (Kd.R_ne HO_9.out BK239.out (by decide)) | (have h_ := HO_9.out.1 _ rfl; first | exact h_ | exact h_.2 | exact h_.2.2)
                                    replace hx240_0 := (cell_far (p := ⟨gb239, 0, none⟩) (by first | (rw [add_block]; exact hn240_0) | (show (Addr.add _ _).block ≠ _; rw [add_block]; exact hn240_0) | exact hn240_0) (.int .i64 ((rd_T36 t232 x57_2).f0))).trans hx240_0
                                    replace hx240_1 := (cell_far (p := ⟨gb239, 0, none⟩) (by first | (rw [add_block]; exact hn240_0) | (show (Addr.add _ _).block ≠ _; rw [add_block]; exact hn240_0) | exact hn240_0) (.int .i64 ((rd_T36 t232 x57_2).f0))).trans hx240_1
                                    replace hx240_2 := (cell_far (p := ⟨gb239, 0, none⟩) (by first | (rw [add_block]; exact hn240_0) | (show (Addr.add _ _).block ≠ _; rw [add_block]; exact hn240_0) | exact hn240_0) (.int .i64 ((rd_T36 t232 x57_2).f0))).trans hx240_2
                                    replace hx240_3 := (cell_far (p := ⟨gb239, 0, none⟩) (by first | (rw [add_block]; exact hn240_0) | (show (Addr.add _ _).block ≠ _; rw [add_block]; exact hn240_0) | exact hn240_0) (.int .i64 ((rd_T36 t232 x57_2).f0))).trans hx240_3
                                    replace hx240_0 := (cell_far (p := ⟨gb239, 1, none⟩) (by first | (rw [add_block]; exact hn240_1) | (show (Addr.add _ _).block ≠ _; rw [add_block]; exact hn240_1) | exact hn240_1) (.int .i64 ((rd_T36 t232 x57_2).f1))).trans hx240_0
                                    replace hx240_1 := (cell_far (p := ⟨gb239, 1, none⟩) (by first | (rw [add_block]; exact hn240_1) | (show (Addr.add _ _).block ≠ _; rw [add_block]; exact hn240_1) | exact hn240_1) (.int .i64 ((rd_T36 t232 x57_2).f1))).trans hx240_1
                                    replace hx240_2 := (cell_far (p := ⟨gb239, 1, none⟩) (by first | (rw [add_block]; exact hn240_1) | (show (Addr.add _ _).block ≠ _; rw [add_block]; exact hn240_1) | exact hn240_1) (.int .i64 ((rd_T36 t232 x57_2).f1))).trans hx240_2
                                    replace hx240_3 := (cell_far (p := ⟨gb239, 1, none⟩) (by first | (rw [add_block]; exact hn240_1) | (show (Addr.add _ _).block ≠ _; rw [add_block]; exact hn240_1) | exact hn240_1) (.int .i64 ((rd_T36 t232 x57_2).f1))).trans hx240_3
                                    replace hx240_0 := (cell_far (p := ⟨gb239, 2, none⟩) (by first | (rw [add_block]; exact hn240_2) | (show (Addr.add _ _).block ≠ _; rw [add_block]; exact hn240_2) | exact hn240_2) (.int .i64 ((rd_T36 t232 x57_2).f2))).trans hx240_0
                                    replace hx240_1 := (cell_far (p := ⟨gb239, 2, none⟩) (by first | (rw [add_block]; exact hn240_2) | (show (Addr.add _ _).block ≠ _; rw [add_block]; exact hn240_2) | exact hn240_2) (.int .i64 ((rd_T36 t232 x57_2).f2))).trans hx240_1
                                    replace hx240_2 := (cell_far (p := ⟨gb239, 2, none⟩) (by first | (rw [add_block]; exact hn240_2) | (show (Addr.add _ _).block ≠ _; rw [add_block]; exact hn240_2) | exact hn240_2) (.int .i64 ((rd_T36 t232 x57_2).f2))).trans hx240_2
                                    replace hx240_3 := (cell_far (p := ⟨gb239, 2, none⟩) (by first | (rw [add_block]; exact hn240_2) | (show (Addr.add _ _).block ≠ _; rw [add_block]; exact hn240_2) | exact hn240_2) (.int .i64 ((rd_T36 t232 x57_2).f2))).trans hx240_3
                                    replace hx240_0 := (cell_far (p := ⟨gb239, 3, none⟩) (by first | (rw [add_block]; exact hn240_3) | (show (Addr.add _ _).block ≠ _; rw [add_block]; exact hn240_3) | exact hn240_3) (.int .i64 ((rd_T36 t232 x57_2).f3))).trans hx240_0
                                    replace hx240_1 := (cell_far (p := ⟨gb239, 3, none⟩) (by first | (rw [add_block]; exact hn240_3) | (show (Addr.add _ _).block ≠ _; rw [add_block]; exact hn240_3) | exact hn240_3) (.int .i64 ((rd_T36 t232 x57_2).f3))).trans hx240_1
                                    replace hx240_2 := (cell_far (p := ⟨gb239, 3, none⟩) (by first | (rw [add_block]; exact hn240_3) | (show (Addr.add _ _).block ≠ _; rw [add_block]; exact hn240_3) | exact hn240_3) (.int .i64 ((rd_T36 t232 x57_2).f3))).trans hx240_2
                                    replace hx240_3 := (cell_far (p := ⟨gb239, 3, none⟩) (by first | (rw [add_block]; exact hn240_3) | (show (Addr.add _ _).block ≠ _; rw [add_block]; exact hn240_3) | exact hn240_3) (.int .i64 ((rd_T36 t232 x57_2).f3))).trans hx240_3
                                    (try have hy240_0 := fun (n_ : Nat) => (show ((((((w33.drewN n_).setCell ⟨gb239, 0, none⟩ (.int .i64 ((rd_T36 t232 x57_2).f0))).setCell ⟨gb239, 1, none⟩ (.int .i64 ((rd_T36 t232 x57_2).f1))).setCell ⟨gb239, 2, none⟩ (.int .i64 ((rd_T36 t232 x57_2).f2))).setCell ⟨gb239, 3, none⟩ (.int .i64 ((rd_T36 t232 x57_2).f3)))).cell? _ = some _ from hx240_0))
                                    (try have hy240_1 := fun (n_ : Nat) => (show ((((((w33.drewN n_).setCell ⟨gb239, 0, none⟩ (.int .i64 ((rd_T36 t232 x57_2).f0))).setCell ⟨gb239, 1, none⟩ (.int .i64 ((rd_T36 t232 x57_2).f1))).setCell ⟨gb239, 2, none⟩ (.int .i64 ((rd_T36 t232 x57_2).f2))).setCell ⟨gb239, 3, none⟩ (.int .i64 ((rd_T36 t232 x57_2).f3)))).cell? _ = some _ from hx240_1))
                                    (try have hy240_2 := fun (n_ : Nat) => (show ((((((w33.drewN n_).setCell ⟨gb239, 0, none⟩ (.int .i64 ((rd_T36 t232 x57_2).f0))).setCell ⟨gb239, 1, none⟩ (.int .i64 ((rd_T36 t232 x57_2).f1))).setCell ⟨gb239, 2, none⟩ (.int .i64 ((rd_T36 t232 x57_2).f2))).setCell ⟨gb239, 3, none⟩ (.int .i64 ((rd_T36 t232 x57_2).f3)))).cell? _ = some _ from hx240_2))
                                    (try have hy240_3 := fun (n_ : Nat) => (show ((((((w33.drewN n_).setCell ⟨gb239, 0, none⟩ (.int .i64 ((rd_T36 t232 x57_2).f0))).setCell ⟨gb239, 1, none⟩ (.int .i64 ((rd_T36 t232 x57_2).f1))).setCell ⟨gb239, 2, none⟩ (.int .i64 ((rd_T36 t232 x57_2).f2))).setCell ⟨gb239, 3, none⟩ (.int .i64 ((rd_T36 t232 x57_2).f3)))).cell? _ = some _ from hx240_3))
                                    clear hn240_0
                                    clear hn240_1
                                    clear hn240_2
                                    clear hn240_3
                                    replace p240 := eq_true p240
                                    replace q240 := eq_true q240
                                    have hcz43_0 : w33.cell? ⟨gb239, 0, none⟩ = some (.int .i64 0) := (blk_cell BK239.out 0).trans rfl
                                    have hcz43_1 : w33.cell? ⟨gb239, 1, none⟩ = some (.int .i64 0) := (blk_cell BK239.out 1).trans rfl
                                    have hcz43_2 : w33.cell? ⟨gb239, 2, none⟩ = some (.int .i64 0) := (blk_cell BK239.out 2).trans rfl
                                    have hcz43_3 : w33.cell? ⟨gb239, 3, none⟩ = some (.int .i64 0) := (blk_cell BK239.out 3).trans rfl
                                    have hfz43_0 := blk_frozen BK239.out 0
                                    have hfz43_1 := blk_frozen BK239.out 1
                                    have hfz43_2 := blk_frozen BK239.out 2
                                    have hfz43_3 := blk_frozen BK239.out 3
                                    have p241 : 0 ≤ ((ji36) : Int) := of_decide_eq_true (by first | (with_reducible assumption) | assumption)
                                    have q241 : (ji36) < (t232.length : Int) := of_decide_eq_true (by first | (with_reducible assumption) | assumption)
                                    obtain ⟨ad241, e241, hx241_0, hx241_1, hx241_2, hx241_3⟩ := at_T36 (Kd.R_reads' HO_9.out).2.2 (ji36) p241 q241
                                    obtain rfl : ad238 = ad241 := (by injection e241)
                                    have hn241_0 : ad238.block ≠ gb239 := by first | exact Kd.own_blk (Kd.R_ne HO_9.out BK239.out (by decide)) | (have h_ := HO_9.out.1 _ rfl; first | exact h_ | exact h_.2 | exact h_.2.2)
                                    have hn241_1 : ad238.block ≠ gb239 := by first | exact Kd.own_blk (Kd.R_ne HO_9.out BK239.out (by decide)) | (have h_ := HO_9.out.1 _ rfl; first | exact h_ | exact h_.2 | exact h_.2.2)
                                    have hn241_2 : ad238.block ≠ gb239 := by first | exact Kd.own_blk (Kd.R_ne HO_9.out BK239.out (by decide)) | (have h_ := HO_9.out.1 _ rfl; first | exact h_ | exact h_.2 | exact h_.2.2)
                                    have hn241_3 : ad238.block ≠ gb239 := by first | exact Kd.own_blk (Kd.R_ne HO_9.out BK239.out (by decide)) | (have h_ := HO_9.out.1 _ rfl; first | exact h_ | exact h_.2 | exact h_.2.2)
                                    replace hx241_0 := (cell_far (p := ⟨gb239, 0, none⟩) (by first | (rw [add_block]; exact hn241_0) | (show (Addr.add _ _).block ≠ _; rw [add_block]; exact hn241_0) | exact hn241_0) (.int .i64 ((rd_T36 t232 x57_2).f0))).trans hx241_0
                                    replace hx241_1 := (cell_far (p := ⟨gb239, 0, none⟩) (by first | (rw [add_block]; exact hn241_0) | (show (Addr.add _ _).block ≠ _; rw [add_block]; exact hn241_0) | exact hn241_0) (.int .i64 ((rd_T36 t232 x57_2).f0))).trans hx241_1
                                    replace hx241_2 := (cell_far (p := ⟨gb239, 0, none⟩) (by first | (rw [add_block]; exact hn241_0) | (show (Addr.add _ _).block ≠ _; rw [add_block]; exact hn241_0) | exact hn241_0) (.int .i64 ((rd_T36 t232 x57_2).f0))).trans hx241_2
                                    replace hx241_3 := (cell_far (p := ⟨gb239, 0, none⟩) (by first | (rw [add_block]; exact hn241_0) | (show (Addr.add _ _).block ≠ _; rw [add_block]; exact hn241_0) | exact hn241_0) (.int .i64 ((rd_T36 t232 x57_2).f0))).trans hx241_3
                                    replace hx241_0 := (cell_far (p := ⟨gb239, 1, none⟩) (by first | (rw [add_block]; exact hn241_1) | (show (Addr.add _ _).block ≠ _; rw [add_block]; exact hn241_1) | exact hn241_1) (.int .i64 ((rd_T36 t232 x57_2).f1))).trans hx241_0
                                    replace hx241_1 := (cell_far (p := ⟨gb239, 1, none⟩) (by first | (rw [add_block]; exact hn241_1) | (show (Addr.add _ _).block ≠ _; rw [add_block]; exact hn241_1) | exact hn241_1) (.int .i64 ((rd_T36 t232 x57_2).f1))).trans hx241_1
                                    replace hx241_2 := (cell_far (p := ⟨gb239, 1, none⟩) (by first | (rw [add_block]; exact hn241_1) | (show (Addr.add _ _).block ≠ _; rw [add_block]; exact hn241_1) | exact hn241_1) (.int .i64 ((rd_T36 t232 x57_2).f1))).trans hx241_2
                                    replace hx241_3 := (cell_far (p := ⟨gb239, 1, none⟩) (by first | (rw [add_block]; exact hn241_1) | (show (Addr.add _ _).block ≠ _; rw [add_block]; exact hn241_1) | exact hn241_1) (.int .i64 ((rd_T36 t232 x57_2).f1))).trans hx241_3
                                    replace hx241_0 := (cell_far (p := ⟨gb239, 2, none⟩) (by first | (rw [add_block]; exact hn241_2) | (show (Addr.add _ _).block ≠ _; rw [add_block]; exact hn241_2) | exact hn241_2) (.int .i64 ((rd_T36 t232 x57_2).f2))).trans hx241_0
                                    replace hx241_1 := (cell_far (p := ⟨gb239, 2, none⟩) (by first | (rw [add_block]; exact hn241_2) | (show (Addr.add _ _).block ≠ _; rw [add_block]; exact hn241_2) | exact hn241_2) (.int .i64 ((rd_T36 t232 x57_2).f2))).trans hx241_1
                                    replace hx241_2 := (cell_far (p := ⟨gb239, 2, none⟩) (by first | (rw [add_block]; exact hn241_2) | (show (Addr.add _ _).block ≠ _; rw [add_block]; exact hn241_2) | exact hn241_2) (.int .i64 ((rd_T36 t232 x57_2).f2))).trans hx241_2
                                    replace hx241_3 := (cell_far (p := ⟨gb239, 2, none⟩) (by first | (rw [add_block]; exact hn241_2) | (show (Addr.add _ _).block ≠ _; rw [add_block]; exact hn241_2) | exact hn241_2) (.int .i64 ((rd_T36 t232 x57_2).f2))).trans hx241_3
                                    replace hx241_0 := (cell_far (p := ⟨gb239, 3, none⟩) (by first | (rw [add_block]; exact hn241_3) | (show (Addr.add _ _).block ≠ _; rw [add_block]; exact hn241_3) | exact hn241_3) (.int .i64 ((rd_T36 t232 x57_2).f3))).trans hx241_0
                                    replace hx241_1 := (cell_far (p := ⟨gb239, 3, none⟩) (by first | (rw [add_block]; exact hn241_3) | (show (Addr.add _ _).block ≠ _; rw [add_block]; exact hn241_3) | exact hn241_3) (.int .i64 ((rd_T36 t232 x57_2).f3))).trans hx241_1
                                    replace hx241_2 := (cell_far (p := ⟨gb239, 3, none⟩) (by first | (rw [add_block]; exact hn241_3) | (show (Addr.add _ _).block ≠ _; rw [add_block]; exact hn241_3) | exact hn241_3) (.int .i64 ((rd_T36 t232 x57_2).f3))).trans hx241_2
                                    replace hx241_3 := (cell_far (p := ⟨gb239, 3, none⟩) (by first | (rw [add_block]; exact hn241_3) | (show (Addr.add _ _).block ≠ _; rw [add_block]; exact hn241_3) | exact hn241_3) (.int .i64 ((rd_T36 t232 x57_2).f3))).trans hx241_3
                                    (try have hy241_0 := fun (n_ : Nat) => (show ((((((w33.drewN n_).setCell ⟨gb239, 0, none⟩ (.int .i64 ((rd_T36 t232 x57_2).f0))).setCell ⟨gb239, 1, none⟩ (.int .i64 ((rd_T36 t232 x57_2).f1))).setCell ⟨gb239, 2, none⟩ (.int .i64 ((rd_T36 t232 x57_2).f2))).setCell ⟨gb239, 3, none⟩ (.int .i64 ((rd_T36 t232 x57_2).f3)))).cell? _ = some _ from hx241_0))
                                    (try have hy241_1 := fun (n_ : Nat) => (show ((((((w33.drewN n_).setCell ⟨gb239, 0, none⟩ (.int .i64 ((rd_T36 t232 x57_2).f0))).setCell ⟨gb239, 1, none⟩ (.int .i64 ((rd_T36 t232 x57_2).f1))).setCell ⟨gb239, 2, none⟩ (.int .i64 ((rd_T36 t232 x57_2).f2))).setCell ⟨gb239, 3, none⟩ (.int .i64 ((rd_T36 t232 x57_2).f3)))).cell? _ = some _ from hx241_1))
                                    (try have hy241_2 := fun (n_ : Nat) => (show ((((((w33.drewN n_).setCell ⟨gb239, 0, none⟩ (.int .i64 ((rd_T36 t232 x57_2).f0))).setCell ⟨gb239, 1, none⟩ (.int .i64 ((rd_T36 t232 x57_2).f1))).setCell ⟨gb239, 2, none⟩ (.int .i64 ((rd_T36 t232 x57_2).f2))).setCell ⟨gb239, 3, none⟩ (.int .i64 ((rd_T36 t232 x57_2).f3)))).cell? _ = some _ from hx241_2))
                                    (try have hy241_3 := fun (n_ : Nat) => (show ((((((w33.drewN n_).setCell ⟨gb239, 0, none⟩ (.int .i64 ((rd_T36 t232 x57_2).f0))).setCell ⟨gb239, 1, none⟩ (.int .i64 ((rd_T36 t232 x57_2).f1))).setCell ⟨gb239, 2, none⟩ (.int .i64 ((rd_T36 t232 x57_2).f2))).setCell ⟨gb239, 3, none⟩ (.int .i64 ((rd_T36 t232 x57_2).f3)))).cell? _ = some _ from hx241_3))
                                    clear hn241_0
                                    clear hn241_1
                                    clear hn241_2
                                    clear hn241_3
                                    replace p241 := eq_true p241
                                    replace q241 := eq_true q241
                                    go_wp2
                                    repeat (go_quiet (fail); try go_wp2)
                                    go_meet
                                    case rel => exact ⟨_, (false), (by first | rfl | (simp; done) | (simp [*]; done)), H', ⟨by have := HK1.out; have := HK2.out; first | omega | exact Nat.le_refl _⟩, ⟨by (with_reducible repeat (first | apply Kd.S_alloc | apply Kd.S_drewN | apply Kd.S_drew)); exact Kd.S_mono (Kd.S_far (p := ⟨gb239, 3, none⟩) (Kd.S_far (p := ⟨gb239, 2, none⟩) (Kd.S_far (p := ⟨gb239, 1, none⟩) (Kd.S_far (p := ⟨gb239, 0, none⟩) (Kd.S_mono HO_4.out (fun k_ hk => (⟨hk, hk.2⟩ : _ ∧ k_ ≠ gb239))) (fun _ hk => hk.2) (.int .i64 ((rd_T36 t232 x57_2).f0))) (fun _ hk => hk.2) (.int .i64 ((rd_T36 t232 x57_2).f1))) (fun _ hk => hk.2) (.int .i64 ((rd_T36 t232 x57_2).f2))) (fun _ hk => hk.2) (.int .i64 ((rd_T36 t232 x57_2).f3))) (fun _ hk => ⟨hk.1.1.1, ⟨hk.1.1.2, hk.1.2⟩⟩)⟩, ⟨by (with_reducible repeat (first | apply Kd.R_alloc | apply Kd.R_drewN | apply Kd.R_drew)); exact Kd.R_mono (Kd.R_far (p := ⟨gb239, 3, none⟩) (Kd.R_far (p := ⟨gb239, 2, none⟩) (Kd.R_far (p := ⟨gb239, 1, none⟩) (Kd.R_far (p := ⟨gb239, 0, none⟩) (Kd.R_mono HO_9.out (fun k_ hk => (⟨hk, hk.2⟩ : _ ∧ k_ ≠ gb239))) (fun _ hk => hk.2) (.int .i64 ((rd_T36 t232 x57_2).f0))) (fun _ hk => hk.2) (.int .i64 ((rd_T36 t232 x57_2).f1))) (fun _ hk => hk.2) (.int .i64 ((rd_T36 t232 x57_2).f2))) (fun _ hk => hk.2) (.int .i64 ((rd_T36 t232 x57_2).f3))) (fun _ hk => hk.1.2)⟩, ⟨by (with_reducible repeat (first | apply Kd.R_alloc | apply Kd.R_drewN | apply Kd.R_drew)); exact Kd.R_mono (Kd.R_far (p := ⟨gb239, 3, none⟩) (Kd.R_far (p := ⟨gb239, 2, none⟩) (Kd.R_far (p := ⟨gb239, 1, none⟩) (Kd.R_far (p := ⟨gb239, 0, none⟩) (Kd.R_types HO_10.out BK239.out (by decide)) (fun _ hk => hk.2) (.int .i64 ((rd_T36 t232 x57_2).f0))) (fun _ hk => hk.2) (.int .i64 ((rd_T36 t232 x57_2).f1))) (fun _ hk => hk.2) (.int .i64 ((rd_T36 t232 x57_2).f2))) (fun _ hk => hk.2) (.int .i64 ((rd_T36 t232 x57_2).f3))) (fun _ hk => trivial)⟩, ⟨by (with_reducible repeat (first | apply Kd.R_alloc | apply Kd.R_drewN | apply Kd.R_drew)); exact Kd.R_mono (Kd.R_far (p := ⟨gb239, 3, none⟩) (Kd.R_far (p := ⟨gb239, 2, none⟩) (Kd.R_far (p := ⟨gb239, 1, none⟩) (Kd.R_far (p := ⟨gb239, 0, none⟩) (Kd.R_mono HO_55.out (fun k_ hk => (⟨hk, hk.2⟩ : _ ∧ k_ ≠ gb239))) (fun _ hk => hk.2) (.int .i64 ((rd_T36 t232 x57_2).f0))) (fun _ hk => hk.2) (.int .i64 ((rd_T36 t232 x57_2).f1))) (fun _ hk => hk.2) (.int .i64 ((rd_T36 t232 x57_2).f2))) (fun _ hk => hk.2) (.int .i64 ((rd_T36 t232 x57_2).f3))) (fun _ hk => hk.1.2)⟩, ⟨by (with_reducible repeat (first | refine blk_drewN ?_ _ | refine blk_drew ?_ | refine blk_alloc ?_ _)); refine blk_put (cs := #[.int .i64 ((rd_T36 t232 x57_2).f0), .int .i64 ((rd_T36 t232 x57_2).f1), .int .i64 ((rd_T36 t232 x57_2).f2), .int .i64 0]) ?_ 3 _ rfl; (with_reducible repeat (first | refine blk_drewN ?_ _ | refine blk_drew ?_ | refine blk_alloc ?_ _)); refine blk_put (cs := #[.int .i64 ((rd_T36 t232 x57_2).f0), .int .i64 ((rd_T36 t232 x57_2).f1), .int .i64 0, .int .i64 0]) ?_ 2 _ rfl; (with_reducible repeat (first | refine blk_drewN ?_ _ | refine blk_drew ?_ | refine blk_alloc ?_ _)); refine blk_put (cs := #[.int .i64 ((rd_T36 t232 x57_2).f0), .int .i64 0, .int .i64 0, .int .i64 0]) ?_ 1 _ rfl; (with_reducible repeat (first | refine blk_drewN ?_ _ | refine blk_drew ?_ | refine blk_alloc ?_ _)); refine blk_put (cs := #[.int .i64 0, .int .i64 0, .int .i64 0, .int .i64 0]) ?_ 0 _ rfl; (with_reducible repeat (first | refine blk_drewN ?_ _ | refine blk_drew ?_ | refine blk_alloc ?_ _)); exact BK239.out⟩, ⟨by repeat (first | (with_reducible first | exact HB.out | apply below_alloc | apply pw_below_drewN | apply below_drew1 | refine below_set ?_ GE239.out) | exact HB.out)⟩⟩
                              · rw [if_neg c38] at H
                                exact absurd H (by simp)
                            · rw [if_neg c37] at H
                              exact absurd H (by simp)
                          · rw [if_neg c35] at H
                            have c35b0 : decide (0 < x57_2) = false := decide_eq_false c35
                            clear c35
                            (first | rw [c35b0] | (simp only [i64_w, i32_w]; rw [c35b0]) | skip)
                            have H' := Aside0.mk H
                            clear H
                            go_wp2
                            repeat (go_quiet (fail); try go_wp2)
                            go_meet
                            case rel => exact ⟨_, (false), (by first | rfl | (simp; done) | (simp [*]; done)), H', ⟨by have := HK1.out; have := HK2.out; first | omega | exact Nat.le_refl _⟩, ⟨by (with_reducible repeat (first | apply Kd.S_alloc | apply Kd.S_drewN | apply Kd.S_drew)); exact Kd.S_mono (Kd.S_far (p := ⟨gb239, 3, none⟩) (Kd.S_far (p := ⟨gb239, 2, none⟩) (Kd.S_far (p := ⟨gb239, 1, none⟩) (Kd.S_far (p := ⟨gb239, 0, none⟩) (Kd.S_mono HO_4.out (fun k_ hk => (⟨hk, hk.2⟩ : _ ∧ k_ ≠ gb239))) (fun _ hk => hk.2) (.int .i64 ((rd_T36 t232 x57_2).f0))) (fun _ hk => hk.2) (.int .i64 ((rd_T36 t232 x57_2).f1))) (fun _ hk => hk.2) (.int .i64 ((rd_T36 t232 x57_2).f2))) (fun _ hk => hk.2) (.int .i64 ((rd_T36 t232 x57_2).f3))) (fun _ hk => ⟨hk.1.1.1, ⟨hk.1.1.2, hk.1.2⟩⟩)⟩, ⟨by (with_reducible repeat (first | apply Kd.R_alloc | apply Kd.R_drewN | apply Kd.R_drew)); exact Kd.R_mono (Kd.R_far (p := ⟨gb239, 3, none⟩) (Kd.R_far (p := ⟨gb239, 2, none⟩) (Kd.R_far (p := ⟨gb239, 1, none⟩) (Kd.R_far (p := ⟨gb239, 0, none⟩) (Kd.R_mono HO_9.out (fun k_ hk => (⟨hk, hk.2⟩ : _ ∧ k_ ≠ gb239))) (fun _ hk => hk.2) (.int .i64 ((rd_T36 t232 x57_2).f0))) (fun _ hk => hk.2) (.int .i64 ((rd_T36 t232 x57_2).f1))) (fun _ hk => hk.2) (.int .i64 ((rd_T36 t232 x57_2).f2))) (fun _ hk => hk.2) (.int .i64 ((rd_T36 t232 x57_2).f3))) (fun _ hk => hk.1.2)⟩, ⟨by (with_reducible repeat (first | apply Kd.R_alloc | apply Kd.R_drewN | apply Kd.R_drew)); exact Kd.R_mono (Kd.R_far (p := ⟨gb239, 3, none⟩) (Kd.R_far (p := ⟨gb239, 2, none⟩) (Kd.R_far (p := ⟨gb239, 1, none⟩) (Kd.R_far (p := ⟨gb239, 0, none⟩) (Kd.R_types HO_10.out BK239.out (by decide)) (fun _ hk => hk.2) (.int .i64 ((rd_T36 t232 x57_2).f0))) (fun _ hk => hk.2) (.int .i64 ((rd_T36 t232 x57_2).f1))) (fun _ hk => hk.2) (.int .i64 ((rd_T36 t232 x57_2).f2))) (fun _ hk => hk.2) (.int .i64 ((rd_T36 t232 x57_2).f3))) (fun _ hk => trivial)⟩, ⟨by (with_reducible repeat (first | apply Kd.R_alloc | apply Kd.R_drewN | apply Kd.R_drew)); exact Kd.R_mono (Kd.R_far (p := ⟨gb239, 3, none⟩) (Kd.R_far (p := ⟨gb239, 2, none⟩) (Kd.R_far (p := ⟨gb239, 1, none⟩) (Kd.R_far (p := ⟨gb239, 0, none⟩) (Kd.R_mono HO_55.out (fun k_ hk => (⟨hk, hk.2⟩ : _ ∧ k_ ≠ gb239))) (fun _ hk => hk.2) (.int .i64 ((rd_T36 t232 x57_2).f0))) (fun _ hk => hk.2) (.int .i64 ((rd_T36 t232 x57_2).f1))) (fun _ hk => hk.2) (.int .i64 ((rd_T36 t232 x57_2).f2))) (fun _ hk => hk.2) (.int .i64 ((rd_T36 t232 x57_2).f3))) (fun _ hk => hk.1.2)⟩, ⟨by (with_reducible repeat (first | refine blk_drewN ?_ _ | refine blk_drew ?_ | refine blk_alloc ?_ _)); refine blk_put (cs := #[.int .i64 ((rd_T36 t232 x57_2).f0), .int .i64 ((rd_T36 t232 x57_2).f1), .int .i64 ((rd_T36 t232 x57_2).f2), .int .i64 0]) ?_ 3 _ rfl; (with_reducible repeat (first | refine blk_drewN ?_ _ | refine blk_drew ?_ | refine blk_alloc ?_ _)); refine blk_put (cs := #[.int .i64 ((rd_T36 t232 x57_2).f0), .int .i64 ((rd_T36 t232 x57_2).f1), .int .i64 0, .int .i64 0]) ?_ 2 _ rfl; (with_reducible repeat (first | refine blk_drewN ?_ _ | refine blk_drew ?_ | refine blk_alloc ?_ _)); refine blk_put (cs := #[.int .i64 ((rd_T36 t232 x57_2).f0), .int .i64 0, .int .i64 0, .int .i64 0]) ?_ 1 _ rfl; (with_reducible repeat (first | refine blk_drewN ?_ _ | refine blk_drew ?_ | refine blk_alloc ?_ _)); refine blk_put (cs := #[.int .i64 0, .int .i64 0, .int .i64 0, .int .i64 0]) ?_ 0 _ rfl; (with_reducible repeat (first | refine blk_drewN ?_ _ | refine blk_drew ?_ | refine blk_alloc ?_ _)); exact BK239.out⟩, ⟨by repeat (first | (with_reducible first | exact HB.out | apply below_alloc | apply pw_below_drewN | apply below_drew1 | refine below_set ?_ GE239.out) | exact HB.out)⟩⟩
                        case rest =>
                          clear HC32
                          try clear c1
                          try clear c2
                          try clear p2
                          try clear q2
                          try clear hx2
                          try clear c3
                          try clear c4
                          try clear p6
                          try clear c7
                          try clear c9
                          try clear c9b0
                          try clear c13
                          try clear c13b0
                          try clear c13b1
                          try clear c14
                          try clear c22
                          try clear c22b0
                          try clear c22b1
                          try clear c23
                          try clear c23b0
                          try clear c23b1
                          try clear p23
                          try clear q23
                          try clear hx23
                          try clear p24
                          try clear q24
                          try clear hx24
                          try clear c29
                          try clear c29b0
                          try clear c30
                          try clear c30b0
                          try clear c31
                          try clear c31b0
                          try clear c35
                          try clear c35b0
                          try clear c37
                          try clear c37b0
                          try clear c38
                          try clear c38b0
                          try clear c39
                          try clear c39b0
                          try clear c41
                          try clear c41b0
                          try clear c41b1
                          try clear hcz34_0
                          try clear hcz34_1
                          try clear hcz34_2
                          try clear hcz34_3
                          try clear hcz40_0
                          try clear hcz40_1
                          try clear hcz40_2
                          try clear hcz40_3
                          try clear hcz42_0
                          try clear hcz42_1
                          try clear hcz42_2
                          try clear hcz42_3
                          try clear hcz43_0
                          try clear hcz43_1
                          try clear hcz43_2
                          try clear hcz43_3
                          try clear hfz34_0
                          try clear hfz34_1
                          try clear hfz34_2
                          try clear hfz34_3
                          try clear hfz40_0
                          try clear hfz40_1
                          try clear hfz40_2
                          try clear hfz40_3
                          try clear hfz42_0
                          try clear hfz42_1
                          try clear hfz42_2
                          try clear hfz42_3
                          try clear hfz43_0
                          try clear hfz43_1
                          try clear hfz43_2
                          try clear hfz43_3
                          try clear hx238_0
                          try clear hx238_1
                          try clear hx238_2
                          try clear hx238_3
                          try clear hx240_0
                          try clear hx240_1
                          try clear hx240_2
                          try clear hx240_3
                          try clear hx241_0
                          try clear hx241_1
                          try clear hx241_2
                          try clear hx241_3
                          try clear hx242_0
                          try clear hx242_1
                          try clear hx242_2
                          try clear hx242_3
                          try clear p2
                          try clear p238
                          try clear p240
                          try clear p241
                          try clear p242
                          try clear p6
                          try clear q238
                          try clear q240
                          try clear q241
                          try clear q242
                          obtain ⟨kq, x96_31, rfl, HA, HJ31, HO_4, HO_9, HO_10, HO_55, BK239, HB⟩ := hcut
                          cases kq with
                          | zero => exact absurd HA.out (by simp [storagebarterlaw28_DutyAll.j2])
                          | succ kj31 =>
                            have H := HA.out
                            clear HA
                            simp only [storagebarterlaw28_DutyAll.j2] at H
                            by_cases c44 : x96_31 = true
                            · subst c44
                              have H1 : (some false) = some r := by rw [if_pos rfl] at H; exact H
                              clear H
                              have H := H1
                              clear H1
                              exact absurd (Option.some.inj H) (by rw [HRT_.out]; decide)
                            · replace c44 := Bool.eq_false_iff.mpr c44
                              subst c44
                              have H1 : (storagebarterlaw28_DutyAll.l2 kj31 x4_1 x5_1 t232 x10_2 (-1) t232 (t232.length : Int) x57_2 x4_1 (x4_1.length : Int) 0 ((rd_T36 t232 x57_2).f0) ((rd_T36 t232 x57_2).f1) ((rd_T36 t232 x57_2).f2) ((rd_T36 t232 x57_2).f3)) = some r := by rw [if_neg (show ¬ (false = true) by decide)] at H; exact H
                              clear H
                              have H := H1
                              clear H1
                              have H' := Aside0.mk H
                              clear H
                              go_wp2
                              repeat (go_quiet (fail); try go_wp2)
                              go_loopg [13, 99] kj31 (fun kq v13 v99 w' => ∃ (x13_4 : Int) (x99_4 : Int), v13 = .int .i64 x13_4 ∧ v99 = .int .i64 x99_4 ∧ Aside0 (storagebarterlaw28_DutyAll.l2 kq x4_1 x5_1 t232 x10_2 x13_4 t232 (t232.length : Int) x57_2 x4_1 (x4_1.length : Int) x99_4 ((rd_T36 t232 x57_2).f0) ((rd_T36 t232 x57_2).f1) ((rd_T36 t232 x57_2).f2) ((rd_T36 t232 x57_2).f3) = some r) ∧ Aside0 (kq ≤ kj31) ∧ Aside0 (Kd.S (Kd.slice 36 k36) 30 w' w.heap.size (fun k_ => some k_ ≠ ((.slice (some ad238) t232.length co26) : Value).ownBlock ∧ some k_ ≠ ((.slice (some ad238) t232.length co26) : Value).ownBlock ∧ k_ ≠ gb239) (.slice Ao24 x4_1.length co24) x4_1) ∧ Aside0 (Kd.R k36 36 w' w.heap.size (fun k_ => k_ ≠ gb239) (.slice (some ad238) t232.length co26) t232) ∧ Aside0 (Kd.R (Kd.int .i64) 3 w' w.heap.size (fun _ => True) v236 x10_2) ∧ Aside0 (Kd.R k36 36 w' w.heap.size (fun k_ => k_ ≠ gb239) (.slice (some ad238) t232.length co26) t232) ∧ Aside0 (Kd.S (Kd.slice 36 k36) 30 w' w.heap.size (fun k_ => some k_ ≠ ((.slice (some ad238) t232.length co26) : Value).ownBlock ∧ some k_ ≠ ((.slice (some ad238) t232.length co26) : Value).ownBlock ∧ k_ ≠ gb239) (.slice Ao24 x4_1.length co24) x4_1) ∧ Aside0 (w'.heap[gb239]? = some (.cells #[.int .i64 ((rd_T36 t232 x57_2).f0), .int .i64 ((rd_T36 t232 x57_2).f1), .int .i64 ((rd_T36 t232 x57_2).f2), .int .i64 ((rd_T36 t232 x57_2).f3)] 36 (0, 0))) ∧ Aside0 (Below w.heap.size w w'))
                              case atStart => exact ⟨((-1)), (0), (by first | rfl | (simp; done) | (simp [*]; done)), (by first | rfl | (simp; done) | (simp [*]; done)), H', ⟨Nat.le_refl _⟩, ⟨by (with_reducible repeat (first | apply Kd.S_alloc | apply Kd.S_drewN | apply Kd.S_drew)); exact HO_4.out⟩, ⟨by (with_reducible repeat (first | apply Kd.R_alloc | apply Kd.R_drewN | apply Kd.R_drew)); exact HO_9.out⟩, ⟨by (with_reducible repeat (first | apply Kd.R_alloc | apply Kd.R_drewN | apply Kd.R_drew)); exact HO_10.out⟩, ⟨by (with_reducible repeat (first | apply Kd.R_alloc | apply Kd.R_drewN | apply Kd.R_drew)); exact HO_55.out⟩, ⟨by (with_reducible repeat (first | apply Kd.S_alloc | apply Kd.S_drewN | apply Kd.S_drew)); exact HO_4.out⟩, ⟨by (with_reducible repeat (first | refine blk_drewN ?_ _ | refine blk_drew ?_ | refine blk_alloc ?_ _)); exact BK239.out⟩, ⟨by repeat (first | (with_reducible first | exact HB.out | apply below_alloc | apply pw_below_drewN | apply below_drew1 | refine below_set ?_ GE239.out) | exact HB.out)⟩⟩
                              case round =>
                                clear H'
                                try clear c1
                                try clear c2
                                try clear p2
                                try clear q2
                                try clear hx2
                                try clear c3
                                try clear c4
                                try clear p6
                                try clear c7
                                try clear c9
                                try clear c9b0
                                try clear c13
                                try clear c13b0
                                try clear c13b1
                                try clear c14
                                try clear c22
                                try clear c22b0
                                try clear c22b1
                                try clear c23
                                try clear c23b0
                                try clear c23b1
                                try clear p23
                                try clear q23
                                try clear hx23
                                try clear p24
                                try clear q24
                                try clear hx24
                                try clear c29
                                try clear c29b0
                                try clear c30
                                try clear c30b0
                                try clear c31
                                try clear c31b0
                                try clear c35
                                try clear c35b0
                                try clear c37
                                try clear c37b0
                                try clear c38
                                try clear c38b0
                                try clear c39
                                try clear c39b0
                                try clear c41
                                try clear c41b0
                                try clear c41b1
                                try clear c44
                                try clear hcz34_0
                                try clear hcz34_1
                                try clear hcz34_2
                                try clear hcz34_3
                                try clear hcz40_0
                                try clear hcz40_1
                                try clear hcz40_2
                                try clear hcz40_3
                                try clear hcz42_0
                                try clear hcz42_1
                                try clear hcz42_2
                                try clear hcz42_3
                                try clear hcz43_0
                                try clear hcz43_1
                                try clear hcz43_2
                                try clear hcz43_3
                                try clear hfz34_0
                                try clear hfz34_1
                                try clear hfz34_2
                                try clear hfz34_3
                                try clear hfz40_0
                                try clear hfz40_1
                                try clear hfz40_2
                                try clear hfz40_3
                                try clear hfz42_0
                                try clear hfz42_1
                                try clear hfz42_2
                                try clear hfz42_3
                                try clear hfz43_0
                                try clear hfz43_1
                                try clear hfz43_2
                                try clear hfz43_3
                                try clear hx238_0
                                try clear hx238_1
                                try clear hx238_2
                                try clear hx238_3
                                try clear hx240_0
                                try clear hx240_1
                                try clear hx240_2
                                try clear hx240_3
                                try clear hx241_0
                                try clear hx241_1
                                try clear hx241_2
                                try clear hx241_3
                                try clear hx242_0
                                try clear hx242_1
                                try clear hx242_2
                                try clear hx242_3
                                try clear p2
                                try clear p23
                                try clear p238
                                try clear p24
                                try clear p240
                                try clear p241
                                try clear p242
                                try clear p6
                                try clear q2
                                try clear q23
                                try clear q238
                                try clear q24
                                try clear q240
                                try clear q241
                                try clear q242
                                obtain ⟨x13_4, x99_4, rfl, rfl, HA, HK4, HO_4, HO_9, HO_10, HO_55, HO_97, BK239, HB⟩ := hrel
                                cases gk with
                                | zero => exact absurd HA.out (by simp [storagebarterlaw28_DutyAll.l2])
                                | succ k4 =>
                                  have H := HA.out
                                  clear HA
                                  simp only [storagebarterlaw28_DutyAll.l2] at H
                                  by_cases c45 : x99_4 < (x4_1.length : Int)
                                  · rw [if_pos c45] at H
                                    have c45b0 : decide (x99_4 < (x4_1.length : Int)) = true := decide_eq_true c45
                                    clear c45
                                    by_cases c46 : 0 ≤ x99_4
                                    · rw [if_pos c46] at H
                                      have c46b0 : decide (0 ≤ x99_4) = true := decide_eq_true c46
                                      clear c46
                                      by_cases c47 : x99_4 < (x4_1.length : Int)
                                      · rw [if_pos c47] at H
                                        have c47b0 : decide (x99_4 < (x4_1.length : Int)) = true := decide_eq_true c47
                                        clear c47
                                        by_cases c48 : ((rd_L5 x4_1 x99_4).length : Int) > 0
                                        · rw [if_pos c48] at H
                                          have c48b0 : decide (0 < ((rd_L5 x4_1 x99_4).length : Int)) = true := decide_eq_true c48
                                          have c48b1 : decide (0 < (rd_L5 x4_1 x99_4).length) = true := decide_eq_true (by omega)
                                          clear c48
                                          by_cases c49 : 0 < ((rd_L5 x4_1 x99_4).length : Int)
                                          · rw [if_pos c49] at H
                                            have c49b0 : decide (0 < ((rd_L5 x4_1 x99_4).length : Int)) = true := decide_eq_true c49
                                            have c49b1 : decide (0 < (rd_L5 x4_1 x99_4).length) = true := decide_eq_true (by omega)
                                            clear c49
                                            by_cases c50 : ((rd_T36 (rd_L5 x4_1 x99_4) 0).f1) = ((rd_T36 t232 x57_2).f1)
                                            · rw [if_pos c50] at H
                                              have c50b0 : (((rd_T36 (rd_L5 x4_1 x99_4) 0).f1) == ((rd_T36 t232 x57_2).f1)) = true := beq_iff_eq.mpr c50
                                              have c50b1 : (((rd_T36 (rd_L5 x4_1 x99_4) 0).f1) != ((rd_T36 t232 x57_2).f1)) = false := bne_eq_false_iff_eq.mpr c50
                                              clear c50
                                              have H' := Aside0.mk H
                                              clear H
                                              have p243 : 0 ≤ (x99_4 : Int) := of_decide_eq_true (by first | (with_reducible assumption) | assumption)
                                              have q243 : x99_4 < (x4_1.length : Int) := of_decide_eq_true (by first | (with_reducible assumption) | assumption)
                                              obtain ⟨ad243, A243_0, c243_0, e243, hx243_0, hl243_0, hi243_0⟩ := at_L5 (Kd.S_reads' HO_97.out).2.2 x99_4 p243 q243
                                              cases e243
                                              obtain ⟨ce243, hce243, hMe243, hcc243⟩ := Kd.S_get HO_97.out [] x99_4 p243 (by first | exact q243 | exact of_decide_eq_true (by first | (with_reducible assumption) | assumption) | (have e_ := (Kd.S_reads' HO_97.out).1; omega))
                                              obtain ⟨ve243_0, rfl, ge243_0⟩ := hMe243
                                              have hv243_0 := hcc243 0 _ rfl
                                              rw [Nat.add_zero, show ((Kd.slice 36 k36)).sz = 1 from rfl, Nat.mul_one] at hv243_0
                                              replace hv243_0 := Option.some.inj (hv243_0.symm.trans hx243_0)
                                              rw [hv243_0] at ge243_0
                                              have HL243_0 := Aside0.mk (show Kd.R k36 36 _ _ _ _ (rd_L5 x4_1 x99_4) from ge243_0)
                                              clear hv243_0 ge243_0
                                              clear hcc243 hce243
                                              have HR243_0 := Aside0.mk hi243_0
                                              have HC243_0 := Aside0.mk hl243_0
                                              clear hi243_0 hl243_0
                                              replace p243 := eq_true p243
                                              replace q243 := eq_true q243
                                              have p244 : 0 ≤ (0 : Int) := (by omega)
                                              have q244 : 0 < ((rd_L5 x4_1 x99_4).length : Int) := of_decide_eq_true (by first | (with_reducible assumption) | assumption)
                                              obtain ⟨ad244, e244, hx244_0, hx244_1, hx244_2, hx244_3⟩ := at_T36 (by repeat (first | (with_reducible exact HR243_0.out) | (with_reducible refine Kd.C_alloc ?_ _) | (with_reducible refine Kd.C_drewN ?_ _) | (with_reducible refine Kd.C_drew ?_) | exact HR243_0.out)) 0 p244 q244
                                              cases e244
                                              have qi244 : (0 < (rd_L5 x4_1 x99_4).length) = True := eq_true (by omega)
                                              (try rw [show ((0 : Int)).toNat = 0 from rfl] at hx244_0)
                                              (try rw [show 0 * 4 = 0 from rfl] at hx244_0)
                                              (try rw [Addr.add_zero'] at hx244_0)
                                              (try rw [show ((0 : Int)).toNat = 0 from rfl] at hx244_1)
                                              (try rw [show 0 * 4 = 0 from rfl] at hx244_1)
                                              (try rw [Addr.add_zero'] at hx244_1)
                                              (try rw [show ((0 : Int)).toNat = 0 from rfl] at hx244_2)
                                              (try rw [show 0 * 4 = 0 from rfl] at hx244_2)
                                              (try rw [Addr.add_zero'] at hx244_2)
                                              (try rw [show ((0 : Int)).toNat = 0 from rfl] at hx244_3)
                                              (try rw [show 0 * 4 = 0 from rfl] at hx244_3)
                                              (try rw [Addr.add_zero'] at hx244_3)
                                              replace p244 := eq_true p244
                                              replace q244 := eq_true q244
                                              have hcz51_0 : wr.cell? ⟨gb239, 0, none⟩ = some (.int .i64 ((rd_T36 t232 x57_2).f0)) := (blk_cell BK239.out 0).trans rfl
                                              have hcz51_1 : wr.cell? ⟨gb239, 1, none⟩ = some (.int .i64 ((rd_T36 t232 x57_2).f1)) := (blk_cell BK239.out 1).trans rfl
                                              have hcz51_2 : wr.cell? ⟨gb239, 2, none⟩ = some (.int .i64 ((rd_T36 t232 x57_2).f2)) := (blk_cell BK239.out 2).trans rfl
                                              have hcz51_3 : wr.cell? ⟨gb239, 3, none⟩ = some (.int .i64 ((rd_T36 t232 x57_2).f3)) := (blk_cell BK239.out 3).trans rfl
                                              have hfz51_0 := blk_frozen BK239.out 0
                                              have hfz51_1 := blk_frozen BK239.out 1
                                              have hfz51_2 := blk_frozen BK239.out 2
                                              have hfz51_3 := blk_frozen BK239.out 3
                                              go_wp2
                                              repeat (go_quiet (fail); try go_wp2)
                                              go_roundg k4
                                              case measure => have := HK1.out; have := HK2.out; have := HJ31.out; have := HK4.out; omega
                                              case rel => exact ⟨(x99_4), (wrap64 (x99_4 + 1)), (by first | rfl | (simp; done) | (simp [*]; done)), (by first | rfl | (simp; done) | (simp [*]; done)), H', ⟨by have := HK1.out; have := HK2.out; have := HJ31.out; have := HK4.out; omega⟩, ⟨by (with_reducible repeat (first | apply Kd.S_alloc | apply Kd.S_drewN | apply Kd.S_drew)); exact HO_4.out⟩, ⟨by (with_reducible repeat (first | apply Kd.R_alloc | apply Kd.R_drewN | apply Kd.R_drew)); exact HO_9.out⟩, ⟨by (with_reducible repeat (first | apply Kd.R_alloc | apply Kd.R_drewN | apply Kd.R_drew)); exact HO_10.out⟩, ⟨by (with_reducible repeat (first | apply Kd.R_alloc | apply Kd.R_drewN | apply Kd.R_drew)); exact HO_55.out⟩, ⟨by (with_reducible repeat (first | apply Kd.S_alloc | apply Kd.S_drewN | apply Kd.S_drew)); exact HO_97.out⟩, ⟨by (with_reducible repeat (first | refine blk_drewN ?_ _ | refine blk_drew ?_ | refine blk_alloc ?_ _)); exact BK239.out⟩, ⟨by repeat (first | (with_reducible first | exact HB.out | apply below_alloc | apply pw_below_drewN | apply below_drew1 | refine below_set ?_ GE239.out) | exact HB.out)⟩⟩
                                            · rw [if_neg c50] at H
                                              have c50b0 : (((rd_T36 (rd_L5 x4_1 x99_4) 0).f1) == ((rd_T36 t232 x57_2).f1)) = false := beq_eq_false_iff_ne.mpr c50
                                              have c50b1 : (((rd_T36 (rd_L5 x4_1 x99_4) 0).f1) != ((rd_T36 t232 x57_2).f1)) = true := bne_iff_ne.mpr c50
                                              have H' := Aside0.mk H
                                              clear H
                                              have p243 : 0 ≤ (x99_4 : Int) := of_decide_eq_true (by first | (with_reducible assumption) | assumption)
                                              have q243 : x99_4 < (x4_1.length : Int) := of_decide_eq_true (by first | (with_reducible assumption) | assumption)
                                              obtain ⟨ad243, A243_0, c243_0, e243, hx243_0, hl243_0, hi243_0⟩ := at_L5 (Kd.S_reads' HO_97.out).2.2 x99_4 p243 q243
                                              cases e243
                                              obtain ⟨ce243, hce243, hMe243, hcc243⟩ := Kd.S_get HO_97.out [] x99_4 p243 (by first | exact q243 | exact of_decide_eq_true (by first | (with_reducible assumption) | assumption) | (have e_ := (Kd.S_reads' HO_97.out).1; omega))
                                              obtain ⟨ve243_0, rfl, ge243_0⟩ := hMe243
                                              have hv243_0 := hcc243 0 _ rfl
                                              rw [Nat.add_zero, show ((Kd.slice 36 k36)).sz = 1 from rfl, Nat.mul_one] at hv243_0
                                              replace hv243_0 := Option.some.inj (hv243_0.symm.trans hx243_0)
                                              rw [hv243_0] at ge243_0
                                              have HL243_0 := Aside0.mk (show Kd.R k36 36 _ _ _ _ (rd_L5 x4_1 x99_4) from ge243_0)
                                              clear hv243_0 ge243_0
                                              clear hcc243 hce243
                                              have HR243_0 := Aside0.mk hi243_0
                                              have HC243_0 := Aside0.mk hl243_0
                                              clear hi243_0 hl243_0
                                              replace p243 := eq_true p243
                                              replace q243 := eq_true q243
                                              have p244 : 0 ≤ (0 : Int) := (by omega)
                                              have q244 : 0 < ((rd_L5 x4_1 x99_4).length : Int) := of_decide_eq_true (by first | (with_reducible assumption) | assumption)
                                              obtain ⟨ad244, e244, hx244_0, hx244_1, hx244_2, hx244_3⟩ := at_T36 (by repeat (first | (with_reducible exact HR243_0.out) | (with_reducible refine Kd.C_alloc ?_ _) | (with_reducible refine Kd.C_drewN ?_ _) | (with_reducible refine Kd.C_drew ?_) | exact HR243_0.out)) 0 p244 q244
                                              cases e244
                                              have qi244 : (0 < (rd_L5 x4_1 x99_4).length) = True := eq_true (by omega)
                                              (try rw [show ((0 : Int)).toNat = 0 from rfl] at hx244_0)
                                              (try rw [show 0 * 4 = 0 from rfl] at hx244_0)
                                              (try rw [Addr.add_zero'] at hx244_0)
                                              (try rw [show ((0 : Int)).toNat = 0 from rfl] at hx244_1)
                                              (try rw [show 0 * 4 = 0 from rfl] at hx244_1)
                                              (try rw [Addr.add_zero'] at hx244_1)
                                              (try rw [show ((0 : Int)).toNat = 0 from rfl] at hx244_2)
                                              (try rw [show 0 * 4 = 0 from rfl] at hx244_2)
                                              (try rw [Addr.add_zero'] at hx244_2)
                                              (try rw [show ((0 : Int)).toNat = 0 from rfl] at hx244_3)
                                              (try rw [show 0 * 4 = 0 from rfl] at hx244_3)
                                              (try rw [Addr.add_zero'] at hx244_3)
                                              replace p244 := eq_true p244
                                              replace q244 := eq_true q244
                                              have hcz52_0 : wr.cell? ⟨gb239, 0, none⟩ = some (.int .i64 ((rd_T36 t232 x57_2).f0)) := (blk_cell BK239.out 0).trans rfl
                                              have hcz52_1 : wr.cell? ⟨gb239, 1, none⟩ = some (.int .i64 ((rd_T36 t232 x57_2).f1)) := (blk_cell BK239.out 1).trans rfl
                                              have hcz52_2 : wr.cell? ⟨gb239, 2, none⟩ = some (.int .i64 ((rd_T36 t232 x57_2).f2)) := (blk_cell BK239.out 2).trans rfl
                                              have hcz52_3 : wr.cell? ⟨gb239, 3, none⟩ = some (.int .i64 ((rd_T36 t232 x57_2).f3)) := (blk_cell BK239.out 3).trans rfl
                                              have hfz52_0 := blk_frozen BK239.out 0
                                              have hfz52_1 := blk_frozen BK239.out 1
                                              have hfz52_2 := blk_frozen BK239.out 2
                                              have hfz52_3 := blk_frozen BK239.out 3
                                              go_wp2
                                              repeat (go_quiet (fail); try go_wp2)
                                              go_roundg k4
                                              case measure => have := HK1.out; have := HK2.out; have := HJ31.out; have := HK4.out; omega
                                              case rel => exact ⟨(x13_4), (wrap64 (x99_4 + 1)), (by first | rfl | (simp; done) | (simp [*]; done)), (by first | rfl | (simp; done) | (simp [*]; done)), H', ⟨by have := HK1.out; have := HK2.out; have := HJ31.out; have := HK4.out; omega⟩, ⟨by (with_reducible repeat (first | apply Kd.S_alloc | apply Kd.S_drewN | apply Kd.S_drew)); exact HO_4.out⟩, ⟨by (with_reducible repeat (first | apply Kd.R_alloc | apply Kd.R_drewN | apply Kd.R_drew)); exact HO_9.out⟩, ⟨by (with_reducible repeat (first | apply Kd.R_alloc | apply Kd.R_drewN | apply Kd.R_drew)); exact HO_10.out⟩, ⟨by (with_reducible repeat (first | apply Kd.R_alloc | apply Kd.R_drewN | apply Kd.R_drew)); exact HO_55.out⟩, ⟨by (with_reducible repeat (first | apply Kd.S_alloc | apply Kd.S_drewN | apply Kd.S_drew)); exact HO_97.out⟩, ⟨by (with_reducible repeat (first | refine blk_drewN ?_ _ | refine blk_drew ?_ | refine blk_alloc ?_ _)); exact BK239.out⟩, ⟨by repeat (first | (with_reducible first | exact HB.out | apply below_alloc | apply pw_below_drewN | apply below_drew1 | refine below_set ?_ GE239.out) | exact HB.out)⟩⟩
                                          · rw [if_neg c49] at H
                                            exact absurd H (by simp)
                                        · rw [if_neg c48] at H
                                          have c48b0 : decide (0 < ((rd_L5 x4_1 x99_4).length : Int)) = false := decide_eq_false c48
                                          have c48b1 : decide (0 < (rd_L5 x4_1 x99_4).length) = false := decide_eq_false (by omega)
                                          clear c48
                                          have H' := Aside0.mk H
                                          clear H
                                          have p243 : 0 ≤ (x99_4 : Int) := of_decide_eq_true (by first | (with_reducible assumption) | assumption)
                                          have q243 : x99_4 < (x4_1.length : Int) := of_decide_eq_true (by first | (with_reducible assumption) | assumption)
                                          obtain ⟨ad243, A243_0, c243_0, e243, hx243_0, hl243_0, hi243_0⟩ := at_L5 (Kd.S_reads' HO_97.out).2.2 x99_4 p243 q243
                                          cases e243
                                          obtain ⟨ce243, hce243, hMe243, hcc243⟩ := Kd.S_get HO_97.out [] x99_4 p243 (by first | exact q243 | exact of_decide_eq_true (by first | (with_reducible assumption) | assumption) | (have e_ := (Kd.S_reads' HO_97.out).1; omega))
                                          obtain ⟨ve243_0, rfl, ge243_0⟩ := hMe243
                                          have hv243_0 := hcc243 0 _ rfl
                                          rw [Nat.add_zero, show ((Kd.slice 36 k36)).sz = 1 from rfl, Nat.mul_one] at hv243_0
                                          replace hv243_0 := Option.some.inj (hv243_0.symm.trans hx243_0)
                                          rw [hv243_0] at ge243_0
                                          have HL243_0 := Aside0.mk (show Kd.R k36 36 _ _ _ _ (rd_L5 x4_1 x99_4) from ge243_0)
                                          clear hv243_0 ge243_0
                                          clear hcc243 hce243
                                          have HR243_0 := Aside0.mk hi243_0
                                          have HC243_0 := Aside0.mk hl243_0
                                          clear hi243_0 hl243_0
                                          replace p243 := eq_true p243
                                          replace q243 := eq_true q243
                                          go_wp2
                                          repeat (go_quiet (fail); try go_wp2)
                                          go_roundg k4
                                          case measure => have := HK1.out; have := HK2.out; have := HJ31.out; have := HK4.out; omega
                                          case rel => exact ⟨(x13_4), (wrap64 (x99_4 + 1)), (by first | rfl | (simp; done) | (simp [*]; done)), (by first | rfl | (simp; done) | (simp [*]; done)), H', ⟨by have := HK1.out; have := HK2.out; have := HJ31.out; have := HK4.out; omega⟩, ⟨by (with_reducible repeat (first | apply Kd.S_alloc | apply Kd.S_drewN | apply Kd.S_drew)); exact HO_4.out⟩, ⟨by (with_reducible repeat (first | apply Kd.R_alloc | apply Kd.R_drewN | apply Kd.R_drew)); exact HO_9.out⟩, ⟨by (with_reducible repeat (first | apply Kd.R_alloc | apply Kd.R_drewN | apply Kd.R_drew)); exact HO_10.out⟩, ⟨by (with_reducible repeat (first | apply Kd.R_alloc | apply Kd.R_drewN | apply Kd.R_drew)); exact HO_55.out⟩, ⟨by (with_reducible repeat (first | apply Kd.S_alloc | apply Kd.S_drewN | apply Kd.S_drew)); exact HO_97.out⟩, ⟨by (with_reducible repeat (first | refine blk_drewN ?_ _ | refine blk_drew ?_ | refine blk_alloc ?_ _)); exact BK239.out⟩, ⟨by repeat (first | (with_reducible first | exact HB.out | apply below_alloc | apply pw_below_drewN | apply below_drew1 | refine below_set ?_ GE239.out) | exact HB.out)⟩⟩
                                      · rw [if_neg c47] at H
                                        exact absurd H (by simp)
                                    · rw [if_neg c46] at H
                                      exact absurd H (by simp)
                                  · rw [if_neg c45] at H
                                    have c45b0 : decide (x99_4 < (x4_1.length : Int)) = false := decide_eq_false c45
                                    clear c45
                                    by_cases c53 : x13_4 < 0
                                    · rw [if_pos c53] at H
                                      have c53b0 : decide (x13_4 < 0) = true := decide_eq_true c53
                                      clear c53
                                      exact absurd (Option.some.inj H) (by rw [HRT_.out]; decide)
                                    · rw [if_neg c53] at H
                                      have c53b0 : decide (x13_4 < 0) = false := decide_eq_false c53
                                      clear c53
                                      by_cases c54 : ((rd_T36 t232 x57_2).f1) < 0
                                      · rw [if_pos c54] at H
                                        have c54b0 : decide (((rd_T36 t232 x57_2).f1) < 0) = true := decide_eq_true c54
                                        clear c54
                                        exact absurd (Option.some.inj H) (by rw [HRT_.out]; decide)
                                      · rw [if_neg c54] at H
                                        have c54b0 : decide (((rd_T36 t232 x57_2).f1) < 0) = false := decide_eq_false c54
                                        clear c54
                                        by_cases c55 : ((rd_T36 t232 x57_2).f1) ≥ (x10_2.length : Int)
                                        · rw [if_pos c55] at H
                                          have c55b0 : decide ((x10_2.length : Int) ≤ ((rd_T36 t232 x57_2).f1)) = true := decide_eq_true c55
                                          clear c55
                                          exact absurd (Option.some.inj H) (by rw [HRT_.out]; decide)
                                        · rw [if_neg c55] at H
                                          have c55b0 : decide ((x10_2.length : Int) ≤ ((rd_T36 t232 x57_2).f1)) = false := decide_eq_false c55
                                          clear c55
                                          by_cases c56 : 0 ≤ ((rd_T36 t232 x57_2).f1)
                                          · rw [if_pos c56] at H
                                            have c56b0 : decide (0 ≤ ((rd_T36 t232 x57_2).f1)) = true := decide_eq_true c56
                                            clear c56
                                            by_cases c57 : ((rd_T36 t232 x57_2).f1) < (x10_2.length : Int)
                                            · rw [if_pos c57] at H
                                              have c57b0 : decide (((rd_T36 t232 x57_2).f1) < (x10_2.length : Int)) = true := decide_eq_true c57
                                              clear c57
                                              by_cases c58 : 0 ≤ x13_4
                                              · rw [if_pos c58] at H
                                                have c58b0 : decide (0 ≤ x13_4) = true := decide_eq_true c58
                                                clear c58
                                                by_cases c59 : x13_4 < (x4_1.length : Int)
                                                · rw [if_pos c59] at H
                                                  have c59b0 : decide (x13_4 < (x4_1.length : Int)) = true := decide_eq_true c59
                                                  clear c59
                                                  by_cases c60 : (rd x10_2 ((rd_T36 t232 x57_2).f1)) ≥ ((rd_L5 x4_1 x13_4).length : Int)
                                                  · rw [if_pos c60] at H
                                                    have c60b0 : decide (((rd_L5 x4_1 x13_4).length : Int) ≤ (rd x10_2 ((rd_T36 t232 x57_2).f1))) = true := decide_eq_true c60
                                                    clear c60
                                                    exact absurd (Option.some.inj H) (by rw [HRT_.out]; decide)
                                                  · rw [if_neg c60] at H
                                                    have c60b0 : decide (((rd_L5 x4_1 x13_4).length : Int) ≤ (rd x10_2 ((rd_T36 t232 x57_2).f1))) = false := decide_eq_false c60
                                                    clear c60
                                                    by_cases c61 : 0 ≤ (rd x10_2 ((rd_T36 t232 x57_2).f1))
                                                    · rw [if_pos c61] at H
                                                      have c61b0 : decide (0 ≤ (rd x10_2 ((rd_T36 t232 x57_2).f1))) = true := decide_eq_true c61
                                                      clear c61
                                                      by_cases c62 : (rd x10_2 ((rd_T36 t232 x57_2).f1)) < ((rd_L5 x4_1 x13_4).length : Int)
                                                      · rw [if_pos c62] at H
                                                        have c62b0 : decide ((rd x10_2 ((rd_T36 t232 x57_2).f1)) < ((rd_L5 x4_1 x13_4).length : Int)) = true := decide_eq_true c62
                                                        clear c62
                                                        by_cases c63 : (!(((rd_T36 (rd_L5 x4_1 x13_4) (rd x10_2 ((rd_T36 t232 x57_2).f1))).f0) == ((rd_T36 t232 x57_2).f0)) || (!(((rd_T36 (rd_L5 x4_1 x13_4) (rd x10_2 ((rd_T36 t232 x57_2).f1))).f1) == ((rd_T36 t232 x57_2).f1)) || (!(((rd_T36 (rd_L5 x4_1 x13_4) (rd x10_2 ((rd_T36 t232 x57_2).f1))).f2) == ((rd_T36 t232 x57_2).f2)) || (!(((rd_T36 (rd_L5 x4_1 x13_4) (rd x10_2 ((rd_T36 t232 x57_2).f1))).f3) == ((rd_T36 t232 x57_2).f3)))))) = true
                                                        · rw [if_pos c63] at H
                                                          have c63b0 : (!(((rd_T36 (rd_L5 x4_1 x13_4) (rd x10_2 ((rd_T36 t232 x57_2).f1))).f0) == ((rd_T36 t232 x57_2).f0)) || (!(((rd_T36 (rd_L5 x4_1 x13_4) (rd x10_2 ((rd_T36 t232 x57_2).f1))).f1) == ((rd_T36 t232 x57_2).f1)) || (!(((rd_T36 (rd_L5 x4_1 x13_4) (rd x10_2 ((rd_T36 t232 x57_2).f1))).f2) == ((rd_T36 t232 x57_2).f2)) || (!(((rd_T36 (rd_L5 x4_1 x13_4) (rd x10_2 ((rd_T36 t232 x57_2).f1))).f3) == ((rd_T36 t232 x57_2).f3)))))) = true := c63
                                                          clear c63
                                                          exact absurd (Option.some.inj H) (by rw [HRT_.out]; decide)
                                                        · rw [if_neg c63] at H
                                                          have c63b0 : (!(((rd_T36 (rd_L5 x4_1 x13_4) (rd x10_2 ((rd_T36 t232 x57_2).f1))).f0) == ((rd_T36 t232 x57_2).f0)) || (!(((rd_T36 (rd_L5 x4_1 x13_4) (rd x10_2 ((rd_T36 t232 x57_2).f1))).f1) == ((rd_T36 t232 x57_2).f1)) || (!(((rd_T36 (rd_L5 x4_1 x13_4) (rd x10_2 ((rd_T36 t232 x57_2).f1))).f2) == ((rd_T36 t232 x57_2).f2)) || (!(((rd_T36 (rd_L5 x4_1 x13_4) (rd x10_2 ((rd_T36 t232 x57_2).f1))).f3) == ((rd_T36 t232 x57_2).f3)))))) = false := by simpa using c63
                                                          clear c63
                                                          obtain ⟨y251, hy251⟩ : ∃ y_ : List Int, y_ = (x10_2.set (((rd_T36 t232 x57_2).f1) : Int).toNat (wrap64 ((rd x10_2 ((rd_T36 t232 x57_2).f1)) + 1))) := ⟨_, rfl⟩
                                                          replace H : (storagebarterlaw28_DutyAll.l1 k4 x4_1 x5_1 t232 y251 t232 (t232.length : Int) (wrap64 (x57_2 + 1))) = some r := by first | (rw [hy251]; with_reducible exact H) | (have H2_ := (Option.bind_some _ _).symm.trans H; rw [hy251]; with_reducible exact H2_) | (have H2_ := (Option.bind_some _ _).symm.trans H; with_reducible exact H2_) | with_reducible exact H | (rw [hy251]; exact H) | exact H
                                                          have Ny251 := Aside0.mk hy251
                                                          clear hy251
                                                          have H' := Aside0.mk H
                                                          clear H
                                                          have hcz65_0 : wr.cell? ⟨gb239, 0, none⟩ = some (.int .i64 ((rd_T36 t232 x57_2).f0)) := (blk_cell BK239.out 0).trans rfl
                                                          have hcz65_1 : wr.cell? ⟨gb239, 1, none⟩ = some (.int .i64 ((rd_T36 t232 x57_2).f1)) := (blk_cell BK239.out 1).trans rfl
                                                          have hcz65_2 : wr.cell? ⟨gb239, 2, none⟩ = some (.int .i64 ((rd_T36 t232 x57_2).f2)) := (blk_cell BK239.out 2).trans rfl
                                                          have hcz65_3 : wr.cell? ⟨gb239, 3, none⟩ = some (.int .i64 ((rd_T36 t232 x57_2).f3)) := (blk_cell BK239.out 3).trans rfl
                                                          have hfz65_0 := blk_frozen BK239.out 0
                                                          have hfz65_1 := blk_frozen BK239.out 1
                                                          have hfz65_2 := blk_frozen BK239.out 2
                                                          have hfz65_3 := blk_frozen BK239.out 3
                                                          obtain ⟨Ao66, co66, eo66⟩ := Kd.R_slice HO_10.out
                                                          subst eo66
                                                          have p245 : 0 ≤ (((rd_T36 t232 x57_2).f1) : Int) := of_decide_eq_true (by first | (with_reducible assumption) | assumption)
                                                          have q245 : ((rd_T36 t232 x57_2).f1) < (x10_2.length : Int) := of_decide_eq_true (by first | (with_reducible assumption) | assumption)
                                                          obtain ⟨ad245, e245, hx245_0⟩ := Kd.at_int (Kd.R_reads' HO_10.out).2.2 ((rd_T36 t232 x57_2).f1) p245 q245
                                                          cases e245
                                                          replace p245 := eq_true p245
                                                          replace q245 := eq_true q245
                                                          have p246 : 0 ≤ (x13_4 : Int) := of_decide_eq_true (by first | (with_reducible assumption) | assumption)
                                                          have q246 : x13_4 < (x4_1.length : Int) := of_decide_eq_true (by first | (with_reducible assumption) | assumption)
                                                          obtain ⟨ad246, A246_0, c246_0, e246, hx246_0, hl246_0, hi246_0⟩ := at_L5 (Kd.S_reads' HO_4.out).2.2 x13_4 p246 q246
                                                          cases e246
                                                          obtain ⟨ce246, hce246, hMe246, hcc246⟩ := Kd.S_get HO_4.out [] x13_4 p246 (by first | exact q246 | exact of_decide_eq_true (by first | (with_reducible assumption) | assumption) | (have e_ := (Kd.S_reads' HO_4.out).1; omega))
                                                          obtain ⟨ve246_0, rfl, ge246_0⟩ := hMe246
                                                          have hv246_0 := hcc246 0 _ rfl
                                                          rw [Nat.add_zero, show ((Kd.slice 36 k36)).sz = 1 from rfl, Nat.mul_one] at hv246_0
                                                          replace hv246_0 := Option.some.inj (hv246_0.symm.trans hx246_0)
                                                          rw [hv246_0] at ge246_0
                                                          have HL246_0 := Aside0.mk (show Kd.R k36 36 _ _ _ _ (rd_L5 x4_1 x13_4) from ge246_0)
                                                          clear hv246_0 ge246_0
                                                          clear hcc246 hce246
                                                          have HR246_0 := Aside0.mk hi246_0
                                                          have HC246_0 := Aside0.mk hl246_0
                                                          clear hi246_0 hl246_0
                                                          replace p246 := eq_true p246
                                                          replace q246 := eq_true q246
                                                          have p247 : 0 ≤ (x13_4 : Int) := of_decide_eq_true (by first | (with_reducible assumption) | assumption)
                                                          have q247 : x13_4 < (x4_1.length : Int) := of_decide_eq_true (by first | (with_reducible assumption) | assumption)
                                                          obtain ⟨ad247, A247_0, c247_0, e247, hx247_0, hl247_0, hi247_0⟩ := at_L5 (Kd.S_reads' HO_4.out).2.2 x13_4 p247 q247
                                                          obtain rfl : ad246 = ad247 := (by injection e247)
                                                          obtain ⟨ce247, hce247, hMe247, hcc247⟩ := Kd.S_get HO_4.out [] x13_4 p247 (by first | exact q247 | exact of_decide_eq_true (by first | (with_reducible assumption) | assumption) | (have e_ := (Kd.S_reads' HO_4.out).1; omega))
                                                          obtain ⟨ve247_0, rfl, ge247_0⟩ := hMe247
                                                          have hv247_0 := hcc247 0 _ rfl
                                                          rw [Nat.add_zero, show ((Kd.slice 36 k36)).sz = 1 from rfl, Nat.mul_one] at hv247_0
                                                          replace hv247_0 := Option.some.inj (hv247_0.symm.trans hx247_0)
                                                          rw [hv247_0] at ge247_0
                                                          have HL247_0 := Aside0.mk (show Kd.R k36 36 _ _ _ _ (rd_L5 x4_1 x13_4) from ge247_0)
                                                          clear hv247_0 ge247_0
                                                          clear hcc247 hce247
                                                          have HR247_0 := Aside0.mk hi247_0
                                                          have HC247_0 := Aside0.mk hl247_0
                                                          clear hi247_0 hl247_0
                                                          replace p247 := eq_true p247
                                                          replace q247 := eq_true q247
                                                          have ea_ := Option.some.inj (hx246_0.symm.trans hx247_0)
                                                          injection ea_ with ea_ en_ ec_
                                                          subst ea_
                                                          subst ec_
                                                          clear en_
                                                          have p248 : 0 ≤ (((rd_T36 t232 x57_2).f1) : Int) := of_decide_eq_true (by first | (with_reducible assumption) | assumption)
                                                          have q248 : ((rd_T36 t232 x57_2).f1) < (x10_2.length : Int) := of_decide_eq_true (by first | (with_reducible assumption) | assumption)
                                                          obtain ⟨ad248, e248, hx248_0⟩ := Kd.at_int (Kd.R_reads' HO_10.out).2.2 ((rd_T36 t232 x57_2).f1) p248 q248
                                                          obtain rfl : ad245 = ad248 := (by injection e248)
                                                          replace p248 := eq_true p248
                                                          replace q248 := eq_true q248
                                                          have p249 : 0 ≤ ((rd x10_2 ((rd_T36 t232 x57_2).f1)) : Int) := of_decide_eq_true (by first | (with_reducible assumption) | assumption)
                                                          have q249 : (rd x10_2 ((rd_T36 t232 x57_2).f1)) < ((rd_L5 x4_1 x13_4).length : Int) := of_decide_eq_true (by first | (with_reducible assumption) | assumption)
                                                          obtain ⟨ad249, e249, hx249_0, hx249_1, hx249_2, hx249_3⟩ := at_T36 (by repeat (first | (with_reducible exact HR247_0.out) | (with_reducible refine Kd.C_alloc ?_ _) | (with_reducible refine Kd.C_drewN ?_ _) | (with_reducible refine Kd.C_drew ?_) | exact HR247_0.out)) (rd x10_2 ((rd_T36 t232 x57_2).f1)) p249 q249
                                                          cases e249
                                                          replace p249 := eq_true p249
                                                          replace q249 := eq_true q249
                                                          have p250 : 0 ≤ (((rd_T36 t232 x57_2).f1) : Int) := of_decide_eq_true (by first | (with_reducible assumption) | assumption)
                                                          have q250 : ((rd_T36 t232 x57_2).f1) < (x10_2.length : Int) := of_decide_eq_true (by first | (with_reducible assumption) | assumption)
                                                          obtain ⟨ad250, e250, hx250_0⟩ := Kd.at_int (Kd.R_reads' HO_10.out).2.2 ((rd_T36 t232 x57_2).f1) p250 q250
                                                          obtain rfl : ad245 = ad250 := (by injection e250)
                                                          replace p250 := eq_true p250
                                                          replace q250 := eq_true q250
                                                          have p64 : 0 ≤ (((rd_T36 t232 x57_2).f1) : Int) := of_decide_eq_true (by first | (with_reducible assumption) | assumption)
                                                          have q64 : (((rd_T36 t232 x57_2).f1) : Int) < ((x10_2.length : Int) : Int) := of_decide_eq_true (by first | (with_reducible assumption) | assumption)
                                                          obtain ⟨go64, co64, eo64, gb64, gl64, cl64, HG64⟩ := Kd.R_form HO_10.out (by omega)
                                                          (first | cases eo64 | (injection eo64 with ea_ en_ ec_; (first | subst ea_ | (injection ea_ with ea_; subst ea_)); subst ec_; clear en_))
                                                          have GB64 := Aside0.mk gb64
                                                          have GG64 := Aside0.mk HG64
                                                          clear gb64 gl64 HG64
                                                          (first | simp only [add_plain] at hx245_0 | skip)
                                                          (first | simp only [add_plain] at hx248_0 | skip)
                                                          (first | simp only [add_plain] at hx250_0 | skip)
                                                          obtain ⟨hx64_0, hf64_0⟩ := Kd.R_celln 0 HO_10.out (((rd_T36 t232 x57_2).f1) : Int) p64 q64
                                                          replace p64 := eq_true p64
                                                          replace q64 := eq_true q64
                                                          have HP67 := Kd.R_putg HO_10.out (((rd_T36 t232 x57_2).f1) : Int) (wrap64 ((rd x10_2 ((rd_T36 t232 x57_2).f1)) + 1))
                                                          go_wp2_with (first | ((with_reducible refine gate_store (t := 3) (p := 166) rfl ?_); (try (generalize hq_ : World.drewN wr nq = wr; have n0_ := Aside0.mk (Kd.S_at hq_ HO_4.out); have n1_ := Aside0.mk (Kd.R_at hq_ HO_9.out); have n2_ := Aside0.mk (Kd.R_at hq_ HO_10.out); have n3_ := Aside0.mk (Kd.R_at hq_ HO_55.out); have n4_ := Aside0.mk (Kd.S_at hq_ HO_97.out); have n5_ := Aside0.mk (Kd.R_at hq_ HL246_0.out); have n6_ := Aside0.mk (Kd.R_at hq_ HL247_0.out); have n7_ := Aside0.mk (blk_at hq_ BK239.out); have n8_ := Aside0.mk (below_at hq_ HB.out); clear hq_ HO_4 HO_9 HO_10 HO_55 HO_97 HL246_0 HL247_0 BK239 HB; have HO_4 := n0_; have HO_9 := n1_; have HO_10 := n2_; have HO_55 := n3_; have HO_97 := n4_; have HL246_0 := n5_; have HL247_0 := n6_; have BK239 := n7_; have HB := n8_; clear n0_ n1_ n2_ n3_ n4_ n5_ n6_ n7_ n8_; (try (have HP67 := Kd.R_putg HO_10.out (((rd_T36 t232 x57_2).f1) : Int) (wrap64 ((rd x10_2 ((rd_T36 t232 x57_2).f1)) + 1)))); (try (obtain ⟨hx64_0, hf64_0⟩ := Kd.R_celln 0 HO_10.out (((rd_T36 t232 x57_2).f1) : Int) (of_eq_true p64) (of_eq_true q64))))); refine store_event (t := 3) (p := 166) (v := ?vo_w68) (w1 := (wr.setCell ⟨go64, (((rd_T36 t232 x57_2).f1) : Int).toNat, none⟩ (.int .i64 (wrap64 ((rd x10_2 ((rd_T36 t232 x57_2).f1)) + 1))))) ?hg ?ho ?hn ?hr ?_; (case ho => rfl); (case hg => rfl); (case hn => rfl); (case hr => first | (go_simp; done) | (go_simp; rfl)); intro w68 hw; have hg : wr.grownBy w68 (some go64) := (by rw [hw]; exact HP67.2); have hp_ : Kd.R (Kd.int .i64) 3 w68 w.heap.size (fun _ => True) (.slice (some ⟨go64, 0, none⟩) x10_2.length co66) y251 := (by rw [hw, Ny251.out]; exact HP67.1); clear HP67; have n0_ := Aside0.mk (Kd.S_over' (v := (.slice (some ⟨go64, 0, none⟩) x10_2.length co66)) (by (with_reducible repeat (first | apply Kd.S_alloc | apply Kd.S_drewN | apply Kd.S_drew)); exact HO_4.out) (Kd.R_typed HO_10.out) (by decide) hg); have n1_ := Aside0.mk (Kd.R_over' (v := (.slice (some ⟨go64, 0, none⟩) x10_2.length co66)) (by (with_reducible repeat (first | apply Kd.R_alloc | apply Kd.R_drewN | apply Kd.R_drew)); exact HO_9.out) (Kd.R_typed HO_10.out) (by decide) hg); have n2_ := Aside0.mk (hp_); have n3_ := Aside0.mk (Kd.R_over' (v := (.slice (some ⟨go64, 0, none⟩) x10_2.length co66)) (by (with_reducible repeat (first | apply Kd.R_alloc | apply Kd.R_drewN | apply Kd.R_drew)); exact HO_55.out) (Kd.R_typed HO_10.out) (by decide) hg); have n4_ := Aside0.mk (Kd.S_over' (v := (.slice (some ⟨go64, 0, none⟩) x10_2.length co66)) (by (with_reducible repeat (first | apply Kd.S_alloc | apply Kd.S_drewN | apply Kd.S_drew)); exact HO_97.out) (Kd.R_typed HO_10.out) (by decide) hg); have n5_ := Aside0.mk (blk_grown (g := gb239) (o := .cells #[.int .i64 ((rd_T36 t232 x57_2).f0), .int .i64 ((rd_T36 t232 x57_2).f1), .int .i64 ((rd_T36 t232 x57_2).f2), .int .i64 ((rd_T36 t232 x57_2).f3)] 36 (0, 0)) (by (with_reducible repeat (first | refine blk_drewN ?_ _ | refine blk_drew ?_ | refine blk_alloc ?_ _)); exact BK239.out) hg (Kd.R_ne HO_10.out BK239.out (by decide))); have n6_ := Aside0.mk (Kd.R_over' (v := (.slice (some ⟨go64, 0, none⟩) x10_2.length co66)) (by (with_reducible repeat (first | apply Kd.R_alloc | apply Kd.R_drewN | apply Kd.R_drew)); exact HL246_0.out) (Kd.R_typed HO_10.out) (by decide) hg); have n7_ := Aside0.mk (Kd.R_over' (v := (.slice (some ⟨go64, 0, none⟩) x10_2.length co66)) (by (with_reducible repeat (first | apply Kd.R_alloc | apply Kd.R_drewN | apply Kd.R_drew)); exact HL247_0.out) (Kd.R_typed HO_10.out) (by decide) hg); have n8_ := Aside0.mk ((by rw [hw]; exact below_set (HB.out) GB64.out : Below w.heap.size w w68)); clear HO_4; clear HO_9; clear HO_10; clear HO_55; clear HO_97; clear BK239; clear HL246_0; clear HL247_0; clear HB; have HO_4 := n0_; have HO_9 := n1_; have HO_10 := n2_; have HO_55 := n3_; have HO_97 := n4_; have BK239 := n5_; have HL246_0 := n6_; have HL247_0 := n7_; have HB := n8_; clear n0_ n1_ n2_ n3_ n4_ n5_ n6_ n7_ n8_; clear hg hw hp_))
                                                          repeat (go_quiet (first | ((with_reducible refine gate_store (t := 3) (p := 166) rfl ?_); (try (generalize hq_ : World.drewN wr nq = wr; have n0_ := Aside0.mk (Kd.S_at hq_ HO_4.out); have n1_ := Aside0.mk (Kd.R_at hq_ HO_9.out); have n2_ := Aside0.mk (Kd.R_at hq_ HO_10.out); have n3_ := Aside0.mk (Kd.R_at hq_ HO_55.out); have n4_ := Aside0.mk (Kd.S_at hq_ HO_97.out); have n5_ := Aside0.mk (Kd.R_at hq_ HL246_0.out); have n6_ := Aside0.mk (Kd.R_at hq_ HL247_0.out); have n7_ := Aside0.mk (blk_at hq_ BK239.out); have n8_ := Aside0.mk (below_at hq_ HB.out); clear hq_ HO_4 HO_9 HO_10 HO_55 HO_97 HL246_0 HL247_0 BK239 HB; have HO_4 := n0_; have HO_9 := n1_; have HO_10 := n2_; have HO_55 := n3_; have HO_97 := n4_; have HL246_0 := n5_; have HL247_0 := n6_; have BK239 := n7_; have HB := n8_; clear n0_ n1_ n2_ n3_ n4_ n5_ n6_ n7_ n8_; (try (have HP67 := Kd.R_putg HO_10.out (((rd_T36 t232 x57_2).f1) : Int) (wrap64 ((rd x10_2 ((rd_T36 t232 x57_2).f1)) + 1)))); (try (obtain ⟨hx64_0, hf64_0⟩ := Kd.R_celln 0 HO_10.out (((rd_T36 t232 x57_2).f1) : Int) (of_eq_true p64) (of_eq_true q64))))); refine store_event (t := 3) (p := 166) (v := ?vo_w68) (w1 := (wr.setCell ⟨go64, (((rd_T36 t232 x57_2).f1) : Int).toNat, none⟩ (.int .i64 (wrap64 ((rd x10_2 ((rd_T36 t232 x57_2).f1)) + 1))))) ?hg ?ho ?hn ?hr ?_; (case ho => rfl); (case hg => rfl); (case hn => rfl); (case hr => first | (go_simp; done) | (go_simp; rfl)); intro w68 hw; have hg : wr.grownBy w68 (some go64) := (by rw [hw]; exact HP67.2); have hp_ : Kd.R (Kd.int .i64) 3 w68 w.heap.size (fun _ => True) (.slice (some ⟨go64, 0, none⟩) x10_2.length co66) y251 := (by rw [hw, Ny251.out]; exact HP67.1); clear HP67; have n0_ := Aside0.mk (Kd.S_over' (v := (.slice (some ⟨go64, 0, none⟩) x10_2.length co66)) (by (with_reducible repeat (first | apply Kd.S_alloc | apply Kd.S_drewN | apply Kd.S_drew)); exact HO_4.out) (Kd.R_typed HO_10.out) (by decide) hg); have n1_ := Aside0.mk (Kd.R_over' (v := (.slice (some ⟨go64, 0, none⟩) x10_2.length co66)) (by (with_reducible repeat (first | apply Kd.R_alloc | apply Kd.R_drewN | apply Kd.R_drew)); exact HO_9.out) (Kd.R_typed HO_10.out) (by decide) hg); have n2_ := Aside0.mk (hp_); have n3_ := Aside0.mk (Kd.R_over' (v := (.slice (some ⟨go64, 0, none⟩) x10_2.length co66)) (by (with_reducible repeat (first | apply Kd.R_alloc | apply Kd.R_drewN | apply Kd.R_drew)); exact HO_55.out) (Kd.R_typed HO_10.out) (by decide) hg); have n4_ := Aside0.mk (Kd.S_over' (v := (.slice (some ⟨go64, 0, none⟩) x10_2.length co66)) (by (with_reducible repeat (first | apply Kd.S_alloc | apply Kd.S_drewN | apply Kd.S_drew)); exact HO_97.out) (Kd.R_typed HO_10.out) (by decide) hg); have n5_ := Aside0.mk (blk_grown (g := gb239) (o := .cells #[.int .i64 ((rd_T36 t232 x57_2).f0), .int .i64 ((rd_T36 t232 x57_2).f1), .int .i64 ((rd_T36 t232 x57_2).f2), .int .i64 ((rd_T36 t232 x57_2).f3)] 36 (0, 0)) (by (with_reducible repeat (first | refine blk_drewN ?_ _ | refine blk_drew ?_ | refine blk_alloc ?_ _)); exact BK239.out) hg (Kd.R_ne HO_10.out BK239.out (by decide))); have n6_ := Aside0.mk (Kd.R_over' (v := (.slice (some ⟨go64, 0, none⟩) x10_2.length co66)) (by (with_reducible repeat (first | apply Kd.R_alloc | apply Kd.R_drewN | apply Kd.R_drew)); exact HL246_0.out) (Kd.R_typed HO_10.out) (by decide) hg); have n7_ := Aside0.mk (Kd.R_over' (v := (.slice (some ⟨go64, 0, none⟩) x10_2.length co66)) (by (with_reducible repeat (first | apply Kd.R_alloc | apply Kd.R_drewN | apply Kd.R_drew)); exact HL247_0.out) (Kd.R_typed HO_10.out) (by decide) hg); have n8_ := Aside0.mk ((by rw [hw]; exact below_set (HB.out) GB64.out : Below w.heap.size w w68)); clear HO_4; clear HO_9; clear HO_10; clear HO_55; clear HO_97; clear BK239; clear HL246_0; clear HL247_0; clear HB; have HO_4 := n0_; have HO_9 := n1_; have HO_10 := n2_; have HO_55 := n3_; have HO_97 := n4_; have BK239 := n5_; have HL246_0 := n6_; have HL247_0 := n7_; have HB := n8_; clear n0_ n1_ n2_ n3_ n4_ n5_ n6_ n7_ n8_; clear hg hw hp_)); try go_wp2_with (first | ((with_reducible refine gate_store (t := 3) (p := 166) rfl ?_); (try (generalize hq_ : World.drewN wr nq = wr; have n0_ := Aside0.mk (Kd.S_at hq_ HO_4.out); have n1_ := Aside0.mk (Kd.R_at hq_ HO_9.out); have n2_ := Aside0.mk (Kd.R_at hq_ HO_10.out); have n3_ := Aside0.mk (Kd.R_at hq_ HO_55.out); have n4_ := Aside0.mk (Kd.S_at hq_ HO_97.out); have n5_ := Aside0.mk (Kd.R_at hq_ HL246_0.out); have n6_ := Aside0.mk (Kd.R_at hq_ HL247_0.out); have n7_ := Aside0.mk (blk_at hq_ BK239.out); have n8_ := Aside0.mk (below_at hq_ HB.out); clear hq_ HO_4 HO_9 HO_10 HO_55 HO_97 HL246_0 HL247_0 BK239 HB; have HO_4 := n0_; have HO_9 := n1_; have HO_10 := n2_; have HO_55 := n3_; have HO_97 := n4_; have HL246_0 := n5_; have HL247_0 := n6_; have BK239 := n7_; have HB := n8_; clear n0_ n1_ n2_ n3_ n4_ n5_ n6_ n7_ n8_; (try (have HP67 := Kd.R_putg HO_10.out (((rd_T36 t232 x57_2).f1) : Int) (wrap64 ((rd x10_2 ((rd_T36 t232 x57_2).f1)) + 1)))); (try (obtain ⟨hx64_0, hf64_0⟩ := Kd.R_celln 0 HO_10.out (((rd_T36 t232 x57_2).f1) : Int) (of_eq_true p64) (of_eq_true q64))))); refine store_event (t := 3) (p := 166) (v := ?vo_w68) (w1 := (wr.setCell ⟨go64, (((rd_T36 t232 x57_2).f1) : Int).toNat, none⟩ (.int .i64 (wrap64 ((rd x10_2 ((rd_T36 t232 x57_2).f1)) + 1))))) ?hg ?ho ?hn ?hr ?_; (case ho => rfl); (case hg => rfl); (case hn => rfl); (case hr => first | (go_simp; done) | (go_simp; rfl)); intro w68 hw; have hg : wr.grownBy w68 (some go64) := (by rw [hw]; exact HP67.2); have hp_ : Kd.R (Kd.int .i64) 3 w68 w.heap.size (fun _ => True) (.slice (some ⟨go64, 0, none⟩) x10_2.length co66) y251 := (by rw [hw, Ny251.out]; exact HP67.1); clear HP67; have n0_ := Aside0.mk (Kd.S_over' (v := (.slice (some ⟨go64, 0, none⟩) x10_2.length co66)) (by (with_reducible repeat (first | apply Kd.S_alloc | apply Kd.S_drewN | apply Kd.S_drew)); exact HO_4.out) (Kd.R_typed HO_10.out) (by decide) hg); have n1_ := Aside0.mk (Kd.R_over' (v := (.slice (some ⟨go64, 0, none⟩) x10_2.length co66)) (by (with_reducible repeat (first | apply Kd.R_alloc | apply Kd.R_drewN | apply Kd.R_drew)); exact HO_9.out) (Kd.R_typed HO_10.out) (by decide) hg); have n2_ := Aside0.mk (hp_); have n3_ := Aside0.mk (Kd.R_over' (v := (.slice (some ⟨go64, 0, none⟩) x10_2.length co66)) (by (with_reducible repeat (first | apply Kd.R_alloc | apply Kd.R_drewN | apply Kd.R_drew)); exact HO_55.out) (Kd.R_typed HO_10.out) (by decide) hg); have n4_ := Aside0.mk (Kd.S_over' (v := (.slice (some ⟨go64, 0, none⟩) x10_2.length co66)) (by (with_reducible repeat (first | apply Kd.S_alloc | apply Kd.S_drewN | apply Kd.S_drew)); exact HO_97.out) (Kd.R_typed HO_10.out) (by decide) hg); have n5_ := Aside0.mk (blk_grown (g := gb239) (o := .cells #[.int .i64 ((rd_T36 t232 x57_2).f0), .int .i64 ((rd_T36 t232 x57_2).f1), .int .i64 ((rd_T36 t232 x57_2).f2), .int .i64 ((rd_T36 t232 x57_2).f3)] 36 (0, 0)) (by (with_reducible repeat (first | refine blk_drewN ?_ _ | refine blk_drew ?_ | refine blk_alloc ?_ _)); exact BK239.out) hg (Kd.R_ne HO_10.out BK239.out (by decide))); have n6_ := Aside0.mk (Kd.R_over' (v := (.slice (some ⟨go64, 0, none⟩) x10_2.length co66)) (by (with_reducible repeat (first | apply Kd.R_alloc | apply Kd.R_drewN | apply Kd.R_drew)); exact HL246_0.out) (Kd.R_typed HO_10.out) (by decide) hg); have n7_ := Aside0.mk (Kd.R_over' (v := (.slice (some ⟨go64, 0, none⟩) x10_2.length co66)) (by (with_reducible repeat (first | apply Kd.R_alloc | apply Kd.R_drewN | apply Kd.R_drew)); exact HL247_0.out) (Kd.R_typed HO_10.out) (by decide) hg); have n8_ := Aside0.mk ((by rw [hw]; exact below_set (HB.out) GB64.out : Below w.heap.size w w68)); clear HO_4; clear HO_9; clear HO_10; clear HO_55; clear HO_97; clear BK239; clear HL246_0; clear HL247_0; clear HB; have HO_4 := n0_; have HO_9 := n1_; have HO_10 := n2_; have HO_55 := n3_; have HO_97 := n4_; have BK239 := n5_; have HL246_0 := n6_; have HL247_0 := n7_; have HB := n8_; clear n0_ n1_ n2_ n3_ n4_ n5_ n6_ n7_ n8_; clear hg hw hp_)))
                                                          go_roundg k4
                                                          case measure => have := HK1.out; have := HK2.out; have := HJ31.out; have := HK4.out; omega
                                                          case rel => exact ⟨(y251), (wrap64 (x57_2 + 1)), (by first | rfl | (simp; done) | (simp [*]; done)), H', ⟨by have := HK1.out; have := HK2.out; have := HJ31.out; have := HK4.out; omega⟩, ⟨by (with_reducible repeat (first | apply Kd.S_alloc | apply Kd.S_drewN | apply Kd.S_drew)); exact Kd.S_mono HO_4.out (fun _ hk => ⟨hk.1, hk.2.1⟩)⟩, ⟨by (with_reducible repeat (first | apply Kd.R_alloc | apply Kd.R_drewN | apply Kd.R_drew)); exact Kd.R_mono HO_9.out (fun _ hk => trivial)⟩, ⟨by (with_reducible repeat (first | apply Kd.R_alloc | apply Kd.R_drewN | apply Kd.R_drew)); exact HO_10.out⟩, ⟨by (with_reducible repeat (first | apply Kd.R_alloc | apply Kd.R_drewN | apply Kd.R_drew)); exact Kd.R_mono HO_55.out (fun _ hk => trivial)⟩, ⟨by repeat (first | (with_reducible first | exact HB.out | apply below_alloc | apply pw_below_drewN | apply below_drew1 | refine below_set ?_ GE239.out) | exact HB.out)⟩⟩
                                                      · rw [if_neg c62] at H
                                                        exact absurd H (by simp)
                                                    · rw [if_neg c61] at H
                                                      exact absurd H (by simp)
                                                · rw [if_neg c59] at H
                                                  exact absurd H (by simp)
                                              · rw [if_neg c58] at H
                                                exact absurd H (by simp)
                                            · rw [if_neg c57] at H
                                              exact absurd H (by simp)
                                          · rw [if_neg c56] at H
                                            exact absurd H (by simp)
                      · rw [if_neg c31] at H
                        exact absurd H (by simp)
                    · rw [if_neg c30] at H
                      exact absurd H (by simp)
                  · rw [if_neg c29] at H
                    have c29b0 : decide (x57_2 < (t232.length : Int)) = false := decide_eq_false c29
                    clear c29
                    have H' := Aside0.mk H
                    clear H
                    go_wp2
                    repeat (go_quiet (fail); try go_wp2)
                    go_loopg [16, 17] k2 (fun kq v16 v17 w' => ∃ (x16_3 : Int) (x17_3 : Int), v16 = .int .i64 x16_3 ∧ v17 = .int .i64 x17_3 ∧ Aside0 (storagebarterlaw28_DutyAll.l3 kq x5_1 t232 x16_3 x17_3 = some r) ∧ Aside0 (kq ≤ k2) ∧ Aside0 (Kd.R k36 36 w' w.heap.size (fun _ => True) (.slice Ao26 t232.length co26) t232) ∧ Aside0 (Below w.heap.size w w'))
                    case atStart => exact ⟨(0), (1), (by first | rfl | (simp; done) | (simp [*]; done)), (by first | rfl | (simp; done) | (simp [*]; done)), H', ⟨Nat.le_refl _⟩, ⟨by (with_reducible repeat (first | apply Kd.R_alloc | apply Kd.R_drewN | apply Kd.R_drew)); exact HO_9.out⟩, ⟨by repeat (first | (with_reducible first | exact HB.out | apply below_alloc | apply pw_below_drewN | apply below_drew1) | exact HB.out)⟩⟩
                    case round =>
                      clear H'
                      try clear c1
                      try clear c2
                      try clear p2
                      try clear q2
                      try clear hx2
                      try clear qi2
                      try clear c3
                      try clear c4
                      try clear c5
                      try clear c6
                      try clear p6
                      try clear q6
                      try clear hx6
                      try clear hf6
                      try clear c7
                      try clear c9
                      try clear c9b0
                      try clear c13
                      try clear c13b0
                      try clear c13b1
                      try clear c14
                      try clear c22
                      try clear c22b0
                      try clear c22b1
                      try clear c23
                      try clear c23b0
                      try clear c23b1
                      try clear p23
                      try clear q23
                      try clear hx23
                      try clear c24
                      try clear p24
                      try clear q24
                      try clear hx24
                      try clear qi24
                      try clear p25
                      try clear q25
                      try clear hx25
                      try clear c29
                      try clear c29b0
                      try clear c30
                      try clear c30b0
                      try clear c31
                      try clear c31b0
                      try clear c35
                      try clear c35b0
                      try clear c37
                      try clear c37b0
                      try clear c38
                      try clear c38b0
                      try clear c39
                      try clear c39b0
                      try clear c41
                      try clear c41b0
                      try clear c41b1
                      try clear c44
                      try clear c45
                      try clear c45b0
                      try clear c46
                      try clear c46b0
                      try clear c47
                      try clear c47b0
                      try clear c48
                      try clear c48b0
                      try clear c48b1
                      try clear c49
                      try clear c49b0
                      try clear c49b1
                      try clear c50
                      try clear c50b0
                      try clear c50b1
                      try clear c53
                      try clear c53b0
                      try clear c54
                      try clear c54b0
                      try clear c55
                      try clear c55b0
                      try clear c56
                      try clear c56b0
                      try clear c57
                      try clear c57b0
                      try clear c58
                      try clear c58b0
                      try clear c59
                      try clear c59b0
                      try clear c60
                      try clear c60b0
                      try clear c61
                      try clear c61b0
                      try clear c62
                      try clear c62b0
                      try clear c63
                      try clear c63b0
                      try clear p64
                      try clear q64
                      try clear hx64
                      try clear hf64
                      try clear hcz34_0
                      try clear hcz34_1
                      try clear hcz34_2
                      try clear hcz34_3
                      try clear hcz40_0
                      try clear hcz40_1
                      try clear hcz40_2
                      try clear hcz40_3
                      try clear hcz42_0
                      try clear hcz42_1
                      try clear hcz42_2
                      try clear hcz42_3
                      try clear hcz43_0
                      try clear hcz43_1
                      try clear hcz43_2
                      try clear hcz43_3
                      try clear hcz51_0
                      try clear hcz51_1
                      try clear hcz51_2
                      try clear hcz51_3
                      try clear hcz52_0
                      try clear hcz52_1
                      try clear hcz52_2
                      try clear hcz52_3
                      try clear hcz65_0
                      try clear hcz65_1
                      try clear hcz65_2
                      try clear hcz65_3
                      try clear hfz34_0
                      try clear hfz34_1
                      try clear hfz34_2
                      try clear hfz34_3
                      try clear hfz40_0
                      try clear hfz40_1
                      try clear hfz40_2
                      try clear hfz40_3
                      try clear hfz42_0
                      try clear hfz42_1
                      try clear hfz42_2
                      try clear hfz42_3
                      try clear hfz43_0
                      try clear hfz43_1
                      try clear hfz43_2
                      try clear hfz43_3
                      try clear hfz51_0
                      try clear hfz51_1
                      try clear hfz51_2
                      try clear hfz51_3
                      try clear hfz52_0
                      try clear hfz52_1
                      try clear hfz52_2
                      try clear hfz52_3
                      try clear hfz65_0
                      try clear hfz65_1
                      try clear hfz65_2
                      try clear hfz65_3
                      try clear hx238_0
                      try clear hx238_1
                      try clear hx238_2
                      try clear hx238_3
                      try clear hx240_0
                      try clear hx240_1
                      try clear hx240_2
                      try clear hx240_3
                      try clear hx241_0
                      try clear hx241_1
                      try clear hx241_2
                      try clear hx241_3
                      try clear hx242_0
                      try clear hx242_1
                      try clear hx242_2
                      try clear hx242_3
                      try clear hx243_0
                      try clear hx244_0
                      try clear hx244_1
                      try clear hx244_2
                      try clear hx244_3
                      try clear hx245_0
                      try clear hx246_0
                      try clear hx247_0
                      try clear hx248_0
                      try clear hx249_0
                      try clear hx249_1
                      try clear hx249_2
                      try clear hx249_3
                      try clear hx250_0
                      try clear hx64_0
                      try clear p2
                      try clear p23
                      try clear p238
                      try clear p24
                      try clear p240
                      try clear p241
                      try clear p242
                      try clear p243
                      try clear p244
                      try clear p245
                      try clear p246
                      try clear p247
                      try clear p248
                      try clear p249
                      try clear p250
                      try clear p6
                      try clear p64
                      try clear q2
                      try clear q23
                      try clear q238
                      try clear q24
                      try clear q240
                      try clear q241
                      try clear q242
                      try clear q243
                      try clear q244
                      try clear q245
                      try clear q246
                      try clear q247
                      try clear q248
                      try clear q249
                      try clear q250
                      try clear q64
                      obtain ⟨x16_3, x17_3, rfl, rfl, HA, HK3, HO_9, HB⟩ := hrel
                      cases gk with
                      | zero => exact absurd HA.out (by simp [storagebarterlaw28_DutyAll.l3])
                      | succ k3 =>
                        have H := HA.out
                        clear HA
                        simp only [storagebarterlaw28_DutyAll.l3] at H
                        by_cases c69 : x17_3 ≤ 4
                        · rw [if_pos c69] at H
                          have c69b0 : decide (x17_3 ≤ 4) = true := decide_eq_true c69
                          clear c69
                          replace H := Option.bind_eq_some_iff.mp H
                          obtain ⟨t252, A700, H⟩ := H
                          replace H : (storagebarterlaw28_DutyAll.l3 k3 x5_1 t232 (wrap64 (x16_3 + (t252.length : Int))) (wrap64 (x17_3 + 1))) = some r := H
                          have A70 := Aside0.mk A700
                          clear A700
                          have H' := Aside0.mk H
                          clear H
                          go_wp2_with (first | (go_at_call 30; (with_reducible refine (duty_Of.calls k3 _ _ t232 x17_3 t252 _ ?side1 ?side2 A70.out).mono ?_); (case side1 => repeat (first | exact (Kd.R_reads' HO_9.out).2.2 | (with_reducible refine Kd.C_alloc ?_ _) | (with_reducible refine Kd.C_drewN ?_ _) | (with_reducible refine Kd.C_drew ?_))); (case side2 => exact (Kd.R_reads' HO_9.out).2.1); rintro e w71 ⟨v253, rfl, ho0, hb⟩; have n0_ := Aside0.mk (Kd.R_below (by (with_reducible repeat (first | apply Kd.R_alloc | apply Kd.R_drewN | apply Kd.R_drew)); exact HO_9.out) hb); have n1_ := Aside0.mk (Kd.R_lower ho0 (below_size (by repeat (first | (with_reducible first | exact HB.out | apply below_alloc | apply pw_below_drewN | apply below_drew1) | exact HB.out)))); have n2_ := Aside0.mk (below_step (by repeat (first | (with_reducible first | exact HB.out | apply below_alloc | apply pw_below_drewN | apply below_drew1) | exact HB.out)) hb); clear HO_9; clear HB; have HO_9 := n0_; have HO254 := n1_; have HB := n2_; clear n0_ n1_ n2_; (try clear hb); (try clear hb2); (try clear hk); (try clear hi); (try clear hgw); (try clear ho0); obtain ⟨Ao72, co72, eo72⟩ := Kd.R_slice HO254.out; subst eo72))
                          repeat (go_quiet (first | (go_at_call 30; (with_reducible refine (duty_Of.calls k3 _ _ t232 x17_3 t252 _ ?side1 ?side2 A70.out).mono ?_); (case side1 => repeat (first | exact (Kd.R_reads' HO_9.out).2.2 | (with_reducible refine Kd.C_alloc ?_ _) | (with_reducible refine Kd.C_drewN ?_ _) | (with_reducible refine Kd.C_drew ?_))); (case side2 => exact (Kd.R_reads' HO_9.out).2.1); rintro e w71 ⟨v253, rfl, ho0, hb⟩; have n0_ := Aside0.mk (Kd.R_below (by (with_reducible repeat (first | apply Kd.R_alloc | apply Kd.R_drewN | apply Kd.R_drew)); exact HO_9.out) hb); have n1_ := Aside0.mk (Kd.R_lower ho0 (below_size (by repeat (first | (with_reducible first | exact HB.out | apply below_alloc | apply pw_below_drewN | apply below_drew1) | exact HB.out)))); have n2_ := Aside0.mk (below_step (by repeat (first | (with_reducible first | exact HB.out | apply below_alloc | apply pw_below_drewN | apply below_drew1) | exact HB.out)) hb); clear HO_9; clear HB; have HO_9 := n0_; have HO254 := n1_; have HB := n2_; clear n0_ n1_ n2_; (try clear hb); (try clear hb2); (try clear hk); (try clear hi); (try clear hgw); (try clear ho0); obtain ⟨Ao72, co72, eo72⟩ := Kd.R_slice HO254.out; subst eo72)); try go_wp2_with (first | (go_at_call 30; (with_reducible refine (duty_Of.calls k3 _ _ t232 x17_3 t252 _ ?side1 ?side2 A70.out).mono ?_); (case side1 => repeat (first | exact (Kd.R_reads' HO_9.out).2.2 | (with_reducible refine Kd.C_alloc ?_ _) | (with_reducible refine Kd.C_drewN ?_ _) | (with_reducible refine Kd.C_drew ?_))); (case side2 => exact (Kd.R_reads' HO_9.out).2.1); rintro e w71 ⟨v253, rfl, ho0, hb⟩; have n0_ := Aside0.mk (Kd.R_below (by (with_reducible repeat (first | apply Kd.R_alloc | apply Kd.R_drewN | apply Kd.R_drew)); exact HO_9.out) hb); have n1_ := Aside0.mk (Kd.R_lower ho0 (below_size (by repeat (first | (with_reducible first | exact HB.out | apply below_alloc | apply pw_below_drewN | apply below_drew1) | exact HB.out)))); have n2_ := Aside0.mk (below_step (by repeat (first | (with_reducible first | exact HB.out | apply below_alloc | apply pw_below_drewN | apply below_drew1) | exact HB.out)) hb); clear HO_9; clear HB; have HO_9 := n0_; have HO254 := n1_; have HB := n2_; clear n0_ n1_ n2_; (try clear hb); (try clear hb2); (try clear hk); (try clear hi); (try clear hgw); (try clear ho0); obtain ⟨Ao72, co72, eo72⟩ := Kd.R_slice HO254.out; subst eo72)))
                          go_roundg k3
                          case measure => have := HK1.out; have := HK2.out; have := HK3.out; omega
                          case rel => exact ⟨(wrap64 (x16_3 + (t252.length : Int))), (wrap64 (x17_3 + 1)), (by first | rfl | (simp; done) | (simp [*]; done)), (by first | rfl | (simp; done) | (simp [*]; done)), H', ⟨by have := HK1.out; have := HK2.out; have := HK3.out; omega⟩, ⟨by (with_reducible repeat (first | apply Kd.R_alloc | apply Kd.R_drewN | apply Kd.R_drew)); exact HO_9.out⟩, ⟨by repeat (first | (with_reducible first | exact HB.out | apply below_alloc | apply pw_below_drewN | apply below_drew1) | exact HB.out)⟩⟩
                        · rw [if_neg c69] at H
                          have c69b0 : decide (x17_3 ≤ 4) = false := decide_eq_false c69
                          clear c69
                          obtain rfl := Option.some.inj H
                          go_wp2
                          repeat (go_quiet (fail); try go_wp2)
                          go_ret
                          exact ⟨by first | rfl | (simp [errW_none, errW_some] <;> rfl) | (simp [*, errW_none, errW_some] <;> rfl), by repeat (first | (with_reducible first | exact HB.out | apply below_alloc | apply pw_below_drewN | apply below_drew1) | exact HB.out)⟩
            · rw [if_neg c23] at H
              exact absurd H (by simp)
          · rw [if_neg c22] at H
            have c22b0 : ((t232.length : Int) == x5_1) = false := beq_eq_false_iff_ne.mpr c22
            have c22b1 : ((t232.length : Int) != x5_1) = true := bne_iff_ne.mpr c22
            exact absurd (Option.some.inj H) (by rw [HRT_.out]; decide)
  · replace c3 := Bool.eq_false_iff.mpr c3
    subst c3
    have H1 : (some false) = some r := by rw [if_neg (show ¬ (false = true) by decide)] at H; exact H
    clear H
    have H := H1
    clear H1
    exact absurd (Option.some.inj H) (by rw [HRT_.out]; decide)

/-- THE ONE PURE STATEMENT of storagebarterlaw28_DutyAll: yours. -/
def storagebarterlaw28_DutyAll.Pure : Prop := ∀ (l0 : List Int), l0.length ≤ maxLen → l0.length * 1 ≤ 140737488351232 → (∀ x ∈ l0, (Lit.int .u8 x).wf = true) → ∃ k, storagebarterlaw28_DutyAll.f k l0 = some true
theorem storagebarterlaw28_DutyAll.walk (P : storagebarterlaw28_DutyAll.Pure) (a0 : Option Addr) (len0 cap0 : Nat) (z0 : List Int) (w : World) (w0 : (a0 = none ∧ len0 = 0 ∧ cap0 = 0 ∧ z0 = []) ∨ ∃ x, a0 = some x ∧ len0 ≤ cap0 ∧ cap0 ≤ maxLen ∧ z0.length = cap0 ∧ (∀ i, i < z0.length → w.cell? (x.add i) = some (.int .u8 (z0.getD i 0))) ∧ ∀ n ∈ z0, (Lit.int .u8 n).wf = true) (y0 : len0 * 1 ≤ 140737488351232) (hL_ : Laid w) :
    Calls Tryd.prog 7 #[.slice a0 len0 cap0] w fun e w' => e = .returned (.bool true) ∧ Below w.heap.size w w' := by
  obtain ⟨l0, rfl, hr0, hm0, hw0, hc0⟩ := ReadsInt.ofRowC w0
  obtain ⟨k, h⟩ := P l0 hm0 y0 hw0
  refine (storagebarterlaw28_DutyAll.calls k _ _ l0 true w (Kd.C_of_reads (d := (0 : Int)) (h1 := fun _ => rfl) hr0) hc0 h rfl hL_).mono ?_
  rintro e w' ⟨rfl, hd⟩
  exact ⟨rfl, hd⟩

end Go.Proofs.YtgckkjgemkabnaaDoor.PDutyAll
