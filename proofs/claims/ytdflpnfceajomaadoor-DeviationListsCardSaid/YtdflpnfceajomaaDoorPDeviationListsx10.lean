-- Written by a program of this repository (wip/tools/myprint.py over the print of the kit): contracts and rows.
import Derived.Test.YtdflpnfceajomaaDoorPDeviationListsx0
import Derived.Test.YtdflpnfceajomaaDoorPDeviationListsx2
import Derived.Test.YtdflpnfceajomaaDoorPDeviationListsx3
import Derived.Test.YtdflpnfceajomaaDoorPDeviationListsx6
import Derived.Test.YtdflpnfceajomaaDoorPDeviationListsx9
namespace Go.Proofs.YtdflpnfceajomaaDoor.PDeviationLists
open Go.RowKit Go.Proofs.YtdflpnfceajomaaDoorW.PrintWords Go.Proofs.YtdflpnfceajomaaDoorW.PrintLast Go.Proofs.YtdflpnfceajomaaDoorW.PrintMore
attribute [local go_sem] max2_int min2_int max_two min_two max_three min_three max_four min_four   -- for this text's walks alone
set_option linter.unusedVariables false
set_option linter.unusedSimpArgs false

/-! ### storagebarterlaw30_DeviationLists: function 3 -/
mutual
def storagebarterlaw30_DeviationLists.l0 : Nat → List (S56) → List (S56) → List (S28) → Int → Int → Option (Bool)
  | 0, _, _, _, _, _ => none
  | k + 1, x1, x10, x42, x43, x44 => if x44 < x43 then (if 0 ≤ x44 then (if x44 < (x42.length : Int) then (if 0 ≤ (mn (x10.length : Int) 9) then (if (mn (x10.length : Int) 9) ≤ (x10.length : Int) then ((some (([x10, x1, (x10.take ((mn (x10.length : Int) 9) : Int).toNat)] : List (List (S56))) : List (List (S56)))).bind fun y332 => (storagebarterlaw30_DeviationLists.l1 k x1 x10 x42 x43 x44 y332 (y332.length : Int) 0 ((rd_T28 x42 x44).f0) ((rd_T28 x42 x44).f1))) else (none)) else (none)) else (none)) else (none)) else (some true)
def storagebarterlaw30_DeviationLists.l1 : Nat → List (S56) → List (S56) → List (S28) → Int → Int → List (List (S56)) → Int → Int → Int → Int → Option (Bool)
  | 0, _, _, _, _, _, _, _, _, _, _ => none
  | k + 1, x1, x10, x42, x43, x44, x55, x56, x57, x326000, x326001 => if x57 < x56 then (if 0 ≤ x57 then (if x57 < (x55.length : Int) then (if ((rd_L4 x55 x57).length : Int) > 12 then (if x326001 > 2 then (storagebarterlaw30_DeviationLists.l1 k x1 x10 x42 x43 x44 x55 x56 (wrap64 (x57 + 1)) x326000 x326001) else ((deviation_All.f k (rd_L4 x55 x57) x326000 x326001).bind fun bt336 => ((storagebarterref30_All.f k (rd_L4 x55 x57) x326000 x326001).bind fun bt340 => (if bt336.2 = bt340.2 then (if (bt336.1.length : Int) = (bt340.1.length : Int) then (storagebarterlaw30_DeviationLists.l2 k x1 x10 bt336.1 bt340.1 x42 x43 x44 x55 x56 x57 (bt340.1.length : Int) 0 x326000 x326001) else (some false)) else (some false))))) else ((deviation_All.f k (rd_L4 x55 x57) x326000 x326001).bind fun bt347 => ((storagebarterref30_All.f k (rd_L4 x55 x57) x326000 x326001).bind fun bt351 => (if bt347.2 = bt351.2 then (if (bt347.1.length : Int) = (bt351.1.length : Int) then (storagebarterlaw30_DeviationLists.l2 k x1 x10 bt347.1 bt351.1 x42 x43 x44 x55 x56 x57 (bt351.1.length : Int) 0 x326000 x326001) else (some false)) else (some false))))) else (none)) else (none)) else (storagebarterlaw30_DeviationLists.l0 k x1 x10 x42 x43 (wrap64 (x44 + 1)))
def storagebarterlaw30_DeviationLists.l2 : Nat → List (S56) → List (S56) → List (S39) → List (S39) → List (S28) → Int → Int → List (List (S56)) → Int → Int → Int → Int → Int → Int → Option (Bool)
  | 0, _, _, _, _, _, _, _, _, _, _, _, _, _, _ => none
  | k + 1, x1, x10, x15, x17, x42, x43, x44, x55, x56, x57, x98, x99, x326000, x326001 => if x99 < x98 then (if 0 ≤ x99 then (if x99 < (x15.length : Int) then (if x99 < (x17.length : Int) then ((storagebarterref30_Same.f k ((rd_T39 x15 x99).f0) ((rd_T39 x15 x99).f1) ((rd_T39 x17 x99).f0) ((rd_T39 x17 x99).f1)).bind fun t346 => (if t346 = true then (storagebarterlaw30_DeviationLists.l2 k x1 x10 x15 x17 x42 x43 x44 x55 x56 x57 x98 (wrap64 (x99 + 1)) x326000 x326001) else (some false))) else (none)) else (none)) else (none)) else (storagebarterlaw30_DeviationLists.l1 k x1 x10 x42 x43 x44 x55 x56 (wrap64 (x57 + 1)) x326000 x326001)
end
def storagebarterlaw30_DeviationLists.f (k : Nat) (l0 : List Int) (l1 : List (S56)) (a2 : Int) (a3 : Int) : Option (Bool) := (storagebarterlaw30_sane.f k).bind fun t309 => (if t309 = true then (if (l1.length : Int) > 12 then (some true) else ((storagebarterplay_New.f l0).bind fun bt310 => ((storagebarterlaw30_plan.f k bt310.1 bt310.2).bind fun bt313 => ((storagebarterplay_Dice_Pick.f bt310.1 bt313.2 3).bind fun bt317 => ((storagebarterplay_Dice_Pick.f bt310.1 bt317.2 3).bind fun bt319 => ((some (([(⟨a2, a3⟩ : S28), (⟨wrap64 (1 + bt317.1), bt319.1⟩ : S28), (⟨1, (-1)⟩ : S28), (⟨0, 1⟩ : S28), (⟨16, 1⟩ : S28), (⟨17, 1⟩ : S28)] : List (S28)) : List (S28))).bind fun y321 => (storagebarterlaw30_DeviationLists.l0 k l1 bt313.1 y321 (y321.length : Int) 0))))))) else (some false))
theorem storagebarterlaw30_DeviationLists.mono_l : ∀ k, (∀ y0 y1 y2 y3 y4, LeO (storagebarterlaw30_DeviationLists.l0 k y0 y1 y2 y3 y4) (storagebarterlaw30_DeviationLists.l0 (k + 1) y0 y1 y2 y3 y4)) ∧ (∀ y0 y1 y2 y3 y4 y5 y6 y7 y8 y9, LeO (storagebarterlaw30_DeviationLists.l1 k y0 y1 y2 y3 y4 y5 y6 y7 y8 y9) (storagebarterlaw30_DeviationLists.l1 (k + 1) y0 y1 y2 y3 y4 y5 y6 y7 y8 y9)) ∧ (∀ y0 y1 y2 y3 y4 y5 y6 y7 y8 y9 y10 y11 y12 y13, LeO (storagebarterlaw30_DeviationLists.l2 k y0 y1 y2 y3 y4 y5 y6 y7 y8 y9 y10 y11 y12 y13) (storagebarterlaw30_DeviationLists.l2 (k + 1) y0 y1 y2 y3 y4 y5 y6 y7 y8 y9 y10 y11 y12 y13))
  | 0 => ⟨fun _ _ _ _ _ r h => by simp [storagebarterlaw30_DeviationLists.l0] at h, fun _ _ _ _ _ _ _ _ _ _ r h => by simp [storagebarterlaw30_DeviationLists.l1] at h, fun _ _ _ _ _ _ _ _ _ _ _ _ _ _ r h => by simp [storagebarterlaw30_DeviationLists.l2] at h⟩
  | k + 1 => by
    obtain ⟨ih0, ih1, ih2⟩ := storagebarterlaw30_DeviationLists.mono_l k
    refine ⟨?_, ?_, ?_⟩
    · intro y0 y1 y2 y3 y4
      unfold storagebarterlaw30_DeviationLists.l0
      repeat' first
      | (with_reducible exact ih0 _ _ _ _ _)
      | (with_reducible exact ih1 _ _ _ _ _ _ _ _ _ _)
      | (with_reducible exact ih2 _ _ _ _ _ _ _ _ _ _ _ _ _ _)
      | (with_reducible exact deviation_All.mono _ _ _ _)
      | (with_reducible exact storagebarterlaw30_plan.mono _ _ _)
      | (with_reducible exact storagebarterlaw30_sane.mono _)
      | (with_reducible exact storagebarterref30_All.mono _ _ _ _)
      | (with_reducible exact storagebarterref30_Same.mono _ _ _ _ _)
      | (with_reducible exact LeO.refl _)
      | (with_reducible exact LeO.none _)
      | (with_reducible refine LeO.ite ?_ ?_)
      | (with_reducible refine LeO.bind ?_ (fun _ => ?_))
      | exact ih0 _ _ _ _ _
      | exact ih1 _ _ _ _ _ _ _ _ _ _
      | exact ih2 _ _ _ _ _ _ _ _ _ _ _ _ _ _
      | exact deviation_All.mono _ _ _ _
      | exact storagebarterlaw30_plan.mono _ _ _
      | exact storagebarterlaw30_sane.mono _
      | exact storagebarterref30_All.mono _ _ _ _
      | exact storagebarterref30_Same.mono _ _ _ _ _
      | exact LeO.none _
      | refine LeO.ite ?_ ?_
      | refine LeO.bind ?_ (fun _ => ?_)
    · intro y0 y1 y2 y3 y4 y5 y6 y7 y8 y9
      unfold storagebarterlaw30_DeviationLists.l1
      repeat' first
      | (with_reducible exact ih0 _ _ _ _ _)
      | (with_reducible exact ih1 _ _ _ _ _ _ _ _ _ _)
      | (with_reducible exact ih2 _ _ _ _ _ _ _ _ _ _ _ _ _ _)
      | (with_reducible exact deviation_All.mono _ _ _ _)
      | (with_reducible exact storagebarterlaw30_plan.mono _ _ _)
      | (with_reducible exact storagebarterlaw30_sane.mono _)
      | (with_reducible exact storagebarterref30_All.mono _ _ _ _)
      | (with_reducible exact storagebarterref30_Same.mono _ _ _ _ _)
      | (with_reducible exact LeO.refl _)
      | (with_reducible exact LeO.none _)
      | (with_reducible refine LeO.ite ?_ ?_)
      | (with_reducible refine LeO.bind ?_ (fun _ => ?_))
      | exact ih0 _ _ _ _ _
      | exact ih1 _ _ _ _ _ _ _ _ _ _
      | exact ih2 _ _ _ _ _ _ _ _ _ _ _ _ _ _
      | exact deviation_All.mono _ _ _ _
      | exact storagebarterlaw30_plan.mono _ _ _
      | exact storagebarterlaw30_sane.mono _
      | exact storagebarterref30_All.mono _ _ _ _
      | exact storagebarterref30_Same.mono _ _ _ _ _
      | exact LeO.none _
      | refine LeO.ite ?_ ?_
      | refine LeO.bind ?_ (fun _ => ?_)
    · intro y0 y1 y2 y3 y4 y5 y6 y7 y8 y9 y10 y11 y12 y13
      unfold storagebarterlaw30_DeviationLists.l2
      repeat' first
      | (with_reducible exact ih0 _ _ _ _ _)
      | (with_reducible exact ih1 _ _ _ _ _ _ _ _ _ _)
      | (with_reducible exact ih2 _ _ _ _ _ _ _ _ _ _ _ _ _ _)
      | (with_reducible exact deviation_All.mono _ _ _ _)
      | (with_reducible exact storagebarterlaw30_plan.mono _ _ _)
      | (with_reducible exact storagebarterlaw30_sane.mono _)
      | (with_reducible exact storagebarterref30_All.mono _ _ _ _)
      | (with_reducible exact storagebarterref30_Same.mono _ _ _ _ _)
      | (with_reducible exact LeO.refl _)
      | (with_reducible exact LeO.none _)
      | (with_reducible refine LeO.ite ?_ ?_)
      | (with_reducible refine LeO.bind ?_ (fun _ => ?_))
      | exact ih0 _ _ _ _ _
      | exact ih1 _ _ _ _ _ _ _ _ _ _
      | exact ih2 _ _ _ _ _ _ _ _ _ _ _ _ _ _
      | exact deviation_All.mono _ _ _ _
      | exact storagebarterlaw30_plan.mono _ _ _
      | exact storagebarterlaw30_sane.mono _
      | exact storagebarterref30_All.mono _ _ _ _
      | exact storagebarterref30_Same.mono _ _ _ _ _
      | exact LeO.none _
      | refine LeO.ite ?_ ?_
      | refine LeO.bind ?_ (fun _ => ?_)
theorem storagebarterlaw30_DeviationLists.mono : ∀ a0 a1 a2 a3 k, LeO (storagebarterlaw30_DeviationLists.f k a0 a1 a2 a3) (storagebarterlaw30_DeviationLists.f (k + 1) a0 a1 a2 a3) := by
  intro a0 a1 a2 a3 k
  obtain ⟨ih0, ih1, ih2⟩ := storagebarterlaw30_DeviationLists.mono_l k
  unfold storagebarterlaw30_DeviationLists.f
  repeat' first
      | (with_reducible exact ih0 _ _ _ _ _)
      | (with_reducible exact ih1 _ _ _ _ _ _ _ _ _ _)
      | (with_reducible exact ih2 _ _ _ _ _ _ _ _ _ _ _ _ _ _)
      | (with_reducible exact deviation_All.mono _ _ _ _)
      | (with_reducible exact storagebarterlaw30_plan.mono _ _ _)
      | (with_reducible exact storagebarterlaw30_sane.mono _)
      | (with_reducible exact storagebarterref30_All.mono _ _ _ _)
      | (with_reducible exact storagebarterref30_Same.mono _ _ _ _ _)
      | (with_reducible exact LeO.refl _)
      | (with_reducible exact LeO.none _)
      | (with_reducible refine LeO.ite ?_ ?_)
      | (with_reducible refine LeO.bind ?_ (fun _ => ?_))
      | exact ih0 _ _ _ _ _
      | exact ih1 _ _ _ _ _ _ _ _ _ _
      | exact ih2 _ _ _ _ _ _ _ _ _ _ _ _ _ _
      | exact deviation_All.mono _ _ _ _
      | exact storagebarterlaw30_plan.mono _ _ _
      | exact storagebarterlaw30_sane.mono _
      | exact storagebarterref30_All.mono _ _ _ _
      | exact storagebarterref30_Same.mono _ _ _ _ _
      | exact LeO.none _
      | refine LeO.ite ?_ ?_
      | refine LeO.bind ?_ (fun _ => ?_)
def storagebarterlaw30_DeviationLists.T21 : Bool × List (List Nat × List Nat) := (true, [([], []), ([], []), ([0, 1], [0, 1]), ([2], [2]), ([], []), ([], []), ([4, 5], [4, 5]), ([6], [6]), ([3, 7], [3, 7]), ([8], [8])])
def storagebarterlaw30_DeviationLists.B21 : List Nat := [0, 0, 3, 7, 0, 0, 48, 112, 255, 511]
theorem storagebarterlaw30_DeviationLists.tab21 : rtab .any (opsOf Tryd.f3 21) = storagebarterlaw30_DeviationLists.T21 := by kernel_rfl
theorem storagebarterlaw30_DeviationLists.bits21 : waitsOk storagebarterlaw30_DeviationLists.T21.2 storagebarterlaw30_DeviationLists.B21 = true := by kernel_rfl
set_option maxHeartbeats 60000000 in
set_option maxRecDepth 100000 in
theorem storagebarterlaw30_DeviationLists.calls (k : Nat) (A0 : Option Addr) (c0 : Nat) (l0 : List Int) (P1_ : Nat → Prop) (A1 : Option Addr) (c1 : Nat) (l1 : List (S56)) (a2 : Int) (a3 : Int) (r : Bool) (w : World) (hr0 : Kd.C (Kd.int .u8) w A0 l0.length l0) (hc0 : l0.length ≤ c0) (hs1 : Kd.V k56 56 w w.heap.size (fun k_ => P1_ k_) (.slice A1 l1.length c1) l1) (h : storagebarterlaw30_DeviationLists.f k l0 l1 a2 a3 = some r) (hrt_ : r = true) (hL_ : Laid w) :
    Calls Tryd.prog 3 #[.slice A0 l0.length c0, .slice A1 l1.length c1, .int .i64 a2, .int .i64 a3] w fun e w' => e = .returned (.bool r) ∧ Below w.heap.size w w' := by
  have HL_ := Aside0.mk hL_
  clear hL_
  have HRT_ := Aside0.mk hrt_
  clear hrt_
  have hu28 := Tryd.underlying28
  have hu39 := Tryd.underlying39
  have HR0 := Aside0.mk hr0
  have HC0 := Aside0.mk hc0
  clear hr0 hc0
  have HO1 := Aside0.mk (show Kd.V k56 56 w w.heap.size (fun k_ => (P1_ k_ ∨ w.heap.size ≤ k_)) (.slice A1 l1.length c1) l1 from Kd.V_mono hs1 (fun k_ hk => .inl hk))
  have HB := Aside0.mk (Below.refl w.heap.size w)
  have H : ((storagebarterlaw30_sane.f k).bind fun t309 => (if t309 = true then (if (l1.length : Int) > 12 then (some true) else ((storagebarterplay_New.f l0).bind fun bt310 => ((storagebarterlaw30_plan.f k bt310.1 bt310.2).bind fun bt313 => ((storagebarterplay_Dice_Pick.f bt310.1 bt313.2 3).bind fun bt317 => ((storagebarterplay_Dice_Pick.f bt310.1 bt317.2 3).bind fun bt319 => ((some (([(⟨a2, a3⟩ : S28), (⟨wrap64 (1 + bt317.1), bt319.1⟩ : S28), (⟨1, (-1)⟩ : S28), (⟨0, 1⟩ : S28), (⟨16, 1⟩ : S28), (⟨17, 1⟩ : S28)] : List (S28)) : List (S28))).bind fun y321 => (storagebarterlaw30_DeviationLists.l0 k l1 bt313.1 y321 (y321.length : Int) 0))))))) else (some false))) = some r := h
  clear h
  replace H := Option.bind_eq_some_iff.mp H
  obtain ⟨t309, A50, H⟩ := H
  replace H : (if t309 = true then (if (l1.length : Int) > 12 then (some true) else ((storagebarterplay_New.f l0).bind fun bt310 => ((storagebarterlaw30_plan.f k bt310.1 bt310.2).bind fun bt313 => ((storagebarterplay_Dice_Pick.f bt310.1 bt313.2 3).bind fun bt317 => ((storagebarterplay_Dice_Pick.f bt310.1 bt317.2 3).bind fun bt319 => ((some (([(⟨a2, a3⟩ : S28), (⟨wrap64 (1 + bt317.1), bt319.1⟩ : S28), (⟨1, (-1)⟩ : S28), (⟨0, 1⟩ : S28), (⟨16, 1⟩ : S28), (⟨17, 1⟩ : S28)] : List (S28)) : List (S28))).bind fun y321 => (storagebarterlaw30_DeviationLists.l0 k l1 bt313.1 y321 (y321.length : Int) 0))))))) else (some false)) = some r := H
  have A5 := Aside0.mk A50
  clear A50
  by_cases c6 : t309 = true
  · subst c6
    have H1 : (if (l1.length : Int) > 12 then (some true) else ((storagebarterplay_New.f l0).bind fun bt310 => ((storagebarterlaw30_plan.f k bt310.1 bt310.2).bind fun bt313 => ((storagebarterplay_Dice_Pick.f bt310.1 bt313.2 3).bind fun bt317 => ((storagebarterplay_Dice_Pick.f bt310.1 bt317.2 3).bind fun bt319 => ((some (([(⟨a2, a3⟩ : S28), (⟨wrap64 (1 + bt317.1), bt319.1⟩ : S28), (⟨1, (-1)⟩ : S28), (⟨0, 1⟩ : S28), (⟨16, 1⟩ : S28), (⟨17, 1⟩ : S28)] : List (S28)) : List (S28))).bind fun y321 => (storagebarterlaw30_DeviationLists.l0 k l1 bt313.1 y321 (y321.length : Int) 0))))))) = some r := by rw [if_pos rfl] at H; exact H
    clear H
    have H := H1
    clear H1
    by_cases c7 : (l1.length : Int) > 12
    · rw [if_pos c7] at H
      have c7b0 : decide (12 < (l1.length : Int)) = true := decide_eq_true c7
      have c7b1 : decide (12 < l1.length) = true := decide_eq_true (by omega)
      clear c7
      obtain rfl := Option.some.inj H
      go_enter Tryd.func3, Tryd.ntmps3
      go_wp2_with (first | ((with_reducible refine gate_callee (f := 8) rfl ?_); refine goesL_ (some 20) rfl rfl Tryd.func8 (by kernel_rfl) rfl #[] rfl (by (try simp only [List.map_toArray, List.map_cons, List.map_nil]); first | done | rfl | (simp only [List.length_drop, List.length_take]; rfl)) ?_; (with_reducible refine (storagebarterlaw30_sane.calls k  true _ A5.out (by first | exact HL_.out | exact laid_below HL_.out (by repeat (first | (with_reducible first | exact HB.out | apply below_alloc | apply pw_below_drewN | apply below_drew1) | refine below_set ?_ (Aside0.out (by assumption)) | exact HB.out)) | exact laid_drawn HL_.out HD.out | exact laid_drawn HL_.out (HD.out.step _))).mono ?_); rintro e w8 ⟨rfl, hb⟩; refine ⟨_, rfl, ?_⟩; have n0_ := Aside0.mk (Kd.V_below (by (with_reducible repeat (first | apply Kd.V_alloc | apply Kd.V_drewN | apply Kd.V_drew)); exact HO1.out) hb); have n1_ := Aside0.mk (below_step (by repeat (first | (with_reducible first | exact HB.out | apply below_alloc | apply pw_below_drewN | apply below_drew1) | exact HB.out)) hb); clear HO1; clear HB; have HO1 := n0_; have HB := n1_; clear n0_ n1_; (try clear hb); (try clear hb2); (try clear hk); (try clear hi); (try clear hgw)))
      go_ret
      exact ⟨by first | rfl | (simp [errW_none, errW_some] <;> rfl) | (simp [*, errW_none, errW_some] <;> rfl), by repeat (first | (with_reducible first | exact HB.out | apply below_alloc | apply pw_below_drewN | apply below_drew1) | exact HB.out)⟩
    · rw [if_neg c7] at H
      have c7b0 : decide (12 < (l1.length : Int)) = false := decide_eq_false c7
      have c7b1 : decide (12 < l1.length) = false := decide_eq_false (by omega)
      clear c7
      replace H := Option.bind_eq_some_iff.mp H
      obtain ⟨⟨t310, t311⟩, A90, H⟩ := H
      replace H : ((storagebarterlaw30_plan.f k t310 t311).bind fun bt313 => ((storagebarterplay_Dice_Pick.f t310 bt313.2 3).bind fun bt317 => ((storagebarterplay_Dice_Pick.f t310 bt317.2 3).bind fun bt319 => ((some (([(⟨a2, a3⟩ : S28), (⟨wrap64 (1 + bt317.1), bt319.1⟩ : S28), (⟨1, (-1)⟩ : S28), (⟨0, 1⟩ : S28), (⟨16, 1⟩ : S28), (⟨17, 1⟩ : S28)] : List (S28)) : List (S28))).bind fun y321 => (storagebarterlaw30_DeviationLists.l0 k l1 bt313.1 y321 (y321.length : Int) 0))))) = some r := H
      have A9 := Aside0.mk A90
      clear A90
      replace H := Option.bind_eq_some_iff.mp H
      obtain ⟨⟨t313, t316⟩, A100, H⟩ := H
      replace H : ((storagebarterplay_Dice_Pick.f t310 t316 3).bind fun bt317 => ((storagebarterplay_Dice_Pick.f t310 bt317.2 3).bind fun bt319 => ((some (([(⟨a2, a3⟩ : S28), (⟨wrap64 (1 + bt317.1), bt319.1⟩ : S28), (⟨1, (-1)⟩ : S28), (⟨0, 1⟩ : S28), (⟨16, 1⟩ : S28), (⟨17, 1⟩ : S28)] : List (S28)) : List (S28))).bind fun y321 => (storagebarterlaw30_DeviationLists.l0 k l1 t313 y321 (y321.length : Int) 0)))) = some r := H
      have A10 := Aside0.mk A100
      clear A100
      replace H := Option.bind_eq_some_iff.mp H
      obtain ⟨⟨t317, t318⟩, A110, H⟩ := H
      replace H : ((storagebarterplay_Dice_Pick.f t310 t318 3).bind fun bt319 => ((some (([(⟨a2, a3⟩ : S28), (⟨wrap64 (1 + t317), bt319.1⟩ : S28), (⟨1, (-1)⟩ : S28), (⟨0, 1⟩ : S28), (⟨16, 1⟩ : S28), (⟨17, 1⟩ : S28)] : List (S28)) : List (S28))).bind fun y321 => (storagebarterlaw30_DeviationLists.l0 k l1 t313 y321 (y321.length : Int) 0))) = some r := H
      have A11 := Aside0.mk A110
      clear A110
      replace H := Option.bind_eq_some_iff.mp H
      obtain ⟨⟨t319, t320⟩, A120, H⟩ := H
      replace H : ((some (([(⟨a2, a3⟩ : S28), (⟨wrap64 (1 + t317), t319⟩ : S28), (⟨1, (-1)⟩ : S28), (⟨0, 1⟩ : S28), (⟨16, 1⟩ : S28), (⟨17, 1⟩ : S28)] : List (S28)) : List (S28))).bind fun y321 => (storagebarterlaw30_DeviationLists.l0 k l1 t313 y321 (y321.length : Int) 0)) = some r := H
      have A12 := Aside0.mk A120
      clear A120
      obtain ⟨y321, hy321⟩ : ∃ y_ : List (S28), y_ = (([(⟨a2, a3⟩ : S28), (⟨wrap64 (1 + t317), t319⟩ : S28), (⟨1, (-1)⟩ : S28), (⟨0, 1⟩ : S28), (⟨16, 1⟩ : S28), (⟨17, 1⟩ : S28)] : List (S28))) := ⟨_, rfl⟩
      replace H : (storagebarterlaw30_DeviationLists.l0 k l1 t313 y321 (y321.length : Int) 0) = some r := by first | (rw [hy321]; with_reducible exact H) | (have H2_ := (Option.bind_some _ _).symm.trans H; rw [hy321]; with_reducible exact H2_) | (have H2_ := (Option.bind_some _ _).symm.trans H; with_reducible exact H2_) | with_reducible exact H | (rw [hy321]; exact H) | exact H
      have Ny321 := Aside0.mk hy321
      clear hy321
      have H' := Aside0.mk H
      clear H
      go_enter Tryd.func3, Tryd.ntmps3
      go_wp2_with (first | ((with_reducible refine gate_callee (f := 8) rfl ?_); refine goesL_ (some 20) rfl rfl Tryd.func8 (by kernel_rfl) rfl #[] rfl (by (try simp only [List.map_toArray, List.map_cons, List.map_nil]); first | done | rfl | (simp only [List.length_drop, List.length_take]; rfl)) ?_; (with_reducible refine (storagebarterlaw30_sane.calls k  true _ A5.out (by first | exact HL_.out | exact laid_below HL_.out (by repeat (first | (with_reducible first | exact HB.out | apply below_alloc | apply pw_below_drewN | apply below_drew1) | refine below_set ?_ (Aside0.out (by assumption)) | exact HB.out)) | exact laid_drawn HL_.out HD.out | exact laid_drawn HL_.out (HD.out.step _))).mono ?_); rintro e w13 ⟨rfl, hb⟩; refine ⟨_, rfl, ?_⟩; have n0_ := Aside0.mk (Kd.V_below (by (with_reducible repeat (first | apply Kd.V_alloc | apply Kd.V_drewN | apply Kd.V_drew)); exact HO1.out) hb); have n1_ := Aside0.mk (below_step (by repeat (first | (with_reducible first | exact HB.out | apply below_alloc | apply pw_below_drewN | apply below_drew1) | exact HB.out)) hb); clear HO1; clear HB; have HO1 := n0_; have HB := n1_; clear n0_ n1_; (try clear hb); (try clear hb2); (try clear hk); (try clear hi); (try clear hgw)) | ((with_reducible refine gate_callee (f := 9) rfl ?_); refine goesL_ (some 26) rfl rfl Tryd.func9 (by kernel_rfl) rfl #[.slice A0 l0.length c0] rfl (by (try simp only [List.map_toArray, List.map_cons, List.map_nil]); first | done | rfl | (simp only [List.length_drop, List.length_take]; rfl)) ?_; (with_reducible refine (storagebarterplay_New.calls _ _ l0 t310 t311 w _ ?side1 ?side2 ?side3 A9.out).mono ?_); (case side1 => repeat (first | (with_reducible first | exact HB.out | apply below_alloc | apply pw_below_drewN | apply below_drew1) | exact HB.out)); (case side2 => exact HR0.out); (case side3 => exact HC0.out); rintro e w14 ⟨g312, rfl, hi, hb, hb2, hgw⟩; refine ⟨_, rfl, ?_⟩; have n0_ := Aside0.mk (Kd.V_below (Kd.V_elderB (by (with_reducible repeat (first | apply Kd.V_alloc | apply Kd.V_drewN | apply Kd.V_drew)); exact HO1.out) g312 hgw) hb2); have n1_ := Aside0.mk (hb); have n2_ := Aside0.mk (hi); clear HO1; clear HB; have HO1 := n0_; have HB := n1_; have HI312 := n2_; clear n0_ n1_ n2_; (try clear hb); (try clear hb2); (try clear hk); (try clear hi); (try clear hgw)) | ((with_reducible refine gate_callee (f := 10) rfl ?_); refine goesL_ (some 28) rfl rfl Tryd.func10 (by kernel_rfl) rfl #[.pointer (some ⟨g312, 0, none⟩)] rfl (by (try simp only [List.map_toArray, List.map_cons, List.map_nil]); first | done | rfl | (simp only [List.length_drop, List.length_take]; rfl)) ?_; (with_reducible refine (storagebarterlaw30_plan.calls k g312 t310 t311 t313 t316 w _ ?side1 ?side2 A10.out).mono ?_); (case side1 => repeat (first | (with_reducible first | exact HI312.out | apply IsS58.alloc | apply IsS58.drewN | apply IsS58.drew | apply IsS58.set_1) | exact HI312.out)); (case side2 => repeat (first | (with_reducible first | exact HB.out | apply below_alloc | apply pw_below_drewN | apply below_drew1 | refine below_set ?_ (IsS58.ge HI312.out)) | exact HB.out)); rintro e w15 ⟨v314, rfl, ho0, hi, hb, hk⟩; refine ⟨_, rfl, ?_⟩; have n0_ := Aside0.mk (Kd.V_mono (Kd.V_told (Kd.V_oldK (Kd.V_mono (ok := fun k_ => (((P1_ k_ ∨ w.heap.size ≤ k_)) ∧ k_ ≠ g312)) (by (with_reducible repeat (first | apply Kd.V_alloc | apply Kd.V_drewN | apply Kd.V_drew)); exact HO1.out) (fun k_ hk_ => (⟨hk_, hk_.2⟩ : _ ∧ k_ ≠ g312))) hk) (Kd.R_base ho0)) (fun _ h_ => h_.1)); have n1_ := Aside0.mk (Kd.R_lower (Kd.R_newM (M := fun k_ => (w.heap.size ≤ k_)) ho0 (below_size (by repeat (first | (with_reducible first | exact HB.out | apply below_alloc | apply pw_below_drewN | apply below_drew1 | refine below_set ?_ (IsS58.ge HI312.out)) | exact HB.out))) (fun k_ h_ => h_)) (below_size (by repeat (first | (with_reducible first | exact HB.out | apply below_alloc | apply pw_below_drewN | apply below_drew1 | refine below_set ?_ (IsS58.ge HI312.out)) | exact HB.out)))); have n2_ := Aside0.mk (hb); have n3_ := Aside0.mk (hi); clear HO1; clear HB; clear HI312; have HO1 := n0_; have HO315 := n1_; have HB := n2_; have HI312 := n3_; clear n0_ n1_ n2_ n3_; (try clear hb); (try clear hb2); (try clear hk); (try clear hi); (try clear hgw); (try clear ho0)) | ((with_reducible refine gate_callee (f := 11) rfl ?_); refine goesL_ (some 33) rfl rfl Tryd.func11 (by kernel_rfl) rfl #[.pointer (some ⟨g312, 0, none⟩), .int .i64 3] rfl (by (try simp only [List.map_toArray, List.map_cons, List.map_nil]); first | done | rfl | (simp only [List.length_drop, List.length_take]; rfl)) ?_; (with_reducible refine (storagebarterplay_Dice_Pick.calls g312 t310 t316 3 t317 t318 w _ ?side1 ?side2 A11.out).mono ?_); (case side1 => repeat (first | (with_reducible first | exact HI312.out | apply IsS58.alloc | apply IsS58.drewN | apply IsS58.drew | apply IsS58.set_1) | exact HI312.out)); (case side2 => repeat (first | (with_reducible first | exact HB.out | apply below_alloc | apply pw_below_drewN | apply below_drew1 | refine below_set ?_ (IsS58.ge HI312.out)) | exact HB.out)); rintro e w16 ⟨rfl, hi, hb, hk⟩; refine ⟨_, rfl, ?_⟩; have n0_ := Aside0.mk (Kd.V_mono (Kd.V_keep (Kd.V_mono (ok := fun k_ => ((((P1_ k_ ∨ w.heap.size ≤ k_)) ∧ k_ ≠ g312) ∧ some k_ ≠ (v314 : Value).ownBlock)) (by (with_reducible repeat (first | apply Kd.V_alloc | apply Kd.V_drewN | apply Kd.V_drew)); exact HO1.out) (fun k_ hk_ => (⟨hk_, hk_.1.2⟩ : _ ∧ k_ ≠ g312))) hk (fun _ h => h.2)) (fun _ h => h.1)); have n1_ := Aside0.mk (Kd.R_mono (Kd.R_keep (IsS58.apart (show IsS58 w _ g312 t310 t316 from by repeat (first | (with_reducible first | exact HI312.out | apply IsS58.alloc | apply IsS58.drewN | apply IsS58.drew | apply IsS58.set_1) | exact HI312.out)) (by (with_reducible repeat (first | apply Kd.R_alloc | apply Kd.R_drewN | apply Kd.R_drew)); exact HO315.out) (by decide)) hk (fun _ h => h.2)) (fun _ h => h.1)); have n2_ := Aside0.mk (hb); have n3_ := Aside0.mk (hi); clear HO1; clear HO315; clear HB; clear HI312; have HO1 := n0_; have HO315 := n1_; have HB := n2_; have HI312 := n3_; clear n0_ n1_ n2_ n3_; (try clear hb); (try clear hb2); (try clear hk); (try clear hi); (try clear hgw)) | ((with_reducible refine gate_callee (f := 11) rfl ?_); refine goesL_ (some 36) rfl rfl Tryd.func11 (by kernel_rfl) rfl #[.pointer (some ⟨g312, 0, none⟩), .int .i64 3] rfl (by (try simp only [List.map_toArray, List.map_cons, List.map_nil]); first | done | rfl | (simp only [List.length_drop, List.length_take]; rfl)) ?_; (with_reducible refine (storagebarterplay_Dice_Pick.calls g312 t310 t318 3 t319 t320 w _ ?side1 ?side2 A12.out).mono ?_); (case side1 => repeat (first | (with_reducible first | exact HI312.out | apply IsS58.alloc | apply IsS58.drewN | apply IsS58.drew | apply IsS58.set_1) | exact HI312.out)); (case side2 => repeat (first | (with_reducible first | exact HB.out | apply below_alloc | apply pw_below_drewN | apply below_drew1 | refine below_set ?_ (IsS58.ge HI312.out)) | exact HB.out)); rintro e w17 ⟨rfl, hi, hb, hk⟩; refine ⟨_, rfl, ?_⟩; have n0_ := Aside0.mk (Kd.V_mono (Kd.V_keep (Kd.V_mono (ok := fun k_ => ((((P1_ k_ ∨ w.heap.size ≤ k_)) ∧ k_ ≠ g312) ∧ some k_ ≠ (v314 : Value).ownBlock)) (by (with_reducible repeat (first | apply Kd.V_alloc | apply Kd.V_drewN | apply Kd.V_drew)); exact HO1.out) (fun k_ hk_ => (⟨hk_, hk_.1.2⟩ : _ ∧ k_ ≠ g312))) hk (fun _ h => h.2)) (fun _ h => h.1)); have n1_ := Aside0.mk (Kd.R_mono (Kd.R_keep (IsS58.apart (show IsS58 w _ g312 t310 t318 from by repeat (first | (with_reducible first | exact HI312.out | apply IsS58.alloc | apply IsS58.drewN | apply IsS58.drew | apply IsS58.set_1) | exact HI312.out)) (by (with_reducible repeat (first | apply Kd.R_alloc | apply Kd.R_drewN | apply Kd.R_drew)); exact HO315.out) (by decide)) hk (fun _ h => h.2)) (fun _ h => h.1)); have n2_ := Aside0.mk (hb); have n3_ := Aside0.mk (hi); clear HO1; clear HO315; clear HB; clear HI312; have HO1 := n0_; have HO315 := n1_; have HB := n2_; have HI312 := n3_; clear n0_ n1_ n2_ n3_; (try clear hb); (try clear hb2); (try clear hk); (try clear hi); (try clear hgw)) | ((with_reducible refine gate_dst (N := 42) rfl ?_); (try (refine gate_guard (by rfl) ?_; dsimp only)); refine Kd.R_lit k28 _ 28 ?hg (N := 42) ?hd (xs := ([(⟨a2, a3⟩ : S28), (⟨wrap64 (1 + t317), t319⟩ : S28), (⟨1, (-1)⟩ : S28), (⟨0, 1⟩ : S28), (⟨16, 1⟩ : S28), (⟨17, 1⟩ : S28)] : List (S28))) (inner := [.int .i64 a2, .int .i64 a3, .int .i64 (wrap64 (1 + t317)), .int .i64 t319, .int .i64 1, .int .i64 (-1), .int .i64 0, .int .i64 1, .int .i64 16, .int .i64 1, .int .i64 17, .int .i64 1]) (ok := fun _ => True) (okp := fun _ => True) ?hr ?hp (fun _ hk => hk) trivial (Below.refl _ _) (Nat.le_refl _) (by simp) ?_; (case hd => rfl); (case hg => rfl); (case hr => first | (go_simp; done) | (go_simp; rfl)); (case hp => exact (Reps.c2 (show Kd.M k28 _ _ _ (⟨a2, a3⟩ : S28) [.int .i64 a2, .int .i64 a3] from (k28_mkM _ _ _ (⟨a2, a3⟩ : S28) )) (Reps.c2 (show Kd.M k28 _ _ _ (⟨wrap64 (1 + t317), t319⟩ : S28) [.int .i64 (wrap64 (1 + t317)), .int .i64 t319] from (k28_mkM _ _ _ (⟨wrap64 (1 + t317), t319⟩ : S28) )) (Reps.c2 (show Kd.M k28 _ _ _ (⟨1, (-1)⟩ : S28) [.int .i64 1, .int .i64 (-1)] from (k28_mkM _ _ _ (⟨1, (-1)⟩ : S28) )) (Reps.c2 (show Kd.M k28 _ _ _ (⟨0, 1⟩ : S28) [.int .i64 0, .int .i64 1] from (k28_mkM _ _ _ (⟨0, 1⟩ : S28) )) (Reps.c2 (show Kd.M k28 _ _ _ (⟨16, 1⟩ : S28) [.int .i64 16, .int .i64 1] from (k28_mkM _ _ _ (⟨16, 1⟩ : S28) )) (Reps.c2 (show Kd.M k28 _ _ _ (⟨17, 1⟩ : S28) [.int .i64 17, .int .i64 1] from (k28_mkM _ _ _ (⟨17, 1⟩ : S28) )) (Reps.none _ _)))))))); intro v322 w18 ho19 hb hg_ hnew_; clear hg_ hnew_; (first | rw [← Ny321.out] at ho19 | (simp only [Int.reduceToNat] at ho19; rw [← Ny321.out] at ho19)); have n0_ := Aside0.mk (Kd.V_elder' (by (with_reducible repeat (first | apply Kd.V_alloc | apply Kd.V_drewN | apply Kd.V_drew)); exact HO1.out) (Kd.R_base ho19) hb); have n1_ := Aside0.mk (Kd.R_below (by (with_reducible repeat (first | apply Kd.R_alloc | apply Kd.R_drewN | apply Kd.R_drew)); exact HO315.out) hb); have n2_ := Aside0.mk (Kd.R_lower (Kd.R_newM (M := fun k_ => (w.heap.size ≤ k_)) ho19 (below_size (by repeat (first | (with_reducible first | exact HB.out | apply below_alloc | apply pw_below_drewN | apply below_drew1 | refine below_set ?_ (IsS58.ge HI312.out)) | exact HB.out))) (fun k_ h_ => h_)) (below_size (by repeat (first | (with_reducible first | exact HB.out | apply below_alloc | apply pw_below_drewN | apply below_drew1 | refine below_set ?_ (IsS58.ge HI312.out)) | exact HB.out)))); have n3_ := Aside0.mk (IsS58.below (by repeat (first | (with_reducible first | exact HI312.out | apply IsS58.alloc | apply IsS58.drewN | apply IsS58.drew | apply IsS58.set_1) | exact HI312.out)) hb); have n4_ := Aside0.mk (below_step (by repeat (first | (with_reducible first | exact HB.out | apply below_alloc | apply pw_below_drewN | apply below_drew1 | refine below_set ?_ (IsS58.ge HI312.out)) | exact HB.out)) hb); clear HO1; clear HO315; clear HI312; clear HB; have HO1 := n0_; have HO315 := n1_; have HO323 := n2_; have HI312 := n3_; have HB := n4_; clear n0_ n1_ n2_ n3_ n4_; clear hb ho19; obtain ⟨Ao20, co20, eo20⟩ := Kd.R_slice HO323.out; subst eo20))
      go_loopg [44] k (fun kq v44 w' => ∃ (x44_1 : Int), v44 = .int .i64 x44_1 ∧ Aside0 (storagebarterlaw30_DeviationLists.l0 kq l1 t313 y321 (y321.length : Int) x44_1 = some r) ∧ Aside0 (kq ≤ k) ∧ Aside0 (Kd.V k56 56 w' w.heap.size (fun k_ => (P1_ k_ ∨ w.heap.size ≤ k_) ∧ some k_ ≠ (v314 : Value).ownBlock ∧ some k_ ≠ ((.slice Ao20 y321.length co20) : Value).ownBlock) (.slice A1 l1.length c1) l1) ∧ Aside0 (Kd.R k56 56 w' w.heap.size (fun k_ => (w.heap.size ≤ k_)) v314 t313) ∧ Aside0 (Kd.R k28 28 w' w.heap.size (fun k_ => (w.heap.size ≤ k_)) (.slice Ao20 y321.length co20) y321) ∧ Aside0 (Below w.heap.size w w'))
      case atStart => exact ⟨(0), (by first | rfl | (simp; done) | (simp [*]; done)), H', ⟨Nat.le_refl _⟩, ⟨by (with_reducible repeat (first | apply Kd.V_alloc | apply Kd.V_drewN | apply Kd.V_drew)); exact Kd.V_mono HO1.out (fun _ hk => ⟨hk.1.1.1, ⟨hk.1.2, hk.2⟩⟩)⟩, ⟨by (with_reducible repeat (first | apply Kd.R_alloc | apply Kd.R_drewN | apply Kd.R_drew)); exact Kd.R_mono HO315.out (fun _ hk => hk.1)⟩, ⟨by (with_reducible repeat (first | apply Kd.R_alloc | apply Kd.R_drewN | apply Kd.R_drew)); exact Kd.R_mono HO323.out (fun _ hk => hk.1)⟩, ⟨by repeat (first | (with_reducible first | exact HB.out | apply below_alloc | apply pw_below_drewN | apply below_drew1 | refine below_set ?_ (IsS58.ge HI312.out)) | exact HB.out)⟩⟩
      case round =>
        clear H'
        try clear c1
        try clear c2
        try clear p2
        try clear c3
        try clear c6
        try clear p6
        try clear c7
        try clear c7b0
        try clear c7b1
        try clear c8
        try clear c9
        try clear c10
        try clear c11
        obtain ⟨x44_1, rfl, HA, HK1, HO_1, HO_10, HO_42, HB⟩ := hrel
        cases gk with
        | zero => exact absurd HA.out (by simp [storagebarterlaw30_DeviationLists.l0])
        | succ k1 =>
          have H := HA.out
          clear HA
          simp only [storagebarterlaw30_DeviationLists.l0] at H
          by_cases c21 : x44_1 < (y321.length : Int)
          · rw [if_pos c21] at H
            have c21b0 : decide (x44_1 < (y321.length : Int)) = true := decide_eq_true c21
            clear c21
            by_cases c22 : 0 ≤ x44_1
            · rw [if_pos c22] at H
              have c22b0 : decide (0 ≤ x44_1) = true := decide_eq_true c22
              clear c22
              by_cases c23 : x44_1 < (y321.length : Int)
              · rw [if_pos c23] at H
                have c23b0 : decide (x44_1 < (y321.length : Int)) = true := decide_eq_true c23
                clear c23
                obtain ⟨ji24, hji24⟩ : ∃ j_ : Int, (mn (t313.length : Int) 9) = j_ := ⟨_, rfl⟩
                replace H : (if 0 ≤ (ji24) then (if (ji24) ≤ (t313.length : Int) then ((some (([t313, l1, (t313.take ((ji24) : Int).toNat)] : List (List (S56))) : List (List (S56)))).bind fun y332 => (storagebarterlaw30_DeviationLists.l1 k1 l1 t313 y321 (y321.length : Int) x44_1 y332 (y332.length : Int) 0 ((rd_T28 y321 x44_1).f0) ((rd_T28 y321 x44_1).f1))) else (none)) else (none)) = some r := by first | (rw [hji24] at H; exact H) | (simp only [hji24] at H ⊢; exact H)
                have hji24_ : (if 9 < (t313.length : Int) then 9 else (t313.length : Int)) = ji24 := hji24
                by_cases c25 : 0 ≤ (ji24)
                · rw [if_pos c25] at H
                  have c25b0 := eq_true c25
                  have c25b1 : decide (0 ≤ (ji24)) = true := decide_eq_true c25
                  clear c25
                  by_cases c26 : (ji24) ≤ (t313.length : Int)
                  · rw [if_pos c26] at H
                    have c26b0 := eq_true c26
                    have c26b1 : decide ((ji24) ≤ (t313.length : Int)) = true := decide_eq_true c26
                    clear c26
                    obtain ⟨y326, hy326⟩ : ∃ y_ : List (S56), y_ = (t313.take ((ji24) : Int).toNat) := ⟨_, rfl⟩
                    replace H : ((some (([t313, l1, y326] : List (List (S56))) : List (List (S56)))).bind fun y332 => (storagebarterlaw30_DeviationLists.l1 k1 l1 t313 y321 (y321.length : Int) x44_1 y332 (y332.length : Int) 0 ((rd_T28 y321 x44_1).f0) ((rd_T28 y321 x44_1).f1))) = some r := by first | (rw [hy326]; with_reducible exact H) | (have H2_ := (Option.bind_some _ _).symm.trans H; rw [hy326]; with_reducible exact H2_) | (have H2_ := (Option.bind_some _ _).symm.trans H; with_reducible exact H2_) | with_reducible exact H | (rw [hy326]; exact H) | exact H
                    have Ny326 := Aside0.mk hy326
                    clear hy326
                    obtain ⟨y332, hy332⟩ : ∃ y_ : List (List (S56)), y_ = (([t313, l1, y326] : List (List (S56)))) := ⟨_, rfl⟩
                    replace H : (storagebarterlaw30_DeviationLists.l1 k1 l1 t313 y321 (y321.length : Int) x44_1 y332 (y332.length : Int) 0 ((rd_T28 y321 x44_1).f0) ((rd_T28 y321 x44_1).f1)) = some r := by first | (rw [hy332]; with_reducible exact H) | (have H2_ := (Option.bind_some _ _).symm.trans H; rw [hy332]; with_reducible exact H2_) | (have H2_ := (Option.bind_some _ _).symm.trans H; with_reducible exact H2_) | with_reducible exact H | (rw [hy332]; exact H) | exact H
                    have Ny332 := Aside0.mk hy332
                    clear hy332
                    have H' := Aside0.mk H
                    clear H
                    have p324 : 0 ≤ (x44_1 : Int) := of_decide_eq_true (by first | (with_reducible assumption) | assumption)
                    have q324 : x44_1 < (y321.length : Int) := of_decide_eq_true (by first | (with_reducible assumption) | assumption)
                    obtain ⟨ad324, e324, hx324_0, hx324_1⟩ := at_T28 (Kd.R_reads' HO_42.out).2.2 x44_1 p324 q324
                    cases e324
                    replace p324 := eq_true p324
                    replace q324 := eq_true q324
                    go_wp2_with (first | ((with_reducible refine gate_dst (N := 12) rfl ?_); (try (refine gate_guard (by rfl) ?_; dsimp only)); refine box_event ?hg (N := 12) ?hd (cs := #[.int .i64 0, .int .i64 0]) (t := 28) ?hr ?_; (case hd => rfl); (case hg => rfl); (case hr => first | (go_simp; done) | (go_simp; rfl)); intro gb325 hg w27 hbox hb; have n0_ := Aside0.mk (Kd.V_below (Kd.V_elderB (by (with_reducible repeat (first | apply Kd.V_alloc | apply Kd.V_drewN | apply Kd.V_drew)); exact HO_1.out) gb325 (Nat.le_of_eq hg.symm)) hb); have n1_ := Aside0.mk (Kd.R_below (by (with_reducible repeat (first | apply Kd.R_alloc | apply Kd.R_drewN | apply Kd.R_drew)); exact HO_10.out) hb); have n2_ := Aside0.mk (Kd.R_below (Kd.R_elderB (by (with_reducible repeat (first | apply Kd.R_alloc | apply Kd.R_drewN | apply Kd.R_drew)); exact HO_42.out) gb325 (Nat.le_of_eq hg.symm)) hb); have n3_ := Aside0.mk (below_step (by repeat (first | (with_reducible first | exact HB.out | apply below_alloc | apply pw_below_drewN | apply below_drew1) | exact HB.out)) hb); have n4_ := Aside0.mk (hbox); have n5_ := Aside0.mk ((by rw [hg]; exact (below_size (by repeat (first | (with_reducible first | exact HB.out | apply below_alloc | apply pw_below_drewN | apply below_drew1) | exact HB.out))) : w.heap.size ≤ gb325)); have n6_ := Aside0.mk ((by rw [hg]; exact (below_size (by repeat (first | (with_reducible first | exact HB.out | apply below_alloc | apply pw_below_drewN | apply below_drew1) | exact HB.out))) : w.heap.size ≤ gb325)); clear HO_1; clear HO_10; clear HO_42; clear HB; have HO_1 := n0_; have HO_10 := n1_; have HO_42 := n2_; have HB := n3_; have BK325 := n4_; have GW325 := n5_; have GE325 := n6_; clear n0_ n1_ n2_ n3_ n4_ n5_ n6_; clear hb hbox hg; have hcz28_0 : w27.cell? ⟨gb325, 0, none⟩ = some (.int .i64 0) := (blk_cell BK325.out 0).trans rfl; have hcz28_1 : w27.cell? ⟨gb325, 1, none⟩ = some (.int .i64 0) := (blk_cell BK325.out 1).trans rfl; have hfz28_0 := blk_frozen BK325.out 0; have hfz28_1 := blk_frozen BK325.out 1) | ((with_reducible refine gate_store (t := 28) (p := 12) rfl ?_); refine store_event (t := 28) (p := 12) (v := ?vo_w29) (w1 := ((w27.setCell ⟨gb325, 0, none⟩ (.int .i64 ((rd_T28 y321 x44_1).f0))).setCell ⟨gb325, 1, none⟩ (.int .i64 ((rd_T28 y321 x44_1).f1)))) ?hg ?ho ?hn ?hr ?_; (case ho => rfl); (case hg => rfl); (case hn => rfl); (case hr => first | (go_simp; done) | (go_simp; rfl)); intro w29 hw; have n0_ : Aside0 (Kd.V k56 56 w29 w.heap.size (fun k_ => (P1_ k_ ∨ w.heap.size ≤ k_) ∧ some k_ ≠ (v314 : Value).ownBlock ∧ some k_ ≠ (.slice (some ad324) y321.length co20 : Value).ownBlock ∧ k_ ≠ gb325) (.slice A1 l1.length c1) l1) := ⟨(by rw [hw]; exact (by (with_reducible repeat (first | apply Kd.V_alloc | apply Kd.V_drewN | apply Kd.V_drew)); exact Kd.V_mono (Kd.V_far (p := ⟨gb325, 1, none⟩) (Kd.V_far (p := ⟨gb325, 0, none⟩) (Kd.V_mono HO_1.out (fun k_ hk => (⟨hk, hk.2⟩ : _ ∧ k_ ≠ gb325))) (fun _ hk => hk.2) (.int .i64 ((rd_T28 y321 x44_1).f0))) (fun _ hk => hk.2) (.int .i64 ((rd_T28 y321 x44_1).f1))) (fun _ hk => ⟨hk.1.1.1, ⟨hk.1.1.2.1, ⟨hk.1.1.2.2, hk.1.2⟩⟩⟩)))⟩; have n1_ : Aside0 (Kd.R k56 56 w29 w.heap.size (fun k_ => (w.heap.size ≤ k_)) v314 t313) := ⟨(by rw [hw]; exact (by (with_reducible repeat (first | apply Kd.R_alloc | apply Kd.R_drewN | apply Kd.R_drew)); exact Kd.R_mono (Kd.R_far (p := ⟨gb325, 1, none⟩) (Kd.R_far (p := ⟨gb325, 0, none⟩) (Kd.R_types HO_10.out BK325.out (by decide)) (fun _ hk => hk.2) (.int .i64 ((rd_T28 y321 x44_1).f0))) (fun _ hk => hk.2) (.int .i64 ((rd_T28 y321 x44_1).f1))) (fun _ hk => hk.1)))⟩; have n2_ : Aside0 (Kd.R k28 28 w29 w.heap.size (fun k_ => (w.heap.size ≤ k_) ∧ k_ ≠ gb325) (.slice (some ad324) y321.length co20) y321) := ⟨(by rw [hw]; exact (by (with_reducible repeat (first | apply Kd.R_alloc | apply Kd.R_drewN | apply Kd.R_drew)); exact Kd.R_mono (Kd.R_far (p := ⟨gb325, 1, none⟩) (Kd.R_far (p := ⟨gb325, 0, none⟩) (Kd.R_mono HO_42.out (fun k_ hk => (⟨hk, hk.2⟩ : _ ∧ k_ ≠ gb325))) (fun _ hk => hk.2) (.int .i64 ((rd_T28 y321 x44_1).f0))) (fun _ hk => hk.2) (.int .i64 ((rd_T28 y321 x44_1).f1))) (fun _ hk => ⟨hk.1.1, hk.1.2⟩)))⟩; have n3_ : Aside0 (w29.heap[gb325]? = some (.cells #[.int .i64 ((rd_T28 y321 x44_1).f0), .int .i64 ((rd_T28 y321 x44_1).f1)] 28 (0, 0))) := ⟨(by rw [hw]; exact (by (with_reducible repeat (first | refine blk_drewN ?_ _ | refine blk_drew ?_ | refine blk_alloc ?_ _)); refine blk_put (cs := #[.int .i64 ((rd_T28 y321 x44_1).f0), .int .i64 0]) ?_ 1 _ rfl; (with_reducible repeat (first | refine blk_drewN ?_ _ | refine blk_drew ?_ | refine blk_alloc ?_ _)); refine blk_put (cs := #[.int .i64 0, .int .i64 0]) ?_ 0 _ rfl; (with_reducible repeat (first | refine blk_drewN ?_ _ | refine blk_drew ?_ | refine blk_alloc ?_ _)); exact BK325.out))⟩; have n4_ : Aside0 (Below w.heap.size w w29) := ⟨(by rw [hw]; exact (by repeat (first | (with_reducible first | exact HB.out | apply below_alloc | apply pw_below_drewN | apply below_drew1 | refine below_set ?_ GE325.out) | exact HB.out)))⟩; clear hw; clear HO_1; clear HO_10; clear HO_42; clear BK325; clear HB; have HO_1 := n0_; have HO_10 := n1_; have HO_42 := n2_; have BK325 := n3_; have HB := n4_; clear n0_ n1_ n2_ n3_ n4_; obtain ⟨Ao30, co30, eo30⟩ := Kd.R_slice HO_10.out; subst eo30; have q31 : ((ji24) : Int) ≤ ((t313.length : Int) : Int) := of_decide_eq_true (by first | (with_reducible assumption) | assumption); obtain ⟨i031, hi031, _, hsz31, _⟩ := info_parts info56; have hroom31 : t313.length ≤ co30 := (Kd.R_reads' HO_10.out).2.1; have hC31 : Kd.F k56 _ _ Ao30 t313.length t313 := (Kd.V_at (base := w.heap.size) (Kd.V_mono (ok' := (fun k_ => (((P1_ k_ ∨ w.heap.size ≤ k_) ∧ some k_ ≠ (.slice (some ad324) y321.length co20 : Value).ownBlock) ∧ k_ ≠ gb325))) (Kd.R_V (Kd.R_types (Kd.R_apart' (HO_10.out) (Kd.R_typed HO_42.out) (by decide)) BK325.out (by decide))) (fun k_ hk => ⟨⟨(.inr (hk.1.1)), hk.1.2⟩, hk.2⟩))).2.2; have hcut31 := cut_to (P := Tryd.prog) 23 56 .i64 Tryd.underlying23 hi031 Ao30 t313.length co30 (ji24) (of_decide_eq_true (by first | (with_reducible assumption) | assumption)) q31 hroom31; have hr31 := Kd.F_take (m := ((ji24) : Int).toNat) hC31 (by omega); have hy31 : y326.length = ((ji24) : Int).toNat := (by rw [Ny326.out, List.length_take]; omega); rw [← Ny326.out] at hr31; rw [← hy31] at hcut31; have HO330 := Aside0.mk (show Kd.V k56 56 _ w.heap.size _ (.slice Ao30 y326.length co30) y326 from Kd.V_mk (by omega) hr31); have HC330 := Aside0.mk (show y326.length ≤ co30 from by omega); clear hr31 hC31 hroom31 hi031 hsz31; have KY31 := Aside0.mk hy31; clear hy31; replace q31 := eq_true q31; have HO331 := Aside0.mk (show Kd.V k56 56 _ w.heap.size _ (.slice Ao30 t313.length co30) t313 from Kd.V_mono (ok' := (fun k_ => (((P1_ k_ ∨ w.heap.size ≤ k_) ∧ some k_ ≠ (.slice (some ad324) y321.length co20 : Value).ownBlock) ∧ k_ ≠ gb325))) (Kd.R_V (Kd.R_types (Kd.R_apart' (HO_10.out) (Kd.R_typed HO_42.out) (by decide)) BK325.out (by decide))) (fun k_ hk => ⟨⟨(.inr (hk.1.1)), hk.1.2⟩, hk.2⟩))) | ((with_reducible refine gate_dst (N := 55) rfl ?_); (try (refine gate_guard (by rfl) ?_; dsimp only)); refine Kd.N_lit (Kd.slice 56 k56) _ 23 ?hg (N' := 55) ?hd (xs := ([t313, l1, y326] : List (List (S56)))) (inner := [.slice Ao30 t313.length co30, .slice A1 l1.length c1, .slice Ao30 y326.length co30]) (ok := (fun k_ => (P1_ k_ ∨ w.heap.size ≤ k_) ∧ some k_ ≠ (.slice (some ad324) y321.length co20 : Value).ownBlock ∧ k_ ≠ gb325)) (okp := (fun k_ => (P1_ k_ ∨ w.heap.size ≤ k_) ∧ some k_ ≠ (.slice (some ad324) y321.length co20 : Value).ownBlock ∧ k_ ≠ gb325)) ?hr ?hp (fun _ hk => hk) ((show ∀ k_, w29.heap.size ≤ k_ → (fun k_ => (P1_ k_ ∨ w.heap.size ≤ k_) ∧ some k_ ≠ (.slice (some ad324) y321.length co20 : Value).ownBlock ∧ k_ ≠ gb325) k_ from fun k_ hk => ⟨(.inr (Nat.le_trans (below_size (by repeat (first | (with_reducible first | exact HB.out | apply below_alloc | apply pw_below_drewN | apply below_drew1 | refine below_set ?_ GE325.out) | exact HB.out))) hk)), Kd.fresh' (Kd.R_lt (by (with_reducible repeat (first | apply Kd.R_alloc | apply Kd.R_drewN | apply Kd.R_drew)); exact HO_42.out)) k_ hk, Kd.freshB (g := gb325) (o := .cells #[.int .i64 ((rd_T28 y321 x44_1).f0), .int .i64 ((rd_T28 y321 x44_1).f1)] 28 (0, 0)) (by (with_reducible repeat (first | refine blk_drewN ?_ _ | refine blk_drew ?_ | refine blk_alloc ?_ _)); exact BK325.out) k_ hk⟩) _ (Nat.le_refl _)) (Below.refl _ _) (Nat.le_refl _) (by simp) ?_; (case hd => rfl); (case hg => rfl); (case hr => first | (go_simp; done) | (go_simp; rfl)); (case hp => exact (Reps.one (show Kd.FK (Kd.slice 56 k56) _ _ t313 [.slice Ao30 t313.length co30] from (Kd.FK_slice_mk (Kd.V_reads' (Kd.V_mono (ok' := (fun k_ => (P1_ k_ ∨ w.heap.size ≤ k_) ∧ some k_ ≠ (.slice (some ad324) y321.length co20 : Value).ownBlock ∧ k_ ≠ gb325)) (HO331.out) (fun k_ hk => ⟨hk.1.1, ⟨hk.1.2, hk.2⟩⟩))).2.1 (Kd.V_F (Kd.V_mono (ok' := (fun k_ => (P1_ k_ ∨ w.heap.size ≤ k_) ∧ some k_ ≠ (.slice (some ad324) y321.length co20 : Value).ownBlock ∧ k_ ≠ gb325)) (HO331.out) (fun k_ hk => ⟨hk.1.1, ⟨hk.1.2, hk.2⟩⟩))))) (Reps.one (show Kd.FK (Kd.slice 56 k56) _ _ l1 [.slice A1 l1.length c1] from (Kd.FK_slice_mk (Kd.V_reads' (Kd.V_mono (ok' := (fun k_ => (P1_ k_ ∨ w.heap.size ≤ k_) ∧ some k_ ≠ (.slice (some ad324) y321.length co20 : Value).ownBlock ∧ k_ ≠ gb325)) (HO_1.out) (fun k_ hk => ⟨hk.1, ⟨hk.2.2.1, hk.2.2.2⟩⟩))).2.1 (Kd.V_F (Kd.V_mono (ok' := (fun k_ => (P1_ k_ ∨ w.heap.size ≤ k_) ∧ some k_ ≠ (.slice (some ad324) y321.length co20 : Value).ownBlock ∧ k_ ≠ gb325)) (HO_1.out) (fun k_ hk => ⟨hk.1, ⟨hk.2.2.1, hk.2.2.2⟩⟩))))) (Reps.one (show Kd.FK (Kd.slice 56 k56) _ _ y326 [.slice Ao30 y326.length co30] from (Kd.FK_slice_mk (Kd.V_reads' (Kd.V_mono (ok' := (fun k_ => (P1_ k_ ∨ w.heap.size ≤ k_) ∧ some k_ ≠ (.slice (some ad324) y321.length co20 : Value).ownBlock ∧ k_ ≠ gb325)) (HO330.out) (fun k_ hk => ⟨hk.1.1, ⟨hk.1.2, hk.2⟩⟩))).2.1 (Kd.V_F (Kd.V_mono (ok' := (fun k_ => (P1_ k_ ∨ w.heap.size ≤ k_) ∧ some k_ ≠ (.slice (some ad324) y321.length co20 : Value).ownBlock ∧ k_ ≠ gb325)) (HO330.out) (fun k_ hk => ⟨hk.1.1, ⟨hk.1.2, hk.2⟩⟩))))) (Reps.none _ _))))); intro v333 w32 ho33 hb hg_ hnew_; clear hg_ hnew_; (first | rw [← Ny332.out] at ho33 | (simp only [Int.reduceToNat] at ho33; rw [← Ny332.out] at ho33)); have n0_ := Aside0.mk (Kd.V_elder' (by (with_reducible repeat (first | apply Kd.V_alloc | apply Kd.V_drewN | apply Kd.V_drew)); exact HO_1.out) (Kd.N_base ho33) hb); have n1_ := Aside0.mk (Kd.R_below (by (with_reducible repeat (first | apply Kd.R_alloc | apply Kd.R_drewN | apply Kd.R_drew)); exact HO_10.out) hb); have n2_ := Aside0.mk (Kd.R_below (by (with_reducible repeat (first | apply Kd.R_alloc | apply Kd.R_drewN | apply Kd.R_drew)); exact HO_42.out) hb); have n3_ := Aside0.mk (Kd.V_elder' (by (with_reducible repeat (first | apply Kd.V_alloc | apply Kd.V_drewN | apply Kd.V_drew)); exact HO330.out) (Kd.N_base ho33) hb); have n4_ := Aside0.mk (Kd.V_elder' (by (with_reducible repeat (first | apply Kd.V_alloc | apply Kd.V_drewN | apply Kd.V_drew)); exact HO331.out) (Kd.N_base ho33) hb); have n5_ := Aside0.mk (Kd.N_lower ho33 (below_size (by repeat (first | (with_reducible first | exact HB.out | apply below_alloc | apply pw_below_drewN | apply below_drew1 | refine below_set ?_ GE325.out) | exact HB.out)))); have n6_ := Aside0.mk (blk_below (g := gb325) (o := .cells #[.int .i64 ((rd_T28 y321 x44_1).f0), .int .i64 ((rd_T28 y321 x44_1).f1)] 28 (0, 0)) (by (with_reducible repeat (first | refine blk_drewN ?_ _ | refine blk_drew ?_ | refine blk_alloc ?_ _)); exact BK325.out) hb); have n7_ := Aside0.mk (below_step (by repeat (first | (with_reducible first | exact HB.out | apply below_alloc | apply pw_below_drewN | apply below_drew1 | refine below_set ?_ GE325.out) | exact HB.out)) hb); clear HO_1; clear HO_10; clear HO_42; clear HO330; clear HO331; clear BK325; clear HB; have HO_1 := n0_; have HO_10 := n1_; have HO_42 := n2_; have HO330 := n3_; have HO331 := n4_; have HO334 := n5_; have BK325 := n6_; have HB := n7_; clear n0_ n1_ n2_ n3_ n4_ n5_ n6_ n7_; clear hb ho33; obtain ⟨Ao34, co34, eo34⟩ := Kd.N_slice HO334.out; subst eo34))
                    go_loopg [57] k1 (fun kq v57 w' => ∃ (x57_2 : Int), v57 = .int .i64 x57_2 ∧ Aside0 (storagebarterlaw30_DeviationLists.l1 kq l1 t313 y321 (y321.length : Int) x44_1 y332 (y332.length : Int) x57_2 ((rd_T28 y321 x44_1).f0) ((rd_T28 y321 x44_1).f1) = some r) ∧ Aside0 (kq ≤ k1) ∧ Aside0 (Kd.V k56 56 w' w.heap.size (fun k_ => (P1_ k_ ∨ w.heap.size ≤ k_) ∧ some k_ ≠ ((.slice Ao30 t313.length co30) : Value).ownBlock ∧ some k_ ≠ ((.slice (some ad324) y321.length co20) : Value).ownBlock ∧ some k_ ≠ ((.slice Ao34 y332.length co34) : Value).ownBlock ∧ k_ ≠ gb325) (.slice A1 l1.length c1) l1) ∧ Aside0 (Kd.R k56 56 w' w.heap.size (fun k_ => (w.heap.size ≤ k_)) (.slice Ao30 t313.length co30) t313) ∧ Aside0 (Kd.R k28 28 w' w.heap.size (fun k_ => (w.heap.size ≤ k_) ∧ k_ ≠ gb325) (.slice (some ad324) y321.length co20) y321) ∧ Aside0 (Kd.N (Kd.slice 56 k56) 23 w' w.heap.size (fun k_ => (P1_ k_ ∨ w.heap.size ≤ k_) ∧ some k_ ≠ ((.slice (some ad324) y321.length co20) : Value).ownBlock ∧ k_ ≠ gb325) (.slice Ao34 y332.length co34) y332) ∧ Aside0 (w'.heap[gb325]? = some (.cells #[.int .i64 ((rd_T28 y321 x44_1).f0), .int .i64 ((rd_T28 y321 x44_1).f1)] 28 (0, 0))) ∧ Aside0 (Below w.heap.size w w'))
                    case atStart => exact ⟨(0), (by first | rfl | (simp; done) | (simp [*]; done)), H', ⟨Nat.le_refl _⟩, ⟨by (with_reducible repeat (first | apply Kd.V_alloc | apply Kd.V_drewN | apply Kd.V_drew)); exact Kd.V_mono HO_1.out (fun _ hk => ⟨hk.1.1, ⟨hk.1.2.1, ⟨hk.1.2.2.1, ⟨hk.2, hk.1.2.2.2⟩⟩⟩⟩)⟩, ⟨by (with_reducible repeat (first | apply Kd.R_alloc | apply Kd.R_drewN | apply Kd.R_drew)); exact HO_10.out⟩, ⟨by (with_reducible repeat (first | apply Kd.R_alloc | apply Kd.R_drewN | apply Kd.R_drew)); exact HO_42.out⟩, ⟨by (with_reducible repeat (first | apply Kd.N_alloc | apply Kd.N_drewN | apply Kd.N_drew)); exact HO334.out⟩, ⟨by (with_reducible repeat (first | refine blk_drewN ?_ _ | refine blk_drew ?_ | refine blk_alloc ?_ _)); exact BK325.out⟩, ⟨by repeat (first | (with_reducible first | exact HB.out | apply below_alloc | apply pw_below_drewN | apply below_drew1 | refine below_set ?_ GE325.out) | exact HB.out)⟩⟩
                    case round =>
                      clear H'
                      try clear c1
                      try clear c2
                      try clear p2
                      try clear c3
                      try clear p3
                      try clear q3
                      try clear hx3
                      try clear c6
                      try clear p6
                      try clear c7
                      try clear c7b0
                      try clear c7b1
                      try clear c8
                      try clear c9
                      try clear c10
                      try clear c11
                      try clear c21
                      try clear c21b0
                      try clear c22
                      try clear c22b0
                      try clear c23
                      try clear c23b0
                      try clear c25
                      try clear c25b0
                      try clear c25b1
                      try clear c26
                      try clear c26b0
                      try clear c26b1
                      try clear q31
                      try clear p32
                      try clear q32
                      try clear hx32
                      try clear hcz28_0
                      try clear hcz28_1
                      try clear hfz28_0
                      try clear hfz28_1
                      try clear hx324_0
                      try clear hx324_1
                      try clear p2
                      try clear p324
                      try clear p6
                      try clear q31
                      try clear q324
                      obtain ⟨x57_2, rfl, HA, HK2, HO_1, HO_10, HO_42, HO_55, BK325, HB⟩ := hrel
                      cases gk with
                      | zero => exact absurd HA.out (by simp [storagebarterlaw30_DeviationLists.l1])
                      | succ k2 =>
                        have H := HA.out
                        clear HA
                        simp only [storagebarterlaw30_DeviationLists.l1] at H
                        by_cases c35 : x57_2 < (y332.length : Int)
                        · rw [if_pos c35] at H
                          have c35b0 : decide (x57_2 < (y332.length : Int)) = true := decide_eq_true c35
                          clear c35
                          by_cases c36 : 0 ≤ x57_2
                          · rw [if_pos c36] at H
                            have c36b0 : decide (0 ≤ x57_2) = true := decide_eq_true c36
                            clear c36
                            by_cases c37 : x57_2 < (y332.length : Int)
                            · rw [if_pos c37] at H
                              have c37b0 : decide (x57_2 < (y332.length : Int)) = true := decide_eq_true c37
                              clear c37
                              by_cases c38 : ((rd_L4 y332 x57_2).length : Int) > 12
                              · rw [if_pos c38] at H
                                have c38b0 : decide (12 < ((rd_L4 y332 x57_2).length : Int)) = true := decide_eq_true c38
                                have c38b1 : decide (12 < (rd_L4 y332 x57_2).length) = true := decide_eq_true (by omega)
                                clear c38
                                by_cases c39 : ((rd_T28 y321 x44_1).f1) > 2
                                · rw [if_pos c39] at H
                                  have c39b0 : decide (2 < ((rd_T28 y321 x44_1).f1)) = true := decide_eq_true c39
                                  clear c39
                                  have H' := Aside0.mk H
                                  clear H
                                  have p335 : 0 ≤ (x57_2 : Int) := of_decide_eq_true (by first | (with_reducible assumption) | assumption)
                                  have q335 : x57_2 < (y332.length : Int) := of_decide_eq_true (by first | (with_reducible assumption) | assumption)
                                  obtain ⟨ad335, A335_0, c335_0, e335, hx335_0, hl335_0, hi335_0⟩ := at_L4 (Kd.N_reads' HO_55.out).2.2 x57_2 p335 q335
                                  cases e335
                                  obtain ⟨ce335, hce335, hMe335, hcc335⟩ := Kd.N_get HO_55.out [] x57_2 p335 (by first | exact q335 | exact of_decide_eq_true (by first | (with_reducible assumption) | assumption) | (have e_ := (Kd.N_reads' HO_55.out).1; omega))
                                  obtain ⟨ua335_0, uc335_0, rfl, ul335_0, ge335_0⟩ := Kd.FK_slice_open hMe335
                                  have hv335_0 := hcc335 0 _ rfl
                                  rw [Nat.add_zero, show ((Kd.slice 56 k56)).sz = 1 from rfl, Nat.mul_one] at hv335_0
                                  replace hv335_0 := Option.some.inj (hv335_0.symm.trans hx335_0)
                                  injection hv335_0 with hva_ hvn_ hvc_
                                  rw [hva_] at ge335_0
                                  rw [hvc_] at ul335_0
                                  have HL335_0 := Aside0.mk (show Kd.V k56 56 _ w.heap.size _ _ (rd_L4 y332 x57_2) from Kd.V_mk ul335_0 ge335_0)
                                  clear hva_ hvn_ hvc_ ge335_0 ul335_0
                                  clear hcc335 hce335
                                  have HR335_0 := Aside0.mk hi335_0
                                  have HC335_0 := Aside0.mk hl335_0
                                  clear hi335_0 hl335_0
                                  replace p335 := eq_true p335
                                  replace q335 := eq_true q335
                                  have hcz40_0 : wr.cell? ⟨gb325, 0, none⟩ = some (.int .i64 ((rd_T28 y321 x44_1).f0)) := (blk_cell BK325.out 0).trans rfl
                                  have hcz40_1 : wr.cell? ⟨gb325, 1, none⟩ = some (.int .i64 ((rd_T28 y321 x44_1).f1)) := (blk_cell BK325.out 1).trans rfl
                                  have hfz40_0 := blk_frozen BK325.out 0
                                  have hfz40_1 := blk_frozen BK325.out 1
                                  go_wp2
                                  go_roundg k2
                                  case measure => have := HK1.out; have := HK2.out; omega
                                  case rel => exact ⟨(wrap64 (x57_2 + 1)), (by first | rfl | (simp; done) | (simp [*]; done)), H', ⟨by have := HK1.out; have := HK2.out; omega⟩, ⟨by (with_reducible repeat (first | apply Kd.V_alloc | apply Kd.V_drewN | apply Kd.V_drew)); exact HO_1.out⟩, ⟨by (with_reducible repeat (first | apply Kd.R_alloc | apply Kd.R_drewN | apply Kd.R_drew)); exact HO_10.out⟩, ⟨by (with_reducible repeat (first | apply Kd.R_alloc | apply Kd.R_drewN | apply Kd.R_drew)); exact HO_42.out⟩, ⟨by (with_reducible repeat (first | apply Kd.N_alloc | apply Kd.N_drewN | apply Kd.N_drew)); exact HO_55.out⟩, ⟨by (with_reducible repeat (first | refine blk_drewN ?_ _ | refine blk_drew ?_ | refine blk_alloc ?_ _)); exact BK325.out⟩, ⟨by repeat (first | (with_reducible first | exact HB.out | apply below_alloc | apply pw_below_drewN | apply below_drew1 | refine below_set ?_ GE325.out) | exact HB.out)⟩⟩
                                · rw [if_neg c39] at H
                                  have c39b0 : decide (2 < ((rd_T28 y321 x44_1).f1)) = false := decide_eq_false c39
                                  clear c39
                                  replace H := Option.bind_eq_some_iff.mp H
                                  obtain ⟨⟨t336, t337⟩, A410, H⟩ := H
                                  replace H : ((storagebarterref30_All.f k2 (rd_L4 y332 x57_2) ((rd_T28 y321 x44_1).f0) ((rd_T28 y321 x44_1).f1)).bind fun bt340 => (if t337 = bt340.2 then (if (t336.length : Int) = (bt340.1.length : Int) then (storagebarterlaw30_DeviationLists.l2 k2 l1 t313 t336 bt340.1 y321 (y321.length : Int) x44_1 y332 (y332.length : Int) x57_2 (bt340.1.length : Int) 0 ((rd_T28 y321 x44_1).f0) ((rd_T28 y321 x44_1).f1)) else (some false)) else (some false))) = some r := H
                                  have A41 := Aside0.mk A410
                                  clear A410
                                  replace H := Option.bind_eq_some_iff.mp H
                                  obtain ⟨⟨t340, t343⟩, A420, H⟩ := H
                                  replace H : (if t337 = t343 then (if (t336.length : Int) = (t340.length : Int) then (storagebarterlaw30_DeviationLists.l2 k2 l1 t313 t336 t340 y321 (y321.length : Int) x44_1 y332 (y332.length : Int) x57_2 (t340.length : Int) 0 ((rd_T28 y321 x44_1).f0) ((rd_T28 y321 x44_1).f1)) else (some false)) else (some false)) = some r := H
                                  have A42 := Aside0.mk A420
                                  clear A420
                                  by_cases c43 : t337 = t343
                                  · rw [if_pos c43] at H
                                    have c43b0 : (t337 == t343) = true := beq_iff_eq.mpr c43
                                    have c43b1 : (t337 != t343) = false := bne_eq_false_iff_eq.mpr c43
                                    clear c43
                                    by_cases c44 : (t336.length : Int) = (t340.length : Int)
                                    · rw [if_pos c44] at H
                                      have c44b0 : ((t336.length : Int) == (t340.length : Int)) = true := beq_iff_eq.mpr c44
                                      have c44b1 : ((t336.length : Int) != (t340.length : Int)) = false := bne_eq_false_iff_eq.mpr c44
                                      have c44b2 : (t336.length == t340.length) = true := by first | simpa using c44 | (simp at c44 ⊢; omega)
                                      clear c44
                                      have H' := Aside0.mk H
                                      clear H
                                      have p335 : 0 ≤ (x57_2 : Int) := of_decide_eq_true (by first | (with_reducible assumption) | assumption)
                                      have q335 : x57_2 < (y332.length : Int) := of_decide_eq_true (by first | (with_reducible assumption) | assumption)
                                      obtain ⟨ad335, A335_0, c335_0, e335, hx335_0, hl335_0, hi335_0⟩ := at_L4 (Kd.N_reads' HO_55.out).2.2 x57_2 p335 q335
                                      cases e335
                                      obtain ⟨ce335, hce335, hMe335, hcc335⟩ := Kd.N_get HO_55.out [] x57_2 p335 (by first | exact q335 | exact of_decide_eq_true (by first | (with_reducible assumption) | assumption) | (have e_ := (Kd.N_reads' HO_55.out).1; omega))
                                      obtain ⟨ua335_0, uc335_0, rfl, ul335_0, ge335_0⟩ := Kd.FK_slice_open hMe335
                                      have hv335_0 := hcc335 0 _ rfl
                                      rw [Nat.add_zero, show ((Kd.slice 56 k56)).sz = 1 from rfl, Nat.mul_one] at hv335_0
                                      replace hv335_0 := Option.some.inj (hv335_0.symm.trans hx335_0)
                                      injection hv335_0 with hva_ hvn_ hvc_
                                      rw [hva_] at ge335_0
                                      rw [hvc_] at ul335_0
                                      have HL335_0 := Aside0.mk (show Kd.V k56 56 _ w.heap.size _ _ (rd_L4 y332 x57_2) from Kd.V_mk ul335_0 ge335_0)
                                      clear hva_ hvn_ hvc_ ge335_0 ul335_0
                                      clear hcc335 hce335
                                      have HR335_0 := Aside0.mk hi335_0
                                      have HC335_0 := Aside0.mk hl335_0
                                      clear hi335_0 hl335_0
                                      replace p335 := eq_true p335
                                      replace q335 := eq_true q335
                                      have hcz45_0 : wr.cell? ⟨gb325, 0, none⟩ = some (.int .i64 ((rd_T28 y321 x44_1).f0)) := (blk_cell BK325.out 0).trans rfl
                                      have hcz45_1 : wr.cell? ⟨gb325, 1, none⟩ = some (.int .i64 ((rd_T28 y321 x44_1).f1)) := (blk_cell BK325.out 1).trans rfl
                                      have hfz45_0 := blk_frozen BK325.out 0
                                      have hfz45_1 := blk_frozen BK325.out 1
                                      go_wp2_with (first | ((with_reducible refine gate_callee (f := 12) rfl ?_); refine goesL_ (some 75) rfl rfl Tryd.func12 (by kernel_rfl) rfl #[.slice A335_0 (rd_L4 y332 x57_2).length c335_0, .int .i64 ((rd_T28 y321 x44_1).f0), .int .i64 ((rd_T28 y321 x44_1).f1)] rfl (by (try simp only [List.map_toArray, List.map_cons, List.map_nil]); first | done | rfl | (simp only [List.length_drop, List.length_take]; rfl)) ?_; (with_reducible refine (deviation_All.calls k2 _ _ (rd_L4 y332 x57_2) ((rd_T28 y321 x44_1).f0) ((rd_T28 y321 x44_1).f1) t336 t337 _ ?side1 ?side2 A41.out (by first | exact HL_.out | exact laid_below HL_.out (by repeat (first | (with_reducible first | exact HB.out | apply below_alloc | apply pw_below_drewN | apply below_drew1) | refine below_set ?_ (Aside0.out (by assumption)) | exact HB.out)) | exact laid_drawn HL_.out HD.out | exact laid_drawn HL_.out (HD.out.step _))).mono ?_); (case side1 => repeat (first | exact (by repeat (first | (with_reducible exact HR335_0.out) | (with_reducible refine Kd.C_alloc ?_ _) | (with_reducible refine Kd.C_drewN ?_ _) | (with_reducible refine Kd.C_drew ?_) | exact HR335_0.out)) | (with_reducible refine Kd.C_alloc ?_ _) | (with_reducible refine Kd.C_drewN ?_ _) | (with_reducible refine Kd.C_drew ?_))); (case side2 => exact HC335_0.out); rintro e w46 ⟨v338, rfl, ho0, hb⟩; refine ⟨_, rfl, ?_⟩; have n0_ := Aside0.mk (Kd.V_elder' (by (with_reducible repeat (first | apply Kd.V_alloc | apply Kd.V_drewN | apply Kd.V_drew)); exact HO_1.out) (Kd.S_base ho0) hb); have n1_ := Aside0.mk (Kd.R_below (by (with_reducible repeat (first | apply Kd.R_alloc | apply Kd.R_drewN | apply Kd.R_drew)); exact HO_10.out) hb); have n2_ := Aside0.mk (Kd.R_below (by (with_reducible repeat (first | apply Kd.R_alloc | apply Kd.R_drewN | apply Kd.R_drew)); exact HO_42.out) hb); have n3_ := Aside0.mk (Kd.N_elder' (by (with_reducible repeat (first | apply Kd.N_alloc | apply Kd.N_drewN | apply Kd.N_drew)); exact HO_55.out) (Kd.S_base ho0) hb); have n4_ := Aside0.mk (Kd.V_elder' (by (with_reducible repeat (first | apply Kd.V_alloc | apply Kd.V_drewN | apply Kd.V_drew)); exact HL335_0.out) (Kd.S_base ho0) hb); have n5_ := Aside0.mk (Kd.N_lower (Kd.N_mono (ok' := fun k_ => (P1_ k_ ∨ w.heap.size ≤ k_) ∧ some k_ ≠ (.slice Ao30 t313.length co30 : Value).ownBlock ∧ some k_ ≠ (.slice (some ad324) y321.length co20 : Value).ownBlock ∧ some k_ ≠ (.slice (some ad335) y332.length co34 : Value).ownBlock ∧ k_ ≠ gb325) (Kd.S_N (Kd.S_bound ho0)) (fun k_ hk_ => ⟨(.inr (Nat.le_trans (below_size (by repeat (first | (with_reducible first | exact HB.out | apply below_alloc | apply pw_below_drewN | apply below_drew1 | refine below_set ?_ GE325.out) | exact HB.out))) hk_.2.1)), (Kd.fresh' (Kd.R_lt (by (with_reducible repeat (first | apply Kd.R_alloc | apply Kd.R_drewN | apply Kd.R_drew)); exact HO_10.out)) k_ hk_.2.1), (Kd.fresh' (Kd.R_lt (by (with_reducible repeat (first | apply Kd.R_alloc | apply Kd.R_drewN | apply Kd.R_drew)); exact HO_42.out)) k_ hk_.2.1), (Kd.fresh' (Kd.N_lt (by (with_reducible repeat (first | apply Kd.N_alloc | apply Kd.N_drewN | apply Kd.N_drew)); exact HO_55.out)) k_ hk_.2.1), (Kd.freshB (g := gb325) (o := .cells #[.int .i64 ((rd_T28 y321 x44_1).f0), .int .i64 ((rd_T28 y321 x44_1).f1)] 28 (0, 0)) (by (with_reducible repeat (first | refine blk_drewN ?_ _ | refine blk_drew ?_ | refine blk_alloc ?_ _)); exact BK325.out) k_ hk_.2.1)⟩)) (below_size (by repeat (first | (with_reducible first | exact HB.out | apply below_alloc | apply pw_below_drewN | apply below_drew1 | refine below_set ?_ GE325.out) | exact HB.out)))); have n6_ := Aside0.mk (blk_below (g := gb325) (o := .cells #[.int .i64 ((rd_T28 y321 x44_1).f0), .int .i64 ((rd_T28 y321 x44_1).f1)] 28 (0, 0)) (by (with_reducible repeat (first | refine blk_drewN ?_ _ | refine blk_drew ?_ | refine blk_alloc ?_ _)); exact BK325.out) hb); have n7_ := Aside0.mk (Kd.C_below (by repeat (first | (with_reducible exact HR335_0.out) | (with_reducible refine Kd.C_alloc ?_ _) | (with_reducible refine Kd.C_drewN ?_ _) | (with_reducible refine Kd.C_drew ?_) | exact HR335_0.out)) hb); have n8_ := Aside0.mk (below_step (by repeat (first | (with_reducible first | exact HB.out | apply below_alloc | apply pw_below_drewN | apply below_drew1 | refine below_set ?_ GE325.out) | exact HB.out)) hb); clear HO_1; clear HO_10; clear HO_42; clear HO_55; clear HL335_0; clear BK325; clear HR335_0; clear HB; have HO_1 := n0_; have HO_10 := n1_; have HO_42 := n2_; have HO_55 := n3_; have HL335_0 := n4_; have HO339 := n5_; have BK325 := n6_; have HR335_0 := n7_; have HB := n8_; clear n0_ n1_ n2_ n3_ n4_ n5_ n6_ n7_ n8_; (try clear hb); (try clear hb2); (try clear hk); (try clear hi); (try clear hgw); (try clear ho0); have hcz47_0 : w46.cell? ⟨gb325, 0, none⟩ = some (.int .i64 ((rd_T28 y321 x44_1).f0)) := (blk_cell BK325.out 0).trans rfl; have hcz47_1 : w46.cell? ⟨gb325, 1, none⟩ = some (.int .i64 ((rd_T28 y321 x44_1).f1)) := (blk_cell BK325.out 1).trans rfl; have hfz47_0 := blk_frozen BK325.out 0; have hfz47_1 := blk_frozen BK325.out 1) | ((with_reducible refine gate_callee (f := 13) rfl ?_); refine goesL_ (some 84) rfl rfl Tryd.func13 (by kernel_rfl) rfl #[.slice A335_0 (rd_L4 y332 x57_2).length c335_0, .int .i64 ((rd_T28 y321 x44_1).f0), .int .i64 ((rd_T28 y321 x44_1).f1)] rfl (by (try simp only [List.map_toArray, List.map_cons, List.map_nil]); first | done | rfl | (simp only [List.length_drop, List.length_take]; rfl)) ?_; (with_reducible refine (storagebarterref30_All.calls k2 _ _ (rd_L4 y332 x57_2) ((rd_T28 y321 x44_1).f0) ((rd_T28 y321 x44_1).f1) t340 t343 _ ?side1 ?side2 A42.out).mono ?_); (case side1 => repeat (first | exact (by repeat (first | (with_reducible exact HR335_0.out) | (with_reducible refine Kd.C_alloc ?_ _) | (with_reducible refine Kd.C_drewN ?_ _) | (with_reducible refine Kd.C_drew ?_) | exact HR335_0.out)) | (with_reducible refine Kd.C_alloc ?_ _) | (with_reducible refine Kd.C_drewN ?_ _) | (with_reducible refine Kd.C_drew ?_))); (case side2 => exact HC335_0.out); rintro e w48 ⟨v341, rfl, ho0, hb⟩; refine ⟨_, rfl, ?_⟩; have n0_ := Aside0.mk (Kd.V_elder' (by (with_reducible repeat (first | apply Kd.V_alloc | apply Kd.V_drewN | apply Kd.V_drew)); exact HO_1.out) (Kd.N_base ho0) hb); have n1_ := Aside0.mk (Kd.R_below (by (with_reducible repeat (first | apply Kd.R_alloc | apply Kd.R_drewN | apply Kd.R_drew)); exact HO_10.out) hb); have n2_ := Aside0.mk (Kd.R_below (by (with_reducible repeat (first | apply Kd.R_alloc | apply Kd.R_drewN | apply Kd.R_drew)); exact HO_42.out) hb); have n3_ := Aside0.mk (Kd.N_elder' (by (with_reducible repeat (first | apply Kd.N_alloc | apply Kd.N_drewN | apply Kd.N_drew)); exact HO_55.out) (Kd.N_base ho0) hb); have n4_ := Aside0.mk (Kd.V_elder' (by (with_reducible repeat (first | apply Kd.V_alloc | apply Kd.V_drewN | apply Kd.V_drew)); exact HL335_0.out) (Kd.N_base ho0) hb); have n5_ := Aside0.mk (Kd.N_elder' (by (with_reducible repeat (first | apply Kd.N_alloc | apply Kd.N_drewN | apply Kd.N_drew)); exact HO339.out) (Kd.N_base ho0) hb); have n6_ := Aside0.mk (Kd.N_lower (Kd.N_mono (ok' := fun k_ => (P1_ k_ ∨ w.heap.size ≤ k_) ∧ some k_ ≠ (.slice Ao30 t313.length co30 : Value).ownBlock ∧ some k_ ≠ (.slice (some ad324) y321.length co20 : Value).ownBlock ∧ some k_ ≠ (.slice (some ad335) y332.length co34 : Value).ownBlock ∧ some k_ ≠ (v338 : Value).ownBlock ∧ k_ ≠ gb325) ho0 (fun k_ hk_ => ⟨(.inr (Nat.le_trans (below_size (by repeat (first | (with_reducible first | exact HB.out | apply below_alloc | apply pw_below_drewN | apply below_drew1 | refine below_set ?_ GE325.out) | exact HB.out))) hk_)), (Kd.fresh' (Kd.R_lt (by (with_reducible repeat (first | apply Kd.R_alloc | apply Kd.R_drewN | apply Kd.R_drew)); exact HO_10.out)) k_ hk_), (Kd.fresh' (Kd.R_lt (by (with_reducible repeat (first | apply Kd.R_alloc | apply Kd.R_drewN | apply Kd.R_drew)); exact HO_42.out)) k_ hk_), (Kd.fresh' (Kd.N_lt (by (with_reducible repeat (first | apply Kd.N_alloc | apply Kd.N_drewN | apply Kd.N_drew)); exact HO_55.out)) k_ hk_), (Kd.fresh' (Kd.N_lt (by (with_reducible repeat (first | apply Kd.N_alloc | apply Kd.N_drewN | apply Kd.N_drew)); exact HO339.out)) k_ hk_), (Kd.freshB (g := gb325) (o := .cells #[.int .i64 ((rd_T28 y321 x44_1).f0), .int .i64 ((rd_T28 y321 x44_1).f1)] 28 (0, 0)) (by (with_reducible repeat (first | refine blk_drewN ?_ _ | refine blk_drew ?_ | refine blk_alloc ?_ _)); exact BK325.out) k_ hk_)⟩)) (below_size (by repeat (first | (with_reducible first | exact HB.out | apply below_alloc | apply pw_below_drewN | apply below_drew1 | refine below_set ?_ GE325.out) | exact HB.out)))); have n7_ := Aside0.mk (blk_below (g := gb325) (o := .cells #[.int .i64 ((rd_T28 y321 x44_1).f0), .int .i64 ((rd_T28 y321 x44_1).f1)] 28 (0, 0)) (by (with_reducible repeat (first | refine blk_drewN ?_ _ | refine blk_drew ?_ | refine blk_alloc ?_ _)); exact BK325.out) hb); have n8_ := Aside0.mk (Kd.C_below (by repeat (first | (with_reducible exact HR335_0.out) | (with_reducible refine Kd.C_alloc ?_ _) | (with_reducible refine Kd.C_drewN ?_ _) | (with_reducible refine Kd.C_drew ?_) | exact HR335_0.out)) hb); have n9_ := Aside0.mk (below_step (by repeat (first | (with_reducible first | exact HB.out | apply below_alloc | apply pw_below_drewN | apply below_drew1 | refine below_set ?_ GE325.out) | exact HB.out)) hb); clear HO_1; clear HO_10; clear HO_42; clear HO_55; clear HL335_0; clear HO339; clear BK325; clear HR335_0; clear HB; have HO_1 := n0_; have HO_10 := n1_; have HO_42 := n2_; have HO_55 := n3_; have HL335_0 := n4_; have HO339 := n5_; have HO342 := n6_; have BK325 := n7_; have HR335_0 := n8_; have HB := n9_; clear n0_ n1_ n2_ n3_ n4_ n5_ n6_ n7_ n8_ n9_; (try clear hb); (try clear hb2); (try clear hk); (try clear hi); (try clear hgw); (try clear ho0); obtain ⟨Ao49, co49, eo49⟩ := Kd.N_slice HO339.out; subst eo49; obtain ⟨Ao50, co50, eo50⟩ := Kd.N_slice HO342.out; subst eo50))
                                      go_loopg [99] k2 (fun kq v99 w' => ∃ (x99_3 : Int), v99 = .int .i64 x99_3 ∧ Aside0 (storagebarterlaw30_DeviationLists.l2 kq l1 t313 t336 t340 y321 (y321.length : Int) x44_1 y332 (y332.length : Int) x57_2 (t340.length : Int) x99_3 ((rd_T28 y321 x44_1).f0) ((rd_T28 y321 x44_1).f1) = some r) ∧ Aside0 (kq ≤ k2) ∧ Aside0 (Kd.V k56 56 w' w.heap.size (fun k_ => (P1_ k_ ∨ w.heap.size ≤ k_) ∧ some k_ ≠ ((.slice Ao30 t313.length co30) : Value).ownBlock ∧ some k_ ≠ ((.slice Ao49 t336.length co49) : Value).ownBlock ∧ some k_ ≠ ((.slice Ao50 t340.length co50) : Value).ownBlock ∧ some k_ ≠ ((.slice (some ad324) y321.length co20) : Value).ownBlock ∧ some k_ ≠ ((.slice (some ad335) y332.length co34) : Value).ownBlock ∧ k_ ≠ gb325) (.slice A1 l1.length c1) l1) ∧ Aside0 (Kd.R k56 56 w' w.heap.size (fun k_ => (w.heap.size ≤ k_)) (.slice Ao30 t313.length co30) t313) ∧ Aside0 (Kd.N k39 39 w' w.heap.size (fun k_ => (P1_ k_ ∨ w.heap.size ≤ k_) ∧ some k_ ≠ ((.slice Ao30 t313.length co30) : Value).ownBlock ∧ some k_ ≠ ((.slice Ao50 t340.length co50) : Value).ownBlock ∧ some k_ ≠ ((.slice (some ad324) y321.length co20) : Value).ownBlock ∧ some k_ ≠ ((.slice (some ad335) y332.length co34) : Value).ownBlock ∧ k_ ≠ gb325) (.slice Ao49 t336.length co49) t336) ∧ Aside0 (Kd.N k39 39 w' w.heap.size (fun k_ => (P1_ k_ ∨ w.heap.size ≤ k_) ∧ some k_ ≠ ((.slice Ao30 t313.length co30) : Value).ownBlock ∧ some k_ ≠ ((.slice Ao49 t336.length co49) : Value).ownBlock ∧ some k_ ≠ ((.slice (some ad324) y321.length co20) : Value).ownBlock ∧ some k_ ≠ ((.slice (some ad335) y332.length co34) : Value).ownBlock ∧ k_ ≠ gb325) (.slice Ao50 t340.length co50) t340) ∧ Aside0 (Kd.R k28 28 w' w.heap.size (fun k_ => (w.heap.size ≤ k_) ∧ k_ ≠ gb325) (.slice (some ad324) y321.length co20) y321) ∧ Aside0 (Kd.N (Kd.slice 56 k56) 23 w' w.heap.size (fun k_ => (P1_ k_ ∨ w.heap.size ≤ k_) ∧ some k_ ≠ ((.slice Ao49 t336.length co49) : Value).ownBlock ∧ some k_ ≠ ((.slice Ao50 t340.length co50) : Value).ownBlock ∧ some k_ ≠ ((.slice (some ad324) y321.length co20) : Value).ownBlock ∧ k_ ≠ gb325) (.slice (some ad335) y332.length co34) y332) ∧ Aside0 (w'.heap[gb325]? = some (.cells #[.int .i64 ((rd_T28 y321 x44_1).f0), .int .i64 ((rd_T28 y321 x44_1).f1)] 28 (0, 0))) ∧ Aside0 (Kd.C k56 w' A335_0 (rd_L4 y332 x57_2).length (rd_L4 y332 x57_2)) ∧ Aside0 (Below w.heap.size w w'))
                                      case atStart => exact ⟨(0), (by first | rfl | (simp; done) | (simp [*]; done)), H', ⟨Nat.le_refl _⟩, ⟨by (with_reducible repeat (first | apply Kd.V_alloc | apply Kd.V_drewN | apply Kd.V_drew)); exact Kd.V_mono HO_1.out (fun _ hk => ⟨hk.1.1.1, ⟨hk.1.1.2.1, ⟨hk.1.2, ⟨hk.2, ⟨hk.1.1.2.2.1, ⟨hk.1.1.2.2.2.1, hk.1.1.2.2.2.2⟩⟩⟩⟩⟩⟩)⟩, ⟨by (with_reducible repeat (first | apply Kd.R_alloc | apply Kd.R_drewN | apply Kd.R_drew)); exact HO_10.out⟩, ⟨by (with_reducible repeat (first | apply Kd.N_alloc | apply Kd.N_drewN | apply Kd.N_drew)); exact Kd.N_mono HO339.out (fun _ hk => ⟨hk.1.1, ⟨hk.1.2.1, ⟨hk.2, ⟨hk.1.2.2.1, ⟨hk.1.2.2.2.1, hk.1.2.2.2.2⟩⟩⟩⟩⟩)⟩, ⟨by (with_reducible repeat (first | apply Kd.N_alloc | apply Kd.N_drewN | apply Kd.N_drew)); exact Kd.N_mono HO342.out (fun _ hk => ⟨hk.1, ⟨hk.2.1, ⟨hk.2.2.2.2.1, ⟨hk.2.2.1, ⟨hk.2.2.2.1, hk.2.2.2.2.2⟩⟩⟩⟩⟩)⟩, ⟨by (with_reducible repeat (first | apply Kd.R_alloc | apply Kd.R_drewN | apply Kd.R_drew)); exact HO_42.out⟩, ⟨by (with_reducible repeat (first | apply Kd.N_alloc | apply Kd.N_drewN | apply Kd.N_drew)); exact Kd.N_mono HO_55.out (fun _ hk => ⟨hk.1.1.1, ⟨hk.1.2, ⟨hk.2, ⟨hk.1.1.2.1, hk.1.1.2.2⟩⟩⟩⟩)⟩, ⟨by (with_reducible repeat (first | refine blk_drewN ?_ _ | refine blk_drew ?_ | refine blk_alloc ?_ _)); exact BK325.out⟩, ⟨by repeat (first | (with_reducible exact HR335_0.out) | (with_reducible refine Kd.C_alloc ?_ _) | (with_reducible refine Kd.C_drewN ?_ _) | (with_reducible refine Kd.C_drew ?_) | exact HR335_0.out)⟩, ⟨by repeat (first | (with_reducible first | exact HB.out | apply below_alloc | apply pw_below_drewN | apply below_drew1 | refine below_set ?_ GE325.out) | exact HB.out)⟩⟩
                                      case round =>
                                        clear H'
                                        try clear c1
                                        try clear c2
                                        try clear p2
                                        try clear c3
                                        try clear p3
                                        try clear q3
                                        try clear hx3
                                        try clear c4
                                        try clear c6
                                        try clear p6
                                        try clear c7
                                        try clear c7b0
                                        try clear c7b1
                                        try clear c8
                                        try clear c9
                                        try clear c10
                                        try clear c11
                                        try clear c12
                                        try clear c13
                                        try clear c21
                                        try clear c21b0
                                        try clear c22
                                        try clear c22b0
                                        try clear c23
                                        try clear c23b0
                                        try clear c25
                                        try clear c25b0
                                        try clear c25b1
                                        try clear c26
                                        try clear c26b0
                                        try clear c26b1
                                        try clear q31
                                        try clear p32
                                        try clear q32
                                        try clear hx32
                                        try clear c33
                                        try clear p33
                                        try clear q33
                                        try clear hx33
                                        try clear c35
                                        try clear c35b0
                                        try clear c36
                                        try clear c36b0
                                        try clear c37
                                        try clear c37b0
                                        try clear c38
                                        try clear c38b0
                                        try clear c38b1
                                        try clear c39
                                        try clear c39b0
                                        try clear c43
                                        try clear c43b0
                                        try clear c43b1
                                        try clear c44
                                        try clear c44b0
                                        try clear c44b1
                                        try clear c44b2
                                        try clear hcz28_0
                                        try clear hcz28_1
                                        try clear hcz40_0
                                        try clear hcz40_1
                                        try clear hcz45_0
                                        try clear hcz45_1
                                        try clear hcz47_0
                                        try clear hcz47_1
                                        try clear hfz28_0
                                        try clear hfz28_1
                                        try clear hfz40_0
                                        try clear hfz40_1
                                        try clear hfz45_0
                                        try clear hfz45_1
                                        try clear hfz47_0
                                        try clear hfz47_1
                                        try clear hx324_0
                                        try clear hx324_1
                                        try clear hx335_0
                                        try clear p2
                                        try clear p3
                                        try clear p32
                                        try clear p324
                                        try clear p335
                                        try clear p6
                                        try clear q3
                                        try clear q31
                                        try clear q32
                                        try clear q324
                                        try clear q335
                                        obtain ⟨x99_3, rfl, HA, HK3, HO_1, HO_10, HO_15, HO_17, HO_42, HO_55, BK325, HR335_0, HB⟩ := hrel
                                        cases gk with
                                        | zero => exact absurd HA.out (by simp [storagebarterlaw30_DeviationLists.l2])
                                        | succ k3 =>
                                          have H := HA.out
                                          clear HA
                                          simp only [storagebarterlaw30_DeviationLists.l2] at H
                                          by_cases c51 : x99_3 < (t340.length : Int)
                                          · rw [if_pos c51] at H
                                            have c51b0 : decide (x99_3 < (t340.length : Int)) = true := decide_eq_true c51
                                            clear c51
                                            by_cases c52 : 0 ≤ x99_3
                                            · rw [if_pos c52] at H
                                              have c52b0 : decide (0 ≤ x99_3) = true := decide_eq_true c52
                                              clear c52
                                              by_cases c53 : x99_3 < (t336.length : Int)
                                              · rw [if_pos c53] at H
                                                have c53b0 : decide (x99_3 < (t336.length : Int)) = true := decide_eq_true c53
                                                clear c53
                                                by_cases c54 : x99_3 < (t340.length : Int)
                                                · rw [if_pos c54] at H
                                                  have c54b0 : decide (x99_3 < (t340.length : Int)) = true := decide_eq_true c54
                                                  clear c54
                                                  replace H := Option.bind_eq_some_iff.mp H
                                                  obtain ⟨t346, A550, H⟩ := H
                                                  replace H : (if t346 = true then (storagebarterlaw30_DeviationLists.l2 k3 l1 t313 t336 t340 y321 (y321.length : Int) x44_1 y332 (y332.length : Int) x57_2 (t340.length : Int) (wrap64 (x99_3 + 1)) ((rd_T28 y321 x44_1).f0) ((rd_T28 y321 x44_1).f1)) else (some false)) = some r := H
                                                  have A55 := Aside0.mk A550
                                                  clear A550
                                                  by_cases c56 : t346 = true
                                                  · subst c56
                                                    have H1 : (storagebarterlaw30_DeviationLists.l2 k3 l1 t313 t336 t340 y321 (y321.length : Int) x44_1 y332 (y332.length : Int) x57_2 (t340.length : Int) (wrap64 (x99_3 + 1)) ((rd_T28 y321 x44_1).f0) ((rd_T28 y321 x44_1).f1)) = some r := by rw [if_pos rfl] at H; exact H
                                                    clear H
                                                    have H := H1
                                                    clear H1
                                                    have H' := Aside0.mk H
                                                    clear H
                                                    try go_wp2
                                                    have n0_ := Aside0.mk (Kd.V_drew HO_1.out)
                                                    have n1_ := Aside0.mk (Kd.R_drew HO_10.out)
                                                    have n2_ := Aside0.mk (Kd.N_drew HO_15.out)
                                                    have n3_ := Aside0.mk (Kd.N_drew HO_17.out)
                                                    have n4_ := Aside0.mk (Kd.R_drew HO_42.out)
                                                    have n5_ := Aside0.mk (Kd.N_drew HO_55.out)
                                                    have n6_ := Aside0.mk (blk_drew BK325.out)
                                                    have n7_ := Aside0.mk (Kd.C_drew HR335_0.out)
                                                    have n8_ := Aside0.mk (below_drew1 HB.out)
                                                    clear HO_1
                                                    clear HO_10
                                                    clear HO_15
                                                    clear HO_17
                                                    clear HO_42
                                                    clear HO_55
                                                    clear BK325
                                                    clear HR335_0
                                                    clear HB
                                                    have HO_1 := n0_
                                                    have HO_10 := n1_
                                                    have HO_15 := n2_
                                                    have HO_17 := n3_
                                                    have HO_42 := n4_
                                                    have HO_55 := n5_
                                                    have BK325 := n6_
                                                    have HR335_0 := n7_
                                                    have HB := n8_
                                                    clear n0_ n1_ n2_ n3_ n4_ n5_ n6_ n7_ n8_
                                                    have p344 : 0 ≤ (x99_3 : Int) := of_decide_eq_true (by first | (with_reducible assumption) | assumption)
                                                    have q344 : x99_3 < (t336.length : Int) := of_decide_eq_true (by first | (with_reducible assumption) | assumption)
                                                    obtain ⟨ad344, A344_1, c344_1, e344, hx344_0, hx344_1, hl344_1, hi344_1⟩ := at_T39 (Kd.N_reads' HO_15.out).2.2 x99_3 p344 q344
                                                    cases e344
                                                    obtain ⟨ce344, hce344, hMe344, hcc344⟩ := Kd.N_get HO_15.out z39 x99_3 p344 (by first | exact q344 | exact of_decide_eq_true (by first | (with_reducible assumption) | assumption) | (have e_ := (Kd.N_reads' HO_15.out).1; omega))
                                                    obtain ⟨ua344_1, uc344_1, rfl, ul344_1, ge344_1⟩ := k39_openF hMe344
                                                    have hv344_1 := hcc344 1 _ rfl
                                                    rw [add_field _ _ 1 (by omega)] at hv344_1
                                                    replace hv344_1 := Option.some.inj (hv344_1.symm.trans hx344_1)
                                                    injection hv344_1 with hva_ hvn_ hvc_
                                                    rw [hva_] at ge344_1
                                                    rw [hvc_] at ul344_1
                                                    have HL344_1 := Aside0.mk (show Kd.V k51 51 _ w.heap.size _ _ ((rd_T39 t336 x99_3).f1) from Kd.V_mk ul344_1 ge344_1)
                                                    clear hva_ hvn_ hvc_ ge344_1 ul344_1
                                                    clear hcc344 hce344
                                                    have HR344_1 := Aside0.mk hi344_1
                                                    have HC344_1 := Aside0.mk hl344_1
                                                    clear hi344_1 hl344_1
                                                    replace p344 := eq_true p344
                                                    replace q344 := eq_true q344
                                                    have p345 : 0 ≤ (x99_3 : Int) := of_decide_eq_true (by first | (with_reducible assumption) | assumption)
                                                    have q345 : x99_3 < (t340.length : Int) := of_decide_eq_true (by first | (with_reducible assumption) | assumption)
                                                    obtain ⟨ad345, A345_1, c345_1, e345, hx345_0, hx345_1, hl345_1, hi345_1⟩ := at_T39 (Kd.N_reads' HO_17.out).2.2 x99_3 p345 q345
                                                    cases e345
                                                    obtain ⟨ce345, hce345, hMe345, hcc345⟩ := Kd.N_get HO_17.out z39 x99_3 p345 (by first | exact q345 | exact of_decide_eq_true (by first | (with_reducible assumption) | assumption) | (have e_ := (Kd.N_reads' HO_17.out).1; omega))
                                                    obtain ⟨ua345_1, uc345_1, rfl, ul345_1, ge345_1⟩ := k39_openF hMe345
                                                    have hv345_1 := hcc345 1 _ rfl
                                                    rw [add_field _ _ 1 (by omega)] at hv345_1
                                                    replace hv345_1 := Option.some.inj (hv345_1.symm.trans hx345_1)
                                                    injection hv345_1 with hva_ hvn_ hvc_
                                                    rw [hva_] at ge345_1
                                                    rw [hvc_] at ul345_1
                                                    have HL345_1 := Aside0.mk (show Kd.V k51 51 _ w.heap.size _ _ ((rd_T39 t340 x99_3).f1) from Kd.V_mk ul345_1 ge345_1)
                                                    clear hva_ hvn_ hvc_ ge345_1 ul345_1
                                                    clear hcc345 hce345
                                                    have HR345_1 := Aside0.mk hi345_1
                                                    have HC345_1 := Aside0.mk hl345_1
                                                    clear hi345_1 hl345_1
                                                    replace p345 := eq_true p345
                                                    replace q345 := eq_true q345
                                                    refine start_ (n := 10) (S := fun w' => w'.cell? (ad344.add ((x99_3).toNat * 2)) = some (.int .i64 ((rd_T39 t336 x99_3).f0)) ∧ w'.cell? ⟨(ad344.add ((x99_3).toNat * 2)).block, (ad344.add ((x99_3).toNat * 2)).off + 1, none⟩ = some (.slice A344_1 ((rd_T39 t336 x99_3).f1).length c344_1) ∧ w'.cell? (ad345.add ((x99_3).toNat * 2)) = some (.int .i64 ((rd_T39 t340 x99_3).f0)) ∧ w'.cell? ⟨(ad345.add ((x99_3).toNat * 2)).block, (ad345.add ((x99_3).toNat * 2)).off + 1, none⟩ = some (.slice A345_1 ((rd_T39 t340 x99_3).f1).length c345_1)) (ds := []) #[false, false, false, false, false, false, false, false, false, false] (by kernel_rfl) rfl rfl ⟨hx344_0, hx344_1, hx345_0, hx345_1⟩ (fun hHeld => ?_); refine with_tabW storagebarterlaw30_DeviationLists.tab21 storagebarterlaw30_DeviationLists.bits21 (fun HT_ HW_ => ?_)
                                                    generalize wr.drew = w57 at HO_1 HO_10 HO_15 HO_17 HO_42 HO_55 BK325 HR335_0 HB HL344_1 HL345_1 HR344_1 HR345_1 hx344_0 hx344_1 hx345_0 hx345_1 hHeld ⊢
                                                    refine pure_ (i := 0) (N := some 102) (v := ?_) (a' := ?_) #[true, false, false, false, false, false, false, false, false, false] rfl rfl (any_of HT_.out (by kernel_rfl)) (fun _ _ _ h => h) (Or.inl ⟨by rfl, ?_⟩) ?_ ?_
                                                    rotate_left
                                                    · intro w'
                                                      go_simp
                                                      with_reducible rfl
                                                    rotate_left
                                                    · simp only [Act.put, List.setIfInBounds_toArray, List.set_cons_zero, List.set_cons_succ, i64_w, i32_w]
                                                      rfl
                                                    refine pure_ (i := 1) (N := some 103) (v := ?_) (a' := ?_) #[true, true, false, false, false, false, false, false, false, false] rfl rfl (any_of HT_.out (by kernel_rfl)) (fun _ _ _ h => h) (Or.inl ⟨by rfl, ?_⟩) ?_ ?_
                                                    rotate_left
                                                    · intro w'
                                                      go_simp
                                                      with_reducible rfl
                                                    rotate_left
                                                    · simp only [Act.put, List.setIfInBounds_toArray, List.set_cons_zero, List.set_cons_succ, i64_w, i32_w]
                                                      rfl
                                                    refine pure_ (i := 2) (N := some 104) (v := ?_) (a' := ?_) #[true, true, true, false, false, false, false, false, false, false] rfl rfl (any_of HT_.out (by kernel_rfl)) (fun _ _ _ h => h) (Or.inl ⟨by rfl, ?_⟩) ?_ ?_
                                                    rotate_left
                                                    · intro w'
                                                      go_simp
                                                      with_reducible rfl
                                                    rotate_left
                                                    · simp only [Act.put, List.setIfInBounds_toArray, List.set_cons_zero, List.set_cons_succ, i64_w, i32_w]
                                                      rfl
                                                    refine pure_ (i := 4) (N := some 106) (v := ?_) (a' := ?_) #[true, true, true, false, true, false, false, false, false, false] rfl rfl (any_of HT_.out (by kernel_rfl)) (fun _ _ _ h => h) (Or.inl ⟨by rfl, ?_⟩) ?_ ?_
                                                    rotate_left
                                                    · intro w'
                                                      go_simp
                                                      with_reducible rfl
                                                    rotate_left
                                                    · simp only [Act.put, List.setIfInBounds_toArray, List.set_cons_zero, List.set_cons_succ, i64_w, i32_w]
                                                      rfl
                                                    refine pure_ (i := 5) (N := some 107) (v := ?_) (a' := ?_) #[true, true, true, false, true, true, false, false, false, false] rfl rfl (any_of HT_.out (by kernel_rfl)) (fun _ _ _ h => h) (Or.inl ⟨by rfl, ?_⟩) ?_ ?_
                                                    rotate_left
                                                    · intro w'
                                                      go_simp
                                                      with_reducible rfl
                                                    rotate_left
                                                    · simp only [Act.put, List.setIfInBounds_toArray, List.set_cons_zero, List.set_cons_succ, i64_w, i32_w]
                                                      rfl
                                                    refine pure_ (i := 6) (N := some 108) (v := ?_) (a' := ?_) #[true, true, true, false, true, true, true, false, false, false] rfl rfl (any_of HT_.out (by kernel_rfl)) (fun _ _ _ h => h) (Or.inl ⟨by rfl, ?_⟩) ?_ ?_
                                                    rotate_left
                                                    · intro w'
                                                      go_simp
                                                      with_reducible rfl
                                                    rotate_left
                                                    · simp only [Act.put, List.setIfInBounds_toArray, List.set_cons_zero, List.set_cons_succ, i64_w, i32_w]
                                                      rfl
                                                    refine take_ (i := 3) (N := some 105) (v := ?_) (a' := ?_) #[true, true, true, true, true, true, true, false, false, false] rfl rfl (take_ofW HT_.out HW_.out (by kernel_rfl)) (fun _ _ _ h => h) (Or.inl ⟨by rfl, ?_⟩) hHeld ?_ ?_
                                                    rotate_left
                                                    · rintro w' ⟨s0, s1, s2, s3⟩
                                                      go_simp
                                                      with_reducible rfl
                                                    rotate_left
                                                    · simp only [Act.put, List.setIfInBounds_toArray, List.set_cons_zero, List.set_cons_succ, i64_w, i32_w]
                                                      rfl
                                                    refine take_ (i := 7) (N := some 109) (v := ?_) (a' := ?_) #[true, true, true, true, true, true, true, true, false, false] rfl rfl (take_ofW HT_.out HW_.out (by kernel_rfl)) (fun _ _ _ h => h) (Or.inl ⟨by rfl, ?_⟩) hHeld ?_ ?_
                                                    rotate_left
                                                    · rintro w' ⟨s0, s1, s2, s3⟩
                                                      go_simp
                                                      with_reducible rfl
                                                    rotate_left
                                                    · simp only [Act.put, List.setIfInBounds_toArray, List.set_cons_zero, List.set_cons_succ, i64_w, i32_w]
                                                      rfl
                                                    refine one_ (i := 8) (N := some 110) #[true, true, true, true, true, true, true, true, true, false] rfl rfl (one_of HT_.out (by kernel_rfl)) (by decide) (fun K hK => ?_)
                                                    refine goes_ Tryd.func14 (by kernel_rfl) rfl #[.agg #[.int .i64 ((rd_T39 t336 x99_3).f0), .slice A344_1 ((rd_T39 t336 x99_3).f1).length c344_1], .agg #[.int .i64 ((rd_T39 t340 x99_3).f0), .slice A345_1 ((rd_T39 t340 x99_3).f1).length c345_1]] (by rfl) rfl rfl (by (try simp only [List.map_toArray, List.map_cons, List.map_nil]); first | done | rfl | (simp only [List.length_drop, List.length_take]; rfl)) ?_
                                                    with_reducible refine (storagebarterref30_Same.calls k3 ((rd_T39 t336 x99_3).f0) _ _ ((rd_T39 t336 x99_3).f1) ((rd_T39 t340 x99_3).f0) _ _ ((rd_T39 t340 x99_3).f1) true _ ?side1 ?side2 ?side3 ?side4 A55.out).mono ?_
                                                    (case side1 => repeat (first | exact (by repeat (first | (with_reducible exact HR344_1.out) | (with_reducible refine Kd.C_alloc ?_ _) | (with_reducible refine Kd.C_drewN ?_ _) | (with_reducible refine Kd.C_drew ?_) | exact HR344_1.out)) | (with_reducible refine Kd.C_alloc ?_ _) | (with_reducible refine Kd.C_drewN ?_ _) | (with_reducible refine Kd.C_drew ?_)))
                                                    (case side2 => exact HC344_1.out)
                                                    (case side3 => repeat (first | exact (by repeat (first | (with_reducible exact HR345_1.out) | (with_reducible refine Kd.C_alloc ?_ _) | (with_reducible refine Kd.C_drewN ?_ _) | (with_reducible refine Kd.C_drew ?_) | exact HR345_1.out)) | (with_reducible refine Kd.C_alloc ?_ _) | (with_reducible refine Kd.C_drewN ?_ _) | (with_reducible refine Kd.C_drew ?_)))
                                                    (case side4 => exact HC345_1.out)
                                                    rintro e w58 ⟨rfl, hb⟩
                                                    have HS0_ := (hb.cell (World.block_lt_of_cell? _ _ (hHeld.1))).trans (hHeld.1)
                                                    have HS1_ := (hb.cell (World.block_lt_of_cell? _ _ (hHeld.2.1))).trans (hHeld.2.1)
                                                    have HS2_ := (hb.cell (World.block_lt_of_cell? _ _ (hHeld.2.2.1))).trans (hHeld.2.2.1)
                                                    have HS3_ := (hb.cell (World.block_lt_of_cell? _ _ (hHeld.2.2.2))).trans (hHeld.2.2.2)
                                                    refine ⟨_, rfl, ?_⟩
                                                    have n0_ := Aside0.mk (Kd.V_below (by (with_reducible repeat (first | apply Kd.V_alloc | apply Kd.V_drewN | apply Kd.V_drew)); exact HO_1.out) hb)
                                                    have n1_ := Aside0.mk (Kd.R_below (by (with_reducible repeat (first | apply Kd.R_alloc | apply Kd.R_drewN | apply Kd.R_drew)); exact HO_10.out) hb)
                                                    have n2_ := Aside0.mk (Kd.N_below (by (with_reducible repeat (first | apply Kd.N_alloc | apply Kd.N_drewN | apply Kd.N_drew)); exact HO_15.out) hb)
                                                    have n3_ := Aside0.mk (Kd.N_below (by (with_reducible repeat (first | apply Kd.N_alloc | apply Kd.N_drewN | apply Kd.N_drew)); exact HO_17.out) hb)
                                                    have n4_ := Aside0.mk (Kd.R_below (by (with_reducible repeat (first | apply Kd.R_alloc | apply Kd.R_drewN | apply Kd.R_drew)); exact HO_42.out) hb)
                                                    have n5_ := Aside0.mk (Kd.N_below (by (with_reducible repeat (first | apply Kd.N_alloc | apply Kd.N_drewN | apply Kd.N_drew)); exact HO_55.out) hb)
                                                    have n6_ := Aside0.mk (Kd.V_below (by (with_reducible repeat (first | apply Kd.V_alloc | apply Kd.V_drewN | apply Kd.V_drew)); exact HL344_1.out) hb)
                                                    have n7_ := Aside0.mk (Kd.V_below (by (with_reducible repeat (first | apply Kd.V_alloc | apply Kd.V_drewN | apply Kd.V_drew)); exact HL345_1.out) hb)
                                                    have n8_ := Aside0.mk (blk_below (g := gb325) (o := .cells #[.int .i64 ((rd_T28 y321 x44_1).f0), .int .i64 ((rd_T28 y321 x44_1).f1)] 28 (0, 0)) (by (with_reducible repeat (first | refine blk_drewN ?_ _ | refine blk_drew ?_ | refine blk_alloc ?_ _)); exact BK325.out) hb)
                                                    have n9_ := Aside0.mk (Kd.C_below (by repeat (first | (with_reducible exact HR335_0.out) | (with_reducible refine Kd.C_alloc ?_ _) | (with_reducible refine Kd.C_drewN ?_ _) | (with_reducible refine Kd.C_drew ?_) | exact HR335_0.out)) hb)
                                                    have n10_ := Aside0.mk (Kd.C_below (by repeat (first | (with_reducible exact HR344_1.out) | (with_reducible refine Kd.C_alloc ?_ _) | (with_reducible refine Kd.C_drewN ?_ _) | (with_reducible refine Kd.C_drew ?_) | exact HR344_1.out)) hb)
                                                    have n11_ := Aside0.mk (Kd.C_below (by repeat (first | (with_reducible exact HR345_1.out) | (with_reducible refine Kd.C_alloc ?_ _) | (with_reducible refine Kd.C_drewN ?_ _) | (with_reducible refine Kd.C_drew ?_) | exact HR345_1.out)) hb)
                                                    have n12_ := Aside0.mk (below_step (by repeat (first | (with_reducible first | exact HB.out | apply below_alloc | apply pw_below_drewN | apply below_drew1 | refine below_set ?_ GE325.out) | exact HB.out)) hb)
                                                    clear HO_1
                                                    clear HO_10
                                                    clear HO_15
                                                    clear HO_17
                                                    clear HO_42
                                                    clear HO_55
                                                    clear HL344_1
                                                    clear HL345_1
                                                    clear BK325
                                                    clear HR335_0
                                                    clear HR344_1
                                                    clear HR345_1
                                                    clear HB
                                                    have HO_1 := n0_
                                                    have HO_10 := n1_
                                                    have HO_15 := n2_
                                                    have HO_17 := n3_
                                                    have HO_42 := n4_
                                                    have HO_55 := n5_
                                                    have HL344_1 := n6_
                                                    have HL345_1 := n7_
                                                    have BK325 := n8_
                                                    have HR335_0 := n9_
                                                    have HR344_1 := n10_
                                                    have HR345_1 := n11_
                                                    have HB := n12_
                                                    clear n0_ n1_ n2_ n3_ n4_ n5_ n6_ n7_ n8_ n9_ n10_ n11_ n12_
                                                    (try clear hb)
                                                    (try clear hb2)
                                                    (try clear hk)
                                                    (try clear hi)
                                                    (try clear hgw)
                                                    refine hK.out _ _ ⟨HS0_, HS1_, HS2_, HS3_⟩ (fun hHeld => ?_)
                                                    clear hK K
                                                    refine norm_ (a' := ?_) ?_ ?_
                                                    rotate_left
                                                    · show Act.put _ (some 110) _ = _
                                                      simp only [Act.put, List.setIfInBounds_toArray, List.set_cons_zero, List.set_cons_succ, i64_w, i32_w]
                                                      rfl
                                                    refine pure_ (i := 9) (N := some 111) (v := ?_) (a' := ?_) #[true, true, true, true, true, true, true, true, true, true] rfl rfl (any_of HT_.out (by kernel_rfl)) (fun _ _ _ h => h) (Or.inl ⟨by rfl, ?_⟩) ?_ ?_
                                                    rotate_left
                                                    · intro w'
                                                      go_simp
                                                      with_reducible rfl
                                                    rotate_left
                                                    · simp only [Act.put, List.setIfInBounds_toArray, List.set_cons_zero, List.set_cons_succ, i64_w, i32_w]
                                                      rfl
                                                    refine done_ (done_of HT_.out (by kernel_rfl)) ?_
                                                    try go_wp2
                                                    go_roundg k3
                                                    case measure => have := HK1.out; have := HK2.out; have := HK3.out; omega
                                                    case rel => exact ⟨(wrap64 (x99_3 + 1)), (by first | rfl | (simp; done) | (simp [*]; done)), H', ⟨by have := HK1.out; have := HK2.out; have := HK3.out; omega⟩, ⟨by (with_reducible repeat (first | apply Kd.V_alloc | apply Kd.V_drewN | apply Kd.V_drew)); exact HO_1.out⟩, ⟨by (with_reducible repeat (first | apply Kd.R_alloc | apply Kd.R_drewN | apply Kd.R_drew)); exact HO_10.out⟩, ⟨by (with_reducible repeat (first | apply Kd.N_alloc | apply Kd.N_drewN | apply Kd.N_drew)); exact HO_15.out⟩, ⟨by (with_reducible repeat (first | apply Kd.N_alloc | apply Kd.N_drewN | apply Kd.N_drew)); exact HO_17.out⟩, ⟨by (with_reducible repeat (first | apply Kd.R_alloc | apply Kd.R_drewN | apply Kd.R_drew)); exact HO_42.out⟩, ⟨by (with_reducible repeat (first | apply Kd.N_alloc | apply Kd.N_drewN | apply Kd.N_drew)); exact HO_55.out⟩, ⟨by (with_reducible repeat (first | refine blk_drewN ?_ _ | refine blk_drew ?_ | refine blk_alloc ?_ _)); exact BK325.out⟩, ⟨by repeat (first | (with_reducible exact HR335_0.out) | (with_reducible refine Kd.C_alloc ?_ _) | (with_reducible refine Kd.C_drewN ?_ _) | (with_reducible refine Kd.C_drew ?_) | exact HR335_0.out)⟩, ⟨by repeat (first | (with_reducible first | exact HB.out | apply below_alloc | apply pw_below_drewN | apply below_drew1 | refine below_set ?_ GE325.out) | exact HB.out)⟩⟩
                                                  · replace c56 := Bool.eq_false_iff.mpr c56
                                                    subst c56
                                                    have H1 : (some false) = some r := by rw [if_neg (show ¬ (false = true) by decide)] at H; exact H
                                                    clear H
                                                    have H := H1
                                                    clear H1
                                                    exact absurd (Option.some.inj H) (by rw [HRT_.out]; decide)
                                                · rw [if_neg c54] at H
                                                  exact absurd H (by simp)
                                              · rw [if_neg c53] at H
                                                exact absurd H (by simp)
                                            · rw [if_neg c52] at H
                                              exact absurd H (by simp)
                                          · rw [if_neg c51] at H
                                            have c51b0 : decide (x99_3 < (t340.length : Int)) = false := decide_eq_false c51
                                            clear c51
                                            have H' := Aside0.mk H
                                            clear H
                                            go_wp2
                                            go_roundg k3
                                            case measure => have := HK1.out; have := HK2.out; have := HK3.out; omega
                                            case rel => exact ⟨(wrap64 (x57_2 + 1)), (by first | rfl | (simp; done) | (simp [*]; done)), H', ⟨by have := HK1.out; have := HK2.out; have := HK3.out; omega⟩, ⟨by (with_reducible repeat (first | apply Kd.V_alloc | apply Kd.V_drewN | apply Kd.V_drew)); exact Kd.V_mono HO_1.out (fun _ hk => ⟨hk.1, ⟨hk.2.1, ⟨hk.2.2.2.2.1, ⟨hk.2.2.2.2.2.1, hk.2.2.2.2.2.2⟩⟩⟩⟩)⟩, ⟨by (with_reducible repeat (first | apply Kd.R_alloc | apply Kd.R_drewN | apply Kd.R_drew)); exact HO_10.out⟩, ⟨by (with_reducible repeat (first | apply Kd.R_alloc | apply Kd.R_drewN | apply Kd.R_drew)); exact HO_42.out⟩, ⟨by (with_reducible repeat (first | apply Kd.N_alloc | apply Kd.N_drewN | apply Kd.N_drew)); exact Kd.N_mono HO_55.out (fun _ hk => ⟨hk.1, ⟨hk.2.2.2.1, hk.2.2.2.2⟩⟩)⟩, ⟨by (with_reducible repeat (first | refine blk_drewN ?_ _ | refine blk_drew ?_ | refine blk_alloc ?_ _)); exact BK325.out⟩, ⟨by repeat (first | (with_reducible first | exact HB.out | apply below_alloc | apply pw_below_drewN | apply below_drew1 | refine below_set ?_ GE325.out) | exact HB.out)⟩⟩
                                    · rw [if_neg c44] at H
                                      have c44b0 : ((t336.length : Int) == (t340.length : Int)) = false := beq_eq_false_iff_ne.mpr c44
                                      have c44b1 : ((t336.length : Int) != (t340.length : Int)) = true := bne_iff_ne.mpr c44
                                      have c44b2 : (t336.length == t340.length) = false := by first | simpa using c44 | (simp at c44 ⊢; omega)
                                      exact absurd (Option.some.inj H) (by rw [HRT_.out]; decide)
                                  · rw [if_neg c43] at H
                                    have c43b0 : (t337 == t343) = false := beq_eq_false_iff_ne.mpr c43
                                    have c43b1 : (t337 != t343) = true := bne_iff_ne.mpr c43
                                    exact absurd (Option.some.inj H) (by rw [HRT_.out]; decide)
                              · rw [if_neg c38] at H
                                have c38b0 : decide (12 < ((rd_L4 y332 x57_2).length : Int)) = false := decide_eq_false c38
                                have c38b1 : decide (12 < (rd_L4 y332 x57_2).length) = false := decide_eq_false (by omega)
                                clear c38
                                replace H := Option.bind_eq_some_iff.mp H
                                obtain ⟨⟨t347, t348⟩, A590, H⟩ := H
                                replace H : ((storagebarterref30_All.f k2 (rd_L4 y332 x57_2) ((rd_T28 y321 x44_1).f0) ((rd_T28 y321 x44_1).f1)).bind fun bt351 => (if t348 = bt351.2 then (if (t347.length : Int) = (bt351.1.length : Int) then (storagebarterlaw30_DeviationLists.l2 k2 l1 t313 t347 bt351.1 y321 (y321.length : Int) x44_1 y332 (y332.length : Int) x57_2 (bt351.1.length : Int) 0 ((rd_T28 y321 x44_1).f0) ((rd_T28 y321 x44_1).f1)) else (some false)) else (some false))) = some r := H
                                have A59 := Aside0.mk A590
                                clear A590
                                replace H := Option.bind_eq_some_iff.mp H
                                obtain ⟨⟨t351, t354⟩, A600, H⟩ := H
                                replace H : (if t348 = t354 then (if (t347.length : Int) = (t351.length : Int) then (storagebarterlaw30_DeviationLists.l2 k2 l1 t313 t347 t351 y321 (y321.length : Int) x44_1 y332 (y332.length : Int) x57_2 (t351.length : Int) 0 ((rd_T28 y321 x44_1).f0) ((rd_T28 y321 x44_1).f1)) else (some false)) else (some false)) = some r := H
                                have A60 := Aside0.mk A600
                                clear A600
                                by_cases c61 : t348 = t354
                                · rw [if_pos c61] at H
                                  have c61b0 : (t348 == t354) = true := beq_iff_eq.mpr c61
                                  have c61b1 : (t348 != t354) = false := bne_eq_false_iff_eq.mpr c61
                                  clear c61
                                  by_cases c62 : (t347.length : Int) = (t351.length : Int)
                                  · rw [if_pos c62] at H
                                    have c62b0 : ((t347.length : Int) == (t351.length : Int)) = true := beq_iff_eq.mpr c62
                                    have c62b1 : ((t347.length : Int) != (t351.length : Int)) = false := bne_eq_false_iff_eq.mpr c62
                                    have c62b2 : (t347.length == t351.length) = true := by first | simpa using c62 | (simp at c62 ⊢; omega)
                                    clear c62
                                    have H' := Aside0.mk H
                                    clear H
                                    have p335 : 0 ≤ (x57_2 : Int) := of_decide_eq_true (by first | (with_reducible assumption) | assumption)
                                    have q335 : x57_2 < (y332.length : Int) := of_decide_eq_true (by first | (with_reducible assumption) | assumption)
                                    obtain ⟨ad335, A335_0, c335_0, e335, hx335_0, hl335_0, hi335_0⟩ := at_L4 (Kd.N_reads' HO_55.out).2.2 x57_2 p335 q335
                                    cases e335
                                    obtain ⟨ce335, hce335, hMe335, hcc335⟩ := Kd.N_get HO_55.out [] x57_2 p335 (by first | exact q335 | exact of_decide_eq_true (by first | (with_reducible assumption) | assumption) | (have e_ := (Kd.N_reads' HO_55.out).1; omega))
                                    obtain ⟨ua335_0, uc335_0, rfl, ul335_0, ge335_0⟩ := Kd.FK_slice_open hMe335
                                    have hv335_0 := hcc335 0 _ rfl
                                    rw [Nat.add_zero, show ((Kd.slice 56 k56)).sz = 1 from rfl, Nat.mul_one] at hv335_0
                                    replace hv335_0 := Option.some.inj (hv335_0.symm.trans hx335_0)
                                    injection hv335_0 with hva_ hvn_ hvc_
                                    rw [hva_] at ge335_0
                                    rw [hvc_] at ul335_0
                                    have HL335_0 := Aside0.mk (show Kd.V k56 56 _ w.heap.size _ _ (rd_L4 y332 x57_2) from Kd.V_mk ul335_0 ge335_0)
                                    clear hva_ hvn_ hvc_ ge335_0 ul335_0
                                    clear hcc335 hce335
                                    have HR335_0 := Aside0.mk hi335_0
                                    have HC335_0 := Aside0.mk hl335_0
                                    clear hi335_0 hl335_0
                                    replace p335 := eq_true p335
                                    replace q335 := eq_true q335
                                    have hcz63_0 : wr.cell? ⟨gb325, 0, none⟩ = some (.int .i64 ((rd_T28 y321 x44_1).f0)) := (blk_cell BK325.out 0).trans rfl
                                    have hcz63_1 : wr.cell? ⟨gb325, 1, none⟩ = some (.int .i64 ((rd_T28 y321 x44_1).f1)) := (blk_cell BK325.out 1).trans rfl
                                    have hfz63_0 := blk_frozen BK325.out 0
                                    have hfz63_1 := blk_frozen BK325.out 1
                                    go_wp2_with (first | ((with_reducible refine gate_callee (f := 12) rfl ?_); refine goesL_ (some 75) rfl rfl Tryd.func12 (by kernel_rfl) rfl #[.slice A335_0 (rd_L4 y332 x57_2).length c335_0, .int .i64 ((rd_T28 y321 x44_1).f0), .int .i64 ((rd_T28 y321 x44_1).f1)] rfl (by (try simp only [List.map_toArray, List.map_cons, List.map_nil]); first | done | rfl | (simp only [List.length_drop, List.length_take]; rfl)) ?_; (with_reducible refine (deviation_All.calls k2 _ _ (rd_L4 y332 x57_2) ((rd_T28 y321 x44_1).f0) ((rd_T28 y321 x44_1).f1) t347 t348 _ ?side1 ?side2 A59.out (by first | exact HL_.out | exact laid_below HL_.out (by repeat (first | (with_reducible first | exact HB.out | apply below_alloc | apply pw_below_drewN | apply below_drew1) | refine below_set ?_ (Aside0.out (by assumption)) | exact HB.out)) | exact laid_drawn HL_.out HD.out | exact laid_drawn HL_.out (HD.out.step _))).mono ?_); (case side1 => repeat (first | exact (by repeat (first | (with_reducible exact HR335_0.out) | (with_reducible refine Kd.C_alloc ?_ _) | (with_reducible refine Kd.C_drewN ?_ _) | (with_reducible refine Kd.C_drew ?_) | exact HR335_0.out)) | (with_reducible refine Kd.C_alloc ?_ _) | (with_reducible refine Kd.C_drewN ?_ _) | (with_reducible refine Kd.C_drew ?_))); (case side2 => exact HC335_0.out); rintro e w64 ⟨v349, rfl, ho0, hb⟩; refine ⟨_, rfl, ?_⟩; have n0_ := Aside0.mk (Kd.V_elder' (by (with_reducible repeat (first | apply Kd.V_alloc | apply Kd.V_drewN | apply Kd.V_drew)); exact HO_1.out) (Kd.S_base ho0) hb); have n1_ := Aside0.mk (Kd.R_below (by (with_reducible repeat (first | apply Kd.R_alloc | apply Kd.R_drewN | apply Kd.R_drew)); exact HO_10.out) hb); have n2_ := Aside0.mk (Kd.R_below (by (with_reducible repeat (first | apply Kd.R_alloc | apply Kd.R_drewN | apply Kd.R_drew)); exact HO_42.out) hb); have n3_ := Aside0.mk (Kd.N_elder' (by (with_reducible repeat (first | apply Kd.N_alloc | apply Kd.N_drewN | apply Kd.N_drew)); exact HO_55.out) (Kd.S_base ho0) hb); have n4_ := Aside0.mk (Kd.V_elder' (by (with_reducible repeat (first | apply Kd.V_alloc | apply Kd.V_drewN | apply Kd.V_drew)); exact HL335_0.out) (Kd.S_base ho0) hb); have n5_ := Aside0.mk (Kd.N_lower (Kd.N_mono (ok' := fun k_ => (P1_ k_ ∨ w.heap.size ≤ k_) ∧ some k_ ≠ (.slice Ao30 t313.length co30 : Value).ownBlock ∧ some k_ ≠ (.slice (some ad324) y321.length co20 : Value).ownBlock ∧ some k_ ≠ (.slice (some ad335) y332.length co34 : Value).ownBlock ∧ k_ ≠ gb325) (Kd.S_N (Kd.S_bound ho0)) (fun k_ hk_ => ⟨(.inr (Nat.le_trans (below_size (by repeat (first | (with_reducible first | exact HB.out | apply below_alloc | apply pw_below_drewN | apply below_drew1 | refine below_set ?_ GE325.out) | exact HB.out))) hk_.2.1)), (Kd.fresh' (Kd.R_lt (by (with_reducible repeat (first | apply Kd.R_alloc | apply Kd.R_drewN | apply Kd.R_drew)); exact HO_10.out)) k_ hk_.2.1), (Kd.fresh' (Kd.R_lt (by (with_reducible repeat (first | apply Kd.R_alloc | apply Kd.R_drewN | apply Kd.R_drew)); exact HO_42.out)) k_ hk_.2.1), (Kd.fresh' (Kd.N_lt (by (with_reducible repeat (first | apply Kd.N_alloc | apply Kd.N_drewN | apply Kd.N_drew)); exact HO_55.out)) k_ hk_.2.1), (Kd.freshB (g := gb325) (o := .cells #[.int .i64 ((rd_T28 y321 x44_1).f0), .int .i64 ((rd_T28 y321 x44_1).f1)] 28 (0, 0)) (by (with_reducible repeat (first | refine blk_drewN ?_ _ | refine blk_drew ?_ | refine blk_alloc ?_ _)); exact BK325.out) k_ hk_.2.1)⟩)) (below_size (by repeat (first | (with_reducible first | exact HB.out | apply below_alloc | apply pw_below_drewN | apply below_drew1 | refine below_set ?_ GE325.out) | exact HB.out)))); have n6_ := Aside0.mk (blk_below (g := gb325) (o := .cells #[.int .i64 ((rd_T28 y321 x44_1).f0), .int .i64 ((rd_T28 y321 x44_1).f1)] 28 (0, 0)) (by (with_reducible repeat (first | refine blk_drewN ?_ _ | refine blk_drew ?_ | refine blk_alloc ?_ _)); exact BK325.out) hb); have n7_ := Aside0.mk (Kd.C_below (by repeat (first | (with_reducible exact HR335_0.out) | (with_reducible refine Kd.C_alloc ?_ _) | (with_reducible refine Kd.C_drewN ?_ _) | (with_reducible refine Kd.C_drew ?_) | exact HR335_0.out)) hb); have n8_ := Aside0.mk (below_step (by repeat (first | (with_reducible first | exact HB.out | apply below_alloc | apply pw_below_drewN | apply below_drew1 | refine below_set ?_ GE325.out) | exact HB.out)) hb); clear HO_1; clear HO_10; clear HO_42; clear HO_55; clear HL335_0; clear BK325; clear HR335_0; clear HB; have HO_1 := n0_; have HO_10 := n1_; have HO_42 := n2_; have HO_55 := n3_; have HL335_0 := n4_; have HO350 := n5_; have BK325 := n6_; have HR335_0 := n7_; have HB := n8_; clear n0_ n1_ n2_ n3_ n4_ n5_ n6_ n7_ n8_; (try clear hb); (try clear hb2); (try clear hk); (try clear hi); (try clear hgw); (try clear ho0); have hcz65_0 : w64.cell? ⟨gb325, 0, none⟩ = some (.int .i64 ((rd_T28 y321 x44_1).f0)) := (blk_cell BK325.out 0).trans rfl; have hcz65_1 : w64.cell? ⟨gb325, 1, none⟩ = some (.int .i64 ((rd_T28 y321 x44_1).f1)) := (blk_cell BK325.out 1).trans rfl; have hfz65_0 := blk_frozen BK325.out 0; have hfz65_1 := blk_frozen BK325.out 1) | ((with_reducible refine gate_callee (f := 13) rfl ?_); refine goesL_ (some 84) rfl rfl Tryd.func13 (by kernel_rfl) rfl #[.slice A335_0 (rd_L4 y332 x57_2).length c335_0, .int .i64 ((rd_T28 y321 x44_1).f0), .int .i64 ((rd_T28 y321 x44_1).f1)] rfl (by (try simp only [List.map_toArray, List.map_cons, List.map_nil]); first | done | rfl | (simp only [List.length_drop, List.length_take]; rfl)) ?_; (with_reducible refine (storagebarterref30_All.calls k2 _ _ (rd_L4 y332 x57_2) ((rd_T28 y321 x44_1).f0) ((rd_T28 y321 x44_1).f1) t351 t354 _ ?side1 ?side2 A60.out).mono ?_); (case side1 => repeat (first | exact (by repeat (first | (with_reducible exact HR335_0.out) | (with_reducible refine Kd.C_alloc ?_ _) | (with_reducible refine Kd.C_drewN ?_ _) | (with_reducible refine Kd.C_drew ?_) | exact HR335_0.out)) | (with_reducible refine Kd.C_alloc ?_ _) | (with_reducible refine Kd.C_drewN ?_ _) | (with_reducible refine Kd.C_drew ?_))); (case side2 => exact HC335_0.out); rintro e w66 ⟨v352, rfl, ho0, hb⟩; refine ⟨_, rfl, ?_⟩; have n0_ := Aside0.mk (Kd.V_elder' (by (with_reducible repeat (first | apply Kd.V_alloc | apply Kd.V_drewN | apply Kd.V_drew)); exact HO_1.out) (Kd.N_base ho0) hb); have n1_ := Aside0.mk (Kd.R_below (by (with_reducible repeat (first | apply Kd.R_alloc | apply Kd.R_drewN | apply Kd.R_drew)); exact HO_10.out) hb); have n2_ := Aside0.mk (Kd.R_below (by (with_reducible repeat (first | apply Kd.R_alloc | apply Kd.R_drewN | apply Kd.R_drew)); exact HO_42.out) hb); have n3_ := Aside0.mk (Kd.N_elder' (by (with_reducible repeat (first | apply Kd.N_alloc | apply Kd.N_drewN | apply Kd.N_drew)); exact HO_55.out) (Kd.N_base ho0) hb); have n4_ := Aside0.mk (Kd.V_elder' (by (with_reducible repeat (first | apply Kd.V_alloc | apply Kd.V_drewN | apply Kd.V_drew)); exact HL335_0.out) (Kd.N_base ho0) hb); have n5_ := Aside0.mk (Kd.N_elder' (by (with_reducible repeat (first | apply Kd.N_alloc | apply Kd.N_drewN | apply Kd.N_drew)); exact HO350.out) (Kd.N_base ho0) hb); have n6_ := Aside0.mk (Kd.N_lower (Kd.N_mono (ok' := fun k_ => (P1_ k_ ∨ w.heap.size ≤ k_) ∧ some k_ ≠ (.slice Ao30 t313.length co30 : Value).ownBlock ∧ some k_ ≠ (.slice (some ad324) y321.length co20 : Value).ownBlock ∧ some k_ ≠ (.slice (some ad335) y332.length co34 : Value).ownBlock ∧ some k_ ≠ (v349 : Value).ownBlock ∧ k_ ≠ gb325) ho0 (fun k_ hk_ => ⟨(.inr (Nat.le_trans (below_size (by repeat (first | (with_reducible first | exact HB.out | apply below_alloc | apply pw_below_drewN | apply below_drew1 | refine below_set ?_ GE325.out) | exact HB.out))) hk_)), (Kd.fresh' (Kd.R_lt (by (with_reducible repeat (first | apply Kd.R_alloc | apply Kd.R_drewN | apply Kd.R_drew)); exact HO_10.out)) k_ hk_), (Kd.fresh' (Kd.R_lt (by (with_reducible repeat (first | apply Kd.R_alloc | apply Kd.R_drewN | apply Kd.R_drew)); exact HO_42.out)) k_ hk_), (Kd.fresh' (Kd.N_lt (by (with_reducible repeat (first | apply Kd.N_alloc | apply Kd.N_drewN | apply Kd.N_drew)); exact HO_55.out)) k_ hk_), (Kd.fresh' (Kd.N_lt (by (with_reducible repeat (first | apply Kd.N_alloc | apply Kd.N_drewN | apply Kd.N_drew)); exact HO350.out)) k_ hk_), (Kd.freshB (g := gb325) (o := .cells #[.int .i64 ((rd_T28 y321 x44_1).f0), .int .i64 ((rd_T28 y321 x44_1).f1)] 28 (0, 0)) (by (with_reducible repeat (first | refine blk_drewN ?_ _ | refine blk_drew ?_ | refine blk_alloc ?_ _)); exact BK325.out) k_ hk_)⟩)) (below_size (by repeat (first | (with_reducible first | exact HB.out | apply below_alloc | apply pw_below_drewN | apply below_drew1 | refine below_set ?_ GE325.out) | exact HB.out)))); have n7_ := Aside0.mk (blk_below (g := gb325) (o := .cells #[.int .i64 ((rd_T28 y321 x44_1).f0), .int .i64 ((rd_T28 y321 x44_1).f1)] 28 (0, 0)) (by (with_reducible repeat (first | refine blk_drewN ?_ _ | refine blk_drew ?_ | refine blk_alloc ?_ _)); exact BK325.out) hb); have n8_ := Aside0.mk (Kd.C_below (by repeat (first | (with_reducible exact HR335_0.out) | (with_reducible refine Kd.C_alloc ?_ _) | (with_reducible refine Kd.C_drewN ?_ _) | (with_reducible refine Kd.C_drew ?_) | exact HR335_0.out)) hb); have n9_ := Aside0.mk (below_step (by repeat (first | (with_reducible first | exact HB.out | apply below_alloc | apply pw_below_drewN | apply below_drew1 | refine below_set ?_ GE325.out) | exact HB.out)) hb); clear HO_1; clear HO_10; clear HO_42; clear HO_55; clear HL335_0; clear HO350; clear BK325; clear HR335_0; clear HB; have HO_1 := n0_; have HO_10 := n1_; have HO_42 := n2_; have HO_55 := n3_; have HL335_0 := n4_; have HO350 := n5_; have HO353 := n6_; have BK325 := n7_; have HR335_0 := n8_; have HB := n9_; clear n0_ n1_ n2_ n3_ n4_ n5_ n6_ n7_ n8_ n9_; (try clear hb); (try clear hb2); (try clear hk); (try clear hi); (try clear hgw); (try clear ho0); obtain ⟨Ao67, co67, eo67⟩ := Kd.N_slice HO350.out; subst eo67; obtain ⟨Ao68, co68, eo68⟩ := Kd.N_slice HO353.out; subst eo68))
                                    go_loopg [99] k2 (fun kq v99 w' => ∃ (x99_3 : Int), v99 = .int .i64 x99_3 ∧ Aside0 (storagebarterlaw30_DeviationLists.l2 kq l1 t313 t347 t351 y321 (y321.length : Int) x44_1 y332 (y332.length : Int) x57_2 (t351.length : Int) x99_3 ((rd_T28 y321 x44_1).f0) ((rd_T28 y321 x44_1).f1) = some r) ∧ Aside0 (kq ≤ k2) ∧ Aside0 (Kd.V k56 56 w' w.heap.size (fun k_ => (P1_ k_ ∨ w.heap.size ≤ k_) ∧ some k_ ≠ ((.slice Ao30 t313.length co30) : Value).ownBlock ∧ some k_ ≠ ((.slice Ao67 t347.length co67) : Value).ownBlock ∧ some k_ ≠ ((.slice Ao68 t351.length co68) : Value).ownBlock ∧ some k_ ≠ ((.slice (some ad324) y321.length co20) : Value).ownBlock ∧ some k_ ≠ ((.slice (some ad335) y332.length co34) : Value).ownBlock ∧ k_ ≠ gb325) (.slice A1 l1.length c1) l1) ∧ Aside0 (Kd.R k56 56 w' w.heap.size (fun k_ => (w.heap.size ≤ k_)) (.slice Ao30 t313.length co30) t313) ∧ Aside0 (Kd.N k39 39 w' w.heap.size (fun k_ => (P1_ k_ ∨ w.heap.size ≤ k_) ∧ some k_ ≠ ((.slice Ao30 t313.length co30) : Value).ownBlock ∧ some k_ ≠ ((.slice Ao68 t351.length co68) : Value).ownBlock ∧ some k_ ≠ ((.slice (some ad324) y321.length co20) : Value).ownBlock ∧ some k_ ≠ ((.slice (some ad335) y332.length co34) : Value).ownBlock ∧ k_ ≠ gb325) (.slice Ao67 t347.length co67) t347) ∧ Aside0 (Kd.N k39 39 w' w.heap.size (fun k_ => (P1_ k_ ∨ w.heap.size ≤ k_) ∧ some k_ ≠ ((.slice Ao30 t313.length co30) : Value).ownBlock ∧ some k_ ≠ ((.slice Ao67 t347.length co67) : Value).ownBlock ∧ some k_ ≠ ((.slice (some ad324) y321.length co20) : Value).ownBlock ∧ some k_ ≠ ((.slice (some ad335) y332.length co34) : Value).ownBlock ∧ k_ ≠ gb325) (.slice Ao68 t351.length co68) t351) ∧ Aside0 (Kd.R k28 28 w' w.heap.size (fun k_ => (w.heap.size ≤ k_) ∧ k_ ≠ gb325) (.slice (some ad324) y321.length co20) y321) ∧ Aside0 (Kd.N (Kd.slice 56 k56) 23 w' w.heap.size (fun k_ => (P1_ k_ ∨ w.heap.size ≤ k_) ∧ some k_ ≠ ((.slice Ao67 t347.length co67) : Value).ownBlock ∧ some k_ ≠ ((.slice Ao68 t351.length co68) : Value).ownBlock ∧ some k_ ≠ ((.slice (some ad324) y321.length co20) : Value).ownBlock ∧ k_ ≠ gb325) (.slice (some ad335) y332.length co34) y332) ∧ Aside0 (w'.heap[gb325]? = some (.cells #[.int .i64 ((rd_T28 y321 x44_1).f0), .int .i64 ((rd_T28 y321 x44_1).f1)] 28 (0, 0))) ∧ Aside0 (Kd.C k56 w' A335_0 (rd_L4 y332 x57_2).length (rd_L4 y332 x57_2)) ∧ Aside0 (Below w.heap.size w w'))
                                    case atStart => exact ⟨(0), (by first | rfl | (simp; done) | (simp [*]; done)), H', ⟨Nat.le_refl _⟩, ⟨by (with_reducible repeat (first | apply Kd.V_alloc | apply Kd.V_drewN | apply Kd.V_drew)); exact Kd.V_mono HO_1.out (fun _ hk => ⟨hk.1.1.1, ⟨hk.1.1.2.1, ⟨hk.1.2, ⟨hk.2, ⟨hk.1.1.2.2.1, ⟨hk.1.1.2.2.2.1, hk.1.1.2.2.2.2⟩⟩⟩⟩⟩⟩)⟩, ⟨by (with_reducible repeat (first | apply Kd.R_alloc | apply Kd.R_drewN | apply Kd.R_drew)); exact HO_10.out⟩, ⟨by (with_reducible repeat (first | apply Kd.N_alloc | apply Kd.N_drewN | apply Kd.N_drew)); exact Kd.N_mono HO350.out (fun _ hk => ⟨hk.1.1, ⟨hk.1.2.1, ⟨hk.2, ⟨hk.1.2.2.1, ⟨hk.1.2.2.2.1, hk.1.2.2.2.2⟩⟩⟩⟩⟩)⟩, ⟨by (with_reducible repeat (first | apply Kd.N_alloc | apply Kd.N_drewN | apply Kd.N_drew)); exact Kd.N_mono HO353.out (fun _ hk => ⟨hk.1, ⟨hk.2.1, ⟨hk.2.2.2.2.1, ⟨hk.2.2.1, ⟨hk.2.2.2.1, hk.2.2.2.2.2⟩⟩⟩⟩⟩)⟩, ⟨by (with_reducible repeat (first | apply Kd.R_alloc | apply Kd.R_drewN | apply Kd.R_drew)); exact HO_42.out⟩, ⟨by (with_reducible repeat (first | apply Kd.N_alloc | apply Kd.N_drewN | apply Kd.N_drew)); exact Kd.N_mono HO_55.out (fun _ hk => ⟨hk.1.1.1, ⟨hk.1.2, ⟨hk.2, ⟨hk.1.1.2.1, hk.1.1.2.2⟩⟩⟩⟩)⟩, ⟨by (with_reducible repeat (first | refine blk_drewN ?_ _ | refine blk_drew ?_ | refine blk_alloc ?_ _)); exact BK325.out⟩, ⟨by repeat (first | (with_reducible exact HR335_0.out) | (with_reducible refine Kd.C_alloc ?_ _) | (with_reducible refine Kd.C_drewN ?_ _) | (with_reducible refine Kd.C_drew ?_) | exact HR335_0.out)⟩, ⟨by repeat (first | (with_reducible first | exact HB.out | apply below_alloc | apply pw_below_drewN | apply below_drew1 | refine below_set ?_ GE325.out) | exact HB.out)⟩⟩
                                    case round =>
                                      clear H'
                                      try clear c1
                                      try clear c2
                                      try clear p2
                                      try clear c3
                                      try clear p3
                                      try clear q3
                                      try clear hx3
                                      try clear c4
                                      try clear c5
                                      try clear c6
                                      try clear p6
                                      try clear c7
                                      try clear c7b0
                                      try clear c7b1
                                      try clear c8
                                      try clear c9
                                      try clear c10
                                      try clear c11
                                      try clear c12
                                      try clear c13
                                      try clear c14
                                      try clear c21
                                      try clear c21b0
                                      try clear c22
                                      try clear c22b0
                                      try clear c23
                                      try clear c23b0
                                      try clear c25
                                      try clear c25b0
                                      try clear c25b1
                                      try clear c26
                                      try clear c26b0
                                      try clear c26b1
                                      try clear q31
                                      try clear p32
                                      try clear q32
                                      try clear hx32
                                      try clear c33
                                      try clear p33
                                      try clear q33
                                      try clear hx33
                                      try clear c34
                                      try clear p34
                                      try clear q34
                                      try clear hx34
                                      try clear c35
                                      try clear c35b0
                                      try clear c36
                                      try clear c36b0
                                      try clear c37
                                      try clear c37b0
                                      try clear c38
                                      try clear c38b0
                                      try clear c38b1
                                      try clear c39
                                      try clear c39b0
                                      try clear c43
                                      try clear c43b0
                                      try clear c43b1
                                      try clear c44
                                      try clear c44b0
                                      try clear c44b1
                                      try clear c44b2
                                      try clear c51
                                      try clear c51b0
                                      try clear c52
                                      try clear c52b0
                                      try clear c53
                                      try clear c53b0
                                      try clear c54
                                      try clear c54b0
                                      try clear c56
                                      try clear c61
                                      try clear c61b0
                                      try clear c61b1
                                      try clear c62
                                      try clear c62b0
                                      try clear c62b1
                                      try clear c62b2
                                      try clear p64
                                      try clear hcz28_0
                                      try clear hcz28_1
                                      try clear hcz40_0
                                      try clear hcz40_1
                                      try clear hcz45_0
                                      try clear hcz45_1
                                      try clear hcz47_0
                                      try clear hcz47_1
                                      try clear hcz63_0
                                      try clear hcz63_1
                                      try clear hcz65_0
                                      try clear hcz65_1
                                      try clear hfz28_0
                                      try clear hfz28_1
                                      try clear hfz40_0
                                      try clear hfz40_1
                                      try clear hfz45_0
                                      try clear hfz45_1
                                      try clear hfz47_0
                                      try clear hfz47_1
                                      try clear hfz63_0
                                      try clear hfz63_1
                                      try clear hfz65_0
                                      try clear hfz65_1
                                      try clear hx324_0
                                      try clear hx324_1
                                      try clear hx335_0
                                      try clear hx344_0
                                      try clear hx344_1
                                      try clear hx345_0
                                      try clear hx345_1
                                      try clear p2
                                      try clear p3
                                      try clear p32
                                      try clear p324
                                      try clear p33
                                      try clear p335
                                      try clear p344
                                      try clear p345
                                      try clear p6
                                      try clear q3
                                      try clear q31
                                      try clear q32
                                      try clear q324
                                      try clear q33
                                      try clear q335
                                      try clear q344
                                      try clear q345
                                      obtain ⟨x99_3, rfl, HA, HK3, HO_1, HO_10, HO_15, HO_17, HO_42, HO_55, BK325, HR335_0, HB⟩ := hrel
                                      cases gk with
                                      | zero => exact absurd HA.out (by simp [storagebarterlaw30_DeviationLists.l2])
                                      | succ k3 =>
                                        have H := HA.out
                                        clear HA
                                        simp only [storagebarterlaw30_DeviationLists.l2] at H
                                        by_cases c69 : x99_3 < (t351.length : Int)
                                        · rw [if_pos c69] at H
                                          have c69b0 : decide (x99_3 < (t351.length : Int)) = true := decide_eq_true c69
                                          clear c69
                                          by_cases c70 : 0 ≤ x99_3
                                          · rw [if_pos c70] at H
                                            have c70b0 : decide (0 ≤ x99_3) = true := decide_eq_true c70
                                            clear c70
                                            by_cases c71 : x99_3 < (t347.length : Int)
                                            · rw [if_pos c71] at H
                                              have c71b0 : decide (x99_3 < (t347.length : Int)) = true := decide_eq_true c71
                                              clear c71
                                              by_cases c72 : x99_3 < (t351.length : Int)
                                              · rw [if_pos c72] at H
                                                have c72b0 : decide (x99_3 < (t351.length : Int)) = true := decide_eq_true c72
                                                clear c72
                                                replace H := Option.bind_eq_some_iff.mp H
                                                obtain ⟨t346, A730, H⟩ := H
                                                replace H : (if t346 = true then (storagebarterlaw30_DeviationLists.l2 k3 l1 t313 t347 t351 y321 (y321.length : Int) x44_1 y332 (y332.length : Int) x57_2 (t351.length : Int) (wrap64 (x99_3 + 1)) ((rd_T28 y321 x44_1).f0) ((rd_T28 y321 x44_1).f1)) else (some false)) = some r := H
                                                have A73 := Aside0.mk A730
                                                clear A730
                                                by_cases c74 : t346 = true
                                                · subst c74
                                                  have H1 : (storagebarterlaw30_DeviationLists.l2 k3 l1 t313 t347 t351 y321 (y321.length : Int) x44_1 y332 (y332.length : Int) x57_2 (t351.length : Int) (wrap64 (x99_3 + 1)) ((rd_T28 y321 x44_1).f0) ((rd_T28 y321 x44_1).f1)) = some r := by rw [if_pos rfl] at H; exact H
                                                  clear H
                                                  have H := H1
                                                  clear H1
                                                  have H' := Aside0.mk H
                                                  clear H
                                                  try go_wp2
                                                  have n0_ := Aside0.mk (Kd.V_drew HO_1.out)
                                                  have n1_ := Aside0.mk (Kd.R_drew HO_10.out)
                                                  have n2_ := Aside0.mk (Kd.N_drew HO_15.out)
                                                  have n3_ := Aside0.mk (Kd.N_drew HO_17.out)
                                                  have n4_ := Aside0.mk (Kd.R_drew HO_42.out)
                                                  have n5_ := Aside0.mk (Kd.N_drew HO_55.out)
                                                  have n6_ := Aside0.mk (blk_drew BK325.out)
                                                  have n7_ := Aside0.mk (Kd.C_drew HR335_0.out)
                                                  have n8_ := Aside0.mk (below_drew1 HB.out)
                                                  clear HO_1
                                                  clear HO_10
                                                  clear HO_15
                                                  clear HO_17
                                                  clear HO_42
                                                  clear HO_55
                                                  clear BK325
                                                  clear HR335_0
                                                  clear HB
                                                  have HO_1 := n0_
                                                  have HO_10 := n1_
                                                  have HO_15 := n2_
                                                  have HO_17 := n3_
                                                  have HO_42 := n4_
                                                  have HO_55 := n5_
                                                  have BK325 := n6_
                                                  have HR335_0 := n7_
                                                  have HB := n8_
                                                  clear n0_ n1_ n2_ n3_ n4_ n5_ n6_ n7_ n8_
                                                  have p344 : 0 ≤ (x99_3 : Int) := of_decide_eq_true (by first | (with_reducible assumption) | assumption)
                                                  have q344 : x99_3 < (t347.length : Int) := of_decide_eq_true (by first | (with_reducible assumption) | assumption)
                                                  obtain ⟨ad344, A344_1, c344_1, e344, hx344_0, hx344_1, hl344_1, hi344_1⟩ := at_T39 (Kd.N_reads' HO_15.out).2.2 x99_3 p344 q344
                                                  cases e344
                                                  obtain ⟨ce344, hce344, hMe344, hcc344⟩ := Kd.N_get HO_15.out z39 x99_3 p344 (by first | exact q344 | exact of_decide_eq_true (by first | (with_reducible assumption) | assumption) | (have e_ := (Kd.N_reads' HO_15.out).1; omega))
                                                  obtain ⟨ua344_1, uc344_1, rfl, ul344_1, ge344_1⟩ := k39_openF hMe344
                                                  have hv344_1 := hcc344 1 _ rfl
                                                  rw [add_field _ _ 1 (by omega)] at hv344_1
                                                  replace hv344_1 := Option.some.inj (hv344_1.symm.trans hx344_1)
                                                  injection hv344_1 with hva_ hvn_ hvc_
                                                  rw [hva_] at ge344_1
                                                  rw [hvc_] at ul344_1
                                                  have HL344_1 := Aside0.mk (show Kd.V k51 51 _ w.heap.size _ _ ((rd_T39 t347 x99_3).f1) from Kd.V_mk ul344_1 ge344_1)
                                                  clear hva_ hvn_ hvc_ ge344_1 ul344_1
                                                  clear hcc344 hce344
                                                  have HR344_1 := Aside0.mk hi344_1
                                                  have HC344_1 := Aside0.mk hl344_1
                                                  clear hi344_1 hl344_1
                                                  replace p344 := eq_true p344
                                                  replace q344 := eq_true q344
                                                  have p345 : 0 ≤ (x99_3 : Int) := of_decide_eq_true (by first | (with_reducible assumption) | assumption)
                                                  have q345 : x99_3 < (t351.length : Int) := of_decide_eq_true (by first | (with_reducible assumption) | assumption)
                                                  obtain ⟨ad345, A345_1, c345_1, e345, hx345_0, hx345_1, hl345_1, hi345_1⟩ := at_T39 (Kd.N_reads' HO_17.out).2.2 x99_3 p345 q345
                                                  cases e345
                                                  obtain ⟨ce345, hce345, hMe345, hcc345⟩ := Kd.N_get HO_17.out z39 x99_3 p345 (by first | exact q345 | exact of_decide_eq_true (by first | (with_reducible assumption) | assumption) | (have e_ := (Kd.N_reads' HO_17.out).1; omega))
                                                  obtain ⟨ua345_1, uc345_1, rfl, ul345_1, ge345_1⟩ := k39_openF hMe345
                                                  have hv345_1 := hcc345 1 _ rfl
                                                  rw [add_field _ _ 1 (by omega)] at hv345_1
                                                  replace hv345_1 := Option.some.inj (hv345_1.symm.trans hx345_1)
                                                  injection hv345_1 with hva_ hvn_ hvc_
                                                  rw [hva_] at ge345_1
                                                  rw [hvc_] at ul345_1
                                                  have HL345_1 := Aside0.mk (show Kd.V k51 51 _ w.heap.size _ _ ((rd_T39 t351 x99_3).f1) from Kd.V_mk ul345_1 ge345_1)
                                                  clear hva_ hvn_ hvc_ ge345_1 ul345_1
                                                  clear hcc345 hce345
                                                  have HR345_1 := Aside0.mk hi345_1
                                                  have HC345_1 := Aside0.mk hl345_1
                                                  clear hi345_1 hl345_1
                                                  replace p345 := eq_true p345
                                                  replace q345 := eq_true q345
                                                  refine start_ (n := 10) (S := fun w' => w'.cell? (ad344.add ((x99_3).toNat * 2)) = some (.int .i64 ((rd_T39 t347 x99_3).f0)) ∧ w'.cell? ⟨(ad344.add ((x99_3).toNat * 2)).block, (ad344.add ((x99_3).toNat * 2)).off + 1, none⟩ = some (.slice A344_1 ((rd_T39 t347 x99_3).f1).length c344_1) ∧ w'.cell? (ad345.add ((x99_3).toNat * 2)) = some (.int .i64 ((rd_T39 t351 x99_3).f0)) ∧ w'.cell? ⟨(ad345.add ((x99_3).toNat * 2)).block, (ad345.add ((x99_3).toNat * 2)).off + 1, none⟩ = some (.slice A345_1 ((rd_T39 t351 x99_3).f1).length c345_1)) (ds := []) #[false, false, false, false, false, false, false, false, false, false] (by kernel_rfl) rfl rfl ⟨hx344_0, hx344_1, hx345_0, hx345_1⟩ (fun hHeld => ?_); refine with_tabW storagebarterlaw30_DeviationLists.tab21 storagebarterlaw30_DeviationLists.bits21 (fun HT_ HW_ => ?_)
                                                  generalize wr.drew = w75 at HO_1 HO_10 HO_15 HO_17 HO_42 HO_55 BK325 HR335_0 HB HL344_1 HL345_1 HR344_1 HR345_1 hx344_0 hx344_1 hx345_0 hx345_1 hHeld ⊢
                                                  refine pure_ (i := 0) (N := some 102) (v := ?_) (a' := ?_) #[true, false, false, false, false, false, false, false, false, false] rfl rfl (any_of HT_.out (by kernel_rfl)) (fun _ _ _ h => h) (Or.inl ⟨by rfl, ?_⟩) ?_ ?_
                                                  rotate_left
                                                  · intro w'
                                                    go_simp
                                                    with_reducible rfl
                                                  rotate_left
                                                  · simp only [Act.put, List.setIfInBounds_toArray, List.set_cons_zero, List.set_cons_succ, i64_w, i32_w]
                                                    rfl
                                                  refine pure_ (i := 1) (N := some 103) (v := ?_) (a' := ?_) #[true, true, false, false, false, false, false, false, false, false] rfl rfl (any_of HT_.out (by kernel_rfl)) (fun _ _ _ h => h) (Or.inl ⟨by rfl, ?_⟩) ?_ ?_
                                                  rotate_left
                                                  · intro w'
                                                    go_simp
                                                    with_reducible rfl
                                                  rotate_left
                                                  · simp only [Act.put, List.setIfInBounds_toArray, List.set_cons_zero, List.set_cons_succ, i64_w, i32_w]
                                                    rfl
                                                  refine pure_ (i := 2) (N := some 104) (v := ?_) (a' := ?_) #[true, true, true, false, false, false, false, false, false, false] rfl rfl (any_of HT_.out (by kernel_rfl)) (fun _ _ _ h => h) (Or.inl ⟨by rfl, ?_⟩) ?_ ?_
                                                  rotate_left
                                                  · intro w'
                                                    go_simp
                                                    with_reducible rfl
                                                  rotate_left
                                                  · simp only [Act.put, List.setIfInBounds_toArray, List.set_cons_zero, List.set_cons_succ, i64_w, i32_w]
                                                    rfl
                                                  refine pure_ (i := 4) (N := some 106) (v := ?_) (a' := ?_) #[true, true, true, false, true, false, false, false, false, false] rfl rfl (any_of HT_.out (by kernel_rfl)) (fun _ _ _ h => h) (Or.inl ⟨by rfl, ?_⟩) ?_ ?_
                                                  rotate_left
                                                  · intro w'
                                                    go_simp
                                                    with_reducible rfl
                                                  rotate_left
                                                  · simp only [Act.put, List.setIfInBounds_toArray, List.set_cons_zero, List.set_cons_succ, i64_w, i32_w]
                                                    rfl
                                                  refine pure_ (i := 5) (N := some 107) (v := ?_) (a' := ?_) #[true, true, true, false, true, true, false, false, false, false] rfl rfl (any_of HT_.out (by kernel_rfl)) (fun _ _ _ h => h) (Or.inl ⟨by rfl, ?_⟩) ?_ ?_
                                                  rotate_left
                                                  · intro w'
                                                    go_simp
                                                    with_reducible rfl
                                                  rotate_left
                                                  · simp only [Act.put, List.setIfInBounds_toArray, List.set_cons_zero, List.set_cons_succ, i64_w, i32_w]
                                                    rfl
                                                  refine pure_ (i := 6) (N := some 108) (v := ?_) (a' := ?_) #[true, true, true, false, true, true, true, false, false, false] rfl rfl (any_of HT_.out (by kernel_rfl)) (fun _ _ _ h => h) (Or.inl ⟨by rfl, ?_⟩) ?_ ?_
                                                  rotate_left
                                                  · intro w'
                                                    go_simp
                                                    with_reducible rfl
                                                  rotate_left
                                                  · simp only [Act.put, List.setIfInBounds_toArray, List.set_cons_zero, List.set_cons_succ, i64_w, i32_w]
                                                    rfl
                                                  refine take_ (i := 3) (N := some 105) (v := ?_) (a' := ?_) #[true, true, true, true, true, true, true, false, false, false] rfl rfl (take_ofW HT_.out HW_.out (by kernel_rfl)) (fun _ _ _ h => h) (Or.inl ⟨by rfl, ?_⟩) hHeld ?_ ?_
                                                  rotate_left
                                                  · rintro w' ⟨s0, s1, s2, s3⟩
                                                    go_simp
                                                    with_reducible rfl
                                                  rotate_left
                                                  · simp only [Act.put, List.setIfInBounds_toArray, List.set_cons_zero, List.set_cons_succ, i64_w, i32_w]
                                                    rfl
                                                  refine take_ (i := 7) (N := some 109) (v := ?_) (a' := ?_) #[true, true, true, true, true, true, true, true, false, false] rfl rfl (take_ofW HT_.out HW_.out (by kernel_rfl)) (fun _ _ _ h => h) (Or.inl ⟨by rfl, ?_⟩) hHeld ?_ ?_
                                                  rotate_left
                                                  · rintro w' ⟨s0, s1, s2, s3⟩
                                                    go_simp
                                                    with_reducible rfl
                                                  rotate_left
                                                  · simp only [Act.put, List.setIfInBounds_toArray, List.set_cons_zero, List.set_cons_succ, i64_w, i32_w]
                                                    rfl
                                                  refine one_ (i := 8) (N := some 110) #[true, true, true, true, true, true, true, true, true, false] rfl rfl (one_of HT_.out (by kernel_rfl)) (by decide) (fun K hK => ?_)
                                                  refine goes_ Tryd.func14 (by kernel_rfl) rfl #[.agg #[.int .i64 ((rd_T39 t347 x99_3).f0), .slice A344_1 ((rd_T39 t347 x99_3).f1).length c344_1], .agg #[.int .i64 ((rd_T39 t351 x99_3).f0), .slice A345_1 ((rd_T39 t351 x99_3).f1).length c345_1]] (by rfl) rfl rfl (by (try simp only [List.map_toArray, List.map_cons, List.map_nil]); first | done | rfl | (simp only [List.length_drop, List.length_take]; rfl)) ?_
                                                  with_reducible refine (storagebarterref30_Same.calls k3 ((rd_T39 t347 x99_3).f0) _ _ ((rd_T39 t347 x99_3).f1) ((rd_T39 t351 x99_3).f0) _ _ ((rd_T39 t351 x99_3).f1) true _ ?side1 ?side2 ?side3 ?side4 A73.out).mono ?_
                                                  (case side1 => repeat (first | exact (by repeat (first | (with_reducible exact HR344_1.out) | (with_reducible refine Kd.C_alloc ?_ _) | (with_reducible refine Kd.C_drewN ?_ _) | (with_reducible refine Kd.C_drew ?_) | exact HR344_1.out)) | (with_reducible refine Kd.C_alloc ?_ _) | (with_reducible refine Kd.C_drewN ?_ _) | (with_reducible refine Kd.C_drew ?_)))
                                                  (case side2 => exact HC344_1.out)
                                                  (case side3 => repeat (first | exact (by repeat (first | (with_reducible exact HR345_1.out) | (with_reducible refine Kd.C_alloc ?_ _) | (with_reducible refine Kd.C_drewN ?_ _) | (with_reducible refine Kd.C_drew ?_) | exact HR345_1.out)) | (with_reducible refine Kd.C_alloc ?_ _) | (with_reducible refine Kd.C_drewN ?_ _) | (with_reducible refine Kd.C_drew ?_)))
                                                  (case side4 => exact HC345_1.out)
                                                  rintro e w76 ⟨rfl, hb⟩
                                                  have HS0_ := (hb.cell (World.block_lt_of_cell? _ _ (hHeld.1))).trans (hHeld.1)
                                                  have HS1_ := (hb.cell (World.block_lt_of_cell? _ _ (hHeld.2.1))).trans (hHeld.2.1)
                                                  have HS2_ := (hb.cell (World.block_lt_of_cell? _ _ (hHeld.2.2.1))).trans (hHeld.2.2.1)
                                                  have HS3_ := (hb.cell (World.block_lt_of_cell? _ _ (hHeld.2.2.2))).trans (hHeld.2.2.2)
                                                  refine ⟨_, rfl, ?_⟩
                                                  have n0_ := Aside0.mk (Kd.V_below (by (with_reducible repeat (first | apply Kd.V_alloc | apply Kd.V_drewN | apply Kd.V_drew)); exact HO_1.out) hb)
                                                  have n1_ := Aside0.mk (Kd.R_below (by (with_reducible repeat (first | apply Kd.R_alloc | apply Kd.R_drewN | apply Kd.R_drew)); exact HO_10.out) hb)
                                                  have n2_ := Aside0.mk (Kd.N_below (by (with_reducible repeat (first | apply Kd.N_alloc | apply Kd.N_drewN | apply Kd.N_drew)); exact HO_15.out) hb)
                                                  have n3_ := Aside0.mk (Kd.N_below (by (with_reducible repeat (first | apply Kd.N_alloc | apply Kd.N_drewN | apply Kd.N_drew)); exact HO_17.out) hb)
                                                  have n4_ := Aside0.mk (Kd.R_below (by (with_reducible repeat (first | apply Kd.R_alloc | apply Kd.R_drewN | apply Kd.R_drew)); exact HO_42.out) hb)
                                                  have n5_ := Aside0.mk (Kd.N_below (by (with_reducible repeat (first | apply Kd.N_alloc | apply Kd.N_drewN | apply Kd.N_drew)); exact HO_55.out) hb)
                                                  have n6_ := Aside0.mk (Kd.V_below (by (with_reducible repeat (first | apply Kd.V_alloc | apply Kd.V_drewN | apply Kd.V_drew)); exact HL344_1.out) hb)
                                                  have n7_ := Aside0.mk (Kd.V_below (by (with_reducible repeat (first | apply Kd.V_alloc | apply Kd.V_drewN | apply Kd.V_drew)); exact HL345_1.out) hb)
                                                  have n8_ := Aside0.mk (blk_below (g := gb325) (o := .cells #[.int .i64 ((rd_T28 y321 x44_1).f0), .int .i64 ((rd_T28 y321 x44_1).f1)] 28 (0, 0)) (by (with_reducible repeat (first | refine blk_drewN ?_ _ | refine blk_drew ?_ | refine blk_alloc ?_ _)); exact BK325.out) hb)
                                                  have n9_ := Aside0.mk (Kd.C_below (by repeat (first | (with_reducible exact HR335_0.out) | (with_reducible refine Kd.C_alloc ?_ _) | (with_reducible refine Kd.C_drewN ?_ _) | (with_reducible refine Kd.C_drew ?_) | exact HR335_0.out)) hb)
                                                  have n10_ := Aside0.mk (Kd.C_below (by repeat (first | (with_reducible exact HR344_1.out) | (with_reducible refine Kd.C_alloc ?_ _) | (with_reducible refine Kd.C_drewN ?_ _) | (with_reducible refine Kd.C_drew ?_) | exact HR344_1.out)) hb)
                                                  have n11_ := Aside0.mk (Kd.C_below (by repeat (first | (with_reducible exact HR345_1.out) | (with_reducible refine Kd.C_alloc ?_ _) | (with_reducible refine Kd.C_drewN ?_ _) | (with_reducible refine Kd.C_drew ?_) | exact HR345_1.out)) hb)
                                                  have n12_ := Aside0.mk (below_step (by repeat (first | (with_reducible first | exact HB.out | apply below_alloc | apply pw_below_drewN | apply below_drew1 | refine below_set ?_ GE325.out) | exact HB.out)) hb)
                                                  clear HO_1
                                                  clear HO_10
                                                  clear HO_15
                                                  clear HO_17
                                                  clear HO_42
                                                  clear HO_55
                                                  clear HL344_1
                                                  clear HL345_1
                                                  clear BK325
                                                  clear HR335_0
                                                  clear HR344_1
                                                  clear HR345_1
                                                  clear HB
                                                  have HO_1 := n0_
                                                  have HO_10 := n1_
                                                  have HO_15 := n2_
                                                  have HO_17 := n3_
                                                  have HO_42 := n4_
                                                  have HO_55 := n5_
                                                  have HL344_1 := n6_
                                                  have HL345_1 := n7_
                                                  have BK325 := n8_
                                                  have HR335_0 := n9_
                                                  have HR344_1 := n10_
                                                  have HR345_1 := n11_
                                                  have HB := n12_
                                                  clear n0_ n1_ n2_ n3_ n4_ n5_ n6_ n7_ n8_ n9_ n10_ n11_ n12_
                                                  (try clear hb)
                                                  (try clear hb2)
                                                  (try clear hk)
                                                  (try clear hi)
                                                  (try clear hgw)
                                                  refine hK.out _ _ ⟨HS0_, HS1_, HS2_, HS3_⟩ (fun hHeld => ?_)
                                                  clear hK K
                                                  refine norm_ (a' := ?_) ?_ ?_
                                                  rotate_left
                                                  · show Act.put _ (some 110) _ = _
                                                    simp only [Act.put, List.setIfInBounds_toArray, List.set_cons_zero, List.set_cons_succ, i64_w, i32_w]
                                                    rfl
                                                  refine pure_ (i := 9) (N := some 111) (v := ?_) (a' := ?_) #[true, true, true, true, true, true, true, true, true, true] rfl rfl (any_of HT_.out (by kernel_rfl)) (fun _ _ _ h => h) (Or.inl ⟨by rfl, ?_⟩) ?_ ?_
                                                  rotate_left
                                                  · intro w'
                                                    go_simp
                                                    with_reducible rfl
                                                  rotate_left
                                                  · simp only [Act.put, List.setIfInBounds_toArray, List.set_cons_zero, List.set_cons_succ, i64_w, i32_w]
                                                    rfl
                                                  refine done_ (done_of HT_.out (by kernel_rfl)) ?_
                                                  try go_wp2
                                                  go_roundg k3
                                                  case measure => have := HK1.out; have := HK2.out; have := HK3.out; omega
                                                  case rel => exact ⟨(wrap64 (x99_3 + 1)), (by first | rfl | (simp; done) | (simp [*]; done)), H', ⟨by have := HK1.out; have := HK2.out; have := HK3.out; omega⟩, ⟨by (with_reducible repeat (first | apply Kd.V_alloc | apply Kd.V_drewN | apply Kd.V_drew)); exact HO_1.out⟩, ⟨by (with_reducible repeat (first | apply Kd.R_alloc | apply Kd.R_drewN | apply Kd.R_drew)); exact HO_10.out⟩, ⟨by (with_reducible repeat (first | apply Kd.N_alloc | apply Kd.N_drewN | apply Kd.N_drew)); exact HO_15.out⟩, ⟨by (with_reducible repeat (first | apply Kd.N_alloc | apply Kd.N_drewN | apply Kd.N_drew)); exact HO_17.out⟩, ⟨by (with_reducible repeat (first | apply Kd.R_alloc | apply Kd.R_drewN | apply Kd.R_drew)); exact HO_42.out⟩, ⟨by (with_reducible repeat (first | apply Kd.N_alloc | apply Kd.N_drewN | apply Kd.N_drew)); exact HO_55.out⟩, ⟨by (with_reducible repeat (first | refine blk_drewN ?_ _ | refine blk_drew ?_ | refine blk_alloc ?_ _)); exact BK325.out⟩, ⟨by repeat (first | (with_reducible exact HR335_0.out) | (with_reducible refine Kd.C_alloc ?_ _) | (with_reducible refine Kd.C_drewN ?_ _) | (with_reducible refine Kd.C_drew ?_) | exact HR335_0.out)⟩, ⟨by repeat (first | (with_reducible first | exact HB.out | apply below_alloc | apply pw_below_drewN | apply below_drew1 | refine below_set ?_ GE325.out) | exact HB.out)⟩⟩
                                                · replace c74 := Bool.eq_false_iff.mpr c74
                                                  subst c74
                                                  have H1 : (some false) = some r := by rw [if_neg (show ¬ (false = true) by decide)] at H; exact H
                                                  clear H
                                                  have H := H1
                                                  clear H1
                                                  exact absurd (Option.some.inj H) (by rw [HRT_.out]; decide)
                                              · rw [if_neg c72] at H
                                                exact absurd H (by simp)
                                            · rw [if_neg c71] at H
                                              exact absurd H (by simp)
                                          · rw [if_neg c70] at H
                                            exact absurd H (by simp)
                                        · rw [if_neg c69] at H
                                          have c69b0 : decide (x99_3 < (t351.length : Int)) = false := decide_eq_false c69
                                          clear c69
                                          have H' := Aside0.mk H
                                          clear H
                                          go_wp2
                                          go_roundg k3
                                          case measure => have := HK1.out; have := HK2.out; have := HK3.out; omega
                                          case rel => exact ⟨(wrap64 (x57_2 + 1)), (by first | rfl | (simp; done) | (simp [*]; done)), H', ⟨by have := HK1.out; have := HK2.out; have := HK3.out; omega⟩, ⟨by (with_reducible repeat (first | apply Kd.V_alloc | apply Kd.V_drewN | apply Kd.V_drew)); exact Kd.V_mono HO_1.out (fun _ hk => ⟨hk.1, ⟨hk.2.1, ⟨hk.2.2.2.2.1, ⟨hk.2.2.2.2.2.1, hk.2.2.2.2.2.2⟩⟩⟩⟩)⟩, ⟨by (with_reducible repeat (first | apply Kd.R_alloc | apply Kd.R_drewN | apply Kd.R_drew)); exact HO_10.out⟩, ⟨by (with_reducible repeat (first | apply Kd.R_alloc | apply Kd.R_drewN | apply Kd.R_drew)); exact HO_42.out⟩, ⟨by (with_reducible repeat (first | apply Kd.N_alloc | apply Kd.N_drewN | apply Kd.N_drew)); exact Kd.N_mono HO_55.out (fun _ hk => ⟨hk.1, ⟨hk.2.2.2.1, hk.2.2.2.2⟩⟩)⟩, ⟨by (with_reducible repeat (first | refine blk_drewN ?_ _ | refine blk_drew ?_ | refine blk_alloc ?_ _)); exact BK325.out⟩, ⟨by repeat (first | (with_reducible first | exact HB.out | apply below_alloc | apply pw_below_drewN | apply below_drew1 | refine below_set ?_ GE325.out) | exact HB.out)⟩⟩
                                  · rw [if_neg c62] at H
                                    have c62b0 : ((t347.length : Int) == (t351.length : Int)) = false := beq_eq_false_iff_ne.mpr c62
                                    have c62b1 : ((t347.length : Int) != (t351.length : Int)) = true := bne_iff_ne.mpr c62
                                    have c62b2 : (t347.length == t351.length) = false := by first | simpa using c62 | (simp at c62 ⊢; omega)
                                    exact absurd (Option.some.inj H) (by rw [HRT_.out]; decide)
                                · rw [if_neg c61] at H
                                  have c61b0 : (t348 == t354) = false := beq_eq_false_iff_ne.mpr c61
                                  have c61b1 : (t348 != t354) = true := bne_iff_ne.mpr c61
                                  exact absurd (Option.some.inj H) (by rw [HRT_.out]; decide)
                            · rw [if_neg c37] at H
                              exact absurd H (by simp)
                          · rw [if_neg c36] at H
                            exact absurd H (by simp)
                        · rw [if_neg c35] at H
                          have c35b0 : decide (x57_2 < (y332.length : Int)) = false := decide_eq_false c35
                          clear c35
                          have H' := Aside0.mk H
                          clear H
                          go_wp2
                          go_roundg k2
                          case measure => have := HK1.out; have := HK2.out; omega
                          case rel => exact ⟨(wrap64 (x44_1 + 1)), (by first | rfl | (simp; done) | (simp [*]; done)), H', ⟨by have := HK1.out; have := HK2.out; omega⟩, ⟨by (with_reducible repeat (first | apply Kd.V_alloc | apply Kd.V_drewN | apply Kd.V_drew)); exact Kd.V_mono HO_1.out (fun _ hk => ⟨hk.1, ⟨hk.2.1, hk.2.2.1⟩⟩)⟩, ⟨by (with_reducible repeat (first | apply Kd.R_alloc | apply Kd.R_drewN | apply Kd.R_drew)); exact HO_10.out⟩, ⟨by (with_reducible repeat (first | apply Kd.R_alloc | apply Kd.R_drewN | apply Kd.R_drew)); exact Kd.R_mono HO_42.out (fun _ hk => hk.1)⟩, ⟨by repeat (first | (with_reducible first | exact HB.out | apply below_alloc | apply pw_below_drewN | apply below_drew1 | refine below_set ?_ GE325.out) | exact HB.out)⟩⟩
                  · rw [if_neg c26] at H
                    exact absurd H (by simp)
                · rw [if_neg c25] at H
                  exact absurd H (by simp)
              · rw [if_neg c23] at H
                exact absurd H (by simp)
            · rw [if_neg c22] at H
              exact absurd H (by simp)
          · rw [if_neg c21] at H
            have c21b0 : decide (x44_1 < (y321.length : Int)) = false := decide_eq_false c21
            clear c21
            obtain rfl := Option.some.inj H
            go_wp2
            go_ret
            exact ⟨by first | rfl | (simp [errW_none, errW_some] <;> rfl) | (simp [*, errW_none, errW_some] <;> rfl), by repeat (first | (with_reducible first | exact HB.out | apply below_alloc | apply pw_below_drewN | apply below_drew1) | exact HB.out)⟩
  · replace c6 := Bool.eq_false_iff.mpr c6
    subst c6
    have H1 : (some false) = some r := by rw [if_neg (show ¬ (false = true) by decide)] at H; exact H
    clear H
    have H := H1
    clear H1
    exact absurd (Option.some.inj H) (by rw [HRT_.out]; decide)

/-- THE ONE PURE STATEMENT of storagebarterlaw30_DeviationLists: yours. -/
def storagebarterlaw30_DeviationLists.Pure : Prop := ∀ (l0 : List Int) (l1 : List (S56)) (a2 : Int) (a3 : Int), l0.length ≤ maxLen → l0.length * 1 ≤ 140737488351232 → (∀ x ∈ l0, (Lit.int .u8 x).wf = true) → (l1.length ≤ maxLen ∧ ∀ x0_ ∈ l1, (((Lit.int .i64 x0_.f0).wf = true) ∧ (((Lit.int .i64 x0_.f1).wf = true) ∧ (((Lit.int .i64 x0_.f2).wf = true) ∧ ((Lit.int .i64 x0_.f3).wf = true))))) → (Lit.int .i64 a2).wf = true → (Lit.int .i64 a3).wf = true → ∃ k, storagebarterlaw30_DeviationLists.f k l0 l1 a2 a3 = some true
theorem storagebarterlaw30_DeviationLists.walk (P : storagebarterlaw30_DeviationLists.Pure) (a0 : Option Addr) (len0 cap0 : Nat) (z0 : List Int) (A1 : Option Addr) (c1 : Nat) (l1 : List (S56)) (a2 : Int) (a3 : Int) (w : World) (w0 : (a0 = none ∧ len0 = 0 ∧ cap0 = 0 ∧ z0 = []) ∨ ∃ x, a0 = some x ∧ len0 ≤ cap0 ∧ cap0 ≤ maxLen ∧ z0.length = cap0 ∧ (∀ i, i < z0.length → w.cell? (x.add i) = some (.int .u8 (z0.getD i 0))) ∧ ∀ n ∈ z0, (Lit.int .u8 n).wf = true) (y0 : len0 * 1 ≤ 140737488351232) (w1 : (l1.length ≤ maxLen ∧ ∀ x0_ ∈ l1, (((Lit.int .i64 x0_.f0).wf = true) ∧ (((Lit.int .i64 x0_.f1).wf = true) ∧ (((Lit.int .i64 x0_.f2).wf = true) ∧ ((Lit.int .i64 x0_.f3).wf = true)))))) (hr1 : Kd.C k56 w A1 l1.length l1) (hc1 : l1.length ≤ c1) (w2 : (Lit.int .i64 a2).wf = true) (w3 : (Lit.int .i64 a3).wf = true) (hL_ : Laid w) :
    Calls Tryd.prog 3 #[.slice a0 len0 cap0, .slice A1 l1.length c1, .int .i64 a2, .int .i64 a3] w fun e w' => e = .returned (.bool true) ∧ Below w.heap.size w w' := by
  obtain ⟨l0, rfl, hr0, hm0, hw0, hc0⟩ := ReadsInt.ofRowC w0
  obtain ⟨k, h⟩ := P l0 l1 a2 a3 hm0 y0 hw0 w1 w2 w3
  refine (storagebarterlaw30_DeviationLists.calls k _ _ l0 (fun _ => True) A1 c1 l1 a2 a3 true w (Kd.C_of_reads (d := (0 : Int)) (h1 := fun _ => rfl) hr0) hc0 (Kd.V_mk hc1 (fun W_ hW_ => Kd.Heap.C k56_heap (fun k_ hlt_ => hW_ k_ trivial hlt_) hr1)) h rfl hL_).mono ?_
  rintro e w' ⟨rfl, hd⟩
  exact ⟨rfl, hd⟩

end Go.Proofs.YtdflpnfceajomaaDoor.PDeviationLists
