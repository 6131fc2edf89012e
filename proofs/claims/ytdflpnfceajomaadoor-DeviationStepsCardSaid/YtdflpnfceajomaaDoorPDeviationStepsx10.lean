-- Written by a program of this repository (wip/tools/myprint.py over the print of the kit): contracts and rows.
import Derived.Test.YtdflpnfceajomaaDoorPDeviationStepsx0
import Derived.Test.YtdflpnfceajomaaDoorPDeviationStepsx2
import Derived.Test.YtdflpnfceajomaaDoorPDeviationStepsx3
import Derived.Test.YtdflpnfceajomaaDoorPDeviationStepsx6
import Derived.Test.YtdflpnfceajomaaDoorPDeviationStepsx7
import Derived.Test.YtdflpnfceajomaaDoorPDeviationStepsx8
import Derived.Test.YtdflpnfceajomaaDoorPDeviationStepsx9
namespace Go.Proofs.YtdflpnfceajomaaDoor.PDeviationSteps
open Go.RowKit Go.Proofs.YtdflpnfceajomaaDoorW.PrintWords Go.Proofs.YtdflpnfceajomaaDoorW.PrintLast Go.Proofs.YtdflpnfceajomaaDoorW.PrintMore
attribute [local go_sem] max2_int min2_int max_two min_two max_three min_three max_four min_four   -- for this text's walks alone
set_option linter.unusedVariables false
set_option linter.unusedSimpArgs false

/-! ### storagebarterref30_Count: function 26 -/
mutual
def storagebarterref30_Count.j0 : Nat → Int → Int → Bool → Option (Int × Bool)
  | 0, _, _, _ => none
  | k + 1, x0, x1, x14 => if x14 = true then (some (0, false)) else (storagebarterref30_Count.l0 k x0 x1 0 1 0)
def storagebarterref30_Count.l0 : Nat → Int → Int → Int → Int → Int → Option (Int × Bool)
  | 0, _, _, _, _, _ => none
  | k + 1, x0, x1, x6, x7, x8 => if x8 ≤ x1 then (storagebarterref30_Count.j2 k x0 x1 x6 x7 x8 (decide (x8 ≤ x0))) else (storagebarterref30_Count.j2 k x0 x1 x6 x7 x8 false)
def storagebarterref30_Count.j2 : Nat → Int → Int → Int → Int → Int → Bool → Option (Int × Bool)
  | 0, _, _, _, _, _, _ => none
  | k + 1, x0, x1, x6, x7, x8, x22 => if x22 = true then (if (wrap64 (x6 + x7)) > 16384 then (some (0, false)) else (if x8 < x1 then (if x8 < x0 then (if x0 > 16384 then (some (0, false)) else (if (wrap64 (x8 + 1)) = 0 then (none) else (storagebarterref30_Count.l0 k x0 x1 (wrap64 (x6 + x7)) (wrap64 ((wrap64 (Int.tdiv (wrap64 (x7 * (wrap64 (x0 - x8)))) (wrap64 (x8 + 1)))) * 3)) (wrap64 (x8 + 1))))) else (if (wrap64 (x8 + 1)) = 0 then (none) else (storagebarterref30_Count.l0 k x0 x1 (wrap64 (x6 + x7)) (wrap64 ((wrap64 (Int.tdiv (wrap64 (x7 * (wrap64 (x0 - x8)))) (wrap64 (x8 + 1)))) * 3)) (wrap64 (x8 + 1))))) else (if (wrap64 (x8 + 1)) = 0 then (none) else (storagebarterref30_Count.l0 k x0 x1 (wrap64 (x6 + x7)) (wrap64 ((wrap64 (Int.tdiv (wrap64 (x7 * (wrap64 (x0 - x8)))) (wrap64 (x8 + 1)))) * 3)) (wrap64 (x8 + 1)))))) else (some (x6, true))
end
def storagebarterref30_Count.f (k : Nat) (a0 : Int) (a1 : Int) : Option (Int × Bool) := if a0 < 0 then (storagebarterref30_Count.j0 k a0 a1 true) else (storagebarterref30_Count.j0 k a0 a1 (decide (a1 < 0)))
theorem storagebarterref30_Count.mono_l : ∀ k, (∀ y0 y1 y2, LeO (storagebarterref30_Count.j0 k y0 y1 y2) (storagebarterref30_Count.j0 (k + 1) y0 y1 y2)) ∧ (∀ y0 y1 y2 y3 y4, LeO (storagebarterref30_Count.l0 k y0 y1 y2 y3 y4) (storagebarterref30_Count.l0 (k + 1) y0 y1 y2 y3 y4)) ∧ (∀ y0 y1 y2 y3 y4 y5, LeO (storagebarterref30_Count.j2 k y0 y1 y2 y3 y4 y5) (storagebarterref30_Count.j2 (k + 1) y0 y1 y2 y3 y4 y5))
  | 0 => ⟨fun _ _ _ r h => by simp [storagebarterref30_Count.j0] at h, fun _ _ _ _ _ r h => by simp [storagebarterref30_Count.l0] at h, fun _ _ _ _ _ _ r h => by simp [storagebarterref30_Count.j2] at h⟩
  | k + 1 => by
    obtain ⟨ih0, ih1, ih2⟩ := storagebarterref30_Count.mono_l k
    refine ⟨?_, ?_, ?_⟩
    · intro y0 y1 y2
      unfold storagebarterref30_Count.j0
      repeat' first
      | (with_reducible exact ih0 _ _ _)
      | (with_reducible exact ih1 _ _ _ _ _)
      | (with_reducible exact ih2 _ _ _ _ _ _)
      | (with_reducible exact LeO.refl _)
      | (with_reducible exact LeO.none _)
      | (with_reducible refine LeO.ite ?_ ?_)
      | (with_reducible refine LeO.bind ?_ (fun _ => ?_))
      | exact ih0 _ _ _
      | exact ih1 _ _ _ _ _
      | exact ih2 _ _ _ _ _ _
      | exact LeO.none _
      | refine LeO.ite ?_ ?_
      | refine LeO.bind ?_ (fun _ => ?_)
    · intro y0 y1 y2 y3 y4
      unfold storagebarterref30_Count.l0
      repeat' first
      | (with_reducible exact ih0 _ _ _)
      | (with_reducible exact ih1 _ _ _ _ _)
      | (with_reducible exact ih2 _ _ _ _ _ _)
      | (with_reducible exact LeO.refl _)
      | (with_reducible exact LeO.none _)
      | (with_reducible refine LeO.ite ?_ ?_)
      | (with_reducible refine LeO.bind ?_ (fun _ => ?_))
      | exact ih0 _ _ _
      | exact ih1 _ _ _ _ _
      | exact ih2 _ _ _ _ _ _
      | exact LeO.none _
      | refine LeO.ite ?_ ?_
      | refine LeO.bind ?_ (fun _ => ?_)
    · intro y0 y1 y2 y3 y4 y5
      unfold storagebarterref30_Count.j2
      repeat' first
      | (with_reducible exact ih0 _ _ _)
      | (with_reducible exact ih1 _ _ _ _ _)
      | (with_reducible exact ih2 _ _ _ _ _ _)
      | (with_reducible exact LeO.refl _)
      | (with_reducible exact LeO.none _)
      | (with_reducible refine LeO.ite ?_ ?_)
      | (with_reducible refine LeO.bind ?_ (fun _ => ?_))
      | exact ih0 _ _ _
      | exact ih1 _ _ _ _ _
      | exact ih2 _ _ _ _ _ _
      | exact LeO.none _
      | refine LeO.ite ?_ ?_
      | refine LeO.bind ?_ (fun _ => ?_)
theorem storagebarterref30_Count.mono : ∀ a0 a1 k, LeO (storagebarterref30_Count.f k a0 a1) (storagebarterref30_Count.f (k + 1) a0 a1) := by
  intro a0 a1 k
  obtain ⟨ih0, ih1, ih2⟩ := storagebarterref30_Count.mono_l k
  unfold storagebarterref30_Count.f
  repeat' first
      | (with_reducible exact ih0 _ _ _)
      | (with_reducible exact ih1 _ _ _ _ _)
      | (with_reducible exact ih2 _ _ _ _ _ _)
      | (with_reducible exact LeO.refl _)
      | (with_reducible exact LeO.none _)
      | (with_reducible refine LeO.ite ?_ ?_)
      | (with_reducible refine LeO.bind ?_ (fun _ => ?_))
      | exact ih0 _ _ _
      | exact ih1 _ _ _ _ _
      | exact ih2 _ _ _ _ _ _
      | exact LeO.none _
      | refine LeO.ite ?_ ?_
      | refine LeO.bind ?_ (fun _ => ?_)
set_option maxHeartbeats 8000000 in
set_option maxRecDepth 100000 in
theorem storagebarterref30_Count.calls (k : Nat) (a0 : Int) (a1 : Int) (r1 : Int) (r2 : Bool) (w : World) (h : storagebarterref30_Count.f k a0 a1 = some (r1, r2)) :
    Calls Tryd.prog 26 #[.int .i64 a0, .int .i64 a1] w fun e w' => e = .returned (.tuple #[.int .i64 r1, .bool r2]) ∧ Drawn0 w w' := by
  have H : (if a0 < 0 then (storagebarterref30_Count.j0 k a0 a1 true) else (storagebarterref30_Count.j0 k a0 a1 (decide (a1 < 0)))) = some (r1, r2) := h
  clear h
  have HC3 := Aside0.mk H
  clear H
  go_enter Tryd.func26, Tryd.ntmps26
  go_upto_region 1 with (fail)
  go_cut [14] (fun v14 wc => ∃ (kq : Nat) (x14_2 : Bool), v14 = .bool x14_2 ∧ Aside0 (storagebarterref30_Count.j0 kq a0 a1 x14_2 = some (r1, r2)) ∧ Aside0 (kq ≤ k) ∧ Drawn0 w wc)
  case first =>
    have H := HC3.out
    clear HC3
    by_cases c4 : a0 < 0
    · rw [if_pos c4] at H
      have c4b0 : decide (a0 < 0) = true := decide_eq_true c4
      clear c4
      (first | rw [c4b0] | (simp only [i64_w, i32_w]; rw [c4b0]) | skip)
      have H' := Aside0.mk H
      clear H
      go_wp2
      go_meet
      case rel => exact ⟨_, (true), (by first | rfl | (simp; done) | (simp [*]; done)), H', ⟨by first | omega | exact Nat.le_refl _⟩, by repeat (first | exact Drawn0.refl _ | apply Drawn0.step)⟩
    · rw [if_neg c4] at H
      have c4b0 : decide (a0 < 0) = false := decide_eq_false c4
      clear c4
      (first | rw [c4b0] | (simp only [i64_w, i32_w]; rw [c4b0]) | skip)
      have H' := Aside0.mk H
      clear H
      go_wp2
      go_meet
      case rel => exact ⟨_, (decide (a1 < 0)), (by first | rfl | (simp; done) | (simp [*]; done)), H', ⟨by first | omega | exact Nat.le_refl _⟩, by repeat (first | exact Drawn0.refl _ | apply Drawn0.step)⟩
  case rest =>
    clear HC3
    try clear c2
    try clear p2
    try clear c4
    try clear c4b0
    obtain ⟨kq, x14_2, rfl, HA, HJ2, ⟨mc2, rfl⟩⟩ := hcut
    cases kq with
    | zero => exact absurd HA.out (by simp [storagebarterref30_Count.j0])
    | succ kj2 =>
      have H := HA.out
      clear HA
      simp only [storagebarterref30_Count.j0] at H
      by_cases c5 : x14_2 = true
      · subst c5
        have H1 : (some (0, false)) = some (r1, r2) := by rw [if_pos rfl] at H; exact H
        clear H
        have H := H1
        clear H1
        simp only [Option.some.injEq, Prod.mk.injEq] at H
        obtain ⟨rfl, rfl⟩ := H
        go_wp2
        go_ret2
        exact ⟨by first | rfl | (simp; done) | (simp [*]; done), by repeat (first | exact Drawn0.refl _ | apply Drawn0.step)⟩
      · replace c5 := Bool.eq_false_iff.mpr c5
        subst c5
        have H1 : (storagebarterref30_Count.l0 kj2 a0 a1 0 1 0) = some (r1, r2) := by rw [if_neg (show ¬ (false = true) by decide)] at H; exact H
        clear H
        have H := H1
        clear H1
        have H' := Aside0.mk H
        clear H
        go_wp2
        go_loopg [6, 7, 8] kj2 (fun kq v6 v7 v8 w' => ∃ (x6_2 : Int) (x7_2 : Int) (x8_2 : Int), v6 = .int .i64 x6_2 ∧ v7 = .int .i64 x7_2 ∧ v8 = .int .i64 x8_2 ∧ Aside0 (storagebarterref30_Count.l0 kq a0 a1 x6_2 x7_2 x8_2 = some (r1, r2)) ∧ Aside0 (kq ≤ kj2) ∧ Drawn0 w w')
        case atStart => exact ⟨(0), (1), (0), (by first | rfl | (simp; done) | (simp [*]; done)), (by first | rfl | (simp; done) | (simp [*]; done)), (by first | rfl | (simp; done) | (simp [*]; done)), H', ⟨Nat.le_refl _⟩, by repeat (first | exact Drawn0.refl _ | apply Drawn0.step)⟩
        case round =>
          clear H'
          try clear c2
          try clear p2
          try clear c4
          try clear c4b0
          try clear c5
          try clear p2
          obtain ⟨x6_2, x7_2, x8_2, rfl, rfl, rfl, HA, HK2, ⟨m2, rfl⟩⟩ := hrel
          cases gk with
          | zero => exact absurd HA.out (by simp [storagebarterref30_Count.l0])
          | succ k2 =>
            have H := HA.out
            clear HA
            simp only [storagebarterref30_Count.l0] at H
            have HC6 := Aside0.mk H
            clear H
            go_upto_region 5 with (fail)
            go_cut [22] (fun v22 wc => ∃ (kq : Nat) (x22_5 : Bool), v22 = .bool x22_5 ∧ Aside0 (storagebarterref30_Count.j2 kq a0 a1 x6_2 x7_2 x8_2 x22_5 = some (r1, r2)) ∧ Aside0 (kq ≤ k2) ∧ Drawn0 w wc)
            case first =>
              have H := HC6.out
              clear HC6
              by_cases c7 : x8_2 ≤ a1
              · rw [if_pos c7] at H
                have c7b0 : decide (x8_2 ≤ a1) = true := decide_eq_true c7
                clear c7
                (first | rw [c7b0] | (simp only [i64_w, i32_w]; rw [c7b0]) | skip)
                have H' := Aside0.mk H
                clear H
                go_wp2
                go_meet
                case rel => exact ⟨_, (decide (x8_2 ≤ a0)), (by first | rfl | (simp; done) | (simp [*]; done)), H', ⟨by have := HJ2.out; have := HK2.out; first | omega | exact Nat.le_refl _⟩, by repeat (first | exact Drawn0.refl _ | apply Drawn0.step)⟩
              · rw [if_neg c7] at H
                have c7b0 : decide (x8_2 ≤ a1) = false := decide_eq_false c7
                clear c7
                (first | rw [c7b0] | (simp only [i64_w, i32_w]; rw [c7b0]) | skip)
                have H' := Aside0.mk H
                clear H
                go_wp2
                go_meet
                case rel => exact ⟨_, (false), (by first | rfl | (simp; done) | (simp [*]; done)), H', ⟨by have := HJ2.out; have := HK2.out; first | omega | exact Nat.le_refl _⟩, by repeat (first | exact Drawn0.refl _ | apply Drawn0.step)⟩
            case rest =>
              clear HC6
              try clear c2
              try clear p2
              try clear c4
              try clear c4b0
              try clear c5
              try clear c7
              try clear c7b0
              try clear p2
              obtain ⟨kq, x22_5, rfl, HA, HJ5, ⟨mc5, rfl⟩⟩ := hcut
              cases kq with
              | zero => exact absurd HA.out (by simp [storagebarterref30_Count.j2])
              | succ kj5 =>
                have H := HA.out
                clear HA
                simp only [storagebarterref30_Count.j2] at H
                by_cases c8 : x22_5 = true
                · subst c8
                  have H1 : (if (wrap64 (x6_2 + x7_2)) > 16384 then (some (0, false)) else (if x8_2 < a1 then (if x8_2 < a0 then (if a0 > 16384 then (some (0, false)) else (if (wrap64 (x8_2 + 1)) = 0 then (none) else (storagebarterref30_Count.l0 kj5 a0 a1 (wrap64 (x6_2 + x7_2)) (wrap64 ((wrap64 (Int.tdiv (wrap64 (x7_2 * (wrap64 (a0 - x8_2)))) (wrap64 (x8_2 + 1)))) * 3)) (wrap64 (x8_2 + 1))))) else (if (wrap64 (x8_2 + 1)) = 0 then (none) else (storagebarterref30_Count.l0 kj5 a0 a1 (wrap64 (x6_2 + x7_2)) (wrap64 ((wrap64 (Int.tdiv (wrap64 (x7_2 * (wrap64 (a0 - x8_2)))) (wrap64 (x8_2 + 1)))) * 3)) (wrap64 (x8_2 + 1))))) else (if (wrap64 (x8_2 + 1)) = 0 then (none) else (storagebarterref30_Count.l0 kj5 a0 a1 (wrap64 (x6_2 + x7_2)) (wrap64 ((wrap64 (Int.tdiv (wrap64 (x7_2 * (wrap64 (a0 - x8_2)))) (wrap64 (x8_2 + 1)))) * 3)) (wrap64 (x8_2 + 1)))))) = some (r1, r2) := by rw [if_pos rfl] at H; exact H
                  clear H
                  have H := H1
                  clear H1
                  by_cases c9 : (wrap64 (x6_2 + x7_2)) > 16384
                  · rw [if_pos c9] at H
                    have c9b0 : decide (16384 < (wrap64 (x6_2 + x7_2))) = true := decide_eq_true c9
                    clear c9
                    simp only [Option.some.injEq, Prod.mk.injEq] at H
                    obtain ⟨rfl, rfl⟩ := H
                    go_wp2
                    go_ret2
                    exact ⟨by first | rfl | (simp; done) | (simp [*]; done), by repeat (first | exact Drawn0.refl _ | apply Drawn0.step)⟩
                  · rw [if_neg c9] at H
                    have c9b0 : decide (16384 < (wrap64 (x6_2 + x7_2))) = false := decide_eq_false c9
                    clear c9
                    by_cases c10 : x8_2 < a1
                    · rw [if_pos c10] at H
                      have c10b0 : decide (x8_2 < a1) = true := decide_eq_true c10
                      clear c10
                      by_cases c11 : x8_2 < a0
                      · rw [if_pos c11] at H
                        have c11b0 : decide (x8_2 < a0) = true := decide_eq_true c11
                        clear c11
                        by_cases c12 : a0 > 16384
                        · rw [if_pos c12] at H
                          have c12b0 : decide (16384 < a0) = true := decide_eq_true c12
                          clear c12
                          simp only [Option.some.injEq, Prod.mk.injEq] at H
                          obtain ⟨rfl, rfl⟩ := H
                          go_wp2
                          go_ret2
                          exact ⟨by first | rfl | (simp; done) | (simp [*]; done), by repeat (first | exact Drawn0.refl _ | apply Drawn0.step)⟩
                        · rw [if_neg c12] at H
                          have c12b0 : decide (16384 < a0) = false := decide_eq_false c12
                          clear c12
                          by_cases c13 : (wrap64 (x8_2 + 1)) = 0
                          · rw [if_pos c13] at H
                            exact absurd H (by simp)
                          · rw [if_neg c13] at H
                            have c13b0 : ((wrap64 (x8_2 + 1)) == 0) = false := beq_eq_false_iff_ne.mpr c13
                            have c13b1 : ((wrap64 (x8_2 + 1)) != 0) = true := bne_iff_ne.mpr c13
                            have H' := Aside0.mk H
                            clear H
                            go_wp2
                            go_roundg kj5
                            case measure => have := HJ2.out; have := HK2.out; have := HJ5.out; omega
                            case rel => exact ⟨(wrap64 (x6_2 + x7_2)), (wrap64 ((wrap64 (Int.tdiv (wrap64 (x7_2 * (wrap64 (a0 - x8_2)))) (wrap64 (x8_2 + 1)))) * 3)), (wrap64 (x8_2 + 1)), (by first | rfl | (simp; done) | (simp [*]; done)), (by first | rfl | (simp; done) | (simp [*]; done)), (by first | rfl | (simp; done) | (simp [*]; done)), H', ⟨by have := HJ2.out; have := HK2.out; have := HJ5.out; omega⟩, by repeat (first | exact Drawn0.refl _ | apply Drawn0.step)⟩
                      · rw [if_neg c11] at H
                        have c11b0 : decide (x8_2 < a0) = false := decide_eq_false c11
                        clear c11
                        by_cases c14 : (wrap64 (x8_2 + 1)) = 0
                        · rw [if_pos c14] at H
                          exact absurd H (by simp)
                        · rw [if_neg c14] at H
                          have c14b0 : ((wrap64 (x8_2 + 1)) == 0) = false := beq_eq_false_iff_ne.mpr c14
                          have c14b1 : ((wrap64 (x8_2 + 1)) != 0) = true := bne_iff_ne.mpr c14
                          have H' := Aside0.mk H
                          clear H
                          go_wp2
                          go_roundg kj5
                          case measure => have := HJ2.out; have := HK2.out; have := HJ5.out; omega
                          case rel => exact ⟨(wrap64 (x6_2 + x7_2)), (wrap64 ((wrap64 (Int.tdiv (wrap64 (x7_2 * (wrap64 (a0 - x8_2)))) (wrap64 (x8_2 + 1)))) * 3)), (wrap64 (x8_2 + 1)), (by first | rfl | (simp; done) | (simp [*]; done)), (by first | rfl | (simp; done) | (simp [*]; done)), (by first | rfl | (simp; done) | (simp [*]; done)), H', ⟨by have := HJ2.out; have := HK2.out; have := HJ5.out; omega⟩, by repeat (first | exact Drawn0.refl _ | apply Drawn0.step)⟩
                    · rw [if_neg c10] at H
                      have c10b0 : decide (x8_2 < a1) = false := decide_eq_false c10
                      clear c10
                      by_cases c15 : (wrap64 (x8_2 + 1)) = 0
                      · rw [if_pos c15] at H
                        exact absurd H (by simp)
                      · rw [if_neg c15] at H
                        have c15b0 : ((wrap64 (x8_2 + 1)) == 0) = false := beq_eq_false_iff_ne.mpr c15
                        have c15b1 : ((wrap64 (x8_2 + 1)) != 0) = true := bne_iff_ne.mpr c15
                        have H' := Aside0.mk H
                        clear H
                        go_wp2
                        go_roundg kj5
                        case measure => have := HJ2.out; have := HK2.out; have := HJ5.out; omega
                        case rel => exact ⟨(wrap64 (x6_2 + x7_2)), (wrap64 ((wrap64 (Int.tdiv (wrap64 (x7_2 * (wrap64 (a0 - x8_2)))) (wrap64 (x8_2 + 1)))) * 3)), (wrap64 (x8_2 + 1)), (by first | rfl | (simp; done) | (simp [*]; done)), (by first | rfl | (simp; done) | (simp [*]; done)), (by first | rfl | (simp; done) | (simp [*]; done)), H', ⟨by have := HJ2.out; have := HK2.out; have := HJ5.out; omega⟩, by repeat (first | exact Drawn0.refl _ | apply Drawn0.step)⟩
                · replace c8 := Bool.eq_false_iff.mpr c8
                  subst c8
                  have H1 : (some (x6_2, true)) = some (r1, r2) := by rw [if_neg (show ¬ (false = true) by decide)] at H; exact H
                  clear H
                  have H := H1
                  clear H1
                  simp only [Option.some.injEq, Prod.mk.injEq] at H
                  obtain ⟨rfl, rfl⟩ := H
                  go_wp2
                  go_ret2
                  exact ⟨by first | rfl | (simp; done) | (simp [*]; done), by repeat (first | exact Drawn0.refl _ | apply Drawn0.step)⟩

/-! ### storagebarterlaw30_DeviationSteps: function 6 -/
mutual
def storagebarterlaw30_DeviationSteps.j0 : Nat → List Int → List (S56) → Int → Int → Int → Bool → Int → List (S51) → Int → List (S51) → Option (Bool)
 | 0, _, _, _, _, _, _, _, _, _, _ => none
 | k + 1, x0, x3, x4, x5, x6, x47, x298000, x298001, bab, bac => if x47 = true then (some true) else ((storagebarterplay_New.f x0).bind fun bt300 => ((storagebarterlaw30_plan.f k bt300.1 bt300.2).bind fun bt303 => ((storagebarterplay_Dice_Pick.f bt300.1 bt303.2 3).bind fun bt307 => ((storagebarterplay_Dice_Deviation.f k bt300.1 bt307.2 bt303.1 (wrap64 (1 + bt307.1)) 4).bind fun bt309 => ((some (([] : List (S51)) : List (S51))).bind fun y316 => (if y316.length + bt309.2.1.length < 8796093022208 then ((some (y316 ++ bt309.2.1 : List (S51))).bind fun y319 => (if (y319.length : Int) > 0 then ((storagebarterplay_Dice_Pick.f bt300.1 bt309.2.2 (y319.length : Int)).bind fun bt322 => (if 0 ≤ bt322.1 then (if bt322.1 < (y319.length : Int) then ((storagebarterplay_Dice_Pick.f bt300.1 bt322.2 3).bind fun bt325 => (storagebarterlaw30_DeviationSteps.j1 k x3 x4 x5 x6 bt303.1 x298000 x298001 bab bac bt300.1 bt325.2 bt309.1 bt309.2.1 bt309.1 (y319.set (bt322.1 : Int).toNat (⟨wrap64 (((rd_T51 y319 bt322.1).f0) + (wrap64 (bt325.1 - 1))), (rd_T51 y319 bt322.1).f1⟩ : S51)))) else (none)) else (none))) else (storagebarterlaw30_DeviationSteps.j1 k x3 x4 x5 x6 bt303.1 x298000 x298001 bab bac bt300.1 bt309.2.2 bt309.1 bt309.2.1 bt309.1 y319))) else (none)))))))
def storagebarterlaw30_DeviationSteps.j1 : Nat → List (S56) → Int → Int → Int → List (S56) → Int → List (S51) → Int → List (S51) → List Int → Int → Int → List (S51) → Int → List (S51) → Option (Bool)
 | 0, _, _, _, _, _, _, _, _, _, _, _, _, _, _, _ => none
 | k + 1, x3, x4, x5, x6, x16, x298000, x298001, bab, bac, baf, baj, bag, bah, x316000, x316001 => (some (([(⟨x298000, x298001⟩ : S39), (⟨bag, bah⟩ : S39), (⟨x316000, x316001⟩ : S39)] : List (S39)) : List (S39))).bind fun y329 => (storagebarterlaw30_DeviationSteps.l0 k x3 x4 x5 x6 x16 y329 (y329.length : Int) 0 bab bac baf baj bag bah)
def storagebarterlaw30_DeviationSteps.l0 : Nat → List (S56) → Int → Int → Int → List (S56) → List (S39) → Int → Int → Int → List (S51) → List Int → Int → Int → List (S51) → Option (Bool)
 | 0, _, _, _, _, _, _, _, _, _, _, _, _, _, _ => none
 | k + 1, x3, x4, x5, x6, x16, x87, x88, x89, bab, bac, baf, baj, bag, bah => if x89 < x88 then (if 0 ≤ x89 then (if x89 < (x87.length : Int) then ((some (([x16, x3] : List (List (S56))) : List (List (S56)))).bind fun y335 => (storagebarterlaw30_DeviationSteps.l1 k x3 x4 x5 x6 x16 x87 x88 x89 y335 (y335.length : Int) 0 bab bac baf baj bag bah ((rd_T39 x87 x89).f0) ((rd_T39 x87 x89).f1))) else (none)) else (none)) else ((storagebarterplay_Dice_Pick.f baf baj 30).bind fun bt355 => ((storagebarterplay_Dice_Pick.f baf bt355.2 6).bind fun bt357 => ((some (([(⟨x5, x6⟩ : S28), (⟨bt355.1, bt357.1⟩ : S28), (⟨x5, 0⟩ : S28), (⟨x5, 1⟩ : S28), (⟨5461, 1⟩ : S28), (⟨5462, 1⟩ : S28), (⟨6, x6⟩ : S28), (⟨7, 7⟩ : S28), (⟨8, 7⟩ : S28)] : List (S28)) : List (S28))).bind fun y359 => (storagebarterlaw30_DeviationSteps.l3 k y359 (y359.length : Int) 0))))
def storagebarterlaw30_DeviationSteps.l1 : Nat → List (S56) → Int → Int → Int → List (S56) → List (S39) → Int → Int → List (List (S56)) → Int → Int → Int → List (S51) → List Int → Int → Int → List (S51) → Int → List (S51) → Option (Bool)
 | 0, _, _, _, _, _, _, _, _, _, _, _, _, _, _, _, _, _, _, _ => none
 | k + 1, x3, x4, x5, x6, x16, x87, x88, x89, x95, x96, x97, bab, bac, baf, baj, bag, bah, bad, bae => if x97 < x96 then (if 0 ≤ x97 then (if x97 < (x95.length : Int) then ((deviation_Valid.f (rd_L4 x95 x97) bad bae).bind fun t339 => ((storagebarterref30_Valid.f (rd_L4 x95 x97) bad bae).bind fun t340 => (if (t339 != t340) = true then (some false) else ((deviation_Twists.f (rd_L4 x95 x97) bad bae).bind fun t341 => ((storagebarterref30_Twists.f (rd_L4 x95 x97) bad bae).bind fun t342 => (if (t341 != t342) = true then (some false) else (storagebarterlaw30_DeviationSteps.l1 k x3 x4 x5 x6 x16 x87 x88 x89 x95 x96 (wrap64 (x97 + 1)) bab bac baf baj bag bah bad bae))))))) else (none)) else (none)) else ((storagebarterplay_Dice_Pick.f baf baj 20).bind fun bt343 => ((some (([x4, bt343.1] : List Int) : List Int)).bind fun y345 => (storagebarterlaw30_DeviationSteps.l2 k x3 x4 x5 x6 x16 x87 x88 x89 y345 (y345.length : Int) 0 bab bac baf bt343.2 bag bah bad bae)))
def storagebarterlaw30_DeviationSteps.l2 : Nat → List (S56) → Int → Int → Int → List (S56) → List (S39) → Int → Int → List Int → Int → Int → Int → List (S51) → List Int → Int → Int → List (S51) → Int → List (S51) → Option (Bool)
 | 0, _, _, _, _, _, _, _, _, _, _, _, _, _, _, _, _, _, _, _ => none
 | k + 1, x3, x4, x5, x6, x16, x87, x88, x89, x121, x122, x123, bab, bac, baf, baj, bag, bah, bad, bae => if x123 < x122 then (if 0 ≤ x123 then (if x123 < (x121.length : Int) then ((deviation_How.f k bad bae (rd x121 x123)).bind fun t349 => ((storagebarterref30_How.f k bad bae (rd x121 x123)).bind fun t350 => (if t349 = t350 then (storagebarterlaw30_DeviationSteps.l2 k x3 x4 x5 x6 x16 x87 x88 x89 x121 x122 (wrap64 (x123 + 1)) bab bac baf baj bag bah bad bae) else (some false)))) else (none)) else (none)) else ((deviation_Same.f k bad bae bab bac).bind fun t351 => ((storagebarterref30_Same.f k bad bae bab bac).bind fun t352 => (if (t351 != t352) = true then (some false) else ((deviation_Same.f k bad bae bag bah).bind fun t353 => ((storagebarterref30_Same.f k bad bae bag bah).bind fun t354 => (if (t353 != t354) = true then (some false) else (storagebarterlaw30_DeviationSteps.l0 k x3 x4 x5 x6 x16 x87 x88 (wrap64 (x89 + 1)) bab bac baf baj bag bah)))))))
def storagebarterlaw30_DeviationSteps.l3 : Nat → List (S28) → Int → Int → Option (Bool)
 | 0, _, _, _ => none
 | k + 1, x170, x171, x172 => if x172 < x171 then (if 0 ≤ x172 then (if x172 < (x170.length : Int) then ((deviation_Count.f k ((rd_T28 x170 x172).f0) ((rd_T28 x170 x172).f1)).bind fun bt364 => ((storagebarterref30_Count.f k ((rd_T28 x170 x172).f0) ((rd_T28 x170 x172).f1)).bind fun bt366 => (if bt364.1 = bt366.1 then (if (bt364.2 != bt366.2) = true then (some false) else (storagebarterlaw30_DeviationSteps.l3 k x170 x171 (wrap64 (x172 + 1)))) else (some false)))) else (none)) else (none)) else (some true)
end
def storagebarterlaw30_DeviationSteps.f (k : Nat) (l0 : List Int) (a1_0 : Int) (l1_1 : List (S51)) (a2_0 : Int) (l2_1 : List (S51)) (l3 : List (S56)) (a4 : Int) (a5 : Int) (a6 : Int) : Option (Bool) := (storagebarterlaw30_sane.f k).bind fun t299 => (if t299 = true then (if (l1_1.length : Int) > 10 then (storagebarterlaw30_DeviationSteps.j0 k l0 l3 a4 a5 a6 true a1_0 l1_1 a2_0 l2_1) else (if (l2_1.length : Int) > 10 then (storagebarterlaw30_DeviationSteps.j0 k l0 l3 a4 a5 a6 true a1_0 l1_1 a2_0 l2_1) else (storagebarterlaw30_DeviationSteps.j0 k l0 l3 a4 a5 a6 (decide ((l3.length : Int) > 20)) a1_0 l1_1 a2_0 l2_1))) else (some false))
theorem storagebarterlaw30_DeviationSteps.mono_l : ∀ k, (∀ y0 y1 y2 y3 y4 y5 y6 y7 y8 y9, LeO (storagebarterlaw30_DeviationSteps.j0 k y0 y1 y2 y3 y4 y5 y6 y7 y8 y9) (storagebarterlaw30_DeviationSteps.j0 (k + 1) y0 y1 y2 y3 y4 y5 y6 y7 y8 y9)) ∧ (∀ y0 y1 y2 y3 y4 y5 y6 y7 y8 y9 y10 y11 y12 y13 y14, LeO (storagebarterlaw30_DeviationSteps.j1 k y0 y1 y2 y3 y4 y5 y6 y7 y8 y9 y10 y11 y12 y13 y14) (storagebarterlaw30_DeviationSteps.j1 (k + 1) y0 y1 y2 y3 y4 y5 y6 y7 y8 y9 y10 y11 y12 y13 y14)) ∧ (∀ y0 y1 y2 y3 y4 y5 y6 y7 y8 y9 y10 y11 y12 y13, LeO (storagebarterlaw30_DeviationSteps.l0 k y0 y1 y2 y3 y4 y5 y6 y7 y8 y9 y10 y11 y12 y13) (storagebarterlaw30_DeviationSteps.l0 (k + 1) y0 y1 y2 y3 y4 y5 y6 y7 y8 y9 y10 y11 y12 y13)) ∧ (∀ y0 y1 y2 y3 y4 y5 y6 y7 y8 y9 y10 y11 y12 y13 y14 y15 y16 y17 y18, LeO (storagebarterlaw30_DeviationSteps.l1 k y0 y1 y2 y3 y4 y5 y6 y7 y8 y9 y10 y11 y12 y13 y14 y15 y16 y17 y18) (storagebarterlaw30_DeviationSteps.l1 (k + 1) y0 y1 y2 y3 y4 y5 y6 y7 y8 y9 y10 y11 y12 y13 y14 y15 y16 y17 y18)) ∧ (∀ y0 y1 y2 y3 y4 y5 y6 y7 y8 y9 y10 y11 y12 y13 y14 y15 y16 y17 y18, LeO (storagebarterlaw30_DeviationSteps.l2 k y0 y1 y2 y3 y4 y5 y6 y7 y8 y9 y10 y11 y12 y13 y14 y15 y16 y17 y18) (storagebarterlaw30_DeviationSteps.l2 (k + 1) y0 y1 y2 y3 y4 y5 y6 y7 y8 y9 y10 y11 y12 y13 y14 y15 y16 y17 y18)) ∧ (∀ y0 y1 y2, LeO (storagebarterlaw30_DeviationSteps.l3 k y0 y1 y2) (storagebarterlaw30_DeviationSteps.l3 (k + 1) y0 y1 y2))
 | 0 => ⟨fun _ _ _ _ _ _ _ _ _ _ r h => by simp [storagebarterlaw30_DeviationSteps.j0] at h, fun _ _ _ _ _ _ _ _ _ _ _ _ _ _ _ r h => by simp [storagebarterlaw30_DeviationSteps.j1] at h, fun _ _ _ _ _ _ _ _ _ _ _ _ _ _ r h => by simp [storagebarterlaw30_DeviationSteps.l0] at h, fun _ _ _ _ _ _ _ _ _ _ _ _ _ _ _ _ _ _ _ r h => by simp [storagebarterlaw30_DeviationSteps.l1] at h, fun _ _ _ _ _ _ _ _ _ _ _ _ _ _ _ _ _ _ _ r h => by simp [storagebarterlaw30_DeviationSteps.l2] at h, fun _ _ _ r h => by simp [storagebarterlaw30_DeviationSteps.l3] at h⟩
 | k + 1 => by
  obtain ⟨ih0, ih1, ih2, ih3, ih4, ih5⟩ := storagebarterlaw30_DeviationSteps.mono_l k
  refine ⟨?_, ?_, ?_, ?_, ?_, ?_⟩
  ·intro y0 y1 y2 y3 y4 y5 y6 y7 y8 y9
   unfold storagebarterlaw30_DeviationSteps.j0
   repeat' first
   | (with_reducible exact ih0 _ _ _ _ _ _ _ _ _ _)
   | (with_reducible exact ih1 _ _ _ _ _ _ _ _ _ _ _ _ _ _ _)
   | (with_reducible exact ih2 _ _ _ _ _ _ _ _ _ _ _ _ _ _)
   | (with_reducible exact ih3 _ _ _ _ _ _ _ _ _ _ _ _ _ _ _ _ _ _ _)
   | (with_reducible exact ih4 _ _ _ _ _ _ _ _ _ _ _ _ _ _ _ _ _ _ _)
   | (with_reducible exact ih5 _ _ _)
   | (with_reducible exact deviation_Count.mono _ _ _)
   | (with_reducible exact deviation_How.mono _ _ _ _)
   | (with_reducible exact deviation_Same.mono _ _ _ _ _)
   | (with_reducible exact storagebarterlaw30_plan.mono _ _ _)
   | (with_reducible exact storagebarterlaw30_sane.mono _)
   | (with_reducible exact storagebarterplay_Dice_Deviation.mono _ _ _ _ _ _)
   | (with_reducible exact storagebarterref30_Count.mono _ _ _)
   | (with_reducible exact storagebarterref30_How.mono _ _ _ _)
   | (with_reducible exact storagebarterref30_Same.mono _ _ _ _ _)
   | (with_reducible exact LeO.refl _)
   | (with_reducible exact LeO.none _)
   | (with_reducible refine LeO.ite ?_ ?_)
   | (with_reducible refine LeO.bind ?_ (fun _ => ?_))
   | exact ih0 _ _ _ _ _ _ _ _ _ _
   | exact ih1 _ _ _ _ _ _ _ _ _ _ _ _ _ _ _
   | exact ih2 _ _ _ _ _ _ _ _ _ _ _ _ _ _
   | exact ih3 _ _ _ _ _ _ _ _ _ _ _ _ _ _ _ _ _ _ _
   | exact ih4 _ _ _ _ _ _ _ _ _ _ _ _ _ _ _ _ _ _ _
   | exact ih5 _ _ _
   | exact deviation_Count.mono _ _ _
   | exact deviation_How.mono _ _ _ _
   | exact deviation_Same.mono _ _ _ _ _
   | exact storagebarterlaw30_plan.mono _ _ _
   | exact storagebarterlaw30_sane.mono _
   | exact storagebarterplay_Dice_Deviation.mono _ _ _ _ _ _
   | exact storagebarterref30_Count.mono _ _ _
   | exact storagebarterref30_How.mono _ _ _ _
   | exact storagebarterref30_Same.mono _ _ _ _ _
   | exact LeO.none _
   | refine LeO.ite ?_ ?_
   | refine LeO.bind ?_ (fun _ => ?_)
  ·intro y0 y1 y2 y3 y4 y5 y6 y7 y8 y9 y10 y11 y12 y13 y14
   unfold storagebarterlaw30_DeviationSteps.j1
   repeat' first
   | (with_reducible exact ih0 _ _ _ _ _ _ _ _ _ _)
   | (with_reducible exact ih1 _ _ _ _ _ _ _ _ _ _ _ _ _ _ _)
   | (with_reducible exact ih2 _ _ _ _ _ _ _ _ _ _ _ _ _ _)
   | (with_reducible exact ih3 _ _ _ _ _ _ _ _ _ _ _ _ _ _ _ _ _ _ _)
   | (with_reducible exact ih4 _ _ _ _ _ _ _ _ _ _ _ _ _ _ _ _ _ _ _)
   | (with_reducible exact ih5 _ _ _)
   | (with_reducible exact deviation_Count.mono _ _ _)
   | (with_reducible exact deviation_How.mono _ _ _ _)
   | (with_reducible exact deviation_Same.mono _ _ _ _ _)
   | (with_reducible exact storagebarterlaw30_plan.mono _ _ _)
   | (with_reducible exact storagebarterlaw30_sane.mono _)
   | (with_reducible exact storagebarterplay_Dice_Deviation.mono _ _ _ _ _ _)
   | (with_reducible exact storagebarterref30_Count.mono _ _ _)
   | (with_reducible exact storagebarterref30_How.mono _ _ _ _)
   | (with_reducible exact storagebarterref30_Same.mono _ _ _ _ _)
   | (with_reducible exact LeO.refl _)
   | (with_reducible exact LeO.none _)
   | (with_reducible refine LeO.ite ?_ ?_)
   | (with_reducible refine LeO.bind ?_ (fun _ => ?_))
   | exact ih0 _ _ _ _ _ _ _ _ _ _
   | exact ih1 _ _ _ _ _ _ _ _ _ _ _ _ _ _ _
   | exact ih2 _ _ _ _ _ _ _ _ _ _ _ _ _ _
   | exact ih3 _ _ _ _ _ _ _ _ _ _ _ _ _ _ _ _ _ _ _
   | exact ih4 _ _ _ _ _ _ _ _ _ _ _ _ _ _ _ _ _ _ _
   | exact ih5 _ _ _
   | exact deviation_Count.mono _ _ _
   | exact deviation_How.mono _ _ _ _
   | exact deviation_Same.mono _ _ _ _ _
   | exact storagebarterlaw30_plan.mono _ _ _
   | exact storagebarterlaw30_sane.mono _
   | exact storagebarterplay_Dice_Deviation.mono _ _ _ _ _ _
   | exact storagebarterref30_Count.mono _ _ _
   | exact storagebarterref30_How.mono _ _ _ _
   | exact storagebarterref30_Same.mono _ _ _ _ _
   | exact LeO.none _
   | refine LeO.ite ?_ ?_
   | refine LeO.bind ?_ (fun _ => ?_)
  ·intro y0 y1 y2 y3 y4 y5 y6 y7 y8 y9 y10 y11 y12 y13
   unfold storagebarterlaw30_DeviationSteps.l0
   repeat' first
   | (with_reducible exact ih0 _ _ _ _ _ _ _ _ _ _)
   | (with_reducible exact ih1 _ _ _ _ _ _ _ _ _ _ _ _ _ _ _)
   | (with_reducible exact ih2 _ _ _ _ _ _ _ _ _ _ _ _ _ _)
   | (with_reducible exact ih3 _ _ _ _ _ _ _ _ _ _ _ _ _ _ _ _ _ _ _)
   | (with_reducible exact ih4 _ _ _ _ _ _ _ _ _ _ _ _ _ _ _ _ _ _ _)
   | (with_reducible exact ih5 _ _ _)
   | (with_reducible exact deviation_Count.mono _ _ _)
   | (with_reducible exact deviation_How.mono _ _ _ _)
   | (with_reducible exact deviation_Same.mono _ _ _ _ _)
   | (with_reducible exact storagebarterlaw30_plan.mono _ _ _)
   | (with_reducible exact storagebarterlaw30_sane.mono _)
   | (with_reducible exact storagebarterplay_Dice_Deviation.mono _ _ _ _ _ _)
   | (with_reducible exact storagebarterref30_Count.mono _ _ _)
   | (with_reducible exact storagebarterref30_How.mono _ _ _ _)
   | (with_reducible exact storagebarterref30_Same.mono _ _ _ _ _)
   | (with_reducible exact LeO.refl _)
   | (with_reducible exact LeO.none _)
   | (with_reducible refine LeO.ite ?_ ?_)
   | (with_reducible refine LeO.bind ?_ (fun _ => ?_))
   | exact ih0 _ _ _ _ _ _ _ _ _ _
   | exact ih1 _ _ _ _ _ _ _ _ _ _ _ _ _ _ _
   | exact ih2 _ _ _ _ _ _ _ _ _ _ _ _ _ _
   | exact ih3 _ _ _ _ _ _ _ _ _ _ _ _ _ _ _ _ _ _ _
   | exact ih4 _ _ _ _ _ _ _ _ _ _ _ _ _ _ _ _ _ _ _
   | exact ih5 _ _ _
   | exact deviation_Count.mono _ _ _
   | exact deviation_How.mono _ _ _ _
   | exact deviation_Same.mono _ _ _ _ _
   | exact storagebarterlaw30_plan.mono _ _ _
   | exact storagebarterlaw30_sane.mono _
   | exact storagebarterplay_Dice_Deviation.mono _ _ _ _ _ _
   | exact storagebarterref30_Count.mono _ _ _
   | exact storagebarterref30_How.mono _ _ _ _
   | exact storagebarterref30_Same.mono _ _ _ _ _
   | exact LeO.none _
   | refine LeO.ite ?_ ?_
   | refine LeO.bind ?_ (fun _ => ?_)
  ·intro y0 y1 y2 y3 y4 y5 y6 y7 y8 y9 y10 y11 y12 y13 y14 y15 y16 y17 y18
   unfold storagebarterlaw30_DeviationSteps.l1
   repeat' first
   | (with_reducible exact ih0 _ _ _ _ _ _ _ _ _ _)
   | (with_reducible exact ih1 _ _ _ _ _ _ _ _ _ _ _ _ _ _ _)
   | (with_reducible exact ih2 _ _ _ _ _ _ _ _ _ _ _ _ _ _)
   | (with_reducible exact ih3 _ _ _ _ _ _ _ _ _ _ _ _ _ _ _ _ _ _ _)
   | (with_reducible exact ih4 _ _ _ _ _ _ _ _ _ _ _ _ _ _ _ _ _ _ _)
   | (with_reducible exact ih5 _ _ _)
   | (with_reducible exact deviation_Count.mono _ _ _)
   | (with_reducible exact deviation_How.mono _ _ _ _)
   | (with_reducible exact deviation_Same.mono _ _ _ _ _)
   | (with_reducible exact storagebarterlaw30_plan.mono _ _ _)
   | (with_reducible exact storagebarterlaw30_sane.mono _)
   | (with_reducible exact storagebarterplay_Dice_Deviation.mono _ _ _ _ _ _)
   | (with_reducible exact storagebarterref30_Count.mono _ _ _)
   | (with_reducible exact storagebarterref30_How.mono _ _ _ _)
   | (with_reducible exact storagebarterref30_Same.mono _ _ _ _ _)
   | (with_reducible exact LeO.refl _)
   | (with_reducible exact LeO.none _)
   | (with_reducible refine LeO.ite ?_ ?_)
   | (with_reducible refine LeO.bind ?_ (fun _ => ?_))
   | exact ih0 _ _ _ _ _ _ _ _ _ _
   | exact ih1 _ _ _ _ _ _ _ _ _ _ _ _ _ _ _
   | exact ih2 _ _ _ _ _ _ _ _ _ _ _ _ _ _
   | exact ih3 _ _ _ _ _ _ _ _ _ _ _ _ _ _ _ _ _ _ _
   | exact ih4 _ _ _ _ _ _ _ _ _ _ _ _ _ _ _ _ _ _ _
   | exact ih5 _ _ _
   | exact deviation_Count.mono _ _ _
   | exact deviation_How.mono _ _ _ _
   | exact deviation_Same.mono _ _ _ _ _
   | exact storagebarterlaw30_plan.mono _ _ _
   | exact storagebarterlaw30_sane.mono _
   | exact storagebarterplay_Dice_Deviation.mono _ _ _ _ _ _
   | exact storagebarterref30_Count.mono _ _ _
   | exact storagebarterref30_How.mono _ _ _ _
   | exact storagebarterref30_Same.mono _ _ _ _ _
   | exact LeO.none _
   | refine LeO.ite ?_ ?_
   | refine LeO.bind ?_ (fun _ => ?_)
  ·intro y0 y1 y2 y3 y4 y5 y6 y7 y8 y9 y10 y11 y12 y13 y14 y15 y16 y17 y18
   unfold storagebarterlaw30_DeviationSteps.l2
   repeat' first
   | (with_reducible exact ih0 _ _ _ _ _ _ _ _ _ _)
   | (with_reducible exact ih1 _ _ _ _ _ _ _ _ _ _ _ _ _ _ _)
   | (with_reducible exact ih2 _ _ _ _ _ _ _ _ _ _ _ _ _ _)
   | (with_reducible exact ih3 _ _ _ _ _ _ _ _ _ _ _ _ _ _ _ _ _ _ _)
   | (with_reducible exact ih4 _ _ _ _ _ _ _ _ _ _ _ _ _ _ _ _ _ _ _)
   | (with_reducible exact ih5 _ _ _)
   | (with_reducible exact deviation_Count.mono _ _ _)
   | (with_reducible exact deviation_How.mono _ _ _ _)
   | (with_reducible exact deviation_Same.mono _ _ _ _ _)
   | (with_reducible exact storagebarterlaw30_plan.mono _ _ _)
   | (with_reducible exact storagebarterlaw30_sane.mono _)
   | (with_reducible exact storagebarterplay_Dice_Deviation.mono _ _ _ _ _ _)
   | (with_reducible exact storagebarterref30_Count.mono _ _ _)
   | (with_reducible exact storagebarterref30_How.mono _ _ _ _)
   | (with_reducible exact storagebarterref30_Same.mono _ _ _ _ _)
   | (with_reducible exact LeO.refl _)
   | (with_reducible exact LeO.none _)
   | (with_reducible refine LeO.ite ?_ ?_)
   | (with_reducible refine LeO.bind ?_ (fun _ => ?_))
   | exact ih0 _ _ _ _ _ _ _ _ _ _
   | exact ih1 _ _ _ _ _ _ _ _ _ _ _ _ _ _ _
   | exact ih2 _ _ _ _ _ _ _ _ _ _ _ _ _ _
   | exact ih3 _ _ _ _ _ _ _ _ _ _ _ _ _ _ _ _ _ _ _
   | exact ih4 _ _ _ _ _ _ _ _ _ _ _ _ _ _ _ _ _ _ _
   | exact ih5 _ _ _
   | exact deviation_Count.mono _ _ _
   | exact deviation_How.mono _ _ _ _
   | exact deviation_Same.mono _ _ _ _ _
   | exact storagebarterlaw30_plan.mono _ _ _
   | exact storagebarterlaw30_sane.mono _
   | exact storagebarterplay_Dice_Deviation.mono _ _ _ _ _ _
   | exact storagebarterref30_Count.mono _ _ _
   | exact storagebarterref30_How.mono _ _ _ _
   | exact storagebarterref30_Same.mono _ _ _ _ _
   | exact LeO.none _
   | refine LeO.ite ?_ ?_
   | refine LeO.bind ?_ (fun _ => ?_)
  ·intro y0 y1 y2
   unfold storagebarterlaw30_DeviationSteps.l3
   repeat' first
   | (with_reducible exact ih0 _ _ _ _ _ _ _ _ _ _)
   | (with_reducible exact ih1 _ _ _ _ _ _ _ _ _ _ _ _ _ _ _)
   | (with_reducible exact ih2 _ _ _ _ _ _ _ _ _ _ _ _ _ _)
   | (with_reducible exact ih3 _ _ _ _ _ _ _ _ _ _ _ _ _ _ _ _ _ _ _)
   | (with_reducible exact ih4 _ _ _ _ _ _ _ _ _ _ _ _ _ _ _ _ _ _ _)
   | (with_reducible exact ih5 _ _ _)
   | (with_reducible exact deviation_Count.mono _ _ _)
   | (with_reducible exact deviation_How.mono _ _ _ _)
   | (with_reducible exact deviation_Same.mono _ _ _ _ _)
   | (with_reducible exact storagebarterlaw30_plan.mono _ _ _)
   | (with_reducible exact storagebarterlaw30_sane.mono _)
   | (with_reducible exact storagebarterplay_Dice_Deviation.mono _ _ _ _ _ _)
   | (with_reducible exact storagebarterref30_Count.mono _ _ _)
   | (with_reducible exact storagebarterref30_How.mono _ _ _ _)
   | (with_reducible exact storagebarterref30_Same.mono _ _ _ _ _)
   | (with_reducible exact LeO.refl _)
   | (with_reducible exact LeO.none _)
   | (with_reducible refine LeO.ite ?_ ?_)
   | (with_reducible refine LeO.bind ?_ (fun _ => ?_))
   | exact ih0 _ _ _ _ _ _ _ _ _ _
   | exact ih1 _ _ _ _ _ _ _ _ _ _ _ _ _ _ _
   | exact ih2 _ _ _ _ _ _ _ _ _ _ _ _ _ _
   | exact ih3 _ _ _ _ _ _ _ _ _ _ _ _ _ _ _ _ _ _ _
   | exact ih4 _ _ _ _ _ _ _ _ _ _ _ _ _ _ _ _ _ _ _
   | exact ih5 _ _ _
   | exact deviation_Count.mono _ _ _
   | exact deviation_How.mono _ _ _ _
   | exact deviation_Same.mono _ _ _ _ _
   | exact storagebarterlaw30_plan.mono _ _ _
   | exact storagebarterlaw30_sane.mono _
   | exact storagebarterplay_Dice_Deviation.mono _ _ _ _ _ _
   | exact storagebarterref30_Count.mono _ _ _
   | exact storagebarterref30_How.mono _ _ _ _
   | exact storagebarterref30_Same.mono _ _ _ _ _
   | exact LeO.none _
   | refine LeO.ite ?_ ?_
   | refine LeO.bind ?_ (fun _ => ?_)
theorem storagebarterlaw30_DeviationSteps.mono : ∀ a0 a1 a2 a3 a4 a5 a6 a7 a8 k, LeO (storagebarterlaw30_DeviationSteps.f k a0 a1 a2 a3 a4 a5 a6 a7 a8) (storagebarterlaw30_DeviationSteps.f (k + 1) a0 a1 a2 a3 a4 a5 a6 a7 a8) := by
 intro a0 a1 a2 a3 a4 a5 a6 a7 a8 k
 obtain ⟨ih0, ih1, ih2, ih3, ih4, ih5⟩ := storagebarterlaw30_DeviationSteps.mono_l k
 unfold storagebarterlaw30_DeviationSteps.f
 repeat' first
   | (with_reducible exact ih0 _ _ _ _ _ _ _ _ _ _)
   | (with_reducible exact ih1 _ _ _ _ _ _ _ _ _ _ _ _ _ _ _)
   | (with_reducible exact ih2 _ _ _ _ _ _ _ _ _ _ _ _ _ _)
   | (with_reducible exact ih3 _ _ _ _ _ _ _ _ _ _ _ _ _ _ _ _ _ _ _)
   | (with_reducible exact ih4 _ _ _ _ _ _ _ _ _ _ _ _ _ _ _ _ _ _ _)
   | (with_reducible exact ih5 _ _ _)
   | (with_reducible exact deviation_Count.mono _ _ _)
   | (with_reducible exact deviation_How.mono _ _ _ _)
   | (with_reducible exact deviation_Same.mono _ _ _ _ _)
   | (with_reducible exact storagebarterlaw30_plan.mono _ _ _)
   | (with_reducible exact storagebarterlaw30_sane.mono _)
   | (with_reducible exact storagebarterplay_Dice_Deviation.mono _ _ _ _ _ _)
   | (with_reducible exact storagebarterref30_Count.mono _ _ _)
   | (with_reducible exact storagebarterref30_How.mono _ _ _ _)
   | (with_reducible exact storagebarterref30_Same.mono _ _ _ _ _)
   | (with_reducible exact LeO.refl _)
   | (with_reducible exact LeO.none _)
   | (with_reducible refine LeO.ite ?_ ?_)
   | (with_reducible refine LeO.bind ?_ (fun _ => ?_))
   | exact ih0 _ _ _ _ _ _ _ _ _ _
   | exact ih1 _ _ _ _ _ _ _ _ _ _ _ _ _ _ _
   | exact ih2 _ _ _ _ _ _ _ _ _ _ _ _ _ _
   | exact ih3 _ _ _ _ _ _ _ _ _ _ _ _ _ _ _ _ _ _ _
   | exact ih4 _ _ _ _ _ _ _ _ _ _ _ _ _ _ _ _ _ _ _
   | exact ih5 _ _ _
   | exact deviation_Count.mono _ _ _
   | exact deviation_How.mono _ _ _ _
   | exact deviation_Same.mono _ _ _ _ _
   | exact storagebarterlaw30_plan.mono _ _ _
   | exact storagebarterlaw30_sane.mono _
   | exact storagebarterplay_Dice_Deviation.mono _ _ _ _ _ _
   | exact storagebarterref30_Count.mono _ _ _
   | exact storagebarterref30_How.mono _ _ _ _
   | exact storagebarterref30_Same.mono _ _ _ _ _
   | exact LeO.none _
   | refine LeO.ite ?_ ?_
   | refine LeO.bind ?_ (fun _ => ?_)
def storagebarterlaw30_DeviationSteps.T11 : Bool × List (List Nat × List Nat) := (true, [([], []), ([0], [0]), ([], []), ([], []), ([3], [3]), ([4], [4]), ([2, 5], [2, 5]), ([1, 6], [1, 6]), ([7], [7]), ([8], [8]), ([], []), ([10, 6], [10]), ([11], [11]), ([9, 12], [9, 12]), ([1, 6, 0, 1, 2, 3, 4, 5, 6, 7, 8, 9, 10, 11, 12, 13], [1, 6]), ([14, 0, 1, 2, 3, 4, 5, 6, 7, 8, 9, 10, 11, 12, 13], [14]), ([15, 13, 11, 0, 1, 2, 3, 4, 5, 6, 7, 8, 9, 10, 11, 12, 13], [13, 15])])
def storagebarterlaw30_DeviationSteps.B11 : List Nat := [0, 1, 0, 0, 8, 24, 60, 127, 255, 511, 0, 1148, 3196, 8191, 16383, 32767, 65535]
theorem storagebarterlaw30_DeviationSteps.tab11 : rtab .any (opsOf Tryd.f6 11) = storagebarterlaw30_DeviationSteps.T11 := by kernel_rfl
theorem storagebarterlaw30_DeviationSteps.bits11 : waitsOk storagebarterlaw30_DeviationSteps.T11.2 storagebarterlaw30_DeviationSteps.B11 = true := by kernel_rfl
def storagebarterlaw30_DeviationSteps.T18 : Bool × List (List Nat × List Nat) := (true, [([], []), ([], []), ([0, 1], [0, 1]), ([], []), ([], []), ([3, 4, 2], [3, 4]), ([2, 5], [2, 5]), ([6, 5], [6]), ([7], [7]), ([7], [7]), ([8, 9, 7, 7], [7, 8, 9]), ([7], [7]), ([7], [7]), ([11, 12, 10, 7], [7, 11, 12]), ([10, 13, 7], [7, 10, 13]), ([7, 14], [7, 14])])
def storagebarterlaw30_DeviationSteps.B18 : List Nat := [0, 0, 3, 0, 0, 31, 63, 127, 255, 255, 1023, 255, 255, 8191, 16383, 32767]
theorem storagebarterlaw30_DeviationSteps.tab18 : rtab .any (opsOf Tryd.f6 18) = storagebarterlaw30_DeviationSteps.T18 := by kernel_rfl
theorem storagebarterlaw30_DeviationSteps.bits18 : waitsOk storagebarterlaw30_DeviationSteps.T18.2 storagebarterlaw30_DeviationSteps.B18 = true := by kernel_rfl
def storagebarterlaw30_DeviationSteps.T27 : Bool × List (List Nat × List Nat) := (true, [([], []), ([], []), ([0, 1], [0, 1]), ([], []), ([], []), ([3, 4, 2], [3, 4]), ([2, 5], [2, 5]), ([6, 5], [6]), ([7], [7]), ([7], [7]), ([8, 9, 7, 7], [7, 8, 9]), ([7], [7]), ([7], [7]), ([11, 12, 10, 7], [7, 11, 12]), ([10, 13, 7], [7, 10, 13]), ([7, 14], [7, 14])])
def storagebarterlaw30_DeviationSteps.B27 : List Nat := [0, 0, 3, 0, 0, 31, 63, 127, 255, 255, 1023, 255, 255, 8191, 16383, 32767]
theorem storagebarterlaw30_DeviationSteps.tab27 : rtab .any (opsOf Tryd.f6 27) = storagebarterlaw30_DeviationSteps.T27 := by kernel_rfl
theorem storagebarterlaw30_DeviationSteps.bits27 : waitsOk storagebarterlaw30_DeviationSteps.T27.2 storagebarterlaw30_DeviationSteps.B27 = true := by kernel_rfl

end Go.Proofs.YtdflpnfceajomaaDoor.PDeviationSteps
