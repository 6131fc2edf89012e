-- Written by a program of this repository (wip/tools/myprint.py over the print of the kit): contracts and rows.
import Derived.Test.YtdflpnfceajomaaDoorPDeviationStepsx0
namespace Go.Proofs.YtdflpnfceajomaaDoor.PDeviationSteps
open Go.RowKit Go.Proofs.YtdflpnfceajomaaDoorW.PrintWords Go.Proofs.YtdflpnfceajomaaDoorW.PrintLast Go.Proofs.YtdflpnfceajomaaDoorW.PrintMore
attribute [local go_sem] max2_int min2_int max_two min_two max_three min_three max_four min_four   -- for this text's walks alone
set_option linter.unusedVariables false
set_option linter.unusedSimpArgs false

/-! ### deviation_Count: function 15 -/
mutual
def deviation_Count.j0 : Nat → Int → Int → Bool → Option (Int × Bool)
  | 0, _, _, _ => none
  | k + 1, x0, x1, x14 => if x14 = true then (some (0, false)) else (deviation_Count.l0 k x0 x1 1 1 1)
def deviation_Count.l0 : Nat → Int → Int → Int → Int → Int → Option (Int × Bool)
  | 0, _, _, _, _, _ => none
  | k + 1, x0, x1, x6, x7, x8 => if x8 ≤ (mn x0 x1) then (if x0 > 16384 then (some (0, false)) else (if x8 = 0 then (none) else (if (wrap64 (x6 + (wrap64 (Int.tdiv (wrap64 ((wrap64 (x7 * (wrap64 ((wrap64 (x0 - x8)) + 1)))) * 3)) x8)))) > 16384 then (some (0, false)) else (deviation_Count.l0 k x0 x1 (wrap64 (x6 + (wrap64 (Int.tdiv (wrap64 ((wrap64 (x7 * (wrap64 ((wrap64 (x0 - x8)) + 1)))) * 3)) x8)))) (wrap64 (Int.tdiv (wrap64 ((wrap64 (x7 * (wrap64 ((wrap64 (x0 - x8)) + 1)))) * 3)) x8)) (wrap64 (x8 + 1)))))) else (some (x6, true))
end
def deviation_Count.f (k : Nat) (a0 : Int) (a1 : Int) : Option (Int × Bool) := if a0 < 0 then (deviation_Count.j0 k a0 a1 true) else (deviation_Count.j0 k a0 a1 (decide (a1 < 0)))
theorem deviation_Count.mono_l : ∀ k, (∀ y0 y1 y2, LeO (deviation_Count.j0 k y0 y1 y2) (deviation_Count.j0 (k + 1) y0 y1 y2)) ∧ (∀ y0 y1 y2 y3 y4, LeO (deviation_Count.l0 k y0 y1 y2 y3 y4) (deviation_Count.l0 (k + 1) y0 y1 y2 y3 y4))
  | 0 => ⟨fun _ _ _ r h => by simp [deviation_Count.j0] at h, fun _ _ _ _ _ r h => by simp [deviation_Count.l0] at h⟩
  | k + 1 => by
    obtain ⟨ih0, ih1⟩ := deviation_Count.mono_l k
    refine ⟨?_, ?_⟩
    · intro y0 y1 y2
      unfold deviation_Count.j0
      repeat' first
      | (with_reducible exact ih0 _ _ _)
      | (with_reducible exact ih1 _ _ _ _ _)
      | (with_reducible exact LeO.refl _)
      | (with_reducible exact LeO.none _)
      | (with_reducible refine LeO.ite ?_ ?_)
      | (with_reducible refine LeO.bind ?_ (fun _ => ?_))
      | exact ih0 _ _ _
      | exact ih1 _ _ _ _ _
      | exact LeO.none _
      | refine LeO.ite ?_ ?_
      | refine LeO.bind ?_ (fun _ => ?_)
    · intro y0 y1 y2 y3 y4
      unfold deviation_Count.l0
      repeat' first
      | (with_reducible exact ih0 _ _ _)
      | (with_reducible exact ih1 _ _ _ _ _)
      | (with_reducible exact LeO.refl _)
      | (with_reducible exact LeO.none _)
      | (with_reducible refine LeO.ite ?_ ?_)
      | (with_reducible refine LeO.bind ?_ (fun _ => ?_))
      | exact ih0 _ _ _
      | exact ih1 _ _ _ _ _
      | exact LeO.none _
      | refine LeO.ite ?_ ?_
      | refine LeO.bind ?_ (fun _ => ?_)
theorem deviation_Count.mono : ∀ a0 a1 k, LeO (deviation_Count.f k a0 a1) (deviation_Count.f (k + 1) a0 a1) := by
  intro a0 a1 k
  obtain ⟨ih0, ih1⟩ := deviation_Count.mono_l k
  unfold deviation_Count.f
  repeat' first
      | (with_reducible exact ih0 _ _ _)
      | (with_reducible exact ih1 _ _ _ _ _)
      | (with_reducible exact LeO.refl _)
      | (with_reducible exact LeO.none _)
      | (with_reducible refine LeO.ite ?_ ?_)
      | (with_reducible refine LeO.bind ?_ (fun _ => ?_))
      | exact ih0 _ _ _
      | exact ih1 _ _ _ _ _
      | exact LeO.none _
      | refine LeO.ite ?_ ?_
      | refine LeO.bind ?_ (fun _ => ?_)
set_option maxHeartbeats 8000000 in
set_option maxRecDepth 100000 in
theorem deviation_Count.calls (k : Nat) (a0 : Int) (a1 : Int) (r1 : Int) (r2 : Bool) (w : World) (h : deviation_Count.f k a0 a1 = some (r1, r2)) :
    Calls Tryd.prog 15 #[.int .i64 a0, .int .i64 a1] w fun e w' => e = .returned (.tuple #[.int .i64 r1, .bool r2]) ∧ Below w.heap.size w w' := by
  have HB := Aside0.mk (Below.refl w.heap.size w)
  have H : (if a0 < 0 then (deviation_Count.j0 k a0 a1 true) else (deviation_Count.j0 k a0 a1 (decide (a1 < 0)))) = some (r1, r2) := h
  clear h
  have HC3 := Aside0.mk H
  clear H
  go_enter Tryd.func15, Tryd.ntmps15
  go_upto_region 1 with (fail)
  go_cut [14] (fun v14 wc => ∃ (kq : Nat) (x14_2 : Bool), v14 = .bool x14_2 ∧ Aside0 (deviation_Count.j0 kq a0 a1 x14_2 = some (r1, r2)) ∧ Aside0 (kq ≤ k) ∧ Aside0 (Below w.heap.size w wc))
  case first =>
    have H := HC3.out
    clear HC3
    by_cases c4 : a0 < 0
    · rw [if_pos c4] at H
      have c4b0 : decide (a0 < 0) = true := decide_eq_true c4
      clear c4
      (first | rw [c4b0] | (simp only [i64_w, i32_w]; rw [c4b0]) | skip)
      have H' := Aside0.mk H
      clear H
      go_wp2
      go_meet
      case rel => exact ⟨_, (true), (by first | rfl | (simp; done) | (simp [*]; done)), H', ⟨by first | omega | exact Nat.le_refl _⟩, ⟨by repeat (first | (with_reducible first | exact HB.out | apply below_alloc | apply pw_below_drewN | apply below_drew1) | exact HB.out)⟩⟩
    · rw [if_neg c4] at H
      have c4b0 : decide (a0 < 0) = false := decide_eq_false c4
      clear c4
      (first | rw [c4b0] | (simp only [i64_w, i32_w]; rw [c4b0]) | skip)
      have H' := Aside0.mk H
      clear H
      go_wp2
      go_meet
      case rel => exact ⟨_, (decide (a1 < 0)), (by first | rfl | (simp; done) | (simp [*]; done)), H', ⟨by first | omega | exact Nat.le_refl _⟩, ⟨by repeat (first | (with_reducible first | exact HB.out | apply below_alloc | apply pw_below_drewN | apply below_drew1) | exact HB.out)⟩⟩
  case rest =>
    clear HC3
    try clear c1
    try clear p2
    try clear c4
    try clear c4b0
    obtain ⟨kq, x14_2, rfl, HA, HJ2, HB⟩ := hcut
    cases kq with
    | zero => exact absurd HA.out (by simp [deviation_Count.j0])
    | succ kj2 =>
      have H := HA.out
      clear HA
      simp only [deviation_Count.j0] at H
      by_cases c5 : x14_2 = true
      · subst c5
        have H1 : (some (0, false)) = some (r1, r2) := by rw [if_pos rfl] at H; exact H
        clear H
        have H := H1
        clear H1
        simp only [Option.some.injEq, Prod.mk.injEq] at H
        obtain ⟨rfl, rfl⟩ := H
        go_wp2
        go_ret2
        exact ⟨by first | rfl | (simp [errW_none, errW_some] <;> rfl) | (simp [*, errW_none, errW_some] <;> rfl), by repeat (first | (with_reducible first | exact HB.out | apply below_alloc | apply pw_below_drewN | apply below_drew1) | exact HB.out)⟩
      · replace c5 := Bool.eq_false_iff.mpr c5
        subst c5
        have H1 : (deviation_Count.l0 kj2 a0 a1 1 1 1) = some (r1, r2) := by rw [if_neg (show ¬ (false = true) by decide)] at H; exact H
        clear H
        have H := H1
        clear H1
        have H' := Aside0.mk H
        clear H
        go_wp2
        go_loopg [6, 7, 8] kj2 (fun kq v6 v7 v8 w' => ∃ (x6_2 : Int) (x7_2 : Int) (x8_2 : Int), v6 = .int .i64 x6_2 ∧ v7 = .int .i64 x7_2 ∧ v8 = .int .i64 x8_2 ∧ Aside0 (deviation_Count.l0 kq a0 a1 x6_2 x7_2 x8_2 = some (r1, r2)) ∧ Aside0 (kq ≤ kj2) ∧ Aside0 (Below w.heap.size w w'))
        case atStart => exact ⟨(1), (1), (1), (by first | rfl | (simp; done) | (simp [*]; done)), (by first | rfl | (simp; done) | (simp [*]; done)), (by first | rfl | (simp; done) | (simp [*]; done)), H', ⟨Nat.le_refl _⟩, ⟨by repeat (first | (with_reducible first | exact HB.out | apply below_alloc | apply pw_below_drewN | apply below_drew1) | exact HB.out)⟩⟩
        case round =>
          clear H'
          try clear c1
          try clear p2
          try clear c4
          try clear c4b0
          try clear c5
          try clear p2
          obtain ⟨x6_2, x7_2, x8_2, rfl, rfl, rfl, HA, HK2, HB⟩ := hrel
          cases gk with
          | zero => exact absurd HA.out (by simp [deviation_Count.l0])
          | succ k2 =>
            have H := HA.out
            clear HA
            simp only [deviation_Count.l0] at H
            obtain ⟨ji6, hji6⟩ : ∃ j_ : Int, (mn a0 a1) = j_ := ⟨_, rfl⟩
            replace H : (if x8_2 ≤ (ji6) then (if a0 > 16384 then (some (0, false)) else (if x8_2 = 0 then (none) else (if (wrap64 (x6_2 + (wrap64 (Int.tdiv (wrap64 ((wrap64 (x7_2 * (wrap64 ((wrap64 (a0 - x8_2)) + 1)))) * 3)) x8_2)))) > 16384 then (some (0, false)) else (deviation_Count.l0 k2 a0 a1 (wrap64 (x6_2 + (wrap64 (Int.tdiv (wrap64 ((wrap64 (x7_2 * (wrap64 ((wrap64 (a0 - x8_2)) + 1)))) * 3)) x8_2)))) (wrap64 (Int.tdiv (wrap64 ((wrap64 (x7_2 * (wrap64 ((wrap64 (a0 - x8_2)) + 1)))) * 3)) x8_2)) (wrap64 (x8_2 + 1)))))) else (some (x6_2, true))) = some (r1, r2) := by first | (rw [hji6] at H; exact H) | (simp only [hji6] at H ⊢; exact H)
            have hji6_ : (if a1 < a0 then a1 else a0) = ji6 := hji6
            by_cases c7 : x8_2 ≤ (ji6)
            · rw [if_pos c7] at H
              have c7b0 : decide (x8_2 ≤ (ji6)) = true := decide_eq_true c7
              clear c7
              by_cases c8 : a0 > 16384
              · rw [if_pos c8] at H
                have c8b0 : decide (16384 < a0) = true := decide_eq_true c8
                clear c8
                simp only [Option.some.injEq, Prod.mk.injEq] at H
                obtain ⟨rfl, rfl⟩ := H
                go_wp2
                go_ret2
                exact ⟨by first | rfl | (simp [errW_none, errW_some] <;> rfl) | (simp only [← hji6]; first | rfl | (simp [errW_none, errW_some] <;> rfl)) | (simp [*, errW_none, errW_some] <;> rfl), by repeat (first | (with_reducible first | exact HB.out | apply below_alloc | apply pw_below_drewN | apply below_drew1) | exact HB.out)⟩
              · rw [if_neg c8] at H
                have c8b0 : decide (16384 < a0) = false := decide_eq_false c8
                clear c8
                by_cases c9 : x8_2 = 0
                · rw [if_pos c9] at H
                  exact absurd H (by simp)
                · rw [if_neg c9] at H
                  have c9b0 : (x8_2 == 0) = false := beq_eq_false_iff_ne.mpr c9
                  have c9b1 : (x8_2 != 0) = true := bne_iff_ne.mpr c9
                  by_cases c10 : (wrap64 (x6_2 + (wrap64 (Int.tdiv (wrap64 ((wrap64 (x7_2 * (wrap64 ((wrap64 (a0 - x8_2)) + 1)))) * 3)) x8_2)))) > 16384
                  · rw [if_pos c10] at H
                    have c10b0 : decide (16384 < (wrap64 (x6_2 + (wrap64 (Int.tdiv (wrap64 ((wrap64 (x7_2 * (wrap64 ((wrap64 (a0 - x8_2)) + 1)))) * 3)) x8_2))))) = true := decide_eq_true c10
                    clear c10
                    simp only [Option.some.injEq, Prod.mk.injEq] at H
                    obtain ⟨rfl, rfl⟩ := H
                    go_wp2
                    go_ret2
                    exact ⟨by first | rfl | (simp [errW_none, errW_some] <;> rfl) | (simp only [← hji6]; first | rfl | (simp [errW_none, errW_some] <;> rfl)) | (simp [*, errW_none, errW_some] <;> rfl), by repeat (first | (with_reducible first | exact HB.out | apply below_alloc | apply pw_below_drewN | apply below_drew1) | exact HB.out)⟩
                  · rw [if_neg c10] at H
                    have c10b0 : decide (16384 < (wrap64 (x6_2 + (wrap64 (Int.tdiv (wrap64 ((wrap64 (x7_2 * (wrap64 ((wrap64 (a0 - x8_2)) + 1)))) * 3)) x8_2))))) = false := decide_eq_false c10
                    clear c10
                    have H' := Aside0.mk H
                    clear H
                    go_wp2
                    go_roundg k2
                    case measure => have := HJ2.out; have := HK2.out; omega
                    case rel => exact ⟨(wrap64 (x6_2 + (wrap64 (Int.tdiv (wrap64 ((wrap64 (x7_2 * (wrap64 ((wrap64 (a0 - x8_2)) + 1)))) * 3)) x8_2)))), (wrap64 (Int.tdiv (wrap64 ((wrap64 (x7_2 * (wrap64 ((wrap64 (a0 - x8_2)) + 1)))) * 3)) x8_2)), (wrap64 (x8_2 + 1)), (by first | rfl | (simp; done) | (simp [*]; done)), (by first | rfl | (simp; done) | (simp [*]; done)), (by first | rfl | (simp; done) | (simp [*]; done)), H', ⟨by have := HJ2.out; have := HK2.out; omega⟩, ⟨by repeat (first | (with_reducible first | exact HB.out | apply below_alloc | apply pw_below_drewN | apply below_drew1) | exact HB.out)⟩⟩
            · rw [if_neg c7] at H
              have c7b0 : decide (x8_2 ≤ (ji6)) = false := decide_eq_false c7
              clear c7
              simp only [Option.some.injEq, Prod.mk.injEq] at H
              obtain ⟨rfl, rfl⟩ := H
              go_wp2
              go_ret2
              exact ⟨by first | rfl | (simp [errW_none, errW_some] <;> rfl) | (simp only [← hji6]; first | rfl | (simp [errW_none, errW_some] <;> rfl)) | (simp [*, errW_none, errW_some] <;> rfl), by repeat (first | (with_reducible first | exact HB.out | apply below_alloc | apply pw_below_drewN | apply below_drew1) | exact HB.out)⟩

/-! ### duty_Of: function 30 -/
def duty_Of.l0 : Nat → Int → List Int → List (S56) → Int → Int → Option (List Int)
  | 0, _, _, _, _, _ => none
  | k + 1, x1, x5, x8, x9, x10 => if x10 < x9 then (if 0 ≤ x10 then (if x10 < (x8.length : Int) then (if ((rd_T56 x8 x10).f2) = x1 then (if x5.length < 17592186044416 then (duty_Of.l0 k x1 (x5 ++ [x10]) x8 x9 (wrap64 (x10 + 1))) else (none)) else (duty_Of.l0 k x1 x5 x8 x9 (wrap64 (x10 + 1)))) else (none)) else (none)) else (some x5)
def duty_Of.f (k : Nat) (l0 : List (S56)) (a1 : Int) : Option (List Int) := duty_Of.l0 k a1 ([] : List Int) l0 (l0.length : Int) 0
theorem duty_Of.mono_l : ∀ k, (∀ y0 y1 y2 y3 y4, LeO (duty_Of.l0 k y0 y1 y2 y3 y4) (duty_Of.l0 (k + 1) y0 y1 y2 y3 y4))
  | 0 => fun _ _ _ _ _ r h => by simp [duty_Of.l0] at h
  | k + 1 => by
    have ih0 := duty_Of.mono_l k
    · intro y0 y1 y2 y3 y4
      unfold duty_Of.l0
      repeat' first
      | (with_reducible exact ih0 _ _ _ _ _)
      | (with_reducible exact LeO.refl _)
      | (with_reducible exact LeO.none _)
      | (with_reducible refine LeO.ite ?_ ?_)
      | (with_reducible refine LeO.bind ?_ (fun _ => ?_))
      | exact ih0 _ _ _ _ _
      | exact LeO.none _
      | refine LeO.ite ?_ ?_
      | refine LeO.bind ?_ (fun _ => ?_)
theorem duty_Of.mono : ∀ a0 a1 k, LeO (duty_Of.f k a0 a1) (duty_Of.f (k + 1) a0 a1) := by
  intro a0 a1 k
  have ih0 := duty_Of.mono_l k
  unfold duty_Of.f
  repeat' first
      | (with_reducible exact ih0 _ _ _ _ _)
      | (with_reducible exact LeO.refl _)
      | (with_reducible exact LeO.none _)
      | (with_reducible refine LeO.ite ?_ ?_)
      | (with_reducible refine LeO.bind ?_ (fun _ => ?_))
      | exact ih0 _ _ _ _ _
      | exact LeO.none _
      | refine LeO.ite ?_ ?_
      | refine LeO.bind ?_ (fun _ => ?_)
set_option maxHeartbeats 8000000 in
set_option maxRecDepth 100000 in
theorem duty_Of.calls (k : Nat) (A0 : Option Addr) (c0 : Nat) (l0 : List (S56)) (a1 : Int) (r : List Int) (w : World) (hr0 : Kd.C k56 w A0 l0.length l0) (hc0 : l0.length ≤ c0) (h : duty_Of.f k l0 a1 = some r) :
    Calls Tryd.prog 30 #[.slice A0 l0.length c0, .int .i64 a1] w fun e w' => ∃ v0_ : Value, e = .returned (v0_) ∧ Kd.R (Kd.int .i64) 3 w' w.heap.size (fun _ => True) v0_ r ∧ Below w.heap.size w w' := by
  have hu56 := Tryd.underlying56
  have HR0 := Aside0.mk hr0
  have HC0 := Aside0.mk hc0
  clear hr0 hc0
  have HB := Aside0.mk (Below.refl w.heap.size w)
  have H : (duty_Of.l0 k a1 ([] : List Int) l0 (l0.length : Int) 0) = some r := h
  clear h
  have H' := Aside0.mk H
  clear H
  go_enter Tryd.func30, Tryd.ntmps30
  go_wp2
  go_loopg [5, 10] k (fun kq v5 v10 w' => ∃ (x5_1 : List Int) (x10_1 : Int), v10 = .int .i64 x10_1 ∧ Aside0 (duty_Of.l0 kq a1 x5_1 l0 (l0.length : Int) x10_1 = some r) ∧ Aside0 (kq ≤ k) ∧ Aside0 (Kd.R (Kd.int .i64) 3 w' w.heap.size (fun _ => True) v5 x5_1) ∧ Aside0 (Below w.heap.size w w'))
  case atStart => exact ⟨(([] : List Int)), (0), (by first | rfl | (simp; done) | (simp [*]; done)), H', ⟨Nat.le_refl _⟩, ⟨by first | exact Kd.R_nil _ _ _ _ _ | exact Kd.N_nil _ _ _ _ _ | exact Kd.V_nil _ _ _ _ _ | exact Kd.Q_nil _ _ _ _ _ | exact Kd.S_nil _ _ _ _ _⟩, ⟨by repeat (first | (with_reducible first | exact HB.out | apply below_alloc | apply pw_below_drewN | apply below_drew1) | exact HB.out)⟩⟩
  case round =>
    clear H'
    try clear p2
    obtain ⟨x5_1, x10_1, rfl, HA, HK1, HO_5, HB⟩ := hrel
    cases gk with
    | zero => exact absurd HA.out (by simp [duty_Of.l0])
    | succ k1 =>
      have H := HA.out
      clear HA
      simp only [duty_Of.l0] at H
      by_cases c3 : x10_1 < (l0.length : Int)
      · rw [if_pos c3] at H
        have c3b0 : decide (x10_1 < (l0.length : Int)) = true := decide_eq_true c3
        clear c3
        by_cases c4 : 0 ≤ x10_1
        · rw [if_pos c4] at H
          have c4b0 : decide (0 ≤ x10_1) = true := decide_eq_true c4
          clear c4
          by_cases c5 : x10_1 < (l0.length : Int)
          · rw [if_pos c5] at H
            have c5b0 : decide (x10_1 < (l0.length : Int)) = true := decide_eq_true c5
            clear c5
            by_cases c6 : ((rd_T56 l0 x10_1).f2) = a1
            · rw [if_pos c6] at H
              have c6b0 : (((rd_T56 l0 x10_1).f2) == a1) = true := beq_iff_eq.mpr c6
              have c6b1 : (((rd_T56 l0 x10_1).f2) != a1) = false := bne_eq_false_iff_eq.mpr c6
              clear c6
              by_cases c7 : x5_1.length < 17592186044416
              · rw [if_pos c7] at H
                have LMc7 := Aside0.mk c7
                clear c7
                obtain ⟨y103, hy103⟩ : ∃ y_ : List Int, y_ = (x5_1 ++ [x10_1]) := ⟨_, rfl⟩
                replace H : (duty_Of.l0 k1 a1 y103 l0 (l0.length : Int) (wrap64 (x10_1 + 1))) = some r := by first | (rw [hy103]; with_reducible exact H) | (have H2_ := (Option.bind_some _ _).symm.trans H; rw [hy103]; with_reducible exact H2_) | (have H2_ := (Option.bind_some _ _).symm.trans H; with_reducible exact H2_) | with_reducible exact H | (rw [hy103]; exact H) | exact H
                have Ny103 := Aside0.mk hy103
                clear hy103
                have H' := Aside0.mk H
                clear H
                have p101 : 0 ≤ (x10_1 : Int) := of_decide_eq_true (by first | (with_reducible assumption) | assumption)
                have q101 : x10_1 < (l0.length : Int) := of_decide_eq_true (by first | (with_reducible assumption) | assumption)
                obtain ⟨ad101, e101, hx101_0, hx101_1, hx101_2, hx101_3⟩ := at_T56 HR0.out x10_1 p101 q101
                cases e101
                replace hx101_0 := (HB.out.cell (World.block_lt_of_cell? w _ hx101_0)).trans hx101_0
                replace hx101_1 := (HB.out.cell (World.block_lt_of_cell? w _ hx101_1)).trans hx101_1
                replace hx101_2 := (HB.out.cell (World.block_lt_of_cell? w _ hx101_2)).trans hx101_2
                replace hx101_3 := (HB.out.cell (World.block_lt_of_cell? w _ hx101_3)).trans hx101_3
                replace p101 := eq_true p101
                replace q101 := eq_true q101
                go_wp2_with (first | ((with_reducible refine gate_dst (N := 7) rfl ?_); refine box_event ?hg (N := 7) ?hd (cs := #[.int .i64 0, .int .i64 0, .int .i64 0, .int .i64 0]) (t := 56) ?hr ?_; (case hd => rfl); (case hg => rfl); (case hr => first | (go_simp; done) | (go_simp; rfl)); intro gb102 hg w8 hbox hb; have n0_ := Aside0.mk (Kd.R_below (by (with_reducible repeat (first | apply Kd.R_alloc | apply Kd.R_drewN | apply Kd.R_drew)); exact HO_5.out) hb); have n1_ := Aside0.mk (below_step (by repeat (first | (with_reducible first | exact HB.out | apply below_alloc | apply pw_below_drewN | apply below_drew1) | exact HB.out)) hb); have n2_ := Aside0.mk (hbox); have n3_ := Aside0.mk ((by rw [hg]; exact (below_size (by repeat (first | (with_reducible first | exact HB.out | apply below_alloc | apply pw_below_drewN | apply below_drew1) | exact HB.out))) : w.heap.size ≤ gb102)); have n4_ := Aside0.mk ((by rw [hg]; exact (below_size (by repeat (first | (with_reducible first | exact HB.out | apply below_alloc | apply pw_below_drewN | apply below_drew1) | exact HB.out))) : w.heap.size ≤ gb102)); clear HO_5; clear HB; have HO_5 := n0_; have HB := n1_; have BK102 := n2_; have GW102 := n3_; have GE102 := n4_; clear n0_ n1_ n2_ n3_ n4_; clear hb hbox hg; have hcz9_0 : w8.cell? ⟨gb102, 0, none⟩ = some (.int .i64 0) := (blk_cell BK102.out 0).trans rfl; have hcz9_1 : w8.cell? ⟨gb102, 1, none⟩ = some (.int .i64 0) := (blk_cell BK102.out 1).trans rfl; have hcz9_2 : w8.cell? ⟨gb102, 2, none⟩ = some (.int .i64 0) := (blk_cell BK102.out 2).trans rfl; have hcz9_3 : w8.cell? ⟨gb102, 3, none⟩ = some (.int .i64 0) := (blk_cell BK102.out 3).trans rfl; have hfz9_0 := blk_frozen BK102.out 0; have hfz9_1 := blk_frozen BK102.out 1; have hfz9_2 := blk_frozen BK102.out 2; have hfz9_3 := blk_frozen BK102.out 3) | ((with_reducible refine gate_builtin (b := .append) (xs := #[.tmp 19, .tmp 21]) rfl ?_); at_builtin; refine Kd.R_append (Kd.int .i64) (w0 := w) w.heap.size rfl (.tmp 19) (.tmp 21) 44 3 (.int .i64 0) 8 rfl Tryd.underlying44 info3 rfl (by decide) (by omega) u5 x5_1 x10_1 [.int .i64 x10_1] (fun _ => True) (fun _ => False) rfl (by first | (go_simp; done) | (go_simp; rfl)) ?aP (fun _ hk => hk.elim) ?aF ?aO ?aB ?aS ?aL ?_; (case aP => exact rfl); (case aB => exact (by repeat (first | (with_reducible first | exact HB.out | apply below_alloc | apply pw_below_drewN | apply below_drew1 | refine below_set ?_ GE102.out) | exact HB.out))); (case aF => exact (fun _ _ => trivial)); (case aO => exact (by (with_reducible repeat (first | apply Kd.R_alloc | apply Kd.R_drewN | apply Kd.R_drew)); exact Kd.R_mono (Kd.R_far (p := ⟨gb102, 3, none⟩) (Kd.R_far (p := ⟨gb102, 2, none⟩) (Kd.R_far (p := ⟨gb102, 1, none⟩) (Kd.R_far (p := ⟨gb102, 0, none⟩) (Kd.R_types HO_5.out BK102.out (by decide)) (fun _ hk => hk.2) (.int .i64 ((rd_T56 l0 x10_1).f0))) (fun _ hk => hk.2) (.int .i64 ((rd_T56 l0 x10_1).f1))) (fun _ hk => hk.2) (.int .i64 ((rd_T56 l0 x10_1).f2))) (fun _ hk => hk.2) (.int .i64 ((rd_T56 l0 x10_1).f3))) (fun _ hk => trivial))); (case aS => exact (below_size (by repeat (first | (with_reducible first | exact HB.out | apply below_alloc | apply pw_below_drewN | apply below_drew1 | refine below_set ?_ GE102.out) | exact HB.out)))); (case aL => have := LMc7.out; omega); intro v104 w10 ho hb hg hat; rw [← Ny103.out] at ho; have n0_ := Aside0.mk (blk_grown (g := gb102) (o := .cells #[.int .i64 ((rd_T56 l0 x10_1).f0), .int .i64 ((rd_T56 l0 x10_1).f1), .int .i64 ((rd_T56 l0 x10_1).f2), .int .i64 ((rd_T56 l0 x10_1).f3)] 56 (0, 0)) (by (with_reducible repeat (first | refine blk_drewN ?_ _ | refine blk_drew ?_ | refine blk_alloc ?_ _)); refine blk_put (cs := #[.int .i64 ((rd_T56 l0 x10_1).f0), .int .i64 ((rd_T56 l0 x10_1).f1), .int .i64 ((rd_T56 l0 x10_1).f2), .int .i64 0]) ?_ 3 _ rfl; (with_reducible repeat (first | refine blk_drewN ?_ _ | refine blk_drew ?_ | refine blk_alloc ?_ _)); refine blk_put (cs := #[.int .i64 ((rd_T56 l0 x10_1).f0), .int .i64 ((rd_T56 l0 x10_1).f1), .int .i64 0, .int .i64 0]) ?_ 2 _ rfl; (with_reducible repeat (first | refine blk_drewN ?_ _ | refine blk_drew ?_ | refine blk_alloc ?_ _)); refine blk_put (cs := #[.int .i64 ((rd_T56 l0 x10_1).f0), .int .i64 0, .int .i64 0, .int .i64 0]) ?_ 1 _ rfl; (with_reducible repeat (first | refine blk_drewN ?_ _ | refine blk_drew ?_ | refine blk_alloc ?_ _)); refine blk_put (cs := #[.int .i64 0, .int .i64 0, .int .i64 0, .int .i64 0]) ?_ 0 _ rfl; (with_reducible repeat (first | refine blk_drewN ?_ _ | refine blk_drew ?_ | refine blk_alloc ?_ _)); exact BK102.out) hg (Kd.R_ne HO_5.out BK102.out (by decide))); have n1_ := Aside0.mk (hb); have n2_ := Aside0.mk (ho); clear BK102; clear HB; clear HO_5; have BK102 := n0_; have HB := n1_; have HO105 := n2_; clear n0_ n1_ n2_; clear ho hb hg hat))
                go_roundg k1
                case measure => have := HK1.out; omega
                case rel => exact ⟨(y103), (wrap64 (x10_1 + 1)), (by first | rfl | (simp; done) | (simp [*]; done)), H', ⟨by have := HK1.out; omega⟩, ⟨by (with_reducible repeat (first | apply Kd.R_alloc | apply Kd.R_drewN | apply Kd.R_drew)); exact HO105.out⟩, ⟨by repeat (first | (with_reducible first | exact HB.out | apply below_alloc | apply pw_below_drewN | apply below_drew1 | refine below_set ?_ GE102.out) | exact HB.out)⟩⟩
              · rw [if_neg c7] at H
                exact absurd H (by simp)
            · rw [if_neg c6] at H
              have c6b0 : (((rd_T56 l0 x10_1).f2) == a1) = false := beq_eq_false_iff_ne.mpr c6
              have c6b1 : (((rd_T56 l0 x10_1).f2) != a1) = true := bne_iff_ne.mpr c6
              have H' := Aside0.mk H
              clear H
              have p101 : 0 ≤ (x10_1 : Int) := of_decide_eq_true (by first | (with_reducible assumption) | assumption)
              have q101 : x10_1 < (l0.length : Int) := of_decide_eq_true (by first | (with_reducible assumption) | assumption)
              obtain ⟨ad101, e101, hx101_0, hx101_1, hx101_2, hx101_3⟩ := at_T56 HR0.out x10_1 p101 q101
              cases e101
              replace hx101_0 := (HB.out.cell (World.block_lt_of_cell? w _ hx101_0)).trans hx101_0
              replace hx101_1 := (HB.out.cell (World.block_lt_of_cell? w _ hx101_1)).trans hx101_1
              replace hx101_2 := (HB.out.cell (World.block_lt_of_cell? w _ hx101_2)).trans hx101_2
              replace hx101_3 := (HB.out.cell (World.block_lt_of_cell? w _ hx101_3)).trans hx101_3
              replace p101 := eq_true p101
              replace q101 := eq_true q101
              go_wp2_with (first | ((with_reducible refine gate_dst (N := 7) rfl ?_); refine box_event ?hg (N := 7) ?hd (cs := #[.int .i64 0, .int .i64 0, .int .i64 0, .int .i64 0]) (t := 56) ?hr ?_; (case hd => rfl); (case hg => rfl); (case hr => first | (go_simp; done) | (go_simp; rfl)); intro gb102 hg w11 hbox hb; have n0_ := Aside0.mk (Kd.R_below (by (with_reducible repeat (first | apply Kd.R_alloc | apply Kd.R_drewN | apply Kd.R_drew)); exact HO_5.out) hb); have n1_ := Aside0.mk (below_step (by repeat (first | (with_reducible first | exact HB.out | apply below_alloc | apply pw_below_drewN | apply below_drew1) | exact HB.out)) hb); have n2_ := Aside0.mk (hbox); have n3_ := Aside0.mk ((by rw [hg]; exact (below_size (by repeat (first | (with_reducible first | exact HB.out | apply below_alloc | apply pw_below_drewN | apply below_drew1) | exact HB.out))) : w.heap.size ≤ gb102)); have n4_ := Aside0.mk ((by rw [hg]; exact (below_size (by repeat (first | (with_reducible first | exact HB.out | apply below_alloc | apply pw_below_drewN | apply below_drew1) | exact HB.out))) : w.heap.size ≤ gb102)); clear HO_5; clear HB; have HO_5 := n0_; have HB := n1_; have BK102 := n2_; have GW102 := n3_; have GE102 := n4_; clear n0_ n1_ n2_ n3_ n4_; clear hb hbox hg; have hcz12_0 : w11.cell? ⟨gb102, 0, none⟩ = some (.int .i64 0) := (blk_cell BK102.out 0).trans rfl; have hcz12_1 : w11.cell? ⟨gb102, 1, none⟩ = some (.int .i64 0) := (blk_cell BK102.out 1).trans rfl; have hcz12_2 : w11.cell? ⟨gb102, 2, none⟩ = some (.int .i64 0) := (blk_cell BK102.out 2).trans rfl; have hcz12_3 : w11.cell? ⟨gb102, 3, none⟩ = some (.int .i64 0) := (blk_cell BK102.out 3).trans rfl; have hfz12_0 := blk_frozen BK102.out 0; have hfz12_1 := blk_frozen BK102.out 1; have hfz12_2 := blk_frozen BK102.out 2; have hfz12_3 := blk_frozen BK102.out 3))
              go_roundg k1
              case measure => have := HK1.out; omega
              case rel => exact ⟨(x5_1), (wrap64 (x10_1 + 1)), (by first | rfl | (simp; done) | (simp [*]; done)), H', ⟨by have := HK1.out; omega⟩, ⟨by (with_reducible repeat (first | apply Kd.R_alloc | apply Kd.R_drewN | apply Kd.R_drew)); exact Kd.R_mono (Kd.R_far (p := ⟨gb102, 3, none⟩) (Kd.R_far (p := ⟨gb102, 2, none⟩) (Kd.R_far (p := ⟨gb102, 1, none⟩) (Kd.R_far (p := ⟨gb102, 0, none⟩) (Kd.R_types HO_5.out BK102.out (by decide)) (fun _ hk => hk.2) (.int .i64 ((rd_T56 l0 x10_1).f0))) (fun _ hk => hk.2) (.int .i64 ((rd_T56 l0 x10_1).f1))) (fun _ hk => hk.2) (.int .i64 ((rd_T56 l0 x10_1).f2))) (fun _ hk => hk.2) (.int .i64 ((rd_T56 l0 x10_1).f3))) (fun _ hk => trivial)⟩, ⟨by repeat (first | (with_reducible first | exact HB.out | apply below_alloc | apply pw_below_drewN | apply below_drew1 | refine below_set ?_ GE102.out) | exact HB.out)⟩⟩
          · rw [if_neg c5] at H
            exact absurd H (by simp)
        · rw [if_neg c4] at H
          exact absurd H (by simp)
      · rw [if_neg c3] at H
        have c3b0 : decide (x10_1 < (l0.length : Int)) = false := decide_eq_false c3
        clear c3
        obtain rfl := Option.some.inj H
        go_wp2
        go_ret
        exact ⟨_, by first | rfl | (simp [errW_none, errW_some] <;> rfl) | (simp [*, errW_none, errW_some] <;> rfl), by (with_reducible repeat (first | apply Kd.R_alloc | apply Kd.R_drewN | apply Kd.R_drew)); exact HO_5.out, by repeat (first | (with_reducible first | exact HB.out | apply below_alloc | apply pw_below_drewN | apply below_drew1) | exact HB.out)⟩

/-! ### api_Act_40: function 40 -/
def api_Act_40.f (l0 : List S51) : Option (List S51) := if l0.length < 8796093022208 then some l0 else none
set_option maxHeartbeats 4000000 in
set_option maxRecDepth 100000 in
theorem api_Act_40.calls (A0 : Option Addr) (c0 : Nat) (l0 : List S51) (r : List S51) (w : World) (hr0 : Kd.C k51 w A0 l0.length l0) (hc0 : l0.length ≤ c0) (h : api_Act_40.f l0 = some r) :
    Calls Tryd.prog 40 #[.slice A0 l0.length c0] w fun e w' => ∃ v0_ : Value, e = .returned (v0_) ∧ Kd.R k51 51 w' w.heap.size (fun _ => True) v0_ r ∧ Below w.heap.size w w' := by
  unfold api_Act_40.f at h
  split at h
  · rename_i hl
    obtain rfl := Option.some.inj h
    have HR := Aside0.mk hr0
    have HL := Aside0.mk hl
    clear hr0 h hl
    cases A0 with
    | none =>
      have hn : l0 = [] := by
        rcases Nat.eq_zero_or_pos l0.length with h0 | h0
        · exact List.eq_nil_of_length_eq_zero h0
        · obtain ⟨ad, c, e, _⟩ := Kd.C_get HR.out z51 0 (by omega) (by omega)
          cases e
      subst hn
      have hq : ∀ W : World, (binOp .eql 37 (.slice none 0 c0) (.slice none 0 0)).run Tryd.prog W = .ok (.bool true) W := fun W => Lib.run_eql_slice_nil W 37 51 none 0 c0 0 0 Tryd.underlying37
      go_enter Tryd.func40, Tryd.ntmps40
      go_wp2
      go_ret
      exact ⟨_, rfl, Kd.R_nil _ _ _ _ _, Below.refl _ _⟩
    | some ad =>
      have hq : ∀ W : World, (binOp .eql 37 (.slice (some ad) l0.length c0) (.slice none 0 0)).run Tryd.prog W = .ok (.bool false) W := fun W => Lib.run_eql_slice_nil W 37 51 (some ad) l0.length c0 0 0 Tryd.underlying37
      go_enter Tryd.func40, Tryd.ntmps40
      go_wp2_with (first | ((with_reducible refine gate_dst (N := 5) rfl ?_); refine Kd.R_lit k51 _ 51 ?hg (N := 5) ?hd (xs := ([] : List S51)) (inner := []) (ok := fun _ => True) (okp := fun _ => True) ?hr ?hp (fun _ hk => hk) trivial (Below.refl _ _) (Nat.le_refl _) (by simp) ?_; (case hd => rfl); (case hg => rfl); (case hr => first | (go_simp; done) | (go_simp; rfl)); (case hp => exact (Reps.none _ _)); intro v1 w1 ho hb hg_ hnew_; have HO := Aside0.mk ho; have HB := Aside0.mk hb; clear hg_ hnew_ ho hb) | ((with_reducible refine gate_builtin (b := .append) (xs := #[.tmp 5, .tmp 6]) rfl ?_); at_builtin; refine Kd.R_append_rows k51 (w0 := w) w.heap.size rfl (.tmp 5) (.tmp 6) 37 51 (.agg #[(.int .i64 0), (.int .i64 0)]) 16 rfl Tryd.underlying37 info51 rfl (by decide) (by omega) v1 [] l0 _ _ _ (fun _ => True) (fun _ => False) rfl rfl HO.out (Kd.C_below HR.out HB.out) (fun _ _ h => h) (fun _ h => h.elim) (fun _ _ => trivial) HB.out HB.out.size ?aL ?_; (case aL => have := HL.out; simp; omega); intro v2 w2 ho hb hg hat; have HO2 := Aside0.mk ho; have HB2 := Aside0.mk hb; clear ho hb hg hat))
      go_ret
      exact ⟨_, rfl, HO2.out, HB2.out⟩
  · cases h

-- NOT PRINTED: function 31 (deviation_lists_add)

/-! ### deviation_All: function 12 -/
def Laid (w : World) : Prop := ∀ i : Nat, i < 3 → w.cell? ⟨0, i, none⟩ = some (.int .i64 (([1, 2, 3] : List Int).getD i 0))
theorem laid_below {w w' : World} (h : Laid w) (hb : Below w.heap.size w w') : Laid w' := fun i hi => pw_cell_below hb (h i hi)
theorem laid_drawn {w w' : World} (h : Laid w) (hd : Drawn0 w w') : Laid w' := laid_below h hd.below
section
variable {P : Program}
theorem run_append_keeps (w : World) (base : Nat) (t ty e : TypeId) (i : TypeInfo) (z : Value) (size bytes : Nat) (ht : P.underlying t = some (.slice e)) (hi : P.info? e = some i) (hz : i.zero = some z)
    (hsize : i.size = size) (hby : i.bytes = bytes) (hzs : z.cells.size = size) (hsz : 0 < size) (v : Value) (n : Nat) (xs : List Value) (hown : w.ownsRow base e size v n xs)
    (a : Addr) (m c : Nat) (news : List Value) (hl : news.length = m * size) (hnews : ∀ j u, news[j]? = some u → w.cell? (a.add j) = some u) (h1 : ∀ u ∈ news, u.oneCell' = true)
    (h63 : n + m ≤ maxLen) (hbytes : (n + m) * bytes ≤ 140737488355328) (hbase : base ≤ w.heap.size) :
    ∃ v' w', (Builtin.append_ #[t, t] ty #[v, .slice (some a) m c]).run P w = .ok v' w' ∧ w'.ownsRow base e size v' (n + m) (xs ++ news) ∧ w'.ownsRow base e size v n xs ∧ w.grownBy w' v.ownBlock ∧ (v'.ownBlock = v.ownBlock ∨ v'.ownBlock = some w.heap.size) := by
  obtain ⟨v', w', hr, h2, h3, h4, h5⟩ := run_append_own_at (P := P) w base t ty e i z size bytes ht hi hz hsize hby hzs hsz v n xs hown a m c news hl hnews h1 h63 hbytes hbase
  refine ⟨v', w', hr, h2, ?_, h3, h5⟩
  have hx := hown.1
  subst hsize
  rcases hown.2 with ⟨rfl, rfl⟩ | ⟨g, cap, cur, rfl, hbg, hg, hnc, hcm, hcs, htake⟩
  · rw [List.eq_nil_of_length_eq_zero (l := xs) (by simpa using hx)]
    exact World.ownsRow_nil _ _ _ _
  · by_cases hroom : n + m ≤ cap
    · have hfit : n * i.size + news.length ≤ cur.size := by rw [hl, hcs, ← Nat.add_mul]; exact Nat.mul_le_mul_right _ hroom
      have hr2 := run_append_room (P := P) w t ty e i ht hi g n cap cur hg a m c news hl hnews h1 hroom hfit
      rw [hr] at hr2
      injection hr2 with hv _
      rw [hv] at h2
      have h6 := own_take h2 (m := n) (by omega)
      rwa [← hx, List.take_left] at h6
    · have holds : ∀ j u, xs[j]? = some u → w.cell? ((⟨g, 0, none⟩ : Addr).add j) = some u := hown.cells (g := g) rfl
      have hr2 := run_append_grow (P := P) w t ty e i z ht hi hz ⟨g, 0, none⟩ n cap xs hx holds a m c news hl hnews (by omega) (by simp only [maxLen] at h63; omega) (growslice_fits (by omega) (by rw [hby]; exact hbytes))
      rw [hr] at hr2
      injection hr2 with _ hw
      exact own_move hown (fun k hk => by rw [hw]; exact heap_alloc_old w.drew _ (own_lt hown k hk))
end
section
variable {P : Program} {ops : Array Oper} {rest : List Oper} {o : Oper} {a : Act} {Q : Exit → Act → World → Prop} {α : Type}
theorem Kd.R_append_keeps (d : Kd α) {w0 W : World} (base : Nat) (hgd : o.guard = none) (s x : Operand) (t e : TypeId) (z : Value) (bytes : Nat)
    (ho : o.op = .call { callee := .builtin .append, args := #[s, x], argTypes := #[t, t] })
    (ht : P.underlying t = some (.slice e)) (hinfo : (P.info? e).map (fun i => (i.zero, i.size, i.bytes)) = some (some z, d.sz, bytes)) (hz : z.cells.size = d.sz) (hs0 : 0 < d.sz) (hb0 : 0 < bytes)
    (v : Value) (xs : List α) (p : α) (cs : List Value) (ok okp : Nat → Prop) (hs : a.eval s = v) (hx : a.eval x = .slice (some ⟨W.heap.size, 0, none⟩) 1 1) (hp : d.M W base okp p cs) (hokp : ∀ k, okp k → ok k ∧ some k ≠ v.ownBlock) (hfresh : ∀ k, W.heap.size ≤ k → ok k)
    (HO : d.R e W base ok v xs) (HB : Below base w0 W) (hbase : base ≤ W.heap.size) (hl : (xs.length + 1) * bytes ≤ 140737488355328)
    (h : ∀ v1 w1, d.R e w1 base ok v1 (xs ++ [p]) → d.R e w1 base ok v xs → Below base w0 w1 → W.grownBy w1 v.ownBlock → (v1.ownBlock = v.ownBlock ∨ ∃ b, v1.ownBlock = some b ∧ W.heap.size ≤ b) → wpList P ops Q rest (a.put o.dst v1) w1) :
    wpList P ops Q (o :: rest) a (W.alloc (.cells cs.toArray e)) := by
  obtain ⟨h0, inner, hown, hr⟩ := HO
  have hys : cs.length = d.sz := d.K_len (d.K_of_M hp)
  obtain ⟨i0, hi, hzz⟩ := Option.map_eq_some_iff.1 hinfo
  simp only [Prod.mk.injEq] at hzz
  obtain ⟨hz0, hz1, hz2⟩ := hzz
  have hlen : xs.length + 1 ≤ 140737488355328 := Nat.le_trans (Nat.le_mul_of_pos_right _ hb0) hl
  refine wpList_plain hgd fun K hK => ?_
  obtain ⟨v1, w1, hrun, hown1, hown0, hg, hat⟩ := run_append_keeps (P := P) (W.alloc (.cells cs.toArray e)) base t o.type e i0 z d.sz bytes ht hi hz0 hz1 hz2 hz hs0 v xs.length inner (hown.alloc _) ⟨W.heap.size, 0, none⟩ 1 1 cs (by rw [hys]; simp)
    (by simpa using World.news_of_block (cs := cs.toArray) (t := e) (fr := (0, 0)) (heap_alloc_new W (.cells cs.toArray e))) (d.K_one (d.K_of_M hp)) (by simp only [maxLen]; omega) hl (by simp; omega)
  have hat' : v1.ownBlock = v.ownBlock ∨ ∃ b, v1.ownBlock = some b ∧ W.heap.size ≤ b := by
    rcases hat with hat | hat
    · exact .inl hat
    · exact .inr ⟨_, hat, by simp⟩
  have hG := World.grownBy.trans (World.grownBy_alloc W _ _) hg
  unfold Oper.wp execOp
  simp only [ho, resolve, invoke, builtin, Sem.run_bind, Sem.run_pure, Result.andThen_ok, List.map_toArray, List.map_cons, List.map_nil, hs, hx, hrun]
  refine hK _ _ (h v1 w1 (Kd.R_appended h0 hr hp hokp hfresh hown1 hG hat') ⟨h0, inner, hown0, hr.imp_ (fun _ _ hp => d.M_mono (fun k hk => hk.1) (d.M_move (fun k hk => hG.block k hk.2.2.1 hk.1.2) (d.M_bound hp)))⟩ ((HB.alloc hbase _).grown hg (by simp; omega) (own_base hown)) hG hat')
end
def deviation_rounds (f : Int → List S51 → List S39) (ns : List Int) (acts : List S51) : Nat → Int → List S39
  | 0, _ => []
  | n + 1, i => ([1, 2, 3] : List Int).flatMap (fun h => f (i + 1) (acts ++ [⟨rd ns i, h⟩])) ++ deviation_rounds f ns acts n (i + 1)
def deviation_tables (p : Int) (ns : List Int) : Nat → Int → List S51 → List S39
  | 0, _, acts => [⟨p, acts⟩]
  | m + 1, i, acts => deviation_rounds (deviation_tables p ns m) ns acts ((ns.length : Int) - m - i).toNat i
structure AddInv (base bt : Nat) (p : Int) (An : Option Addr) (cn : Nat) (ns : List Int) (okX : Nat → Prop) (va : Value) (acts : List S51) (w0 ws w : World) (bo : Option Nat) (vo : Value) (out : List S39) : Prop where
  blk : w.heap[bt]? = some (.cells #[.int .i64 p, .slice An ns.length cn, vo] 67 (0, 0))
  nums : Kd.R (Kd.int .i64) 3 w base (fun _ => True) (.slice An ns.length cn) ns
  out : Kd.S k39 39 w base (fun k => okX k ∧ some k ≠ va.ownBlock) vo out
  acts : Kd.R k51 51 w base (fun _ => True) va acts
  below : Below base w0 w
  laid : Laid w
  size : ws.heap.size ≤ w.heap.size
  at_ : vo.ownBlock = bo ∨ ∃ b, vo.ownBlock = some b ∧ ws.heap.size ≤ b
  same : ∀ k, k < ws.heap.size → k ≠ bt → some k ≠ bo → some k ≠ va.ownBlock → w.heap[k]? = ws.heap[k]?
section
variable {base bt cn : Nat} {p : Int} {An : Option Addr} {ns : List Int} {okX : Nat → Prop} {va : Value} {acts : List S51} {w0 ws w : World} {bo : Option Nat} {vo : Value} {out : List S39}
theorem AddInv.start (h : AddInv base bt p An cn ns okX va acts w0 ws w bo vo out) : AddInv base bt p An cn ns okX va acts w0 w w vo.ownBlock vo out :=
  ⟨h.blk, h.nums, h.out, h.acts, h.below, h.laid, Nat.le_refl _, .inl rfl, fun _ _ _ _ _ => rfl⟩
/-- what stands when the call with one act more begins -/
theorem AddInv.enter (h : AddInv base bt p An cn ns okX va acts w0 ws w bo vo out) (hX : ∀ k, ws.heap.size ≤ k → okX k) {v1 : Value} {w1 : World} {x : S51}
    (ho : Kd.R k51 51 w1 base (fun _ => True) v1 (acts ++ [x])) (hb : Below base w0 w1) (hg : w.grownBy w1 va.ownBlock) (hat : v1.ownBlock = va.ownBlock ∨ ∃ b, v1.ownBlock = some b ∧ w.heap.size ≤ b) (h0 : 0 < base) (hL0 : Laid w1) :
    AddInv base bt p An cn ns (fun k => okX k ∧ some k ≠ va.ownBlock) v1 (acts ++ [x]) w0 w1 w1 vo.ownBlock vo out ∧ ∀ k, w1.heap.size ≤ k → (okX k ∧ some k ≠ va.ownBlock) := by
  have hne : some bt ≠ va.ownBlock := Kd.R_ne h.acts h.blk (by decide)
  refine ⟨⟨blk_grown h.blk hg hne, Kd.R_over' h.nums (Kd.R_typed h.acts) (by decide) hg, ?_, ho, hb, hL0, Nat.le_refl _, .inl rfl, fun _ _ _ _ _ => rfl⟩, fun k hk => ⟨hX k (Nat.le_trans h.size (Nat.le_trans hg.size hk)), fun he => ?_⟩⟩
  · exact Kd.S_after (ok := fun k => okX k ∧ some k ≠ va.ownBlock) (Kd.S_mono h.out (fun k hk => ⟨hk, hk.2⟩)) hg hat
  · have := Kd.R_lt h.acts k he.symm
    have := hg.size
    omega
theorem cap_same {w : World} {base n m c c' : Nat} {e : TypeId} {size : Nat} {A A' : Option Addr} {xs ys : List Value} (h : w.ownsRow base e size (.slice A n c) n xs) (h' : w.ownsRow base e size (.slice A' m c') m ys) (hs : 0 < size) {g : Nat} (hg : (Value.slice A n c).ownBlock = some g) (hg' : (Value.slice A' m c').ownBlock = some g) : A = A' ∧ c = c' := by
  rcases h.2 with ⟨he, _⟩ | ⟨g1, cap, cur, he, _, hh, _, _, hz, _⟩
  · rw [he] at hg; simp [Value.ownBlock] at hg
  · rcases h'.2 with ⟨he', _⟩ | ⟨g2, cap', cur', he', _, hh', _, _, hz', _⟩
    · rw [he'] at hg'; simp [Value.ownBlock] at hg'
    · rw [he] at hg
      rw [he'] at hg'
      simp only [Value.ownBlock, Option.some.injEq] at hg hg'
      subst hg
      subst hg'
      rw [hh] at hh'
      injection hh' with hh'
      injection hh' with hcur
      subst hcur
      injection he with e1 e2 e3
      injection he' with f1 f2 f3
      have := Nat.eq_of_mul_eq_mul_right hs (hz.symm.trans hz')
      exact ⟨e1.trans f1.symm, by omega⟩
/-- what stands when that call is over -/
theorem AddInv.leave (h : AddInv base bt p An cn ns okX va acts w0 ws w bo vo out) {v1 : Value} {w1 w2 : World} {x : S51} {vo2 : Value} {out2 : List S39}
    (hk : Kd.R k51 51 w1 base (fun _ => True) va acts) (hg : w.grownBy w1 va.ownBlock) (hat : v1.ownBlock = va.ownBlock ∨ ∃ b, v1.ownBlock = some b ∧ w.heap.size ≤ b) (ho : Kd.R k51 51 w1 base (fun _ => True) v1 (acts ++ [x]))
    (h2 : AddInv base bt p An cn ns (fun k => okX k ∧ some k ≠ va.ownBlock) v1 (acts ++ [x]) w0 w1 w2 vo.ownBlock vo2 out2) :
    AddInv base bt p An cn ns okX va acts w0 ws w2 bo vo2 out2 := by
  have hva := Kd.R_typed h.acts
  have hlt := Kd.R_lt h.acts
  have hvo := Kd.S_typed h.out
  have hz := hg.size
  have hz1 := h.size
  have hz2 := h2.size
  refine ⟨h2.blk, h2.nums, Kd.S_mono h2.out (fun k hk => hk.1), ?_, h2.below, h2.laid, by omega, ?_, fun k hk hb ho_ hv => ?_⟩
  · obtain ⟨A, c, rfl⟩ := Kd.R_slice h.acts
    obtain ⟨A1, c1, rfl⟩ := Kd.R_slice ho
    rcases hat with hat | ⟨b, hb, hle⟩
    · cases hbk : (Value.slice A acts.length c).ownBlock with
      | none =>
        obtain ⟨inner, hown⟩ := Kd.R_own hk
        rcases hown.2 with ⟨he, h0⟩ | ⟨g, _, _, he, _⟩
        · rw [he, List.eq_nil_of_length_eq_zero h0]
          exact Kd.R_nil _ _ _ _ _
        · rw [he] at hbk
          simp [Value.ownBlock] at hbk
      | some g =>
        obtain ⟨i1, o1⟩ := Kd.R_own hk
        obtain ⟨i2, o2⟩ := Kd.R_own ho
        obtain ⟨rfl, rfl⟩ := cap_same o1 o2 (by decide) hbk (by rw [hat]; exact hbk)
        have := Kd.R_take (m := acts.length) h2.acts (by simp)
        rwa [List.take_left] at this
    · have hk' : Kd.R k51 51 w1 base (fun k => (Value.slice A acts.length c).ownBlock = some k) (.slice A acts.length c) acts := by
        obtain ⟨_, inner, hown, hr⟩ := hk
        exact ⟨fun k hk => hk, inner, hown, hr.imp_ (fun x cs hp => by obtain rfl := k51_openM hp; exact k51_mkM _ _ _ x)⟩
      refine Kd.R_mono (Kd.R_step hk' (fun k hk1 hk2 => ?_)) (fun _ _ => trivial)
      obtain ⟨cs1, hc1⟩ := hva k hk1
      have hlt1 := hlt k hk1
      refine h2.same k hk2 (fun he => ?_) (fun he => ?_) (fun he => ?_)
      · subst he
        rw [h.blk] at hc1
        injection hc1 with hc1
        injection hc1 with _ hc1
        exact absurd hc1 (by decide)
      · obtain ⟨cs2, hc2⟩ := hvo k he.symm
        rw [hc2] at hc1
        injection hc1 with hc1
        injection hc1 with _ hc1
        exact absurd hc1 (by decide)
      · rw [hb] at he
        injection he with he
        omega
  · rcases h2.at_ with h3 | ⟨b, h3, h4⟩
    · rcases h.at_ with h5 | ⟨b, h5, h6⟩
      · exact .inl (h3.trans h5)
      · exact .inr ⟨b, h3.trans h5, h6⟩
    · exact .inr ⟨b, h3, by omega⟩
  · refine (h2.same k (by omega) hb (fun he => ?_) (fun he => ?_)).trans ((hg.block k (by omega) hv).trans (h.same k hk hb ho_ hv))
    · rcases h.at_ with h5 | ⟨b, h5, h6⟩
      · exact ho_ (he.trans h5)
      · rw [h5] at he; injection he with he; omega
    · rcases hat with h5 | ⟨b, h5, h6⟩
      · exact hv (he.trans h5)
      · rw [h5] at he; injection he with he; omega
end
theorem laid_base {base : Nat} {w w' : World} (h : Laid w) (hb : Below base w w') (h0 : 0 < base) : Laid w' := fun i hi => (hb.cell (p := ⟨0, i, none⟩) h0).trans (h i hi)
theorem AddInv.last {base bt cn : Nat} {p : Int} {An : Option Addr} {ns : List Int} {okX : Nat → Prop} {va : Value} {acts : List S51} {w0 w w4 w5 : World} {vo v2 : Value} {out : List S39} {x : S39} (HI : AddInv base bt p An cn ns okX va acts w0 w w vo.ownBlock vo out) (h0 : 0 < base) (hbt : base ≤ bt)
    (HB1 : Below w.heap.size w w4) (ho : Kd.S k39 39 w5 base (fun k => okX k ∧ some k ≠ va.ownBlock) v2 (out ++ [x])) (hb : Below base w w5) (hg : w4.grownBy w5 vo.ownBlock) (hat : v2.ownBlock = vo.ownBlock ∨ ∃ b, v2.ownBlock = some b ∧ w4.heap.size ≤ b) :
    AddInv base bt p An cn ns okX va acts w0 w (w5.setCell ⟨bt, 2, none⟩ v2) vo.ownBlock v2 (out ++ [x]) := by
  have hne : some bt ≠ vo.ownBlock := Kd.S_ne HI.out HI.blk (by decide)
  have h4 := (HB1.block bt (blk_lt HI.blk)).trans HI.blk
  have h5 := blk_grown h4 hg hne
  have ho4 := Kd.S_below HI.out HB1
  have hz := HB1.size
  have hz2 := hg.size
  refine ⟨blk_set h5 2 v2, Kd.R_set (Kd.R_over' (Kd.R_below HI.nums HB1) (Kd.S_typed ho4) (by decide) hg) h5 (by decide) 2 v2, Kd.S_set ho h5 (by decide) 2 v2, Kd.R_set (Kd.R_over' (Kd.R_below HI.acts HB1) (Kd.S_typed ho4) (by decide) hg) h5 (by decide) 2 v2, ?_, ?_, ?_, ?_, fun k hk h1 h2 h3 => ?_⟩
  · exact HI.below.trans (hb.setCell hbt _)
  · exact laid_base HI.laid (hb.setCell hbt _) h0
  · exact Nat.le_trans (Nat.le_trans hz hz2) (by simp)
  · rcases hat with h | ⟨b, h, hl⟩
    · exact .inl h
    · exact .inr ⟨b, h, by omega⟩
  · rw [Below.heap_setCell _ _ _ _ h1, hg.block k (by omega) h2, HB1.block k hk]
set_option maxHeartbeats 8000000 in
set_option maxRecDepth 100000 in
theorem deviation_add0 (base bt cn : Nat) (p : Int) (An : Option Addr) (ns : List Int) (h0 : 0 < base) (i : Int) (okX : Nat → Prop) (Aa : Option Addr) (ca : Nat) (acts : List S51) (w0 w : World) (Ao : Option Addr) (co : Nat) (out : List S39)
    (hal : acts.length ≤ 1099511627776) (hol : out.length < 1099511627776) (hX : ∀ k, w.heap.size ≤ k → okX k) (hbt : base ≤ bt) (hI : AddInv base bt p An cn ns okX (.slice Aa acts.length ca) acts w0 w w (Value.slice Ao out.length co).ownBlock (.slice Ao out.length co) out) :
    Calls Tryd.prog 31 #[.pointer (some ⟨bt, 0, none⟩), .slice Aa acts.length ca, .int .i64 i, .int .i64 0] w fun e w' => ∃ vo', e = .returned (.tuple #[]) ∧ AddInv base bt p An cn ns okX (.slice Aa acts.length ca) acts w0 w w' (Value.slice Ao out.length co).ownBlock vo' (out ++ [⟨p, acts⟩]) := by
  have c0 : w.cell? ⟨bt, 0, none⟩ = some (.int .i64 p) := blk_cell hI.blk 0
  have c2 : w.cell? ⟨bt, 2, none⟩ = some (.slice Ao out.length co) := blk_cell hI.blk 2
  have HF := Aside0.mk (show api_Act_40.f acts = some acts by rw [api_Act_40.f, if_pos (by omega)])
  have HI := Aside0.mk hI
  have HX := Aside0.mk hX
  have HOL := Aside0.mk hol
  have HBT := Aside0.mk hbt
  have HZ := Aside0.mk (show base ≤ w.heap.size from Nat.le_trans hbt (Nat.le_of_lt (blk_lt hI.blk)))
  have HH0 := Aside0.mk h0
  clear hX hol hal hbt hI h0
  go_enter Tryd.func31, Tryd.ntmps31
  go_wp2_with fail
  go_region_law (first | (refine goes_ Tryd.func40 (by kernel_rfl) rfl #[.slice Aa acts.length ca] (by rfl) rfl rfl (by (try simp only [List.map_toArray, List.map_cons, List.map_nil]); first | done | rfl) ?_; (with_reducible refine (api_Act_40.calls Aa ca acts acts _ ?hr ?hc HF.out).mono ?_); (case hr => exact Kd.C_below (Kd.R_reads' HI.out.acts).2.2 (below_drew (Below.refl _ _))); (case hc => exact (Kd.R_reads' HI.out.acts).2.1); rintro e w4 ⟨v1, rfl, ho, hb⟩; obtain ⟨A1, d1, rfl⟩ := Kd.R_slice ho; refine ⟨_, rfl, ?_⟩; have HO1 := Aside0.mk ho; have HB1 := Aside0.mk (show Below w.heap.size w w4 from (below_drew (Below.refl _ _)).trans hb); have hb4 := (HB1.out.block bt (blk_lt HI.out.blk)).trans HI.out.blk; have c0_ : w4.cell? ⟨bt, 0, none⟩ = some (.int .i64 p) := blk_cell hb4 0; have c2_ : w4.cell? ⟨bt, 2, none⟩ = some (.slice Ao out.length co) := blk_cell hb4 2; have c2a := pw_cell_below (below_alloc (Below.refl _ _) (.cells #[.int .i64 p, .slice A1 acts.length d1] 39)) c2_; have HB4 := Aside0.mk hb4; clear ho hb hb4) | (refine Kd.S_append_step k39 (w0 := w) (W := w4) base ?hw (.tmp 17) (.tmp 25) 32 39 (.agg #[(.int .i64 0), (.slice none 0 0)]) 32 ?h1 Tryd.underlying32 info39 rfl (by decide) (by omega) (.slice Ao out.length co) out (⟨p, acts⟩ : S39) [.int .i64 p, .slice A1 acts.length d1] (fun k => okX k ∧ some k ≠ (Value.slice Aa acts.length ca).ownBlock) (fun k => w.heap.size ≤ k) ?h2 ?h3 ?hp ?hokp ?hfr ?hO ?hB ?hbs ?hl ?_; (case hw => rfl); (case h1 => rfl); (case h2 => rfl); (case h3 => first | rfl | (go_simp; done) | (go_simp; rfl)); (case hp => exact k39_mkM _ _ _ (⟨p, acts⟩ : S39) (Kd.R_lower (Kd.R_mono (Kd.R_bound HO1.out) (fun k hk => hk.2.1)) HZ.out)); (case hokp => exact fun k hk => ⟨⟨HX.out k hk, fun he => by have := Kd.R_lt HI.out.acts k he.symm; omega⟩, fun he => by have := Kd.S_lt HI.out.out k he.symm; omega⟩); (case hfr => exact fun k hk => have hk' := Nat.le_trans HB1.out.size hk; ⟨HX.out k hk', fun he => by have := Kd.R_lt HI.out.acts k he.symm; omega⟩); (case hO => exact Kd.S_mono (Kd.S_below (Kd.S_bound HI.out.out) HB1.out) (fun k hk => ⟨hk.1, Nat.not_le.mpr hk.2.2.1⟩)); (case hB => exact HB1.out.mono HZ.out); (case hbs => exact Nat.le_trans HZ.out HB1.out.size); (case hl => have := HOL.out; omega); intro v2 w5 ho hb hg hat; obtain ⟨A2, d2, rfl⟩ := Kd.S_slice ho; have HL := Aside0.mk (fun v => blk_set (blk_grown HB4.out hg (Kd.S_ne HI.out.out HI.out.blk (by decide))) 2 v); have hb5 := blk_grown HB4.out hg (Kd.S_ne HI.out.out HI.out.blk (by decide)); have c2' : w5.cell? ⟨bt, 2, none⟩ = some (.slice Ao out.length co) := blk_cell hb5 2; have f2' := blk_frozen hb5 2; have HV := Aside0.mk (AddInv.last HI.out HH0.out HBT.out HB1.out ho hb hg hat); clear ho hb hg hat hb5))
  all_goals (
    go_wp2
    (try simp only [Exit.inBlock, Exit.then])
    first | (refine bodyPost_ret (results_none rfl _ _ _) rfl ?_) | (refine bodyPost_end (results_none rfl _ _ _) rfl ?_)
    have hv := HV.out
    rw [List.length_append, List.length_singleton] at hv
    exact ⟨_, rfl, hv⟩)
set_option maxHeartbeats 8000000 in
set_option maxRecDepth 100000 in
theorem deviation_add (base bt cn : Nat) (p : Int) (An : Option Addr) (ns : List Int) (h0 : 0 < base) (hns : ns.length ≤ 1099511627776) : ∀ (m : Nat) (mo i : Int) (okX : Nat → Prop) (va : Value) (acts : List S51) (w0 w : World) (vo : Value) (out : List S39),
    mo = m → 0 ≤ i → m ≤ 1099511627776 → i ≤ 1099511627776 → acts.length + m ≤ 1099511627776 → (out ++ deviation_tables p ns m i acts).length ≤ 1099511627776 →
    (∀ k, w.heap.size ≤ k → okX k) → base ≤ bt → AddInv base bt p An cn ns okX va acts w0 w w vo.ownBlock vo out →
    Calls Tryd.prog 31 #[.pointer (some ⟨bt, 0, none⟩), va, .int .i64 i, .int .i64 mo] w fun e w' => ∃ vo', e = .returned (.tuple #[]) ∧ AddInv base bt p An cn ns okX va acts w0 w w' vo.ownBlock vo' (out ++ deviation_tables p ns m i acts) := by
  intro m
  induction m with
  | zero =>
    intro mo i okX va acts w0 w vo out hmo hi hm hi2 hal hol hX hbt HI
    obtain rfl : mo = 0 := hmo
    obtain ⟨Aa, ca, rfl⟩ := Kd.R_slice HI.acts
    obtain ⟨Ao, co, rfl⟩ := Kd.S_slice HI.out
    exact deviation_add0 base bt cn p An ns h0 i okX Aa ca acts w0 w Ao co out (by omega) (by rw [List.length_append] at hol; simp [deviation_tables] at hol; omega) hX hbt HI
  | succ m ih =>
    intro mo i okX va acts w0 w vo out hmo hi hm hi2 hal hol hX hbt HI
    obtain ⟨Aa, ca, rfl⟩ := Kd.R_slice HI.acts
    have hu := Tryd.underlying51
    have hne : (mo == 0) = false := by simp; omega
    have w1_ : wrap64 (mo - 1) = (m : Int) := by unfold wrap64; omega
    have w2_ : wrap64 ((ns.length : Int) - mo) = (ns.length : Int) - mo := by unfold wrap64; omega
    have H0 := Aside0.mk HI
    have HX := Aside0.mk hX
    have HOL := Aside0.mk hol
    have HAL := Aside0.mk hal
    have HBT := Aside0.mk hbt
    have HH0 := Aside0.mk h0
    have HNS := Aside0.mk hns
    have HM := Aside0.mk hm
    have HMO := Aside0.mk hmo
    have IH := Aside0.mk ih
    have HI0 := Aside0.mk hi
    have HI2 := Aside0.mk hi2
    have HN := Aside0.mk (show deviation_tables p ns (m + 1) i acts = deviation_rounds (deviation_tables p ns m) ns acts ((ns.length : Int) - mo - i + 1).toNat i by rw [deviation_tables, hmo]; congr 2; push_cast; omega)
    clear HI hX hol hal hbt h0 hns hm hmo ih hi hi2
    have hs3 : ∀ h : 3 < Tryd.prog.types.size, (Tryd.prog.types[3]'h).size = 1 := fun h => by kernel_rfl
    go_enter Tryd.func31, Tryd.ntmps31
    go_wp2
    go_loopw [8] (fun v8 w' => ∃ (j : Int) (vo' : Value) (D : List S39), 0 ≤ j ∧ (j ≤ i ∨ j ≤ (ns.length : Int) - mo + 1) ∧ v8 = .int .i64 j ∧ Aside0 (out ++ deviation_tables p ns (m + 1) i acts = D ++ deviation_rounds (deviation_tables p ns m) ns acts ((ns.length : Int) - mo - (j) + 1).toNat (j)) ∧ Aside0 (AddInv base bt p An cn ns okX (.slice Aa acts.length ca) acts w0 w w' vo.ownBlock vo' D)) (fun v8 _ => ((ns.length : Int) - mo + 1 - intOf v8).toNat)
    case atStart => exact ⟨i, vo, out, HI0.out, .inl (Int.le_refl _), rfl, ⟨by rw [HN.out]⟩, H0⟩
    case round =>
      obtain ⟨j, vo1, D, hj0, hj1, rfl, HT, HI⟩ := hrel
      have HM1 : Aside0 (mo = (m : Int) + 1) := ⟨by have := HMO.out; push_cast at this; exact this⟩
      have hjb : j ≤ 1099511627777 := by have := HNS.out; have := HI2.out; have := HM1.out; omega
      by_cases hle : j ≤ (ns.length : Int) - mo
      · have hd : decide (j ≤ (ns.length : Int) - mo) = true := decide_eq_true hle
        have wj : wrap64 (j + 1) = j + 1 := by unfold wrap64; omega
        have k1 : wr.cell? ⟨bt, 1, none⟩ = some (.slice An ns.length cn) := blk_cell HI.out.blk 1
        have g0 := HI.out.laid 0 (by decide); have g1 := HI.out.laid 1 (by decide); have g2 := HI.out.laid 2 (by decide)
        simp only [show (([1, 2, 3] : List Int).getD 0 0) = 1 from rfl, show (([1, 2, 3] : List Int).getD 1 0) = 2 from rfl, show (([1, 2, 3] : List Int).getD 2 0) = 3 from rfl] at g0 g1 g2
        have HT1 : Aside0 (out ++ deviation_tables p ns (m + 1) i acts = D ++ ((([1, 2, 3] : List Int).drop 0).flatMap (fun h : Int => deviation_tables p ns m (j + 1) (acts ++ [(⟨rd ns j, h⟩ : S51)])) ++ deviation_rounds (deviation_tables p ns m) ns acts ((ns.length : Int) - mo - (j + 1) + 1).toNat (j + 1))) := ⟨by
          have h1 := HT.out
          rw [show ((ns.length : Int) - mo - j + 1).toNat = ((ns.length : Int) - mo - (j + 1) + 1).toNat + 1 by omega, deviation_rounds] at h1
          exact h1⟩
        clear HT
        go_wp2
        (try simp only [w2_])
        go_loopw [42] (fun v42 w' => ∃ (q : Int) (vo' : Value) (D' : List S39), 0 ≤ q ∧ q ≤ 3 ∧ v42 = .int .i64 q ∧ Aside0 (out ++ deviation_tables p ns (m + 1) i acts = D' ++ ((([1, 2, 3] : List Int).drop q.toNat).flatMap (fun h : Int => deviation_tables p ns m (j + 1) (acts ++ [(⟨rd ns j, h⟩ : S51)])) ++ deviation_rounds (deviation_tables p ns m) ns acts ((ns.length : Int) - mo - (j + 1) + 1).toNat (j + 1))) ∧ Aside0 (AddInv base bt p An cn ns okX (.slice Aa acts.length ca) acts w0 w w' vo.ownBlock vo' D')) (fun v42 _ => 3 - (intOf v42).toNat)
        case atStart => exact ⟨0, vo1, D, by omega, by omega, rfl, HT1, HI⟩
        case round =>
        clear HT1 g0 g1 g2 k1 HI
        obtain ⟨q, vo2, D2, hq0, hq1, rfl, HT2, HI⟩ := hrel
        have k1 : wr.cell? ⟨bt, 1, none⟩ = some (.slice An ns.length cn) := blk_cell HI.out.blk 1
        obtain ⟨adn, ean, hxn⟩ := Kd.at_int (Kd.R_reads' HI.out.nums).2.2 j hj0 (by have := HM1.out; omega)
        have hjl : j < (ns.length : Int) := by have := HM1.out; omega
        by_cases hq : q < 3
        · subst ean
          have hq' : q = 0 ∨ q = 1 ∨ q = 2 := by omega
          rcases hq' with rfl | rfl | rfl
          · have ci : (0 : Int) ≤ 0 := by decide
            go_wp2_with (first | ((with_reducible refine gate_dst (N := 44) rfl ?_); refine Kd.event_run (v := .int .i64 1) (w1 := wr) rfl ?hr ?_; (case hr => first | (go_simp; done) | (go_simp; rfl) | (go_simp; kernel_rfl))) | ((with_reducible refine gate_builtin (b := .append) (xs := #[.tmp 46, .tmp 56]) rfl ?_); at_builtin; refine Kd.R_append_keeps k51 (w0 := wr) (W := wr) base rfl (.tmp 46) (.tmp 56) 37 51 (.agg #[(.int .i64 0), (.int .i64 0)]) 16 rfl Tryd.underlying37 info51 rfl (by decide) (by omega) (.slice Aa acts.length ca) acts (⟨rd ns j, 1⟩ : S51) [.int .i64 (rd ns j), .int .i64 1] (fun _ => True) (fun _ => False) rfl rfl (k51_mkM _ _ _ (⟨rd ns j, 1⟩ : S51)) (fun _ hk => hk.elim) (fun _ _ => trivial) HI.out.acts (Below.refl _ _) ?hb ?hl ?_; (case hb => exact Nat.le_trans HBT.out (Nat.le_of_lt (blk_lt HI.out.blk))); (case hl => have := HAL.out; omega); intro v1 w1 ho hk hb hg hat; have E := HI.out.enter HX.out ho (HI.out.below.trans hb) hg hat HH0.out (laid_base HI.out.laid hb HH0.out); obtain ⟨as1, has1⟩ : ∃ l, l = acts ++ [(⟨rd ns j, 1⟩ : S51)] := ⟨_, rfl⟩; rw [← has1] at ho E; obtain ⟨A1, d1, rfl⟩ := Kd.R_slice ho; have HE := Aside0.mk E; have HHO := Aside0.mk ho; have HHK := Aside0.mk hk; have HHG := Aside0.mk hg; have HHT := Aside0.mk hat; have HAS := Aside0.mk has1; clear ho hk hb hg hat E has1) | (go_at_call 31; have hs1 : (0 : Int) ≤ j + 1 := (by omega); have hs2 : m ≤ 1099511627776 := (by have := HM.out; omega); have hs3_ : j + 1 ≤ 1099511627776 := (by have := HNS.out; omega); have hs4 : as1.length + m ≤ 1099511627776 := (by have := HAL.out; rw [HAS.out, List.length_append, List.length_singleton]; omega); have hs5 : (D2 ++ deviation_tables p ns m (j + 1) as1).length ≤ 1099511627776 := (by have h1 := HOL.out; rw [HT2.out] at h1; rw [HAS.out]; first | (simp [List.flatMap] at h1 ⊢; omega) | (simp [List.flatMap] at h1 ⊢; done)); have hc_ := IH.out (m : Int) (j + 1) (fun k => okX k ∧ some k ≠ (Value.slice Aa acts.length ca).ownBlock) (.slice A1 as1.length d1) as1 w0 w1 vo2 D2 rfl hs1 hs2 hs3_ hs4 hs5 HE.out.2 HBT.out HE.out.1; refine hc_.mono ?_; clear hc_; rintro e w2 ⟨vo3, rfl, h2⟩; have HT3 := Aside0.mk HAS.out; have ho_ := HHO.out; have hat_ := HHT.out; rw [HAS.out] at ho_ h2 hat_; have HI3 := Aside0.mk (HI.out.leave HHK.out HHG.out hat_ ho_ h2); clear h2 ho_ hat_; clear hs1 hs2 hs3_ hs4 hs5))
            go_wp2
            go_roundw
            case rel => exact ⟨0 + 1, vo3, D2 ++ deviation_tables p ns m (j + 1) (acts ++ [(⟨rd ns j, 1⟩ : S51)]), by omega, by omega, by first | rfl | go_num, ⟨by rw [HT2.out]; simp [List.flatMap]⟩, HI3⟩
            case measure => simp [intOf] <;> omega
          · have ci : (0 : Int) ≤ 1 := by decide
            go_wp2_with (first | ((with_reducible refine gate_dst (N := 44) rfl ?_); refine Kd.event_run (v := .int .i64 2) (w1 := wr) rfl ?hr ?_; (case hr => first | (go_simp; done) | (go_simp; rfl) | (go_simp; kernel_rfl))) | ((with_reducible refine gate_builtin (b := .append) (xs := #[.tmp 46, .tmp 56]) rfl ?_); at_builtin; refine Kd.R_append_keeps k51 (w0 := wr) (W := wr) base rfl (.tmp 46) (.tmp 56) 37 51 (.agg #[(.int .i64 0), (.int .i64 0)]) 16 rfl Tryd.underlying37 info51 rfl (by decide) (by omega) (.slice Aa acts.length ca) acts (⟨rd ns j, 2⟩ : S51) [.int .i64 (rd ns j), .int .i64 2] (fun _ => True) (fun _ => False) rfl rfl (k51_mkM _ _ _ (⟨rd ns j, 2⟩ : S51)) (fun _ hk => hk.elim) (fun _ _ => trivial) HI.out.acts (Below.refl _ _) ?hb ?hl ?_; (case hb => exact Nat.le_trans HBT.out (Nat.le_of_lt (blk_lt HI.out.blk))); (case hl => have := HAL.out; omega); intro v1 w1 ho hk hb hg hat; have E := HI.out.enter HX.out ho (HI.out.below.trans hb) hg hat HH0.out (laid_base HI.out.laid hb HH0.out); obtain ⟨as1, has1⟩ : ∃ l, l = acts ++ [(⟨rd ns j, 2⟩ : S51)] := ⟨_, rfl⟩; rw [← has1] at ho E; obtain ⟨A1, d1, rfl⟩ := Kd.R_slice ho; have HE := Aside0.mk E; have HHO := Aside0.mk ho; have HHK := Aside0.mk hk; have HHG := Aside0.mk hg; have HHT := Aside0.mk hat; have HAS := Aside0.mk has1; clear ho hk hb hg hat E has1) | (go_at_call 31; have hs1 : (0 : Int) ≤ j + 1 := (by omega); have hs2 : m ≤ 1099511627776 := (by have := HM.out; omega); have hs3_ : j + 1 ≤ 1099511627776 := (by have := HNS.out; omega); have hs4 : as1.length + m ≤ 1099511627776 := (by have := HAL.out; rw [HAS.out, List.length_append, List.length_singleton]; omega); have hs5 : (D2 ++ deviation_tables p ns m (j + 1) as1).length ≤ 1099511627776 := (by have h1 := HOL.out; rw [HT2.out] at h1; rw [HAS.out]; first | (simp [List.flatMap] at h1 ⊢; omega) | (simp [List.flatMap] at h1 ⊢; done)); have hc_ := IH.out (m : Int) (j + 1) (fun k => okX k ∧ some k ≠ (Value.slice Aa acts.length ca).ownBlock) (.slice A1 as1.length d1) as1 w0 w1 vo2 D2 rfl hs1 hs2 hs3_ hs4 hs5 HE.out.2 HBT.out HE.out.1; refine hc_.mono ?_; clear hc_; rintro e w2 ⟨vo3, rfl, h2⟩; have HT3 := Aside0.mk HAS.out; have ho_ := HHO.out; have hat_ := HHT.out; rw [HAS.out] at ho_ h2 hat_; have HI3 := Aside0.mk (HI.out.leave HHK.out HHG.out hat_ ho_ h2); clear h2 ho_ hat_; clear hs1 hs2 hs3_ hs4 hs5))
            go_wp2
            go_roundw
            case rel => exact ⟨1 + 1, vo3, D2 ++ deviation_tables p ns m (j + 1) (acts ++ [(⟨rd ns j, 2⟩ : S51)]), by omega, by omega, by first | rfl | go_num, ⟨by rw [HT2.out]; simp [List.flatMap]⟩, HI3⟩
            case measure => simp [intOf] <;> omega
          · have ci : (0 : Int) ≤ 2 := by decide
            go_wp2_with (first | ((with_reducible refine gate_dst (N := 44) rfl ?_); refine Kd.event_run (v := .int .i64 3) (w1 := wr) rfl ?hr ?_; (case hr => first | (go_simp; done) | (go_simp; rfl) | (go_simp; kernel_rfl))) | ((with_reducible refine gate_builtin (b := .append) (xs := #[.tmp 46, .tmp 56]) rfl ?_); at_builtin; refine Kd.R_append_keeps k51 (w0 := wr) (W := wr) base rfl (.tmp 46) (.tmp 56) 37 51 (.agg #[(.int .i64 0), (.int .i64 0)]) 16 rfl Tryd.underlying37 info51 rfl (by decide) (by omega) (.slice Aa acts.length ca) acts (⟨rd ns j, 3⟩ : S51) [.int .i64 (rd ns j), .int .i64 3] (fun _ => True) (fun _ => False) rfl rfl (k51_mkM _ _ _ (⟨rd ns j, 3⟩ : S51)) (fun _ hk => hk.elim) (fun _ _ => trivial) HI.out.acts (Below.refl _ _) ?hb ?hl ?_; (case hb => exact Nat.le_trans HBT.out (Nat.le_of_lt (blk_lt HI.out.blk))); (case hl => have := HAL.out; omega); intro v1 w1 ho hk hb hg hat; have E := HI.out.enter HX.out ho (HI.out.below.trans hb) hg hat HH0.out (laid_base HI.out.laid hb HH0.out); obtain ⟨as1, has1⟩ : ∃ l, l = acts ++ [(⟨rd ns j, 3⟩ : S51)] := ⟨_, rfl⟩; rw [← has1] at ho E; obtain ⟨A1, d1, rfl⟩ := Kd.R_slice ho; have HE := Aside0.mk E; have HHO := Aside0.mk ho; have HHK := Aside0.mk hk; have HHG := Aside0.mk hg; have HHT := Aside0.mk hat; have HAS := Aside0.mk has1; clear ho hk hb hg hat E has1) | (go_at_call 31; have hs1 : (0 : Int) ≤ j + 1 := (by omega); have hs2 : m ≤ 1099511627776 := (by have := HM.out; omega); have hs3_ : j + 1 ≤ 1099511627776 := (by have := HNS.out; omega); have hs4 : as1.length + m ≤ 1099511627776 := (by have := HAL.out; rw [HAS.out, List.length_append, List.length_singleton]; omega); have hs5 : (D2 ++ deviation_tables p ns m (j + 1) as1).length ≤ 1099511627776 := (by have h1 := HOL.out; rw [HT2.out] at h1; rw [HAS.out]; first | (simp [List.flatMap] at h1 ⊢; omega) | (simp [List.flatMap] at h1 ⊢; done)); have hc_ := IH.out (m : Int) (j + 1) (fun k => okX k ∧ some k ≠ (Value.slice Aa acts.length ca).ownBlock) (.slice A1 as1.length d1) as1 w0 w1 vo2 D2 rfl hs1 hs2 hs3_ hs4 hs5 HE.out.2 HBT.out HE.out.1; refine hc_.mono ?_; clear hc_; rintro e w2 ⟨vo3, rfl, h2⟩; have HT3 := Aside0.mk HAS.out; have ho_ := HHO.out; have hat_ := HHT.out; rw [HAS.out] at ho_ h2 hat_; have HI3 := Aside0.mk (HI.out.leave HHK.out HHG.out hat_ ho_ h2); clear h2 ho_ hat_; clear hs1 hs2 hs3_ hs4 hs5))
            go_wp2
            go_roundw
            case rel => exact ⟨2 + 1, vo3, D2 ++ deviation_tables p ns m (j + 1) (acts ++ [(⟨rd ns j, 3⟩ : S51)]), by omega, by omega, by first | rfl | go_num, ⟨by rw [HT2.out]; simp [List.flatMap]⟩, HI3⟩
            case measure => simp [intOf] <;> omega
        · obtain rfl : q = 3 := by omega
          go_wp2
          go_roundw
          case rel => exact ⟨j + 1, vo2, D2, by omega, .inr (by omega), by first | rfl | go_num, ⟨by have h1 := HT2.out; exact h1⟩, HI⟩
          case measure => simp [intOf] <;> omega
      · have hd : decide (j ≤ (ns.length : Int) - mo) = false := decide_eq_false hle
        have k1 : wr.cell? ⟨bt, 1, none⟩ = some (.slice An ns.length cn) := blk_cell HI.out.blk 1
        go_wp2
        (try simp only [Exit.inBlock, Exit.then])
        first | (refine bodyPost_ret (results_none rfl _ _ _) rfl ?_) | (refine bodyPost_end (results_none rfl _ _ _) rfl ?_)
        have h1 := HT.out
        rw [show ((ns.length : Int) - mo - j + 1).toNat = 0 by omega, deviation_rounds, List.append_nil] at h1
        rw [h1]
        first | exact ⟨rfl, _, HI.out⟩ | exact ⟨_, rfl, HI.out⟩
def deviation_upto (p : Int) (ns : List Int) : Nat → List S39
  | 0 => []
  | n + 1 => deviation_upto p ns n ++ deviation_tables p ns n 0 []
def deviation_All.f (k : Nat) (l0 : List S56) (a1 : Int) (a2 : Int) : Option ((List S39) × Int) :=
  if a2 < 0 ∨ a1 < 1 ∨ 16 < a1 then some ([], 1) else
    (duty_Of.f k l0 a1).bind fun ns => (deviation_Count.f k (ns.length : Int) a2).bind fun c =>
      if c.2 = false then some ([], 4) else
        if ns.length ≤ 1000000000 ∧ (deviation_upto a1 ns ((min a2 (ns.length : Int)) + 1).toNat).length ≤ 1000000000 then some (deviation_upto a1 ns ((min a2 (ns.length : Int)) + 1).toNat, 0) else none
theorem deviation_All.mono : ∀ a0 a1 a2 k, LeO (deviation_All.f k a0 a1 a2) (deviation_All.f (k + 1) a0 a1 a2) := by
  intro a0 a1 a2 k
  unfold deviation_All.f
  exact LeO.ite (LeO.refl _) (LeO.bind (duty_Of.mono _ _ _) (fun _ => LeO.bind (deviation_Count.mono _ _ _) (fun _ => LeO.refl _)))
theorem deviation_upto_le (p : Int) (ns : List Int) : ∀ (n m : Nat), m < n → (deviation_upto p ns m ++ deviation_tables p ns m 0 []).length ≤ (deviation_upto p ns n).length
  | 0, _, h => absurd h (by omega)
  | n + 1, m, h => by
    rcases Nat.lt_or_ge m n with h1 | h1
    · exact Nat.le_trans (deviation_upto_le p ns n m h1) (by rw [deviation_upto, List.length_append]; omega)
    · obtain rfl : m = n := by omega
      exact Nat.le_refl _
set_option maxHeartbeats 8000000 in
set_option maxRecDepth 100000 in
theorem deviation_All.calls (k : Nat) (A0 : Option Addr) (c0 : Nat) (l0 : List S56) (a1 : Int) (a2 : Int) (r1 : List S39) (r2 : Int) (w : World) (hr0 : Kd.C k56 w A0 l0.length l0) (hc0 : l0.length ≤ c0) (h : deviation_All.f k l0 a1 a2 = some (r1, r2)) (hL_ : Laid w) :
    Calls Tryd.prog 12 #[.slice A0 l0.length c0, .int .i64 a1, .int .i64 a2] w fun e w' => ∃ v0_ : Value, e = .returned (.tuple #[v0_, .int .i64 r2]) ∧ Kd.S k39 39 w' w.heap.size (fun _ => True) v0_ r1 ∧ Below w.heap.size w w' := by
  have HR0 := Aside0.mk hr0
  have HC0 := Aside0.mk hc0
  have HL_ := Aside0.mk hL_
  have H0 := Aside0.mk (show 0 < w.heap.size from World.block_lt_of_cell? w ⟨0, 0, none⟩ (hL_ 0 (by decide)))
  clear hr0 hc0 hL_
  unfold deviation_All.f at h
  have fin : ∀ a b : Bool, (decide (a2 < 0) = true ∨ (decide (a2 < 0) = false ∧ decide (a1 < 1) = true) ∨ (decide (a2 < 0) = false ∧ decide (a1 < 1) = false ∧ decide (16 < a1) = true)) → r1 = [] → r2 = 1 → Calls Tryd.prog 12 #[.slice A0 l0.length c0, .int .i64 a1, .int .i64 a2] w fun e w' => ∃ v0_ : Value, e = .returned (.tuple #[v0_, .int .i64 r2]) ∧ Kd.S k39 39 w' w.heap.size (fun _ => True) v0_ r1 ∧ Below w.heap.size w w' := by
    rintro _ _ (h1 | ⟨h1, h2⟩ | ⟨h1, h2, h3⟩) e1 e2 <;> subst e1 <;> subst e2 <;> clear h <;>
    · go_enter Tryd.func12, Tryd.ntmps12
      go_wp2
      go_ret2
      exact ⟨_, rfl, Kd.S_nil _ _ _ _ _, Below.refl _ _⟩
  by_cases c1 : a2 < 0 ∨ a1 < 1 ∨ 16 < a1
  · rw [if_pos c1] at h
    simp only [Option.some.injEq, Prod.mk.injEq] at h
    refine fin true true ?_ h.1.symm h.2.symm
    simp only [decide_eq_true_eq, decide_eq_false_iff_not]
    omega
  · rw [if_neg c1] at h
    clear fin
    have d1 : decide (a2 < 0) = false := decide_eq_false (by omega)
    have d2 : decide (a1 < 1) = false := decide_eq_false (by omega)
    have d3 : decide (16 < a1) = false := decide_eq_false (by omega)
    have C2 := Aside0.mk (show 0 ≤ a2 by omega)
    clear c1
    obtain ⟨ns, hof, h⟩ := Option.bind_eq_some_iff.mp h
    obtain ⟨⟨cnt, okc⟩, hcn, h⟩ := Option.bind_eq_some_iff.mp h
    have HOF := Aside0.mk hof
    have HCN := Aside0.mk hcn
    clear hof hcn
    simp only at h
    cases okc with
    | false =>
      simp only [if_true, Option.some.injEq, Prod.mk.injEq] at h
      obtain ⟨rfl, rfl⟩ := h
      go_enter Tryd.func12, Tryd.ntmps12
      go_wp2_with (first | (go_at_call 30; refine (duty_Of.calls k A0 c0 l0 a1 ns _ HR0.out HC0.out HOF.out).mono ?_; rintro e w1 ⟨v1, rfl, ho, hb⟩; obtain ⟨An, cn, rfl⟩ := Kd.R_slice ho; have HO1 := Aside0.mk ho; have HB1 := Aside0.mk hb; clear ho hb) | ((with_reducible refine gate_dst (N := 27) rfl ?_); refine box_event ?hg (N := 27) ?hd (cs := #[.int .i64 a1, .slice An ns.length cn, .slice none 0 0]) (t := 67) ?hr ?_; (case hd => rfl); (case hg => rfl); (case hr => first | (go_simp; done) | (go_simp; rfl)); intro gb hg w2 hbox hb2; have m1 : w2.cell? ⟨gb, 1, none⟩ = some (.slice An ns.length cn) := blk_cell hbox 1; have HB2 := Aside0.mk (HB1.out.trans (hb2.mono HB1.out.size)); have HG2 := Aside0.mk hbox; clear hb2 hg hbox) | (go_at_call 15; refine (deviation_Count.calls k (ns.length : Int) a2 cnt false _ HCN.out).mono ?_; rintro e w3 ⟨rfl, hb3⟩; have HB3 := Aside0.mk (HB2.out.trans (hb3.mono HB2.out.size)); clear hb3))
      all_goals (try go_wp2)
      go_ret2
      exact ⟨_, rfl, Kd.S_nil _ _ _ _ _, HB3.out⟩
    | true =>
      simp only [Bool.true_eq_false, if_false] at h
      split at h
      · rename_i hsz
        simp only [Option.some.injEq, Prod.mk.injEq] at h
        obtain ⟨rfl, rfl⟩ := h
        have HSZ := Aside0.mk hsz
        obtain ⟨N, hN⟩ : ∃ N : Int, N = min a2 (ns.length : Int) + 1 := ⟨_, rfl⟩
        have HN := Aside0.mk hN
        have HN1 := Aside0.mk (show 0 < N ∧ N ≤ ns.length + 1 by have := C2.out; omega)
        clear hsz hN
        go_enter Tryd.func12, Tryd.ntmps12
        go_wp2_with (first | (go_at_call 30; refine (duty_Of.calls k A0 c0 l0 a1 ns _ HR0.out HC0.out HOF.out).mono ?_; rintro e w1 ⟨v1, rfl, ho, hb⟩; obtain ⟨An, cn, rfl⟩ := Kd.R_slice ho; have HO1 := Aside0.mk ho; have HB1 := Aside0.mk hb; clear ho hb) | ((with_reducible refine gate_dst (N := 27) rfl ?_); refine box_event ?hg (N := 27) ?hd (cs := #[.int .i64 a1, .slice An ns.length cn, .slice none 0 0]) (t := 67) ?hr ?_; (case hd => rfl); (case hg => rfl); (case hr => first | (go_simp; done) | (go_simp; rfl)); intro gb hg w2 hbox hb2; have m1 : w2.cell? ⟨gb, 1, none⟩ = some (.slice An ns.length cn) := blk_cell hbox 1; have HB2 := Aside0.mk (HB1.out.trans (hb2.mono HB1.out.size)); have HO2 := Aside0.mk (Kd.R_below HO1.out hb2); have HG2 := Aside0.mk hbox; have HGB := Aside0.mk (show w.heap.size ≤ gb by rw [hg]; exact HB1.out.size); clear hb2 hg hbox) | (go_at_call 15; refine (deviation_Count.calls k (ns.length : Int) a2 cnt true _ HCN.out).mono ?_; rintro e w3 ⟨rfl, hb3⟩; have HB3 := Aside0.mk (HB2.out.trans (hb3.mono HB2.out.size)); have hg3 := (hb3.block gb (blk_lt HG2.out)).trans HG2.out; have m1 : w3.cell? ⟨gb, 1, none⟩ = some (.slice An ns.length cn) := blk_cell hg3 1; have HI := Aside0.mk (show AddInv w.heap.size gb a1 An cn ns (fun _ => True) (.slice none 0 0) [] w w3 w3 (Value.slice none 0 0).ownBlock (.slice none 0 0) [] from ⟨hg3, Kd.R_below HO2.out hb3, Kd.S_nil _ _ _ _ _, Kd.R_nil _ _ _ _ _, HB3.out, laid_base HL_.out HB3.out H0.out, Nat.le_refl _, .inl rfl, fun _ _ _ _ _ => rfl⟩); clear hb3 hg3))
        all_goals (try go_wp2)
        all_goals (
          first
            | (rw [show wrap64 (a2 + 1) = N by (have := HN.out; have := C2.out; have := HSZ.out.1; unfold wrap64; omega)])
            | (rw [show wrap64 ((ns.length : Int) + 1) = N by (have := HN.out; have := C2.out; have := HSZ.out.1; unfold wrap64; omega)])
            | skip
          go_loopw [48] (fun v48 w' => ∃ (q : Int) (vo : Value) (D : List S39), 0 ≤ q ∧ q ≤ N ∧ v48 = .int .i64 q ∧ Aside0 (D = deviation_upto a1 ns q.toNat) ∧ Aside0 (AddInv w.heap.size gb a1 An cn ns (fun _ => True) (.slice none 0 0) [] w w' w' vo.ownBlock vo D)) (fun v48 _ => (N - intOf v48).toNat)
          case atStart => exact ⟨0, _, _, by omega, by have := HN1.out; omega, rfl, ⟨rfl⟩, HI⟩
          case round =>
            clear m1 HI
            obtain ⟨q, vo, D, hq0, hq1, rfl, HD, HI⟩ := hrel
            by_cases hq : q < N
            · have hd : decide (q < N) = true := decide_eq_true hq
              have wq : wrap64 (q + 1) = q + 1 := by have := HN1.out; have := HSZ.out.1; unfold wrap64; omega
              go_wp2_with (first | (go_at_call 31; have hle := deviation_upto_le a1 ns N.toNat q.toNat (by omega); have hs := HSZ.out.2; rw [← HN.out] at hs; have hl : (D ++ deviation_tables a1 ns q.toNat 0 []).length ≤ 1099511627776 := (by rw [HD.out]; omega); refine (deviation_add w.heap.size gb cn a1 An ns H0.out (by have := HSZ.out.1; omega) q.toNat q 0 (fun _ => True) (.slice none 0 0) [] w wr vo D (by omega) (by omega) (by have := HSZ.out.1; have := HN1.out; omega) (by omega) (by have := HSZ.out.1; have := HN1.out; simp; omega) hl (fun _ _ => trivial) HGB.out HI.out).mono ?_; rintro e w5 ⟨vo5, rfl, hI⟩; have HI5 := Aside0.mk hI.start; clear hle hs hl hI))
              all_goals (try go_wp2)
              go_roundw
              case rel => exact ⟨q + 1, vo5, _, by omega, by omega, by first | rfl | go_num, ⟨by rw [show (q + 1).toNat = q.toNat + 1 by omega, deviation_upto, HD.out]⟩, HI5⟩
              case measure => simp [intOf] <;> omega
            · have hd : decide (q < N) = false := decide_eq_false hq
              obtain ⟨Ao, co, rfl⟩ := Kd.S_slice HI.out.out
              have m2 : wr.cell? ⟨gb, 2, none⟩ = some (.slice Ao D.length co) := blk_cell HI.out.blk 2
              go_wp2
              go_ret2
              have h1 := HD.out
              rw [show q = N by omega, HN.out] at h1
              exact ⟨_, rfl, h1 ▸ Kd.S_mono HI.out.out (fun _ _ => trivial), HI.out.below⟩)
      · cases h

-- NOT PRINTED: function 42 (api_Act_42)

-- NOT PRINTED: function 35 (api_Act_35)

-- NOT PRINTED: function 36 (deviation_Twists_1)

/-! ### deviation_Twists: function 22 -/
def deviation_twist (l : List S56) (a : S51) : Bool := a.f1 == 3 && (!decide (a.f0 < 0) && (!decide ((l.length : Int) ≤ a.f0) && ((rd_T56 l a.f0).f3 == 2 || ((rd_T56 l a.f0).f3 == 3 || (rd_T56 l a.f0).f3 == 4))))
set_option maxHeartbeats 4000000 in
theorem deviation_at_twist (A0 : Option Addr) (c0 : Nat) (l0 : List S56) (g : Nat) (x : S51) (w : World) (hr0 : Kd.C k56 w A0 l0.length l0) (hg : w.cell? ⟨g, 0, none⟩ = some (.slice A0 l0.length c0)) :
    Calls Tryd.prog 36 #[.agg #[.int .i64 x.f0, .int .i64 x.f1], .pointer (some ⟨g, 0, none⟩)] w fun e w' => e = .returned (.bool (deviation_twist l0 x)) ∧ Below w.heap.size w w' := by
  have hg' := pw_cell_below (below_alloc (Below.refl w.heap.size w) (.cells #[.int .i64 x.f0, .int .i64 x.f1] 51)) hg
  have HR := Aside0.mk (Kd.C_below hr0 (below_alloc (Below.refl w.heap.size w) (.cells #[.int .i64 x.f0, .int .i64 x.f1] 51)))
  unfold deviation_twist
  cases h3 : x.f1 == 3
  · have hn3 : (x.f1 != 3) = true := by simp only [bne, h3]; rfl
    clear hr0
    go_enter Tryd.func36, Tryd.ntmps36
    go_wp2
    go_ret
    exact ⟨rfl, below_alloc (Below.refl _ _) _⟩
  · have hn3 : (x.f1 != 3) = false := by simp only [bne, h3]; rfl
    cases d0 : decide (x.f0 < 0)
    · cases d1 : decide ((l0.length : Int) ≤ x.f0)
      · have e0 := of_decide_eq_false d0
        have e1 := of_decide_eq_false d1
        obtain ⟨ad, ea, q0, q1, q2, q3⟩ := at_T56 HR.out x.f0 (by omega) (by omega)
        subst ea
        have i0 : (0 ≤ x.f0) = True := eq_true (by omega)
        have i1 : (x.f0 < (l0.length : Int)) = True := eq_true (by omega)
        obtain ⟨kd, hkd⟩ : ∃ kd, kd = (rd_T56 l0 x.f0).f3 := ⟨_, rfl⟩
        rw [← hkd] at q3 ⊢
        clear hr0 e0 e1 hkd q0 q1 q2
        cases k2 : kd == 2 <;> cases k3 : kd == 3 <;> cases k4 : kd == 4 <;>
        · go_enter Tryd.func36, Tryd.ntmps36
          go_wp2
          go_ret
          exact ⟨rfl, below_alloc (Below.refl _ _) _⟩
      · clear hr0
        go_enter Tryd.func36, Tryd.ntmps36
        go_wp2
        go_ret
        exact ⟨rfl, below_alloc (Below.refl _ _) _⟩
    · clear hr0
      go_enter Tryd.func36, Tryd.ntmps36
      go_wp2
      go_ret
      exact ⟨rfl, below_alloc (Below.refl _ _) _⟩
set_option maxHeartbeats 4000000 in
set_option maxRecDepth 100000 in
theorem deviation_twist_index (A0 : Option Addr) (c0 : Nat) (l0 : List S56) (g : Nat) (A1 : Option Addr) (c1 : Nat) (l1 : List S51) (w : World) (hr0 : Kd.C k56 w A0 l0.length l0) (hg : w.cell? ⟨g, 0, none⟩ = some (.slice A0 l0.length c0)) (hr1 : Kd.C k51 w A1 l1.length l1) (hl : l1.length < 1099511627776) :
    Calls Tryd.prog 42 #[.slice A1 l1.length c1, .func (.func 36) #[] #[.pointer (some ⟨g, 0, none⟩)]] w fun e w' => ∃ r : Int, e = .returned (.int .i64 r) ∧ decide (0 ≤ r) = l1.any (deviation_twist l0) ∧ Below w.heap.size w w' := by
  have hu := Tryd.underlying51
  have HR0 := Aside0.mk hr0
  have HG := Aside0.mk hg
  have HR1 := Aside0.mk hr1
  have HL := Aside0.mk hl
  clear hr0 hg hr1 hl
  go_enter Tryd.func42, Tryd.ntmps42
  go_wp2
  go_loopw [8] (fun v8 w' => ∃ i : Int, 0 ≤ i ∧ i ≤ l1.length ∧ v8 = .int .i64 i ∧ Aside0 ((l1.take i.toNat).any (deviation_twist l0) = false) ∧ Aside0 (Below w.heap.size w w')) (fun v8 _ => l1.length - (intOf v8).toNat)
  case atStart => exact ⟨0, by omega, by omega, rfl, ⟨rfl⟩, ⟨Below.refl _ _⟩⟩
  case round =>
    obtain ⟨i, hi0, hi, rfl, HA, HB⟩ := hrel
    by_cases hlt : i < (l1.length : Int)
    · obtain ⟨ad, e0, q0, q1⟩ := at_T51 (Kd.C_below HR1.out HB.out) i hi0 hlt
      subst e0
      obtain ⟨x, hx⟩ : ∃ x, x = rd_T51 l1 i := ⟨_, rfl⟩
      rw [← hx] at q0 q1
      have HX := Aside0.mk hx
      clear hx
      have wi : wrap64 (i + 1) = i + 1 := by have := HL.out; unfold wrap64; omega
      have HT : Aside0 ((l1.take (i + 1).toNat).any (deviation_twist l0) = ((l1.take i.toNat).any (deviation_twist l0) || deviation_twist l0 x)) := ⟨by
        have e : (i + 1).toNat = i.toNat + 1 := by omega
        rw [e, List.take_succ_eq_append_getElem (by omega), List.any_append, HX.out]
        simp [rd_T51, List.getD_eq_getElem?_getD, List.getElem?_eq_getElem (show i.toNat < l1.length by omega)]⟩
      cases hp : deviation_twist l0 x
      · go_wp2_with (first | (go_at_call 36; refine (deviation_at_twist A0 c0 l0 g x _ (Kd.C_below HR0.out HB.out) (pw_cell_below HB.out HG.out)).mono ?_; rintro e w2 ⟨rfl, hb⟩; have HB2 := Aside0.mk (below_step HB.out hb); clear hb; rw [hp]))
        all_goals (try go_wp2)
        go_roundw
        case rel => exact ⟨i + 1, by omega, by omega, by first | rfl | go_num, ⟨by rw [HT.out, HA.out, hp]; rfl⟩, HB2⟩
        case measure => simp [intOf] <;> omega
      · go_wp2_with (first | (go_at_call 36; refine (deviation_at_twist A0 c0 l0 g x _ (Kd.C_below HR0.out HB.out) (pw_cell_below HB.out HG.out)).mono ?_; rintro e w2 ⟨rfl, hb⟩; have HB2 := Aside0.mk (below_step HB.out hb); clear hb; rw [hp]))
        all_goals (try go_wp2)
        go_ret
        refine ⟨i, rfl, ?_, HB2.out⟩
        rw [decide_eq_true hi0]
        have h1 : (l1.take (i + 1).toNat).any (deviation_twist l0) = true := by rw [HT.out, hp, Bool.or_true]
        obtain ⟨y, hy, hz⟩ := List.any_eq_true.mp h1
        exact (List.any_eq_true.mpr ⟨y, List.mem_of_mem_take hy, hz⟩).symm
    · go_wp2
      go_ret
      have h1 := HA.out
      rw [List.take_of_length_le (by omega)] at h1
      exact ⟨-1, rfl, by rw [h1]; rfl, HB.out⟩
set_option maxHeartbeats 4000000 in
theorem deviation_twist_contains (A0 : Option Addr) (c0 : Nat) (l0 : List S56) (g : Nat) (A1 : Option Addr) (c1 : Nat) (l1 : List S51) (w : World) (hr0 : Kd.C k56 w A0 l0.length l0) (hg : w.cell? ⟨g, 0, none⟩ = some (.slice A0 l0.length c0)) (hr1 : Kd.C k51 w A1 l1.length l1) (hl : l1.length < 1099511627776) :
    Calls Tryd.prog 35 #[.slice A1 l1.length c1, .func (.func 36) #[] #[.pointer (some ⟨g, 0, none⟩)]] w fun e w' => e = .returned (.bool (l1.any (deviation_twist l0))) ∧ Below w.heap.size w w' := by
  go_enter Tryd.func35, Tryd.ntmps35
  go_wp2_with (first | (go_at_call 42; refine (deviation_twist_index A0 c0 l0 g A1 c1 l1 _ hr0 hg hr1 hl).mono ?_; rintro e w2 ⟨r, rfl, hd, hb⟩))
  all_goals (try go_wp2)
  go_ret
  exact ⟨rfl, hb⟩
def deviation_Twists.f (l0 : List S56) (a1_0 : Int) (l1_1 : List S51) : Option Bool := if l1_1.length < 1099511627776 then some (l1_1.any (deviation_twist l0)) else none
set_option maxHeartbeats 4000000 in
theorem deviation_Twists.calls (A0 : Option Addr) (c0 : Nat) (l0 : List S56) (a1_0 : Int) (A1_1 : Option Addr) (c1_1 : Nat) (l1_1 : List S51) (r : Bool) (w : World) (hr0 : Kd.C k56 w A0 l0.length l0) (hc0 : l0.length ≤ c0) (hr1_1 : Kd.C k51 w A1_1 l1_1.length l1_1) (hc1_1 : l1_1.length ≤ c1_1) (h : deviation_Twists.f l0 a1_0 l1_1 = some r) :
    Calls Tryd.prog 22 #[.slice A0 l0.length c0, .agg #[.int .i64 a1_0, .slice A1_1 l1_1.length c1_1]] w fun e w' => e = .returned (.bool r) ∧ Below w.heap.size w w' := by
  unfold deviation_Twists.f at h
  split at h
  · rename_i hl
    obtain rfl := Option.some.inj h
    have HB := Aside0.mk (below_alloc (below_alloc (Below.refl w.heap.size w) (.cells #[.slice A0 l0.length c0] 23)) (.cells #[.int .i64 a1_0, .slice A1_1 l1_1.length c1_1] 39))
    have HR0 := Aside0.mk hr0
    have HR1 := Aside0.mk hr1_1
    have HL := Aside0.mk hl
    clear hr0 hc0 hr1_1 hc1_1 h hl
    go_enter Tryd.func22, Tryd.ntmps22
    go_wp2_with (first | (go_at_call 35; refine (deviation_twist_contains A0 c0 l0 w.heap.size A1_1 c1_1 l1_1 _ (Kd.C_below HR0.out HB.out) (by go_simp) (Kd.C_below HR1.out HB.out) HL.out).mono ?_; rintro e w2 ⟨rfl, hb⟩; have HB2 := Aside0.mk (below_step HB.out hb); clear hb))
    all_goals (try go_wp2)
    go_ret
    exact ⟨rfl, HB2.out⟩
  · cases h

end Go.Proofs.YtdflpnfceajomaaDoor.PDeviationSteps
