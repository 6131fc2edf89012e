-- Written by a program of this repository (wip/tools/myprint.py over the print of the kit): contracts and rows.
import Derived.Test.YtepffabkcbfejaaPEndingAllx0
import Derived.Test.YtepffabkcbfejaaPEndingAllx1
namespace Go.Proofs.Ytepffabkcbfejaa.PEndingAll
open Go.RowKit Go.Proofs.YtepffabkcbfejaaW.PrintWords Go.Proofs.YtepffabkcbfejaaW.PrintLast Go.Proofs.YtepffabkcbfejaaW.PrintMore
attribute [local go_sem] max2_int min2_int max_two min_two max_three min_three max_four min_four   -- for this text's walks alone
set_option linter.unusedVariables false
set_option linter.unusedSimpArgs false

attribute [local go_sem high] eqA44
/-! ### storagebarterlaw26_again: function 24 -/
mutual
def storagebarterlaw26_again.l0 : Nat → List (S44) → List (List (S44)) → Int → List (List (S44)) → Int → Int → Option (Bool)
  | 0, _, _, _, _, _, _ => none
  | k + 1, x0, x1, x5, x18, x19, x20 => if x20 < x19 then (if 0 ≤ x20 then (if x20 < (x18.length : Int) then (storagebarterlaw26_again.l0 k x0 x1 (wrap64 (x5 + ((rd_L3 x18 x20).length : Int))) x18 x19 (wrap64 (x20 + 1))) else (none)) else (none)) else (if x5 = (x0.length : Int) then (storagebarterlaw26_again.l1 k x0 x1 x0 (x0.length : Int) 0) else (some false))
def storagebarterlaw26_again.l1 : Nat → List (S44) → List (List (S44)) → List (S44) → Int → Int → Option (Bool)
  | 0, _, _, _, _, _ => none
  | k + 1, x0, x1, x33, x34, x35 => if x35 < x34 then (if 0 ≤ x35 then (if x35 < (x33.length : Int) then (storagebarterlaw26_again.l2 k x0 x1 0 0 x33 x34 x35 x0 (x0.length : Int) 0 ((rd_T44 x33 x35).f0) ((rd_T44 x33 x35).f1) ((rd_T44 x33 x35).f2) ((rd_T44 x33 x35).f3) ((rd_T44 x33 x35).f4) ((rd_T44 x33 x35).f5) ((rd_T44 x33 x35).f6) ((rd_T44 x33 x35).f7)) else (none)) else (none)) else (some true)
def storagebarterlaw26_again.l2 : Nat → List (S44) → List (List (S44)) → Int → Int → List (S44) → Int → Int → List (S44) → Int → Int → Int → Int → Int → Int → Int → Int → Int → Bool → Option (Bool)
  | 0, _, _, _, _, _, _, _, _, _, _, _, _, _, _, _, _, _, _ => none
  | k + 1, x0, x1, x10, x11, x33, x34, x35, x39, x40, x41, x137000, x137001, x137002, x137003, x137004, x137005, x137006, x137007 => if x41 < x40 then (if 0 ≤ x41 then (if x41 < (x39.length : Int) then (if (x137000 == ((rd_T44 x39 x41).f0) && (x137001 == ((rd_T44 x39 x41).f1) && (x137002 == ((rd_T44 x39 x41).f2) && (x137003 == ((rd_T44 x39 x41).f3) && (x137004 == ((rd_T44 x39 x41).f4) && (x137005 == ((rd_T44 x39 x41).f5) && (x137006 == ((rd_T44 x39 x41).f6) && (x137007 == ((rd_T44 x39 x41).f7))))))))) = true then (storagebarterlaw26_again.l2 k x0 x1 x10 (wrap64 (x11 + 1)) x33 x34 x35 x39 x40 (wrap64 (x41 + 1)) x137000 x137001 x137002 x137003 x137004 x137005 x137006 x137007) else (storagebarterlaw26_again.l2 k x0 x1 x10 x11 x33 x34 x35 x39 x40 (wrap64 (x41 + 1)) x137000 x137001 x137002 x137003 x137004 x137005 x137006 x137007)) else (none)) else (none)) else (storagebarterlaw26_again.l3 k x0 x1 x10 x11 x33 x34 x35 x1 (x1.length : Int) 0 x137000 x137001 x137002 x137003 x137004 x137005 x137006 x137007)
def storagebarterlaw26_again.l3 : Nat → List (S44) → List (List (S44)) → Int → Int → List (S44) → Int → Int → List (List (S44)) → Int → Int → Int → Int → Int → Int → Int → Int → Int → Bool → Option (Bool)
  | 0, _, _, _, _, _, _, _, _, _, _, _, _, _, _, _, _, _, _ => none
  | k + 1, x0, x1, x10, x11, x33, x34, x35, x51, x52, x53, x137000, x137001, x137002, x137003, x137004, x137005, x137006, x137007 => if x53 < x52 then (if 0 ≤ x53 then (if x53 < (x51.length : Int) then (storagebarterlaw26_again.l4 k x0 x1 x10 x11 x33 x34 x35 x51 x52 x53 (rd_L3 x51 x53) ((rd_L3 x51 x53).length : Int) 0 x137000 x137001 x137002 x137003 x137004 x137005 x137006 x137007) else (none)) else (none)) else (if x10 = x11 then (storagebarterlaw26_again.l1 k x0 x1 x33 x34 (wrap64 (x35 + 1))) else (some false))
def storagebarterlaw26_again.l4 : Nat → List (S44) → List (List (S44)) → Int → Int → List (S44) → Int → Int → List (List (S44)) → Int → Int → List (S44) → Int → Int → Int → Int → Int → Int → Int → Int → Int → Bool → Option (Bool)
  | 0, _, _, _, _, _, _, _, _, _, _, _, _, _, _, _, _, _, _, _, _, _ => none
  | k + 1, x0, x1, x10, x11, x33, x34, x35, x51, x52, x53, x57, x58, x59, x137000, x137001, x137002, x137003, x137004, x137005, x137006, x137007 => if x59 < x58 then (if 0 ≤ x59 then (if x59 < (x57.length : Int) then (if (x137000 == ((rd_T44 x57 x59).f0) && (x137001 == ((rd_T44 x57 x59).f1) && (x137002 == ((rd_T44 x57 x59).f2) && (x137003 == ((rd_T44 x57 x59).f3) && (x137004 == ((rd_T44 x57 x59).f4) && (x137005 == ((rd_T44 x57 x59).f5) && (x137006 == ((rd_T44 x57 x59).f6) && (x137007 == ((rd_T44 x57 x59).f7))))))))) = true then (storagebarterlaw26_again.l4 k x0 x1 (wrap64 (x10 + 1)) x11 x33 x34 x35 x51 x52 x53 x57 x58 (wrap64 (x59 + 1)) x137000 x137001 x137002 x137003 x137004 x137005 x137006 x137007) else (storagebarterlaw26_again.l4 k x0 x1 x10 x11 x33 x34 x35 x51 x52 x53 x57 x58 (wrap64 (x59 + 1)) x137000 x137001 x137002 x137003 x137004 x137005 x137006 x137007)) else (none)) else (none)) else (storagebarterlaw26_again.l3 k x0 x1 x10 x11 x33 x34 x35 x51 x52 (wrap64 (x53 + 1)) x137000 x137001 x137002 x137003 x137004 x137005 x137006 x137007)
end
def storagebarterlaw26_again.f (k : Nat) (l0 : List (S44)) (l1 : List (List (S44))) : Option (Bool) := storagebarterlaw26_again.l0 k l0 l1 0 l1 (l1.length : Int) 0
theorem storagebarterlaw26_again.mono_l : ∀ k, (∀ y0 y1 y2 y3 y4 y5, LeO (storagebarterlaw26_again.l0 k y0 y1 y2 y3 y4 y5) (storagebarterlaw26_again.l0 (k + 1) y0 y1 y2 y3 y4 y5)) ∧ (∀ y0 y1 y2 y3 y4, LeO (storagebarterlaw26_again.l1 k y0 y1 y2 y3 y4) (storagebarterlaw26_again.l1 (k + 1) y0 y1 y2 y3 y4)) ∧ (∀ y0 y1 y2 y3 y4 y5 y6 y7 y8 y9 y10 y11 y12 y13 y14 y15 y16 y17, LeO (storagebarterlaw26_again.l2 k y0 y1 y2 y3 y4 y5 y6 y7 y8 y9 y10 y11 y12 y13 y14 y15 y16 y17) (storagebarterlaw26_again.l2 (k + 1) y0 y1 y2 y3 y4 y5 y6 y7 y8 y9 y10 y11 y12 y13 y14 y15 y16 y17)) ∧ (∀ y0 y1 y2 y3 y4 y5 y6 y7 y8 y9 y10 y11 y12 y13 y14 y15 y16 y17, LeO (storagebarterlaw26_again.l3 k y0 y1 y2 y3 y4 y5 y6 y7 y8 y9 y10 y11 y12 y13 y14 y15 y16 y17) (storagebarterlaw26_again.l3 (k + 1) y0 y1 y2 y3 y4 y5 y6 y7 y8 y9 y10 y11 y12 y13 y14 y15 y16 y17)) ∧ (∀ y0 y1 y2 y3 y4 y5 y6 y7 y8 y9 y10 y11 y12 y13 y14 y15 y16 y17 y18 y19 y20, LeO (storagebarterlaw26_again.l4 k y0 y1 y2 y3 y4 y5 y6 y7 y8 y9 y10 y11 y12 y13 y14 y15 y16 y17 y18 y19 y20) (storagebarterlaw26_again.l4 (k + 1) y0 y1 y2 y3 y4 y5 y6 y7 y8 y9 y10 y11 y12 y13 y14 y15 y16 y17 y18 y19 y20))
  | 0 => ⟨fun _ _ _ _ _ _ r h => by simp [storagebarterlaw26_again.l0] at h, fun _ _ _ _ _ r h => by simp [storagebarterlaw26_again.l1] at h, fun _ _ _ _ _ _ _ _ _ _ _ _ _ _ _ _ _ _ r h => by simp [storagebarterlaw26_again.l2] at h, fun _ _ _ _ _ _ _ _ _ _ _ _ _ _ _ _ _ _ r h => by simp [storagebarterlaw26_again.l3] at h, fun _ _ _ _ _ _ _ _ _ _ _ _ _ _ _ _ _ _ _ _ _ r h => by simp [storagebarterlaw26_again.l4] at h⟩
  | k + 1 => by
    obtain ⟨ih0, ih1, ih2, ih3, ih4⟩ := storagebarterlaw26_again.mono_l k
    refine ⟨?_, ?_, ?_, ?_, ?_⟩
    · intro y0 y1 y2 y3 y4 y5
      unfold storagebarterlaw26_again.l0
      repeat' first
      | (with_reducible exact ih0 _ _ _ _ _ _)
      | (with_reducible exact ih1 _ _ _ _ _)
      | (with_reducible exact ih2 _ _ _ _ _ _ _ _ _ _ _ _ _ _ _ _ _ _)
      | (with_reducible exact ih3 _ _ _ _ _ _ _ _ _ _ _ _ _ _ _ _ _ _)
      | (with_reducible exact ih4 _ _ _ _ _ _ _ _ _ _ _ _ _ _ _ _ _ _ _ _ _)
      | (with_reducible exact LeO.refl _)
      | (with_reducible exact LeO.none _)
      | (with_reducible refine LeO.ite ?_ ?_)
      | (with_reducible refine LeO.bind ?_ (fun _ => ?_))
      | exact ih0 _ _ _ _ _ _
      | exact ih1 _ _ _ _ _
      | exact ih2 _ _ _ _ _ _ _ _ _ _ _ _ _ _ _ _ _ _
      | exact ih3 _ _ _ _ _ _ _ _ _ _ _ _ _ _ _ _ _ _
      | exact ih4 _ _ _ _ _ _ _ _ _ _ _ _ _ _ _ _ _ _ _ _ _
      | exact LeO.none _
      | refine LeO.ite ?_ ?_
      | refine LeO.bind ?_ (fun _ => ?_)
    · intro y0 y1 y2 y3 y4
      unfold storagebarterlaw26_again.l1
      repeat' first
      | (with_reducible exact ih0 _ _ _ _ _ _)
      | (with_reducible exact ih1 _ _ _ _ _)
      | (with_reducible exact ih2 _ _ _ _ _ _ _ _ _ _ _ _ _ _ _ _ _ _)
      | (with_reducible exact ih3 _ _ _ _ _ _ _ _ _ _ _ _ _ _ _ _ _ _)
      | (with_reducible exact ih4 _ _ _ _ _ _ _ _ _ _ _ _ _ _ _ _ _ _ _ _ _)
      | (with_reducible exact LeO.refl _)
      | (with_reducible exact LeO.none _)
      | (with_reducible refine LeO.ite ?_ ?_)
      | (with_reducible refine LeO.bind ?_ (fun _ => ?_))
      | exact ih0 _ _ _ _ _ _
      | exact ih1 _ _ _ _ _
      | exact ih2 _ _ _ _ _ _ _ _ _ _ _ _ _ _ _ _ _ _
      | exact ih3 _ _ _ _ _ _ _ _ _ _ _ _ _ _ _ _ _ _
      | exact ih4 _ _ _ _ _ _ _ _ _ _ _ _ _ _ _ _ _ _ _ _ _
      | exact LeO.none _
      | refine LeO.ite ?_ ?_
      | refine LeO.bind ?_ (fun _ => ?_)
    · intro y0 y1 y2 y3 y4 y5 y6 y7 y8 y9 y10 y11 y12 y13 y14 y15 y16 y17
      unfold storagebarterlaw26_again.l2
      repeat' first
      | (with_reducible exact ih0 _ _ _ _ _ _)
      | (with_reducible exact ih1 _ _ _ _ _)
      | (with_reducible exact ih2 _ _ _ _ _ _ _ _ _ _ _ _ _ _ _ _ _ _)
      | (with_reducible exact ih3 _ _ _ _ _ _ _ _ _ _ _ _ _ _ _ _ _ _)
      | (with_reducible exact ih4 _ _ _ _ _ _ _ _ _ _ _ _ _ _ _ _ _ _ _ _ _)
      | (with_reducible exact LeO.refl _)
      | (with_reducible exact LeO.none _)
      | (with_reducible refine LeO.ite ?_ ?_)
      | (with_reducible refine LeO.bind ?_ (fun _ => ?_))
      | exact ih0 _ _ _ _ _ _
      | exact ih1 _ _ _ _ _
      | exact ih2 _ _ _ _ _ _ _ _ _ _ _ _ _ _ _ _ _ _
      | exact ih3 _ _ _ _ _ _ _ _ _ _ _ _ _ _ _ _ _ _
      | exact ih4 _ _ _ _ _ _ _ _ _ _ _ _ _ _ _ _ _ _ _ _ _
      | exact LeO.none _
      | refine LeO.ite ?_ ?_
      | refine LeO.bind ?_ (fun _ => ?_)
    · intro y0 y1 y2 y3 y4 y5 y6 y7 y8 y9 y10 y11 y12 y13 y14 y15 y16 y17
      unfold storagebarterlaw26_again.l3
      repeat' first
      | (with_reducible exact ih0 _ _ _ _ _ _)
      | (with_reducible exact ih1 _ _ _ _ _)
      | (with_reducible exact ih2 _ _ _ _ _ _ _ _ _ _ _ _ _ _ _ _ _ _)
      | (with_reducible exact ih3 _ _ _ _ _ _ _ _ _ _ _ _ _ _ _ _ _ _)
      | (with_reducible exact ih4 _ _ _ _ _ _ _ _ _ _ _ _ _ _ _ _ _ _ _ _ _)
      | (with_reducible exact LeO.refl _)
      | (with_reducible exact LeO.none _)
      | (with_reducible refine LeO.ite ?_ ?_)
      | (with_reducible refine LeO.bind ?_ (fun _ => ?_))
      | exact ih0 _ _ _ _ _ _
      | exact ih1 _ _ _ _ _
      | exact ih2 _ _ _ _ _ _ _ _ _ _ _ _ _ _ _ _ _ _
      | exact ih3 _ _ _ _ _ _ _ _ _ _ _ _ _ _ _ _ _ _
      | exact ih4 _ _ _ _ _ _ _ _ _ _ _ _ _ _ _ _ _ _ _ _ _
      | exact LeO.none _
      | refine LeO.ite ?_ ?_
      | refine LeO.bind ?_ (fun _ => ?_)
    · intro y0 y1 y2 y3 y4 y5 y6 y7 y8 y9 y10 y11 y12 y13 y14 y15 y16 y17 y18 y19 y20
      unfold storagebarterlaw26_again.l4
      repeat' first
      | (with_reducible exact ih0 _ _ _ _ _ _)
      | (with_reducible exact ih1 _ _ _ _ _)
      | (with_reducible exact ih2 _ _ _ _ _ _ _ _ _ _ _ _ _ _ _ _ _ _)
      | (with_reducible exact ih3 _ _ _ _ _ _ _ _ _ _ _ _ _ _ _ _ _ _)
      | (with_reducible exact ih4 _ _ _ _ _ _ _ _ _ _ _ _ _ _ _ _ _ _ _ _ _)
      | (with_reducible exact LeO.refl _)
      | (with_reducible exact LeO.none _)
      | (with_reducible refine LeO.ite ?_ ?_)
      | (with_reducible refine LeO.bind ?_ (fun _ => ?_))
      | exact ih0 _ _ _ _ _ _
      | exact ih1 _ _ _ _ _
      | exact ih2 _ _ _ _ _ _ _ _ _ _ _ _ _ _ _ _ _ _
      | exact ih3 _ _ _ _ _ _ _ _ _ _ _ _ _ _ _ _ _ _
      | exact ih4 _ _ _ _ _ _ _ _ _ _ _ _ _ _ _ _ _ _ _ _ _
      | exact LeO.none _
      | refine LeO.ite ?_ ?_
      | refine LeO.bind ?_ (fun _ => ?_)
theorem storagebarterlaw26_again.mono : ∀ a0 a1 k, LeO (storagebarterlaw26_again.f k a0 a1) (storagebarterlaw26_again.f (k + 1) a0 a1) := by
  intro a0 a1 k
  obtain ⟨ih0, ih1, ih2, ih3, ih4⟩ := storagebarterlaw26_again.mono_l k
  unfold storagebarterlaw26_again.f
  repeat' first
      | (with_reducible exact ih0 _ _ _ _ _ _)
      | (with_reducible exact ih1 _ _ _ _ _)
      | (with_reducible exact ih2 _ _ _ _ _ _ _ _ _ _ _ _ _ _ _ _ _ _)
      | (with_reducible exact ih3 _ _ _ _ _ _ _ _ _ _ _ _ _ _ _ _ _ _)
      | (with_reducible exact ih4 _ _ _ _ _ _ _ _ _ _ _ _ _ _ _ _ _ _ _ _ _)
      | (with_reducible exact LeO.refl _)
      | (with_reducible exact LeO.none _)
      | (with_reducible refine LeO.ite ?_ ?_)
      | (with_reducible refine LeO.bind ?_ (fun _ => ?_))
      | exact ih0 _ _ _ _ _ _
      | exact ih1 _ _ _ _ _
      | exact ih2 _ _ _ _ _ _ _ _ _ _ _ _ _ _ _ _ _ _
      | exact ih3 _ _ _ _ _ _ _ _ _ _ _ _ _ _ _ _ _ _
      | exact ih4 _ _ _ _ _ _ _ _ _ _ _ _ _ _ _ _ _ _ _ _ _
      | exact LeO.none _
      | refine LeO.ite ?_ ?_
      | refine LeO.bind ?_ (fun _ => ?_)
set_option maxHeartbeats 8000000 in
set_option maxRecDepth 100000 in
theorem storagebarterlaw26_again.calls (k : Nat) (A0 : Option Addr) (c0 : Nat) (l0 : List (S44)) (A1 : Option Addr) (c1 : Nat) (l1 : List (List (S44))) (r : Bool) (w : World) (hr0 : Kd.C k44 w A0 l0.length l0) (hc0 : l0.length ≤ c0) (hr1 : Kd.C (Kd.slice 44 k44) w A1 l1.length l1) (hc1 : l1.length ≤ c1) (h : storagebarterlaw26_again.f k l0 l1 = some r) :
    Calls Try.prog 24 #[.slice A0 l0.length c0, .slice A1 l1.length c1] w fun e w' => e = .returned (.bool r) ∧ Below w.heap.size w w' := by
  have hu44 := Try.underlying44
  have HR0 := Aside0.mk hr0
  have HC0 := Aside0.mk hc0
  clear hr0 hc0
  have HR1 := Aside0.mk hr1
  have HC1 := Aside0.mk hc1
  clear hr1 hc1
  have HB := Aside0.mk (Below.refl w.heap.size w)
  have H : (storagebarterlaw26_again.l0 k l0 l1 0 l1 (l1.length : Int) 0) = some r := h
  clear h
  have H' := Aside0.mk H
  clear H
  go_enter Try.func24, Try.ntmps24
  go_wp2
  go_loopg [5, 20] k (fun kq v5 v20 w' => ∃ (x5_1 : Int) (x20_1 : Int), v5 = .int .i64 x5_1 ∧ v20 = .int .i64 x20_1 ∧ Aside0 (storagebarterlaw26_again.l0 kq l0 l1 x5_1 l1 (l1.length : Int) x20_1 = some r) ∧ Aside0 (kq ≤ k) ∧ Aside0 (Below w.heap.size w w'))
  case atStart => exact ⟨(0), (0), (by first | rfl | (simp; done) | (simp [*]; done)), (by first | rfl | (simp; done) | (simp [*]; done)), H', ⟨Nat.le_refl _⟩, ⟨by repeat (first | (with_reducible first | exact HB.out | apply below_alloc | apply pw_below_drewN | apply below_drew1) | exact HB.out)⟩⟩
  case round =>
    clear H'
    try clear c1
    try clear c2
    try clear p2
    obtain ⟨x5_1, x20_1, rfl, rfl, HA, HK1, HB⟩ := hrel
    cases gk with
    | zero => exact absurd HA.out (by simp [storagebarterlaw26_again.l0])
    | succ k1 =>
      have H := HA.out
      clear HA
      simp only [storagebarterlaw26_again.l0] at H
      by_cases c3 : x20_1 < (l1.length : Int)
      · rw [if_pos c3] at H
        have c3b0 : decide (x20_1 < (l1.length : Int)) = true := decide_eq_true c3
        clear c3
        by_cases c4 : 0 ≤ x20_1
        · rw [if_pos c4] at H
          have c4b0 : decide (0 ≤ x20_1) = true := decide_eq_true c4
          clear c4
          by_cases c5 : x20_1 < (l1.length : Int)
          · rw [if_pos c5] at H
            have c5b0 : decide (x20_1 < (l1.length : Int)) = true := decide_eq_true c5
            clear c5
            have H' := Aside0.mk H
            clear H
            have p134 : 0 ≤ (x20_1 : Int) := of_decide_eq_true (by first | (with_reducible assumption) | assumption)
            have q134 : x20_1 < (l1.length : Int) := of_decide_eq_true (by first | (with_reducible assumption) | assumption)
            obtain ⟨ad134, A134_0, c134_0, e134, hx134_0, hl134_0, hi134_0⟩ := at_L3 HR1.out x20_1 p134 q134
            cases e134
            replace hx134_0 := (HB.out.cell (World.block_lt_of_cell? w _ hx134_0)).trans hx134_0
            have HR134_0 := Aside0.mk hi134_0
            have HC134_0 := Aside0.mk hl134_0
            clear hi134_0 hl134_0
            replace p134 := eq_true p134
            replace q134 := eq_true q134
            go_wp2
            go_roundg k1
            case measure => have := HK1.out; omega
            case rel => exact ⟨(wrap64 (x5_1 + ((rd_L3 l1 x20_1).length : Int))), (wrap64 (x20_1 + 1)), (by first | rfl | (simp; done) | (simp [*]; done)), (by first | rfl | (simp; done) | (simp [*]; done)), H', ⟨by have := HK1.out; omega⟩, ⟨by repeat (first | (with_reducible first | exact HB.out | apply below_alloc | apply pw_below_drewN | apply below_drew1) | exact HB.out)⟩⟩
          · rw [if_neg c5] at H
            exact absurd H (by simp)
        · rw [if_neg c4] at H
          exact absurd H (by simp)
      · rw [if_neg c3] at H
        have c3b0 : decide (x20_1 < (l1.length : Int)) = false := decide_eq_false c3
        clear c3
        by_cases c6 : x5_1 = (l0.length : Int)
        · rw [if_pos c6] at H
          have c6b0 : (x5_1 == (l0.length : Int)) = true := beq_iff_eq.mpr c6
          have c6b1 : (x5_1 != (l0.length : Int)) = false := bne_eq_false_iff_eq.mpr c6
          clear c6
          have H' := Aside0.mk H
          clear H
          go_wp2
          go_loopg [35] k1 (fun kq v35 w' => ∃ (x35_2 : Int), v35 = .int .i64 x35_2 ∧ Aside0 (storagebarterlaw26_again.l1 kq l0 l1 l0 (l0.length : Int) x35_2 = some r) ∧ Aside0 (kq ≤ k1) ∧ Aside0 (Below w.heap.size w w'))
          case atStart => exact ⟨(0), (by first | rfl | (simp; done) | (simp [*]; done)), H', ⟨Nat.le_refl _⟩, ⟨by repeat (first | (with_reducible first | exact HB.out | apply below_alloc | apply pw_below_drewN | apply below_drew1) | exact HB.out)⟩⟩
          case round =>
            clear H'
            try clear c1
            try clear p1
            try clear q1
            try clear hx1
            try clear c2
            try clear p2
            try clear c3
            try clear c3b0
            try clear c4
            try clear c4b0
            try clear c5
            try clear c5b0
            try clear c6
            try clear c6b0
            try clear c6b1
            try clear p6
            try clear hx134_0
            try clear p134
            try clear p2
            try clear q134
            obtain ⟨x35_2, rfl, HA, HK2, HB⟩ := hrel
            cases gk with
            | zero => exact absurd HA.out (by simp [storagebarterlaw26_again.l1])
            | succ k2 =>
              have H := HA.out
              clear HA
              simp only [storagebarterlaw26_again.l1] at H
              by_cases c7 : x35_2 < (l0.length : Int)
              · rw [if_pos c7] at H
                have c7b0 : decide (x35_2 < (l0.length : Int)) = true := decide_eq_true c7
                clear c7
                by_cases c8 : 0 ≤ x35_2
                · rw [if_pos c8] at H
                  have c8b0 : decide (0 ≤ x35_2) = true := decide_eq_true c8
                  clear c8
                  by_cases c9 : x35_2 < (l0.length : Int)
                  · rw [if_pos c9] at H
                    have c9b0 : decide (x35_2 < (l0.length : Int)) = true := decide_eq_true c9
                    clear c9
                    have H' := Aside0.mk H
                    clear H
                    have p135 : 0 ≤ (x35_2 : Int) := of_decide_eq_true (by first | (with_reducible assumption) | assumption)
                    have q135 : x35_2 < (l0.length : Int) := of_decide_eq_true (by first | (with_reducible assumption) | assumption)
                    obtain ⟨ad135, e135, hx135_0, hx135_1, hx135_2, hx135_3, hx135_4, hx135_5, hx135_6, hx135_7⟩ := at_T44 HR0.out x35_2 p135 q135
                    cases e135
                    replace hx135_0 := (HB.out.cell (World.block_lt_of_cell? w _ hx135_0)).trans hx135_0
                    replace hx135_1 := (HB.out.cell (World.block_lt_of_cell? w _ hx135_1)).trans hx135_1
                    replace hx135_2 := (HB.out.cell (World.block_lt_of_cell? w _ hx135_2)).trans hx135_2
                    replace hx135_3 := (HB.out.cell (World.block_lt_of_cell? w _ hx135_3)).trans hx135_3
                    replace hx135_4 := (HB.out.cell (World.block_lt_of_cell? w _ hx135_4)).trans hx135_4
                    replace hx135_5 := (HB.out.cell (World.block_lt_of_cell? w _ hx135_5)).trans hx135_5
                    replace hx135_6 := (HB.out.cell (World.block_lt_of_cell? w _ hx135_6)).trans hx135_6
                    replace hx135_7 := (HB.out.cell (World.block_lt_of_cell? w _ hx135_7)).trans hx135_7
                    replace p135 := eq_true p135
                    replace q135 := eq_true q135
                    go_wp2_with (first | ((with_reducible refine gate_dst (N := 9) rfl ?_); refine box_event ?hg (N := 9) ?hd (cs := #[.int .i64 0, .int .i64 0, .int .i64 0, .int .i64 0, .int .i64 0, .int .i64 0, .int .i64 0, .bool false]) (t := 44) ?hr ?_; (case hd => rfl); (case hg => rfl); (case hr => first | (go_simp; done) | (go_simp; rfl)); intro gb136 hg w10 hbox hb; have n0_ := Aside0.mk (below_step (by repeat (first | (with_reducible first | exact HB.out | apply below_alloc | apply pw_below_drewN | apply below_drew1) | exact HB.out)) hb); have n1_ := Aside0.mk (hbox); have n2_ := Aside0.mk ((by rw [hg]; exact (below_size (by repeat (first | (with_reducible first | exact HB.out | apply below_alloc | apply pw_below_drewN | apply below_drew1) | exact HB.out))) : w.heap.size ≤ gb136)); have n3_ := Aside0.mk ((by rw [hg]; exact (below_size (by repeat (first | (with_reducible first | exact HB.out | apply below_alloc | apply pw_below_drewN | apply below_drew1) | exact HB.out))) : w.heap.size ≤ gb136)); clear HB; have HB := n0_; have BK136 := n1_; have GW136 := n2_; have GE136 := n3_; clear n0_ n1_ n2_ n3_; clear hb hbox hg; have hcz11_0 : w10.cell? ⟨gb136, 0, none⟩ = some (.int .i64 0) := (blk_cell BK136.out 0).trans rfl; have hcz11_1 : w10.cell? ⟨gb136, 1, none⟩ = some (.int .i64 0) := (blk_cell BK136.out 1).trans rfl; have hcz11_2 : w10.cell? ⟨gb136, 2, none⟩ = some (.int .i64 0) := (blk_cell BK136.out 2).trans rfl; have hcz11_3 : w10.cell? ⟨gb136, 3, none⟩ = some (.int .i64 0) := (blk_cell BK136.out 3).trans rfl; have hcz11_4 : w10.cell? ⟨gb136, 4, none⟩ = some (.int .i64 0) := (blk_cell BK136.out 4).trans rfl; have hcz11_5 : w10.cell? ⟨gb136, 5, none⟩ = some (.int .i64 0) := (blk_cell BK136.out 5).trans rfl; have hcz11_6 : w10.cell? ⟨gb136, 6, none⟩ = some (.int .i64 0) := (blk_cell BK136.out 6).trans rfl; have hcz11_7 : w10.cell? ⟨gb136, 7, none⟩ = some (.bool false) := (blk_cell BK136.out 7).trans rfl; have hfz11_0 := blk_frozen BK136.out 0; have hfz11_1 := blk_frozen BK136.out 1; have hfz11_2 := blk_frozen BK136.out 2; have hfz11_3 := blk_frozen BK136.out 3; have hfz11_4 := blk_frozen BK136.out 4; have hfz11_5 := blk_frozen BK136.out 5; have hfz11_6 := blk_frozen BK136.out 6; have hfz11_7 := blk_frozen BK136.out 7))
                    go_loopg [11, 41] k2 (fun kq v11 v41 w' => ∃ (x11_3 : Int) (x41_3 : Int), v11 = .int .i64 x11_3 ∧ v41 = .int .i64 x41_3 ∧ Aside0 (storagebarterlaw26_again.l2 kq l0 l1 0 x11_3 l0 (l0.length : Int) x35_2 l0 (l0.length : Int) x41_3 ((rd_T44 l0 x35_2).f0) ((rd_T44 l0 x35_2).f1) ((rd_T44 l0 x35_2).f2) ((rd_T44 l0 x35_2).f3) ((rd_T44 l0 x35_2).f4) ((rd_T44 l0 x35_2).f5) ((rd_T44 l0 x35_2).f6) ((rd_T44 l0 x35_2).f7) = some r) ∧ Aside0 (kq ≤ k2) ∧ Aside0 (w'.heap[gb136]? = some (.cells #[.int .i64 ((rd_T44 l0 x35_2).f0), .int .i64 ((rd_T44 l0 x35_2).f1), .int .i64 ((rd_T44 l0 x35_2).f2), .int .i64 ((rd_T44 l0 x35_2).f3), .int .i64 ((rd_T44 l0 x35_2).f4), .int .i64 ((rd_T44 l0 x35_2).f5), .int .i64 ((rd_T44 l0 x35_2).f6), .bool ((rd_T44 l0 x35_2).f7)] 44 (0, 0))) ∧ Aside0 (Below w.heap.size w w'))
                    case atStart => exact ⟨(0), (0), (by first | rfl | (simp; done) | (simp [*]; done)), (by first | rfl | (simp; done) | (simp [*]; done)), H', ⟨Nat.le_refl _⟩, ⟨by (with_reducible repeat (first | refine blk_drewN ?_ _ | refine blk_drew ?_ | refine blk_alloc ?_ _)); refine blk_put (cs := #[.int .i64 ((rd_T44 l0 x35_2).f0), .int .i64 ((rd_T44 l0 x35_2).f1), .int .i64 ((rd_T44 l0 x35_2).f2), .int .i64 ((rd_T44 l0 x35_2).f3), .int .i64 ((rd_T44 l0 x35_2).f4), .int .i64 ((rd_T44 l0 x35_2).f5), .int .i64 ((rd_T44 l0 x35_2).f6), .bool false]) ?_ 7 _ rfl; (with_reducible repeat (first | refine blk_drewN ?_ _ | refine blk_drew ?_ | refine blk_alloc ?_ _)); refine blk_put (cs := #[.int .i64 ((rd_T44 l0 x35_2).f0), .int .i64 ((rd_T44 l0 x35_2).f1), .int .i64 ((rd_T44 l0 x35_2).f2), .int .i64 ((rd_T44 l0 x35_2).f3), .int .i64 ((rd_T44 l0 x35_2).f4), .int .i64 ((rd_T44 l0 x35_2).f5), .int .i64 0, .bool false]) ?_ 6 _ rfl; (with_reducible repeat (first | refine blk_drewN ?_ _ | refine blk_drew ?_ | refine blk_alloc ?_ _)); refine blk_put (cs := #[.int .i64 ((rd_T44 l0 x35_2).f0), .int .i64 ((rd_T44 l0 x35_2).f1), .int .i64 ((rd_T44 l0 x35_2).f2), .int .i64 ((rd_T44 l0 x35_2).f3), .int .i64 ((rd_T44 l0 x35_2).f4), .int .i64 0, .int .i64 0, .bool false]) ?_ 5 _ rfl; (with_reducible repeat (first | refine blk_drewN ?_ _ | refine blk_drew ?_ | refine blk_alloc ?_ _)); refine blk_put (cs := #[.int .i64 ((rd_T44 l0 x35_2).f0), .int .i64 ((rd_T44 l0 x35_2).f1), .int .i64 ((rd_T44 l0 x35_2).f2), .int .i64 ((rd_T44 l0 x35_2).f3), .int .i64 0, .int .i64 0, .int .i64 0, .bool false]) ?_ 4 _ rfl; (with_reducible repeat (first | refine blk_drewN ?_ _ | refine blk_drew ?_ | refine blk_alloc ?_ _)); refine blk_put (cs := #[.int .i64 ((rd_T44 l0 x35_2).f0), .int .i64 ((rd_T44 l0 x35_2).f1), .int .i64 ((rd_T44 l0 x35_2).f2), .int .i64 0, .int .i64 0, .int .i64 0, .int .i64 0, .bool false]) ?_ 3 _ rfl; (with_reducible repeat (first | refine blk_drewN ?_ _ | refine blk_drew ?_ | refine blk_alloc ?_ _)); refine blk_put (cs := #[.int .i64 ((rd_T44 l0 x35_2).f0), .int .i64 ((rd_T44 l0 x35_2).f1), .int .i64 0, .int .i64 0, .int .i64 0, .int .i64 0, .int .i64 0, .bool false]) ?_ 2 _ rfl; (with_reducible repeat (first | refine blk_drewN ?_ _ | refine blk_drew ?_ | refine blk_alloc ?_ _)); refine blk_put (cs := #[.int .i64 ((rd_T44 l0 x35_2).f0), .int .i64 0, .int .i64 0, .int .i64 0, .int .i64 0, .int .i64 0, .int .i64 0, .bool false]) ?_ 1 _ rfl; (with_reducible repeat (first | refine blk_drewN ?_ _ | refine blk_drew ?_ | refine blk_alloc ?_ _)); refine blk_put (cs := #[.int .i64 0, .int .i64 0, .int .i64 0, .int .i64 0, .int .i64 0, .int .i64 0, .int .i64 0, .bool false]) ?_ 0 _ rfl; (with_reducible repeat (first | refine blk_drewN ?_ _ | refine blk_drew ?_ | refine blk_alloc ?_ _)); exact BK136.out⟩, ⟨by repeat (first | (with_reducible first | exact HB.out | apply below_alloc | apply pw_below_drewN | apply below_drew1 | refine below_set ?_ GE136.out) | exact HB.out)⟩⟩
                    case round =>
                      clear H'
                      try clear c1
                      try clear p1
                      try clear q1
                      try clear hx1
                      try clear c2
                      try clear p2
                      try clear c3
                      try clear c3b0
                      try clear c4
                      try clear c4b0
                      try clear c5
                      try clear c5b0
                      try clear c6
                      try clear c6b0
                      try clear c6b1
                      try clear p6
                      try clear c7
                      try clear c7b0
                      try clear c8
                      try clear c8b0
                      try clear c9
                      try clear c9b0
                      try clear hcz11_0
                      try clear hcz11_1
                      try clear hcz11_2
                      try clear hcz11_3
                      try clear hcz11_4
                      try clear hcz11_5
                      try clear hcz11_6
                      try clear hcz11_7
                      try clear hfz11_0
                      try clear hfz11_1
                      try clear hfz11_2
                      try clear hfz11_3
                      try clear hfz11_4
                      try clear hfz11_5
                      try clear hfz11_6
                      try clear hfz11_7
                      try clear hx134_0
                      try clear hx135_0
                      try clear hx135_1
                      try clear hx135_2
                      try clear hx135_3
                      try clear hx135_4
                      try clear hx135_5
                      try clear hx135_6
                      try clear hx135_7
                      try clear p1
                      try clear p134
                      try clear p135
                      try clear p2
                      try clear p6
                      try clear q1
                      try clear q134
                      try clear q135
                      obtain ⟨x11_3, x41_3, rfl, rfl, HA, HK3, BK136, HB⟩ := hrel
                      cases gk with
                      | zero => exact absurd HA.out (by simp [storagebarterlaw26_again.l2])
                      | succ k3 =>
                        have H := HA.out
                        clear HA
                        simp only [storagebarterlaw26_again.l2] at H
                        by_cases c12 : x41_3 < (l0.length : Int)
                        · rw [if_pos c12] at H
                          have c12b0 : decide (x41_3 < (l0.length : Int)) = true := decide_eq_true c12
                          clear c12
                          by_cases c13 : 0 ≤ x41_3
                          · rw [if_pos c13] at H
                            have c13b0 : decide (0 ≤ x41_3) = true := decide_eq_true c13
                            clear c13
                            by_cases c14 : x41_3 < (l0.length : Int)
                            · rw [if_pos c14] at H
                              have c14b0 : decide (x41_3 < (l0.length : Int)) = true := decide_eq_true c14
                              clear c14
                              by_cases c15 : (((rd_T44 l0 x35_2).f0) == ((rd_T44 l0 x41_3).f0) && (((rd_T44 l0 x35_2).f1) == ((rd_T44 l0 x41_3).f1) && (((rd_T44 l0 x35_2).f2) == ((rd_T44 l0 x41_3).f2) && (((rd_T44 l0 x35_2).f3) == ((rd_T44 l0 x41_3).f3) && (((rd_T44 l0 x35_2).f4) == ((rd_T44 l0 x41_3).f4) && (((rd_T44 l0 x35_2).f5) == ((rd_T44 l0 x41_3).f5) && (((rd_T44 l0 x35_2).f6) == ((rd_T44 l0 x41_3).f6) && (((rd_T44 l0 x35_2).f7) == ((rd_T44 l0 x41_3).f7))))))))) = true
                              · rw [if_pos c15] at H
                                have c15b0 : (((rd_T44 l0 x35_2).f0) == ((rd_T44 l0 x41_3).f0) && (((rd_T44 l0 x35_2).f1) == ((rd_T44 l0 x41_3).f1) && (((rd_T44 l0 x35_2).f2) == ((rd_T44 l0 x41_3).f2) && (((rd_T44 l0 x35_2).f3) == ((rd_T44 l0 x41_3).f3) && (((rd_T44 l0 x35_2).f4) == ((rd_T44 l0 x41_3).f4) && (((rd_T44 l0 x35_2).f5) == ((rd_T44 l0 x41_3).f5) && (((rd_T44 l0 x35_2).f6) == ((rd_T44 l0 x41_3).f6) && (((rd_T44 l0 x35_2).f7) == ((rd_T44 l0 x41_3).f7))))))))) = true := c15
                                (try (have c15b1 : decide (((rd_T44 l0 x35_2).f0) = ((rd_T44 l0 x41_3).f0) && (((rd_T44 l0 x35_2).f1) == ((rd_T44 l0 x41_3).f1) && (((rd_T44 l0 x35_2).f2) == ((rd_T44 l0 x41_3).f2) && (((rd_T44 l0 x35_2).f3) == ((rd_T44 l0 x41_3).f3) && (((rd_T44 l0 x35_2).f4) == ((rd_T44 l0 x41_3).f4) && (((rd_T44 l0 x35_2).f5) == ((rd_T44 l0 x41_3).f5) && (((rd_T44 l0 x35_2).f6) == ((rd_T44 l0 x41_3).f6) && (((rd_T44 l0 x35_2).f7) == ((rd_T44 l0 x41_3).f7))))))))) = true := by simpa using c15))
                                (try (have c15b2 : (((rd_T44 l0 x35_2).f0) == ((rd_T44 l0 x41_3).f0) && (((rd_T44 l0 x35_2).f1) == ((rd_T44 l0 x41_3).f1) && (((rd_T44 l0 x35_2).f2) == ((rd_T44 l0 x41_3).f2) && (((rd_T44 l0 x35_2).f3) == ((rd_T44 l0 x41_3).f3) && (((rd_T44 l0 x35_2).f4) == ((rd_T44 l0 x41_3).f4) && (((rd_T44 l0 x35_2).f5) == ((rd_T44 l0 x41_3).f5) && (((rd_T44 l0 x35_2).f6) == ((rd_T44 l0 x41_3).f6) && (((rd_T44 l0 x35_2).f7) == ((rd_T44 l0 x41_3).f7))))))))) = true := by simpa using c15))
                                clear c15
                                have H' := Aside0.mk H
                                clear H
                                have p137 : 0 ≤ (x41_3 : Int) := of_decide_eq_true (by first | (with_reducible assumption) | assumption)
                                have q137 : x41_3 < (l0.length : Int) := of_decide_eq_true (by first | (with_reducible assumption) | assumption)
                                obtain ⟨ad137, e137, hx137_0, hx137_1, hx137_2, hx137_3, hx137_4, hx137_5, hx137_6, hx137_7⟩ := at_T44 HR0.out x41_3 p137 q137
                                obtain rfl : ad135 = ad137 := (by injection e137)
                                replace hx137_0 := (HB.out.cell (World.block_lt_of_cell? w _ hx137_0)).trans hx137_0
                                replace hx137_1 := (HB.out.cell (World.block_lt_of_cell? w _ hx137_1)).trans hx137_1
                                replace hx137_2 := (HB.out.cell (World.block_lt_of_cell? w _ hx137_2)).trans hx137_2
                                replace hx137_3 := (HB.out.cell (World.block_lt_of_cell? w _ hx137_3)).trans hx137_3
                                replace hx137_4 := (HB.out.cell (World.block_lt_of_cell? w _ hx137_4)).trans hx137_4
                                replace hx137_5 := (HB.out.cell (World.block_lt_of_cell? w _ hx137_5)).trans hx137_5
                                replace hx137_6 := (HB.out.cell (World.block_lt_of_cell? w _ hx137_6)).trans hx137_6
                                replace hx137_7 := (HB.out.cell (World.block_lt_of_cell? w _ hx137_7)).trans hx137_7
                                replace p137 := eq_true p137
                                replace q137 := eq_true q137
                                go_wp2_with (first | ((with_reducible refine gate_dst (N := 13) rfl ?_); refine box_event ?hg (N := 13) ?hd (cs := #[.int .i64 0, .int .i64 0, .int .i64 0, .int .i64 0, .int .i64 0, .int .i64 0, .int .i64 0, .bool false]) (t := 44) ?hr ?_; (case hd => rfl); (case hg => rfl); (case hr => first | (go_simp; done) | (go_simp; rfl)); intro gb138 hg w16 hbox hb; have n0_ := Aside0.mk (blk_below (g := gb136) (o := .cells #[.int .i64 ((rd_T44 l0 x35_2).f0), .int .i64 ((rd_T44 l0 x35_2).f1), .int .i64 ((rd_T44 l0 x35_2).f2), .int .i64 ((rd_T44 l0 x35_2).f3), .int .i64 ((rd_T44 l0 x35_2).f4), .int .i64 ((rd_T44 l0 x35_2).f5), .int .i64 ((rd_T44 l0 x35_2).f6), .bool ((rd_T44 l0 x35_2).f7)] 44 (0, 0)) (by (with_reducible repeat (first | refine blk_drewN ?_ _ | refine blk_drew ?_ | refine blk_alloc ?_ _)); exact BK136.out) hb); have n1_ := Aside0.mk (below_step (by repeat (first | (with_reducible first | exact HB.out | apply below_alloc | apply pw_below_drewN | apply below_drew1 | refine below_set ?_ GE136.out) | exact HB.out)) hb); have n2_ := Aside0.mk (hbox); have n3_ := Aside0.mk ((by rw [hg]; exact (below_size (by repeat (first | (with_reducible first | exact HB.out | apply below_alloc | apply pw_below_drewN | apply below_drew1 | refine below_set ?_ GE136.out) | exact HB.out))) : w.heap.size ≤ gb138)); have n4_ := Aside0.mk ((by rw [hg]; exact (below_size (by repeat (first | (with_reducible first | exact HB.out | apply below_alloc | apply pw_below_drewN | apply below_drew1 | refine below_set ?_ GE136.out) | exact HB.out))) : w.heap.size ≤ gb138)); have n5_ := Aside0.mk ((by rw [hg]; exact Nat.ne_of_lt (blk_lt (g := gb136) (o := .cells #[.int .i64 ((rd_T44 l0 x35_2).f0), .int .i64 ((rd_T44 l0 x35_2).f1), .int .i64 ((rd_T44 l0 x35_2).f2), .int .i64 ((rd_T44 l0 x35_2).f3), .int .i64 ((rd_T44 l0 x35_2).f4), .int .i64 ((rd_T44 l0 x35_2).f5), .int .i64 ((rd_T44 l0 x35_2).f6), .bool ((rd_T44 l0 x35_2).f7)] 44 (0, 0)) (by (with_reducible repeat (first | refine blk_drewN ?_ _ | refine blk_drew ?_ | refine blk_alloc ?_ _)); exact BK136.out)) : gb136 ≠ gb138)); have n6_ := Aside0.mk ((by rw [hg]; exact Nat.ne_of_gt (blk_lt (g := gb136) (o := .cells #[.int .i64 ((rd_T44 l0 x35_2).f0), .int .i64 ((rd_T44 l0 x35_2).f1), .int .i64 ((rd_T44 l0 x35_2).f2), .int .i64 ((rd_T44 l0 x35_2).f3), .int .i64 ((rd_T44 l0 x35_2).f4), .int .i64 ((rd_T44 l0 x35_2).f5), .int .i64 ((rd_T44 l0 x35_2).f6), .bool ((rd_T44 l0 x35_2).f7)] 44 (0, 0)) (by (with_reducible repeat (first | refine blk_drewN ?_ _ | refine blk_drew ?_ | refine blk_alloc ?_ _)); exact BK136.out)) : gb138 ≠ gb136)); clear BK136; clear HB; have BK136 := n0_; have HB := n1_; have BK138 := n2_; have GW138 := n3_; have GE138 := n4_; have NB136_138 := n5_; have NB138_136 := n6_; clear n0_ n1_ n2_ n3_ n4_ n5_ n6_; clear hb hbox hg; have hnb17 := NB138_136.out; have hnc17 := NB136_138.out; have hcz18_0 : w16.cell? ⟨gb138, 0, none⟩ = some (.int .i64 0) := (blk_cell BK138.out 0).trans rfl; have hcz18_1 : w16.cell? ⟨gb138, 1, none⟩ = some (.int .i64 0) := (blk_cell BK138.out 1).trans rfl; have hcz18_2 : w16.cell? ⟨gb138, 2, none⟩ = some (.int .i64 0) := (blk_cell BK138.out 2).trans rfl; have hcz18_3 : w16.cell? ⟨gb138, 3, none⟩ = some (.int .i64 0) := (blk_cell BK138.out 3).trans rfl; have hcz18_4 : w16.cell? ⟨gb138, 4, none⟩ = some (.int .i64 0) := (blk_cell BK138.out 4).trans rfl; have hcz18_5 : w16.cell? ⟨gb138, 5, none⟩ = some (.int .i64 0) := (blk_cell BK138.out 5).trans rfl; have hcz18_6 : w16.cell? ⟨gb138, 6, none⟩ = some (.int .i64 0) := (blk_cell BK138.out 6).trans rfl; have hcz18_7 : w16.cell? ⟨gb138, 7, none⟩ = some (.bool false) := (blk_cell BK138.out 7).trans rfl; have hfz18_0 := blk_frozen BK138.out 0; have hfz18_1 := blk_frozen BK138.out 1; have hfz18_2 := blk_frozen BK138.out 2; have hfz18_3 := blk_frozen BK138.out 3; have hfz18_4 := blk_frozen BK138.out 4; have hfz18_5 := blk_frozen BK138.out 5; have hfz18_6 := blk_frozen BK138.out 6; have hfz18_7 := blk_frozen BK138.out 7; have hcz19_0 : w16.cell? ⟨gb136, 0, none⟩ = some (.int .i64 ((rd_T44 l0 x35_2).f0)) := (blk_cell BK136.out 0).trans rfl; have hcz19_1 : w16.cell? ⟨gb136, 1, none⟩ = some (.int .i64 ((rd_T44 l0 x35_2).f1)) := (blk_cell BK136.out 1).trans rfl; have hcz19_2 : w16.cell? ⟨gb136, 2, none⟩ = some (.int .i64 ((rd_T44 l0 x35_2).f2)) := (blk_cell BK136.out 2).trans rfl; have hcz19_3 : w16.cell? ⟨gb136, 3, none⟩ = some (.int .i64 ((rd_T44 l0 x35_2).f3)) := (blk_cell BK136.out 3).trans rfl; have hcz19_4 : w16.cell? ⟨gb136, 4, none⟩ = some (.int .i64 ((rd_T44 l0 x35_2).f4)) := (blk_cell BK136.out 4).trans rfl; have hcz19_5 : w16.cell? ⟨gb136, 5, none⟩ = some (.int .i64 ((rd_T44 l0 x35_2).f5)) := (blk_cell BK136.out 5).trans rfl; have hcz19_6 : w16.cell? ⟨gb136, 6, none⟩ = some (.int .i64 ((rd_T44 l0 x35_2).f6)) := (blk_cell BK136.out 6).trans rfl; have hcz19_7 : w16.cell? ⟨gb136, 7, none⟩ = some (.bool ((rd_T44 l0 x35_2).f7)) := (blk_cell BK136.out 7).trans rfl; have hfz19_0 := blk_frozen BK136.out 0; have hfz19_1 := blk_frozen BK136.out 1; have hfz19_2 := blk_frozen BK136.out 2; have hfz19_3 := blk_frozen BK136.out 3; have hfz19_4 := blk_frozen BK136.out 4; have hfz19_5 := blk_frozen BK136.out 5; have hfz19_6 := blk_frozen BK136.out 6; have hfz19_7 := blk_frozen BK136.out 7))
                                go_roundg k3
                                case measure => have := HK1.out; have := HK2.out; have := HK3.out; omega
                                case rel => exact ⟨(wrap64 (x11_3 + 1)), (wrap64 (x41_3 + 1)), (by first | rfl | (simp; done) | (simp [*]; done)), (by first | rfl | (simp; done) | (simp [*]; done)), H', ⟨by have := HK1.out; have := HK2.out; have := HK3.out; omega⟩, ⟨by (with_reducible repeat (first | refine blk_drewN ?_ _ | refine blk_drew ?_ | refine blk_alloc ?_ _)); refine blk_far ?_ NB136_138.out _; (with_reducible repeat (first | refine blk_drewN ?_ _ | refine blk_drew ?_ | refine blk_alloc ?_ _)); refine blk_far ?_ NB136_138.out _; (with_reducible repeat (first | refine blk_drewN ?_ _ | refine blk_drew ?_ | refine blk_alloc ?_ _)); refine blk_far ?_ NB136_138.out _; (with_reducible repeat (first | refine blk_drewN ?_ _ | refine blk_drew ?_ | refine blk_alloc ?_ _)); refine blk_far ?_ NB136_138.out _; (with_reducible repeat (first | refine blk_drewN ?_ _ | refine blk_drew ?_ | refine blk_alloc ?_ _)); refine blk_far ?_ NB136_138.out _; (with_reducible repeat (first | refine blk_drewN ?_ _ | refine blk_drew ?_ | refine blk_alloc ?_ _)); refine blk_far ?_ NB136_138.out _; (with_reducible repeat (first | refine blk_drewN ?_ _ | refine blk_drew ?_ | refine blk_alloc ?_ _)); refine blk_far ?_ NB136_138.out _; (with_reducible repeat (first | refine blk_drewN ?_ _ | refine blk_drew ?_ | refine blk_alloc ?_ _)); refine blk_far ?_ NB136_138.out _; (with_reducible repeat (first | refine blk_drewN ?_ _ | refine blk_drew ?_ | refine blk_alloc ?_ _)); exact BK136.out⟩, ⟨by repeat (first | (with_reducible first | exact HB.out | apply below_alloc | apply pw_below_drewN | apply below_drew1 | refine below_set ?_ GE136.out | refine below_set ?_ GE138.out) | exact HB.out)⟩⟩
                              · rw [if_neg c15] at H
                                have c15b0 : (((rd_T44 l0 x35_2).f0) == ((rd_T44 l0 x41_3).f0) && (((rd_T44 l0 x35_2).f1) == ((rd_T44 l0 x41_3).f1) && (((rd_T44 l0 x35_2).f2) == ((rd_T44 l0 x41_3).f2) && (((rd_T44 l0 x35_2).f3) == ((rd_T44 l0 x41_3).f3) && (((rd_T44 l0 x35_2).f4) == ((rd_T44 l0 x41_3).f4) && (((rd_T44 l0 x35_2).f5) == ((rd_T44 l0 x41_3).f5) && (((rd_T44 l0 x35_2).f6) == ((rd_T44 l0 x41_3).f6) && (((rd_T44 l0 x35_2).f7) == ((rd_T44 l0 x41_3).f7))))))))) = false := by simpa using c15
                                (try (have c15b1 : decide (((rd_T44 l0 x35_2).f0) = ((rd_T44 l0 x41_3).f0) && (((rd_T44 l0 x35_2).f1) == ((rd_T44 l0 x41_3).f1) && (((rd_T44 l0 x35_2).f2) == ((rd_T44 l0 x41_3).f2) && (((rd_T44 l0 x35_2).f3) == ((rd_T44 l0 x41_3).f3) && (((rd_T44 l0 x35_2).f4) == ((rd_T44 l0 x41_3).f4) && (((rd_T44 l0 x35_2).f5) == ((rd_T44 l0 x41_3).f5) && (((rd_T44 l0 x35_2).f6) == ((rd_T44 l0 x41_3).f6) && (((rd_T44 l0 x35_2).f7) == ((rd_T44 l0 x41_3).f7))))))))) = false := by simpa using c15))
                                (try (have c15b2 : (((rd_T44 l0 x35_2).f0) == ((rd_T44 l0 x41_3).f0) && (((rd_T44 l0 x35_2).f1) == ((rd_T44 l0 x41_3).f1) && (((rd_T44 l0 x35_2).f2) == ((rd_T44 l0 x41_3).f2) && (((rd_T44 l0 x35_2).f3) == ((rd_T44 l0 x41_3).f3) && (((rd_T44 l0 x35_2).f4) == ((rd_T44 l0 x41_3).f4) && (((rd_T44 l0 x35_2).f5) == ((rd_T44 l0 x41_3).f5) && (((rd_T44 l0 x35_2).f6) == ((rd_T44 l0 x41_3).f6) && (((rd_T44 l0 x35_2).f7) == ((rd_T44 l0 x41_3).f7))))))))) = false := by simpa using c15))
                                (try (have c15b3 : ¬ (((rd_T44 l0 x35_2).f0) = ((rd_T44 l0 x41_3).f0) && (((rd_T44 l0 x35_2).f1) == ((rd_T44 l0 x41_3).f1) && (((rd_T44 l0 x35_2).f2) == ((rd_T44 l0 x41_3).f2) && (((rd_T44 l0 x35_2).f3) == ((rd_T44 l0 x41_3).f3) && (((rd_T44 l0 x35_2).f4) == ((rd_T44 l0 x41_3).f4) && (((rd_T44 l0 x35_2).f5) == ((rd_T44 l0 x41_3).f5) && (((rd_T44 l0 x35_2).f6) == ((rd_T44 l0 x41_3).f6) && (((rd_T44 l0 x35_2).f7) == ((rd_T44 l0 x41_3).f7))))))))) := by simpa using c15))
                                clear c15
                                have H' := Aside0.mk H
                                clear H
                                have p137 : 0 ≤ (x41_3 : Int) := of_decide_eq_true (by first | (with_reducible assumption) | assumption)
                                have q137 : x41_3 < (l0.length : Int) := of_decide_eq_true (by first | (with_reducible assumption) | assumption)
                                obtain ⟨ad137, e137, hx137_0, hx137_1, hx137_2, hx137_3, hx137_4, hx137_5, hx137_6, hx137_7⟩ := at_T44 HR0.out x41_3 p137 q137
                                obtain rfl : ad135 = ad137 := (by injection e137)
                                replace hx137_0 := (HB.out.cell (World.block_lt_of_cell? w _ hx137_0)).trans hx137_0
                                replace hx137_1 := (HB.out.cell (World.block_lt_of_cell? w _ hx137_1)).trans hx137_1
                                replace hx137_2 := (HB.out.cell (World.block_lt_of_cell? w _ hx137_2)).trans hx137_2
                                replace hx137_3 := (HB.out.cell (World.block_lt_of_cell? w _ hx137_3)).trans hx137_3
                                replace hx137_4 := (HB.out.cell (World.block_lt_of_cell? w _ hx137_4)).trans hx137_4
                                replace hx137_5 := (HB.out.cell (World.block_lt_of_cell? w _ hx137_5)).trans hx137_5
                                replace hx137_6 := (HB.out.cell (World.block_lt_of_cell? w _ hx137_6)).trans hx137_6
                                replace hx137_7 := (HB.out.cell (World.block_lt_of_cell? w _ hx137_7)).trans hx137_7
                                replace p137 := eq_true p137
                                replace q137 := eq_true q137
                                go_wp2_with (first | ((with_reducible refine gate_dst (N := 13) rfl ?_); refine box_event ?hg (N := 13) ?hd (cs := #[.int .i64 0, .int .i64 0, .int .i64 0, .int .i64 0, .int .i64 0, .int .i64 0, .int .i64 0, .bool false]) (t := 44) ?hr ?_; (case hd => rfl); (case hg => rfl); (case hr => first | (go_simp; done) | (go_simp; rfl)); intro gb138 hg w20 hbox hb; have n0_ := Aside0.mk (blk_below (g := gb136) (o := .cells #[.int .i64 ((rd_T44 l0 x35_2).f0), .int .i64 ((rd_T44 l0 x35_2).f1), .int .i64 ((rd_T44 l0 x35_2).f2), .int .i64 ((rd_T44 l0 x35_2).f3), .int .i64 ((rd_T44 l0 x35_2).f4), .int .i64 ((rd_T44 l0 x35_2).f5), .int .i64 ((rd_T44 l0 x35_2).f6), .bool ((rd_T44 l0 x35_2).f7)] 44 (0, 0)) (by (with_reducible repeat (first | refine blk_drewN ?_ _ | refine blk_drew ?_ | refine blk_alloc ?_ _)); exact BK136.out) hb); have n1_ := Aside0.mk (below_step (by repeat (first | (with_reducible first | exact HB.out | apply below_alloc | apply pw_below_drewN | apply below_drew1 | refine below_set ?_ GE136.out) | exact HB.out)) hb); have n2_ := Aside0.mk (hbox); have n3_ := Aside0.mk ((by rw [hg]; exact (below_size (by repeat (first | (with_reducible first | exact HB.out | apply below_alloc | apply pw_below_drewN | apply below_drew1 | refine below_set ?_ GE136.out) | exact HB.out))) : w.heap.size ≤ gb138)); have n4_ := Aside0.mk ((by rw [hg]; exact (below_size (by repeat (first | (with_reducible first | exact HB.out | apply below_alloc | apply pw_below_drewN | apply below_drew1 | refine below_set ?_ GE136.out) | exact HB.out))) : w.heap.size ≤ gb138)); have n5_ := Aside0.mk ((by rw [hg]; exact Nat.ne_of_lt (blk_lt (g := gb136) (o := .cells #[.int .i64 ((rd_T44 l0 x35_2).f0), .int .i64 ((rd_T44 l0 x35_2).f1), .int .i64 ((rd_T44 l0 x35_2).f2), .int .i64 ((rd_T44 l0 x35_2).f3), .int .i64 ((rd_T44 l0 x35_2).f4), .int .i64 ((rd_T44 l0 x35_2).f5), .int .i64 ((rd_T44 l0 x35_2).f6), .bool ((rd_T44 l0 x35_2).f7)] 44 (0, 0)) (by (with_reducible repeat (first | refine blk_drewN ?_ _ | refine blk_drew ?_ | refine blk_alloc ?_ _)); exact BK136.out)) : gb136 ≠ gb138)); have n6_ := Aside0.mk ((by rw [hg]; exact Nat.ne_of_gt (blk_lt (g := gb136) (o := .cells #[.int .i64 ((rd_T44 l0 x35_2).f0), .int .i64 ((rd_T44 l0 x35_2).f1), .int .i64 ((rd_T44 l0 x35_2).f2), .int .i64 ((rd_T44 l0 x35_2).f3), .int .i64 ((rd_T44 l0 x35_2).f4), .int .i64 ((rd_T44 l0 x35_2).f5), .int .i64 ((rd_T44 l0 x35_2).f6), .bool ((rd_T44 l0 x35_2).f7)] 44 (0, 0)) (by (with_reducible repeat (first | refine blk_drewN ?_ _ | refine blk_drew ?_ | refine blk_alloc ?_ _)); exact BK136.out)) : gb138 ≠ gb136)); clear BK136; clear HB; have BK136 := n0_; have HB := n1_; have BK138 := n2_; have GW138 := n3_; have GE138 := n4_; have NB136_138 := n5_; have NB138_136 := n6_; clear n0_ n1_ n2_ n3_ n4_ n5_ n6_; clear hb hbox hg; have hnb21 := NB138_136.out; have hnc21 := NB136_138.out; have hcz22_0 : w20.cell? ⟨gb138, 0, none⟩ = some (.int .i64 0) := (blk_cell BK138.out 0).trans rfl; have hcz22_1 : w20.cell? ⟨gb138, 1, none⟩ = some (.int .i64 0) := (blk_cell BK138.out 1).trans rfl; have hcz22_2 : w20.cell? ⟨gb138, 2, none⟩ = some (.int .i64 0) := (blk_cell BK138.out 2).trans rfl; have hcz22_3 : w20.cell? ⟨gb138, 3, none⟩ = some (.int .i64 0) := (blk_cell BK138.out 3).trans rfl; have hcz22_4 : w20.cell? ⟨gb138, 4, none⟩ = some (.int .i64 0) := (blk_cell BK138.out 4).trans rfl; have hcz22_5 : w20.cell? ⟨gb138, 5, none⟩ = some (.int .i64 0) := (blk_cell BK138.out 5).trans rfl; have hcz22_6 : w20.cell? ⟨gb138, 6, none⟩ = some (.int .i64 0) := (blk_cell BK138.out 6).trans rfl; have hcz22_7 : w20.cell? ⟨gb138, 7, none⟩ = some (.bool false) := (blk_cell BK138.out 7).trans rfl; have hfz22_0 := blk_frozen BK138.out 0; have hfz22_1 := blk_frozen BK138.out 1; have hfz22_2 := blk_frozen BK138.out 2; have hfz22_3 := blk_frozen BK138.out 3; have hfz22_4 := blk_frozen BK138.out 4; have hfz22_5 := blk_frozen BK138.out 5; have hfz22_6 := blk_frozen BK138.out 6; have hfz22_7 := blk_frozen BK138.out 7; have hcz23_0 : w20.cell? ⟨gb136, 0, none⟩ = some (.int .i64 ((rd_T44 l0 x35_2).f0)) := (blk_cell BK136.out 0).trans rfl; have hcz23_1 : w20.cell? ⟨gb136, 1, none⟩ = some (.int .i64 ((rd_T44 l0 x35_2).f1)) := (blk_cell BK136.out 1).trans rfl; have hcz23_2 : w20.cell? ⟨gb136, 2, none⟩ = some (.int .i64 ((rd_T44 l0 x35_2).f2)) := (blk_cell BK136.out 2).trans rfl; have hcz23_3 : w20.cell? ⟨gb136, 3, none⟩ = some (.int .i64 ((rd_T44 l0 x35_2).f3)) := (blk_cell BK136.out 3).trans rfl; have hcz23_4 : w20.cell? ⟨gb136, 4, none⟩ = some (.int .i64 ((rd_T44 l0 x35_2).f4)) := (blk_cell BK136.out 4).trans rfl; have hcz23_5 : w20.cell? ⟨gb136, 5, none⟩ = some (.int .i64 ((rd_T44 l0 x35_2).f5)) := (blk_cell BK136.out 5).trans rfl; have hcz23_6 : w20.cell? ⟨gb136, 6, none⟩ = some (.int .i64 ((rd_T44 l0 x35_2).f6)) := (blk_cell BK136.out 6).trans rfl; have hcz23_7 : w20.cell? ⟨gb136, 7, none⟩ = some (.bool ((rd_T44 l0 x35_2).f7)) := (blk_cell BK136.out 7).trans rfl; have hfz23_0 := blk_frozen BK136.out 0; have hfz23_1 := blk_frozen BK136.out 1; have hfz23_2 := blk_frozen BK136.out 2; have hfz23_3 := blk_frozen BK136.out 3; have hfz23_4 := blk_frozen BK136.out 4; have hfz23_5 := blk_frozen BK136.out 5; have hfz23_6 := blk_frozen BK136.out 6; have hfz23_7 := blk_frozen BK136.out 7))
                                go_roundg k3
                                case measure => have := HK1.out; have := HK2.out; have := HK3.out; omega
                                case rel => exact ⟨(x11_3), (wrap64 (x41_3 + 1)), (by first | rfl | (simp; done) | (simp [*]; done)), (by first | rfl | (simp; done) | (simp [*]; done)), H', ⟨by have := HK1.out; have := HK2.out; have := HK3.out; omega⟩, ⟨by (with_reducible repeat (first | refine blk_drewN ?_ _ | refine blk_drew ?_ | refine blk_alloc ?_ _)); refine blk_far ?_ NB136_138.out _; (with_reducible repeat (first | refine blk_drewN ?_ _ | refine blk_drew ?_ | refine blk_alloc ?_ _)); refine blk_far ?_ NB136_138.out _; (with_reducible repeat (first | refine blk_drewN ?_ _ | refine blk_drew ?_ | refine blk_alloc ?_ _)); refine blk_far ?_ NB136_138.out _; (with_reducible repeat (first | refine blk_drewN ?_ _ | refine blk_drew ?_ | refine blk_alloc ?_ _)); refine blk_far ?_ NB136_138.out _; (with_reducible repeat (first | refine blk_drewN ?_ _ | refine blk_drew ?_ | refine blk_alloc ?_ _)); refine blk_far ?_ NB136_138.out _; (with_reducible repeat (first | refine blk_drewN ?_ _ | refine blk_drew ?_ | refine blk_alloc ?_ _)); refine blk_far ?_ NB136_138.out _; (with_reducible repeat (first | refine blk_drewN ?_ _ | refine blk_drew ?_ | refine blk_alloc ?_ _)); refine blk_far ?_ NB136_138.out _; (with_reducible repeat (first | refine blk_drewN ?_ _ | refine blk_drew ?_ | refine blk_alloc ?_ _)); refine blk_far ?_ NB136_138.out _; (with_reducible repeat (first | refine blk_drewN ?_ _ | refine blk_drew ?_ | refine blk_alloc ?_ _)); exact BK136.out⟩, ⟨by repeat (first | (with_reducible first | exact HB.out | apply below_alloc | apply pw_below_drewN | apply below_drew1 | refine below_set ?_ GE136.out | refine below_set ?_ GE138.out) | exact HB.out)⟩⟩
                            · rw [if_neg c14] at H
                              exact absurd H (by simp)
                          · rw [if_neg c13] at H
                            exact absurd H (by simp)
                        · rw [if_neg c12] at H
                          have c12b0 : decide (x41_3 < (l0.length : Int)) = false := decide_eq_false c12
                          clear c12
                          have H' := Aside0.mk H
                          clear H
                          go_wp2
                          go_loopg [10, 53] k3 (fun kq v10 v53 w' => ∃ (x10_4 : Int) (x53_4 : Int), v10 = .int .i64 x10_4 ∧ v53 = .int .i64 x53_4 ∧ Aside0 (storagebarterlaw26_again.l3 kq l0 l1 x10_4 x11_3 l0 (l0.length : Int) x35_2 l1 (l1.length : Int) x53_4 ((rd_T44 l0 x35_2).f0) ((rd_T44 l0 x35_2).f1) ((rd_T44 l0 x35_2).f2) ((rd_T44 l0 x35_2).f3) ((rd_T44 l0 x35_2).f4) ((rd_T44 l0 x35_2).f5) ((rd_T44 l0 x35_2).f6) ((rd_T44 l0 x35_2).f7) = some r) ∧ Aside0 (kq ≤ k3) ∧ Aside0 (w'.heap[gb136]? = some (.cells #[.int .i64 ((rd_T44 l0 x35_2).f0), .int .i64 ((rd_T44 l0 x35_2).f1), .int .i64 ((rd_T44 l0 x35_2).f2), .int .i64 ((rd_T44 l0 x35_2).f3), .int .i64 ((rd_T44 l0 x35_2).f4), .int .i64 ((rd_T44 l0 x35_2).f5), .int .i64 ((rd_T44 l0 x35_2).f6), .bool ((rd_T44 l0 x35_2).f7)] 44 (0, 0))) ∧ Aside0 (Below w.heap.size w w'))
                          case atStart => exact ⟨(0), (0), (by first | rfl | (simp; done) | (simp [*]; done)), (by first | rfl | (simp; done) | (simp [*]; done)), H', ⟨Nat.le_refl _⟩, ⟨by (with_reducible repeat (first | refine blk_drewN ?_ _ | refine blk_drew ?_ | refine blk_alloc ?_ _)); exact BK136.out⟩, ⟨by repeat (first | (with_reducible first | exact HB.out | apply below_alloc | apply pw_below_drewN | apply below_drew1 | refine below_set ?_ GE136.out) | exact HB.out)⟩⟩
                          case round =>
                            clear H'
                            try clear c1
                            try clear p1
                            try clear q1
                            try clear hx1
                            try clear c2
                            try clear p2
                            try clear c3
                            try clear c3b0
                            try clear c4
                            try clear c4b0
                            try clear c5
                            try clear c5b0
                            try clear c6
                            try clear c6b0
                            try clear c6b1
                            try clear p6
                            try clear c7
                            try clear c7b0
                            try clear c8
                            try clear c8b0
                            try clear c9
                            try clear c9b0
                            try clear c12
                            try clear c12b0
                            try clear c13
                            try clear c13b0
                            try clear p13
                            try clear q13
                            try clear hx13
                            try clear c14
                            try clear c14b0
                            try clear c15
                            try clear c15b0
                            try clear c15b1
                            try clear c15b2
                            try clear c17
                            try clear c21
                            try clear hcz11_0
                            try clear hcz11_1
                            try clear hcz11_2
                            try clear hcz11_3
                            try clear hcz11_4
                            try clear hcz11_5
                            try clear hcz11_6
                            try clear hcz11_7
                            try clear hcz18_0
                            try clear hcz18_1
                            try clear hcz18_2
                            try clear hcz18_3
                            try clear hcz18_4
                            try clear hcz18_5
                            try clear hcz18_6
                            try clear hcz18_7
                            try clear hcz19_0
                            try clear hcz19_1
                            try clear hcz19_2
                            try clear hcz19_3
                            try clear hcz19_4
                            try clear hcz19_5
                            try clear hcz19_6
                            try clear hcz19_7
                            try clear hcz22_0
                            try clear hcz22_1
                            try clear hcz22_2
                            try clear hcz22_3
                            try clear hcz22_4
                            try clear hcz22_5
                            try clear hcz22_6
                            try clear hcz22_7
                            try clear hcz23_0
                            try clear hcz23_1
                            try clear hcz23_2
                            try clear hcz23_3
                            try clear hcz23_4
                            try clear hcz23_5
                            try clear hcz23_6
                            try clear hcz23_7
                            try clear hfz11_0
                            try clear hfz11_1
                            try clear hfz11_2
                            try clear hfz11_3
                            try clear hfz11_4
                            try clear hfz11_5
                            try clear hfz11_6
                            try clear hfz11_7
                            try clear hfz18_0
                            try clear hfz18_1
                            try clear hfz18_2
                            try clear hfz18_3
                            try clear hfz18_4
                            try clear hfz18_5
                            try clear hfz18_6
                            try clear hfz18_7
                            try clear hfz19_0
                            try clear hfz19_1
                            try clear hfz19_2
                            try clear hfz19_3
                            try clear hfz19_4
                            try clear hfz19_5
                            try clear hfz19_6
                            try clear hfz19_7
                            try clear hfz22_0
                            try clear hfz22_1
                            try clear hfz22_2
                            try clear hfz22_3
                            try clear hfz22_4
                            try clear hfz22_5
                            try clear hfz22_6
                            try clear hfz22_7
                            try clear hfz23_0
                            try clear hfz23_1
                            try clear hfz23_2
                            try clear hfz23_3
                            try clear hfz23_4
                            try clear hfz23_5
                            try clear hfz23_6
                            try clear hfz23_7
                            try clear hx134_0
                            try clear hx135_0
                            try clear hx135_1
                            try clear hx135_2
                            try clear hx135_3
                            try clear hx135_4
                            try clear hx135_5
                            try clear hx135_6
                            try clear hx135_7
                            try clear hx137_0
                            try clear hx137_1
                            try clear hx137_2
                            try clear hx137_3
                            try clear hx137_4
                            try clear hx137_5
                            try clear hx137_6
                            try clear hx137_7
                            try clear p1
                            try clear p134
                            try clear p135
                            try clear p137
                            try clear p2
                            try clear p6
                            try clear q1
                            try clear q134
                            try clear q135
                            try clear q137
                            obtain ⟨x10_4, x53_4, rfl, rfl, HA, HK4, BK136, HB⟩ := hrel
                            cases gk with
                            | zero => exact absurd HA.out (by simp [storagebarterlaw26_again.l3])
                            | succ k4 =>
                              have H := HA.out
                              clear HA
                              simp only [storagebarterlaw26_again.l3] at H
                              by_cases c24 : x53_4 < (l1.length : Int)
                              · rw [if_pos c24] at H
                                have c24b0 : decide (x53_4 < (l1.length : Int)) = true := decide_eq_true c24
                                clear c24
                                by_cases c25 : 0 ≤ x53_4
                                · rw [if_pos c25] at H
                                  have c25b0 : decide (0 ≤ x53_4) = true := decide_eq_true c25
                                  clear c25
                                  by_cases c26 : x53_4 < (l1.length : Int)
                                  · rw [if_pos c26] at H
                                    have c26b0 : decide (x53_4 < (l1.length : Int)) = true := decide_eq_true c26
                                    clear c26
                                    have H' := Aside0.mk H
                                    clear H
                                    have p139 : 0 ≤ (x53_4 : Int) := of_decide_eq_true (by first | (with_reducible assumption) | assumption)
                                    have q139 : x53_4 < (l1.length : Int) := of_decide_eq_true (by first | (with_reducible assumption) | assumption)
                                    obtain ⟨ad139, A139_0, c139_0, e139, hx139_0, hl139_0, hi139_0⟩ := at_L3 HR1.out x53_4 p139 q139
                                    cases e139
                                    replace hx139_0 := (HB.out.cell (World.block_lt_of_cell? w _ hx139_0)).trans hx139_0
                                    have HR139_0 := Aside0.mk hi139_0
                                    have HC139_0 := Aside0.mk hl139_0
                                    clear hi139_0 hl139_0
                                    replace p139 := eq_true p139
                                    replace q139 := eq_true q139
                                    go_wp2
                                    go_loopg [10, 59] k4 (fun kq v10 v59 w' => ∃ (x10_5 : Int) (x59_5 : Int), v10 = .int .i64 x10_5 ∧ v59 = .int .i64 x59_5 ∧ Aside0 (storagebarterlaw26_again.l4 kq l0 l1 x10_5 x11_3 l0 (l0.length : Int) x35_2 l1 (l1.length : Int) x53_4 (rd_L3 l1 x53_4) ((rd_L3 l1 x53_4).length : Int) x59_5 ((rd_T44 l0 x35_2).f0) ((rd_T44 l0 x35_2).f1) ((rd_T44 l0 x35_2).f2) ((rd_T44 l0 x35_2).f3) ((rd_T44 l0 x35_2).f4) ((rd_T44 l0 x35_2).f5) ((rd_T44 l0 x35_2).f6) ((rd_T44 l0 x35_2).f7) = some r) ∧ Aside0 (kq ≤ k4) ∧ Aside0 (w'.heap[gb136]? = some (.cells #[.int .i64 ((rd_T44 l0 x35_2).f0), .int .i64 ((rd_T44 l0 x35_2).f1), .int .i64 ((rd_T44 l0 x35_2).f2), .int .i64 ((rd_T44 l0 x35_2).f3), .int .i64 ((rd_T44 l0 x35_2).f4), .int .i64 ((rd_T44 l0 x35_2).f5), .int .i64 ((rd_T44 l0 x35_2).f6), .bool ((rd_T44 l0 x35_2).f7)] 44 (0, 0))) ∧ Aside0 (Below w.heap.size w w'))
                                    case atStart => exact ⟨(x10_4), (0), (by first | rfl | (simp; done) | (simp [*]; done)), (by first | rfl | (simp; done) | (simp [*]; done)), H', ⟨Nat.le_refl _⟩, ⟨by (with_reducible repeat (first | refine blk_drewN ?_ _ | refine blk_drew ?_ | refine blk_alloc ?_ _)); exact BK136.out⟩, ⟨by repeat (first | (with_reducible first | exact HB.out | apply below_alloc | apply pw_below_drewN | apply below_drew1 | refine below_set ?_ GE136.out) | exact HB.out)⟩⟩
                                    case round =>
                                      clear H'
                                      try clear c1
                                      try clear p1
                                      try clear q1
                                      try clear hx1
                                      try clear c2
                                      try clear p2
                                      try clear c3
                                      try clear c3b0
                                      try clear c4
                                      try clear c4b0
                                      try clear c5
                                      try clear c5b0
                                      try clear c6
                                      try clear c6b0
                                      try clear c6b1
                                      try clear p6
                                      try clear c7
                                      try clear c7b0
                                      try clear c8
                                      try clear c8b0
                                      try clear c9
                                      try clear c9b0
                                      try clear c12
                                      try clear c12b0
                                      try clear c13
                                      try clear c13b0
                                      try clear p13
                                      try clear q13
                                      try clear hx13
                                      try clear c14
                                      try clear c14b0
                                      try clear c15
                                      try clear c15b0
                                      try clear c15b1
                                      try clear c15b2
                                      try clear c17
                                      try clear c21
                                      try clear c24
                                      try clear c24b0
                                      try clear c25
                                      try clear c25b0
                                      try clear c26
                                      try clear c26b0
                                      try clear hcz11_0
                                      try clear hcz11_1
                                      try clear hcz11_2
                                      try clear hcz11_3
                                      try clear hcz11_4
                                      try clear hcz11_5
                                      try clear hcz11_6
                                      try clear hcz11_7
                                      try clear hcz18_0
                                      try clear hcz18_1
                                      try clear hcz18_2
                                      try clear hcz18_3
                                      try clear hcz18_4
                                      try clear hcz18_5
                                      try clear hcz18_6
                                      try clear hcz18_7
                                      try clear hcz19_0
                                      try clear hcz19_1
                                      try clear hcz19_2
                                      try clear hcz19_3
                                      try clear hcz19_4
                                      try clear hcz19_5
                                      try clear hcz19_6
                                      try clear hcz19_7
                                      try clear hcz22_0
                                      try clear hcz22_1
                                      try clear hcz22_2
                                      try clear hcz22_3
                                      try clear hcz22_4
                                      try clear hcz22_5
                                      try clear hcz22_6
                                      try clear hcz22_7
                                      try clear hcz23_0
                                      try clear hcz23_1
                                      try clear hcz23_2
                                      try clear hcz23_3
                                      try clear hcz23_4
                                      try clear hcz23_5
                                      try clear hcz23_6
                                      try clear hcz23_7
                                      try clear hfz11_0
                                      try clear hfz11_1
                                      try clear hfz11_2
                                      try clear hfz11_3
                                      try clear hfz11_4
                                      try clear hfz11_5
                                      try clear hfz11_6
                                      try clear hfz11_7
                                      try clear hfz18_0
                                      try clear hfz18_1
                                      try clear hfz18_2
                                      try clear hfz18_3
                                      try clear hfz18_4
                                      try clear hfz18_5
                                      try clear hfz18_6
                                      try clear hfz18_7
                                      try clear hfz19_0
                                      try clear hfz19_1
                                      try clear hfz19_2
                                      try clear hfz19_3
                                      try clear hfz19_4
                                      try clear hfz19_5
                                      try clear hfz19_6
                                      try clear hfz19_7
                                      try clear hfz22_0
                                      try clear hfz22_1
                                      try clear hfz22_2
                                      try clear hfz22_3
                                      try clear hfz22_4
                                      try clear hfz22_5
                                      try clear hfz22_6
                                      try clear hfz22_7
                                      try clear hfz23_0
                                      try clear hfz23_1
                                      try clear hfz23_2
                                      try clear hfz23_3
                                      try clear hfz23_4
                                      try clear hfz23_5
                                      try clear hfz23_6
                                      try clear hfz23_7
                                      try clear hx134_0
                                      try clear hx135_0
                                      try clear hx135_1
                                      try clear hx135_2
                                      try clear hx135_3
                                      try clear hx135_4
                                      try clear hx135_5
                                      try clear hx135_6
                                      try clear hx135_7
                                      try clear hx137_0
                                      try clear hx137_1
                                      try clear hx137_2
                                      try clear hx137_3
                                      try clear hx137_4
                                      try clear hx137_5
                                      try clear hx137_6
                                      try clear hx137_7
                                      try clear hx139_0
                                      try clear p1
                                      try clear p13
                                      try clear p134
                                      try clear p135
                                      try clear p137
                                      try clear p139
                                      try clear p2
                                      try clear p6
                                      try clear q1
                                      try clear q13
                                      try clear q134
                                      try clear q135
                                      try clear q137
                                      try clear q139
                                      obtain ⟨x10_5, x59_5, rfl, rfl, HA, HK5, BK136, HB⟩ := hrel
                                      cases gk with
                                      | zero => exact absurd HA.out (by simp [storagebarterlaw26_again.l4])
                                      | succ k5 =>
                                        have H := HA.out
                                        clear HA
                                        simp only [storagebarterlaw26_again.l4] at H
                                        by_cases c27 : x59_5 < ((rd_L3 l1 x53_4).length : Int)
                                        · rw [if_pos c27] at H
                                          have c27b0 : decide (x59_5 < ((rd_L3 l1 x53_4).length : Int)) = true := decide_eq_true c27
                                          clear c27
                                          by_cases c28 : 0 ≤ x59_5
                                          · rw [if_pos c28] at H
                                            have c28b0 : decide (0 ≤ x59_5) = true := decide_eq_true c28
                                            clear c28
                                            by_cases c29 : x59_5 < ((rd_L3 l1 x53_4).length : Int)
                                            · rw [if_pos c29] at H
                                              have c29b0 : decide (x59_5 < ((rd_L3 l1 x53_4).length : Int)) = true := decide_eq_true c29
                                              clear c29
                                              by_cases c30 : (((rd_T44 l0 x35_2).f0) == ((rd_T44 (rd_L3 l1 x53_4) x59_5).f0) && (((rd_T44 l0 x35_2).f1) == ((rd_T44 (rd_L3 l1 x53_4) x59_5).f1) && (((rd_T44 l0 x35_2).f2) == ((rd_T44 (rd_L3 l1 x53_4) x59_5).f2) && (((rd_T44 l0 x35_2).f3) == ((rd_T44 (rd_L3 l1 x53_4) x59_5).f3) && (((rd_T44 l0 x35_2).f4) == ((rd_T44 (rd_L3 l1 x53_4) x59_5).f4) && (((rd_T44 l0 x35_2).f5) == ((rd_T44 (rd_L3 l1 x53_4) x59_5).f5) && (((rd_T44 l0 x35_2).f6) == ((rd_T44 (rd_L3 l1 x53_4) x59_5).f6) && (((rd_T44 l0 x35_2).f7) == ((rd_T44 (rd_L3 l1 x53_4) x59_5).f7))))))))) = true
                                              · rw [if_pos c30] at H
                                                have c30b0 : (((rd_T44 l0 x35_2).f0) == ((rd_T44 (rd_L3 l1 x53_4) x59_5).f0) && (((rd_T44 l0 x35_2).f1) == ((rd_T44 (rd_L3 l1 x53_4) x59_5).f1) && (((rd_T44 l0 x35_2).f2) == ((rd_T44 (rd_L3 l1 x53_4) x59_5).f2) && (((rd_T44 l0 x35_2).f3) == ((rd_T44 (rd_L3 l1 x53_4) x59_5).f3) && (((rd_T44 l0 x35_2).f4) == ((rd_T44 (rd_L3 l1 x53_4) x59_5).f4) && (((rd_T44 l0 x35_2).f5) == ((rd_T44 (rd_L3 l1 x53_4) x59_5).f5) && (((rd_T44 l0 x35_2).f6) == ((rd_T44 (rd_L3 l1 x53_4) x59_5).f6) && (((rd_T44 l0 x35_2).f7) == ((rd_T44 (rd_L3 l1 x53_4) x59_5).f7))))))))) = true := c30
                                                (try (have c30b1 : decide (((rd_T44 l0 x35_2).f0) = ((rd_T44 (rd_L3 l1 x53_4) x59_5).f0) && (((rd_T44 l0 x35_2).f1) == ((rd_T44 (rd_L3 l1 x53_4) x59_5).f1) && (((rd_T44 l0 x35_2).f2) == ((rd_T44 (rd_L3 l1 x53_4) x59_5).f2) && (((rd_T44 l0 x35_2).f3) == ((rd_T44 (rd_L3 l1 x53_4) x59_5).f3) && (((rd_T44 l0 x35_2).f4) == ((rd_T44 (rd_L3 l1 x53_4) x59_5).f4) && (((rd_T44 l0 x35_2).f5) == ((rd_T44 (rd_L3 l1 x53_4) x59_5).f5) && (((rd_T44 l0 x35_2).f6) == ((rd_T44 (rd_L3 l1 x53_4) x59_5).f6) && (((rd_T44 l0 x35_2).f7) == ((rd_T44 (rd_L3 l1 x53_4) x59_5).f7))))))))) = true := by simpa using c30))
                                                (try (have c30b2 : (((rd_T44 l0 x35_2).f0) == ((rd_T44 (rd_L3 l1 x53_4) x59_5).f0) && (((rd_T44 l0 x35_2).f1) == ((rd_T44 (rd_L3 l1 x53_4) x59_5).f1) && (((rd_T44 l0 x35_2).f2) == ((rd_T44 (rd_L3 l1 x53_4) x59_5).f2) && (((rd_T44 l0 x35_2).f3) == ((rd_T44 (rd_L3 l1 x53_4) x59_5).f3) && (((rd_T44 l0 x35_2).f4) == ((rd_T44 (rd_L3 l1 x53_4) x59_5).f4) && (((rd_T44 l0 x35_2).f5) == ((rd_T44 (rd_L3 l1 x53_4) x59_5).f5) && (((rd_T44 l0 x35_2).f6) == ((rd_T44 (rd_L3 l1 x53_4) x59_5).f6) && (((rd_T44 l0 x35_2).f7) == ((rd_T44 (rd_L3 l1 x53_4) x59_5).f7))))))))) = true := by simpa using c30))
                                                clear c30
                                                have H' := Aside0.mk H
                                                clear H
                                                have p140 : 0 ≤ (x59_5 : Int) := of_decide_eq_true (by first | (with_reducible assumption) | assumption)
                                                have q140 : x59_5 < ((rd_L3 l1 x53_4).length : Int) := of_decide_eq_true (by first | (with_reducible assumption) | assumption)
                                                obtain ⟨ad140, e140, hx140_0, hx140_1, hx140_2, hx140_3, hx140_4, hx140_5, hx140_6, hx140_7⟩ := at_T44 HR139_0.out x59_5 p140 q140
                                                cases e140
                                                replace hx140_0 := (HB.out.cell (World.block_lt_of_cell? w _ hx140_0)).trans hx140_0
                                                replace hx140_1 := (HB.out.cell (World.block_lt_of_cell? w _ hx140_1)).trans hx140_1
                                                replace hx140_2 := (HB.out.cell (World.block_lt_of_cell? w _ hx140_2)).trans hx140_2
                                                replace hx140_3 := (HB.out.cell (World.block_lt_of_cell? w _ hx140_3)).trans hx140_3
                                                replace hx140_4 := (HB.out.cell (World.block_lt_of_cell? w _ hx140_4)).trans hx140_4
                                                replace hx140_5 := (HB.out.cell (World.block_lt_of_cell? w _ hx140_5)).trans hx140_5
                                                replace hx140_6 := (HB.out.cell (World.block_lt_of_cell? w _ hx140_6)).trans hx140_6
                                                replace hx140_7 := (HB.out.cell (World.block_lt_of_cell? w _ hx140_7)).trans hx140_7
                                                replace p140 := eq_true p140
                                                replace q140 := eq_true q140
                                                go_wp2_with (first | ((with_reducible refine gate_dst (N := 17) rfl ?_); refine box_event ?hg (N := 17) ?hd (cs := #[.int .i64 0, .int .i64 0, .int .i64 0, .int .i64 0, .int .i64 0, .int .i64 0, .int .i64 0, .bool false]) (t := 44) ?hr ?_; (case hd => rfl); (case hg => rfl); (case hr => first | (go_simp; done) | (go_simp; rfl)); intro gb141 hg w31 hbox hb; have n0_ := Aside0.mk (blk_below (g := gb136) (o := .cells #[.int .i64 ((rd_T44 l0 x35_2).f0), .int .i64 ((rd_T44 l0 x35_2).f1), .int .i64 ((rd_T44 l0 x35_2).f2), .int .i64 ((rd_T44 l0 x35_2).f3), .int .i64 ((rd_T44 l0 x35_2).f4), .int .i64 ((rd_T44 l0 x35_2).f5), .int .i64 ((rd_T44 l0 x35_2).f6), .bool ((rd_T44 l0 x35_2).f7)] 44 (0, 0)) (by (with_reducible repeat (first | refine blk_drewN ?_ _ | refine blk_drew ?_ | refine blk_alloc ?_ _)); exact BK136.out) hb); have n1_ := Aside0.mk (below_step (by repeat (first | (with_reducible first | exact HB.out | apply below_alloc | apply pw_below_drewN | apply below_drew1 | refine below_set ?_ GE136.out) | exact HB.out)) hb); have n2_ := Aside0.mk (hbox); have n3_ := Aside0.mk ((by rw [hg]; exact (below_size (by repeat (first | (with_reducible first | exact HB.out | apply below_alloc | apply pw_below_drewN | apply below_drew1 | refine below_set ?_ GE136.out) | exact HB.out))) : w.heap.size ≤ gb141)); have n4_ := Aside0.mk ((by rw [hg]; exact (below_size (by repeat (first | (with_reducible first | exact HB.out | apply below_alloc | apply pw_below_drewN | apply below_drew1 | refine below_set ?_ GE136.out) | exact HB.out))) : w.heap.size ≤ gb141)); have n5_ := Aside0.mk ((by rw [hg]; exact Nat.ne_of_lt (blk_lt (g := gb136) (o := .cells #[.int .i64 ((rd_T44 l0 x35_2).f0), .int .i64 ((rd_T44 l0 x35_2).f1), .int .i64 ((rd_T44 l0 x35_2).f2), .int .i64 ((rd_T44 l0 x35_2).f3), .int .i64 ((rd_T44 l0 x35_2).f4), .int .i64 ((rd_T44 l0 x35_2).f5), .int .i64 ((rd_T44 l0 x35_2).f6), .bool ((rd_T44 l0 x35_2).f7)] 44 (0, 0)) (by (with_reducible repeat (first | refine blk_drewN ?_ _ | refine blk_drew ?_ | refine blk_alloc ?_ _)); exact BK136.out)) : gb136 ≠ gb141)); have n6_ := Aside0.mk ((by rw [hg]; exact Nat.ne_of_gt (blk_lt (g := gb136) (o := .cells #[.int .i64 ((rd_T44 l0 x35_2).f0), .int .i64 ((rd_T44 l0 x35_2).f1), .int .i64 ((rd_T44 l0 x35_2).f2), .int .i64 ((rd_T44 l0 x35_2).f3), .int .i64 ((rd_T44 l0 x35_2).f4), .int .i64 ((rd_T44 l0 x35_2).f5), .int .i64 ((rd_T44 l0 x35_2).f6), .bool ((rd_T44 l0 x35_2).f7)] 44 (0, 0)) (by (with_reducible repeat (first | refine blk_drewN ?_ _ | refine blk_drew ?_ | refine blk_alloc ?_ _)); exact BK136.out)) : gb141 ≠ gb136)); clear BK136; clear HB; have BK136 := n0_; have HB := n1_; have BK141 := n2_; have GW141 := n3_; have GE141 := n4_; have NB136_141 := n5_; have NB141_136 := n6_; clear n0_ n1_ n2_ n3_ n4_ n5_ n6_; clear hb hbox hg; have hnb32 := NB141_136.out; have hnc32 := NB136_141.out; have hcz33_0 : w31.cell? ⟨gb141, 0, none⟩ = some (.int .i64 0) := (blk_cell BK141.out 0).trans rfl; have hcz33_1 : w31.cell? ⟨gb141, 1, none⟩ = some (.int .i64 0) := (blk_cell BK141.out 1).trans rfl; have hcz33_2 : w31.cell? ⟨gb141, 2, none⟩ = some (.int .i64 0) := (blk_cell BK141.out 2).trans rfl; have hcz33_3 : w31.cell? ⟨gb141, 3, none⟩ = some (.int .i64 0) := (blk_cell BK141.out 3).trans rfl; have hcz33_4 : w31.cell? ⟨gb141, 4, none⟩ = some (.int .i64 0) := (blk_cell BK141.out 4).trans rfl; have hcz33_5 : w31.cell? ⟨gb141, 5, none⟩ = some (.int .i64 0) := (blk_cell BK141.out 5).trans rfl; have hcz33_6 : w31.cell? ⟨gb141, 6, none⟩ = some (.int .i64 0) := (blk_cell BK141.out 6).trans rfl; have hcz33_7 : w31.cell? ⟨gb141, 7, none⟩ = some (.bool false) := (blk_cell BK141.out 7).trans rfl; have hfz33_0 := blk_frozen BK141.out 0; have hfz33_1 := blk_frozen BK141.out 1; have hfz33_2 := blk_frozen BK141.out 2; have hfz33_3 := blk_frozen BK141.out 3; have hfz33_4 := blk_frozen BK141.out 4; have hfz33_5 := blk_frozen BK141.out 5; have hfz33_6 := blk_frozen BK141.out 6; have hfz33_7 := blk_frozen BK141.out 7; have hcz34_0 : w31.cell? ⟨gb136, 0, none⟩ = some (.int .i64 ((rd_T44 l0 x35_2).f0)) := (blk_cell BK136.out 0).trans rfl; have hcz34_1 : w31.cell? ⟨gb136, 1, none⟩ = some (.int .i64 ((rd_T44 l0 x35_2).f1)) := (blk_cell BK136.out 1).trans rfl; have hcz34_2 : w31.cell? ⟨gb136, 2, none⟩ = some (.int .i64 ((rd_T44 l0 x35_2).f2)) := (blk_cell BK136.out 2).trans rfl; have hcz34_3 : w31.cell? ⟨gb136, 3, none⟩ = some (.int .i64 ((rd_T44 l0 x35_2).f3)) := (blk_cell BK136.out 3).trans rfl; have hcz34_4 : w31.cell? ⟨gb136, 4, none⟩ = some (.int .i64 ((rd_T44 l0 x35_2).f4)) := (blk_cell BK136.out 4).trans rfl; have hcz34_5 : w31.cell? ⟨gb136, 5, none⟩ = some (.int .i64 ((rd_T44 l0 x35_2).f5)) := (blk_cell BK136.out 5).trans rfl; have hcz34_6 : w31.cell? ⟨gb136, 6, none⟩ = some (.int .i64 ((rd_T44 l0 x35_2).f6)) := (blk_cell BK136.out 6).trans rfl; have hcz34_7 : w31.cell? ⟨gb136, 7, none⟩ = some (.bool ((rd_T44 l0 x35_2).f7)) := (blk_cell BK136.out 7).trans rfl; have hfz34_0 := blk_frozen BK136.out 0; have hfz34_1 := blk_frozen BK136.out 1; have hfz34_2 := blk_frozen BK136.out 2; have hfz34_3 := blk_frozen BK136.out 3; have hfz34_4 := blk_frozen BK136.out 4; have hfz34_5 := blk_frozen BK136.out 5; have hfz34_6 := blk_frozen BK136.out 6; have hfz34_7 := blk_frozen BK136.out 7))
                                                go_roundg k5
                                                case measure => have := HK1.out; have := HK2.out; have := HK3.out; have := HK4.out; have := HK5.out; omega
                                                case rel => exact ⟨(wrap64 (x10_5 + 1)), (wrap64 (x59_5 + 1)), (by first | rfl | (simp; done) | (simp [*]; done)), (by first | rfl | (simp; done) | (simp [*]; done)), H', ⟨by have := HK1.out; have := HK2.out; have := HK3.out; have := HK4.out; have := HK5.out; omega⟩, ⟨by (with_reducible repeat (first | refine blk_drewN ?_ _ | refine blk_drew ?_ | refine blk_alloc ?_ _)); refine blk_far ?_ NB136_141.out _; (with_reducible repeat (first | refine blk_drewN ?_ _ | refine blk_drew ?_ | refine blk_alloc ?_ _)); refine blk_far ?_ NB136_141.out _; (with_reducible repeat (first | refine blk_drewN ?_ _ | refine blk_drew ?_ | refine blk_alloc ?_ _)); refine blk_far ?_ NB136_141.out _; (with_reducible repeat (first | refine blk_drewN ?_ _ | refine blk_drew ?_ | refine blk_alloc ?_ _)); refine blk_far ?_ NB136_141.out _; (with_reducible repeat (first | refine blk_drewN ?_ _ | refine blk_drew ?_ | refine blk_alloc ?_ _)); refine blk_far ?_ NB136_141.out _; (with_reducible repeat (first | refine blk_drewN ?_ _ | refine blk_drew ?_ | refine blk_alloc ?_ _)); refine blk_far ?_ NB136_141.out _; (with_reducible repeat (first | refine blk_drewN ?_ _ | refine blk_drew ?_ | refine blk_alloc ?_ _)); refine blk_far ?_ NB136_141.out _; (with_reducible repeat (first | refine blk_drewN ?_ _ | refine blk_drew ?_ | refine blk_alloc ?_ _)); refine blk_far ?_ NB136_141.out _; (with_reducible repeat (first | refine blk_drewN ?_ _ | refine blk_drew ?_ | refine blk_alloc ?_ _)); exact BK136.out⟩, ⟨by repeat (first | (with_reducible first | exact HB.out | apply below_alloc | apply pw_below_drewN | apply below_drew1 | refine below_set ?_ GE136.out | refine below_set ?_ GE141.out) | exact HB.out)⟩⟩
                                              · rw [if_neg c30] at H
                                                have c30b0 : (((rd_T44 l0 x35_2).f0) == ((rd_T44 (rd_L3 l1 x53_4) x59_5).f0) && (((rd_T44 l0 x35_2).f1) == ((rd_T44 (rd_L3 l1 x53_4) x59_5).f1) && (((rd_T44 l0 x35_2).f2) == ((rd_T44 (rd_L3 l1 x53_4) x59_5).f2) && (((rd_T44 l0 x35_2).f3) == ((rd_T44 (rd_L3 l1 x53_4) x59_5).f3) && (((rd_T44 l0 x35_2).f4) == ((rd_T44 (rd_L3 l1 x53_4) x59_5).f4) && (((rd_T44 l0 x35_2).f5) == ((rd_T44 (rd_L3 l1 x53_4) x59_5).f5) && (((rd_T44 l0 x35_2).f6) == ((rd_T44 (rd_L3 l1 x53_4) x59_5).f6) && (((rd_T44 l0 x35_2).f7) == ((rd_T44 (rd_L3 l1 x53_4) x59_5).f7))))))))) = false := by simpa using c30
                                                (try (have c30b1 : decide (((rd_T44 l0 x35_2).f0) = ((rd_T44 (rd_L3 l1 x53_4) x59_5).f0) && (((rd_T44 l0 x35_2).f1) == ((rd_T44 (rd_L3 l1 x53_4) x59_5).f1) && (((rd_T44 l0 x35_2).f2) == ((rd_T44 (rd_L3 l1 x53_4) x59_5).f2) && (((rd_T44 l0 x35_2).f3) == ((rd_T44 (rd_L3 l1 x53_4) x59_5).f3) && (((rd_T44 l0 x35_2).f4) == ((rd_T44 (rd_L3 l1 x53_4) x59_5).f4) && (((rd_T44 l0 x35_2).f5) == ((rd_T44 (rd_L3 l1 x53_4) x59_5).f5) && (((rd_T44 l0 x35_2).f6) == ((rd_T44 (rd_L3 l1 x53_4) x59_5).f6) && (((rd_T44 l0 x35_2).f7) == ((rd_T44 (rd_L3 l1 x53_4) x59_5).f7))))))))) = false := by simpa using c30))
                                                (try (have c30b2 : (((rd_T44 l0 x35_2).f0) == ((rd_T44 (rd_L3 l1 x53_4) x59_5).f0) && (((rd_T44 l0 x35_2).f1) == ((rd_T44 (rd_L3 l1 x53_4) x59_5).f1) && (((rd_T44 l0 x35_2).f2) == ((rd_T44 (rd_L3 l1 x53_4) x59_5).f2) && (((rd_T44 l0 x35_2).f3) == ((rd_T44 (rd_L3 l1 x53_4) x59_5).f3) && (((rd_T44 l0 x35_2).f4) == ((rd_T44 (rd_L3 l1 x53_4) x59_5).f4) && (((rd_T44 l0 x35_2).f5) == ((rd_T44 (rd_L3 l1 x53_4) x59_5).f5) && (((rd_T44 l0 x35_2).f6) == ((rd_T44 (rd_L3 l1 x53_4) x59_5).f6) && (((rd_T44 l0 x35_2).f7) == ((rd_T44 (rd_L3 l1 x53_4) x59_5).f7))))))))) = false := by simpa using c30))
                                                (try (have c30b3 : ¬ (((rd_T44 l0 x35_2).f0) = ((rd_T44 (rd_L3 l1 x53_4) x59_5).f0) && (((rd_T44 l0 x35_2).f1) == ((rd_T44 (rd_L3 l1 x53_4) x59_5).f1) && (((rd_T44 l0 x35_2).f2) == ((rd_T44 (rd_L3 l1 x53_4) x59_5).f2) && (((rd_T44 l0 x35_2).f3) == ((rd_T44 (rd_L3 l1 x53_4) x59_5).f3) && (((rd_T44 l0 x35_2).f4) == ((rd_T44 (rd_L3 l1 x53_4) x59_5).f4) && (((rd_T44 l0 x35_2).f5) == ((rd_T44 (rd_L3 l1 x53_4) x59_5).f5) && (((rd_T44 l0 x35_2).f6) == ((rd_T44 (rd_L3 l1 x53_4) x59_5).f6) && (((rd_T44 l0 x35_2).f7) == ((rd_T44 (rd_L3 l1 x53_4) x59_5).f7))))))))) := by simpa using c30))
                                                clear c30
                                                have H' := Aside0.mk H
                                                clear H
                                                have p140 : 0 ≤ (x59_5 : Int) := of_decide_eq_true (by first | (with_reducible assumption) | assumption)
                                                have q140 : x59_5 < ((rd_L3 l1 x53_4).length : Int) := of_decide_eq_true (by first | (with_reducible assumption) | assumption)
                                                obtain ⟨ad140, e140, hx140_0, hx140_1, hx140_2, hx140_3, hx140_4, hx140_5, hx140_6, hx140_7⟩ := at_T44 HR139_0.out x59_5 p140 q140
                                                cases e140
                                                replace hx140_0 := (HB.out.cell (World.block_lt_of_cell? w _ hx140_0)).trans hx140_0
                                                replace hx140_1 := (HB.out.cell (World.block_lt_of_cell? w _ hx140_1)).trans hx140_1
                                                replace hx140_2 := (HB.out.cell (World.block_lt_of_cell? w _ hx140_2)).trans hx140_2
                                                replace hx140_3 := (HB.out.cell (World.block_lt_of_cell? w _ hx140_3)).trans hx140_3
                                                replace hx140_4 := (HB.out.cell (World.block_lt_of_cell? w _ hx140_4)).trans hx140_4
                                                replace hx140_5 := (HB.out.cell (World.block_lt_of_cell? w _ hx140_5)).trans hx140_5
                                                replace hx140_6 := (HB.out.cell (World.block_lt_of_cell? w _ hx140_6)).trans hx140_6
                                                replace hx140_7 := (HB.out.cell (World.block_lt_of_cell? w _ hx140_7)).trans hx140_7
                                                replace p140 := eq_true p140
                                                replace q140 := eq_true q140
                                                go_wp2_with (first | ((with_reducible refine gate_dst (N := 17) rfl ?_); refine box_event ?hg (N := 17) ?hd (cs := #[.int .i64 0, .int .i64 0, .int .i64 0, .int .i64 0, .int .i64 0, .int .i64 0, .int .i64 0, .bool false]) (t := 44) ?hr ?_; (case hd => rfl); (case hg => rfl); (case hr => first | (go_simp; done) | (go_simp; rfl)); intro gb141 hg w35 hbox hb; have n0_ := Aside0.mk (blk_below (g := gb136) (o := .cells #[.int .i64 ((rd_T44 l0 x35_2).f0), .int .i64 ((rd_T44 l0 x35_2).f1), .int .i64 ((rd_T44 l0 x35_2).f2), .int .i64 ((rd_T44 l0 x35_2).f3), .int .i64 ((rd_T44 l0 x35_2).f4), .int .i64 ((rd_T44 l0 x35_2).f5), .int .i64 ((rd_T44 l0 x35_2).f6), .bool ((rd_T44 l0 x35_2).f7)] 44 (0, 0)) (by (with_reducible repeat (first | refine blk_drewN ?_ _ | refine blk_drew ?_ | refine blk_alloc ?_ _)); exact BK136.out) hb); have n1_ := Aside0.mk (below_step (by repeat (first | (with_reducible first | exact HB.out | apply below_alloc | apply pw_below_drewN | apply below_drew1 | refine below_set ?_ GE136.out) | exact HB.out)) hb); have n2_ := Aside0.mk (hbox); have n3_ := Aside0.mk ((by rw [hg]; exact (below_size (by repeat (first | (with_reducible first | exact HB.out | apply below_alloc | apply pw_below_drewN | apply below_drew1 | refine below_set ?_ GE136.out) | exact HB.out))) : w.heap.size ≤ gb141)); have n4_ := Aside0.mk ((by rw [hg]; exact (below_size (by repeat (first | (with_reducible first | exact HB.out | apply below_alloc | apply pw_below_drewN | apply below_drew1 | refine below_set ?_ GE136.out) | exact HB.out))) : w.heap.size ≤ gb141)); have n5_ := Aside0.mk ((by rw [hg]; exact Nat.ne_of_lt (blk_lt (g := gb136) (o := .cells #[.int .i64 ((rd_T44 l0 x35_2).f0), .int .i64 ((rd_T44 l0 x35_2).f1), .int .i64 ((rd_T44 l0 x35_2).f2), .int .i64 ((rd_T44 l0 x35_2).f3), .int .i64 ((rd_T44 l0 x35_2).f4), .int .i64 ((rd_T44 l0 x35_2).f5), .int .i64 ((rd_T44 l0 x35_2).f6), .bool ((rd_T44 l0 x35_2).f7)] 44 (0, 0)) (by (with_reducible repeat (first | refine blk_drewN ?_ _ | refine blk_drew ?_ | refine blk_alloc ?_ _)); exact BK136.out)) : gb136 ≠ gb141)); have n6_ := Aside0.mk ((by rw [hg]; exact Nat.ne_of_gt (blk_lt (g := gb136) (o := .cells #[.int .i64 ((rd_T44 l0 x35_2).f0), .int .i64 ((rd_T44 l0 x35_2).f1), .int .i64 ((rd_T44 l0 x35_2).f2), .int .i64 ((rd_T44 l0 x35_2).f3), .int .i64 ((rd_T44 l0 x35_2).f4), .int .i64 ((rd_T44 l0 x35_2).f5), .int .i64 ((rd_T44 l0 x35_2).f6), .bool ((rd_T44 l0 x35_2).f7)] 44 (0, 0)) (by (with_reducible repeat (first | refine blk_drewN ?_ _ | refine blk_drew ?_ | refine blk_alloc ?_ _)); exact BK136.out)) : gb141 ≠ gb136)); clear BK136; clear HB; have BK136 := n0_; have HB := n1_; have BK141 := n2_; have GW141 := n3_; have GE141 := n4_; have NB136_141 := n5_; have NB141_136 := n6_; clear n0_ n1_ n2_ n3_ n4_ n5_ n6_; clear hb hbox hg; have hnb36 := NB141_136.out; have hnc36 := NB136_141.out; have hcz37_0 : w35.cell? ⟨gb141, 0, none⟩ = some (.int .i64 0) := (blk_cell BK141.out 0).trans rfl; have hcz37_1 : w35.cell? ⟨gb141, 1, none⟩ = some (.int .i64 0) := (blk_cell BK141.out 1).trans rfl; have hcz37_2 : w35.cell? ⟨gb141, 2, none⟩ = some (.int .i64 0) := (blk_cell BK141.out 2).trans rfl; have hcz37_3 : w35.cell? ⟨gb141, 3, none⟩ = some (.int .i64 0) := (blk_cell BK141.out 3).trans rfl; have hcz37_4 : w35.cell? ⟨gb141, 4, none⟩ = some (.int .i64 0) := (blk_cell BK141.out 4).trans rfl; have hcz37_5 : w35.cell? ⟨gb141, 5, none⟩ = some (.int .i64 0) := (blk_cell BK141.out 5).trans rfl; have hcz37_6 : w35.cell? ⟨gb141, 6, none⟩ = some (.int .i64 0) := (blk_cell BK141.out 6).trans rfl; have hcz37_7 : w35.cell? ⟨gb141, 7, none⟩ = some (.bool false) := (blk_cell BK141.out 7).trans rfl; have hfz37_0 := blk_frozen BK141.out 0; have hfz37_1 := blk_frozen BK141.out 1; have hfz37_2 := blk_frozen BK141.out 2; have hfz37_3 := blk_frozen BK141.out 3; have hfz37_4 := blk_frozen BK141.out 4; have hfz37_5 := blk_frozen BK141.out 5; have hfz37_6 := blk_frozen BK141.out 6; have hfz37_7 := blk_frozen BK141.out 7; have hcz38_0 : w35.cell? ⟨gb136, 0, none⟩ = some (.int .i64 ((rd_T44 l0 x35_2).f0)) := (blk_cell BK136.out 0).trans rfl; have hcz38_1 : w35.cell? ⟨gb136, 1, none⟩ = some (.int .i64 ((rd_T44 l0 x35_2).f1)) := (blk_cell BK136.out 1).trans rfl; have hcz38_2 : w35.cell? ⟨gb136, 2, none⟩ = some (.int .i64 ((rd_T44 l0 x35_2).f2)) := (blk_cell BK136.out 2).trans rfl; have hcz38_3 : w35.cell? ⟨gb136, 3, none⟩ = some (.int .i64 ((rd_T44 l0 x35_2).f3)) := (blk_cell BK136.out 3).trans rfl; have hcz38_4 : w35.cell? ⟨gb136, 4, none⟩ = some (.int .i64 ((rd_T44 l0 x35_2).f4)) := (blk_cell BK136.out 4).trans rfl; have hcz38_5 : w35.cell? ⟨gb136, 5, none⟩ = some (.int .i64 ((rd_T44 l0 x35_2).f5)) := (blk_cell BK136.out 5).trans rfl; have hcz38_6 : w35.cell? ⟨gb136, 6, none⟩ = some (.int .i64 ((rd_T44 l0 x35_2).f6)) := (blk_cell BK136.out 6).trans rfl; have hcz38_7 : w35.cell? ⟨gb136, 7, none⟩ = some (.bool ((rd_T44 l0 x35_2).f7)) := (blk_cell BK136.out 7).trans rfl; have hfz38_0 := blk_frozen BK136.out 0; have hfz38_1 := blk_frozen BK136.out 1; have hfz38_2 := blk_frozen BK136.out 2; have hfz38_3 := blk_frozen BK136.out 3; have hfz38_4 := blk_frozen BK136.out 4; have hfz38_5 := blk_frozen BK136.out 5; have hfz38_6 := blk_frozen BK136.out 6; have hfz38_7 := blk_frozen BK136.out 7))
                                                go_roundg k5
                                                case measure => have := HK1.out; have := HK2.out; have := HK3.out; have := HK4.out; have := HK5.out; omega
                                                case rel => exact ⟨(x10_5), (wrap64 (x59_5 + 1)), (by first | rfl | (simp; done) | (simp [*]; done)), (by first | rfl | (simp; done) | (simp [*]; done)), H', ⟨by have := HK1.out; have := HK2.out; have := HK3.out; have := HK4.out; have := HK5.out; omega⟩, ⟨by (with_reducible repeat (first | refine blk_drewN ?_ _ | refine blk_drew ?_ | refine blk_alloc ?_ _)); refine blk_far ?_ NB136_141.out _; (with_reducible repeat (first | refine blk_drewN ?_ _ | refine blk_drew ?_ | refine blk_alloc ?_ _)); refine blk_far ?_ NB136_141.out _; (with_reducible repeat (first | refine blk_drewN ?_ _ | refine blk_drew ?_ | refine blk_alloc ?_ _)); refine blk_far ?_ NB136_141.out _; (with_reducible repeat (first | refine blk_drewN ?_ _ | refine blk_drew ?_ | refine blk_alloc ?_ _)); refine blk_far ?_ NB136_141.out _; (with_reducible repeat (first | refine blk_drewN ?_ _ | refine blk_drew ?_ | refine blk_alloc ?_ _)); refine blk_far ?_ NB136_141.out _; (with_reducible repeat (first | refine blk_drewN ?_ _ | refine blk_drew ?_ | refine blk_alloc ?_ _)); refine blk_far ?_ NB136_141.out _; (with_reducible repeat (first | refine blk_drewN ?_ _ | refine blk_drew ?_ | refine blk_alloc ?_ _)); refine blk_far ?_ NB136_141.out _; (with_reducible repeat (first | refine blk_drewN ?_ _ | refine blk_drew ?_ | refine blk_alloc ?_ _)); refine blk_far ?_ NB136_141.out _; (with_reducible repeat (first | refine blk_drewN ?_ _ | refine blk_drew ?_ | refine blk_alloc ?_ _)); exact BK136.out⟩, ⟨by repeat (first | (with_reducible first | exact HB.out | apply below_alloc | apply pw_below_drewN | apply below_drew1 | refine below_set ?_ GE136.out | refine below_set ?_ GE141.out) | exact HB.out)⟩⟩
                                            · rw [if_neg c29] at H
                                              exact absurd H (by simp)
                                          · rw [if_neg c28] at H
                                            exact absurd H (by simp)
                                        · rw [if_neg c27] at H
                                          have c27b0 : decide (x59_5 < ((rd_L3 l1 x53_4).length : Int)) = false := decide_eq_false c27
                                          clear c27
                                          have H' := Aside0.mk H
                                          clear H
                                          go_wp2
                                          go_roundg k5
                                          case measure => have := HK1.out; have := HK2.out; have := HK3.out; have := HK4.out; have := HK5.out; omega
                                          case rel => exact ⟨(x10_5), (wrap64 (x53_4 + 1)), (by first | rfl | (simp; done) | (simp [*]; done)), (by first | rfl | (simp; done) | (simp [*]; done)), H', ⟨by have := HK1.out; have := HK2.out; have := HK3.out; have := HK4.out; have := HK5.out; omega⟩, ⟨by (with_reducible repeat (first | refine blk_drewN ?_ _ | refine blk_drew ?_ | refine blk_alloc ?_ _)); exact BK136.out⟩, ⟨by repeat (first | (with_reducible first | exact HB.out | apply below_alloc | apply pw_below_drewN | apply below_drew1 | refine below_set ?_ GE136.out) | exact HB.out)⟩⟩
                                  · rw [if_neg c26] at H
                                    exact absurd H (by simp)
                                · rw [if_neg c25] at H
                                  exact absurd H (by simp)
                              · rw [if_neg c24] at H
                                have c24b0 : decide (x53_4 < (l1.length : Int)) = false := decide_eq_false c24
                                clear c24
                                by_cases c39 : x10_4 = x11_3
                                · rw [if_pos c39] at H
                                  have c39b0 : (x10_4 == x11_3) = true := beq_iff_eq.mpr c39
                                  have c39b1 : (x10_4 != x11_3) = false := bne_eq_false_iff_eq.mpr c39
                                  clear c39
                                  have H' := Aside0.mk H
                                  clear H
                                  go_wp2
                                  go_roundg k4
                                  case measure => have := HK1.out; have := HK2.out; have := HK3.out; have := HK4.out; omega
                                  case rel => exact ⟨(wrap64 (x35_2 + 1)), (by first | rfl | (simp; done) | (simp [*]; done)), H', ⟨by have := HK1.out; have := HK2.out; have := HK3.out; have := HK4.out; omega⟩, ⟨by repeat (first | (with_reducible first | exact HB.out | apply below_alloc | apply pw_below_drewN | apply below_drew1 | refine below_set ?_ GE136.out) | exact HB.out)⟩⟩
                                · rw [if_neg c39] at H
                                  have c39b0 : (x10_4 == x11_3) = false := beq_eq_false_iff_ne.mpr c39
                                  have c39b1 : (x10_4 != x11_3) = true := bne_iff_ne.mpr c39
                                  obtain rfl := Option.some.inj H
                                  go_wp2
                                  go_ret
                                  exact ⟨by first | rfl | (simp [errW_none, errW_some] <;> rfl) | (simp [*, errW_none, errW_some] <;> rfl), by repeat (first | (with_reducible first | exact HB.out | apply below_alloc | apply pw_below_drewN | apply below_drew1 | refine below_set ?_ GE136.out) | exact HB.out)⟩
                  · rw [if_neg c9] at H
                    exact absurd H (by simp)
                · rw [if_neg c8] at H
                  exact absurd H (by simp)
              · rw [if_neg c7] at H
                have c7b0 : decide (x35_2 < (l0.length : Int)) = false := decide_eq_false c7
                clear c7
                obtain rfl := Option.some.inj H
                go_wp2
                go_ret
                exact ⟨by first | rfl | (simp [errW_none, errW_some] <;> rfl) | (simp [*, errW_none, errW_some] <;> rfl), by repeat (first | (with_reducible first | exact HB.out | apply below_alloc | apply pw_below_drewN | apply below_drew1) | exact HB.out)⟩
        · rw [if_neg c6] at H
          have c6b0 : (x5_1 == (l0.length : Int)) = false := beq_eq_false_iff_ne.mpr c6
          have c6b1 : (x5_1 != (l0.length : Int)) = true := bne_iff_ne.mpr c6
          obtain rfl := Option.some.inj H
          go_wp2
          go_ret
          exact ⟨by first | rfl | (simp [errW_none, errW_some] <;> rfl) | (simp [*, errW_none, errW_some] <;> rfl), by repeat (first | (with_reducible first | exact HB.out | apply below_alloc | apply pw_below_drewN | apply below_drew1) | exact HB.out)⟩

end Go.Proofs.Ytepffabkcbfejaa.PEndingAll
