-- Written by a program of this repository (wip/tools/myprint.py over the print of the kit): contracts and rows.
import Derived.Test.YtepffabkcbfejaaPChunkFixedx0
import Derived.Test.YtepffabkcbfejaaPChunkFixedx2
namespace Go.Proofs.Ytepffabkcbfejaa.PChunkFixed
open Go.RowKit Go.Proofs.YtepffabkcbfejaaW.PrintWords Go.Proofs.YtepffabkcbfejaaW.PrintLast Go.Proofs.YtepffabkcbfejaaW.PrintMore
attribute [local go_sem] max2_int min2_int max_two min_two max_three min_three max_four min_four   -- for this text's walks alone
set_option linter.unusedVariables false
set_option linter.unusedSimpArgs false

/-! ### storagebarterref04_Same: function 42 -/
def storagebarterref04_Same.l0 : Nat → List ByteArray → List ByteArray → Int → Int → Option (Bool)
  | 0, _, _, _, _ => none
  | k + 1, x0, x1, x12, x13 => if x13 < x12 then (if 0 ≤ x13 then (if x13 < (x0.length : Int) then (if x13 < (x1.length : Int) then (if (rdOf ByteArray.empty x0 x13).toList = (rdOf ByteArray.empty x1 x13).toList then (storagebarterref04_Same.l0 k x0 x1 x12 (wrap64 (x13 + 1))) else (some false)) else (none)) else (none)) else (none)) else (some true)
def storagebarterref04_Same.f (k : Nat) (l0 : List ByteArray) (l1 : List ByteArray) : Option (Bool) := if (l0.length : Int) = (l1.length : Int) then (storagebarterref04_Same.l0 k l0 l1 (l0.length : Int) 0) else (some false)
theorem storagebarterref04_Same.mono_l : ∀ k, (∀ y0 y1 y2 y3, LeO (storagebarterref04_Same.l0 k y0 y1 y2 y3) (storagebarterref04_Same.l0 (k + 1) y0 y1 y2 y3))
  | 0 => fun _ _ _ _ r h => by simp [storagebarterref04_Same.l0] at h
  | k + 1 => by
    have ih0 := storagebarterref04_Same.mono_l k
    · intro y0 y1 y2 y3
      unfold storagebarterref04_Same.l0
      repeat' first
      | (with_reducible exact ih0 _ _ _ _)
      | (with_reducible exact LeO.refl _)
      | (with_reducible exact LeO.none _)
      | (with_reducible refine LeO.ite ?_ ?_)
      | (with_reducible refine LeO.bind ?_ (fun _ => ?_))
      | exact ih0 _ _ _ _
      | exact LeO.none _
      | refine LeO.ite ?_ ?_
      | refine LeO.bind ?_ (fun _ => ?_)
theorem storagebarterref04_Same.mono : ∀ a0 a1 k, LeO (storagebarterref04_Same.f k a0 a1) (storagebarterref04_Same.f (k + 1) a0 a1) := by
  intro a0 a1 k
  have ih0 := storagebarterref04_Same.mono_l k
  unfold storagebarterref04_Same.f
  repeat' first
      | (with_reducible exact ih0 _ _ _ _)
      | (with_reducible exact LeO.refl _)
      | (with_reducible exact LeO.none _)
      | (with_reducible refine LeO.ite ?_ ?_)
      | (with_reducible refine LeO.bind ?_ (fun _ => ?_))
      | exact ih0 _ _ _ _
      | exact LeO.none _
      | refine LeO.ite ?_ ?_
      | refine LeO.bind ?_ (fun _ => ?_)
set_option maxHeartbeats 8000000 in
set_option maxRecDepth 100000 in
theorem storagebarterref04_Same.calls (k : Nat) (A0 : Option Addr) (c0 : Nat) (l0 : List ByteArray) (A1 : Option Addr) (c1 : Nat) (l1 : List ByteArray) (r : Bool) (w : World) (hr0 : Kd.C Kd.string w A0 l0.length l0) (hc0 : l0.length ≤ c0) (hr1 : Kd.C Kd.string w A1 l1.length l1) (hc1 : l1.length ≤ c1) (h : storagebarterref04_Same.f k l0 l1 = some r) :
    Calls Try.prog 42 #[.slice A0 l0.length c0, .slice A1 l1.length c1] w fun e w' => e = .returned (.bool r) ∧ Drawn0 w w' := by
  have HR0 := Aside0.mk hr0
  have HC0 := Aside0.mk hc0
  clear hr0 hc0
  have HR1 := Aside0.mk hr1
  have HC1 := Aside0.mk hc1
  clear hr1 hc1
  have H : (if (l0.length : Int) = (l1.length : Int) then (storagebarterref04_Same.l0 k l0 l1 (l0.length : Int) 0) else (some false)) = some r := h
  clear h
  by_cases c3 : (l0.length : Int) = (l1.length : Int)
  · rw [if_pos c3] at H
    have c3b0 : ((l0.length : Int) == (l1.length : Int)) = true := beq_iff_eq.mpr c3
    have c3b1 : ((l0.length : Int) != (l1.length : Int)) = false := bne_eq_false_iff_eq.mpr c3
    have c3b2 : (l0.length == l1.length) = true := by first | simpa using c3 | (simp at c3 ⊢; omega)
    clear c3
    have H' := Aside0.mk H
    clear H
    go_enter Try.func42, Try.ntmps42
    go_wp2
    repeat (go_quiet (fail); try go_wp2)
    go_loopg [13] k (fun kq v13 w' => ∃ (x13_1 : Int), v13 = .int .i64 x13_1 ∧ Aside0 (storagebarterref04_Same.l0 kq l0 l1 (l0.length : Int) x13_1 = some r) ∧ Aside0 (kq ≤ k) ∧ Drawn0 w w')
    case atStart => exact ⟨(0), (by first | rfl | (simp; done) | (simp [*]; done)), H', ⟨Nat.le_refl _⟩, by repeat (first | exact Drawn0.refl _ | apply Drawn0.step)⟩
    case round =>
      clear H'
      try clear c1
      try clear p2
      try clear c3
      try clear c3b0
      try clear c3b1
      try clear c3b2
      obtain ⟨x13_1, rfl, HA, HK1, ⟨m1, rfl⟩⟩ := hrel
      cases gk with
      | zero => exact absurd HA.out (by simp [storagebarterref04_Same.l0])
      | succ k1 =>
        have H := HA.out
        clear HA
        simp only [storagebarterref04_Same.l0] at H
        by_cases c4 : x13_1 < (l0.length : Int)
        · rw [if_pos c4] at H
          have c4b0 : decide (x13_1 < (l0.length : Int)) = true := decide_eq_true c4
          clear c4
          by_cases c5 : 0 ≤ x13_1
          · rw [if_pos c5] at H
            have c5b0 : decide (0 ≤ x13_1) = true := decide_eq_true c5
            clear c5
            by_cases c6 : x13_1 < (l0.length : Int)
            · rw [if_pos c6] at H
              have c6b0 : decide (x13_1 < (l0.length : Int)) = true := decide_eq_true c6
              clear c6
              by_cases c7 : x13_1 < (l1.length : Int)
              · rw [if_pos c7] at H
                have c7b0 : decide (x13_1 < (l1.length : Int)) = true := decide_eq_true c7
                clear c7
                by_cases c8 : (rdOf ByteArray.empty l0 x13_1).toList = (rdOf ByteArray.empty l1 x13_1).toList
                · rw [if_pos c8] at H
                  have c8b0 : ((rdOf ByteArray.empty l0 x13_1).toList == (rdOf ByteArray.empty l1 x13_1).toList) = true := beq_iff_eq.mpr c8
                  have c8b1 : ((rdOf ByteArray.empty l0 x13_1).toList != (rdOf ByteArray.empty l1 x13_1).toList) = false := bne_eq_false_iff_eq.mpr c8
                  clear c8
                  have H' := Aside0.mk H
                  clear H
                  have p118 : 0 ≤ (x13_1 : Int) := of_decide_eq_true (by first | (with_reducible assumption) | assumption)
                  have q118 : x13_1 < (l0.length : Int) := of_decide_eq_true (by first | (with_reducible assumption) | assumption)
                  obtain ⟨ad118, e118, hx118_0⟩ := Kd.at_string HR0.out x13_1 p118 q118
                  cases e118
                  replace p118 := eq_true p118
                  replace q118 := eq_true q118
                  have p119 : 0 ≤ (x13_1 : Int) := of_decide_eq_true (by first | (with_reducible assumption) | assumption)
                  have q119 : x13_1 < (l1.length : Int) := of_decide_eq_true (by first | (with_reducible assumption) | assumption)
                  obtain ⟨ad119, e119, hx119_0⟩ := Kd.at_string HR1.out x13_1 p119 q119
                  cases e119
                  replace p119 := eq_true p119
                  replace q119 := eq_true q119
                  go_wp2
                  repeat (go_quiet (fail); try go_wp2)
                  go_roundg k1
                  case measure => have := HK1.out; omega
                  case rel => exact ⟨(wrap64 (x13_1 + 1)), (by first | rfl | (simp; done) | (simp [*]; done)), H', ⟨by have := HK1.out; omega⟩, by repeat (first | exact Drawn0.refl _ | apply Drawn0.step)⟩
                · rw [if_neg c8] at H
                  have c8b0 : ((rdOf ByteArray.empty l0 x13_1).toList == (rdOf ByteArray.empty l1 x13_1).toList) = false := beq_eq_false_iff_ne.mpr c8
                  have c8b1 : ((rdOf ByteArray.empty l0 x13_1).toList != (rdOf ByteArray.empty l1 x13_1).toList) = true := bne_iff_ne.mpr c8
                  obtain rfl := Option.some.inj H
                  have p118 : 0 ≤ (x13_1 : Int) := of_decide_eq_true (by first | (with_reducible assumption) | assumption)
                  have q118 : x13_1 < (l0.length : Int) := of_decide_eq_true (by first | (with_reducible assumption) | assumption)
                  obtain ⟨ad118, e118, hx118_0⟩ := Kd.at_string HR0.out x13_1 p118 q118
                  cases e118
                  replace p118 := eq_true p118
                  replace q118 := eq_true q118
                  have p119 : 0 ≤ (x13_1 : Int) := of_decide_eq_true (by first | (with_reducible assumption) | assumption)
                  have q119 : x13_1 < (l1.length : Int) := of_decide_eq_true (by first | (with_reducible assumption) | assumption)
                  obtain ⟨ad119, e119, hx119_0⟩ := Kd.at_string HR1.out x13_1 p119 q119
                  cases e119
                  replace p119 := eq_true p119
                  replace q119 := eq_true q119
                  go_wp2
                  repeat (go_quiet (fail); try go_wp2)
                  go_ret
                  exact ⟨by first | rfl | (simp; done) | (simp [*]; done), by repeat (first | exact Drawn0.refl _ | apply Drawn0.step)⟩
              · rw [if_neg c7] at H
                exact absurd H (by simp)
            · rw [if_neg c6] at H
              exact absurd H (by simp)
          · rw [if_neg c5] at H
            exact absurd H (by simp)
        · rw [if_neg c4] at H
          have c4b0 : decide (x13_1 < (l0.length : Int)) = false := decide_eq_false c4
          clear c4
          obtain rfl := Option.some.inj H
          go_wp2
          repeat (go_quiet (fail); try go_wp2)
          go_ret
          exact ⟨by first | rfl | (simp; done) | (simp [*]; done), by repeat (first | exact Drawn0.refl _ | apply Drawn0.step)⟩
  · rw [if_neg c3] at H
    have c3b0 : ((l0.length : Int) == (l1.length : Int)) = false := beq_eq_false_iff_ne.mpr c3
    have c3b1 : ((l0.length : Int) != (l1.length : Int)) = true := bne_iff_ne.mpr c3
    have c3b2 : (l0.length == l1.length) = false := by first | simpa using c3 | (simp at c3 ⊢; omega)
    obtain rfl := Option.some.inj H
    go_enter Try.func42, Try.ntmps42
    go_wp2
    repeat (go_quiet (fail); try go_wp2)
    go_ret
    exact ⟨by first | rfl | (simp; done) | (simp [*]; done), by repeat (first | exact Drawn0.refl _ | apply Drawn0.step)⟩

/-! ### storagebarterlaw04_ChunkFixed: function 9 -/
mutual
def storagebarterlaw04_ChunkFixed.j0 : Nat → Int → List ByteArray → Bool → Option (Bool)
  | 0, _, _, _ => none
  | k + 1, x9, x10, x72 => if x72 = true then (some false) else (storagebarterlaw04_ChunkFixed.l0 k x9 x10 x10 (x10.length : Int) 0)
def storagebarterlaw04_ChunkFixed.l0 : Nat → Int → List ByteArray → List ByteArray → Int → Int → Option (Bool)
  | 0, _, _, _, _, _ => none
  | k + 1, x9, x10, x73, x74, x75 => if x75 < x74 then (if 0 ≤ x75 then (if x75 < (x73.length : Int) then (if x75 < (wrap64 ((x10.length : Int) - 1)) then (if ((rdOf ByteArray.empty x73 x75).size : Int) = x9 then (storagebarterlaw04_ChunkFixed.l0 k x9 x10 x73 x74 (wrap64 (x75 + 1))) else (some false)) else (storagebarterlaw04_ChunkFixed.l0 k x9 x10 x73 x74 (wrap64 (x75 + 1)))) else (none)) else (none)) else (some true)
end
def storagebarterlaw04_ChunkFixed.f (k : Nat) (a0 : ByteArray) (a1 : Int) (a2 : Int) (a3 : Int) : Option (Bool) := (storagebarterlaw04_sane.f k).bind fun t120 => (if t120 = true then (if (a0.size : Int) > 800 then (some true) else ((chunk_Cut.f k a0 (wrap64 (4 + (wrap64 (Int.tmod a1 60)))) (wrap64 ((wrap64 (4 + (wrap64 (Int.tmod a1 60)))) + (wrap64 (Int.tmod a3 60)))) 1 1).bind fun bt121 => ((chunk_Cut.f k a0 (wrap64 (4 + (wrap64 (Int.tmod a1 60)))) (wrap64 (4 + (wrap64 (Int.tmod a1 60)))) (wrap64 (4 + (wrap64 (Int.tmod a1 60)))) (wrap64 (1 + (wrap64 (a2))))).bind fun bt125 => (if bt121.2 = 0 then (if bt125.2 = 0 then ((storagebarterref04_Same.f k bt121.1 bt125.1).bind fun t129 => (if t129 = true then (if (wrap64 (4 + (wrap64 (Int.tmod a1 60)))) = 0 then (none) else (storagebarterlaw04_ChunkFixed.j0 k (wrap64 (4 + (wrap64 (Int.tmod a1 60)))) bt121.1 ((bt121.1.length : Int) != (wrap64 (Int.tdiv (wrap64 ((wrap64 ((a0.size : Int) + (wrap64 (4 + (wrap64 (Int.tmod a1 60)))))) - 1)) (wrap64 (4 + (wrap64 (Int.tmod a1 60))))))))) else (storagebarterlaw04_ChunkFixed.j0 k (wrap64 (4 + (wrap64 (Int.tmod a1 60)))) bt121.1 true))) else (storagebarterlaw04_ChunkFixed.j0 k (wrap64 (4 + (wrap64 (Int.tmod a1 60)))) bt121.1 true)) else (storagebarterlaw04_ChunkFixed.j0 k (wrap64 (4 + (wrap64 (Int.tmod a1 60)))) bt121.1 true))))) else (some false))
theorem storagebarterlaw04_ChunkFixed.mono_l : ∀ k, (∀ y0 y1 y2, LeO (storagebarterlaw04_ChunkFixed.j0 k y0 y1 y2) (storagebarterlaw04_ChunkFixed.j0 (k + 1) y0 y1 y2)) ∧ (∀ y0 y1 y2 y3 y4, LeO (storagebarterlaw04_ChunkFixed.l0 k y0 y1 y2 y3 y4) (storagebarterlaw04_ChunkFixed.l0 (k + 1) y0 y1 y2 y3 y4))
  | 0 => ⟨fun _ _ _ r h => by simp [storagebarterlaw04_ChunkFixed.j0] at h, fun _ _ _ _ _ r h => by simp [storagebarterlaw04_ChunkFixed.l0] at h⟩
  | k + 1 => by
    obtain ⟨ih0, ih1⟩ := storagebarterlaw04_ChunkFixed.mono_l k
    refine ⟨?_, ?_⟩
    · intro y0 y1 y2
      unfold storagebarterlaw04_ChunkFixed.j0
      repeat' first
      | (with_reducible exact ih0 _ _ _)
      | (with_reducible exact ih1 _ _ _ _ _)
      | (with_reducible exact chunk_Cut.mono _ _ _ _ _ _)
      | (with_reducible exact storagebarterlaw04_sane.mono _)
      | (with_reducible exact storagebarterref04_Same.mono _ _ _)
      | (with_reducible exact LeO.refl _)
      | (with_reducible exact LeO.none _)
      | (with_reducible refine LeO.ite ?_ ?_)
      | (with_reducible refine LeO.bind ?_ (fun _ => ?_))
      | exact ih0 _ _ _
      | exact ih1 _ _ _ _ _
      | exact chunk_Cut.mono _ _ _ _ _ _
      | exact storagebarterlaw04_sane.mono _
      | exact storagebarterref04_Same.mono _ _ _
      | exact LeO.none _
      | refine LeO.ite ?_ ?_
      | refine LeO.bind ?_ (fun _ => ?_)
    · intro y0 y1 y2 y3 y4
      unfold storagebarterlaw04_ChunkFixed.l0
      repeat' first
      | (with_reducible exact ih0 _ _ _)
      | (with_reducible exact ih1 _ _ _ _ _)
      | (with_reducible exact chunk_Cut.mono _ _ _ _ _ _)
      | (with_reducible exact storagebarterlaw04_sane.mono _)
      | (with_reducible exact storagebarterref04_Same.mono _ _ _)
      | (with_reducible exact LeO.refl _)
      | (with_reducible exact LeO.none _)
      | (with_reducible refine LeO.ite ?_ ?_)
      | (with_reducible refine LeO.bind ?_ (fun _ => ?_))
      | exact ih0 _ _ _
      | exact ih1 _ _ _ _ _
      | exact chunk_Cut.mono _ _ _ _ _ _
      | exact storagebarterlaw04_sane.mono _
      | exact storagebarterref04_Same.mono _ _ _
      | exact LeO.none _
      | refine LeO.ite ?_ ?_
      | refine LeO.bind ?_ (fun _ => ?_)
theorem storagebarterlaw04_ChunkFixed.mono : ∀ a0 a1 a2 a3 k, LeO (storagebarterlaw04_ChunkFixed.f k a0 a1 a2 a3) (storagebarterlaw04_ChunkFixed.f (k + 1) a0 a1 a2 a3) := by
  intro a0 a1 a2 a3 k
  obtain ⟨ih0, ih1⟩ := storagebarterlaw04_ChunkFixed.mono_l k
  unfold storagebarterlaw04_ChunkFixed.f
  repeat' first
      | (with_reducible exact ih0 _ _ _)
      | (with_reducible exact ih1 _ _ _ _ _)
      | (with_reducible exact chunk_Cut.mono _ _ _ _ _ _)
      | (with_reducible exact storagebarterlaw04_sane.mono _)
      | (with_reducible exact storagebarterref04_Same.mono _ _ _)
      | (with_reducible exact LeO.refl _)
      | (with_reducible exact LeO.none _)
      | (with_reducible refine LeO.ite ?_ ?_)
      | (with_reducible refine LeO.bind ?_ (fun _ => ?_))
      | exact ih0 _ _ _
      | exact ih1 _ _ _ _ _
      | exact chunk_Cut.mono _ _ _ _ _ _
      | exact storagebarterlaw04_sane.mono _
      | exact storagebarterref04_Same.mono _ _ _
      | exact LeO.none _
      | refine LeO.ite ?_ ?_
      | refine LeO.bind ?_ (fun _ => ?_)
set_option maxHeartbeats 8000000 in
set_option maxRecDepth 100000 in
theorem storagebarterlaw04_ChunkFixed.calls (k : Nat) (a0 : ByteArray) (a1 : Int) (a2 : Int) (a3 : Int) (r : Bool) (w : World) (h : storagebarterlaw04_ChunkFixed.f k a0 a1 a2 a3 = some r) :
    Calls Try.prog 9 #[.string a0, .int .u8 a1, .int .u8 a2, .int .u8 a3] w fun e w' => e = .returned (.bool r) ∧ Below w.heap.size w w' := by
  have hu58 := Try.underlying58
  have HB := Aside0.mk (Below.refl w.heap.size w)
  have H : ((storagebarterlaw04_sane.f k).bind fun t120 => (if t120 = true then (if (a0.size : Int) > 800 then (some true) else ((chunk_Cut.f k a0 (wrap64 (4 + (wrap64 (Int.tmod a1 60)))) (wrap64 ((wrap64 (4 + (wrap64 (Int.tmod a1 60)))) + (wrap64 (Int.tmod a3 60)))) 1 1).bind fun bt121 => ((chunk_Cut.f k a0 (wrap64 (4 + (wrap64 (Int.tmod a1 60)))) (wrap64 (4 + (wrap64 (Int.tmod a1 60)))) (wrap64 (4 + (wrap64 (Int.tmod a1 60)))) (wrap64 (1 + (wrap64 (a2))))).bind fun bt125 => (if bt121.2 = 0 then (if bt125.2 = 0 then ((storagebarterref04_Same.f k bt121.1 bt125.1).bind fun t129 => (if t129 = true then (if (wrap64 (4 + (wrap64 (Int.tmod a1 60)))) = 0 then (none) else (storagebarterlaw04_ChunkFixed.j0 k (wrap64 (4 + (wrap64 (Int.tmod a1 60)))) bt121.1 ((bt121.1.length : Int) != (wrap64 (Int.tdiv (wrap64 ((wrap64 ((a0.size : Int) + (wrap64 (4 + (wrap64 (Int.tmod a1 60)))))) - 1)) (wrap64 (4 + (wrap64 (Int.tmod a1 60))))))))) else (storagebarterlaw04_ChunkFixed.j0 k (wrap64 (4 + (wrap64 (Int.tmod a1 60)))) bt121.1 true))) else (storagebarterlaw04_ChunkFixed.j0 k (wrap64 (4 + (wrap64 (Int.tmod a1 60)))) bt121.1 true)) else (storagebarterlaw04_ChunkFixed.j0 k (wrap64 (4 + (wrap64 (Int.tmod a1 60)))) bt121.1 true))))) else (some false))) = some r := h
  clear h
  replace H := Option.bind_eq_some_iff.mp H
  obtain ⟨t120, A50, H⟩ := H
  replace H : (if t120 = true then (if (a0.size : Int) > 800 then (some true) else ((chunk_Cut.f k a0 (wrap64 (4 + (wrap64 (Int.tmod a1 60)))) (wrap64 ((wrap64 (4 + (wrap64 (Int.tmod a1 60)))) + (wrap64 (Int.tmod a3 60)))) 1 1).bind fun bt121 => ((chunk_Cut.f k a0 (wrap64 (4 + (wrap64 (Int.tmod a1 60)))) (wrap64 (4 + (wrap64 (Int.tmod a1 60)))) (wrap64 (4 + (wrap64 (Int.tmod a1 60)))) (wrap64 (1 + (wrap64 (a2))))).bind fun bt125 => (if bt121.2 = 0 then (if bt125.2 = 0 then ((storagebarterref04_Same.f k bt121.1 bt125.1).bind fun t129 => (if t129 = true then (if (wrap64 (4 + (wrap64 (Int.tmod a1 60)))) = 0 then (none) else (storagebarterlaw04_ChunkFixed.j0 k (wrap64 (4 + (wrap64 (Int.tmod a1 60)))) bt121.1 ((bt121.1.length : Int) != (wrap64 (Int.tdiv (wrap64 ((wrap64 ((a0.size : Int) + (wrap64 (4 + (wrap64 (Int.tmod a1 60)))))) - 1)) (wrap64 (4 + (wrap64 (Int.tmod a1 60))))))))) else (storagebarterlaw04_ChunkFixed.j0 k (wrap64 (4 + (wrap64 (Int.tmod a1 60)))) bt121.1 true))) else (storagebarterlaw04_ChunkFixed.j0 k (wrap64 (4 + (wrap64 (Int.tmod a1 60)))) bt121.1 true)) else (storagebarterlaw04_ChunkFixed.j0 k (wrap64 (4 + (wrap64 (Int.tmod a1 60)))) bt121.1 true))))) else (some false)) = some r := H
  have A5 := Aside0.mk A50
  clear A50
  by_cases c6 : t120 = true
  · subst c6
    have H1 : (if (a0.size : Int) > 800 then (some true) else ((chunk_Cut.f k a0 (wrap64 (4 + (wrap64 (Int.tmod a1 60)))) (wrap64 ((wrap64 (4 + (wrap64 (Int.tmod a1 60)))) + (wrap64 (Int.tmod a3 60)))) 1 1).bind fun bt121 => ((chunk_Cut.f k a0 (wrap64 (4 + (wrap64 (Int.tmod a1 60)))) (wrap64 (4 + (wrap64 (Int.tmod a1 60)))) (wrap64 (4 + (wrap64 (Int.tmod a1 60)))) (wrap64 (1 + (wrap64 (a2))))).bind fun bt125 => (if bt121.2 = 0 then (if bt125.2 = 0 then ((storagebarterref04_Same.f k bt121.1 bt125.1).bind fun t129 => (if t129 = true then (if (wrap64 (4 + (wrap64 (Int.tmod a1 60)))) = 0 then (none) else (storagebarterlaw04_ChunkFixed.j0 k (wrap64 (4 + (wrap64 (Int.tmod a1 60)))) bt121.1 ((bt121.1.length : Int) != (wrap64 (Int.tdiv (wrap64 ((wrap64 ((a0.size : Int) + (wrap64 (4 + (wrap64 (Int.tmod a1 60)))))) - 1)) (wrap64 (4 + (wrap64 (Int.tmod a1 60))))))))) else (storagebarterlaw04_ChunkFixed.j0 k (wrap64 (4 + (wrap64 (Int.tmod a1 60)))) bt121.1 true))) else (storagebarterlaw04_ChunkFixed.j0 k (wrap64 (4 + (wrap64 (Int.tmod a1 60)))) bt121.1 true)) else (storagebarterlaw04_ChunkFixed.j0 k (wrap64 (4 + (wrap64 (Int.tmod a1 60)))) bt121.1 true))))) = some r := by rw [if_pos rfl] at H; exact H
    clear H
    have H := H1
    clear H1
    by_cases c7 : (a0.size : Int) > 800
    · rw [if_pos c7] at H
      have c7b0 : decide (800 < (a0.size : Int)) = true := decide_eq_true c7
      have c7b1 : decide (800 < a0.size) = true := decide_eq_true (by omega)
      clear c7
      obtain rfl := Option.some.inj H
      go_enter Try.func9, Try.ntmps9
      go_wp2_with (first | ((with_reducible refine gate_callee (f := 35) rfl ?_); refine goesL_ (some 16) rfl rfl Try.func35 (by kernel_rfl) rfl #[] rfl (by (try simp only [List.map_toArray, List.map_cons, List.map_nil]); first | done | rfl | (simp only [List.length_drop, List.length_take]; rfl)) ?_; (with_reducible refine (storagebarterlaw04_sane.calls k  true _ A5.out).mono ?_); rintro e w8 ⟨rfl, hb⟩; refine ⟨_, rfl, ?_⟩; have n0_ := Aside0.mk (below_step (by repeat (first | (with_reducible first | exact HB.out | apply below_alloc | apply pw_below_drewN | apply below_drew1) | exact HB.out)) hb); clear HB; have HB := n0_; clear n0_; (try clear hb); (try clear hb2); (try clear hk); (try clear hi)))
      go_ret
      exact ⟨by first | rfl | (simp [errW_none, errW_some] <;> rfl) | (simp [*, errW_none, errW_some] <;> rfl), by repeat (first | (with_reducible first | exact HB.out | apply below_alloc | apply pw_below_drewN | apply below_drew1) | exact HB.out)⟩
    · rw [if_neg c7] at H
      have c7b0 : decide (800 < (a0.size : Int)) = false := decide_eq_false c7
      have c7b1 : decide (800 < a0.size) = false := decide_eq_false (by omega)
      clear c7
      replace H := Option.bind_eq_some_iff.mp H
      obtain ⟨⟨t121, t124⟩, A90, H⟩ := H
      replace H : ((chunk_Cut.f k a0 (wrap64 (4 + (wrap64 (Int.tmod a1 60)))) (wrap64 (4 + (wrap64 (Int.tmod a1 60)))) (wrap64 (4 + (wrap64 (Int.tmod a1 60)))) (wrap64 (1 + (wrap64 (a2))))).bind fun bt125 => (if t124 = 0 then (if bt125.2 = 0 then ((storagebarterref04_Same.f k t121 bt125.1).bind fun t129 => (if t129 = true then (if (wrap64 (4 + (wrap64 (Int.tmod a1 60)))) = 0 then (none) else (storagebarterlaw04_ChunkFixed.j0 k (wrap64 (4 + (wrap64 (Int.tmod a1 60)))) t121 ((t121.length : Int) != (wrap64 (Int.tdiv (wrap64 ((wrap64 ((a0.size : Int) + (wrap64 (4 + (wrap64 (Int.tmod a1 60)))))) - 1)) (wrap64 (4 + (wrap64 (Int.tmod a1 60))))))))) else (storagebarterlaw04_ChunkFixed.j0 k (wrap64 (4 + (wrap64 (Int.tmod a1 60)))) t121 true))) else (storagebarterlaw04_ChunkFixed.j0 k (wrap64 (4 + (wrap64 (Int.tmod a1 60)))) t121 true)) else (storagebarterlaw04_ChunkFixed.j0 k (wrap64 (4 + (wrap64 (Int.tmod a1 60)))) t121 true))) = some r := H
      have A9 := Aside0.mk A90
      clear A90
      replace H := Option.bind_eq_some_iff.mp H
      obtain ⟨⟨t125, t128⟩, A100, H⟩ := H
      replace H : (if t124 = 0 then (if t128 = 0 then ((storagebarterref04_Same.f k t121 t125).bind fun t129 => (if t129 = true then (if (wrap64 (4 + (wrap64 (Int.tmod a1 60)))) = 0 then (none) else (storagebarterlaw04_ChunkFixed.j0 k (wrap64 (4 + (wrap64 (Int.tmod a1 60)))) t121 ((t121.length : Int) != (wrap64 (Int.tdiv (wrap64 ((wrap64 ((a0.size : Int) + (wrap64 (4 + (wrap64 (Int.tmod a1 60)))))) - 1)) (wrap64 (4 + (wrap64 (Int.tmod a1 60))))))))) else (storagebarterlaw04_ChunkFixed.j0 k (wrap64 (4 + (wrap64 (Int.tmod a1 60)))) t121 true))) else (storagebarterlaw04_ChunkFixed.j0 k (wrap64 (4 + (wrap64 (Int.tmod a1 60)))) t121 true)) else (storagebarterlaw04_ChunkFixed.j0 k (wrap64 (4 + (wrap64 (Int.tmod a1 60)))) t121 true)) = some r := H
      have A10 := Aside0.mk A100
      clear A100
      have HC11 := Aside0.mk H
      clear H
      go_enter Try.func9, Try.ntmps9
      go_upto_region 8 with (first | ((with_reducible refine gate_callee (f := 35) rfl ?_); refine goesL_ (some 16) rfl rfl Try.func35 (by kernel_rfl) rfl #[] rfl (by (try simp only [List.map_toArray, List.map_cons, List.map_nil]); first | done | rfl | (simp only [List.length_drop, List.length_take]; rfl)) ?_; (with_reducible refine (storagebarterlaw04_sane.calls k  true _ A5.out).mono ?_); rintro e w12 ⟨rfl, hb⟩; refine ⟨_, rfl, ?_⟩; have n0_ := Aside0.mk (below_step (by repeat (first | (with_reducible first | exact HB.out | apply below_alloc | apply pw_below_drewN | apply below_drew1) | exact HB.out)) hb); clear HB; have HB := n0_; clear n0_; (try clear hb); (try clear hb2); (try clear hk); (try clear hi)) | ((with_reducible refine gate_callee (f := 39) rfl ?_); refine goesL_ (some 34) rfl rfl Try.func39 (by kernel_rfl) rfl #[.string a0, .agg #[.int .i64 (wrap64 (4 + (wrap64 (Int.tmod a1 60)))), .int .i64 (wrap64 ((wrap64 (4 + (wrap64 (Int.tmod a1 60)))) + (wrap64 (Int.tmod a3 60)))), .int .i64 1, .int .i64 1]] rfl (by (try simp only [List.map_toArray, List.map_cons, List.map_nil]); first | done | rfl | (simp only [List.length_drop, List.length_take]; rfl)) ?_; (with_reducible refine (chunk_Cut.calls k a0 (wrap64 (4 + (wrap64 (Int.tmod a1 60)))) (wrap64 ((wrap64 (4 + (wrap64 (Int.tmod a1 60)))) + (wrap64 (Int.tmod a3 60)))) 1 1 t121 t124 _ A9.out).mono ?_); rintro e w13 ⟨v122, rfl, ho0, hb⟩; refine ⟨_, rfl, ?_⟩; have n0_ := Aside0.mk (Kd.R_lower ho0 (below_size (by repeat (first | (with_reducible first | exact HB.out | apply below_alloc | apply pw_below_drewN | apply below_drew1) | exact HB.out)))); have n1_ := Aside0.mk (below_step (by repeat (first | (with_reducible first | exact HB.out | apply below_alloc | apply pw_below_drewN | apply below_drew1) | exact HB.out)) hb); clear HB; have HO123 := n0_; have HB := n1_; clear n0_ n1_; (try clear hb); (try clear hb2); (try clear hk); (try clear hi); (try clear ho0)) | ((with_reducible refine gate_callee (f := 39) rfl ?_); refine goesL_ (some 46) rfl rfl Try.func39 (by kernel_rfl) rfl #[.string a0, .agg #[.int .i64 (wrap64 (4 + (wrap64 (Int.tmod a1 60)))), .int .i64 (wrap64 (4 + (wrap64 (Int.tmod a1 60)))), .int .i64 (wrap64 (4 + (wrap64 (Int.tmod a1 60)))), .int .i64 (wrap64 (1 + (wrap64 (a2))))]] rfl (by (try simp only [List.map_toArray, List.map_cons, List.map_nil]); first | done | rfl | (simp only [List.length_drop, List.length_take]; rfl)) ?_; (with_reducible refine (chunk_Cut.calls k a0 (wrap64 (4 + (wrap64 (Int.tmod a1 60)))) (wrap64 (4 + (wrap64 (Int.tmod a1 60)))) (wrap64 (4 + (wrap64 (Int.tmod a1 60)))) (wrap64 (1 + (wrap64 (a2)))) t125 t128 _ A10.out).mono ?_); rintro e w14 ⟨v126, rfl, ho0, hb⟩; refine ⟨_, rfl, ?_⟩; have n0_ := Aside0.mk (Kd.R_elder' (by (with_reducible repeat (first | apply Kd.R_alloc | apply Kd.R_drewN | apply Kd.R_drew)); exact HO123.out) (Kd.R_base ho0) hb); have n1_ := Aside0.mk (Kd.R_lower (Kd.R_new' ho0 (Kd.R_lt (by (with_reducible repeat (first | apply Kd.R_alloc | apply Kd.R_drewN | apply Kd.R_drew)); exact HO123.out))) (below_size (by repeat (first | (with_reducible first | exact HB.out | apply below_alloc | apply pw_below_drewN | apply below_drew1) | exact HB.out)))); have n2_ := Aside0.mk (below_step (by repeat (first | (with_reducible first | exact HB.out | apply below_alloc | apply pw_below_drewN | apply below_drew1) | exact HB.out)) hb); clear HO123; clear HB; have HO123 := n0_; have HO127 := n1_; have HB := n2_; clear n0_ n1_ n2_; (try clear hb); (try clear hb2); (try clear hk); (try clear hi); (try clear ho0)))
      (try simp only [Act.put, List.setIfInBounds_toArray, List.set_cons_zero, List.set_cons_succ])
      go_cut [72] (fun v72 wc => ∃ (kq : Nat) (x72_10 : Bool), v72 = .bool x72_10 ∧ Aside0 (storagebarterlaw04_ChunkFixed.j0 kq (wrap64 (4 + (wrap64 (Int.tmod a1 60)))) t121 x72_10 = some r) ∧ Aside0 (kq ≤ k) ∧ Aside0 (Kd.R Kd.string 9 wc w.heap.size (fun _ => True) v122 t121) ∧ Aside0 (Below w.heap.size w wc))
      case first =>
        have H := HC11.out
        clear HC11
        by_cases c15 : t124 = 0
        · rw [if_pos c15] at H
          have c15b0 : (t124 == 0) = true := beq_iff_eq.mpr c15
          have c15b1 : (t124 != 0) = false := bne_eq_false_iff_eq.mpr c15
          clear c15
          (first | rw [c15b0] | (simp only [i64_w, i32_w]; rw [c15b0]) | skip)
          by_cases c16 : t128 = 0
          · rw [if_pos c16] at H
            have c16b0 : (t128 == 0) = true := beq_iff_eq.mpr c16
            have c16b1 : (t128 != 0) = false := bne_eq_false_iff_eq.mpr c16
            clear c16
            replace H := Option.bind_eq_some_iff.mp H
            obtain ⟨t129, A170, H⟩ := H
            replace H : (if t129 = true then (if (wrap64 (4 + (wrap64 (Int.tmod a1 60)))) = 0 then (none) else (storagebarterlaw04_ChunkFixed.j0 k (wrap64 (4 + (wrap64 (Int.tmod a1 60)))) t121 ((t121.length : Int) != (wrap64 (Int.tdiv (wrap64 ((wrap64 ((a0.size : Int) + (wrap64 (4 + (wrap64 (Int.tmod a1 60)))))) - 1)) (wrap64 (4 + (wrap64 (Int.tmod a1 60))))))))) else (storagebarterlaw04_ChunkFixed.j0 k (wrap64 (4 + (wrap64 (Int.tmod a1 60)))) t121 true)) = some r := H
            have A17 := Aside0.mk A170
            clear A170
            by_cases c18 : t129 = true
            · subst c18
              have H1 : (if (wrap64 (4 + (wrap64 (Int.tmod a1 60)))) = 0 then (none) else (storagebarterlaw04_ChunkFixed.j0 k (wrap64 (4 + (wrap64 (Int.tmod a1 60)))) t121 ((t121.length : Int) != (wrap64 (Int.tdiv (wrap64 ((wrap64 ((a0.size : Int) + (wrap64 (4 + (wrap64 (Int.tmod a1 60)))))) - 1)) (wrap64 (4 + (wrap64 (Int.tmod a1 60))))))))) = some r := by rw [if_pos rfl] at H; exact H
              clear H
              have H := H1
              clear H1
              by_cases c19 : (wrap64 (4 + (wrap64 (Int.tmod a1 60)))) = 0
              · rw [if_pos c19] at H
                exact absurd H (by simp)
              · rw [if_neg c19] at H
                have c19b0 : ((wrap64 (4 + (wrap64 (Int.tmod a1 60)))) == 0) = false := beq_eq_false_iff_ne.mpr c19
                have c19b1 : ((wrap64 (4 + (wrap64 (Int.tmod a1 60)))) != 0) = true := bne_iff_ne.mpr c19
                have H' := Aside0.mk H
                clear H
                obtain ⟨Ao20, co20, eo20⟩ := Kd.R_slice HO123.out
                subst eo20
                obtain ⟨Ao21, co21, eo21⟩ := Kd.R_slice HO127.out
                subst eo21
                go_wp2_with (first | (go_at_call 42; (with_reducible refine (storagebarterref04_Same.calls k _ _ t121 _ _ t125 true _ ?side1 ?side2 ?side3 ?side4 A17.out).mono ?_); (case side1 => repeat (first | exact (Kd.R_reads' HO123.out).2.2 | (with_reducible refine Kd.C_alloc ?_ _) | (with_reducible refine Kd.C_drewN ?_ _) | (with_reducible refine Kd.C_drew ?_))); (case side2 => exact (Kd.R_reads' HO123.out).2.1); (case side3 => repeat (first | exact (Kd.R_reads' HO127.out).2.2 | (with_reducible refine Kd.C_alloc ?_ _) | (with_reducible refine Kd.C_drewN ?_ _) | (with_reducible refine Kd.C_drew ?_))); (case side4 => exact (Kd.R_reads' HO127.out).2.1); rintro e w' ⟨rfl, ⟨nd, rfl⟩⟩))
                go_meet
                case rel => exact ⟨_, (((t121.length : Int) != (wrap64 (Int.tdiv (wrap64 ((wrap64 ((a0.size : Int) + (wrap64 (4 + (wrap64 (Int.tmod a1 60)))))) - 1)) (wrap64 (4 + (wrap64 (Int.tmod a1 60)))))))), (by first | rfl | (simp; done) | (simp [*]; done)), H', ⟨by first | omega | exact Nat.le_refl _⟩, ⟨by (with_reducible repeat (first | apply Kd.R_alloc | apply Kd.R_drewN | apply Kd.R_drew)); exact Kd.R_mono HO123.out (fun _ hk => trivial)⟩, ⟨by repeat (first | (with_reducible first | exact HB.out | apply below_alloc | apply pw_below_drewN | apply below_drew1) | exact HB.out)⟩⟩
            · replace c18 := Bool.eq_false_iff.mpr c18
              subst c18
              have H1 : (storagebarterlaw04_ChunkFixed.j0 k (wrap64 (4 + (wrap64 (Int.tmod a1 60)))) t121 true) = some r := by rw [if_neg (show ¬ (false = true) by decide)] at H; exact H
              clear H
              have H := H1
              clear H1
              have H' := Aside0.mk H
              clear H
              obtain ⟨Ao22, co22, eo22⟩ := Kd.R_slice HO123.out
              subst eo22
              obtain ⟨Ao23, co23, eo23⟩ := Kd.R_slice HO127.out
              subst eo23
              go_wp2_with (first | (go_at_call 42; (with_reducible refine (storagebarterref04_Same.calls k _ _ t121 _ _ t125 false _ ?side1 ?side2 ?side3 ?side4 A17.out).mono ?_); (case side1 => repeat (first | exact (Kd.R_reads' HO123.out).2.2 | (with_reducible refine Kd.C_alloc ?_ _) | (with_reducible refine Kd.C_drewN ?_ _) | (with_reducible refine Kd.C_drew ?_))); (case side2 => exact (Kd.R_reads' HO123.out).2.1); (case side3 => repeat (first | exact (Kd.R_reads' HO127.out).2.2 | (with_reducible refine Kd.C_alloc ?_ _) | (with_reducible refine Kd.C_drewN ?_ _) | (with_reducible refine Kd.C_drew ?_))); (case side4 => exact (Kd.R_reads' HO127.out).2.1); rintro e w' ⟨rfl, ⟨nd, rfl⟩⟩))
              go_meet
              case rel => exact ⟨_, (true), (by first | rfl | (simp; done) | (simp [*]; done)), H', ⟨by first | omega | exact Nat.le_refl _⟩, ⟨by (with_reducible repeat (first | apply Kd.R_alloc | apply Kd.R_drewN | apply Kd.R_drew)); exact Kd.R_mono HO123.out (fun _ hk => trivial)⟩, ⟨by repeat (first | (with_reducible first | exact HB.out | apply below_alloc | apply pw_below_drewN | apply below_drew1) | exact HB.out)⟩⟩
          · rw [if_neg c16] at H
            have c16b0 : (t128 == 0) = false := beq_eq_false_iff_ne.mpr c16
            have c16b1 : (t128 != 0) = true := bne_iff_ne.mpr c16
            have H' := Aside0.mk H
            clear H
            go_wp2
            go_meet
            case rel => exact ⟨_, (true), (by first | rfl | (simp; done) | (simp [*]; done)), H', ⟨by first | omega | exact Nat.le_refl _⟩, ⟨by (with_reducible repeat (first | apply Kd.R_alloc | apply Kd.R_drewN | apply Kd.R_drew)); exact Kd.R_mono HO123.out (fun _ hk => trivial)⟩, ⟨by repeat (first | (with_reducible first | exact HB.out | apply below_alloc | apply pw_below_drewN | apply below_drew1) | exact HB.out)⟩⟩
        · rw [if_neg c15] at H
          have c15b0 : (t124 == 0) = false := beq_eq_false_iff_ne.mpr c15
          have c15b1 : (t124 != 0) = true := bne_iff_ne.mpr c15
          (first | rw [c15b0] | (simp only [i64_w, i32_w]; rw [c15b0]) | skip)
          have H' := Aside0.mk H
          clear H
          go_wp2
          go_meet
          case rel => exact ⟨_, (true), (by first | rfl | (simp; done) | (simp [*]; done)), H', ⟨by first | omega | exact Nat.le_refl _⟩, ⟨by (with_reducible repeat (first | apply Kd.R_alloc | apply Kd.R_drewN | apply Kd.R_drew)); exact Kd.R_mono HO123.out (fun _ hk => trivial)⟩, ⟨by repeat (first | (with_reducible first | exact HB.out | apply below_alloc | apply pw_below_drewN | apply below_drew1) | exact HB.out)⟩⟩
      case rest =>
        clear HC11
        try clear c1
        try clear p2
        try clear c3
        try clear c6
        try clear p6
        try clear c7
        try clear c7b0
        try clear c7b1
        try clear c9
        try clear c15
        try clear c15b0
        try clear c15b1
        try clear c16
        try clear c16b0
        try clear c16b1
        try clear c18
        try clear c19
        try clear c19b0
        try clear c19b1
        obtain ⟨kq, x72_10, rfl, HA, HJ10, HO_10, HB⟩ := hcut
        cases kq with
        | zero => exact absurd HA.out (by simp [storagebarterlaw04_ChunkFixed.j0])
        | succ kj10 =>
          have H := HA.out
          clear HA
          simp only [storagebarterlaw04_ChunkFixed.j0] at H
          by_cases c24 : x72_10 = true
          · subst c24
            have H1 : (some false) = some r := by rw [if_pos rfl] at H; exact H
            clear H
            have H := H1
            clear H1
            obtain rfl := Option.some.inj H
            go_wp2
            go_ret
            exact ⟨by first | rfl | (simp [errW_none, errW_some] <;> rfl) | (simp [*, errW_none, errW_some] <;> rfl), by repeat (first | (with_reducible first | exact HB.out | apply below_alloc | apply pw_below_drewN | apply below_drew1) | exact HB.out)⟩
          · replace c24 := Bool.eq_false_iff.mpr c24
            subst c24
            have H1 : (storagebarterlaw04_ChunkFixed.l0 kj10 (wrap64 (4 + (wrap64 (Int.tmod a1 60)))) t121 t121 (t121.length : Int) 0) = some r := by rw [if_neg (show ¬ (false = true) by decide)] at H; exact H
            clear H
            have H := H1
            clear H1
            have H' := Aside0.mk H
            clear H
            obtain ⟨Ao25, co25, eo25⟩ := Kd.R_slice HO_10.out
            subst eo25
            go_wp2
            go_loopg [75] kj10 (fun kq v75 w' => ∃ (x75_2 : Int), v75 = .int .i64 x75_2 ∧ Aside0 (storagebarterlaw04_ChunkFixed.l0 kq (wrap64 (4 + (wrap64 (Int.tmod a1 60)))) t121 t121 (t121.length : Int) x75_2 = some r) ∧ Aside0 (kq ≤ kj10) ∧ Aside0 (Kd.R Kd.string 9 w' w.heap.size (fun _ => True) (.slice Ao25 t121.length co25) t121) ∧ Aside0 (Kd.R Kd.string 9 w' w.heap.size (fun _ => True) (.slice Ao25 t121.length co25) t121) ∧ Aside0 (Below w.heap.size w w'))
            case atStart => exact ⟨(0), (by first | rfl | (simp; done) | (simp [*]; done)), H', ⟨Nat.le_refl _⟩, ⟨by (with_reducible repeat (first | apply Kd.R_alloc | apply Kd.R_drewN | apply Kd.R_drew)); exact HO_10.out⟩, ⟨by (with_reducible repeat (first | apply Kd.R_alloc | apply Kd.R_drewN | apply Kd.R_drew)); exact HO_10.out⟩, ⟨by repeat (first | (with_reducible first | exact HB.out | apply below_alloc | apply pw_below_drewN | apply below_drew1) | exact HB.out)⟩⟩
            case round =>
              clear H'
              try clear c1
              try clear c2
              try clear p2
              try clear c3
              try clear c6
              try clear p6
              try clear c7
              try clear c7b0
              try clear c7b1
              try clear c9
              try clear c15
              try clear c15b0
              try clear c15b1
              try clear c16
              try clear c16b0
              try clear c16b1
              try clear c18
              try clear c19
              try clear c19b0
              try clear c19b1
              try clear c24
              try clear p2
              try clear p6
              obtain ⟨x75_2, rfl, HA, HK2, HO_10, HO_73, HB⟩ := hrel
              cases gk with
              | zero => exact absurd HA.out (by simp [storagebarterlaw04_ChunkFixed.l0])
              | succ k2 =>
                have H := HA.out
                clear HA
                simp only [storagebarterlaw04_ChunkFixed.l0] at H
                by_cases c26 : x75_2 < (t121.length : Int)
                · rw [if_pos c26] at H
                  have c26b0 : decide (x75_2 < (t121.length : Int)) = true := decide_eq_true c26
                  clear c26
                  by_cases c27 : 0 ≤ x75_2
                  · rw [if_pos c27] at H
                    have c27b0 : decide (0 ≤ x75_2) = true := decide_eq_true c27
                    clear c27
                    by_cases c28 : x75_2 < (t121.length : Int)
                    · rw [if_pos c28] at H
                      have c28b0 : decide (x75_2 < (t121.length : Int)) = true := decide_eq_true c28
                      clear c28
                      by_cases c29 : x75_2 < (wrap64 ((t121.length : Int) - 1))
                      · rw [if_pos c29] at H
                        have c29b0 : decide (x75_2 < (wrap64 ((t121.length : Int) - 1))) = true := decide_eq_true c29
                        clear c29
                        by_cases c30 : ((rdOf ByteArray.empty t121 x75_2).size : Int) = (wrap64 (4 + (wrap64 (Int.tmod a1 60))))
                        · rw [if_pos c30] at H
                          have c30b0 : (((rdOf ByteArray.empty t121 x75_2).size : Int) == (wrap64 (4 + (wrap64 (Int.tmod a1 60))))) = true := beq_iff_eq.mpr c30
                          have c30b1 : (((rdOf ByteArray.empty t121 x75_2).size : Int) != (wrap64 (4 + (wrap64 (Int.tmod a1 60))))) = false := bne_eq_false_iff_eq.mpr c30
                          clear c30
                          have H' := Aside0.mk H
                          clear H
                          have p130 : 0 ≤ (x75_2 : Int) := of_decide_eq_true (by first | (with_reducible assumption) | assumption)
                          have q130 : x75_2 < (t121.length : Int) := of_decide_eq_true (by first | (with_reducible assumption) | assumption)
                          obtain ⟨ad130, e130, hx130_0⟩ := Kd.at_string (Kd.R_reads' HO_73.out).2.2 x75_2 p130 q130
                          cases e130
                          replace p130 := eq_true p130
                          replace q130 := eq_true q130
                          go_wp2
                          go_roundg k2
                          case measure => have := HJ10.out; have := HK2.out; omega
                          case rel => exact ⟨(wrap64 (x75_2 + 1)), (by first | rfl | (simp; done) | (simp [*]; done)), H', ⟨by have := HJ10.out; have := HK2.out; omega⟩, ⟨by (with_reducible repeat (first | apply Kd.R_alloc | apply Kd.R_drewN | apply Kd.R_drew)); exact HO_10.out⟩, ⟨by (with_reducible repeat (first | apply Kd.R_alloc | apply Kd.R_drewN | apply Kd.R_drew)); exact HO_73.out⟩, ⟨by repeat (first | (with_reducible first | exact HB.out | apply below_alloc | apply pw_below_drewN | apply below_drew1) | exact HB.out)⟩⟩
                        · rw [if_neg c30] at H
                          have c30b0 : (((rdOf ByteArray.empty t121 x75_2).size : Int) == (wrap64 (4 + (wrap64 (Int.tmod a1 60))))) = false := beq_eq_false_iff_ne.mpr c30
                          have c30b1 : (((rdOf ByteArray.empty t121 x75_2).size : Int) != (wrap64 (4 + (wrap64 (Int.tmod a1 60))))) = true := bne_iff_ne.mpr c30
                          obtain rfl := Option.some.inj H
                          have p130 : 0 ≤ (x75_2 : Int) := of_decide_eq_true (by first | (with_reducible assumption) | assumption)
                          have q130 : x75_2 < (t121.length : Int) := of_decide_eq_true (by first | (with_reducible assumption) | assumption)
                          obtain ⟨ad130, e130, hx130_0⟩ := Kd.at_string (Kd.R_reads' HO_73.out).2.2 x75_2 p130 q130
                          cases e130
                          replace p130 := eq_true p130
                          replace q130 := eq_true q130
                          go_wp2
                          go_ret
                          exact ⟨by first | rfl | (simp [errW_none, errW_some] <;> rfl) | (simp [*, errW_none, errW_some] <;> rfl), by repeat (first | (with_reducible first | exact HB.out | apply below_alloc | apply pw_below_drewN | apply below_drew1) | exact HB.out)⟩
                      · rw [if_neg c29] at H
                        have c29b0 : decide (x75_2 < (wrap64 ((t121.length : Int) - 1))) = false := decide_eq_false c29
                        clear c29
                        have H' := Aside0.mk H
                        clear H
                        have p130 : 0 ≤ (x75_2 : Int) := of_decide_eq_true (by first | (with_reducible assumption) | assumption)
                        have q130 : x75_2 < (t121.length : Int) := of_decide_eq_true (by first | (with_reducible assumption) | assumption)
                        obtain ⟨ad130, e130, hx130_0⟩ := Kd.at_string (Kd.R_reads' HO_73.out).2.2 x75_2 p130 q130
                        cases e130
                        replace p130 := eq_true p130
                        replace q130 := eq_true q130
                        go_wp2
                        go_roundg k2
                        case measure => have := HJ10.out; have := HK2.out; omega
                        case rel => exact ⟨(wrap64 (x75_2 + 1)), (by first | rfl | (simp; done) | (simp [*]; done)), H', ⟨by have := HJ10.out; have := HK2.out; omega⟩, ⟨by (with_reducible repeat (first | apply Kd.R_alloc | apply Kd.R_drewN | apply Kd.R_drew)); exact HO_10.out⟩, ⟨by (with_reducible repeat (first | apply Kd.R_alloc | apply Kd.R_drewN | apply Kd.R_drew)); exact HO_73.out⟩, ⟨by repeat (first | (with_reducible first | exact HB.out | apply below_alloc | apply pw_below_drewN | apply below_drew1) | exact HB.out)⟩⟩
                    · rw [if_neg c28] at H
                      exact absurd H (by simp)
                  · rw [if_neg c27] at H
                    exact absurd H (by simp)
                · rw [if_neg c26] at H
                  have c26b0 : decide (x75_2 < (t121.length : Int)) = false := decide_eq_false c26
                  clear c26
                  obtain rfl := Option.some.inj H
                  go_wp2
                  go_ret
                  exact ⟨by first | rfl | (simp [errW_none, errW_some] <;> rfl) | (simp [*, errW_none, errW_some] <;> rfl), by repeat (first | (with_reducible first | exact HB.out | apply below_alloc | apply pw_below_drewN | apply below_drew1) | exact HB.out)⟩
  · replace c6 := Bool.eq_false_iff.mpr c6
    subst c6
    have H1 : (some false) = some r := by rw [if_neg (show ¬ (false = true) by decide)] at H; exact H
    clear H
    have H := H1
    clear H1
    obtain rfl := Option.some.inj H
    go_enter Try.func9, Try.ntmps9
    go_wp2_with (first | ((with_reducible refine gate_callee (f := 35) rfl ?_); refine goesL_ (some 16) rfl rfl Try.func35 (by kernel_rfl) rfl #[] rfl (by (try simp only [List.map_toArray, List.map_cons, List.map_nil]); first | done | rfl | (simp only [List.length_drop, List.length_take]; rfl)) ?_; (with_reducible refine (storagebarterlaw04_sane.calls k  false _ A5.out).mono ?_); rintro e w31 ⟨rfl, hb⟩; refine ⟨_, rfl, ?_⟩; have n0_ := Aside0.mk (below_step (by repeat (first | (with_reducible first | exact HB.out | apply below_alloc | apply pw_below_drewN | apply below_drew1) | exact HB.out)) hb); clear HB; have HB := n0_; clear n0_; (try clear hb); (try clear hb2); (try clear hk); (try clear hi)))
    go_ret
    exact ⟨by first | rfl | (simp [errW_none, errW_some] <;> rfl) | (simp [*, errW_none, errW_some] <;> rfl), by repeat (first | (with_reducible first | exact HB.out | apply below_alloc | apply pw_below_drewN | apply below_drew1) | exact HB.out)⟩

/-- THE ONE PURE STATEMENT of storagebarterlaw04_ChunkFixed: yours. -/
def storagebarterlaw04_ChunkFixed.Pure : Prop := ∀ (a0 : ByteArray) (a1 : Int) (a2 : Int) (a3 : Int), a0.size ≤ 140737488351232 → (Lit.int .u8 a1).wf = true → (Lit.int .u8 a2).wf = true → (Lit.int .u8 a3).wf = true → ∃ k, storagebarterlaw04_ChunkFixed.f k a0 a1 a2 a3 = some true
theorem storagebarterlaw04_ChunkFixed.walk (P : storagebarterlaw04_ChunkFixed.Pure) (a0 : ByteArray) (a1 : Int) (a2 : Int) (a3 : Int) (w : World) (w0 : a0.size ≤ 140737488351232) (w1 : (Lit.int .u8 a1).wf = true) (w2 : (Lit.int .u8 a2).wf = true) (w3 : (Lit.int .u8 a3).wf = true) :
    Calls Try.prog 9 #[.string a0, .int .u8 a1, .int .u8 a2, .int .u8 a3] w fun e w' => e = .returned (.bool true) ∧ Below w.heap.size w w' := by
  obtain ⟨k, h⟩ := P a0 a1 a2 a3 w0 w1 w2 w3
  refine (storagebarterlaw04_ChunkFixed.calls k a0 a1 a2 a3 true w h).mono ?_
  rintro e w' ⟨rfl, hd⟩
  exact ⟨rfl, hd⟩

end Go.Proofs.Ytepffabkcbfejaa.PChunkFixed
