-- Written by a program of this repository (wip/tools/myprint.py over the print of the kit): contracts and rows.
import Derived.Test.YtepffabkcbfejaaPEndingRoomx0
import Derived.Test.YtepffabkcbfejaaPEndingRoomx1
import Derived.Test.YtepffabkcbfejaaPEndingRoomx2
namespace Go.Proofs.Ytepffabkcbfejaa.PEndingRoom
open Go.RowKit Go.Proofs.YtepffabkcbfejaaW.PrintWords Go.Proofs.YtepffabkcbfejaaW.PrintLast Go.Proofs.YtepffabkcbfejaaW.PrintMore
attribute [local go_sem] max2_int min2_int max_two min_two max_three min_three max_four min_four   -- for this text's walks alone
set_option linter.unusedVariables false
set_option linter.unusedSimpArgs false

/-! ### storagebarterlaw26_EndingRoom: function 4 -/
def storagebarterlaw26_EndingRoom.f (k : Nat) (l0 : List Int) (a1 : Int) : Option (Bool) := (storagebarterlaw26_sane.f).bind fun t134 => (if t134 = true then ((storagebarterplay_New.f l0).bind fun bt135 => ((storagebarterplay_Dice_Leases.f bt135.1 bt135.2).bind fun bt138 => ((storagebarterplay_Dice_Pick.f bt135.1 bt138.2 4).bind fun bt142 => ((storagebarterplay_Dice_Pick.f bt135.1 bt142.2 4).bind fun bt144 => (if (wrap64 ((bt138.1.length : Int) + 1)) = 0 then (none) else ((ending_Room.f k bt138.1 (wrap64 (1 + bt142.1)) (wrap64 (1 + bt144.1))).bind fun bt146 => ((ending_Room.f k bt138.1 (wrap64 (1 + bt144.1)) (wrap64 (1 + bt142.1))).bind fun bt148 => (if 0 ≤ (Int.tmod (wrap64 (a1)) (wrap64 ((bt138.1.length : Int) + 1))) then (if (Int.tmod (wrap64 (a1)) (wrap64 ((bt138.1.length : Int) + 1))) ≤ (bt138.1.length : Int) then ((ending_Room.f k (bt138.1.take ((Int.tmod (wrap64 (a1)) (wrap64 ((bt138.1.length : Int) + 1))) : Int).toNat) (wrap64 (1 + bt142.1)) (wrap64 (1 + bt144.1))).bind fun bt156 => ((ending_Room.f k (bt138.1.drop ((Int.tmod (wrap64 (a1)) (wrap64 ((bt138.1.length : Int) + 1))) : Int).toNat) (wrap64 (1 + bt142.1)) (wrap64 (1 + bt144.1))).bind fun bt162 => (if bt146.1 = bt148.2 then (if bt146.2 = bt148.1 then (if bt146.1 = (wrap64 (bt156.1 + bt162.1)) then (some (bt146.2 == (wrap64 (bt156.2 + bt162.2)))) else (some false)) else (some false)) else (some false)))) else (none)) else (none))))))))) else (some false))
theorem storagebarterlaw26_EndingRoom.mono : ∀ a0 a1 k, LeO (storagebarterlaw26_EndingRoom.f k a0 a1) (storagebarterlaw26_EndingRoom.f (k + 1) a0 a1) := by
  intro a0 a1 k
  unfold storagebarterlaw26_EndingRoom.f
  repeat' first
      | (with_reducible exact ending_Room.mono _ _ _ _)
      | (with_reducible exact LeO.refl _)
      | (with_reducible exact LeO.none _)
      | (with_reducible refine LeO.ite ?_ ?_)
      | (with_reducible refine LeO.bind ?_ (fun _ => ?_))
      | exact ending_Room.mono _ _ _ _
      | exact LeO.none _
      | refine LeO.ite ?_ ?_
      | refine LeO.bind ?_ (fun _ => ?_)
def storagebarterlaw26_EndingRoom.T8 : Bool × List (List Nat × List Nat) := (true, [([], []), ([], []), ([0, 1], [0, 1]), ([], []), ([], []), ([2, 3, 4], [2, 3, 4]), ([], []), ([], []), ([6, 7], [6, 7]), ([], []), ([], []), ([8, 9, 10, 5], [8, 9, 10]), ([], []), ([], []), ([12, 5, 11, 0, 1, 2, 3, 4, 5, 12, 13], [5, 12]), ([13, 11, 14, 0, 1, 2, 3, 4, 5, 6, 7, 8, 9, 10, 11, 12, 13, 14], [11, 13])])
def storagebarterlaw26_EndingRoom.B8 : List Nat := [0, 0, 3, 0, 0, 31, 0, 0, 192, 0, 0, 2047, 0, 0, 16383, 32767]
theorem storagebarterlaw26_EndingRoom.tab8 : rtab .any (opsOf Try.f4 8) = storagebarterlaw26_EndingRoom.T8 := by kernel_rfl
theorem storagebarterlaw26_EndingRoom.bits8 : waitsOk storagebarterlaw26_EndingRoom.T8.2 storagebarterlaw26_EndingRoom.B8 = true := by kernel_rfl
set_option maxHeartbeats 8000000 in
set_option maxRecDepth 100000 in
theorem storagebarterlaw26_EndingRoom.calls (k : Nat) (A0 : Option Addr) (c0 : Nat) (l0 : List Int) (a1 : Int) (r : Bool) (w : World) (hr0 : Kd.C (Kd.int .u8) w A0 l0.length l0) (hc0 : l0.length ≤ c0) (h : storagebarterlaw26_EndingRoom.f k l0 a1 = some r) (hrt_ : r = true) :
    Calls Try.prog 4 #[.slice A0 l0.length c0, .int .u8 a1] w fun e w' => e = .returned (.bool r) ∧ Below w.heap.size w w' := by
  have HRT_ := Aside0.mk hrt_
  clear hrt_
  have hu39 := Try.underlying39
  have HR0 := Aside0.mk hr0
  have HC0 := Aside0.mk hc0
  clear hr0 hc0
  have HB := Aside0.mk (Below.refl w.heap.size w)
  have H : ((storagebarterlaw26_sane.f).bind fun t134 => (if t134 = true then ((storagebarterplay_New.f l0).bind fun bt135 => ((storagebarterplay_Dice_Leases.f bt135.1 bt135.2).bind fun bt138 => ((storagebarterplay_Dice_Pick.f bt135.1 bt138.2 4).bind fun bt142 => ((storagebarterplay_Dice_Pick.f bt135.1 bt142.2 4).bind fun bt144 => (if (wrap64 ((bt138.1.length : Int) + 1)) = 0 then (none) else ((ending_Room.f k bt138.1 (wrap64 (1 + bt142.1)) (wrap64 (1 + bt144.1))).bind fun bt146 => ((ending_Room.f k bt138.1 (wrap64 (1 + bt144.1)) (wrap64 (1 + bt142.1))).bind fun bt148 => (if 0 ≤ (Int.tmod (wrap64 (a1)) (wrap64 ((bt138.1.length : Int) + 1))) then (if (Int.tmod (wrap64 (a1)) (wrap64 ((bt138.1.length : Int) + 1))) ≤ (bt138.1.length : Int) then ((ending_Room.f k (bt138.1.take ((Int.tmod (wrap64 (a1)) (wrap64 ((bt138.1.length : Int) + 1))) : Int).toNat) (wrap64 (1 + bt142.1)) (wrap64 (1 + bt144.1))).bind fun bt156 => ((ending_Room.f k (bt138.1.drop ((Int.tmod (wrap64 (a1)) (wrap64 ((bt138.1.length : Int) + 1))) : Int).toNat) (wrap64 (1 + bt142.1)) (wrap64 (1 + bt144.1))).bind fun bt162 => (if bt146.1 = bt148.2 then (if bt146.2 = bt148.1 then (if bt146.1 = (wrap64 (bt156.1 + bt162.1)) then (some (bt146.2 == (wrap64 (bt156.2 + bt162.2)))) else (some false)) else (some false)) else (some false)))) else (none)) else (none))))))))) else (some false))) = some r := h
  clear h
  replace H := Option.bind_eq_some_iff.mp H
  obtain ⟨t134, A30, H⟩ := H
  replace H : (if t134 = true then ((storagebarterplay_New.f l0).bind fun bt135 => ((storagebarterplay_Dice_Leases.f bt135.1 bt135.2).bind fun bt138 => ((storagebarterplay_Dice_Pick.f bt135.1 bt138.2 4).bind fun bt142 => ((storagebarterplay_Dice_Pick.f bt135.1 bt142.2 4).bind fun bt144 => (if (wrap64 ((bt138.1.length : Int) + 1)) = 0 then (none) else ((ending_Room.f k bt138.1 (wrap64 (1 + bt142.1)) (wrap64 (1 + bt144.1))).bind fun bt146 => ((ending_Room.f k bt138.1 (wrap64 (1 + bt144.1)) (wrap64 (1 + bt142.1))).bind fun bt148 => (if 0 ≤ (Int.tmod (wrap64 (a1)) (wrap64 ((bt138.1.length : Int) + 1))) then (if (Int.tmod (wrap64 (a1)) (wrap64 ((bt138.1.length : Int) + 1))) ≤ (bt138.1.length : Int) then ((ending_Room.f k (bt138.1.take ((Int.tmod (wrap64 (a1)) (wrap64 ((bt138.1.length : Int) + 1))) : Int).toNat) (wrap64 (1 + bt142.1)) (wrap64 (1 + bt144.1))).bind fun bt156 => ((ending_Room.f k (bt138.1.drop ((Int.tmod (wrap64 (a1)) (wrap64 ((bt138.1.length : Int) + 1))) : Int).toNat) (wrap64 (1 + bt142.1)) (wrap64 (1 + bt144.1))).bind fun bt162 => (if bt146.1 = bt148.2 then (if bt146.2 = bt148.1 then (if bt146.1 = (wrap64 (bt156.1 + bt162.1)) then (some (bt146.2 == (wrap64 (bt156.2 + bt162.2)))) else (some false)) else (some false)) else (some false)))) else (none)) else (none))))))))) else (some false)) = some r := H
  have A3 := Aside0.mk A30
  clear A30
  by_cases c4 : t134 = true
  · subst c4
    have H1 : ((storagebarterplay_New.f l0).bind fun bt135 => ((storagebarterplay_Dice_Leases.f bt135.1 bt135.2).bind fun bt138 => ((storagebarterplay_Dice_Pick.f bt135.1 bt138.2 4).bind fun bt142 => ((storagebarterplay_Dice_Pick.f bt135.1 bt142.2 4).bind fun bt144 => (if (wrap64 ((bt138.1.length : Int) + 1)) = 0 then (none) else ((ending_Room.f k bt138.1 (wrap64 (1 + bt142.1)) (wrap64 (1 + bt144.1))).bind fun bt146 => ((ending_Room.f k bt138.1 (wrap64 (1 + bt144.1)) (wrap64 (1 + bt142.1))).bind fun bt148 => (if 0 ≤ (Int.tmod (wrap64 (a1)) (wrap64 ((bt138.1.length : Int) + 1))) then (if (Int.tmod (wrap64 (a1)) (wrap64 ((bt138.1.length : Int) + 1))) ≤ (bt138.1.length : Int) then ((ending_Room.f k (bt138.1.take ((Int.tmod (wrap64 (a1)) (wrap64 ((bt138.1.length : Int) + 1))) : Int).toNat) (wrap64 (1 + bt142.1)) (wrap64 (1 + bt144.1))).bind fun bt156 => ((ending_Room.f k (bt138.1.drop ((Int.tmod (wrap64 (a1)) (wrap64 ((bt138.1.length : Int) + 1))) : Int).toNat) (wrap64 (1 + bt142.1)) (wrap64 (1 + bt144.1))).bind fun bt162 => (if bt146.1 = bt148.2 then (if bt146.2 = bt148.1 then (if bt146.1 = (wrap64 (bt156.1 + bt162.1)) then (some (bt146.2 == (wrap64 (bt156.2 + bt162.2)))) else (some false)) else (some false)) else (some false)))) else (none)) else (none))))))))) = some r := by rw [if_pos rfl] at H; exact H
    clear H
    have H := H1
    clear H1
    replace H := Option.bind_eq_some_iff.mp H
    obtain ⟨⟨t135, t136⟩, A50, H⟩ := H
    replace H : ((storagebarterplay_Dice_Leases.f t135 t136).bind fun bt138 => ((storagebarterplay_Dice_Pick.f t135 bt138.2 4).bind fun bt142 => ((storagebarterplay_Dice_Pick.f t135 bt142.2 4).bind fun bt144 => (if (wrap64 ((bt138.1.length : Int) + 1)) = 0 then (none) else ((ending_Room.f k bt138.1 (wrap64 (1 + bt142.1)) (wrap64 (1 + bt144.1))).bind fun bt146 => ((ending_Room.f k bt138.1 (wrap64 (1 + bt144.1)) (wrap64 (1 + bt142.1))).bind fun bt148 => (if 0 ≤ (Int.tmod (wrap64 (a1)) (wrap64 ((bt138.1.length : Int) + 1))) then (if (Int.tmod (wrap64 (a1)) (wrap64 ((bt138.1.length : Int) + 1))) ≤ (bt138.1.length : Int) then ((ending_Room.f k (bt138.1.take ((Int.tmod (wrap64 (a1)) (wrap64 ((bt138.1.length : Int) + 1))) : Int).toNat) (wrap64 (1 + bt142.1)) (wrap64 (1 + bt144.1))).bind fun bt156 => ((ending_Room.f k (bt138.1.drop ((Int.tmod (wrap64 (a1)) (wrap64 ((bt138.1.length : Int) + 1))) : Int).toNat) (wrap64 (1 + bt142.1)) (wrap64 (1 + bt144.1))).bind fun bt162 => (if bt146.1 = bt148.2 then (if bt146.2 = bt148.1 then (if bt146.1 = (wrap64 (bt156.1 + bt162.1)) then (some (bt146.2 == (wrap64 (bt156.2 + bt162.2)))) else (some false)) else (some false)) else (some false)))) else (none)) else (none)))))))) = some r := H
    have A5 := Aside0.mk A50
    clear A50
    replace H := Option.bind_eq_some_iff.mp H
    obtain ⟨⟨t138, t141⟩, A60, H⟩ := H
    replace H : ((storagebarterplay_Dice_Pick.f t135 t141 4).bind fun bt142 => ((storagebarterplay_Dice_Pick.f t135 bt142.2 4).bind fun bt144 => (if (wrap64 ((t138.length : Int) + 1)) = 0 then (none) else ((ending_Room.f k t138 (wrap64 (1 + bt142.1)) (wrap64 (1 + bt144.1))).bind fun bt146 => ((ending_Room.f k t138 (wrap64 (1 + bt144.1)) (wrap64 (1 + bt142.1))).bind fun bt148 => (if 0 ≤ (Int.tmod (wrap64 (a1)) (wrap64 ((t138.length : Int) + 1))) then (if (Int.tmod (wrap64 (a1)) (wrap64 ((t138.length : Int) + 1))) ≤ (t138.length : Int) then ((ending_Room.f k (t138.take ((Int.tmod (wrap64 (a1)) (wrap64 ((t138.length : Int) + 1))) : Int).toNat) (wrap64 (1 + bt142.1)) (wrap64 (1 + bt144.1))).bind fun bt156 => ((ending_Room.f k (t138.drop ((Int.tmod (wrap64 (a1)) (wrap64 ((t138.length : Int) + 1))) : Int).toNat) (wrap64 (1 + bt142.1)) (wrap64 (1 + bt144.1))).bind fun bt162 => (if bt146.1 = bt148.2 then (if bt146.2 = bt148.1 then (if bt146.1 = (wrap64 (bt156.1 + bt162.1)) then (some (bt146.2 == (wrap64 (bt156.2 + bt162.2)))) else (some false)) else (some false)) else (some false)))) else (none)) else (none))))))) = some r := H
    have A6 := Aside0.mk A60
    clear A60
    replace H := Option.bind_eq_some_iff.mp H
    obtain ⟨⟨t142, t143⟩, A70, H⟩ := H
    replace H : ((storagebarterplay_Dice_Pick.f t135 t143 4).bind fun bt144 => (if (wrap64 ((t138.length : Int) + 1)) = 0 then (none) else ((ending_Room.f k t138 (wrap64 (1 + t142)) (wrap64 (1 + bt144.1))).bind fun bt146 => ((ending_Room.f k t138 (wrap64 (1 + bt144.1)) (wrap64 (1 + t142))).bind fun bt148 => (if 0 ≤ (Int.tmod (wrap64 (a1)) (wrap64 ((t138.length : Int) + 1))) then (if (Int.tmod (wrap64 (a1)) (wrap64 ((t138.length : Int) + 1))) ≤ (t138.length : Int) then ((ending_Room.f k (t138.take ((Int.tmod (wrap64 (a1)) (wrap64 ((t138.length : Int) + 1))) : Int).toNat) (wrap64 (1 + t142)) (wrap64 (1 + bt144.1))).bind fun bt156 => ((ending_Room.f k (t138.drop ((Int.tmod (wrap64 (a1)) (wrap64 ((t138.length : Int) + 1))) : Int).toNat) (wrap64 (1 + t142)) (wrap64 (1 + bt144.1))).bind fun bt162 => (if bt146.1 = bt148.2 then (if bt146.2 = bt148.1 then (if bt146.1 = (wrap64 (bt156.1 + bt162.1)) then (some (bt146.2 == (wrap64 (bt156.2 + bt162.2)))) else (some false)) else (some false)) else (some false)))) else (none)) else (none)))))) = some r := H
    have A7 := Aside0.mk A70
    clear A70
    replace H := Option.bind_eq_some_iff.mp H
    obtain ⟨⟨t144, t145⟩, A80, H⟩ := H
    replace H : (if (wrap64 ((t138.length : Int) + 1)) = 0 then (none) else ((ending_Room.f k t138 (wrap64 (1 + t142)) (wrap64 (1 + t144))).bind fun bt146 => ((ending_Room.f k t138 (wrap64 (1 + t144)) (wrap64 (1 + t142))).bind fun bt148 => (if 0 ≤ (Int.tmod (wrap64 (a1)) (wrap64 ((t138.length : Int) + 1))) then (if (Int.tmod (wrap64 (a1)) (wrap64 ((t138.length : Int) + 1))) ≤ (t138.length : Int) then ((ending_Room.f k (t138.take ((Int.tmod (wrap64 (a1)) (wrap64 ((t138.length : Int) + 1))) : Int).toNat) (wrap64 (1 + t142)) (wrap64 (1 + t144))).bind fun bt156 => ((ending_Room.f k (t138.drop ((Int.tmod (wrap64 (a1)) (wrap64 ((t138.length : Int) + 1))) : Int).toNat) (wrap64 (1 + t142)) (wrap64 (1 + t144))).bind fun bt162 => (if bt146.1 = bt148.2 then (if bt146.2 = bt148.1 then (if bt146.1 = (wrap64 (bt156.1 + bt162.1)) then (some (bt146.2 == (wrap64 (bt156.2 + bt162.2)))) else (some false)) else (some false)) else (some false)))) else (none)) else (none))))) = some r := H
    have A8 := Aside0.mk A80
    clear A80
    by_cases c9 : (wrap64 ((t138.length : Int) + 1)) = 0
    · rw [if_pos c9] at H
      exact absurd H (by simp)
    · rw [if_neg c9] at H
      have c9b0 : ((wrap64 ((t138.length : Int) + 1)) == 0) = false := beq_eq_false_iff_ne.mpr c9
      have c9b1 : ((wrap64 ((t138.length : Int) + 1)) != 0) = true := bne_iff_ne.mpr c9
      replace H := Option.bind_eq_some_iff.mp H
      obtain ⟨⟨t146, t147⟩, A100, H⟩ := H
      replace H : ((ending_Room.f k t138 (wrap64 (1 + t144)) (wrap64 (1 + t142))).bind fun bt148 => (if 0 ≤ (Int.tmod (wrap64 (a1)) (wrap64 ((t138.length : Int) + 1))) then (if (Int.tmod (wrap64 (a1)) (wrap64 ((t138.length : Int) + 1))) ≤ (t138.length : Int) then ((ending_Room.f k (t138.take ((Int.tmod (wrap64 (a1)) (wrap64 ((t138.length : Int) + 1))) : Int).toNat) (wrap64 (1 + t142)) (wrap64 (1 + t144))).bind fun bt156 => ((ending_Room.f k (t138.drop ((Int.tmod (wrap64 (a1)) (wrap64 ((t138.length : Int) + 1))) : Int).toNat) (wrap64 (1 + t142)) (wrap64 (1 + t144))).bind fun bt162 => (if t146 = bt148.2 then (if t147 = bt148.1 then (if t146 = (wrap64 (bt156.1 + bt162.1)) then (some (t147 == (wrap64 (bt156.2 + bt162.2)))) else (some false)) else (some false)) else (some false)))) else (none)) else (none))) = some r := H
      have A10 := Aside0.mk A100
      clear A100
      replace H := Option.bind_eq_some_iff.mp H
      obtain ⟨⟨t148, t149⟩, A110, H⟩ := H
      replace H : (if 0 ≤ (Int.tmod (wrap64 (a1)) (wrap64 ((t138.length : Int) + 1))) then (if (Int.tmod (wrap64 (a1)) (wrap64 ((t138.length : Int) + 1))) ≤ (t138.length : Int) then ((ending_Room.f k (t138.take ((Int.tmod (wrap64 (a1)) (wrap64 ((t138.length : Int) + 1))) : Int).toNat) (wrap64 (1 + t142)) (wrap64 (1 + t144))).bind fun bt156 => ((ending_Room.f k (t138.drop ((Int.tmod (wrap64 (a1)) (wrap64 ((t138.length : Int) + 1))) : Int).toNat) (wrap64 (1 + t142)) (wrap64 (1 + t144))).bind fun bt162 => (if t146 = t149 then (if t147 = t148 then (if t146 = (wrap64 (bt156.1 + bt162.1)) then (some (t147 == (wrap64 (bt156.2 + bt162.2)))) else (some false)) else (some false)) else (some false)))) else (none)) else (none)) = some r := H
      have A11 := Aside0.mk A110
      clear A110
      obtain ⟨ji12, hji12⟩ : ∃ j_ : Int, (Int.tmod (wrap64 (a1)) (wrap64 ((t138.length : Int) + 1))) = j_ := ⟨_, rfl⟩
      replace H : (if 0 ≤ (ji12) then (if (ji12) ≤ (t138.length : Int) then ((ending_Room.f k (t138.take ((ji12) : Int).toNat) (wrap64 (1 + t142)) (wrap64 (1 + t144))).bind fun bt156 => ((ending_Room.f k (t138.drop ((ji12) : Int).toNat) (wrap64 (1 + t142)) (wrap64 (1 + t144))).bind fun bt162 => (if t146 = t149 then (if t147 = t148 then (if t146 = (wrap64 (bt156.1 + bt162.1)) then (some (t147 == (wrap64 (bt156.2 + bt162.2)))) else (some false)) else (some false)) else (some false)))) else (none)) else (none)) = some r := by first | (rw [hji12] at H; exact H) | (simp only [hji12] at H ⊢; exact H)
      (try rw [hji12] at A3)
      (try rw [hji12] at A5)
      (try rw [hji12] at A6)
      (try rw [hji12] at A7)
      (try rw [hji12] at A8)
      (try rw [hji12] at A10)
      (try rw [hji12] at A11)
      by_cases c13 : 0 ≤ (ji12)
      · rw [if_pos c13] at H
        have c13b0 := eq_true c13
        have c13b1 : decide (0 ≤ (ji12)) = true := decide_eq_true c13
        clear c13
        by_cases c14 : (ji12) ≤ (t138.length : Int)
        · rw [if_pos c14] at H
          have c14b0 := eq_true c14
          have c14b1 : decide ((ji12) ≤ (t138.length : Int)) = true := decide_eq_true c14
          clear c14
          obtain ⟨y152, hy152⟩ : ∃ y_ : List (S44), y_ = (t138.take ((ji12) : Int).toNat) := ⟨_, rfl⟩
          replace H : ((ending_Room.f k y152 (wrap64 (1 + t142)) (wrap64 (1 + t144))).bind fun bt156 => ((ending_Room.f k (t138.drop ((ji12) : Int).toNat) (wrap64 (1 + t142)) (wrap64 (1 + t144))).bind fun bt162 => (if t146 = t149 then (if t147 = t148 then (if t146 = (wrap64 (bt156.1 + bt162.1)) then (some (t147 == (wrap64 (bt156.2 + bt162.2)))) else (some false)) else (some false)) else (some false)))) = some r := by first | (rw [hy152]; with_reducible exact H) | (have H2_ := (Option.bind_some _ _).symm.trans H; rw [hy152]; with_reducible exact H2_) | (have H2_ := (Option.bind_some _ _).symm.trans H; with_reducible exact H2_) | with_reducible exact H | (rw [hy152]; exact H) | exact H
          have Ny152 := Aside0.mk hy152
          clear hy152
          replace H := Option.bind_eq_some_iff.mp H
          obtain ⟨⟨t156, t157⟩, A150, H⟩ := H
          replace H : ((ending_Room.f k (t138.drop ((ji12) : Int).toNat) (wrap64 (1 + t142)) (wrap64 (1 + t144))).bind fun bt162 => (if t146 = t149 then (if t147 = t148 then (if t146 = (wrap64 (t156 + bt162.1)) then (some (t147 == (wrap64 (t157 + bt162.2)))) else (some false)) else (some false)) else (some false))) = some r := H
          have A15 := Aside0.mk A150
          clear A150
          have c16b0 := eq_true (of_decide_eq_true (by first | (with_reducible assumption) | assumption) : 0 ≤ (ji12))
          have c17b0 := eq_true (of_decide_eq_true (by first | (with_reducible assumption) | assumption) : (ji12) ≤ (t138.length : Int))
          obtain ⟨y158, hy158⟩ : ∃ y_ : List (S44), y_ = (t138.drop ((ji12) : Int).toNat) := ⟨_, rfl⟩
          replace H : ((ending_Room.f k y158 (wrap64 (1 + t142)) (wrap64 (1 + t144))).bind fun bt162 => (if t146 = t149 then (if t147 = t148 then (if t146 = (wrap64 (t156 + bt162.1)) then (some (t147 == (wrap64 (t157 + bt162.2)))) else (some false)) else (some false)) else (some false))) = some r := by first | (rw [hy158]; with_reducible exact H) | (have H2_ := (Option.bind_some _ _).symm.trans H; rw [hy158]; with_reducible exact H2_) | (have H2_ := (Option.bind_some _ _).symm.trans H; with_reducible exact H2_) | with_reducible exact H | (rw [hy158]; exact H) | exact H
          have Ny158 := Aside0.mk hy158
          clear hy158
          replace H := Option.bind_eq_some_iff.mp H
          obtain ⟨⟨t162, t163⟩, A180, H⟩ := H
          replace H : (if t146 = t149 then (if t147 = t148 then (if t146 = (wrap64 (t156 + t162)) then (some (t147 == (wrap64 (t157 + t163)))) else (some false)) else (some false)) else (some false)) = some r := H
          have A18 := Aside0.mk A180
          clear A180
          by_cases c19 : t146 = t149
          · rw [if_pos c19] at H
            have c19b0 : (t146 == t149) = true := beq_iff_eq.mpr c19
            have c19b1 : (t146 != t149) = false := bne_eq_false_iff_eq.mpr c19
            clear c19
            by_cases c20 : t147 = t148
            · rw [if_pos c20] at H
              have c20b0 : (t147 == t148) = true := beq_iff_eq.mpr c20
              have c20b1 : (t147 != t148) = false := bne_eq_false_iff_eq.mpr c20
              clear c20
              by_cases c21 : t146 = (wrap64 (t156 + t162))
              · rw [if_pos c21] at H
                have c21b0 : (t146 == (wrap64 (t156 + t162))) = true := beq_iff_eq.mpr c21
                have c21b1 : (t146 != (wrap64 (t156 + t162))) = false := bne_eq_false_iff_eq.mpr c21
                clear c21
                obtain rfl := Option.some.inj H
                go_enter Try.func4, Try.ntmps4
                try go_wp2_with (first | ((with_reducible refine gate_callee (f := 15) rfl ?_); refine goesL_ (some 14) rfl rfl Try.func15 (by kernel_rfl) rfl #[] rfl (by (try simp only [List.map_toArray, List.map_cons, List.map_nil]); first | done | rfl | (simp only [List.length_drop, List.length_take]; rfl)) ?_; (with_reducible refine (storagebarterlaw26_sane.calls  true _ A3.out).mono ?_); rintro e w22 ⟨rfl, hb⟩; refine ⟨_, rfl, ?_⟩; have n0_ := Aside0.mk (below_step (by repeat (first | (with_reducible first | exact HB.out | apply below_alloc | apply pw_below_drewN | apply below_drew1) | exact HB.out)) hb); clear HB; have HB := n0_; clear n0_; (try clear hb); (try clear hb2); (try clear hk); (try clear hi)) | ((with_reducible refine gate_callee (f := 16) rfl ?_); refine goesL_ (some 17) rfl rfl Try.func16 (by kernel_rfl) rfl #[.slice A0 l0.length c0] rfl (by (try simp only [List.map_toArray, List.map_cons, List.map_nil]); first | done | rfl | (simp only [List.length_drop, List.length_take]; rfl)) ?_; (with_reducible refine (storagebarterplay_New.calls _ _ l0 t135 t136 w _ ?side1 ?side2 ?side3 A5.out).mono ?_); (case side1 => repeat (first | (with_reducible first | exact HB.out | apply below_alloc | apply pw_below_drewN | apply below_drew1) | exact HB.out)); (case side2 => exact HR0.out); (case side3 => exact HC0.out); rintro e w23 ⟨g137, rfl, hi, hb, hb2⟩; refine ⟨_, rfl, ?_⟩; have n0_ := Aside0.mk (hb); have n1_ := Aside0.mk (hi); clear HB; have HB := n0_; have HI137 := n1_; clear n0_ n1_; (try clear hb); (try clear hb2); (try clear hk); (try clear hi)) | ((with_reducible refine gate_callee (f := 17) rfl ?_); refine goesL_ (some 19) rfl rfl Try.func17 (by kernel_rfl) rfl #[.pointer (some ⟨g137, 0, none⟩)] rfl (by (try simp only [List.map_toArray, List.map_cons, List.map_nil]); first | done | rfl | (simp only [List.length_drop, List.length_take]; rfl)) ?_; (with_reducible refine (storagebarterplay_Dice_Leases.calls g137 t135 t136 t138 t141 w _ ?side1 ?side2 A6.out).mono ?_); (case side1 => repeat (first | (with_reducible first | exact HI137.out | apply IsS84.alloc | apply IsS84.drewN | apply IsS84.drew | apply IsS84.set_1) | exact HI137.out)); (case side2 => repeat (first | (with_reducible first | exact HB.out | apply below_alloc | apply pw_below_drewN | apply below_drew1 | refine below_set ?_ (IsS84.ge HI137.out)) | exact HB.out)); rintro e w24 ⟨v139, rfl, ho0, hi, hb, hk⟩; refine ⟨_, rfl, ?_⟩; have n0_ := Aside0.mk (Kd.R_lower ho0 (below_size (by repeat (first | (with_reducible first | exact HB.out | apply below_alloc | apply pw_below_drewN | apply below_drew1 | refine below_set ?_ (IsS84.ge HI137.out)) | exact HB.out)))); have n1_ := Aside0.mk (hb); have n2_ := Aside0.mk (hi); clear HB; clear HI137; have HO140 := n0_; have HB := n1_; have HI137 := n2_; clear n0_ n1_ n2_; (try clear hb); (try clear hb2); (try clear hk); (try clear hi); (try clear ho0)) | ((with_reducible refine gate_callee (f := 18) rfl ?_); refine goesL_ (some 21) rfl rfl Try.func18 (by kernel_rfl) rfl #[.pointer (some ⟨g137, 0, none⟩), .int .i64 4] rfl (by (try simp only [List.map_toArray, List.map_cons, List.map_nil]); first | done | rfl | (simp only [List.length_drop, List.length_take]; rfl)) ?_; (with_reducible refine (storagebarterplay_Dice_Pick.calls g137 t135 t141 4 t142 t143 w _ ?side1 ?side2 A7.out).mono ?_); (case side1 => repeat (first | (with_reducible first | exact HI137.out | apply IsS84.alloc | apply IsS84.drewN | apply IsS84.drew | apply IsS84.set_1) | exact HI137.out)); (case side2 => repeat (first | (with_reducible first | exact HB.out | apply below_alloc | apply pw_below_drewN | apply below_drew1 | refine below_set ?_ (IsS84.ge HI137.out)) | exact HB.out)); rintro e w25 ⟨rfl, hi, hb, hk⟩; refine ⟨_, rfl, ?_⟩; have n0_ := Aside0.mk (Kd.R_mono (Kd.R_keep (IsS84.apart (show IsS84 w _ g137 t135 t141 from by repeat (first | (with_reducible first | exact HI137.out | apply IsS84.alloc | apply IsS84.drewN | apply IsS84.drew | apply IsS84.set_1) | exact HI137.out)) (by (with_reducible repeat (first | apply Kd.R_alloc | apply Kd.R_drewN | apply Kd.R_drew)); exact HO140.out) (by decide)) hk (fun _ h => h.2)) (fun _ h => h.1)); have n1_ := Aside0.mk (hb); have n2_ := Aside0.mk (hi); clear HO140; clear HB; clear HI137; have HO140 := n0_; have HB := n1_; have HI137 := n2_; clear n0_ n1_ n2_; (try clear hb); (try clear hb2); (try clear hk); (try clear hi)) | ((with_reducible refine gate_callee (f := 18) rfl ?_); refine goesL_ (some 24) rfl rfl Try.func18 (by kernel_rfl) rfl #[.pointer (some ⟨g137, 0, none⟩), .int .i64 4] rfl (by (try simp only [List.map_toArray, List.map_cons, List.map_nil]); first | done | rfl | (simp only [List.length_drop, List.length_take]; rfl)) ?_; (with_reducible refine (storagebarterplay_Dice_Pick.calls g137 t135 t143 4 t144 t145 w _ ?side1 ?side2 A8.out).mono ?_); (case side1 => repeat (first | (with_reducible first | exact HI137.out | apply IsS84.alloc | apply IsS84.drewN | apply IsS84.drew | apply IsS84.set_1) | exact HI137.out)); (case side2 => repeat (first | (with_reducible first | exact HB.out | apply below_alloc | apply pw_below_drewN | apply below_drew1 | refine below_set ?_ (IsS84.ge HI137.out)) | exact HB.out)); rintro e w26 ⟨rfl, hi, hb, hk⟩; refine ⟨_, rfl, ?_⟩; have n0_ := Aside0.mk (Kd.R_mono (Kd.R_keep (IsS84.apart (show IsS84 w _ g137 t135 t143 from by repeat (first | (with_reducible first | exact HI137.out | apply IsS84.alloc | apply IsS84.drewN | apply IsS84.drew | apply IsS84.set_1) | exact HI137.out)) (by (with_reducible repeat (first | apply Kd.R_alloc | apply Kd.R_drewN | apply Kd.R_drew)); exact HO140.out) (by decide)) hk (fun _ h => h.2)) (fun _ h => h.1)); have n1_ := Aside0.mk (hb); have n2_ := Aside0.mk (hi); clear HO140; clear HB; clear HI137; have HO140 := n0_; have HB := n1_; have HI137 := n2_; clear n0_ n1_ n2_; (try clear hb); (try clear hb2); (try clear hk); (try clear hi); obtain ⟨Ao27, co27, eo27⟩ := Kd.R_slice HO140.out; subst eo27) | ((with_reducible refine gate_callee (f := 23) rfl ?_); refine goesL_ (some 35) rfl rfl Try.func23 (by kernel_rfl) rfl #[.slice Ao27 t138.length co27, .int .i64 (wrap64 (1 + t142)), .int .i64 (wrap64 (1 + t144))] rfl (by (try simp only [List.map_toArray, List.map_cons, List.map_nil]); first | done | rfl | (simp only [List.length_drop, List.length_take]; rfl)) ?_; (with_reducible refine (ending_Room.calls k _ _ t138 (wrap64 (1 + t142)) (wrap64 (1 + t144)) t146 t147 _ ?side1 ?side2 A10.out).mono ?_); (case side1 => repeat (first | exact (Kd.R_reads' HO140.out).2.2 | (with_reducible refine Kd.C_alloc ?_ _) | (with_reducible refine Kd.C_drewN ?_ _) | (with_reducible refine Kd.C_drew ?_))); (case side2 => exact (Kd.R_reads' HO140.out).2.1); rintro e w28 ⟨rfl, hb⟩; refine ⟨_, rfl, ?_⟩; have n0_ := Aside0.mk (Kd.R_below (by (with_reducible repeat (first | apply Kd.R_alloc | apply Kd.R_drewN | apply Kd.R_drew)); exact HO140.out) hb); have n1_ := Aside0.mk (IsS84.below (by repeat (first | (with_reducible first | exact HI137.out | apply IsS84.alloc | apply IsS84.drewN | apply IsS84.drew | apply IsS84.set_1) | exact HI137.out)) hb); have n2_ := Aside0.mk (below_step (by repeat (first | (with_reducible first | exact HB.out | apply below_alloc | apply pw_below_drewN | apply below_drew1 | refine below_set ?_ (IsS84.ge HI137.out)) | exact HB.out)) hb); clear HO140; clear HI137; clear HB; have HO140 := n0_; have HI137 := n1_; have HB := n2_; clear n0_ n1_ n2_; (try clear hb); (try clear hb2); (try clear hk); (try clear hi)) | ((with_reducible refine gate_callee (f := 23) rfl ?_); refine goesL_ (some 39) rfl rfl Try.func23 (by kernel_rfl) rfl #[.slice Ao27 t138.length co27, .int .i64 (wrap64 (1 + t144)), .int .i64 (wrap64 (1 + t142))] rfl (by (try simp only [List.map_toArray, List.map_cons, List.map_nil]); first | done | rfl | (simp only [List.length_drop, List.length_take]; rfl)) ?_; (with_reducible refine (ending_Room.calls k _ _ t138 (wrap64 (1 + t144)) (wrap64 (1 + t142)) t148 t149 _ ?side1 ?side2 A11.out).mono ?_); (case side1 => repeat (first | exact (Kd.R_reads' HO140.out).2.2 | (with_reducible refine Kd.C_alloc ?_ _) | (with_reducible refine Kd.C_drewN ?_ _) | (with_reducible refine Kd.C_drew ?_))); (case side2 => exact (Kd.R_reads' HO140.out).2.1); rintro e w29 ⟨rfl, hb⟩; refine ⟨_, rfl, ?_⟩; have n0_ := Aside0.mk (Kd.R_below (by (with_reducible repeat (first | apply Kd.R_alloc | apply Kd.R_drewN | apply Kd.R_drew)); exact HO140.out) hb); have n1_ := Aside0.mk (IsS84.below (by repeat (first | (with_reducible first | exact HI137.out | apply IsS84.alloc | apply IsS84.drewN | apply IsS84.drew | apply IsS84.set_1) | exact HI137.out)) hb); have n2_ := Aside0.mk (below_step (by repeat (first | (with_reducible first | exact HB.out | apply below_alloc | apply pw_below_drewN | apply below_drew1 | refine below_set ?_ (IsS84.ge HI137.out)) | exact HB.out)) hb); clear HO140; clear HI137; clear HB; have HO140 := n0_; have HI137 := n1_; have HB := n2_; clear n0_ n1_ n2_; (try clear hb); (try clear hb2); (try clear hk); (try clear hi)) | ((with_reducible refine gate_dst (N := 10) rfl ?_); refine box_event ?hg (N := 10) ?hd (cs := #[.int .i64 0, .int .i64 0]) (t := 39) ?hr ?_; (case hd => rfl); (case hg => rfl); (case hr => first | (go_simp; done) | (go_simp; rfl)); intro gb150 hg w30 hbox hb; have n0_ := Aside0.mk (Kd.R_below (by (with_reducible repeat (first | apply Kd.R_alloc | apply Kd.R_drewN | apply Kd.R_drew)); exact HO140.out) hb); have n1_ := Aside0.mk (IsS84.below (by repeat (first | (with_reducible first | exact HI137.out | apply IsS84.alloc | apply IsS84.drewN | apply IsS84.drew | apply IsS84.set_1) | exact HI137.out)) hb); have n2_ := Aside0.mk (below_step (by repeat (first | (with_reducible first | exact HB.out | apply below_alloc | apply pw_below_drewN | apply below_drew1 | refine below_set ?_ (IsS84.ge HI137.out)) | exact HB.out)) hb); have n3_ := Aside0.mk (hbox); have n4_ := Aside0.mk ((by rw [hg]; exact (below_size (by repeat (first | (with_reducible first | exact HB.out | apply below_alloc | apply pw_below_drewN | apply below_drew1 | refine below_set ?_ (IsS84.ge HI137.out)) | exact HB.out))) : w.heap.size ≤ gb150)); have n5_ := Aside0.mk ((by rw [hg]; exact (below_size (by repeat (first | (with_reducible first | exact HB.out | apply below_alloc | apply pw_below_drewN | apply below_drew1 | refine below_set ?_ (IsS84.ge HI137.out)) | exact HB.out))) : w.heap.size ≤ gb150)); have n6_ := Aside0.mk ((by rw [hg]; exact Nat.ne_of_lt (IsS84.lt (show IsS84 w _ g137 t135 t145 from by repeat (first | (with_reducible first | exact HI137.out | apply IsS84.alloc | apply IsS84.drewN | apply IsS84.drew | apply IsS84.set_1) | exact HI137.out))) : g137 ≠ gb150)); have n7_ := Aside0.mk ((by rw [hg]; exact Nat.ne_of_gt (IsS84.lt (show IsS84 w _ g137 t135 t145 from by repeat (first | (with_reducible first | exact HI137.out | apply IsS84.alloc | apply IsS84.drewN | apply IsS84.drew | apply IsS84.set_1) | exact HI137.out))) : gb150 ≠ g137)); clear HO140; clear HI137; clear HB; have HO140 := n0_; have HI137 := n1_; have HB := n2_; have BK150 := n3_; have GW150 := n4_; have GE150 := n5_; have NB137_150 := n6_; have NB150_137 := n7_; clear n0_ n1_ n2_ n3_ n4_ n5_ n6_ n7_; clear hb hbox hg) | ((with_reducible refine gate_dst (N := 11) rfl ?_); refine box_event ?hg (N := 11) ?hd (cs := #[.int .i64 0, .int .i64 0]) (t := 39) ?hr ?_; (case hd => rfl); (case hg => rfl); (case hr => first | (go_simp; done) | (go_simp; rfl)); intro gb151 hg w31 hbox hb; have n0_ := Aside0.mk (Kd.R_below (by (with_reducible repeat (first | apply Kd.R_alloc | apply Kd.R_drewN | apply Kd.R_drew)); exact HO140.out) hb); have n1_ := Aside0.mk (IsS84.below (by repeat (first | (with_reducible first | exact HI137.out | apply IsS84.alloc | apply IsS84.drewN | apply IsS84.drew | apply IsS84.set_1 | refine IsS84.far ?_ NB137_150.out _) | exact HI137.out)) hb); have n2_ := Aside0.mk (blk_below (g := gb150) (o := .cells #[.int .i64 0, .int .i64 0] 39 (0, 0)) (by (with_reducible repeat (first | refine blk_drewN ?_ _ | refine blk_drew ?_ | refine blk_alloc ?_ _)); exact BK150.out) hb); have n3_ := Aside0.mk (below_step (by repeat (first | (with_reducible first | exact HB.out | apply below_alloc | apply pw_below_drewN | apply below_drew1 | refine below_set ?_ (IsS84.ge HI137.out) | refine below_set ?_ GE150.out) | exact HB.out)) hb); have n4_ := Aside0.mk (hbox); have n5_ := Aside0.mk ((by rw [hg]; exact (below_size (by repeat (first | (with_reducible first | exact HB.out | apply below_alloc | apply pw_below_drewN | apply below_drew1 | refine below_set ?_ (IsS84.ge HI137.out) | refine below_set ?_ GE150.out) | exact HB.out))) : w.heap.size ≤ gb151)); have n6_ := Aside0.mk ((by rw [hg]; exact (below_size (by repeat (first | (with_reducible first | exact HB.out | apply below_alloc | apply pw_below_drewN | apply below_drew1 | refine below_set ?_ (IsS84.ge HI137.out) | refine below_set ?_ GE150.out) | exact HB.out))) : w.heap.size ≤ gb151)); have n7_ := Aside0.mk ((by rw [hg]; exact Nat.ne_of_lt (blk_lt (g := gb150) (o := .cells #[.int .i64 0, .int .i64 0] 39 (0, 0)) (by (with_reducible repeat (first | refine blk_drewN ?_ _ | refine blk_drew ?_ | refine blk_alloc ?_ _)); exact BK150.out)) : gb150 ≠ gb151)); have n8_ := Aside0.mk ((by rw [hg]; exact Nat.ne_of_gt (blk_lt (g := gb150) (o := .cells #[.int .i64 0, .int .i64 0] 39 (0, 0)) (by (with_reducible repeat (first | refine blk_drewN ?_ _ | refine blk_drew ?_ | refine blk_alloc ?_ _)); exact BK150.out)) : gb151 ≠ gb150)); have n9_ := Aside0.mk ((by rw [hg]; exact Nat.ne_of_lt (IsS84.lt (show IsS84 w _ g137 t135 t145 from by repeat (first | (with_reducible first | exact HI137.out | apply IsS84.alloc | apply IsS84.drewN | apply IsS84.drew | apply IsS84.set_1 | refine IsS84.far ?_ NB137_150.out _) | exact HI137.out))) : g137 ≠ gb151)); have n10_ := Aside0.mk ((by rw [hg]; exact Nat.ne_of_gt (IsS84.lt (show IsS84 w _ g137 t135 t145 from by repeat (first | (with_reducible first | exact HI137.out | apply IsS84.alloc | apply IsS84.drewN | apply IsS84.drew | apply IsS84.set_1 | refine IsS84.far ?_ NB137_150.out _) | exact HI137.out))) : gb151 ≠ g137)); clear HO140; clear HI137; clear BK150; clear HB; have HO140 := n0_; have HI137 := n1_; have BK150 := n2_; have HB := n3_; have BK151 := n4_; have GW151 := n5_; have GE151 := n6_; have NB150_151 := n7_; have NB151_150 := n8_; have NB137_151 := n9_; have NB151_137 := n10_; clear n0_ n1_ n2_ n3_ n4_ n5_ n6_ n7_ n8_ n9_ n10_; clear hb hbox hg; have hnb32 := NB150_151.out; have hnc32 := NB151_150.out; have hnb33 := NB150_137.out; have hnc33 := NB137_150.out; have hcz34_0 : w31.cell? ⟨gb150, 0, none⟩ = some (.int .i64 0) := (blk_cell BK150.out 0).trans rfl; have hcz34_1 : w31.cell? ⟨gb150, 1, none⟩ = some (.int .i64 0) := (blk_cell BK150.out 1).trans rfl; have hfz34_0 := blk_frozen BK150.out 0; have hfz34_1 := blk_frozen BK150.out 1; have hnb35 := NB151_137.out; have hnc35 := NB137_151.out; have hcz36_0 : w31.cell? ⟨gb151, 0, none⟩ = some (.int .i64 0) := (blk_cell BK151.out 0).trans rfl; have hcz36_1 : w31.cell? ⟨gb151, 1, none⟩ = some (.int .i64 0) := (blk_cell BK151.out 1).trans rfl; have hfz36_0 := blk_frozen BK151.out 0; have hfz36_1 := blk_frozen BK151.out 1))
                have n0_ : Aside0 (Kd.R k44 44 ((((w31.setCell ⟨gb150, 0, none⟩ (.int .i64 t146)).setCell ⟨gb150, 1, none⟩ (.int .i64 t147)).setCell ⟨gb151, 0, none⟩ (.int .i64 t148)).setCell ⟨gb151, 1, none⟩ (.int .i64 t149)) w.heap.size (fun _ => True) (.slice Ao27 t138.length co27) t138) := ⟨by (with_reducible repeat (first | apply Kd.R_alloc | apply Kd.R_drewN | apply Kd.R_drew)); exact Kd.R_mono (Kd.R_far (p := ⟨gb151, 1, none⟩) (Kd.R_far (p := ⟨gb151, 0, none⟩) (Kd.R_far (p := ⟨gb150, 1, none⟩) (Kd.R_far (p := ⟨gb150, 0, none⟩) (Kd.R_types (Kd.R_types HO140.out BK150.out (by decide)) BK151.out (by decide)) (fun _ hk => hk.1.2) (.int .i64 t146)) (fun _ hk => hk.1.2) (.int .i64 t147)) (fun _ hk => hk.2) (.int .i64 t148)) (fun _ hk => hk.2) (.int .i64 t149)) (fun _ hk => trivial)⟩
                have n1_ : Aside0 (((((w31.setCell ⟨gb150, 0, none⟩ (.int .i64 t146)).setCell ⟨gb150, 1, none⟩ (.int .i64 t147)).setCell ⟨gb151, 0, none⟩ (.int .i64 t148)).setCell ⟨gb151, 1, none⟩ (.int .i64 t149)).heap[gb150]? = some (.cells #[.int .i64 t146, .int .i64 t147] 39 (0, 0))) := ⟨by (with_reducible repeat (first | refine blk_drewN ?_ _ | refine blk_drew ?_ | refine blk_alloc ?_ _)); refine blk_far ?_ NB150_151.out _; (with_reducible repeat (first | refine blk_drewN ?_ _ | refine blk_drew ?_ | refine blk_alloc ?_ _)); refine blk_far ?_ NB150_151.out _; (with_reducible repeat (first | refine blk_drewN ?_ _ | refine blk_drew ?_ | refine blk_alloc ?_ _)); refine blk_put (cs := #[.int .i64 t146, .int .i64 0]) ?_ 1 _ rfl; (with_reducible repeat (first | refine blk_drewN ?_ _ | refine blk_drew ?_ | refine blk_alloc ?_ _)); refine blk_put (cs := #[.int .i64 0, .int .i64 0]) ?_ 0 _ rfl; (with_reducible repeat (first | refine blk_drewN ?_ _ | refine blk_drew ?_ | refine blk_alloc ?_ _)); exact BK150.out⟩
                have n2_ : Aside0 (((((w31.setCell ⟨gb150, 0, none⟩ (.int .i64 t146)).setCell ⟨gb150, 1, none⟩ (.int .i64 t147)).setCell ⟨gb151, 0, none⟩ (.int .i64 t148)).setCell ⟨gb151, 1, none⟩ (.int .i64 t149)).heap[gb151]? = some (.cells #[.int .i64 t148, .int .i64 t149] 39 (0, 0))) := ⟨by (with_reducible repeat (first | refine blk_drewN ?_ _ | refine blk_drew ?_ | refine blk_alloc ?_ _)); refine blk_put (cs := #[.int .i64 t148, .int .i64 0]) ?_ 1 _ rfl; (with_reducible repeat (first | refine blk_drewN ?_ _ | refine blk_drew ?_ | refine blk_alloc ?_ _)); refine blk_put (cs := #[.int .i64 0, .int .i64 0]) ?_ 0 _ rfl; (with_reducible repeat (first | refine blk_drewN ?_ _ | refine blk_drew ?_ | refine blk_alloc ?_ _)); refine blk_far ?_ NB151_150.out _; (with_reducible repeat (first | refine blk_drewN ?_ _ | refine blk_drew ?_ | refine blk_alloc ?_ _)); refine blk_far ?_ NB151_150.out _; (with_reducible repeat (first | refine blk_drewN ?_ _ | refine blk_drew ?_ | refine blk_alloc ?_ _)); exact BK151.out⟩
                have n3_ : Aside0 (IsS84 w ((((w31.setCell ⟨gb150, 0, none⟩ (.int .i64 t146)).setCell ⟨gb150, 1, none⟩ (.int .i64 t147)).setCell ⟨gb151, 0, none⟩ (.int .i64 t148)).setCell ⟨gb151, 1, none⟩ (.int .i64 t149)) g137 t135 t145) := ⟨by repeat (first | (with_reducible first | exact HI137.out | apply IsS84.alloc | apply IsS84.drewN | apply IsS84.drew | apply IsS84.set_1 | refine IsS84.far ?_ NB137_150.out _ | refine IsS84.far ?_ NB137_151.out _) | exact HI137.out)⟩
                have n4_ : Aside0 (Below w.heap.size w ((((w31.setCell ⟨gb150, 0, none⟩ (.int .i64 t146)).setCell ⟨gb150, 1, none⟩ (.int .i64 t147)).setCell ⟨gb151, 0, none⟩ (.int .i64 t148)).setCell ⟨gb151, 1, none⟩ (.int .i64 t149))) := ⟨by repeat (first | (with_reducible first | exact HB.out | apply below_alloc | apply pw_below_drewN | apply below_drew1 | refine below_set ?_ (IsS84.ge HI137.out) | refine below_set ?_ GE150.out | refine below_set ?_ GE151.out) | exact HB.out)⟩
                (try clear HO140)
                (try clear BK150)
                (try clear BK151)
                (try clear HI137)
                (try clear HB)
                generalize ((((w31.setCell ⟨gb150, 0, none⟩ (.int .i64 t146)).setCell ⟨gb150, 1, none⟩ (.int .i64 t147)).setCell ⟨gb151, 0, none⟩ (.int .i64 t148)).setCell ⟨gb151, 1, none⟩ (.int .i64 t149)) = w37 at n0_ n1_ n2_ n3_ n4_ ⊢
                have HO140 := n0_
                have BK150 := n1_
                have BK151 := n2_
                have HI137 := n3_
                have HB := n4_
                clear n0_ n1_ n2_ n3_ n4_
                have n0_ := Aside0.mk (Kd.R_drew HO140.out)
                have n1_ := Aside0.mk (blk_drew BK150.out)
                have n2_ := Aside0.mk (blk_drew BK151.out)
                have n3_ := Aside0.mk (IsS84.drew HI137.out)
                have n4_ := Aside0.mk (below_drew1 HB.out)
                clear HO140
                clear BK150
                clear BK151
                clear HI137
                clear HB
                have HO140 := n0_
                have BK150 := n1_
                have BK151 := n2_
                have HI137 := n3_
                have HB := n4_
                clear n0_ n1_ n2_ n3_ n4_
                have q39 : ((ji12) : Int) ≤ ((t138.length : Int) : Int) := of_decide_eq_true (by first | (with_reducible assumption) | assumption)
                obtain ⟨i039, hi039, _, hsz39, _⟩ := info_parts info44
                have hroom39 : t138.length ≤ co27 := (Kd.R_reads' HO140.out).2.1
                have hC39 : Kd.C k44 _ Ao27 t138.length t138 := (Kd.R_reads' HO140.out).2.2
                have hcut39 := cut_to (P := Try.prog) 26 44 .i64 Try.underlying26 hi039 Ao27 t138.length co27 (ji12) (of_decide_eq_true (by first | (with_reducible assumption) | assumption)) q39 hroom39
                have hr39 := Kd.C_take (m := ((ji12) : Int).toNat) hC39 (by omega)
                have hy39 : y152.length = ((ji12) : Int).toNat := (by rw [Ny152.out, List.length_take]; omega)
                rw [← Ny152.out] at hr39
                rw [← hy39] at hcut39
                have HR155 := Aside0.mk hr39
                have HC155 := Aside0.mk (show y152.length ≤ co27 from by omega)
                clear hr39 hC39 hroom39 hi039 hsz39
                have KY39 := Aside0.mk hy39
                clear hy39
                have KL39 := Aside0.mk (show ((ji12) : Int).toNat ≤ t138.length from by omega)
                replace q39 := eq_true q39
                have q40 : ((ji12) : Int) ≤ ((t138.length : Int) : Int) := of_decide_eq_true (by first | (with_reducible assumption) | assumption)
                obtain ⟨i040, hi040, _, hsz40, _⟩ := info_parts info44
                have hroom40 : t138.length ≤ co27 := (Kd.R_reads' HO140.out).2.1
                have hC40 : Kd.C k44 _ Ao27 t138.length t138 := (Kd.R_reads' HO140.out).2.2
                have q040 : (0 : Int) ≤ ((ji12) : Int) := of_decide_eq_true (by first | (with_reducible assumption) | assumption)
                have hcut40 := cut_from (P := Try.prog) 26 44 .i64 Try.underlying26 hi040 8 hsz40 Ao27 t138.length co27 (ji12) q040 q40
                have hr40 := Kd.C_drop (m := ((ji12) : Int).toNat) (c := co27) hC40 (by omega) hroom40
                obtain ⟨A40, hA40⟩ : ∃ A1, A1 = (if co27 = ((ji12) : Int).toNat then Ao27 else (Ao27 : Option Addr).map (·.add (((ji12) : Int).toNat * 8))) := ⟨_, rfl⟩
                obtain ⟨c40, hc40⟩ : ∃ c1, c1 = co27 - ((ji12) : Int).toNat := ⟨_, rfl⟩
                have hy40 : y158.length = t138.length - ((ji12) : Int).toNat := (by rw [Ny158.out, List.length_drop] <;> omega)
                rw [show (t138).drop ((ji12) : Int).toNat = y158 from Ny158.out.symm] at hr40
                replace hr40 : Kd.C k44 _ A40 y158.length y158 := (by rw [hA40]; exact hr40)
                rw [← hy40, ← hA40, ← hc40] at hcut40
                have HR161 := Aside0.mk hr40
                have HC161 := Aside0.mk (show y158.length ≤ c40 from by rw [hy40, hc40]; exact Nat.sub_le_sub_right hroom40 _)
                clear hr40 hC40 hroom40 hi040 hsz40 hc40
                have KY40 := Aside0.mk hy40
                have KA40 := Aside0.mk hA40
                clear hy40 hA40
                have KL40 := Aside0.mk (show ((ji12) : Int).toNat ≤ t138.length from by omega)
                replace q40 := eq_true q40
                refine start_ (n := 16) (S := fun w' => True) (ds := []) #[false, false, false, false, false, false, false, false, false, false, false, false, false, false, false, false] (by kernel_rfl) rfl rfl trivial (fun hHeld => ?_); refine with_tabW storagebarterlaw26_EndingRoom.tab8 storagebarterlaw26_EndingRoom.bits8 (fun HT_ HW_ => ?_)
                generalize w37.drew = w38 at HO140 BK150 BK151 HI137 HB HR155 HR161 hHeld ⊢
                refine pure_ (i := 0) (N := some 40) (v := ?_) (a' := ?_) #[true, false, false, false, false, false, false, false, false, false, false, false, false, false, false, false] rfl rfl (any_of HT_.out (by kernel_rfl)) (fun _ _ _ h => h) (Or.inl ⟨by rfl, ?_⟩) ?_ ?_
                rotate_left
                · intro w'
                  go_simp
                  with_reducible rfl
                rotate_left
                · simp only [Act.put, List.setIfInBounds_toArray, List.set_cons_zero, List.set_cons_succ, i64_w, i32_w]
                  rfl
                refine pure_ (i := 1) (N := some 41) (v := ?_) (a' := ?_) #[true, true, false, false, false, false, false, false, false, false, false, false, false, false, false, false] rfl rfl (any_of HT_.out (by kernel_rfl)) (fun _ _ _ h => h) (Or.inl ⟨by rfl, ?_⟩) ?_ ?_
                rotate_left
                · intro w'
                  go_simp
                  with_reducible rfl
                rotate_left
                · simp only [Act.put, List.setIfInBounds_toArray, List.set_cons_zero, List.set_cons_succ, i64_w, i32_w]
                  rfl
                refine pure_ (i := 2) (N := some 42) (v := ?_) (a' := ?_) #[true, true, true, false, false, false, false, false, false, false, false, false, false, false, false, false] rfl rfl (any_of HT_.out (by kernel_rfl)) (fun _ _ _ h => h) (Or.inl ⟨by rfl, ?_⟩) ?_ ?_
                rotate_left
                · intro w'
                  go_simp
                  with_reducible rfl
                rotate_left
                · simp only [Act.put, List.setIfInBounds_toArray, List.set_cons_zero, List.set_cons_succ, i64_w, i32_w]
                  rfl
                refine pure_ (i := 3) (N := some 43) (v := ?_) (a' := ?_) #[true, true, true, true, false, false, false, false, false, false, false, false, false, false, false, false] rfl rfl (any_of HT_.out (by kernel_rfl)) (fun _ _ _ h => h) (Or.inl ⟨by rfl, ?_⟩) ?_ ?_
                rotate_left
                · intro w'
                  go_simp
                  with_reducible rfl
                rotate_left
                · simp only [Act.put, List.setIfInBounds_toArray, List.set_cons_zero, List.set_cons_succ, i64_w, i32_w]
                  rfl
                refine pure_ (i := 4) (N := some 44) (v := ?_) (a' := ?_) #[true, true, true, true, true, false, false, false, false, false, false, false, false, false, false, false] rfl rfl (any_of HT_.out (by kernel_rfl)) (fun _ _ _ h => h) (Or.inl ⟨by rfl, ?_⟩) ?_ ?_
                rotate_left
                · intro w'
                  go_simp
                  with_reducible rfl
                rotate_left
                · simp only [Act.put, List.setIfInBounds_toArray, List.set_cons_zero, List.set_cons_succ, i64_w, i32_w]
                  rfl
                refine pure_ (i := 6) (N := some 46) (v := ?_) (a' := ?_) #[true, true, true, true, true, false, true, false, false, false, false, false, false, false, false, false] rfl rfl (any_of HT_.out (by kernel_rfl)) (fun _ _ _ h => h) (Or.inl ⟨by rfl, ?_⟩) ?_ ?_
                rotate_left
                · intro w'
                  go_simp
                  with_reducible rfl
                rotate_left
                · simp only [Act.put, List.setIfInBounds_toArray, List.set_cons_zero, List.set_cons_succ, i64_w, i32_w]
                  rfl
                refine pure_ (i := 7) (N := some 47) (v := ?_) (a' := ?_) #[true, true, true, true, true, false, true, true, false, false, false, false, false, false, false, false] rfl rfl (any_of HT_.out (by kernel_rfl)) (fun _ _ _ h => h) (Or.inl ⟨by rfl, ?_⟩) ?_ ?_
                rotate_left
                · intro w'
                  go_simp
                  with_reducible rfl
                rotate_left
                · simp only [Act.put, List.setIfInBounds_toArray, List.set_cons_zero, List.set_cons_succ, i64_w, i32_w]
                  rfl
                refine pure_ (i := 8) (N := some 48) (v := ?_) (a' := ?_) #[true, true, true, true, true, false, true, true, true, false, false, false, false, false, false, false] rfl rfl (any_of HT_.out (by kernel_rfl)) (fun _ _ _ h => h) (Or.inl ⟨by rfl, ?_⟩) ?_ ?_
                rotate_left
                · intro w'
                  go_simp
                  with_reducible rfl
                rotate_left
                · simp only [Act.put, List.setIfInBounds_toArray, List.set_cons_zero, List.set_cons_succ, i64_w, i32_w]
                  rfl
                refine pure_ (i := 9) (N := some 49) (v := ?_) (a' := ?_) #[true, true, true, true, true, false, true, true, true, true, false, false, false, false, false, false] rfl rfl (any_of HT_.out (by kernel_rfl)) (fun _ _ _ h => h) (Or.inl ⟨by rfl, ?_⟩) ?_ ?_
                rotate_left
                · intro w'
                  go_simp
                  with_reducible rfl
                rotate_left
                · simp only [Act.put, List.setIfInBounds_toArray, List.set_cons_zero, List.set_cons_succ, i64_w, i32_w]
                  rfl
                refine pure_ (i := 10) (N := some 50) (v := ?_) (a' := ?_) #[true, true, true, true, true, false, true, true, true, true, true, false, false, false, false, false] rfl rfl (any_of HT_.out (by kernel_rfl)) (fun _ _ _ h => h) (Or.inl ⟨by rfl, ?_⟩) ?_ ?_
                rotate_left
                · intro w'
                  go_simp
                  with_reducible rfl
                rotate_left
                · simp only [Act.put, List.setIfInBounds_toArray, List.set_cons_zero, List.set_cons_succ, i64_w, i32_w]
                  rfl
                refine join_ (σ := Nat × Nat) 2 #[true, true, true, true, true, true, true, true, true, true, true, true, true, true, false, false] (fun s_ => [(45, .agg #[.int .i64 t156, .int .i64 t157]), (51, .agg #[.int .i64 t162, .int .i64 t163]), (12, .pointer (some ⟨s_.1, 0, none⟩)), (13, .pointer (some ⟨s_.2, 0, none⟩))]) (fun s_ w' => (Kd.R k44 44 w' w.heap.size (fun _ => True) (.slice Ao27 t138.length co27) t138) ∧ (w'.heap[gb150]? = some (.cells #[.int .i64 t146, .int .i64 t147] 39 (0, 0))) ∧ (w'.heap[gb151]? = some (.cells #[.int .i64 t148, .int .i64 t149] 39 (0, 0))) ∧ (w'.heap[s_.1]? = some (.cells #[.int .i64 0, .int .i64 0] 39 (0, 0))) ∧ (w'.heap[s_.2]? = some (.cells #[.int .i64 0, .int .i64 0] 39 (0, 0))) ∧ (w.heap.size ≤ s_.1) ∧ (w.heap.size ≤ s_.1) ∧ (g137 ≠ s_.1) ∧ (s_.1 ≠ g137) ∧ (gb150 ≠ s_.1) ∧ (s_.1 ≠ gb150) ∧ (gb151 ≠ s_.1) ∧ (s_.1 ≠ gb151) ∧ (s_.2 ≠ s_.1) ∧ (s_.1 ≠ s_.2) ∧ (w.heap.size ≤ s_.2) ∧ (w.heap.size ≤ s_.2) ∧ (g137 ≠ s_.2) ∧ (s_.2 ≠ g137) ∧ (gb150 ≠ s_.2) ∧ (s_.2 ≠ gb150) ∧ (gb151 ≠ s_.2) ∧ (s_.2 ≠ gb151) ∧ (IsS84 w w' g137 t135 t145) ∧ (Below w.heap.size w w')) ?_ ?_
                rotate_left
                · intro hJ5_11_12_13
                  refine join_ (σ := Nat) 3 #[true, true, true, true, true, true, true, true, true, true, true, true, true, false, false, false] (fun s_ => [(45, .agg #[.int .i64 t156, .int .i64 t157]), (51, .agg #[.int .i64 t162, .int .i64 t163]), (12, .pointer (some ⟨s_, 0, none⟩))]) (fun s_ w' => (Kd.R k44 44 w' w.heap.size (fun _ => True) (.slice Ao27 t138.length co27) t138) ∧ (w'.heap[gb150]? = some (.cells #[.int .i64 t146, .int .i64 t147] 39 (0, 0))) ∧ (w'.heap[gb151]? = some (.cells #[.int .i64 t148, .int .i64 t149] 39 (0, 0))) ∧ (w'.heap[s_]? = some (.cells #[.int .i64 0, .int .i64 0] 39 (0, 0))) ∧ (w.heap.size ≤ s_) ∧ (w.heap.size ≤ s_) ∧ (g137 ≠ s_) ∧ (s_ ≠ g137) ∧ (gb150 ≠ s_) ∧ (s_ ≠ gb150) ∧ (gb151 ≠ s_) ∧ (s_ ≠ gb151) ∧ (IsS84 w w' g137 t135 t145) ∧ (Below w.heap.size w w')) ?_ ?_
                  rotate_left
                  · intro hJ5_11_12
                    refine join_ (σ := Nat) 3 #[true, true, true, true, true, true, true, true, true, true, true, true, false, true, false, false] (fun s_ => [(45, .agg #[.int .i64 t156, .int .i64 t157]), (51, .agg #[.int .i64 t162, .int .i64 t163]), (13, .pointer (some ⟨s_, 0, none⟩))]) (fun s_ w' => (Kd.R k44 44 w' w.heap.size (fun _ => True) (.slice Ao27 t138.length co27) t138) ∧ (w'.heap[gb150]? = some (.cells #[.int .i64 t146, .int .i64 t147] 39 (0, 0))) ∧ (w'.heap[gb151]? = some (.cells #[.int .i64 t148, .int .i64 t149] 39 (0, 0))) ∧ (w'.heap[s_]? = some (.cells #[.int .i64 0, .int .i64 0] 39 (0, 0))) ∧ (w.heap.size ≤ s_) ∧ (w.heap.size ≤ s_) ∧ (g137 ≠ s_) ∧ (s_ ≠ g137) ∧ (gb150 ≠ s_) ∧ (s_ ≠ gb150) ∧ (gb151 ≠ s_) ∧ (s_ ≠ gb151) ∧ (IsS84 w w' g137 t135 t145) ∧ (Below w.heap.size w w')) ?_ ?_
                    rotate_left
                    · intro hJ5_11_13
                      refine join_ (σ := Nat × Nat) 3 #[true, true, true, true, true, true, true, true, true, true, true, false, true, true, false, false] (fun s_ => [(45, .agg #[.int .i64 t156, .int .i64 t157]), (12, .pointer (some ⟨s_.1, 0, none⟩)), (13, .pointer (some ⟨s_.2, 0, none⟩))]) (fun s_ w' => (Kd.R k44 44 w' w.heap.size (fun _ => True) (.slice Ao27 t138.length co27) t138) ∧ (w'.heap[gb150]? = some (.cells #[.int .i64 t146, .int .i64 t147] 39 (0, 0))) ∧ (w'.heap[gb151]? = some (.cells #[.int .i64 t148, .int .i64 t149] 39 (0, 0))) ∧ (w'.heap[s_.1]? = some (.cells #[.int .i64 0, .int .i64 0] 39 (0, 0))) ∧ (w'.heap[s_.2]? = some (.cells #[.int .i64 0, .int .i64 0] 39 (0, 0))) ∧ (w.heap.size ≤ s_.1) ∧ (w.heap.size ≤ s_.1) ∧ (g137 ≠ s_.1) ∧ (s_.1 ≠ g137) ∧ (gb150 ≠ s_.1) ∧ (s_.1 ≠ gb150) ∧ (gb151 ≠ s_.1) ∧ (s_.1 ≠ gb151) ∧ (s_.2 ≠ s_.1) ∧ (s_.1 ≠ s_.2) ∧ (w.heap.size ≤ s_.2) ∧ (w.heap.size ≤ s_.2) ∧ (g137 ≠ s_.2) ∧ (s_.2 ≠ g137) ∧ (gb150 ≠ s_.2) ∧ (s_.2 ≠ gb150) ∧ (gb151 ≠ s_.2) ∧ (s_.2 ≠ gb151) ∧ (IsS84 w w' g137 t135 t145) ∧ (Below w.heap.size w w')) ?_ ?_
                      rotate_left
                      · intro hJ5_12_13
                        refine join_ (σ := Unit) 4 #[true, true, true, true, true, true, true, true, true, true, true, true, false, false, false, false] (fun s_ => [(45, .agg #[.int .i64 t156, .int .i64 t157]), (51, .agg #[.int .i64 t162, .int .i64 t163])]) (fun s_ w' => (Kd.R k44 44 w' w.heap.size (fun _ => True) (.slice Ao27 t138.length co27) t138) ∧ (w'.heap[gb150]? = some (.cells #[.int .i64 t146, .int .i64 t147] 39 (0, 0))) ∧ (w'.heap[gb151]? = some (.cells #[.int .i64 t148, .int .i64 t149] 39 (0, 0))) ∧ (IsS84 w w' g137 t135 t145) ∧ (Below w.heap.size w w')) ?_ ?_
                        rotate_left
                        · intro hJ5_11
                          refine join_ (σ := Nat) 4 #[true, true, true, true, true, true, true, true, true, true, true, false, true, false, false, false] (fun s_ => [(45, .agg #[.int .i64 t156, .int .i64 t157]), (12, .pointer (some ⟨s_, 0, none⟩))]) (fun s_ w' => (Kd.R k44 44 w' w.heap.size (fun _ => True) (.slice Ao27 t138.length co27) t138) ∧ (w'.heap[gb150]? = some (.cells #[.int .i64 t146, .int .i64 t147] 39 (0, 0))) ∧ (w'.heap[gb151]? = some (.cells #[.int .i64 t148, .int .i64 t149] 39 (0, 0))) ∧ (w'.heap[s_]? = some (.cells #[.int .i64 0, .int .i64 0] 39 (0, 0))) ∧ (w.heap.size ≤ s_) ∧ (w.heap.size ≤ s_) ∧ (g137 ≠ s_) ∧ (s_ ≠ g137) ∧ (gb150 ≠ s_) ∧ (s_ ≠ gb150) ∧ (gb151 ≠ s_) ∧ (s_ ≠ gb151) ∧ (IsS84 w w' g137 t135 t145) ∧ (Below w.heap.size w w')) ?_ ?_
                          rotate_left
                          · intro hJ5_12
                            refine join_ (σ := Nat) 4 #[true, true, true, true, true, true, true, true, true, true, true, false, false, true, false, false] (fun s_ => [(45, .agg #[.int .i64 t156, .int .i64 t157]), (13, .pointer (some ⟨s_, 0, none⟩))]) (fun s_ w' => (Kd.R k44 44 w' w.heap.size (fun _ => True) (.slice Ao27 t138.length co27) t138) ∧ (w'.heap[gb150]? = some (.cells #[.int .i64 t146, .int .i64 t147] 39 (0, 0))) ∧ (w'.heap[gb151]? = some (.cells #[.int .i64 t148, .int .i64 t149] 39 (0, 0))) ∧ (w'.heap[s_]? = some (.cells #[.int .i64 0, .int .i64 0] 39 (0, 0))) ∧ (w.heap.size ≤ s_) ∧ (w.heap.size ≤ s_) ∧ (g137 ≠ s_) ∧ (s_ ≠ g137) ∧ (gb150 ≠ s_) ∧ (s_ ≠ gb150) ∧ (gb151 ≠ s_) ∧ (s_ ≠ gb151) ∧ (IsS84 w w' g137 t135 t145) ∧ (Below w.heap.size w w')) ?_ ?_
                            rotate_left
                            · intro hJ5_13
                              refine join_ (σ := Nat × Nat) 4 #[true, true, true, true, true, false, true, true, true, true, true, false, true, true, false, false] (fun s_ => [(12, .pointer (some ⟨s_.1, 0, none⟩)), (13, .pointer (some ⟨s_.2, 0, none⟩))]) (fun s_ w' => (Kd.R k44 44 w' w.heap.size (fun _ => True) (.slice Ao27 t138.length co27) t138) ∧ (w'.heap[gb150]? = some (.cells #[.int .i64 t146, .int .i64 t147] 39 (0, 0))) ∧ (w'.heap[gb151]? = some (.cells #[.int .i64 t148, .int .i64 t149] 39 (0, 0))) ∧ (w'.heap[s_.1]? = some (.cells #[.int .i64 0, .int .i64 0] 39 (0, 0))) ∧ (w'.heap[s_.2]? = some (.cells #[.int .i64 0, .int .i64 0] 39 (0, 0))) ∧ (w.heap.size ≤ s_.1) ∧ (w.heap.size ≤ s_.1) ∧ (g137 ≠ s_.1) ∧ (s_.1 ≠ g137) ∧ (gb150 ≠ s_.1) ∧ (s_.1 ≠ gb150) ∧ (gb151 ≠ s_.1) ∧ (s_.1 ≠ gb151) ∧ (s_.2 ≠ s_.1) ∧ (s_.1 ≠ s_.2) ∧ (w.heap.size ≤ s_.2) ∧ (w.heap.size ≤ s_.2) ∧ (g137 ≠ s_.2) ∧ (s_.2 ≠ g137) ∧ (gb150 ≠ s_.2) ∧ (s_.2 ≠ gb150) ∧ (gb151 ≠ s_.2) ∧ (s_.2 ≠ gb151) ∧ (IsS84 w w' g137 t135 t145) ∧ (Below w.heap.size w w')) ?_ ?_
                              rotate_left
                              · intro hJ12_13
                                refine join_ (σ := Unit) 5 #[true, true, true, true, true, true, true, true, true, true, true, false, false, false, false, false] (fun s_ => [(45, .agg #[.int .i64 t156, .int .i64 t157])]) (fun s_ w' => (Kd.R k44 44 w' w.heap.size (fun _ => True) (.slice Ao27 t138.length co27) t138) ∧ (w'.heap[gb150]? = some (.cells #[.int .i64 t146, .int .i64 t147] 39 (0, 0))) ∧ (w'.heap[gb151]? = some (.cells #[.int .i64 t148, .int .i64 t149] 39 (0, 0))) ∧ (IsS84 w w' g137 t135 t145) ∧ (Below w.heap.size w w')) ?_ ?_
                                rotate_left
                                · intro hJ5
                                  refine join_ (σ := Nat) 5 #[true, true, true, true, true, false, true, true, true, true, true, false, true, false, false, false] (fun s_ => [(12, .pointer (some ⟨s_, 0, none⟩))]) (fun s_ w' => (Kd.R k44 44 w' w.heap.size (fun _ => True) (.slice Ao27 t138.length co27) t138) ∧ (w'.heap[gb150]? = some (.cells #[.int .i64 t146, .int .i64 t147] 39 (0, 0))) ∧ (w'.heap[gb151]? = some (.cells #[.int .i64 t148, .int .i64 t149] 39 (0, 0))) ∧ (w'.heap[s_]? = some (.cells #[.int .i64 0, .int .i64 0] 39 (0, 0))) ∧ (w.heap.size ≤ s_) ∧ (w.heap.size ≤ s_) ∧ (g137 ≠ s_) ∧ (s_ ≠ g137) ∧ (gb150 ≠ s_) ∧ (s_ ≠ gb150) ∧ (gb151 ≠ s_) ∧ (s_ ≠ gb151) ∧ (IsS84 w w' g137 t135 t145) ∧ (Below w.heap.size w w')) ?_ ?_
                                  rotate_left
                                  · intro hJ12
                                    refine join_ (σ := Nat) 5 #[true, true, true, true, true, false, true, true, true, true, true, false, false, true, false, false] (fun s_ => [(13, .pointer (some ⟨s_, 0, none⟩))]) (fun s_ w' => (Kd.R k44 44 w' w.heap.size (fun _ => True) (.slice Ao27 t138.length co27) t138) ∧ (w'.heap[gb150]? = some (.cells #[.int .i64 t146, .int .i64 t147] 39 (0, 0))) ∧ (w'.heap[gb151]? = some (.cells #[.int .i64 t148, .int .i64 t149] 39 (0, 0))) ∧ (w'.heap[s_]? = some (.cells #[.int .i64 0, .int .i64 0] 39 (0, 0))) ∧ (w.heap.size ≤ s_) ∧ (w.heap.size ≤ s_) ∧ (g137 ≠ s_) ∧ (s_ ≠ g137) ∧ (gb150 ≠ s_) ∧ (s_ ≠ gb150) ∧ (gb151 ≠ s_) ∧ (s_ ≠ gb151) ∧ (IsS84 w w' g137 t135 t145) ∧ (Below w.heap.size w w')) ?_ ?_
                                    rotate_left
                                    · intro hJ13
                                      refine three_ (i := 5) (j := 12) (k := 13) (Ni := some 45) (Nj := some 12) (Nk := some 13) #[true, true, true, true, true, true, true, true, true, true, true, false, false, false, false, false] #[true, true, true, true, true, false, true, true, true, true, true, false, true, false, false, false] #[true, true, true, true, true, false, true, true, true, true, true, false, false, true, false, false] rfl rfl rfl rfl rfl rfl (three_of HT_.out (by kernel_rfl)) (by decide) (by decide) (by decide) (fun K hK => ?_) (fun K hK => ?_) (fun K hK => ?_)
                                      · skip
                                        refine goes_ Try.func23 (by kernel_rfl) rfl #[.slice Ao27 y152.length co27, .int .i64 (wrap64 (1 + t142)), .int .i64 (wrap64 (1 + t144))] (by rfl) rfl rfl (by (try simp only [List.map_toArray, List.map_cons, List.map_nil]); first | done | rfl | (simp only [List.length_drop, List.length_take]; rfl)) ?_
                                        with_reducible refine (ending_Room.calls k _ _ y152 (wrap64 (1 + t142)) (wrap64 (1 + t144)) t156 t157 _ ?side1 ?side2 A15.out).mono ?_
                                        (case side1 => repeat (first | exact (by repeat (first | (with_reducible exact HR155.out) | (with_reducible refine Kd.C_alloc ?_ _) | (with_reducible refine Kd.C_drewN ?_ _) | (with_reducible refine Kd.C_drew ?_) | exact HR155.out)) | (with_reducible refine Kd.C_alloc ?_ _) | (with_reducible refine Kd.C_drewN ?_ _) | (with_reducible refine Kd.C_drew ?_)))
                                        (case side2 => exact HC155.out)
                                        rintro e w41 ⟨rfl, hb⟩
                                        refine ⟨_, rfl, ?_⟩
                                        have n0_ := Aside0.mk (Kd.R_below (by (with_reducible repeat (first | apply Kd.R_alloc | apply Kd.R_drewN | apply Kd.R_drew)); exact HO140.out) hb)
                                        have n1_ := Aside0.mk (IsS84.below (by repeat (first | (with_reducible first | exact HI137.out | apply IsS84.alloc | apply IsS84.drewN | apply IsS84.drew | apply IsS84.set_1 | refine IsS84.far ?_ NB137_150.out _ | refine IsS84.far ?_ NB137_151.out _) | exact HI137.out)) hb)
                                        have n2_ := Aside0.mk (blk_below (g := gb150) (o := .cells #[.int .i64 t146, .int .i64 t147] 39 (0, 0)) (by (with_reducible repeat (first | refine blk_drewN ?_ _ | refine blk_drew ?_ | refine blk_alloc ?_ _)); exact BK150.out) hb)
                                        have n3_ := Aside0.mk (blk_below (g := gb151) (o := .cells #[.int .i64 t148, .int .i64 t149] 39 (0, 0)) (by (with_reducible repeat (first | refine blk_drewN ?_ _ | refine blk_drew ?_ | refine blk_alloc ?_ _)); exact BK151.out) hb)
                                        have n4_ := Aside0.mk (Kd.C_below (by repeat (first | (with_reducible exact HR155.out) | (with_reducible refine Kd.C_alloc ?_ _) | (with_reducible refine Kd.C_drewN ?_ _) | (with_reducible refine Kd.C_drew ?_) | exact HR155.out)) hb)
                                        have n5_ := Aside0.mk (Kd.C_below (by repeat (first | (with_reducible exact HR161.out) | (with_reducible refine Kd.C_alloc ?_ _) | (with_reducible refine Kd.C_drewN ?_ _) | (with_reducible refine Kd.C_drew ?_) | exact HR161.out)) hb)
                                        have n6_ := Aside0.mk (below_step (by repeat (first | (with_reducible first | exact HB.out | apply below_alloc | apply pw_below_drewN | apply below_drew1 | refine below_set ?_ (IsS84.ge HI137.out) | refine below_set ?_ GE150.out | refine below_set ?_ GE151.out) | exact HB.out)) hb)
                                        clear HO140
                                        clear HI137
                                        clear BK150
                                        clear BK151
                                        clear HR155
                                        clear HR161
                                        clear HB
                                        have HO140 := n0_
                                        have HI137 := n1_
                                        have BK150 := n2_
                                        have BK151 := n3_
                                        have HR155 := n4_
                                        have HR161 := n5_
                                        have HB := n6_
                                        clear n0_ n1_ n2_ n3_ n4_ n5_ n6_
                                        (try clear hb)
                                        (try clear hb2)
                                        (try clear hk)
                                        (try clear hi)
                                        refine hK.out _ _ trivial (fun hHeld => ?_)
                                        clear hK K
                                        refine norm_ (a' := ?_) ?_ ?_
                                        rotate_left
                                        · show Act.put _ (some 45) _ = _
                                          simp only [Act.put, List.setIfInBounds_toArray, List.set_cons_zero, List.set_cons_succ, i64_w, i32_w]
                                          rfl
                                        exact norm_ (by first | (simp only [putAll, Act.put, List.setIfInBounds_toArray, List.set_cons_zero, List.set_cons_succ]; done) | (simp only [putAll, Act.put, List.setIfInBounds_toArray, List.set_cons_zero, List.set_cons_succ]; rfl)) (hJ5 () _ ⟨(by (with_reducible repeat (first | apply Kd.R_alloc | apply Kd.R_drewN | apply Kd.R_drew)); exact HO140.out), (by (with_reducible repeat (first | refine blk_drewN ?_ _ | refine blk_drew ?_ | refine blk_alloc ?_ _)); exact BK150.out), (by (with_reducible repeat (first | refine blk_drewN ?_ _ | refine blk_drew ?_ | refine blk_alloc ?_ _)); exact BK151.out), (by repeat (first | (with_reducible first | exact HI137.out | apply IsS84.alloc | apply IsS84.drewN | apply IsS84.drew | apply IsS84.set_1 | refine IsS84.far ?_ NB137_150.out _ | refine IsS84.far ?_ NB137_151.out _) | exact HI137.out)), (by repeat (first | (with_reducible first | exact HB.out | apply below_alloc | apply pw_below_drewN | apply below_drew1 | refine below_set ?_ (IsS84.ge HI137.out) | refine below_set ?_ GE150.out | refine below_set ?_ GE151.out) | exact HB.out))⟩)
                                      · skip
                                        refine box_step ?hg (N := 12) ?hd (cs := #[.int .i64 0, .int .i64 0]) (t := 39) ?hr ?_; (case hd => rfl); (case hg => rfl); (case hr => first | (go_simp; done) | (go_simp; rfl))
                                        intro gb164 hg w41 hbox hb
                                        have n0_ := Aside0.mk (Kd.R_below (by (with_reducible repeat (first | apply Kd.R_alloc | apply Kd.R_drewN | apply Kd.R_drew)); exact HO140.out) hb)
                                        have n1_ := Aside0.mk (IsS84.below (by repeat (first | (with_reducible first | exact HI137.out | apply IsS84.alloc | apply IsS84.drewN | apply IsS84.drew | apply IsS84.set_1 | refine IsS84.far ?_ NB137_150.out _ | refine IsS84.far ?_ NB137_151.out _) | exact HI137.out)) hb)
                                        have n2_ := Aside0.mk (blk_below (g := gb150) (o := .cells #[.int .i64 t146, .int .i64 t147] 39 (0, 0)) (by (with_reducible repeat (first | refine blk_drewN ?_ _ | refine blk_drew ?_ | refine blk_alloc ?_ _)); exact BK150.out) hb)
                                        have n3_ := Aside0.mk (blk_below (g := gb151) (o := .cells #[.int .i64 t148, .int .i64 t149] 39 (0, 0)) (by (with_reducible repeat (first | refine blk_drewN ?_ _ | refine blk_drew ?_ | refine blk_alloc ?_ _)); exact BK151.out) hb)
                                        have n4_ := Aside0.mk (Kd.C_below (by repeat (first | (with_reducible exact HR155.out) | (with_reducible refine Kd.C_alloc ?_ _) | (with_reducible refine Kd.C_drewN ?_ _) | (with_reducible refine Kd.C_drew ?_) | exact HR155.out)) hb)
                                        have n5_ := Aside0.mk (Kd.C_below (by repeat (first | (with_reducible exact HR161.out) | (with_reducible refine Kd.C_alloc ?_ _) | (with_reducible refine Kd.C_drewN ?_ _) | (with_reducible refine Kd.C_drew ?_) | exact HR161.out)) hb)
                                        have n6_ := Aside0.mk (below_step (by repeat (first | (with_reducible first | exact HB.out | apply below_alloc | apply pw_below_drewN | apply below_drew1 | refine below_set ?_ (IsS84.ge HI137.out) | refine below_set ?_ GE150.out | refine below_set ?_ GE151.out) | exact HB.out)) hb)
                                        have n7_ := Aside0.mk (hbox)
                                        have n8_ := Aside0.mk ((by rw [hg]; exact (below_size (by repeat (first | (with_reducible first | exact HB.out | apply below_alloc | apply pw_below_drewN | apply below_drew1 | refine below_set ?_ (IsS84.ge HI137.out) | refine below_set ?_ GE150.out | refine below_set ?_ GE151.out) | exact HB.out))) : w.heap.size ≤ gb164))
                                        have n9_ := Aside0.mk ((by rw [hg]; exact (below_size (by repeat (first | (with_reducible first | exact HB.out | apply below_alloc | apply pw_below_drewN | apply below_drew1 | refine below_set ?_ (IsS84.ge HI137.out) | refine below_set ?_ GE150.out | refine below_set ?_ GE151.out) | exact HB.out))) : w.heap.size ≤ gb164))
                                        have n10_ := Aside0.mk ((by rw [hg]; exact Nat.ne_of_lt (blk_lt (g := gb150) (o := .cells #[.int .i64 t146, .int .i64 t147] 39 (0, 0)) (by (with_reducible repeat (first | refine blk_drewN ?_ _ | refine blk_drew ?_ | refine blk_alloc ?_ _)); exact BK150.out)) : gb150 ≠ gb164))
                                        have n11_ := Aside0.mk ((by rw [hg]; exact Nat.ne_of_gt (blk_lt (g := gb150) (o := .cells #[.int .i64 t146, .int .i64 t147] 39 (0, 0)) (by (with_reducible repeat (first | refine blk_drewN ?_ _ | refine blk_drew ?_ | refine blk_alloc ?_ _)); exact BK150.out)) : gb164 ≠ gb150))
                                        have n12_ := Aside0.mk ((by rw [hg]; exact Nat.ne_of_lt (blk_lt (g := gb151) (o := .cells #[.int .i64 t148, .int .i64 t149] 39 (0, 0)) (by (with_reducible repeat (first | refine blk_drewN ?_ _ | refine blk_drew ?_ | refine blk_alloc ?_ _)); exact BK151.out)) : gb151 ≠ gb164))
                                        have n13_ := Aside0.mk ((by rw [hg]; exact Nat.ne_of_gt (blk_lt (g := gb151) (o := .cells #[.int .i64 t148, .int .i64 t149] 39 (0, 0)) (by (with_reducible repeat (first | refine blk_drewN ?_ _ | refine blk_drew ?_ | refine blk_alloc ?_ _)); exact BK151.out)) : gb164 ≠ gb151))
                                        have n14_ := Aside0.mk ((by rw [hg]; exact Nat.ne_of_lt (IsS84.lt (show IsS84 w _ g137 t135 t145 from by repeat (first | (with_reducible first | exact HI137.out | apply IsS84.alloc | apply IsS84.drewN | apply IsS84.drew | apply IsS84.set_1 | refine IsS84.far ?_ NB137_150.out _ | refine IsS84.far ?_ NB137_151.out _) | exact HI137.out))) : g137 ≠ gb164))
                                        have n15_ := Aside0.mk ((by rw [hg]; exact Nat.ne_of_gt (IsS84.lt (show IsS84 w _ g137 t135 t145 from by repeat (first | (with_reducible first | exact HI137.out | apply IsS84.alloc | apply IsS84.drewN | apply IsS84.drew | apply IsS84.set_1 | refine IsS84.far ?_ NB137_150.out _ | refine IsS84.far ?_ NB137_151.out _) | exact HI137.out))) : gb164 ≠ g137))
                                        clear HO140
                                        clear HI137
                                        clear BK150
                                        clear BK151
                                        clear HR155
                                        clear HR161
                                        clear HB
                                        have HO140 := n0_
                                        have HI137 := n1_
                                        have BK150 := n2_
                                        have BK151 := n3_
                                        have HR155 := n4_
                                        have HR161 := n5_
                                        have HB := n6_
                                        have BK164 := n7_
                                        have GW164 := n8_
                                        have GE164 := n9_
                                        have NB150_164 := n10_
                                        have NB164_150 := n11_
                                        have NB151_164 := n12_
                                        have NB164_151 := n13_
                                        have NB137_164 := n14_
                                        have NB164_137 := n15_
                                        clear n0_ n1_ n2_ n3_ n4_ n5_ n6_ n7_ n8_ n9_ n10_ n11_ n12_ n13_ n14_ n15_
                                        clear hb hbox hg
                                        refine hK.out _ _ trivial (fun hHeld => ?_)
                                        clear hK K
                                        refine norm_ (a' := ?_) ?_ ?_
                                        rotate_left
                                        · show Act.put _ (some 12) _ = _
                                          simp only [Act.put, List.setIfInBounds_toArray, List.set_cons_zero, List.set_cons_succ, i64_w, i32_w]
                                          rfl
                                        exact norm_ (by first | (simp only [putAll, Act.put, List.setIfInBounds_toArray, List.set_cons_zero, List.set_cons_succ]; done) | (simp only [putAll, Act.put, List.setIfInBounds_toArray, List.set_cons_zero, List.set_cons_succ]; rfl)) (hJ12 (gb164) _ ⟨(by (with_reducible repeat (first | apply Kd.R_alloc | apply Kd.R_drewN | apply Kd.R_drew)); exact HO140.out), (by (with_reducible repeat (first | refine blk_drewN ?_ _ | refine blk_drew ?_ | refine blk_alloc ?_ _)); exact BK150.out), (by (with_reducible repeat (first | refine blk_drewN ?_ _ | refine blk_drew ?_ | refine blk_alloc ?_ _)); exact BK151.out), (by (with_reducible repeat (first | refine blk_drewN ?_ _ | refine blk_drew ?_ | refine blk_alloc ?_ _)); exact BK164.out), GW164.out, GE164.out, NB137_164.out, NB164_137.out, NB150_164.out, NB164_150.out, NB151_164.out, NB164_151.out, (by repeat (first | (with_reducible first | exact HI137.out | apply IsS84.alloc | apply IsS84.drewN | apply IsS84.drew | apply IsS84.set_1 | refine IsS84.far ?_ NB137_150.out _ | refine IsS84.far ?_ NB137_151.out _ | refine IsS84.far ?_ NB137_164.out _) | exact HI137.out)), (by repeat (first | (with_reducible first | exact HB.out | apply below_alloc | apply pw_below_drewN | apply below_drew1 | refine below_set ?_ (IsS84.ge HI137.out) | refine below_set ?_ GE150.out | refine below_set ?_ GE151.out | refine below_set ?_ GE164.out) | exact HB.out))⟩)
                                      · skip
                                        refine box_step ?hg (N := 13) ?hd (cs := #[.int .i64 0, .int .i64 0]) (t := 39) ?hr ?_; (case hd => rfl); (case hg => rfl); (case hr => first | (go_simp; done) | (go_simp; rfl))
                                        intro gb165 hg w41 hbox hb
                                        have n0_ := Aside0.mk (Kd.R_below (by (with_reducible repeat (first | apply Kd.R_alloc | apply Kd.R_drewN | apply Kd.R_drew)); exact HO140.out) hb)
                                        have n1_ := Aside0.mk (IsS84.below (by repeat (first | (with_reducible first | exact HI137.out | apply IsS84.alloc | apply IsS84.drewN | apply IsS84.drew | apply IsS84.set_1 | refine IsS84.far ?_ NB137_150.out _ | refine IsS84.far ?_ NB137_151.out _) | exact HI137.out)) hb)
                                        have n2_ := Aside0.mk (blk_below (g := gb150) (o := .cells #[.int .i64 t146, .int .i64 t147] 39 (0, 0)) (by (with_reducible repeat (first | refine blk_drewN ?_ _ | refine blk_drew ?_ | refine blk_alloc ?_ _)); exact BK150.out) hb)
                                        have n3_ := Aside0.mk (blk_below (g := gb151) (o := .cells #[.int .i64 t148, .int .i64 t149] 39 (0, 0)) (by (with_reducible repeat (first | refine blk_drewN ?_ _ | refine blk_drew ?_ | refine blk_alloc ?_ _)); exact BK151.out) hb)
                                        have n4_ := Aside0.mk (Kd.C_below (by repeat (first | (with_reducible exact HR155.out) | (with_reducible refine Kd.C_alloc ?_ _) | (with_reducible refine Kd.C_drewN ?_ _) | (with_reducible refine Kd.C_drew ?_) | exact HR155.out)) hb)
                                        have n5_ := Aside0.mk (Kd.C_below (by repeat (first | (with_reducible exact HR161.out) | (with_reducible refine Kd.C_alloc ?_ _) | (with_reducible refine Kd.C_drewN ?_ _) | (with_reducible refine Kd.C_drew ?_) | exact HR161.out)) hb)
                                        have n6_ := Aside0.mk (below_step (by repeat (first | (with_reducible first | exact HB.out | apply below_alloc | apply pw_below_drewN | apply below_drew1 | refine below_set ?_ (IsS84.ge HI137.out) | refine below_set ?_ GE150.out | refine below_set ?_ GE151.out) | exact HB.out)) hb)
                                        have n7_ := Aside0.mk (hbox)
                                        have n8_ := Aside0.mk ((by rw [hg]; exact (below_size (by repeat (first | (with_reducible first | exact HB.out | apply below_alloc | apply pw_below_drewN | apply below_drew1 | refine below_set ?_ (IsS84.ge HI137.out) | refine below_set ?_ GE150.out | refine below_set ?_ GE151.out) | exact HB.out))) : w.heap.size ≤ gb165))
                                        have n9_ := Aside0.mk ((by rw [hg]; exact (below_size (by repeat (first | (with_reducible first | exact HB.out | apply below_alloc | apply pw_below_drewN | apply below_drew1 | refine below_set ?_ (IsS84.ge HI137.out) | refine below_set ?_ GE150.out | refine below_set ?_ GE151.out) | exact HB.out))) : w.heap.size ≤ gb165))
                                        have n10_ := Aside0.mk ((by rw [hg]; exact Nat.ne_of_lt (blk_lt (g := gb150) (o := .cells #[.int .i64 t146, .int .i64 t147] 39 (0, 0)) (by (with_reducible repeat (first | refine blk_drewN ?_ _ | refine blk_drew ?_ | refine blk_alloc ?_ _)); exact BK150.out)) : gb150 ≠ gb165))
                                        have n11_ := Aside0.mk ((by rw [hg]; exact Nat.ne_of_gt (blk_lt (g := gb150) (o := .cells #[.int .i64 t146, .int .i64 t147] 39 (0, 0)) (by (with_reducible repeat (first | refine blk_drewN ?_ _ | refine blk_drew ?_ | refine blk_alloc ?_ _)); exact BK150.out)) : gb165 ≠ gb150))
                                        have n12_ := Aside0.mk ((by rw [hg]; exact Nat.ne_of_lt (blk_lt (g := gb151) (o := .cells #[.int .i64 t148, .int .i64 t149] 39 (0, 0)) (by (with_reducible repeat (first | refine blk_drewN ?_ _ | refine blk_drew ?_ | refine blk_alloc ?_ _)); exact BK151.out)) : gb151 ≠ gb165))
                                        have n13_ := Aside0.mk ((by rw [hg]; exact Nat.ne_of_gt (blk_lt (g := gb151) (o := .cells #[.int .i64 t148, .int .i64 t149] 39 (0, 0)) (by (with_reducible repeat (first | refine blk_drewN ?_ _ | refine blk_drew ?_ | refine blk_alloc ?_ _)); exact BK151.out)) : gb165 ≠ gb151))
                                        have n14_ := Aside0.mk ((by rw [hg]; exact Nat.ne_of_lt (IsS84.lt (show IsS84 w _ g137 t135 t145 from by repeat (first | (with_reducible first | exact HI137.out | apply IsS84.alloc | apply IsS84.drewN | apply IsS84.drew | apply IsS84.set_1 | refine IsS84.far ?_ NB137_150.out _ | refine IsS84.far ?_ NB137_151.out _) | exact HI137.out))) : g137 ≠ gb165))
                                        have n15_ := Aside0.mk ((by rw [hg]; exact Nat.ne_of_gt (IsS84.lt (show IsS84 w _ g137 t135 t145 from by repeat (first | (with_reducible first | exact HI137.out | apply IsS84.alloc | apply IsS84.drewN | apply IsS84.drew | apply IsS84.set_1 | refine IsS84.far ?_ NB137_150.out _ | refine IsS84.far ?_ NB137_151.out _) | exact HI137.out))) : gb165 ≠ g137))
                                        clear HO140
                                        clear HI137
                                        clear BK150
                                        clear BK151
                                        clear HR155
                                        clear HR161
                                        clear HB
                                        have HO140 := n0_
                                        have HI137 := n1_
                                        have BK150 := n2_
                                        have BK151 := n3_
                                        have HR155 := n4_
                                        have HR161 := n5_
                                        have HB := n6_
                                        have BK165 := n7_
                                        have GW165 := n8_
                                        have GE165 := n9_
                                        have NB150_165 := n10_
                                        have NB165_150 := n11_
                                        have NB151_165 := n12_
                                        have NB165_151 := n13_
                                        have NB137_165 := n14_
                                        have NB165_137 := n15_
                                        clear n0_ n1_ n2_ n3_ n4_ n5_ n6_ n7_ n8_ n9_ n10_ n11_ n12_ n13_ n14_ n15_
                                        clear hb hbox hg
                                        refine hK.out _ _ trivial (fun hHeld => ?_)
                                        clear hK K
                                        refine norm_ (a' := ?_) ?_ ?_
                                        rotate_left
                                        · show Act.put _ (some 13) _ = _
                                          simp only [Act.put, List.setIfInBounds_toArray, List.set_cons_zero, List.set_cons_succ, i64_w, i32_w]
                                          rfl
                                        exact norm_ (by first | (simp only [putAll, Act.put, List.setIfInBounds_toArray, List.set_cons_zero, List.set_cons_succ]; done) | (simp only [putAll, Act.put, List.setIfInBounds_toArray, List.set_cons_zero, List.set_cons_succ]; rfl)) (hJ13 (gb165) _ ⟨(by (with_reducible repeat (first | apply Kd.R_alloc | apply Kd.R_drewN | apply Kd.R_drew)); exact HO140.out), (by (with_reducible repeat (first | refine blk_drewN ?_ _ | refine blk_drew ?_ | refine blk_alloc ?_ _)); exact BK150.out), (by (with_reducible repeat (first | refine blk_drewN ?_ _ | refine blk_drew ?_ | refine blk_alloc ?_ _)); exact BK151.out), (by (with_reducible repeat (first | refine blk_drewN ?_ _ | refine blk_drew ?_ | refine blk_alloc ?_ _)); exact BK165.out), GW165.out, GE165.out, NB137_165.out, NB165_137.out, NB150_165.out, NB165_150.out, NB151_165.out, NB165_151.out, (by repeat (first | (with_reducible first | exact HI137.out | apply IsS84.alloc | apply IsS84.drewN | apply IsS84.drew | apply IsS84.set_1 | refine IsS84.far ?_ NB137_150.out _ | refine IsS84.far ?_ NB137_151.out _ | refine IsS84.far ?_ NB137_165.out _) | exact HI137.out)), (by repeat (first | (with_reducible first | exact HB.out | apply below_alloc | apply pw_below_drewN | apply below_drew1 | refine below_set ?_ (IsS84.ge HI137.out) | refine below_set ?_ GE150.out | refine below_set ?_ GE151.out | refine below_set ?_ GE165.out) | exact HB.out))⟩)
                                    · skip
                                      rintro gb165 w42 ⟨h0_, h1_, h2_, h3_, h4_, h5_, h6_, h7_, h8_, h9_, h10_, h11_, h12_, h13_⟩
                                      have n0_ : Aside0 (Kd.R k44 44 w42 w.heap.size (fun _ => True) (.slice Ao27 t138.length co27) t138) := ⟨h0_⟩
                                      have n1_ : Aside0 (w42.heap[gb150]? = some (.cells #[.int .i64 t146, .int .i64 t147] 39 (0, 0))) := ⟨h1_⟩
                                      have n2_ : Aside0 (w42.heap[gb151]? = some (.cells #[.int .i64 t148, .int .i64 t149] 39 (0, 0))) := ⟨h2_⟩
                                      have n3_ : Aside0 (w42.heap[gb165]? = some (.cells #[.int .i64 0, .int .i64 0] 39 (0, 0))) := ⟨h3_⟩
                                      have n4_ : Aside0 (w.heap.size ≤ gb165) := ⟨h4_⟩
                                      have n5_ : Aside0 (w.heap.size ≤ gb165) := ⟨h5_⟩
                                      have n6_ : Aside0 (g137 ≠ gb165) := ⟨h6_⟩
                                      have n7_ : Aside0 (gb165 ≠ g137) := ⟨h7_⟩
                                      have n8_ : Aside0 (gb150 ≠ gb165) := ⟨h8_⟩
                                      have n9_ : Aside0 (gb165 ≠ gb150) := ⟨h9_⟩
                                      have n10_ : Aside0 (gb151 ≠ gb165) := ⟨h10_⟩
                                      have n11_ : Aside0 (gb165 ≠ gb151) := ⟨h11_⟩
                                      have n12_ : Aside0 (IsS84 w w42 g137 t135 t145) := ⟨h12_⟩
                                      have n13_ : Aside0 (Below w.heap.size w w42) := ⟨h13_⟩
                                      clear HO140
                                      clear BK150
                                      clear BK151
                                      clear HI137
                                      clear HB
                                      clear h0_ h1_ h2_ h3_ h4_ h5_ h6_ h7_ h8_ h9_ h10_ h11_ h12_ h13_
                                      have HO140 := n0_
                                      have BK150 := n1_
                                      have BK151 := n2_
                                      have BK165 := n3_
                                      have GW165 := n4_
                                      have GE165 := n5_
                                      have NB137_165 := n6_
                                      have NB165_137 := n7_
                                      have NB150_165 := n8_
                                      have NB165_150 := n9_
                                      have NB151_165 := n10_
                                      have NB165_151 := n11_
                                      have HI137 := n12_
                                      have HB := n13_
                                      clear n0_ n1_ n2_ n3_ n4_ n5_ n6_ n7_ n8_ n9_ n10_ n11_ n12_ n13_
                                      have hHeld := trivial
                                      refine norm_ (a' := ?_) ?_ ?_
                                      rotate_left
                                      · simp only [putAll, Act.put, List.setIfInBounds_toArray, List.set_cons_zero, List.set_cons_succ]
                                        rfl
                                      refine two_ (i := 5) (j := 12) (Ni := some 45) (Nj := some 12) #[true, true, true, true, true, true, true, true, true, true, true, false, false, true, false, false] #[true, true, true, true, true, false, true, true, true, true, true, false, true, true, false, false] rfl rfl rfl rfl (two_of HT_.out (by kernel_rfl)) (by decide) (by decide) (fun K hK => ?_) (fun K hK => ?_)
                                      · skip
                                        refine goes_ Try.func23 (by kernel_rfl) rfl #[.slice Ao27 y152.length co27, .int .i64 (wrap64 (1 + t142)), .int .i64 (wrap64 (1 + t144))] (by rfl) rfl rfl (by (try simp only [List.map_toArray, List.map_cons, List.map_nil]); first | done | rfl | (simp only [List.length_drop, List.length_take]; rfl)) ?_
                                        with_reducible refine (ending_Room.calls k _ _ y152 (wrap64 (1 + t142)) (wrap64 (1 + t144)) t156 t157 _ ?side1 ?side2 A15.out).mono ?_
                                        (case side1 => exact (by rw [Ny152.out]; exact Kd.C_take (m := ((ji12) : Int).toNat) ((Kd.R_reads' (by (with_reducible repeat (first | apply Kd.R_alloc | apply Kd.R_drewN | apply Kd.R_drew)); exact HO140.out)).2.2) KL39.out))
                                        (case side2 => exact HC155.out)
                                        rintro e w43 ⟨rfl, hb⟩
                                        refine ⟨_, rfl, ?_⟩
                                        have n0_ := Aside0.mk (Kd.R_below (by (with_reducible repeat (first | apply Kd.R_alloc | apply Kd.R_drewN | apply Kd.R_drew)); exact HO140.out) hb)
                                        have n1_ := Aside0.mk (IsS84.below (by repeat (first | (with_reducible first | exact HI137.out | apply IsS84.alloc | apply IsS84.drewN | apply IsS84.drew | apply IsS84.set_1 | refine IsS84.far ?_ NB137_150.out _ | refine IsS84.far ?_ NB137_151.out _ | refine IsS84.far ?_ NB137_165.out _) | exact HI137.out)) hb)
                                        have n2_ := Aside0.mk (blk_below (g := gb150) (o := .cells #[.int .i64 t146, .int .i64 t147] 39 (0, 0)) (by (with_reducible repeat (first | refine blk_drewN ?_ _ | refine blk_drew ?_ | refine blk_alloc ?_ _)); exact BK150.out) hb)
                                        have n3_ := Aside0.mk (blk_below (g := gb151) (o := .cells #[.int .i64 t148, .int .i64 t149] 39 (0, 0)) (by (with_reducible repeat (first | refine blk_drewN ?_ _ | refine blk_drew ?_ | refine blk_alloc ?_ _)); exact BK151.out) hb)
                                        have n4_ := Aside0.mk (blk_below (g := gb165) (o := .cells #[.int .i64 0, .int .i64 0] 39 (0, 0)) (by (with_reducible repeat (first | refine blk_drewN ?_ _ | refine blk_drew ?_ | refine blk_alloc ?_ _)); exact BK165.out) hb)
                                        have n5_ := Aside0.mk (below_step (by repeat (first | (with_reducible first | exact HB.out | apply below_alloc | apply pw_below_drewN | apply below_drew1 | refine below_set ?_ (IsS84.ge HI137.out) | refine below_set ?_ GE150.out | refine below_set ?_ GE151.out | refine below_set ?_ GE165.out) | exact HB.out)) hb)
                                        clear HO140
                                        clear HI137
                                        clear BK150
                                        clear BK151
                                        clear BK165
                                        clear HB
                                        have HO140 := n0_
                                        have HI137 := n1_
                                        have BK150 := n2_
                                        have BK151 := n3_
                                        have BK165 := n4_
                                        have HB := n5_
                                        clear n0_ n1_ n2_ n3_ n4_ n5_
                                        (try clear hb)
                                        (try clear hb2)
                                        (try clear hk)
                                        (try clear hi)
                                        refine hK.out _ _ trivial (fun hHeld => ?_)
                                        clear hK K
                                        refine norm_ (a' := ?_) ?_ ?_
                                        rotate_left
                                        · show Act.put _ (some 45) _ = _
                                          simp only [Act.put, List.setIfInBounds_toArray, List.set_cons_zero, List.set_cons_succ, i64_w, i32_w]
                                          rfl
                                        exact norm_ (by first | (simp only [putAll, Act.put, List.setIfInBounds_toArray, List.set_cons_zero, List.set_cons_succ]; done) | (simp only [putAll, Act.put, List.setIfInBounds_toArray, List.set_cons_zero, List.set_cons_succ]; rfl)) (hJ5_13 (gb165) _ ⟨(by (with_reducible repeat (first | apply Kd.R_alloc | apply Kd.R_drewN | apply Kd.R_drew)); exact HO140.out), (by (with_reducible repeat (first | refine blk_drewN ?_ _ | refine blk_drew ?_ | refine blk_alloc ?_ _)); exact BK150.out), (by (with_reducible repeat (first | refine blk_drewN ?_ _ | refine blk_drew ?_ | refine blk_alloc ?_ _)); exact BK151.out), (by (with_reducible repeat (first | refine blk_drewN ?_ _ | refine blk_drew ?_ | refine blk_alloc ?_ _)); exact BK165.out), GW165.out, GE165.out, NB137_165.out, NB165_137.out, NB150_165.out, NB165_150.out, NB151_165.out, NB165_151.out, (by repeat (first | (with_reducible first | exact HI137.out | apply IsS84.alloc | apply IsS84.drewN | apply IsS84.drew | apply IsS84.set_1 | refine IsS84.far ?_ NB137_150.out _ | refine IsS84.far ?_ NB137_151.out _ | refine IsS84.far ?_ NB137_165.out _) | exact HI137.out)), (by repeat (first | (with_reducible first | exact HB.out | apply below_alloc | apply pw_below_drewN | apply below_drew1 | refine below_set ?_ (IsS84.ge HI137.out) | refine below_set ?_ GE150.out | refine below_set ?_ GE151.out | refine below_set ?_ GE165.out) | exact HB.out))⟩)
                                      · skip
                                        refine box_step ?hg (N := 12) ?hd (cs := #[.int .i64 0, .int .i64 0]) (t := 39) ?hr ?_; (case hd => rfl); (case hg => rfl); (case hr => first | (go_simp; done) | (go_simp; rfl))
                                        intro gb164 hg w43 hbox hb
                                        have n0_ := Aside0.mk (Kd.R_below (by (with_reducible repeat (first | apply Kd.R_alloc | apply Kd.R_drewN | apply Kd.R_drew)); exact HO140.out) hb)
                                        have n1_ := Aside0.mk (IsS84.below (by repeat (first | (with_reducible first | exact HI137.out | apply IsS84.alloc | apply IsS84.drewN | apply IsS84.drew | apply IsS84.set_1 | refine IsS84.far ?_ NB137_150.out _ | refine IsS84.far ?_ NB137_151.out _ | refine IsS84.far ?_ NB137_165.out _) | exact HI137.out)) hb)
                                        have n2_ := Aside0.mk (blk_below (g := gb150) (o := .cells #[.int .i64 t146, .int .i64 t147] 39 (0, 0)) (by (with_reducible repeat (first | refine blk_drewN ?_ _ | refine blk_drew ?_ | refine blk_alloc ?_ _)); exact BK150.out) hb)
                                        have n3_ := Aside0.mk (blk_below (g := gb151) (o := .cells #[.int .i64 t148, .int .i64 t149] 39 (0, 0)) (by (with_reducible repeat (first | refine blk_drewN ?_ _ | refine blk_drew ?_ | refine blk_alloc ?_ _)); exact BK151.out) hb)
                                        have n4_ := Aside0.mk (blk_below (g := gb165) (o := .cells #[.int .i64 0, .int .i64 0] 39 (0, 0)) (by (with_reducible repeat (first | refine blk_drewN ?_ _ | refine blk_drew ?_ | refine blk_alloc ?_ _)); exact BK165.out) hb)
                                        have n5_ := Aside0.mk (below_step (by repeat (first | (with_reducible first | exact HB.out | apply below_alloc | apply pw_below_drewN | apply below_drew1 | refine below_set ?_ (IsS84.ge HI137.out) | refine below_set ?_ GE150.out | refine below_set ?_ GE151.out | refine below_set ?_ GE165.out) | exact HB.out)) hb)
                                        have n6_ := Aside0.mk (hbox)
                                        have n7_ := Aside0.mk ((by rw [hg]; exact (below_size (by repeat (first | (with_reducible first | exact HB.out | apply below_alloc | apply pw_below_drewN | apply below_drew1 | refine below_set ?_ (IsS84.ge HI137.out) | refine below_set ?_ GE150.out | refine below_set ?_ GE151.out | refine below_set ?_ GE165.out) | exact HB.out))) : w.heap.size ≤ gb164))
                                        have n8_ := Aside0.mk ((by rw [hg]; exact (below_size (by repeat (first | (with_reducible first | exact HB.out | apply below_alloc | apply pw_below_drewN | apply below_drew1 | refine below_set ?_ (IsS84.ge HI137.out) | refine below_set ?_ GE150.out | refine below_set ?_ GE151.out | refine below_set ?_ GE165.out) | exact HB.out))) : w.heap.size ≤ gb164))
                                        have n9_ := Aside0.mk ((by rw [hg]; exact Nat.ne_of_lt (blk_lt (g := gb150) (o := .cells #[.int .i64 t146, .int .i64 t147] 39 (0, 0)) (by (with_reducible repeat (first | refine blk_drewN ?_ _ | refine blk_drew ?_ | refine blk_alloc ?_ _)); exact BK150.out)) : gb150 ≠ gb164))
                                        have n10_ := Aside0.mk ((by rw [hg]; exact Nat.ne_of_gt (blk_lt (g := gb150) (o := .cells #[.int .i64 t146, .int .i64 t147] 39 (0, 0)) (by (with_reducible repeat (first | refine blk_drewN ?_ _ | refine blk_drew ?_ | refine blk_alloc ?_ _)); exact BK150.out)) : gb164 ≠ gb150))
                                        have n11_ := Aside0.mk ((by rw [hg]; exact Nat.ne_of_lt (blk_lt (g := gb151) (o := .cells #[.int .i64 t148, .int .i64 t149] 39 (0, 0)) (by (with_reducible repeat (first | refine blk_drewN ?_ _ | refine blk_drew ?_ | refine blk_alloc ?_ _)); exact BK151.out)) : gb151 ≠ gb164))
                                        have n12_ := Aside0.mk ((by rw [hg]; exact Nat.ne_of_gt (blk_lt (g := gb151) (o := .cells #[.int .i64 t148, .int .i64 t149] 39 (0, 0)) (by (with_reducible repeat (first | refine blk_drewN ?_ _ | refine blk_drew ?_ | refine blk_alloc ?_ _)); exact BK151.out)) : gb164 ≠ gb151))
                                        have n13_ := Aside0.mk ((by rw [hg]; exact Nat.ne_of_lt (blk_lt (g := gb165) (o := .cells #[.int .i64 0, .int .i64 0] 39 (0, 0)) (by (with_reducible repeat (first | refine blk_drewN ?_ _ | refine blk_drew ?_ | refine blk_alloc ?_ _)); exact BK165.out)) : gb165 ≠ gb164))
                                        have n14_ := Aside0.mk ((by rw [hg]; exact Nat.ne_of_gt (blk_lt (g := gb165) (o := .cells #[.int .i64 0, .int .i64 0] 39 (0, 0)) (by (with_reducible repeat (first | refine blk_drewN ?_ _ | refine blk_drew ?_ | refine blk_alloc ?_ _)); exact BK165.out)) : gb164 ≠ gb165))
                                        have n15_ := Aside0.mk ((by rw [hg]; exact Nat.ne_of_lt (IsS84.lt (show IsS84 w _ g137 t135 t145 from by repeat (first | (with_reducible first | exact HI137.out | apply IsS84.alloc | apply IsS84.drewN | apply IsS84.drew | apply IsS84.set_1 | refine IsS84.far ?_ NB137_150.out _ | refine IsS84.far ?_ NB137_151.out _ | refine IsS84.far ?_ NB137_165.out _) | exact HI137.out))) : g137 ≠ gb164))
                                        have n16_ := Aside0.mk ((by rw [hg]; exact Nat.ne_of_gt (IsS84.lt (show IsS84 w _ g137 t135 t145 from by repeat (first | (with_reducible first | exact HI137.out | apply IsS84.alloc | apply IsS84.drewN | apply IsS84.drew | apply IsS84.set_1 | refine IsS84.far ?_ NB137_150.out _ | refine IsS84.far ?_ NB137_151.out _ | refine IsS84.far ?_ NB137_165.out _) | exact HI137.out))) : gb164 ≠ g137))
                                        clear HO140
                                        clear HI137
                                        clear BK150
                                        clear BK151
                                        clear BK165
                                        clear HB
                                        have HO140 := n0_
                                        have HI137 := n1_
                                        have BK150 := n2_
                                        have BK151 := n3_
                                        have BK165 := n4_
                                        have HB := n5_
                                        have BK164 := n6_
                                        have GW164 := n7_
                                        have GE164 := n8_
                                        have NB150_164 := n9_
                                        have NB164_150 := n10_
                                        have NB151_164 := n11_
                                        have NB164_151 := n12_
                                        have NB165_164 := n13_
                                        have NB164_165 := n14_
                                        have NB137_164 := n15_
                                        have NB164_137 := n16_
                                        clear n0_ n1_ n2_ n3_ n4_ n5_ n6_ n7_ n8_ n9_ n10_ n11_ n12_ n13_ n14_ n15_ n16_
                                        clear hb hbox hg
                                        refine hK.out _ _ trivial (fun hHeld => ?_)
                                        clear hK K
                                        refine norm_ (a' := ?_) ?_ ?_
                                        rotate_left
                                        · show Act.put _ (some 12) _ = _
                                          simp only [Act.put, List.setIfInBounds_toArray, List.set_cons_zero, List.set_cons_succ, i64_w, i32_w]
                                          rfl
                                        exact norm_ (by first | (simp only [putAll, Act.put, List.setIfInBounds_toArray, List.set_cons_zero, List.set_cons_succ]; done) | (simp only [putAll, Act.put, List.setIfInBounds_toArray, List.set_cons_zero, List.set_cons_succ]; rfl)) (hJ12_13 (gb164, gb165) _ ⟨(by (with_reducible repeat (first | apply Kd.R_alloc | apply Kd.R_drewN | apply Kd.R_drew)); exact HO140.out), (by (with_reducible repeat (first | refine blk_drewN ?_ _ | refine blk_drew ?_ | refine blk_alloc ?_ _)); exact BK150.out), (by (with_reducible repeat (first | refine blk_drewN ?_ _ | refine blk_drew ?_ | refine blk_alloc ?_ _)); exact BK151.out), (by (with_reducible repeat (first | refine blk_drewN ?_ _ | refine blk_drew ?_ | refine blk_alloc ?_ _)); exact BK164.out), (by (with_reducible repeat (first | refine blk_drewN ?_ _ | refine blk_drew ?_ | refine blk_alloc ?_ _)); exact BK165.out), GW164.out, GE164.out, NB137_164.out, NB164_137.out, NB150_164.out, NB164_150.out, NB151_164.out, NB164_151.out, NB165_164.out, NB164_165.out, GW165.out, GE165.out, NB137_165.out, NB165_137.out, NB150_165.out, NB165_150.out, NB151_165.out, NB165_151.out, (by repeat (first | (with_reducible first | exact HI137.out | apply IsS84.alloc | apply IsS84.drewN | apply IsS84.drew | apply IsS84.set_1 | refine IsS84.far ?_ NB137_150.out _ | refine IsS84.far ?_ NB137_151.out _ | refine IsS84.far ?_ NB137_165.out _ | refine IsS84.far ?_ NB137_164.out _) | exact HI137.out)), (by repeat (first | (with_reducible first | exact HB.out | apply below_alloc | apply pw_below_drewN | apply below_drew1 | refine below_set ?_ (IsS84.ge HI137.out) | refine below_set ?_ GE150.out | refine below_set ?_ GE151.out | refine below_set ?_ GE165.out | refine below_set ?_ GE164.out) | exact HB.out))⟩)
                                  · skip
                                    rintro gb164 w42 ⟨h0_, h1_, h2_, h3_, h4_, h5_, h6_, h7_, h8_, h9_, h10_, h11_, h12_, h13_⟩
                                    have n0_ : Aside0 (Kd.R k44 44 w42 w.heap.size (fun _ => True) (.slice Ao27 t138.length co27) t138) := ⟨h0_⟩
                                    have n1_ : Aside0 (w42.heap[gb150]? = some (.cells #[.int .i64 t146, .int .i64 t147] 39 (0, 0))) := ⟨h1_⟩
                                    have n2_ : Aside0 (w42.heap[gb151]? = some (.cells #[.int .i64 t148, .int .i64 t149] 39 (0, 0))) := ⟨h2_⟩
                                    have n3_ : Aside0 (w42.heap[gb164]? = some (.cells #[.int .i64 0, .int .i64 0] 39 (0, 0))) := ⟨h3_⟩
                                    have n4_ : Aside0 (w.heap.size ≤ gb164) := ⟨h4_⟩
                                    have n5_ : Aside0 (w.heap.size ≤ gb164) := ⟨h5_⟩
                                    have n6_ : Aside0 (g137 ≠ gb164) := ⟨h6_⟩
                                    have n7_ : Aside0 (gb164 ≠ g137) := ⟨h7_⟩
                                    have n8_ : Aside0 (gb150 ≠ gb164) := ⟨h8_⟩
                                    have n9_ : Aside0 (gb164 ≠ gb150) := ⟨h9_⟩
                                    have n10_ : Aside0 (gb151 ≠ gb164) := ⟨h10_⟩
                                    have n11_ : Aside0 (gb164 ≠ gb151) := ⟨h11_⟩
                                    have n12_ : Aside0 (IsS84 w w42 g137 t135 t145) := ⟨h12_⟩
                                    have n13_ : Aside0 (Below w.heap.size w w42) := ⟨h13_⟩
                                    clear HO140
                                    clear BK150
                                    clear BK151
                                    clear HI137
                                    clear HB
                                    clear h0_ h1_ h2_ h3_ h4_ h5_ h6_ h7_ h8_ h9_ h10_ h11_ h12_ h13_
                                    have HO140 := n0_
                                    have BK150 := n1_
                                    have BK151 := n2_
                                    have BK164 := n3_
                                    have GW164 := n4_
                                    have GE164 := n5_
                                    have NB137_164 := n6_
                                    have NB164_137 := n7_
                                    have NB150_164 := n8_
                                    have NB164_150 := n9_
                                    have NB151_164 := n10_
                                    have NB164_151 := n11_
                                    have HI137 := n12_
                                    have HB := n13_
                                    clear n0_ n1_ n2_ n3_ n4_ n5_ n6_ n7_ n8_ n9_ n10_ n11_ n12_ n13_
                                    have hHeld := trivial
                                    refine norm_ (a' := ?_) ?_ ?_
                                    rotate_left
                                    · simp only [putAll, Act.put, List.setIfInBounds_toArray, List.set_cons_zero, List.set_cons_succ]
                                      rfl
                                    refine two_ (i := 5) (j := 13) (Ni := some 45) (Nj := some 13) #[true, true, true, true, true, true, true, true, true, true, true, false, true, false, false, false] #[true, true, true, true, true, false, true, true, true, true, true, false, true, true, false, false] rfl rfl rfl rfl (two_of HT_.out (by kernel_rfl)) (by decide) (by decide) (fun K hK => ?_) (fun K hK => ?_)
                                    · skip
                                      refine goes_ Try.func23 (by kernel_rfl) rfl #[.slice Ao27 y152.length co27, .int .i64 (wrap64 (1 + t142)), .int .i64 (wrap64 (1 + t144))] (by rfl) rfl rfl (by (try simp only [List.map_toArray, List.map_cons, List.map_nil]); first | done | rfl | (simp only [List.length_drop, List.length_take]; rfl)) ?_
                                      with_reducible refine (ending_Room.calls k _ _ y152 (wrap64 (1 + t142)) (wrap64 (1 + t144)) t156 t157 _ ?side1 ?side2 A15.out).mono ?_
                                      (case side1 => exact (by rw [Ny152.out]; exact Kd.C_take (m := ((ji12) : Int).toNat) ((Kd.R_reads' (by (with_reducible repeat (first | apply Kd.R_alloc | apply Kd.R_drewN | apply Kd.R_drew)); exact HO140.out)).2.2) KL39.out))
                                      (case side2 => exact HC155.out)
                                      rintro e w43 ⟨rfl, hb⟩
                                      refine ⟨_, rfl, ?_⟩
                                      have n0_ := Aside0.mk (Kd.R_below (by (with_reducible repeat (first | apply Kd.R_alloc | apply Kd.R_drewN | apply Kd.R_drew)); exact HO140.out) hb)
                                      have n1_ := Aside0.mk (IsS84.below (by repeat (first | (with_reducible first | exact HI137.out | apply IsS84.alloc | apply IsS84.drewN | apply IsS84.drew | apply IsS84.set_1 | refine IsS84.far ?_ NB137_150.out _ | refine IsS84.far ?_ NB137_151.out _ | refine IsS84.far ?_ NB137_164.out _) | exact HI137.out)) hb)
                                      have n2_ := Aside0.mk (blk_below (g := gb150) (o := .cells #[.int .i64 t146, .int .i64 t147] 39 (0, 0)) (by (with_reducible repeat (first | refine blk_drewN ?_ _ | refine blk_drew ?_ | refine blk_alloc ?_ _)); exact BK150.out) hb)
                                      have n3_ := Aside0.mk (blk_below (g := gb151) (o := .cells #[.int .i64 t148, .int .i64 t149] 39 (0, 0)) (by (with_reducible repeat (first | refine blk_drewN ?_ _ | refine blk_drew ?_ | refine blk_alloc ?_ _)); exact BK151.out) hb)
                                      have n4_ := Aside0.mk (blk_below (g := gb164) (o := .cells #[.int .i64 0, .int .i64 0] 39 (0, 0)) (by (with_reducible repeat (first | refine blk_drewN ?_ _ | refine blk_drew ?_ | refine blk_alloc ?_ _)); exact BK164.out) hb)
                                      have n5_ := Aside0.mk (below_step (by repeat (first | (with_reducible first | exact HB.out | apply below_alloc | apply pw_below_drewN | apply below_drew1 | refine below_set ?_ (IsS84.ge HI137.out) | refine below_set ?_ GE150.out | refine below_set ?_ GE151.out | refine below_set ?_ GE164.out) | exact HB.out)) hb)
                                      clear HO140
                                      clear HI137
                                      clear BK150
                                      clear BK151
                                      clear BK164
                                      clear HB
                                      have HO140 := n0_
                                      have HI137 := n1_
                                      have BK150 := n2_
                                      have BK151 := n3_
                                      have BK164 := n4_
                                      have HB := n5_
                                      clear n0_ n1_ n2_ n3_ n4_ n5_
                                      (try clear hb)
                                      (try clear hb2)
                                      (try clear hk)
                                      (try clear hi)
                                      refine hK.out _ _ trivial (fun hHeld => ?_)
                                      clear hK K
                                      refine norm_ (a' := ?_) ?_ ?_
                                      rotate_left
                                      · show Act.put _ (some 45) _ = _
                                        simp only [Act.put, List.setIfInBounds_toArray, List.set_cons_zero, List.set_cons_succ, i64_w, i32_w]
                                        rfl
                                      exact norm_ (by first | (simp only [putAll, Act.put, List.setIfInBounds_toArray, List.set_cons_zero, List.set_cons_succ]; done) | (simp only [putAll, Act.put, List.setIfInBounds_toArray, List.set_cons_zero, List.set_cons_succ]; rfl)) (hJ5_12 (gb164) _ ⟨(by (with_reducible repeat (first | apply Kd.R_alloc | apply Kd.R_drewN | apply Kd.R_drew)); exact HO140.out), (by (with_reducible repeat (first | refine blk_drewN ?_ _ | refine blk_drew ?_ | refine blk_alloc ?_ _)); exact BK150.out), (by (with_reducible repeat (first | refine blk_drewN ?_ _ | refine blk_drew ?_ | refine blk_alloc ?_ _)); exact BK151.out), (by (with_reducible repeat (first | refine blk_drewN ?_ _ | refine blk_drew ?_ | refine blk_alloc ?_ _)); exact BK164.out), GW164.out, GE164.out, NB137_164.out, NB164_137.out, NB150_164.out, NB164_150.out, NB151_164.out, NB164_151.out, (by repeat (first | (with_reducible first | exact HI137.out | apply IsS84.alloc | apply IsS84.drewN | apply IsS84.drew | apply IsS84.set_1 | refine IsS84.far ?_ NB137_150.out _ | refine IsS84.far ?_ NB137_151.out _ | refine IsS84.far ?_ NB137_164.out _) | exact HI137.out)), (by repeat (first | (with_reducible first | exact HB.out | apply below_alloc | apply pw_below_drewN | apply below_drew1 | refine below_set ?_ (IsS84.ge HI137.out) | refine below_set ?_ GE150.out | refine below_set ?_ GE151.out | refine below_set ?_ GE164.out) | exact HB.out))⟩)
                                    · skip
                                      refine box_step ?hg (N := 13) ?hd (cs := #[.int .i64 0, .int .i64 0]) (t := 39) ?hr ?_; (case hd => rfl); (case hg => rfl); (case hr => first | (go_simp; done) | (go_simp; rfl))
                                      intro gb165 hg w43 hbox hb
                                      have n0_ := Aside0.mk (Kd.R_below (by (with_reducible repeat (first | apply Kd.R_alloc | apply Kd.R_drewN | apply Kd.R_drew)); exact HO140.out) hb)
                                      have n1_ := Aside0.mk (IsS84.below (by repeat (first | (with_reducible first | exact HI137.out | apply IsS84.alloc | apply IsS84.drewN | apply IsS84.drew | apply IsS84.set_1 | refine IsS84.far ?_ NB137_150.out _ | refine IsS84.far ?_ NB137_151.out _ | refine IsS84.far ?_ NB137_164.out _) | exact HI137.out)) hb)
                                      have n2_ := Aside0.mk (blk_below (g := gb150) (o := .cells #[.int .i64 t146, .int .i64 t147] 39 (0, 0)) (by (with_reducible repeat (first | refine blk_drewN ?_ _ | refine blk_drew ?_ | refine blk_alloc ?_ _)); exact BK150.out) hb)
                                      have n3_ := Aside0.mk (blk_below (g := gb151) (o := .cells #[.int .i64 t148, .int .i64 t149] 39 (0, 0)) (by (with_reducible repeat (first | refine blk_drewN ?_ _ | refine blk_drew ?_ | refine blk_alloc ?_ _)); exact BK151.out) hb)
                                      have n4_ := Aside0.mk (blk_below (g := gb164) (o := .cells #[.int .i64 0, .int .i64 0] 39 (0, 0)) (by (with_reducible repeat (first | refine blk_drewN ?_ _ | refine blk_drew ?_ | refine blk_alloc ?_ _)); exact BK164.out) hb)
                                      have n5_ := Aside0.mk (below_step (by repeat (first | (with_reducible first | exact HB.out | apply below_alloc | apply pw_below_drewN | apply below_drew1 | refine below_set ?_ (IsS84.ge HI137.out) | refine below_set ?_ GE150.out | refine below_set ?_ GE151.out | refine below_set ?_ GE164.out) | exact HB.out)) hb)
                                      have n6_ := Aside0.mk (hbox)
                                      have n7_ := Aside0.mk ((by rw [hg]; exact (below_size (by repeat (first | (with_reducible first | exact HB.out | apply below_alloc | apply pw_below_drewN | apply below_drew1 | refine below_set ?_ (IsS84.ge HI137.out) | refine below_set ?_ GE150.out | refine below_set ?_ GE151.out | refine below_set ?_ GE164.out) | exact HB.out))) : w.heap.size ≤ gb165))
                                      have n8_ := Aside0.mk ((by rw [hg]; exact (below_size (by repeat (first | (with_reducible first | exact HB.out | apply below_alloc | apply pw_below_drewN | apply below_drew1 | refine below_set ?_ (IsS84.ge HI137.out) | refine below_set ?_ GE150.out | refine below_set ?_ GE151.out | refine below_set ?_ GE164.out) | exact HB.out))) : w.heap.size ≤ gb165))
                                      have n9_ := Aside0.mk ((by rw [hg]; exact Nat.ne_of_lt (blk_lt (g := gb150) (o := .cells #[.int .i64 t146, .int .i64 t147] 39 (0, 0)) (by (with_reducible repeat (first | refine blk_drewN ?_ _ | refine blk_drew ?_ | refine blk_alloc ?_ _)); exact BK150.out)) : gb150 ≠ gb165))
                                      have n10_ := Aside0.mk ((by rw [hg]; exact Nat.ne_of_gt (blk_lt (g := gb150) (o := .cells #[.int .i64 t146, .int .i64 t147] 39 (0, 0)) (by (with_reducible repeat (first | refine blk_drewN ?_ _ | refine blk_drew ?_ | refine blk_alloc ?_ _)); exact BK150.out)) : gb165 ≠ gb150))
                                      have n11_ := Aside0.mk ((by rw [hg]; exact Nat.ne_of_lt (blk_lt (g := gb151) (o := .cells #[.int .i64 t148, .int .i64 t149] 39 (0, 0)) (by (with_reducible repeat (first | refine blk_drewN ?_ _ | refine blk_drew ?_ | refine blk_alloc ?_ _)); exact BK151.out)) : gb151 ≠ gb165))
                                      have n12_ := Aside0.mk ((by rw [hg]; exact Nat.ne_of_gt (blk_lt (g := gb151) (o := .cells #[.int .i64 t148, .int .i64 t149] 39 (0, 0)) (by (with_reducible repeat (first | refine blk_drewN ?_ _ | refine blk_drew ?_ | refine blk_alloc ?_ _)); exact BK151.out)) : gb165 ≠ gb151))
                                      have n13_ := Aside0.mk ((by rw [hg]; exact Nat.ne_of_lt (blk_lt (g := gb164) (o := .cells #[.int .i64 0, .int .i64 0] 39 (0, 0)) (by (with_reducible repeat (first | refine blk_drewN ?_ _ | refine blk_drew ?_ | refine blk_alloc ?_ _)); exact BK164.out)) : gb164 ≠ gb165))
                                      have n14_ := Aside0.mk ((by rw [hg]; exact Nat.ne_of_gt (blk_lt (g := gb164) (o := .cells #[.int .i64 0, .int .i64 0] 39 (0, 0)) (by (with_reducible repeat (first | refine blk_drewN ?_ _ | refine blk_drew ?_ | refine blk_alloc ?_ _)); exact BK164.out)) : gb165 ≠ gb164))
                                      have n15_ := Aside0.mk ((by rw [hg]; exact Nat.ne_of_lt (IsS84.lt (show IsS84 w _ g137 t135 t145 from by repeat (first | (with_reducible first | exact HI137.out | apply IsS84.alloc | apply IsS84.drewN | apply IsS84.drew | apply IsS84.set_1 | refine IsS84.far ?_ NB137_150.out _ | refine IsS84.far ?_ NB137_151.out _ | refine IsS84.far ?_ NB137_164.out _) | exact HI137.out))) : g137 ≠ gb165))
                                      have n16_ := Aside0.mk ((by rw [hg]; exact Nat.ne_of_gt (IsS84.lt (show IsS84 w _ g137 t135 t145 from by repeat (first | (with_reducible first | exact HI137.out | apply IsS84.alloc | apply IsS84.drewN | apply IsS84.drew | apply IsS84.set_1 | refine IsS84.far ?_ NB137_150.out _ | refine IsS84.far ?_ NB137_151.out _ | refine IsS84.far ?_ NB137_164.out _) | exact HI137.out))) : gb165 ≠ g137))
                                      clear HO140
                                      clear HI137
                                      clear BK150
                                      clear BK151
                                      clear BK164
                                      clear HB
                                      have HO140 := n0_
                                      have HI137 := n1_
                                      have BK150 := n2_
                                      have BK151 := n3_
                                      have BK164 := n4_
                                      have HB := n5_
                                      have BK165 := n6_
                                      have GW165 := n7_
                                      have GE165 := n8_
                                      have NB150_165 := n9_
                                      have NB165_150 := n10_
                                      have NB151_165 := n11_
                                      have NB165_151 := n12_
                                      have NB164_165 := n13_
                                      have NB165_164 := n14_
                                      have NB137_165 := n15_
                                      have NB165_137 := n16_
                                      clear n0_ n1_ n2_ n3_ n4_ n5_ n6_ n7_ n8_ n9_ n10_ n11_ n12_ n13_ n14_ n15_ n16_
                                      clear hb hbox hg
                                      refine hK.out _ _ trivial (fun hHeld => ?_)
                                      clear hK K
                                      refine norm_ (a' := ?_) ?_ ?_
                                      rotate_left
                                      · show Act.put _ (some 13) _ = _
                                        simp only [Act.put, List.setIfInBounds_toArray, List.set_cons_zero, List.set_cons_succ, i64_w, i32_w]
                                        rfl
                                      exact norm_ (by first | (simp only [putAll, Act.put, List.setIfInBounds_toArray, List.set_cons_zero, List.set_cons_succ]; done) | (simp only [putAll, Act.put, List.setIfInBounds_toArray, List.set_cons_zero, List.set_cons_succ]; rfl)) (hJ12_13 (gb164, gb165) _ ⟨(by (with_reducible repeat (first | apply Kd.R_alloc | apply Kd.R_drewN | apply Kd.R_drew)); exact HO140.out), (by (with_reducible repeat (first | refine blk_drewN ?_ _ | refine blk_drew ?_ | refine blk_alloc ?_ _)); exact BK150.out), (by (with_reducible repeat (first | refine blk_drewN ?_ _ | refine blk_drew ?_ | refine blk_alloc ?_ _)); exact BK151.out), (by (with_reducible repeat (first | refine blk_drewN ?_ _ | refine blk_drew ?_ | refine blk_alloc ?_ _)); exact BK164.out), (by (with_reducible repeat (first | refine blk_drewN ?_ _ | refine blk_drew ?_ | refine blk_alloc ?_ _)); exact BK165.out), GW164.out, GE164.out, NB137_164.out, NB164_137.out, NB150_164.out, NB164_150.out, NB151_164.out, NB164_151.out, NB165_164.out, NB164_165.out, GW165.out, GE165.out, NB137_165.out, NB165_137.out, NB150_165.out, NB165_150.out, NB151_165.out, NB165_151.out, (by repeat (first | (with_reducible first | exact HI137.out | apply IsS84.alloc | apply IsS84.drewN | apply IsS84.drew | apply IsS84.set_1 | refine IsS84.far ?_ NB137_150.out _ | refine IsS84.far ?_ NB137_151.out _ | refine IsS84.far ?_ NB137_164.out _ | refine IsS84.far ?_ NB137_165.out _) | exact HI137.out)), (by repeat (first | (with_reducible first | exact HB.out | apply below_alloc | apply pw_below_drewN | apply below_drew1 | refine below_set ?_ (IsS84.ge HI137.out) | refine below_set ?_ GE150.out | refine below_set ?_ GE151.out | refine below_set ?_ GE164.out | refine below_set ?_ GE165.out) | exact HB.out))⟩)
                                · skip
                                  rintro _ w42 ⟨h0_, h1_, h2_, h3_, h4_⟩
                                  have n0_ : Aside0 (Kd.R k44 44 w42 w.heap.size (fun _ => True) (.slice Ao27 t138.length co27) t138) := ⟨h0_⟩
                                  have n1_ : Aside0 (w42.heap[gb150]? = some (.cells #[.int .i64 t146, .int .i64 t147] 39 (0, 0))) := ⟨h1_⟩
                                  have n2_ : Aside0 (w42.heap[gb151]? = some (.cells #[.int .i64 t148, .int .i64 t149] 39 (0, 0))) := ⟨h2_⟩
                                  have n3_ : Aside0 (IsS84 w w42 g137 t135 t145) := ⟨h3_⟩
                                  have n4_ : Aside0 (Below w.heap.size w w42) := ⟨h4_⟩
                                  clear HO140
                                  clear BK150
                                  clear BK151
                                  clear HI137
                                  clear HB
                                  clear h0_ h1_ h2_ h3_ h4_
                                  have HO140 := n0_
                                  have BK150 := n1_
                                  have BK151 := n2_
                                  have HI137 := n3_
                                  have HB := n4_
                                  clear n0_ n1_ n2_ n3_ n4_
                                  have hHeld := trivial
                                  refine norm_ (a' := ?_) ?_ ?_
                                  rotate_left
                                  · simp only [putAll, Act.put, List.setIfInBounds_toArray, List.set_cons_zero, List.set_cons_succ]
                                    rfl
                                  refine three_ (i := 11) (j := 12) (k := 13) (Ni := some 51) (Nj := some 12) (Nk := some 13) #[true, true, true, true, true, true, true, true, true, true, true, true, false, false, false, false] #[true, true, true, true, true, true, true, true, true, true, true, false, true, false, false, false] #[true, true, true, true, true, true, true, true, true, true, true, false, false, true, false, false] rfl rfl rfl rfl rfl rfl (three_of HT_.out (by kernel_rfl)) (by decide) (by decide) (by decide) (fun K hK => ?_) (fun K hK => ?_) (fun K hK => ?_)
                                  · skip
                                    refine goes_ Try.func23 (by kernel_rfl) rfl #[.slice A40 y158.length c40, .int .i64 (wrap64 (1 + t142)), .int .i64 (wrap64 (1 + t144))] (by rfl) rfl rfl (by (try simp only [List.map_toArray, List.map_cons, List.map_nil]); first | done | rfl | (simp only [List.length_drop, List.length_take]; rfl)) ?_
                                    with_reducible refine (ending_Room.calls k _ _ y158 (wrap64 (1 + t142)) (wrap64 (1 + t144)) t162 t163 _ ?side1 ?side2 A18.out).mono ?_
                                    (case side1 => exact (by rw [Ny158.out, KA40.out]; exact Kd.C_drop (m := ((ji12) : Int).toNat) (c := co27) ((Kd.R_reads' (by (with_reducible repeat (first | apply Kd.R_alloc | apply Kd.R_drewN | apply Kd.R_drew)); exact HO140.out)).2.2) KL40.out ((Kd.R_reads' (HO140.out)).2.1)))
                                    (case side2 => exact HC161.out)
                                    rintro e w43 ⟨rfl, hb⟩
                                    refine ⟨_, rfl, ?_⟩
                                    have n0_ := Aside0.mk (Kd.R_below (by (with_reducible repeat (first | apply Kd.R_alloc | apply Kd.R_drewN | apply Kd.R_drew)); exact HO140.out) hb)
                                    have n1_ := Aside0.mk (IsS84.below (by repeat (first | (with_reducible first | exact HI137.out | apply IsS84.alloc | apply IsS84.drewN | apply IsS84.drew | apply IsS84.set_1 | refine IsS84.far ?_ NB137_150.out _ | refine IsS84.far ?_ NB137_151.out _) | exact HI137.out)) hb)
                                    have n2_ := Aside0.mk (blk_below (g := gb150) (o := .cells #[.int .i64 t146, .int .i64 t147] 39 (0, 0)) (by (with_reducible repeat (first | refine blk_drewN ?_ _ | refine blk_drew ?_ | refine blk_alloc ?_ _)); exact BK150.out) hb)
                                    have n3_ := Aside0.mk (blk_below (g := gb151) (o := .cells #[.int .i64 t148, .int .i64 t149] 39 (0, 0)) (by (with_reducible repeat (first | refine blk_drewN ?_ _ | refine blk_drew ?_ | refine blk_alloc ?_ _)); exact BK151.out) hb)
                                    have n4_ := Aside0.mk (below_step (by repeat (first | (with_reducible first | exact HB.out | apply below_alloc | apply pw_below_drewN | apply below_drew1 | refine below_set ?_ (IsS84.ge HI137.out) | refine below_set ?_ GE150.out | refine below_set ?_ GE151.out) | exact HB.out)) hb)
                                    clear HO140
                                    clear HI137
                                    clear BK150
                                    clear BK151
                                    clear HB
                                    have HO140 := n0_
                                    have HI137 := n1_
                                    have BK150 := n2_
                                    have BK151 := n3_
                                    have HB := n4_
                                    clear n0_ n1_ n2_ n3_ n4_
                                    (try clear hb)
                                    (try clear hb2)
                                    (try clear hk)
                                    (try clear hi)
                                    refine hK.out _ _ trivial (fun hHeld => ?_)
                                    clear hK K
                                    refine norm_ (a' := ?_) ?_ ?_
                                    rotate_left
                                    · show Act.put _ (some 51) _ = _
                                      simp only [Act.put, List.setIfInBounds_toArray, List.set_cons_zero, List.set_cons_succ, i64_w, i32_w]
                                      rfl
                                    exact norm_ (by first | (simp only [putAll, Act.put, List.setIfInBounds_toArray, List.set_cons_zero, List.set_cons_succ]; done) | (simp only [putAll, Act.put, List.setIfInBounds_toArray, List.set_cons_zero, List.set_cons_succ]; rfl)) (hJ5_11 () _ ⟨(by (with_reducible repeat (first | apply Kd.R_alloc | apply Kd.R_drewN | apply Kd.R_drew)); exact HO140.out), (by (with_reducible repeat (first | refine blk_drewN ?_ _ | refine blk_drew ?_ | refine blk_alloc ?_ _)); exact BK150.out), (by (with_reducible repeat (first | refine blk_drewN ?_ _ | refine blk_drew ?_ | refine blk_alloc ?_ _)); exact BK151.out), (by repeat (first | (with_reducible first | exact HI137.out | apply IsS84.alloc | apply IsS84.drewN | apply IsS84.drew | apply IsS84.set_1 | refine IsS84.far ?_ NB137_150.out _ | refine IsS84.far ?_ NB137_151.out _) | exact HI137.out)), (by repeat (first | (with_reducible first | exact HB.out | apply below_alloc | apply pw_below_drewN | apply below_drew1 | refine below_set ?_ (IsS84.ge HI137.out) | refine below_set ?_ GE150.out | refine below_set ?_ GE151.out) | exact HB.out))⟩)
                                  · skip
                                    refine box_step ?hg (N := 12) ?hd (cs := #[.int .i64 0, .int .i64 0]) (t := 39) ?hr ?_; (case hd => rfl); (case hg => rfl); (case hr => first | (go_simp; done) | (go_simp; rfl))
                                    intro gb164 hg w43 hbox hb
                                    have n0_ := Aside0.mk (Kd.R_below (by (with_reducible repeat (first | apply Kd.R_alloc | apply Kd.R_drewN | apply Kd.R_drew)); exact HO140.out) hb)
                                    have n1_ := Aside0.mk (IsS84.below (by repeat (first | (with_reducible first | exact HI137.out | apply IsS84.alloc | apply IsS84.drewN | apply IsS84.drew | apply IsS84.set_1 | refine IsS84.far ?_ NB137_150.out _ | refine IsS84.far ?_ NB137_151.out _) | exact HI137.out)) hb)
                                    have n2_ := Aside0.mk (blk_below (g := gb150) (o := .cells #[.int .i64 t146, .int .i64 t147] 39 (0, 0)) (by (with_reducible repeat (first | refine blk_drewN ?_ _ | refine blk_drew ?_ | refine blk_alloc ?_ _)); exact BK150.out) hb)
                                    have n3_ := Aside0.mk (blk_below (g := gb151) (o := .cells #[.int .i64 t148, .int .i64 t149] 39 (0, 0)) (by (with_reducible repeat (first | refine blk_drewN ?_ _ | refine blk_drew ?_ | refine blk_alloc ?_ _)); exact BK151.out) hb)
                                    have n4_ := Aside0.mk (below_step (by repeat (first | (with_reducible first | exact HB.out | apply below_alloc | apply pw_below_drewN | apply below_drew1 | refine below_set ?_ (IsS84.ge HI137.out) | refine below_set ?_ GE150.out | refine below_set ?_ GE151.out) | exact HB.out)) hb)
                                    have n5_ := Aside0.mk (hbox)
                                    have n6_ := Aside0.mk ((by rw [hg]; exact (below_size (by repeat (first | (with_reducible first | exact HB.out | apply below_alloc | apply pw_below_drewN | apply below_drew1 | refine below_set ?_ (IsS84.ge HI137.out) | refine below_set ?_ GE150.out | refine below_set ?_ GE151.out) | exact HB.out))) : w.heap.size ≤ gb164))
                                    have n7_ := Aside0.mk ((by rw [hg]; exact (below_size (by repeat (first | (with_reducible first | exact HB.out | apply below_alloc | apply pw_below_drewN | apply below_drew1 | refine below_set ?_ (IsS84.ge HI137.out) | refine below_set ?_ GE150.out | refine below_set ?_ GE151.out) | exact HB.out))) : w.heap.size ≤ gb164))
                                    have n8_ := Aside0.mk ((by rw [hg]; exact Nat.ne_of_lt (blk_lt (g := gb150) (o := .cells #[.int .i64 t146, .int .i64 t147] 39 (0, 0)) (by (with_reducible repeat (first | refine blk_drewN ?_ _ | refine blk_drew ?_ | refine blk_alloc ?_ _)); exact BK150.out)) : gb150 ≠ gb164))
                                    have n9_ := Aside0.mk ((by rw [hg]; exact Nat.ne_of_gt (blk_lt (g := gb150) (o := .cells #[.int .i64 t146, .int .i64 t147] 39 (0, 0)) (by (with_reducible repeat (first | refine blk_drewN ?_ _ | refine blk_drew ?_ | refine blk_alloc ?_ _)); exact BK150.out)) : gb164 ≠ gb150))
                                    have n10_ := Aside0.mk ((by rw [hg]; exact Nat.ne_of_lt (blk_lt (g := gb151) (o := .cells #[.int .i64 t148, .int .i64 t149] 39 (0, 0)) (by (with_reducible repeat (first | refine blk_drewN ?_ _ | refine blk_drew ?_ | refine blk_alloc ?_ _)); exact BK151.out)) : gb151 ≠ gb164))
                                    have n11_ := Aside0.mk ((by rw [hg]; exact Nat.ne_of_gt (blk_lt (g := gb151) (o := .cells #[.int .i64 t148, .int .i64 t149] 39 (0, 0)) (by (with_reducible repeat (first | refine blk_drewN ?_ _ | refine blk_drew ?_ | refine blk_alloc ?_ _)); exact BK151.out)) : gb164 ≠ gb151))
                                    have n12_ := Aside0.mk ((by rw [hg]; exact Nat.ne_of_lt (IsS84.lt (show IsS84 w _ g137 t135 t145 from by repeat (first | (with_reducible first | exact HI137.out | apply IsS84.alloc | apply IsS84.drewN | apply IsS84.drew | apply IsS84.set_1 | refine IsS84.far ?_ NB137_150.out _ | refine IsS84.far ?_ NB137_151.out _) | exact HI137.out))) : g137 ≠ gb164))
                                    have n13_ := Aside0.mk ((by rw [hg]; exact Nat.ne_of_gt (IsS84.lt (show IsS84 w _ g137 t135 t145 from by repeat (first | (with_reducible first | exact HI137.out | apply IsS84.alloc | apply IsS84.drewN | apply IsS84.drew | apply IsS84.set_1 | refine IsS84.far ?_ NB137_150.out _ | refine IsS84.far ?_ NB137_151.out _) | exact HI137.out))) : gb164 ≠ g137))
                                    clear HO140
                                    clear HI137
                                    clear BK150
                                    clear BK151
                                    clear HB
                                    have HO140 := n0_
                                    have HI137 := n1_
                                    have BK150 := n2_
                                    have BK151 := n3_
                                    have HB := n4_
                                    have BK164 := n5_
                                    have GW164 := n6_
                                    have GE164 := n7_
                                    have NB150_164 := n8_
                                    have NB164_150 := n9_
                                    have NB151_164 := n10_
                                    have NB164_151 := n11_
                                    have NB137_164 := n12_
                                    have NB164_137 := n13_
                                    clear n0_ n1_ n2_ n3_ n4_ n5_ n6_ n7_ n8_ n9_ n10_ n11_ n12_ n13_
                                    clear hb hbox hg
                                    refine hK.out _ _ trivial (fun hHeld => ?_)
                                    clear hK K
                                    refine norm_ (a' := ?_) ?_ ?_
                                    rotate_left
                                    · show Act.put _ (some 12) _ = _
                                      simp only [Act.put, List.setIfInBounds_toArray, List.set_cons_zero, List.set_cons_succ, i64_w, i32_w]
                                      rfl
                                    exact norm_ (by first | (simp only [putAll, Act.put, List.setIfInBounds_toArray, List.set_cons_zero, List.set_cons_succ]; done) | (simp only [putAll, Act.put, List.setIfInBounds_toArray, List.set_cons_zero, List.set_cons_succ]; rfl)) (hJ5_12 (gb164) _ ⟨(by (with_reducible repeat (first | apply Kd.R_alloc | apply Kd.R_drewN | apply Kd.R_drew)); exact HO140.out), (by (with_reducible repeat (first | refine blk_drewN ?_ _ | refine blk_drew ?_ | refine blk_alloc ?_ _)); exact BK150.out), (by (with_reducible repeat (first | refine blk_drewN ?_ _ | refine blk_drew ?_ | refine blk_alloc ?_ _)); exact BK151.out), (by (with_reducible repeat (first | refine blk_drewN ?_ _ | refine blk_drew ?_ | refine blk_alloc ?_ _)); exact BK164.out), GW164.out, GE164.out, NB137_164.out, NB164_137.out, NB150_164.out, NB164_150.out, NB151_164.out, NB164_151.out, (by repeat (first | (with_reducible first | exact HI137.out | apply IsS84.alloc | apply IsS84.drewN | apply IsS84.drew | apply IsS84.set_1 | refine IsS84.far ?_ NB137_150.out _ | refine IsS84.far ?_ NB137_151.out _ | refine IsS84.far ?_ NB137_164.out _) | exact HI137.out)), (by repeat (first | (with_reducible first | exact HB.out | apply below_alloc | apply pw_below_drewN | apply below_drew1 | refine below_set ?_ (IsS84.ge HI137.out) | refine below_set ?_ GE150.out | refine below_set ?_ GE151.out | refine below_set ?_ GE164.out) | exact HB.out))⟩)
                                  · skip
                                    refine box_step ?hg (N := 13) ?hd (cs := #[.int .i64 0, .int .i64 0]) (t := 39) ?hr ?_; (case hd => rfl); (case hg => rfl); (case hr => first | (go_simp; done) | (go_simp; rfl))
                                    intro gb165 hg w43 hbox hb
                                    have n0_ := Aside0.mk (Kd.R_below (by (with_reducible repeat (first | apply Kd.R_alloc | apply Kd.R_drewN | apply Kd.R_drew)); exact HO140.out) hb)
                                    have n1_ := Aside0.mk (IsS84.below (by repeat (first | (with_reducible first | exact HI137.out | apply IsS84.alloc | apply IsS84.drewN | apply IsS84.drew | apply IsS84.set_1 | refine IsS84.far ?_ NB137_150.out _ | refine IsS84.far ?_ NB137_151.out _) | exact HI137.out)) hb)
                                    have n2_ := Aside0.mk (blk_below (g := gb150) (o := .cells #[.int .i64 t146, .int .i64 t147] 39 (0, 0)) (by (with_reducible repeat (first | refine blk_drewN ?_ _ | refine blk_drew ?_ | refine blk_alloc ?_ _)); exact BK150.out) hb)
                                    have n3_ := Aside0.mk (blk_below (g := gb151) (o := .cells #[.int .i64 t148, .int .i64 t149] 39 (0, 0)) (by (with_reducible repeat (first | refine blk_drewN ?_ _ | refine blk_drew ?_ | refine blk_alloc ?_ _)); exact BK151.out) hb)
                                    have n4_ := Aside0.mk (below_step (by repeat (first | (with_reducible first | exact HB.out | apply below_alloc | apply pw_below_drewN | apply below_drew1 | refine below_set ?_ (IsS84.ge HI137.out) | refine below_set ?_ GE150.out | refine below_set ?_ GE151.out) | exact HB.out)) hb)
                                    have n5_ := Aside0.mk (hbox)
                                    have n6_ := Aside0.mk ((by rw [hg]; exact (below_size (by repeat (first | (with_reducible first | exact HB.out | apply below_alloc | apply pw_below_drewN | apply below_drew1 | refine below_set ?_ (IsS84.ge HI137.out) | refine below_set ?_ GE150.out | refine below_set ?_ GE151.out) | exact HB.out))) : w.heap.size ≤ gb165))
                                    have n7_ := Aside0.mk ((by rw [hg]; exact (below_size (by repeat (first | (with_reducible first | exact HB.out | apply below_alloc | apply pw_below_drewN | apply below_drew1 | refine below_set ?_ (IsS84.ge HI137.out) | refine below_set ?_ GE150.out | refine below_set ?_ GE151.out) | exact HB.out))) : w.heap.size ≤ gb165))
                                    have n8_ := Aside0.mk ((by rw [hg]; exact Nat.ne_of_lt (blk_lt (g := gb150) (o := .cells #[.int .i64 t146, .int .i64 t147] 39 (0, 0)) (by (with_reducible repeat (first | refine blk_drewN ?_ _ | refine blk_drew ?_ | refine blk_alloc ?_ _)); exact BK150.out)) : gb150 ≠ gb165))
                                    have n9_ := Aside0.mk ((by rw [hg]; exact Nat.ne_of_gt (blk_lt (g := gb150) (o := .cells #[.int .i64 t146, .int .i64 t147] 39 (0, 0)) (by (with_reducible repeat (first | refine blk_drewN ?_ _ | refine blk_drew ?_ | refine blk_alloc ?_ _)); exact BK150.out)) : gb165 ≠ gb150))
                                    have n10_ := Aside0.mk ((by rw [hg]; exact Nat.ne_of_lt (blk_lt (g := gb151) (o := .cells #[.int .i64 t148, .int .i64 t149] 39 (0, 0)) (by (with_reducible repeat (first | refine blk_drewN ?_ _ | refine blk_drew ?_ | refine blk_alloc ?_ _)); exact BK151.out)) : gb151 ≠ gb165))
                                    have n11_ := Aside0.mk ((by rw [hg]; exact Nat.ne_of_gt (blk_lt (g := gb151) (o := .cells #[.int .i64 t148, .int .i64 t149] 39 (0, 0)) (by (with_reducible repeat (first | refine blk_drewN ?_ _ | refine blk_drew ?_ | refine blk_alloc ?_ _)); exact BK151.out)) : gb165 ≠ gb151))
                                    have n12_ := Aside0.mk ((by rw [hg]; exact Nat.ne_of_lt (IsS84.lt (show IsS84 w _ g137 t135 t145 from by repeat (first | (with_reducible first | exact HI137.out | apply IsS84.alloc | apply IsS84.drewN | apply IsS84.drew | apply IsS84.set_1 | refine IsS84.far ?_ NB137_150.out _ | refine IsS84.far ?_ NB137_151.out _) | exact HI137.out))) : g137 ≠ gb165))
                                    have n13_ := Aside0.mk ((by rw [hg]; exact Nat.ne_of_gt (IsS84.lt (show IsS84 w _ g137 t135 t145 from by repeat (first | (with_reducible first | exact HI137.out | apply IsS84.alloc | apply IsS84.drewN | apply IsS84.drew | apply IsS84.set_1 | refine IsS84.far ?_ NB137_150.out _ | refine IsS84.far ?_ NB137_151.out _) | exact HI137.out))) : gb165 ≠ g137))
                                    clear HO140
                                    clear HI137
                                    clear BK150
                                    clear BK151
                                    clear HB
                                    have HO140 := n0_
                                    have HI137 := n1_
                                    have BK150 := n2_
                                    have BK151 := n3_
                                    have HB := n4_
                                    have BK165 := n5_
                                    have GW165 := n6_
                                    have GE165 := n7_
                                    have NB150_165 := n8_
                                    have NB165_150 := n9_
                                    have NB151_165 := n10_
                                    have NB165_151 := n11_
                                    have NB137_165 := n12_
                                    have NB165_137 := n13_
                                    clear n0_ n1_ n2_ n3_ n4_ n5_ n6_ n7_ n8_ n9_ n10_ n11_ n12_ n13_
                                    clear hb hbox hg
                                    refine hK.out _ _ trivial (fun hHeld => ?_)
                                    clear hK K
                                    refine norm_ (a' := ?_) ?_ ?_
                                    rotate_left
                                    · show Act.put _ (some 13) _ = _
                                      simp only [Act.put, List.setIfInBounds_toArray, List.set_cons_zero, List.set_cons_succ, i64_w, i32_w]
                                      rfl
                                    exact norm_ (by first | (simp only [putAll, Act.put, List.setIfInBounds_toArray, List.set_cons_zero, List.set_cons_succ]; done) | (simp only [putAll, Act.put, List.setIfInBounds_toArray, List.set_cons_zero, List.set_cons_succ]; rfl)) (hJ5_13 (gb165) _ ⟨(by (with_reducible repeat (first | apply Kd.R_alloc | apply Kd.R_drewN | apply Kd.R_drew)); exact HO140.out), (by (with_reducible repeat (first | refine blk_drewN ?_ _ | refine blk_drew ?_ | refine blk_alloc ?_ _)); exact BK150.out), (by (with_reducible repeat (first | refine blk_drewN ?_ _ | refine blk_drew ?_ | refine blk_alloc ?_ _)); exact BK151.out), (by (with_reducible repeat (first | refine blk_drewN ?_ _ | refine blk_drew ?_ | refine blk_alloc ?_ _)); exact BK165.out), GW165.out, GE165.out, NB137_165.out, NB165_137.out, NB150_165.out, NB165_150.out, NB151_165.out, NB165_151.out, (by repeat (first | (with_reducible first | exact HI137.out | apply IsS84.alloc | apply IsS84.drewN | apply IsS84.drew | apply IsS84.set_1 | refine IsS84.far ?_ NB137_150.out _ | refine IsS84.far ?_ NB137_151.out _ | refine IsS84.far ?_ NB137_165.out _) | exact HI137.out)), (by repeat (first | (with_reducible first | exact HB.out | apply below_alloc | apply pw_below_drewN | apply below_drew1 | refine below_set ?_ (IsS84.ge HI137.out) | refine below_set ?_ GE150.out | refine below_set ?_ GE151.out | refine below_set ?_ GE165.out) | exact HB.out))⟩)
                              · skip
                                rintro ⟨gb164, gb165⟩ w43 ⟨h0_, h1_, h2_, h3_, h4_, h5_, h6_, h7_, h8_, h9_, h10_, h11_, h12_, h13_, h14_, h15_, h16_, h17_, h18_, h19_, h20_, h21_, h22_, h23_, h24_⟩
                                have n0_ : Aside0 (Kd.R k44 44 w43 w.heap.size (fun _ => True) (.slice Ao27 t138.length co27) t138) := ⟨h0_⟩
                                have n1_ : Aside0 (w43.heap[gb150]? = some (.cells #[.int .i64 t146, .int .i64 t147] 39 (0, 0))) := ⟨h1_⟩
                                have n2_ : Aside0 (w43.heap[gb151]? = some (.cells #[.int .i64 t148, .int .i64 t149] 39 (0, 0))) := ⟨h2_⟩
                                have n3_ : Aside0 (w43.heap[gb164]? = some (.cells #[.int .i64 0, .int .i64 0] 39 (0, 0))) := ⟨h3_⟩
                                have n4_ : Aside0 (w43.heap[gb165]? = some (.cells #[.int .i64 0, .int .i64 0] 39 (0, 0))) := ⟨h4_⟩
                                have n5_ : Aside0 (w.heap.size ≤ gb164) := ⟨h5_⟩
                                have n6_ : Aside0 (w.heap.size ≤ gb164) := ⟨h6_⟩
                                have n7_ : Aside0 (g137 ≠ gb164) := ⟨h7_⟩
                                have n8_ : Aside0 (gb164 ≠ g137) := ⟨h8_⟩
                                have n9_ : Aside0 (gb150 ≠ gb164) := ⟨h9_⟩
                                have n10_ : Aside0 (gb164 ≠ gb150) := ⟨h10_⟩
                                have n11_ : Aside0 (gb151 ≠ gb164) := ⟨h11_⟩
                                have n12_ : Aside0 (gb164 ≠ gb151) := ⟨h12_⟩
                                have n13_ : Aside0 (gb165 ≠ gb164) := ⟨h13_⟩
                                have n14_ : Aside0 (gb164 ≠ gb165) := ⟨h14_⟩
                                have n15_ : Aside0 (w.heap.size ≤ gb165) := ⟨h15_⟩
                                have n16_ : Aside0 (w.heap.size ≤ gb165) := ⟨h16_⟩
                                have n17_ : Aside0 (g137 ≠ gb165) := ⟨h17_⟩
                                have n18_ : Aside0 (gb165 ≠ g137) := ⟨h18_⟩
                                have n19_ : Aside0 (gb150 ≠ gb165) := ⟨h19_⟩
                                have n20_ : Aside0 (gb165 ≠ gb150) := ⟨h20_⟩
                                have n21_ : Aside0 (gb151 ≠ gb165) := ⟨h21_⟩
                                have n22_ : Aside0 (gb165 ≠ gb151) := ⟨h22_⟩
                                have n23_ : Aside0 (IsS84 w w43 g137 t135 t145) := ⟨h23_⟩
                                have n24_ : Aside0 (Below w.heap.size w w43) := ⟨h24_⟩
                                clear HO140
                                clear BK150
                                clear BK151
                                clear HI137
                                clear HB
                                clear h0_ h1_ h2_ h3_ h4_ h5_ h6_ h7_ h8_ h9_ h10_ h11_ h12_ h13_ h14_ h15_ h16_ h17_ h18_ h19_ h20_ h21_ h22_ h23_ h24_
                                have HO140 := n0_
                                have BK150 := n1_
                                have BK151 := n2_
                                have BK164 := n3_
                                have BK165 := n4_
                                have GW164 := n5_
                                have GE164 := n6_
                                have NB137_164 := n7_
                                have NB164_137 := n8_
                                have NB150_164 := n9_
                                have NB164_150 := n10_
                                have NB151_164 := n11_
                                have NB164_151 := n12_
                                have NB165_164 := n13_
                                have NB164_165 := n14_
                                have GW165 := n15_
                                have GE165 := n16_
                                have NB137_165 := n17_
                                have NB165_137 := n18_
                                have NB150_165 := n19_
                                have NB165_150 := n20_
                                have NB151_165 := n21_
                                have NB165_151 := n22_
                                have HI137 := n23_
                                have HB := n24_
                                clear n0_ n1_ n2_ n3_ n4_ n5_ n6_ n7_ n8_ n9_ n10_ n11_ n12_ n13_ n14_ n15_ n16_ n17_ n18_ n19_ n20_ n21_ n22_ n23_ n24_
                                have hHeld := trivial
                                refine norm_ (a' := ?_) ?_ ?_
                                rotate_left
                                · simp only [putAll, Act.put, List.setIfInBounds_toArray, List.set_cons_zero, List.set_cons_succ]
                                  rfl
                                refine one_ (i := 5) (N := some 45) #[true, true, true, true, true, true, true, true, true, true, true, false, true, true, false, false] rfl rfl (one_of HT_.out (by kernel_rfl)) (by decide) (fun K hK => ?_)
                                refine goes_ Try.func23 (by kernel_rfl) rfl #[.slice Ao27 y152.length co27, .int .i64 (wrap64 (1 + t142)), .int .i64 (wrap64 (1 + t144))] (by rfl) rfl rfl (by (try simp only [List.map_toArray, List.map_cons, List.map_nil]); first | done | rfl | (simp only [List.length_drop, List.length_take]; rfl)) ?_
                                with_reducible refine (ending_Room.calls k _ _ y152 (wrap64 (1 + t142)) (wrap64 (1 + t144)) t156 t157 _ ?side1 ?side2 A15.out).mono ?_
                                (case side1 => exact (by rw [Ny152.out]; exact Kd.C_take (m := ((ji12) : Int).toNat) ((Kd.R_reads' (by (with_reducible repeat (first | apply Kd.R_alloc | apply Kd.R_drewN | apply Kd.R_drew)); exact HO140.out)).2.2) KL39.out))
                                (case side2 => exact HC155.out)
                                rintro e w44 ⟨rfl, hb⟩
                                refine ⟨_, rfl, ?_⟩
                                have n0_ := Aside0.mk (Kd.R_below (by (with_reducible repeat (first | apply Kd.R_alloc | apply Kd.R_drewN | apply Kd.R_drew)); exact HO140.out) hb)
                                have n1_ := Aside0.mk (IsS84.below (by repeat (first | (with_reducible first | exact HI137.out | apply IsS84.alloc | apply IsS84.drewN | apply IsS84.drew | apply IsS84.set_1 | refine IsS84.far ?_ NB137_150.out _ | refine IsS84.far ?_ NB137_151.out _ | refine IsS84.far ?_ NB137_164.out _ | refine IsS84.far ?_ NB137_165.out _) | exact HI137.out)) hb)
                                have n2_ := Aside0.mk (blk_below (g := gb150) (o := .cells #[.int .i64 t146, .int .i64 t147] 39 (0, 0)) (by (with_reducible repeat (first | refine blk_drewN ?_ _ | refine blk_drew ?_ | refine blk_alloc ?_ _)); exact BK150.out) hb)
                                have n3_ := Aside0.mk (blk_below (g := gb151) (o := .cells #[.int .i64 t148, .int .i64 t149] 39 (0, 0)) (by (with_reducible repeat (first | refine blk_drewN ?_ _ | refine blk_drew ?_ | refine blk_alloc ?_ _)); exact BK151.out) hb)
                                have n4_ := Aside0.mk (blk_below (g := gb164) (o := .cells #[.int .i64 0, .int .i64 0] 39 (0, 0)) (by (with_reducible repeat (first | refine blk_drewN ?_ _ | refine blk_drew ?_ | refine blk_alloc ?_ _)); exact BK164.out) hb)
                                have n5_ := Aside0.mk (blk_below (g := gb165) (o := .cells #[.int .i64 0, .int .i64 0] 39 (0, 0)) (by (with_reducible repeat (first | refine blk_drewN ?_ _ | refine blk_drew ?_ | refine blk_alloc ?_ _)); exact BK165.out) hb)
                                have n6_ := Aside0.mk (below_step (by repeat (first | (with_reducible first | exact HB.out | apply below_alloc | apply pw_below_drewN | apply below_drew1 | refine below_set ?_ (IsS84.ge HI137.out) | refine below_set ?_ GE150.out | refine below_set ?_ GE151.out | refine below_set ?_ GE164.out | refine below_set ?_ GE165.out) | exact HB.out)) hb)
                                clear HO140
                                clear HI137
                                clear BK150
                                clear BK151
                                clear BK164
                                clear BK165
                                clear HB
                                have HO140 := n0_
                                have HI137 := n1_
                                have BK150 := n2_
                                have BK151 := n3_
                                have BK164 := n4_
                                have BK165 := n5_
                                have HB := n6_
                                clear n0_ n1_ n2_ n3_ n4_ n5_ n6_
                                (try clear hb)
                                (try clear hb2)
                                (try clear hk)
                                (try clear hi)
                                refine hK.out _ _ trivial (fun hHeld => ?_)
                                clear hK K
                                refine norm_ (a' := ?_) ?_ ?_
                                rotate_left
                                · show Act.put _ (some 45) _ = _
                                  simp only [Act.put, List.setIfInBounds_toArray, List.set_cons_zero, List.set_cons_succ, i64_w, i32_w]
                                  rfl
                                exact norm_ (by first | (simp only [putAll, Act.put, List.setIfInBounds_toArray, List.set_cons_zero, List.set_cons_succ]; done) | (simp only [putAll, Act.put, List.setIfInBounds_toArray, List.set_cons_zero, List.set_cons_succ]; rfl)) (hJ5_12_13 (gb164, gb165) _ ⟨(by (with_reducible repeat (first | apply Kd.R_alloc | apply Kd.R_drewN | apply Kd.R_drew)); exact HO140.out), (by (with_reducible repeat (first | refine blk_drewN ?_ _ | refine blk_drew ?_ | refine blk_alloc ?_ _)); exact BK150.out), (by (with_reducible repeat (first | refine blk_drewN ?_ _ | refine blk_drew ?_ | refine blk_alloc ?_ _)); exact BK151.out), (by (with_reducible repeat (first | refine blk_drewN ?_ _ | refine blk_drew ?_ | refine blk_alloc ?_ _)); exact BK164.out), (by (with_reducible repeat (first | refine blk_drewN ?_ _ | refine blk_drew ?_ | refine blk_alloc ?_ _)); exact BK165.out), GW164.out, GE164.out, NB137_164.out, NB164_137.out, NB150_164.out, NB164_150.out, NB151_164.out, NB164_151.out, NB165_164.out, NB164_165.out, GW165.out, GE165.out, NB137_165.out, NB165_137.out, NB150_165.out, NB165_150.out, NB151_165.out, NB165_151.out, (by repeat (first | (with_reducible first | exact HI137.out | apply IsS84.alloc | apply IsS84.drewN | apply IsS84.drew | apply IsS84.set_1 | refine IsS84.far ?_ NB137_150.out _ | refine IsS84.far ?_ NB137_151.out _ | refine IsS84.far ?_ NB137_164.out _ | refine IsS84.far ?_ NB137_165.out _) | exact HI137.out)), (by repeat (first | (with_reducible first | exact HB.out | apply below_alloc | apply pw_below_drewN | apply below_drew1 | refine below_set ?_ (IsS84.ge HI137.out) | refine below_set ?_ GE150.out | refine below_set ?_ GE151.out | refine below_set ?_ GE164.out | refine below_set ?_ GE165.out) | exact HB.out))⟩)
                            · skip
                              rintro gb165 w43 ⟨h0_, h1_, h2_, h3_, h4_, h5_, h6_, h7_, h8_, h9_, h10_, h11_, h12_, h13_⟩
                              have n0_ : Aside0 (Kd.R k44 44 w43 w.heap.size (fun _ => True) (.slice Ao27 t138.length co27) t138) := ⟨h0_⟩
                              have n1_ : Aside0 (w43.heap[gb150]? = some (.cells #[.int .i64 t146, .int .i64 t147] 39 (0, 0))) := ⟨h1_⟩
                              have n2_ : Aside0 (w43.heap[gb151]? = some (.cells #[.int .i64 t148, .int .i64 t149] 39 (0, 0))) := ⟨h2_⟩
                              have n3_ : Aside0 (w43.heap[gb165]? = some (.cells #[.int .i64 0, .int .i64 0] 39 (0, 0))) := ⟨h3_⟩
                              have n4_ : Aside0 (w.heap.size ≤ gb165) := ⟨h4_⟩
                              have n5_ : Aside0 (w.heap.size ≤ gb165) := ⟨h5_⟩
                              have n6_ : Aside0 (g137 ≠ gb165) := ⟨h6_⟩
                              have n7_ : Aside0 (gb165 ≠ g137) := ⟨h7_⟩
                              have n8_ : Aside0 (gb150 ≠ gb165) := ⟨h8_⟩
                              have n9_ : Aside0 (gb165 ≠ gb150) := ⟨h9_⟩
                              have n10_ : Aside0 (gb151 ≠ gb165) := ⟨h10_⟩
                              have n11_ : Aside0 (gb165 ≠ gb151) := ⟨h11_⟩
                              have n12_ : Aside0 (IsS84 w w43 g137 t135 t145) := ⟨h12_⟩
                              have n13_ : Aside0 (Below w.heap.size w w43) := ⟨h13_⟩
                              clear HO140
                              clear BK150
                              clear BK151
                              clear HI137
                              clear HB
                              clear h0_ h1_ h2_ h3_ h4_ h5_ h6_ h7_ h8_ h9_ h10_ h11_ h12_ h13_
                              have HO140 := n0_
                              have BK150 := n1_
                              have BK151 := n2_
                              have BK165 := n3_
                              have GW165 := n4_
                              have GE165 := n5_
                              have NB137_165 := n6_
                              have NB165_137 := n7_
                              have NB150_165 := n8_
                              have NB165_150 := n9_
                              have NB151_165 := n10_
                              have NB165_151 := n11_
                              have HI137 := n12_
                              have HB := n13_
                              clear n0_ n1_ n2_ n3_ n4_ n5_ n6_ n7_ n8_ n9_ n10_ n11_ n12_ n13_
                              have hHeld := trivial
                              refine norm_ (a' := ?_) ?_ ?_
                              rotate_left
                              · simp only [putAll, Act.put, List.setIfInBounds_toArray, List.set_cons_zero, List.set_cons_succ]
                                rfl
                              refine two_ (i := 11) (j := 12) (Ni := some 51) (Nj := some 12) #[true, true, true, true, true, true, true, true, true, true, true, true, false, true, false, false] #[true, true, true, true, true, true, true, true, true, true, true, false, true, true, false, false] rfl rfl rfl rfl (two_of HT_.out (by kernel_rfl)) (by decide) (by decide) (fun K hK => ?_) (fun K hK => ?_)
                              · skip
                                refine goes_ Try.func23 (by kernel_rfl) rfl #[.slice A40 y158.length c40, .int .i64 (wrap64 (1 + t142)), .int .i64 (wrap64 (1 + t144))] (by rfl) rfl rfl (by (try simp only [List.map_toArray, List.map_cons, List.map_nil]); first | done | rfl | (simp only [List.length_drop, List.length_take]; rfl)) ?_
                                with_reducible refine (ending_Room.calls k _ _ y158 (wrap64 (1 + t142)) (wrap64 (1 + t144)) t162 t163 _ ?side1 ?side2 A18.out).mono ?_
                                (case side1 => exact (by rw [Ny158.out, KA40.out]; exact Kd.C_drop (m := ((ji12) : Int).toNat) (c := co27) ((Kd.R_reads' (by (with_reducible repeat (first | apply Kd.R_alloc | apply Kd.R_drewN | apply Kd.R_drew)); exact HO140.out)).2.2) KL40.out ((Kd.R_reads' (HO140.out)).2.1)))
                                (case side2 => exact HC161.out)
                                rintro e w44 ⟨rfl, hb⟩
                                refine ⟨_, rfl, ?_⟩
                                have n0_ := Aside0.mk (Kd.R_below (by (with_reducible repeat (first | apply Kd.R_alloc | apply Kd.R_drewN | apply Kd.R_drew)); exact HO140.out) hb)
                                have n1_ := Aside0.mk (IsS84.below (by repeat (first | (with_reducible first | exact HI137.out | apply IsS84.alloc | apply IsS84.drewN | apply IsS84.drew | apply IsS84.set_1 | refine IsS84.far ?_ NB137_150.out _ | refine IsS84.far ?_ NB137_151.out _ | refine IsS84.far ?_ NB137_165.out _) | exact HI137.out)) hb)
                                have n2_ := Aside0.mk (blk_below (g := gb150) (o := .cells #[.int .i64 t146, .int .i64 t147] 39 (0, 0)) (by (with_reducible repeat (first | refine blk_drewN ?_ _ | refine blk_drew ?_ | refine blk_alloc ?_ _)); exact BK150.out) hb)
                                have n3_ := Aside0.mk (blk_below (g := gb151) (o := .cells #[.int .i64 t148, .int .i64 t149] 39 (0, 0)) (by (with_reducible repeat (first | refine blk_drewN ?_ _ | refine blk_drew ?_ | refine blk_alloc ?_ _)); exact BK151.out) hb)
                                have n4_ := Aside0.mk (blk_below (g := gb165) (o := .cells #[.int .i64 0, .int .i64 0] 39 (0, 0)) (by (with_reducible repeat (first | refine blk_drewN ?_ _ | refine blk_drew ?_ | refine blk_alloc ?_ _)); exact BK165.out) hb)
                                have n5_ := Aside0.mk (below_step (by repeat (first | (with_reducible first | exact HB.out | apply below_alloc | apply pw_below_drewN | apply below_drew1 | refine below_set ?_ (IsS84.ge HI137.out) | refine below_set ?_ GE150.out | refine below_set ?_ GE151.out | refine below_set ?_ GE165.out) | exact HB.out)) hb)
                                clear HO140
                                clear HI137
                                clear BK150
                                clear BK151
                                clear BK165
                                clear HB
                                have HO140 := n0_
                                have HI137 := n1_
                                have BK150 := n2_
                                have BK151 := n3_
                                have BK165 := n4_
                                have HB := n5_
                                clear n0_ n1_ n2_ n3_ n4_ n5_
                                (try clear hb)
                                (try clear hb2)
                                (try clear hk)
                                (try clear hi)
                                refine hK.out _ _ trivial (fun hHeld => ?_)
                                clear hK K
                                refine norm_ (a' := ?_) ?_ ?_
                                rotate_left
                                · show Act.put _ (some 51) _ = _
                                  simp only [Act.put, List.setIfInBounds_toArray, List.set_cons_zero, List.set_cons_succ, i64_w, i32_w]
                                  rfl
                                exact norm_ (by first | (simp only [putAll, Act.put, List.setIfInBounds_toArray, List.set_cons_zero, List.set_cons_succ]; done) | (simp only [putAll, Act.put, List.setIfInBounds_toArray, List.set_cons_zero, List.set_cons_succ]; rfl)) (hJ5_11_13 (gb165) _ ⟨(by (with_reducible repeat (first | apply Kd.R_alloc | apply Kd.R_drewN | apply Kd.R_drew)); exact HO140.out), (by (with_reducible repeat (first | refine blk_drewN ?_ _ | refine blk_drew ?_ | refine blk_alloc ?_ _)); exact BK150.out), (by (with_reducible repeat (first | refine blk_drewN ?_ _ | refine blk_drew ?_ | refine blk_alloc ?_ _)); exact BK151.out), (by (with_reducible repeat (first | refine blk_drewN ?_ _ | refine blk_drew ?_ | refine blk_alloc ?_ _)); exact BK165.out), GW165.out, GE165.out, NB137_165.out, NB165_137.out, NB150_165.out, NB165_150.out, NB151_165.out, NB165_151.out, (by repeat (first | (with_reducible first | exact HI137.out | apply IsS84.alloc | apply IsS84.drewN | apply IsS84.drew | apply IsS84.set_1 | refine IsS84.far ?_ NB137_150.out _ | refine IsS84.far ?_ NB137_151.out _ | refine IsS84.far ?_ NB137_165.out _) | exact HI137.out)), (by repeat (first | (with_reducible first | exact HB.out | apply below_alloc | apply pw_below_drewN | apply below_drew1 | refine below_set ?_ (IsS84.ge HI137.out) | refine below_set ?_ GE150.out | refine below_set ?_ GE151.out | refine below_set ?_ GE165.out) | exact HB.out))⟩)
                              · skip
                                refine box_step ?hg (N := 12) ?hd (cs := #[.int .i64 0, .int .i64 0]) (t := 39) ?hr ?_; (case hd => rfl); (case hg => rfl); (case hr => first | (go_simp; done) | (go_simp; rfl))
                                intro gb164 hg w44 hbox hb
                                have n0_ := Aside0.mk (Kd.R_below (by (with_reducible repeat (first | apply Kd.R_alloc | apply Kd.R_drewN | apply Kd.R_drew)); exact HO140.out) hb)
                                have n1_ := Aside0.mk (IsS84.below (by repeat (first | (with_reducible first | exact HI137.out | apply IsS84.alloc | apply IsS84.drewN | apply IsS84.drew | apply IsS84.set_1 | refine IsS84.far ?_ NB137_150.out _ | refine IsS84.far ?_ NB137_151.out _ | refine IsS84.far ?_ NB137_165.out _) | exact HI137.out)) hb)
                                have n2_ := Aside0.mk (blk_below (g := gb150) (o := .cells #[.int .i64 t146, .int .i64 t147] 39 (0, 0)) (by (with_reducible repeat (first | refine blk_drewN ?_ _ | refine blk_drew ?_ | refine blk_alloc ?_ _)); exact BK150.out) hb)
                                have n3_ := Aside0.mk (blk_below (g := gb151) (o := .cells #[.int .i64 t148, .int .i64 t149] 39 (0, 0)) (by (with_reducible repeat (first | refine blk_drewN ?_ _ | refine blk_drew ?_ | refine blk_alloc ?_ _)); exact BK151.out) hb)
                                have n4_ := Aside0.mk (blk_below (g := gb165) (o := .cells #[.int .i64 0, .int .i64 0] 39 (0, 0)) (by (with_reducible repeat (first | refine blk_drewN ?_ _ | refine blk_drew ?_ | refine blk_alloc ?_ _)); exact BK165.out) hb)
                                have n5_ := Aside0.mk (below_step (by repeat (first | (with_reducible first | exact HB.out | apply below_alloc | apply pw_below_drewN | apply below_drew1 | refine below_set ?_ (IsS84.ge HI137.out) | refine below_set ?_ GE150.out | refine below_set ?_ GE151.out | refine below_set ?_ GE165.out) | exact HB.out)) hb)
                                have n6_ := Aside0.mk (hbox)
                                have n7_ := Aside0.mk ((by rw [hg]; exact (below_size (by repeat (first | (with_reducible first | exact HB.out | apply below_alloc | apply pw_below_drewN | apply below_drew1 | refine below_set ?_ (IsS84.ge HI137.out) | refine below_set ?_ GE150.out | refine below_set ?_ GE151.out | refine below_set ?_ GE165.out) | exact HB.out))) : w.heap.size ≤ gb164))
                                have n8_ := Aside0.mk ((by rw [hg]; exact (below_size (by repeat (first | (with_reducible first | exact HB.out | apply below_alloc | apply pw_below_drewN | apply below_drew1 | refine below_set ?_ (IsS84.ge HI137.out) | refine below_set ?_ GE150.out | refine below_set ?_ GE151.out | refine below_set ?_ GE165.out) | exact HB.out))) : w.heap.size ≤ gb164))
                                have n9_ := Aside0.mk ((by rw [hg]; exact Nat.ne_of_lt (blk_lt (g := gb150) (o := .cells #[.int .i64 t146, .int .i64 t147] 39 (0, 0)) (by (with_reducible repeat (first | refine blk_drewN ?_ _ | refine blk_drew ?_ | refine blk_alloc ?_ _)); exact BK150.out)) : gb150 ≠ gb164))
                                have n10_ := Aside0.mk ((by rw [hg]; exact Nat.ne_of_gt (blk_lt (g := gb150) (o := .cells #[.int .i64 t146, .int .i64 t147] 39 (0, 0)) (by (with_reducible repeat (first | refine blk_drewN ?_ _ | refine blk_drew ?_ | refine blk_alloc ?_ _)); exact BK150.out)) : gb164 ≠ gb150))
                                have n11_ := Aside0.mk ((by rw [hg]; exact Nat.ne_of_lt (blk_lt (g := gb151) (o := .cells #[.int .i64 t148, .int .i64 t149] 39 (0, 0)) (by (with_reducible repeat (first | refine blk_drewN ?_ _ | refine blk_drew ?_ | refine blk_alloc ?_ _)); exact BK151.out)) : gb151 ≠ gb164))
                                have n12_ := Aside0.mk ((by rw [hg]; exact Nat.ne_of_gt (blk_lt (g := gb151) (o := .cells #[.int .i64 t148, .int .i64 t149] 39 (0, 0)) (by (with_reducible repeat (first | refine blk_drewN ?_ _ | refine blk_drew ?_ | refine blk_alloc ?_ _)); exact BK151.out)) : gb164 ≠ gb151))
                                have n13_ := Aside0.mk ((by rw [hg]; exact Nat.ne_of_lt (blk_lt (g := gb165) (o := .cells #[.int .i64 0, .int .i64 0] 39 (0, 0)) (by (with_reducible repeat (first | refine blk_drewN ?_ _ | refine blk_drew ?_ | refine blk_alloc ?_ _)); exact BK165.out)) : gb165 ≠ gb164))
                                have n14_ := Aside0.mk ((by rw [hg]; exact Nat.ne_of_gt (blk_lt (g := gb165) (o := .cells #[.int .i64 0, .int .i64 0] 39 (0, 0)) (by (with_reducible repeat (first | refine blk_drewN ?_ _ | refine blk_drew ?_ | refine blk_alloc ?_ _)); exact BK165.out)) : gb164 ≠ gb165))
                                have n15_ := Aside0.mk ((by rw [hg]; exact Nat.ne_of_lt (IsS84.lt (show IsS84 w _ g137 t135 t145 from by repeat (first | (with_reducible first | exact HI137.out | apply IsS84.alloc | apply IsS84.drewN | apply IsS84.drew | apply IsS84.set_1 | refine IsS84.far ?_ NB137_150.out _ | refine IsS84.far ?_ NB137_151.out _ | refine IsS84.far ?_ NB137_165.out _) | exact HI137.out))) : g137 ≠ gb164))
                                have n16_ := Aside0.mk ((by rw [hg]; exact Nat.ne_of_gt (IsS84.lt (show IsS84 w _ g137 t135 t145 from by repeat (first | (with_reducible first | exact HI137.out | apply IsS84.alloc | apply IsS84.drewN | apply IsS84.drew | apply IsS84.set_1 | refine IsS84.far ?_ NB137_150.out _ | refine IsS84.far ?_ NB137_151.out _ | refine IsS84.far ?_ NB137_165.out _) | exact HI137.out))) : gb164 ≠ g137))
                                clear HO140
                                clear HI137
                                clear BK150
                                clear BK151
                                clear BK165
                                clear HB
                                have HO140 := n0_
                                have HI137 := n1_
                                have BK150 := n2_
                                have BK151 := n3_
                                have BK165 := n4_
                                have HB := n5_
                                have BK164 := n6_
                                have GW164 := n7_
                                have GE164 := n8_
                                have NB150_164 := n9_
                                have NB164_150 := n10_
                                have NB151_164 := n11_
                                have NB164_151 := n12_
                                have NB165_164 := n13_
                                have NB164_165 := n14_
                                have NB137_164 := n15_
                                have NB164_137 := n16_
                                clear n0_ n1_ n2_ n3_ n4_ n5_ n6_ n7_ n8_ n9_ n10_ n11_ n12_ n13_ n14_ n15_ n16_
                                clear hb hbox hg
                                refine hK.out _ _ trivial (fun hHeld => ?_)
                                clear hK K
                                refine norm_ (a' := ?_) ?_ ?_
                                rotate_left
                                · show Act.put _ (some 12) _ = _
                                  simp only [Act.put, List.setIfInBounds_toArray, List.set_cons_zero, List.set_cons_succ, i64_w, i32_w]
                                  rfl
                                exact norm_ (by first | (simp only [putAll, Act.put, List.setIfInBounds_toArray, List.set_cons_zero, List.set_cons_succ]; done) | (simp only [putAll, Act.put, List.setIfInBounds_toArray, List.set_cons_zero, List.set_cons_succ]; rfl)) (hJ5_12_13 (gb164, gb165) _ ⟨(by (with_reducible repeat (first | apply Kd.R_alloc | apply Kd.R_drewN | apply Kd.R_drew)); exact HO140.out), (by (with_reducible repeat (first | refine blk_drewN ?_ _ | refine blk_drew ?_ | refine blk_alloc ?_ _)); exact BK150.out), (by (with_reducible repeat (first | refine blk_drewN ?_ _ | refine blk_drew ?_ | refine blk_alloc ?_ _)); exact BK151.out), (by (with_reducible repeat (first | refine blk_drewN ?_ _ | refine blk_drew ?_ | refine blk_alloc ?_ _)); exact BK164.out), (by (with_reducible repeat (first | refine blk_drewN ?_ _ | refine blk_drew ?_ | refine blk_alloc ?_ _)); exact BK165.out), GW164.out, GE164.out, NB137_164.out, NB164_137.out, NB150_164.out, NB164_150.out, NB151_164.out, NB164_151.out, NB165_164.out, NB164_165.out, GW165.out, GE165.out, NB137_165.out, NB165_137.out, NB150_165.out, NB165_150.out, NB151_165.out, NB165_151.out, (by repeat (first | (with_reducible first | exact HI137.out | apply IsS84.alloc | apply IsS84.drewN | apply IsS84.drew | apply IsS84.set_1 | refine IsS84.far ?_ NB137_150.out _ | refine IsS84.far ?_ NB137_151.out _ | refine IsS84.far ?_ NB137_165.out _ | refine IsS84.far ?_ NB137_164.out _) | exact HI137.out)), (by repeat (first | (with_reducible first | exact HB.out | apply below_alloc | apply pw_below_drewN | apply below_drew1 | refine below_set ?_ (IsS84.ge HI137.out) | refine below_set ?_ GE150.out | refine below_set ?_ GE151.out | refine below_set ?_ GE165.out | refine below_set ?_ GE164.out) | exact HB.out))⟩)
                          · skip
                            rintro gb164 w43 ⟨h0_, h1_, h2_, h3_, h4_, h5_, h6_, h7_, h8_, h9_, h10_, h11_, h12_, h13_⟩
                            have n0_ : Aside0 (Kd.R k44 44 w43 w.heap.size (fun _ => True) (.slice Ao27 t138.length co27) t138) := ⟨h0_⟩
                            have n1_ : Aside0 (w43.heap[gb150]? = some (.cells #[.int .i64 t146, .int .i64 t147] 39 (0, 0))) := ⟨h1_⟩
                            have n2_ : Aside0 (w43.heap[gb151]? = some (.cells #[.int .i64 t148, .int .i64 t149] 39 (0, 0))) := ⟨h2_⟩
                            have n3_ : Aside0 (w43.heap[gb164]? = some (.cells #[.int .i64 0, .int .i64 0] 39 (0, 0))) := ⟨h3_⟩
                            have n4_ : Aside0 (w.heap.size ≤ gb164) := ⟨h4_⟩
                            have n5_ : Aside0 (w.heap.size ≤ gb164) := ⟨h5_⟩
                            have n6_ : Aside0 (g137 ≠ gb164) := ⟨h6_⟩
                            have n7_ : Aside0 (gb164 ≠ g137) := ⟨h7_⟩
                            have n8_ : Aside0 (gb150 ≠ gb164) := ⟨h8_⟩
                            have n9_ : Aside0 (gb164 ≠ gb150) := ⟨h9_⟩
                            have n10_ : Aside0 (gb151 ≠ gb164) := ⟨h10_⟩
                            have n11_ : Aside0 (gb164 ≠ gb151) := ⟨h11_⟩
                            have n12_ : Aside0 (IsS84 w w43 g137 t135 t145) := ⟨h12_⟩
                            have n13_ : Aside0 (Below w.heap.size w w43) := ⟨h13_⟩
                            clear HO140
                            clear BK150
                            clear BK151
                            clear HI137
                            clear HB
                            clear h0_ h1_ h2_ h3_ h4_ h5_ h6_ h7_ h8_ h9_ h10_ h11_ h12_ h13_
                            have HO140 := n0_
                            have BK150 := n1_
                            have BK151 := n2_
                            have BK164 := n3_
                            have GW164 := n4_
                            have GE164 := n5_
                            have NB137_164 := n6_
                            have NB164_137 := n7_
                            have NB150_164 := n8_
                            have NB164_150 := n9_
                            have NB151_164 := n10_
                            have NB164_151 := n11_
                            have HI137 := n12_
                            have HB := n13_
                            clear n0_ n1_ n2_ n3_ n4_ n5_ n6_ n7_ n8_ n9_ n10_ n11_ n12_ n13_
                            have hHeld := trivial
                            refine norm_ (a' := ?_) ?_ ?_
                            rotate_left
                            · simp only [putAll, Act.put, List.setIfInBounds_toArray, List.set_cons_zero, List.set_cons_succ]
                              rfl
                            refine two_ (i := 11) (j := 13) (Ni := some 51) (Nj := some 13) #[true, true, true, true, true, true, true, true, true, true, true, true, true, false, false, false] #[true, true, true, true, true, true, true, true, true, true, true, false, true, true, false, false] rfl rfl rfl rfl (two_of HT_.out (by kernel_rfl)) (by decide) (by decide) (fun K hK => ?_) (fun K hK => ?_)
                            · skip
                              refine goes_ Try.func23 (by kernel_rfl) rfl #[.slice A40 y158.length c40, .int .i64 (wrap64 (1 + t142)), .int .i64 (wrap64 (1 + t144))] (by rfl) rfl rfl (by (try simp only [List.map_toArray, List.map_cons, List.map_nil]); first | done | rfl | (simp only [List.length_drop, List.length_take]; rfl)) ?_
                              with_reducible refine (ending_Room.calls k _ _ y158 (wrap64 (1 + t142)) (wrap64 (1 + t144)) t162 t163 _ ?side1 ?side2 A18.out).mono ?_
                              (case side1 => exact (by rw [Ny158.out, KA40.out]; exact Kd.C_drop (m := ((ji12) : Int).toNat) (c := co27) ((Kd.R_reads' (by (with_reducible repeat (first | apply Kd.R_alloc | apply Kd.R_drewN | apply Kd.R_drew)); exact HO140.out)).2.2) KL40.out ((Kd.R_reads' (HO140.out)).2.1)))
                              (case side2 => exact HC161.out)
                              rintro e w44 ⟨rfl, hb⟩
                              refine ⟨_, rfl, ?_⟩
                              have n0_ := Aside0.mk (Kd.R_below (by (with_reducible repeat (first | apply Kd.R_alloc | apply Kd.R_drewN | apply Kd.R_drew)); exact HO140.out) hb)
                              have n1_ := Aside0.mk (IsS84.below (by repeat (first | (with_reducible first | exact HI137.out | apply IsS84.alloc | apply IsS84.drewN | apply IsS84.drew | apply IsS84.set_1 | refine IsS84.far ?_ NB137_150.out _ | refine IsS84.far ?_ NB137_151.out _ | refine IsS84.far ?_ NB137_164.out _) | exact HI137.out)) hb)
                              have n2_ := Aside0.mk (blk_below (g := gb150) (o := .cells #[.int .i64 t146, .int .i64 t147] 39 (0, 0)) (by (with_reducible repeat (first | refine blk_drewN ?_ _ | refine blk_drew ?_ | refine blk_alloc ?_ _)); exact BK150.out) hb)
                              have n3_ := Aside0.mk (blk_below (g := gb151) (o := .cells #[.int .i64 t148, .int .i64 t149] 39 (0, 0)) (by (with_reducible repeat (first | refine blk_drewN ?_ _ | refine blk_drew ?_ | refine blk_alloc ?_ _)); exact BK151.out) hb)
                              have n4_ := Aside0.mk (blk_below (g := gb164) (o := .cells #[.int .i64 0, .int .i64 0] 39 (0, 0)) (by (with_reducible repeat (first | refine blk_drewN ?_ _ | refine blk_drew ?_ | refine blk_alloc ?_ _)); exact BK164.out) hb)
                              have n5_ := Aside0.mk (below_step (by repeat (first | (with_reducible first | exact HB.out | apply below_alloc | apply pw_below_drewN | apply below_drew1 | refine below_set ?_ (IsS84.ge HI137.out) | refine below_set ?_ GE150.out | refine below_set ?_ GE151.out | refine below_set ?_ GE164.out) | exact HB.out)) hb)
                              clear HO140
                              clear HI137
                              clear BK150
                              clear BK151
                              clear BK164
                              clear HB
                              have HO140 := n0_
                              have HI137 := n1_
                              have BK150 := n2_
                              have BK151 := n3_
                              have BK164 := n4_
                              have HB := n5_
                              clear n0_ n1_ n2_ n3_ n4_ n5_
                              (try clear hb)
                              (try clear hb2)
                              (try clear hk)
                              (try clear hi)
                              refine hK.out _ _ trivial (fun hHeld => ?_)
                              clear hK K
                              refine norm_ (a' := ?_) ?_ ?_
                              rotate_left
                              · show Act.put _ (some 51) _ = _
                                simp only [Act.put, List.setIfInBounds_toArray, List.set_cons_zero, List.set_cons_succ, i64_w, i32_w]
                                rfl
                              exact norm_ (by first | (simp only [putAll, Act.put, List.setIfInBounds_toArray, List.set_cons_zero, List.set_cons_succ]; done) | (simp only [putAll, Act.put, List.setIfInBounds_toArray, List.set_cons_zero, List.set_cons_succ]; rfl)) (hJ5_11_12 (gb164) _ ⟨(by (with_reducible repeat (first | apply Kd.R_alloc | apply Kd.R_drewN | apply Kd.R_drew)); exact HO140.out), (by (with_reducible repeat (first | refine blk_drewN ?_ _ | refine blk_drew ?_ | refine blk_alloc ?_ _)); exact BK150.out), (by (with_reducible repeat (first | refine blk_drewN ?_ _ | refine blk_drew ?_ | refine blk_alloc ?_ _)); exact BK151.out), (by (with_reducible repeat (first | refine blk_drewN ?_ _ | refine blk_drew ?_ | refine blk_alloc ?_ _)); exact BK164.out), GW164.out, GE164.out, NB137_164.out, NB164_137.out, NB150_164.out, NB164_150.out, NB151_164.out, NB164_151.out, (by repeat (first | (with_reducible first | exact HI137.out | apply IsS84.alloc | apply IsS84.drewN | apply IsS84.drew | apply IsS84.set_1 | refine IsS84.far ?_ NB137_150.out _ | refine IsS84.far ?_ NB137_151.out _ | refine IsS84.far ?_ NB137_164.out _) | exact HI137.out)), (by repeat (first | (with_reducible first | exact HB.out | apply below_alloc | apply pw_below_drewN | apply below_drew1 | refine below_set ?_ (IsS84.ge HI137.out) | refine below_set ?_ GE150.out | refine below_set ?_ GE151.out | refine below_set ?_ GE164.out) | exact HB.out))⟩)
                            · skip
                              refine box_step ?hg (N := 13) ?hd (cs := #[.int .i64 0, .int .i64 0]) (t := 39) ?hr ?_; (case hd => rfl); (case hg => rfl); (case hr => first | (go_simp; done) | (go_simp; rfl))
                              intro gb165 hg w44 hbox hb
                              have n0_ := Aside0.mk (Kd.R_below (by (with_reducible repeat (first | apply Kd.R_alloc | apply Kd.R_drewN | apply Kd.R_drew)); exact HO140.out) hb)
                              have n1_ := Aside0.mk (IsS84.below (by repeat (first | (with_reducible first | exact HI137.out | apply IsS84.alloc | apply IsS84.drewN | apply IsS84.drew | apply IsS84.set_1 | refine IsS84.far ?_ NB137_150.out _ | refine IsS84.far ?_ NB137_151.out _ | refine IsS84.far ?_ NB137_164.out _) | exact HI137.out)) hb)
                              have n2_ := Aside0.mk (blk_below (g := gb150) (o := .cells #[.int .i64 t146, .int .i64 t147] 39 (0, 0)) (by (with_reducible repeat (first | refine blk_drewN ?_ _ | refine blk_drew ?_ | refine blk_alloc ?_ _)); exact BK150.out) hb)
                              have n3_ := Aside0.mk (blk_below (g := gb151) (o := .cells #[.int .i64 t148, .int .i64 t149] 39 (0, 0)) (by (with_reducible repeat (first | refine blk_drewN ?_ _ | refine blk_drew ?_ | refine blk_alloc ?_ _)); exact BK151.out) hb)
                              have n4_ := Aside0.mk (blk_below (g := gb164) (o := .cells #[.int .i64 0, .int .i64 0] 39 (0, 0)) (by (with_reducible repeat (first | refine blk_drewN ?_ _ | refine blk_drew ?_ | refine blk_alloc ?_ _)); exact BK164.out) hb)
                              have n5_ := Aside0.mk (below_step (by repeat (first | (with_reducible first | exact HB.out | apply below_alloc | apply pw_below_drewN | apply below_drew1 | refine below_set ?_ (IsS84.ge HI137.out) | refine below_set ?_ GE150.out | refine below_set ?_ GE151.out | refine below_set ?_ GE164.out) | exact HB.out)) hb)
                              have n6_ := Aside0.mk (hbox)
                              have n7_ := Aside0.mk ((by rw [hg]; exact (below_size (by repeat (first | (with_reducible first | exact HB.out | apply below_alloc | apply pw_below_drewN | apply below_drew1 | refine below_set ?_ (IsS84.ge HI137.out) | refine below_set ?_ GE150.out | refine below_set ?_ GE151.out | refine below_set ?_ GE164.out) | exact HB.out))) : w.heap.size ≤ gb165))
                              have n8_ := Aside0.mk ((by rw [hg]; exact (below_size (by repeat (first | (with_reducible first | exact HB.out | apply below_alloc | apply pw_below_drewN | apply below_drew1 | refine below_set ?_ (IsS84.ge HI137.out) | refine below_set ?_ GE150.out | refine below_set ?_ GE151.out | refine below_set ?_ GE164.out) | exact HB.out))) : w.heap.size ≤ gb165))
                              have n9_ := Aside0.mk ((by rw [hg]; exact Nat.ne_of_lt (blk_lt (g := gb150) (o := .cells #[.int .i64 t146, .int .i64 t147] 39 (0, 0)) (by (with_reducible repeat (first | refine blk_drewN ?_ _ | refine blk_drew ?_ | refine blk_alloc ?_ _)); exact BK150.out)) : gb150 ≠ gb165))
                              have n10_ := Aside0.mk ((by rw [hg]; exact Nat.ne_of_gt (blk_lt (g := gb150) (o := .cells #[.int .i64 t146, .int .i64 t147] 39 (0, 0)) (by (with_reducible repeat (first | refine blk_drewN ?_ _ | refine blk_drew ?_ | refine blk_alloc ?_ _)); exact BK150.out)) : gb165 ≠ gb150))
                              have n11_ := Aside0.mk ((by rw [hg]; exact Nat.ne_of_lt (blk_lt (g := gb151) (o := .cells #[.int .i64 t148, .int .i64 t149] 39 (0, 0)) (by (with_reducible repeat (first | refine blk_drewN ?_ _ | refine blk_drew ?_ | refine blk_alloc ?_ _)); exact BK151.out)) : gb151 ≠ gb165))
                              have n12_ := Aside0.mk ((by rw [hg]; exact Nat.ne_of_gt (blk_lt (g := gb151) (o := .cells #[.int .i64 t148, .int .i64 t149] 39 (0, 0)) (by (with_reducible repeat (first | refine blk_drewN ?_ _ | refine blk_drew ?_ | refine blk_alloc ?_ _)); exact BK151.out)) : gb165 ≠ gb151))
                              have n13_ := Aside0.mk ((by rw [hg]; exact Nat.ne_of_lt (blk_lt (g := gb164) (o := .cells #[.int .i64 0, .int .i64 0] 39 (0, 0)) (by (with_reducible repeat (first | refine blk_drewN ?_ _ | refine blk_drew ?_ | refine blk_alloc ?_ _)); exact BK164.out)) : gb164 ≠ gb165))
                              have n14_ := Aside0.mk ((by rw [hg]; exact Nat.ne_of_gt (blk_lt (g := gb164) (o := .cells #[.int .i64 0, .int .i64 0] 39 (0, 0)) (by (with_reducible repeat (first | refine blk_drewN ?_ _ | refine blk_drew ?_ | refine blk_alloc ?_ _)); exact BK164.out)) : gb165 ≠ gb164))
                              have n15_ := Aside0.mk ((by rw [hg]; exact Nat.ne_of_lt (IsS84.lt (show IsS84 w _ g137 t135 t145 from by repeat (first | (with_reducible first | exact HI137.out | apply IsS84.alloc | apply IsS84.drewN | apply IsS84.drew | apply IsS84.set_1 | refine IsS84.far ?_ NB137_150.out _ | refine IsS84.far ?_ NB137_151.out _ | refine IsS84.far ?_ NB137_164.out _) | exact HI137.out))) : g137 ≠ gb165))
                              have n16_ := Aside0.mk ((by rw [hg]; exact Nat.ne_of_gt (IsS84.lt (show IsS84 w _ g137 t135 t145 from by repeat (first | (with_reducible first | exact HI137.out | apply IsS84.alloc | apply IsS84.drewN | apply IsS84.drew | apply IsS84.set_1 | refine IsS84.far ?_ NB137_150.out _ | refine IsS84.far ?_ NB137_151.out _ | refine IsS84.far ?_ NB137_164.out _) | exact HI137.out))) : gb165 ≠ g137))
                              clear HO140
                              clear HI137
                              clear BK150
                              clear BK151
                              clear BK164
                              clear HB
                              have HO140 := n0_
                              have HI137 := n1_
                              have BK150 := n2_
                              have BK151 := n3_
                              have BK164 := n4_
                              have HB := n5_
                              have BK165 := n6_
                              have GW165 := n7_
                              have GE165 := n8_
                              have NB150_165 := n9_
                              have NB165_150 := n10_
                              have NB151_165 := n11_
                              have NB165_151 := n12_
                              have NB164_165 := n13_
                              have NB165_164 := n14_
                              have NB137_165 := n15_
                              have NB165_137 := n16_
                              clear n0_ n1_ n2_ n3_ n4_ n5_ n6_ n7_ n8_ n9_ n10_ n11_ n12_ n13_ n14_ n15_ n16_
                              clear hb hbox hg
                              refine hK.out _ _ trivial (fun hHeld => ?_)
                              clear hK K
                              refine norm_ (a' := ?_) ?_ ?_
                              rotate_left
                              · show Act.put _ (some 13) _ = _
                                simp only [Act.put, List.setIfInBounds_toArray, List.set_cons_zero, List.set_cons_succ, i64_w, i32_w]
                                rfl
                              exact norm_ (by first | (simp only [putAll, Act.put, List.setIfInBounds_toArray, List.set_cons_zero, List.set_cons_succ]; done) | (simp only [putAll, Act.put, List.setIfInBounds_toArray, List.set_cons_zero, List.set_cons_succ]; rfl)) (hJ5_12_13 (gb164, gb165) _ ⟨(by (with_reducible repeat (first | apply Kd.R_alloc | apply Kd.R_drewN | apply Kd.R_drew)); exact HO140.out), (by (with_reducible repeat (first | refine blk_drewN ?_ _ | refine blk_drew ?_ | refine blk_alloc ?_ _)); exact BK150.out), (by (with_reducible repeat (first | refine blk_drewN ?_ _ | refine blk_drew ?_ | refine blk_alloc ?_ _)); exact BK151.out), (by (with_reducible repeat (first | refine blk_drewN ?_ _ | refine blk_drew ?_ | refine blk_alloc ?_ _)); exact BK164.out), (by (with_reducible repeat (first | refine blk_drewN ?_ _ | refine blk_drew ?_ | refine blk_alloc ?_ _)); exact BK165.out), GW164.out, GE164.out, NB137_164.out, NB164_137.out, NB150_164.out, NB164_150.out, NB151_164.out, NB164_151.out, NB165_164.out, NB164_165.out, GW165.out, GE165.out, NB137_165.out, NB165_137.out, NB150_165.out, NB165_150.out, NB151_165.out, NB165_151.out, (by repeat (first | (with_reducible first | exact HI137.out | apply IsS84.alloc | apply IsS84.drewN | apply IsS84.drew | apply IsS84.set_1 | refine IsS84.far ?_ NB137_150.out _ | refine IsS84.far ?_ NB137_151.out _ | refine IsS84.far ?_ NB137_164.out _ | refine IsS84.far ?_ NB137_165.out _) | exact HI137.out)), (by repeat (first | (with_reducible first | exact HB.out | apply below_alloc | apply pw_below_drewN | apply below_drew1 | refine below_set ?_ (IsS84.ge HI137.out) | refine below_set ?_ GE150.out | refine below_set ?_ GE151.out | refine below_set ?_ GE164.out | refine below_set ?_ GE165.out) | exact HB.out))⟩)
                        · skip
                          rintro _ w43 ⟨h0_, h1_, h2_, h3_, h4_⟩
                          have n0_ : Aside0 (Kd.R k44 44 w43 w.heap.size (fun _ => True) (.slice Ao27 t138.length co27) t138) := ⟨h0_⟩
                          have n1_ : Aside0 (w43.heap[gb150]? = some (.cells #[.int .i64 t146, .int .i64 t147] 39 (0, 0))) := ⟨h1_⟩
                          have n2_ : Aside0 (w43.heap[gb151]? = some (.cells #[.int .i64 t148, .int .i64 t149] 39 (0, 0))) := ⟨h2_⟩
                          have n3_ : Aside0 (IsS84 w w43 g137 t135 t145) := ⟨h3_⟩
                          have n4_ : Aside0 (Below w.heap.size w w43) := ⟨h4_⟩
                          clear HO140
                          clear BK150
                          clear BK151
                          clear HI137
                          clear HB
                          clear h0_ h1_ h2_ h3_ h4_
                          have HO140 := n0_
                          have BK150 := n1_
                          have BK151 := n2_
                          have HI137 := n3_
                          have HB := n4_
                          clear n0_ n1_ n2_ n3_ n4_
                          have hHeld := trivial
                          refine norm_ (a' := ?_) ?_ ?_
                          rotate_left
                          · simp only [putAll, Act.put, List.setIfInBounds_toArray, List.set_cons_zero, List.set_cons_succ]
                            rfl
                          refine two_ (i := 12) (j := 13) (Ni := some 12) (Nj := some 13) #[true, true, true, true, true, true, true, true, true, true, true, true, true, false, false, false] #[true, true, true, true, true, true, true, true, true, true, true, true, false, true, false, false] rfl rfl rfl rfl (two_of HT_.out (by kernel_rfl)) (by decide) (by decide) (fun K hK => ?_) (fun K hK => ?_)
                          · skip
                            refine box_step ?hg (N := 12) ?hd (cs := #[.int .i64 0, .int .i64 0]) (t := 39) ?hr ?_; (case hd => rfl); (case hg => rfl); (case hr => first | (go_simp; done) | (go_simp; rfl))
                            intro gb164 hg w44 hbox hb
                            have n0_ := Aside0.mk (Kd.R_below (by (with_reducible repeat (first | apply Kd.R_alloc | apply Kd.R_drewN | apply Kd.R_drew)); exact HO140.out) hb)
                            have n1_ := Aside0.mk (IsS84.below (by repeat (first | (with_reducible first | exact HI137.out | apply IsS84.alloc | apply IsS84.drewN | apply IsS84.drew | apply IsS84.set_1 | refine IsS84.far ?_ NB137_150.out _ | refine IsS84.far ?_ NB137_151.out _) | exact HI137.out)) hb)
                            have n2_ := Aside0.mk (blk_below (g := gb150) (o := .cells #[.int .i64 t146, .int .i64 t147] 39 (0, 0)) (by (with_reducible repeat (first | refine blk_drewN ?_ _ | refine blk_drew ?_ | refine blk_alloc ?_ _)); exact BK150.out) hb)
                            have n3_ := Aside0.mk (blk_below (g := gb151) (o := .cells #[.int .i64 t148, .int .i64 t149] 39 (0, 0)) (by (with_reducible repeat (first | refine blk_drewN ?_ _ | refine blk_drew ?_ | refine blk_alloc ?_ _)); exact BK151.out) hb)
                            have n4_ := Aside0.mk (below_step (by repeat (first | (with_reducible first | exact HB.out | apply below_alloc | apply pw_below_drewN | apply below_drew1 | refine below_set ?_ (IsS84.ge HI137.out) | refine below_set ?_ GE150.out | refine below_set ?_ GE151.out) | exact HB.out)) hb)
                            have n5_ := Aside0.mk (hbox)
                            have n6_ := Aside0.mk ((by rw [hg]; exact (below_size (by repeat (first | (with_reducible first | exact HB.out | apply below_alloc | apply pw_below_drewN | apply below_drew1 | refine below_set ?_ (IsS84.ge HI137.out) | refine below_set ?_ GE150.out | refine below_set ?_ GE151.out) | exact HB.out))) : w.heap.size ≤ gb164))
                            have n7_ := Aside0.mk ((by rw [hg]; exact (below_size (by repeat (first | (with_reducible first | exact HB.out | apply below_alloc | apply pw_below_drewN | apply below_drew1 | refine below_set ?_ (IsS84.ge HI137.out) | refine below_set ?_ GE150.out | refine below_set ?_ GE151.out) | exact HB.out))) : w.heap.size ≤ gb164))
                            have n8_ := Aside0.mk ((by rw [hg]; exact Nat.ne_of_lt (blk_lt (g := gb150) (o := .cells #[.int .i64 t146, .int .i64 t147] 39 (0, 0)) (by (with_reducible repeat (first | refine blk_drewN ?_ _ | refine blk_drew ?_ | refine blk_alloc ?_ _)); exact BK150.out)) : gb150 ≠ gb164))
                            have n9_ := Aside0.mk ((by rw [hg]; exact Nat.ne_of_gt (blk_lt (g := gb150) (o := .cells #[.int .i64 t146, .int .i64 t147] 39 (0, 0)) (by (with_reducible repeat (first | refine blk_drewN ?_ _ | refine blk_drew ?_ | refine blk_alloc ?_ _)); exact BK150.out)) : gb164 ≠ gb150))
                            have n10_ := Aside0.mk ((by rw [hg]; exact Nat.ne_of_lt (blk_lt (g := gb151) (o := .cells #[.int .i64 t148, .int .i64 t149] 39 (0, 0)) (by (with_reducible repeat (first | refine blk_drewN ?_ _ | refine blk_drew ?_ | refine blk_alloc ?_ _)); exact BK151.out)) : gb151 ≠ gb164))
                            have n11_ := Aside0.mk ((by rw [hg]; exact Nat.ne_of_gt (blk_lt (g := gb151) (o := .cells #[.int .i64 t148, .int .i64 t149] 39 (0, 0)) (by (with_reducible repeat (first | refine blk_drewN ?_ _ | refine blk_drew ?_ | refine blk_alloc ?_ _)); exact BK151.out)) : gb164 ≠ gb151))
                            have n12_ := Aside0.mk ((by rw [hg]; exact Nat.ne_of_lt (IsS84.lt (show IsS84 w _ g137 t135 t145 from by repeat (first | (with_reducible first | exact HI137.out | apply IsS84.alloc | apply IsS84.drewN | apply IsS84.drew | apply IsS84.set_1 | refine IsS84.far ?_ NB137_150.out _ | refine IsS84.far ?_ NB137_151.out _) | exact HI137.out))) : g137 ≠ gb164))
                            have n13_ := Aside0.mk ((by rw [hg]; exact Nat.ne_of_gt (IsS84.lt (show IsS84 w _ g137 t135 t145 from by repeat (first | (with_reducible first | exact HI137.out | apply IsS84.alloc | apply IsS84.drewN | apply IsS84.drew | apply IsS84.set_1 | refine IsS84.far ?_ NB137_150.out _ | refine IsS84.far ?_ NB137_151.out _) | exact HI137.out))) : gb164 ≠ g137))
                            clear HO140
                            clear HI137
                            clear BK150
                            clear BK151
                            clear HB
                            have HO140 := n0_
                            have HI137 := n1_
                            have BK150 := n2_
                            have BK151 := n3_
                            have HB := n4_
                            have BK164 := n5_
                            have GW164 := n6_
                            have GE164 := n7_
                            have NB150_164 := n8_
                            have NB164_150 := n9_
                            have NB151_164 := n10_
                            have NB164_151 := n11_
                            have NB137_164 := n12_
                            have NB164_137 := n13_
                            clear n0_ n1_ n2_ n3_ n4_ n5_ n6_ n7_ n8_ n9_ n10_ n11_ n12_ n13_
                            clear hb hbox hg
                            refine hK.out _ _ trivial (fun hHeld => ?_)
                            clear hK K
                            refine norm_ (a' := ?_) ?_ ?_
                            rotate_left
                            · show Act.put _ (some 12) _ = _
                              simp only [Act.put, List.setIfInBounds_toArray, List.set_cons_zero, List.set_cons_succ, i64_w, i32_w]
                              rfl
                            exact norm_ (by first | (simp only [putAll, Act.put, List.setIfInBounds_toArray, List.set_cons_zero, List.set_cons_succ]; done) | (simp only [putAll, Act.put, List.setIfInBounds_toArray, List.set_cons_zero, List.set_cons_succ]; rfl)) (hJ5_11_12 (gb164) _ ⟨(by (with_reducible repeat (first | apply Kd.R_alloc | apply Kd.R_drewN | apply Kd.R_drew)); exact HO140.out), (by (with_reducible repeat (first | refine blk_drewN ?_ _ | refine blk_drew ?_ | refine blk_alloc ?_ _)); exact BK150.out), (by (with_reducible repeat (first | refine blk_drewN ?_ _ | refine blk_drew ?_ | refine blk_alloc ?_ _)); exact BK151.out), (by (with_reducible repeat (first | refine blk_drewN ?_ _ | refine blk_drew ?_ | refine blk_alloc ?_ _)); exact BK164.out), GW164.out, GE164.out, NB137_164.out, NB164_137.out, NB150_164.out, NB164_150.out, NB151_164.out, NB164_151.out, (by repeat (first | (with_reducible first | exact HI137.out | apply IsS84.alloc | apply IsS84.drewN | apply IsS84.drew | apply IsS84.set_1 | refine IsS84.far ?_ NB137_150.out _ | refine IsS84.far ?_ NB137_151.out _ | refine IsS84.far ?_ NB137_164.out _) | exact HI137.out)), (by repeat (first | (with_reducible first | exact HB.out | apply below_alloc | apply pw_below_drewN | apply below_drew1 | refine below_set ?_ (IsS84.ge HI137.out) | refine below_set ?_ GE150.out | refine below_set ?_ GE151.out | refine below_set ?_ GE164.out) | exact HB.out))⟩)
                          · skip
                            refine box_step ?hg (N := 13) ?hd (cs := #[.int .i64 0, .int .i64 0]) (t := 39) ?hr ?_; (case hd => rfl); (case hg => rfl); (case hr => first | (go_simp; done) | (go_simp; rfl))
                            intro gb165 hg w44 hbox hb
                            have n0_ := Aside0.mk (Kd.R_below (by (with_reducible repeat (first | apply Kd.R_alloc | apply Kd.R_drewN | apply Kd.R_drew)); exact HO140.out) hb)
                            have n1_ := Aside0.mk (IsS84.below (by repeat (first | (with_reducible first | exact HI137.out | apply IsS84.alloc | apply IsS84.drewN | apply IsS84.drew | apply IsS84.set_1 | refine IsS84.far ?_ NB137_150.out _ | refine IsS84.far ?_ NB137_151.out _) | exact HI137.out)) hb)
                            have n2_ := Aside0.mk (blk_below (g := gb150) (o := .cells #[.int .i64 t146, .int .i64 t147] 39 (0, 0)) (by (with_reducible repeat (first | refine blk_drewN ?_ _ | refine blk_drew ?_ | refine blk_alloc ?_ _)); exact BK150.out) hb)
                            have n3_ := Aside0.mk (blk_below (g := gb151) (o := .cells #[.int .i64 t148, .int .i64 t149] 39 (0, 0)) (by (with_reducible repeat (first | refine blk_drewN ?_ _ | refine blk_drew ?_ | refine blk_alloc ?_ _)); exact BK151.out) hb)
                            have n4_ := Aside0.mk (below_step (by repeat (first | (with_reducible first | exact HB.out | apply below_alloc | apply pw_below_drewN | apply below_drew1 | refine below_set ?_ (IsS84.ge HI137.out) | refine below_set ?_ GE150.out | refine below_set ?_ GE151.out) | exact HB.out)) hb)
                            have n5_ := Aside0.mk (hbox)
                            have n6_ := Aside0.mk ((by rw [hg]; exact (below_size (by repeat (first | (with_reducible first | exact HB.out | apply below_alloc | apply pw_below_drewN | apply below_drew1 | refine below_set ?_ (IsS84.ge HI137.out) | refine below_set ?_ GE150.out | refine below_set ?_ GE151.out) | exact HB.out))) : w.heap.size ≤ gb165))
                            have n7_ := Aside0.mk ((by rw [hg]; exact (below_size (by repeat (first | (with_reducible first | exact HB.out | apply below_alloc | apply pw_below_drewN | apply below_drew1 | refine below_set ?_ (IsS84.ge HI137.out) | refine below_set ?_ GE150.out | refine below_set ?_ GE151.out) | exact HB.out))) : w.heap.size ≤ gb165))
                            have n8_ := Aside0.mk ((by rw [hg]; exact Nat.ne_of_lt (blk_lt (g := gb150) (o := .cells #[.int .i64 t146, .int .i64 t147] 39 (0, 0)) (by (with_reducible repeat (first | refine blk_drewN ?_ _ | refine blk_drew ?_ | refine blk_alloc ?_ _)); exact BK150.out)) : gb150 ≠ gb165))
                            have n9_ := Aside0.mk ((by rw [hg]; exact Nat.ne_of_gt (blk_lt (g := gb150) (o := .cells #[.int .i64 t146, .int .i64 t147] 39 (0, 0)) (by (with_reducible repeat (first | refine blk_drewN ?_ _ | refine blk_drew ?_ | refine blk_alloc ?_ _)); exact BK150.out)) : gb165 ≠ gb150))
                            have n10_ := Aside0.mk ((by rw [hg]; exact Nat.ne_of_lt (blk_lt (g := gb151) (o := .cells #[.int .i64 t148, .int .i64 t149] 39 (0, 0)) (by (with_reducible repeat (first | refine blk_drewN ?_ _ | refine blk_drew ?_ | refine blk_alloc ?_ _)); exact BK151.out)) : gb151 ≠ gb165))
                            have n11_ := Aside0.mk ((by rw [hg]; exact Nat.ne_of_gt (blk_lt (g := gb151) (o := .cells #[.int .i64 t148, .int .i64 t149] 39 (0, 0)) (by (with_reducible repeat (first | refine blk_drewN ?_ _ | refine blk_drew ?_ | refine blk_alloc ?_ _)); exact BK151.out)) : gb165 ≠ gb151))
                            have n12_ := Aside0.mk ((by rw [hg]; exact Nat.ne_of_lt (IsS84.lt (show IsS84 w _ g137 t135 t145 from by repeat (first | (with_reducible first | exact HI137.out | apply IsS84.alloc | apply IsS84.drewN | apply IsS84.drew | apply IsS84.set_1 | refine IsS84.far ?_ NB137_150.out _ | refine IsS84.far ?_ NB137_151.out _) | exact HI137.out))) : g137 ≠ gb165))
                            have n13_ := Aside0.mk ((by rw [hg]; exact Nat.ne_of_gt (IsS84.lt (show IsS84 w _ g137 t135 t145 from by repeat (first | (with_reducible first | exact HI137.out | apply IsS84.alloc | apply IsS84.drewN | apply IsS84.drew | apply IsS84.set_1 | refine IsS84.far ?_ NB137_150.out _ | refine IsS84.far ?_ NB137_151.out _) | exact HI137.out))) : gb165 ≠ g137))
                            clear HO140
                            clear HI137
                            clear BK150
                            clear BK151
                            clear HB
                            have HO140 := n0_
                            have HI137 := n1_
                            have BK150 := n2_
                            have BK151 := n3_
                            have HB := n4_
                            have BK165 := n5_
                            have GW165 := n6_
                            have GE165 := n7_
                            have NB150_165 := n8_
                            have NB165_150 := n9_
                            have NB151_165 := n10_
                            have NB165_151 := n11_
                            have NB137_165 := n12_
                            have NB165_137 := n13_
                            clear n0_ n1_ n2_ n3_ n4_ n5_ n6_ n7_ n8_ n9_ n10_ n11_ n12_ n13_
                            clear hb hbox hg
                            refine hK.out _ _ trivial (fun hHeld => ?_)
                            clear hK K
                            refine norm_ (a' := ?_) ?_ ?_
                            rotate_left
                            · show Act.put _ (some 13) _ = _
                              simp only [Act.put, List.setIfInBounds_toArray, List.set_cons_zero, List.set_cons_succ, i64_w, i32_w]
                              rfl
                            exact norm_ (by first | (simp only [putAll, Act.put, List.setIfInBounds_toArray, List.set_cons_zero, List.set_cons_succ]; done) | (simp only [putAll, Act.put, List.setIfInBounds_toArray, List.set_cons_zero, List.set_cons_succ]; rfl)) (hJ5_11_13 (gb165) _ ⟨(by (with_reducible repeat (first | apply Kd.R_alloc | apply Kd.R_drewN | apply Kd.R_drew)); exact HO140.out), (by (with_reducible repeat (first | refine blk_drewN ?_ _ | refine blk_drew ?_ | refine blk_alloc ?_ _)); exact BK150.out), (by (with_reducible repeat (first | refine blk_drewN ?_ _ | refine blk_drew ?_ | refine blk_alloc ?_ _)); exact BK151.out), (by (with_reducible repeat (first | refine blk_drewN ?_ _ | refine blk_drew ?_ | refine blk_alloc ?_ _)); exact BK165.out), GW165.out, GE165.out, NB137_165.out, NB165_137.out, NB150_165.out, NB165_150.out, NB151_165.out, NB165_151.out, (by repeat (first | (with_reducible first | exact HI137.out | apply IsS84.alloc | apply IsS84.drewN | apply IsS84.drew | apply IsS84.set_1 | refine IsS84.far ?_ NB137_150.out _ | refine IsS84.far ?_ NB137_151.out _ | refine IsS84.far ?_ NB137_165.out _) | exact HI137.out)), (by repeat (first | (with_reducible first | exact HB.out | apply below_alloc | apply pw_below_drewN | apply below_drew1 | refine below_set ?_ (IsS84.ge HI137.out) | refine below_set ?_ GE150.out | refine below_set ?_ GE151.out | refine below_set ?_ GE165.out) | exact HB.out))⟩)
                      · skip
                        rintro ⟨gb164, gb165⟩ w44 ⟨h0_, h1_, h2_, h3_, h4_, h5_, h6_, h7_, h8_, h9_, h10_, h11_, h12_, h13_, h14_, h15_, h16_, h17_, h18_, h19_, h20_, h21_, h22_, h23_, h24_⟩
                        have n0_ : Aside0 (Kd.R k44 44 w44 w.heap.size (fun _ => True) (.slice Ao27 t138.length co27) t138) := ⟨h0_⟩
                        have n1_ : Aside0 (w44.heap[gb150]? = some (.cells #[.int .i64 t146, .int .i64 t147] 39 (0, 0))) := ⟨h1_⟩
                        have n2_ : Aside0 (w44.heap[gb151]? = some (.cells #[.int .i64 t148, .int .i64 t149] 39 (0, 0))) := ⟨h2_⟩
                        have n3_ : Aside0 (w44.heap[gb164]? = some (.cells #[.int .i64 0, .int .i64 0] 39 (0, 0))) := ⟨h3_⟩
                        have n4_ : Aside0 (w44.heap[gb165]? = some (.cells #[.int .i64 0, .int .i64 0] 39 (0, 0))) := ⟨h4_⟩
                        have n5_ : Aside0 (w.heap.size ≤ gb164) := ⟨h5_⟩
                        have n6_ : Aside0 (w.heap.size ≤ gb164) := ⟨h6_⟩
                        have n7_ : Aside0 (g137 ≠ gb164) := ⟨h7_⟩
                        have n8_ : Aside0 (gb164 ≠ g137) := ⟨h8_⟩
                        have n9_ : Aside0 (gb150 ≠ gb164) := ⟨h9_⟩
                        have n10_ : Aside0 (gb164 ≠ gb150) := ⟨h10_⟩
                        have n11_ : Aside0 (gb151 ≠ gb164) := ⟨h11_⟩
                        have n12_ : Aside0 (gb164 ≠ gb151) := ⟨h12_⟩
                        have n13_ : Aside0 (gb165 ≠ gb164) := ⟨h13_⟩
                        have n14_ : Aside0 (gb164 ≠ gb165) := ⟨h14_⟩
                        have n15_ : Aside0 (w.heap.size ≤ gb165) := ⟨h15_⟩
                        have n16_ : Aside0 (w.heap.size ≤ gb165) := ⟨h16_⟩
                        have n17_ : Aside0 (g137 ≠ gb165) := ⟨h17_⟩
                        have n18_ : Aside0 (gb165 ≠ g137) := ⟨h18_⟩
                        have n19_ : Aside0 (gb150 ≠ gb165) := ⟨h19_⟩
                        have n20_ : Aside0 (gb165 ≠ gb150) := ⟨h20_⟩
                        have n21_ : Aside0 (gb151 ≠ gb165) := ⟨h21_⟩
                        have n22_ : Aside0 (gb165 ≠ gb151) := ⟨h22_⟩
                        have n23_ : Aside0 (IsS84 w w44 g137 t135 t145) := ⟨h23_⟩
                        have n24_ : Aside0 (Below w.heap.size w w44) := ⟨h24_⟩
                        clear HO140
                        clear BK150
                        clear BK151
                        clear HI137
                        clear HB
                        clear h0_ h1_ h2_ h3_ h4_ h5_ h6_ h7_ h8_ h9_ h10_ h11_ h12_ h13_ h14_ h15_ h16_ h17_ h18_ h19_ h20_ h21_ h22_ h23_ h24_
                        have HO140 := n0_
                        have BK150 := n1_
                        have BK151 := n2_
                        have BK164 := n3_
                        have BK165 := n4_
                        have GW164 := n5_
                        have GE164 := n6_
                        have NB137_164 := n7_
                        have NB164_137 := n8_
                        have NB150_164 := n9_
                        have NB164_150 := n10_
                        have NB151_164 := n11_
                        have NB164_151 := n12_
                        have NB165_164 := n13_
                        have NB164_165 := n14_
                        have GW165 := n15_
                        have GE165 := n16_
                        have NB137_165 := n17_
                        have NB165_137 := n18_
                        have NB150_165 := n19_
                        have NB165_150 := n20_
                        have NB151_165 := n21_
                        have NB165_151 := n22_
                        have HI137 := n23_
                        have HB := n24_
                        clear n0_ n1_ n2_ n3_ n4_ n5_ n6_ n7_ n8_ n9_ n10_ n11_ n12_ n13_ n14_ n15_ n16_ n17_ n18_ n19_ n20_ n21_ n22_ n23_ n24_
                        have hHeld := trivial
                        refine norm_ (a' := ?_) ?_ ?_
                        rotate_left
                        · simp only [putAll, Act.put, List.setIfInBounds_toArray, List.set_cons_zero, List.set_cons_succ]
                          rfl
                        refine one_ (i := 11) (N := some 51) #[true, true, true, true, true, true, true, true, true, true, true, true, true, true, false, false] rfl rfl (one_of HT_.out (by kernel_rfl)) (by decide) (fun K hK => ?_)
                        refine goes_ Try.func23 (by kernel_rfl) rfl #[.slice A40 y158.length c40, .int .i64 (wrap64 (1 + t142)), .int .i64 (wrap64 (1 + t144))] (by rfl) rfl rfl (by (try simp only [List.map_toArray, List.map_cons, List.map_nil]); first | done | rfl | (simp only [List.length_drop, List.length_take]; rfl)) ?_
                        with_reducible refine (ending_Room.calls k _ _ y158 (wrap64 (1 + t142)) (wrap64 (1 + t144)) t162 t163 _ ?side1 ?side2 A18.out).mono ?_
                        (case side1 => exact (by rw [Ny158.out, KA40.out]; exact Kd.C_drop (m := ((ji12) : Int).toNat) (c := co27) ((Kd.R_reads' (by (with_reducible repeat (first | apply Kd.R_alloc | apply Kd.R_drewN | apply Kd.R_drew)); exact HO140.out)).2.2) KL40.out ((Kd.R_reads' (HO140.out)).2.1)))
                        (case side2 => exact HC161.out)
                        rintro e w45 ⟨rfl, hb⟩
                        refine ⟨_, rfl, ?_⟩
                        have n0_ := Aside0.mk (Kd.R_below (by (with_reducible repeat (first | apply Kd.R_alloc | apply Kd.R_drewN | apply Kd.R_drew)); exact HO140.out) hb)
                        have n1_ := Aside0.mk (IsS84.below (by repeat (first | (with_reducible first | exact HI137.out | apply IsS84.alloc | apply IsS84.drewN | apply IsS84.drew | apply IsS84.set_1 | refine IsS84.far ?_ NB137_150.out _ | refine IsS84.far ?_ NB137_151.out _ | refine IsS84.far ?_ NB137_164.out _ | refine IsS84.far ?_ NB137_165.out _) | exact HI137.out)) hb)
                        have n2_ := Aside0.mk (blk_below (g := gb150) (o := .cells #[.int .i64 t146, .int .i64 t147] 39 (0, 0)) (by (with_reducible repeat (first | refine blk_drewN ?_ _ | refine blk_drew ?_ | refine blk_alloc ?_ _)); exact BK150.out) hb)
                        have n3_ := Aside0.mk (blk_below (g := gb151) (o := .cells #[.int .i64 t148, .int .i64 t149] 39 (0, 0)) (by (with_reducible repeat (first | refine blk_drewN ?_ _ | refine blk_drew ?_ | refine blk_alloc ?_ _)); exact BK151.out) hb)
                        have n4_ := Aside0.mk (blk_below (g := gb164) (o := .cells #[.int .i64 0, .int .i64 0] 39 (0, 0)) (by (with_reducible repeat (first | refine blk_drewN ?_ _ | refine blk_drew ?_ | refine blk_alloc ?_ _)); exact BK164.out) hb)
                        have n5_ := Aside0.mk (blk_below (g := gb165) (o := .cells #[.int .i64 0, .int .i64 0] 39 (0, 0)) (by (with_reducible repeat (first | refine blk_drewN ?_ _ | refine blk_drew ?_ | refine blk_alloc ?_ _)); exact BK165.out) hb)
                        have n6_ := Aside0.mk (below_step (by repeat (first | (with_reducible first | exact HB.out | apply below_alloc | apply pw_below_drewN | apply below_drew1 | refine below_set ?_ (IsS84.ge HI137.out) | refine below_set ?_ GE150.out | refine below_set ?_ GE151.out | refine below_set ?_ GE164.out | refine below_set ?_ GE165.out) | exact HB.out)) hb)
                        clear HO140
                        clear HI137
                        clear BK150
                        clear BK151
                        clear BK164
                        clear BK165
                        clear HB
                        have HO140 := n0_
                        have HI137 := n1_
                        have BK150 := n2_
                        have BK151 := n3_
                        have BK164 := n4_
                        have BK165 := n5_
                        have HB := n6_
                        clear n0_ n1_ n2_ n3_ n4_ n5_ n6_
                        (try clear hb)
                        (try clear hb2)
                        (try clear hk)
                        (try clear hi)
                        refine hK.out _ _ trivial (fun hHeld => ?_)
                        clear hK K
                        refine norm_ (a' := ?_) ?_ ?_
                        rotate_left
                        · show Act.put _ (some 51) _ = _
                          simp only [Act.put, List.setIfInBounds_toArray, List.set_cons_zero, List.set_cons_succ, i64_w, i32_w]
                          rfl
                        exact norm_ (by first | (simp only [putAll, Act.put, List.setIfInBounds_toArray, List.set_cons_zero, List.set_cons_succ]; done) | (simp only [putAll, Act.put, List.setIfInBounds_toArray, List.set_cons_zero, List.set_cons_succ]; rfl)) (hJ5_11_12_13 (gb164, gb165) _ ⟨(by (with_reducible repeat (first | apply Kd.R_alloc | apply Kd.R_drewN | apply Kd.R_drew)); exact HO140.out), (by (with_reducible repeat (first | refine blk_drewN ?_ _ | refine blk_drew ?_ | refine blk_alloc ?_ _)); exact BK150.out), (by (with_reducible repeat (first | refine blk_drewN ?_ _ | refine blk_drew ?_ | refine blk_alloc ?_ _)); exact BK151.out), (by (with_reducible repeat (first | refine blk_drewN ?_ _ | refine blk_drew ?_ | refine blk_alloc ?_ _)); exact BK164.out), (by (with_reducible repeat (first | refine blk_drewN ?_ _ | refine blk_drew ?_ | refine blk_alloc ?_ _)); exact BK165.out), GW164.out, GE164.out, NB137_164.out, NB164_137.out, NB150_164.out, NB164_150.out, NB151_164.out, NB164_151.out, NB165_164.out, NB164_165.out, GW165.out, GE165.out, NB137_165.out, NB165_137.out, NB150_165.out, NB165_150.out, NB151_165.out, NB165_151.out, (by repeat (first | (with_reducible first | exact HI137.out | apply IsS84.alloc | apply IsS84.drewN | apply IsS84.drew | apply IsS84.set_1 | refine IsS84.far ?_ NB137_150.out _ | refine IsS84.far ?_ NB137_151.out _ | refine IsS84.far ?_ NB137_164.out _ | refine IsS84.far ?_ NB137_165.out _) | exact HI137.out)), (by repeat (first | (with_reducible first | exact HB.out | apply below_alloc | apply pw_below_drewN | apply below_drew1 | refine below_set ?_ (IsS84.ge HI137.out) | refine below_set ?_ GE150.out | refine below_set ?_ GE151.out | refine below_set ?_ GE164.out | refine below_set ?_ GE165.out) | exact HB.out))⟩)
                    · skip
                      rintro gb165 w44 ⟨h0_, h1_, h2_, h3_, h4_, h5_, h6_, h7_, h8_, h9_, h10_, h11_, h12_, h13_⟩
                      have n0_ : Aside0 (Kd.R k44 44 w44 w.heap.size (fun _ => True) (.slice Ao27 t138.length co27) t138) := ⟨h0_⟩
                      have n1_ : Aside0 (w44.heap[gb150]? = some (.cells #[.int .i64 t146, .int .i64 t147] 39 (0, 0))) := ⟨h1_⟩
                      have n2_ : Aside0 (w44.heap[gb151]? = some (.cells #[.int .i64 t148, .int .i64 t149] 39 (0, 0))) := ⟨h2_⟩
                      have n3_ : Aside0 (w44.heap[gb165]? = some (.cells #[.int .i64 0, .int .i64 0] 39 (0, 0))) := ⟨h3_⟩
                      have n4_ : Aside0 (w.heap.size ≤ gb165) := ⟨h4_⟩
                      have n5_ : Aside0 (w.heap.size ≤ gb165) := ⟨h5_⟩
                      have n6_ : Aside0 (g137 ≠ gb165) := ⟨h6_⟩
                      have n7_ : Aside0 (gb165 ≠ g137) := ⟨h7_⟩
                      have n8_ : Aside0 (gb150 ≠ gb165) := ⟨h8_⟩
                      have n9_ : Aside0 (gb165 ≠ gb150) := ⟨h9_⟩
                      have n10_ : Aside0 (gb151 ≠ gb165) := ⟨h10_⟩
                      have n11_ : Aside0 (gb165 ≠ gb151) := ⟨h11_⟩
                      have n12_ : Aside0 (IsS84 w w44 g137 t135 t145) := ⟨h12_⟩
                      have n13_ : Aside0 (Below w.heap.size w w44) := ⟨h13_⟩
                      clear HO140
                      clear BK150
                      clear BK151
                      clear HI137
                      clear HB
                      clear h0_ h1_ h2_ h3_ h4_ h5_ h6_ h7_ h8_ h9_ h10_ h11_ h12_ h13_
                      have HO140 := n0_
                      have BK150 := n1_
                      have BK151 := n2_
                      have BK165 := n3_
                      have GW165 := n4_
                      have GE165 := n5_
                      have NB137_165 := n6_
                      have NB165_137 := n7_
                      have NB150_165 := n8_
                      have NB165_150 := n9_
                      have NB151_165 := n10_
                      have NB165_151 := n11_
                      have HI137 := n12_
                      have HB := n13_
                      clear n0_ n1_ n2_ n3_ n4_ n5_ n6_ n7_ n8_ n9_ n10_ n11_ n12_ n13_
                      have hHeld := trivial
                      refine norm_ (a' := ?_) ?_ ?_
                      rotate_left
                      · simp only [putAll, Act.put, List.setIfInBounds_toArray, List.set_cons_zero, List.set_cons_succ]
                        rfl
                      refine one_ (i := 12) (N := some 12) #[true, true, true, true, true, true, true, true, true, true, true, true, true, true, false, false] rfl rfl (one_of HT_.out (by kernel_rfl)) (by decide) (fun K hK => ?_)
                      refine box_step ?hg (N := 12) ?hd (cs := #[.int .i64 0, .int .i64 0]) (t := 39) ?hr ?_; (case hd => rfl); (case hg => rfl); (case hr => first | (go_simp; done) | (go_simp; rfl))
                      intro gb164 hg w45 hbox hb
                      have n0_ := Aside0.mk (Kd.R_below (by (with_reducible repeat (first | apply Kd.R_alloc | apply Kd.R_drewN | apply Kd.R_drew)); exact HO140.out) hb)
                      have n1_ := Aside0.mk (IsS84.below (by repeat (first | (with_reducible first | exact HI137.out | apply IsS84.alloc | apply IsS84.drewN | apply IsS84.drew | apply IsS84.set_1 | refine IsS84.far ?_ NB137_150.out _ | refine IsS84.far ?_ NB137_151.out _ | refine IsS84.far ?_ NB137_165.out _) | exact HI137.out)) hb)
                      have n2_ := Aside0.mk (blk_below (g := gb150) (o := .cells #[.int .i64 t146, .int .i64 t147] 39 (0, 0)) (by (with_reducible repeat (first | refine blk_drewN ?_ _ | refine blk_drew ?_ | refine blk_alloc ?_ _)); exact BK150.out) hb)
                      have n3_ := Aside0.mk (blk_below (g := gb151) (o := .cells #[.int .i64 t148, .int .i64 t149] 39 (0, 0)) (by (with_reducible repeat (first | refine blk_drewN ?_ _ | refine blk_drew ?_ | refine blk_alloc ?_ _)); exact BK151.out) hb)
                      have n4_ := Aside0.mk (blk_below (g := gb165) (o := .cells #[.int .i64 0, .int .i64 0] 39 (0, 0)) (by (with_reducible repeat (first | refine blk_drewN ?_ _ | refine blk_drew ?_ | refine blk_alloc ?_ _)); exact BK165.out) hb)
                      have n5_ := Aside0.mk (below_step (by repeat (first | (with_reducible first | exact HB.out | apply below_alloc | apply pw_below_drewN | apply below_drew1 | refine below_set ?_ (IsS84.ge HI137.out) | refine below_set ?_ GE150.out | refine below_set ?_ GE151.out | refine below_set ?_ GE165.out) | exact HB.out)) hb)
                      have n6_ := Aside0.mk (hbox)
                      have n7_ := Aside0.mk ((by rw [hg]; exact (below_size (by repeat (first | (with_reducible first | exact HB.out | apply below_alloc | apply pw_below_drewN | apply below_drew1 | refine below_set ?_ (IsS84.ge HI137.out) | refine below_set ?_ GE150.out | refine below_set ?_ GE151.out | refine below_set ?_ GE165.out) | exact HB.out))) : w.heap.size ≤ gb164))
                      have n8_ := Aside0.mk ((by rw [hg]; exact (below_size (by repeat (first | (with_reducible first | exact HB.out | apply below_alloc | apply pw_below_drewN | apply below_drew1 | refine below_set ?_ (IsS84.ge HI137.out) | refine below_set ?_ GE150.out | refine below_set ?_ GE151.out | refine below_set ?_ GE165.out) | exact HB.out))) : w.heap.size ≤ gb164))
                      have n9_ := Aside0.mk ((by rw [hg]; exact Nat.ne_of_lt (blk_lt (g := gb150) (o := .cells #[.int .i64 t146, .int .i64 t147] 39 (0, 0)) (by (with_reducible repeat (first | refine blk_drewN ?_ _ | refine blk_drew ?_ | refine blk_alloc ?_ _)); exact BK150.out)) : gb150 ≠ gb164))
                      have n10_ := Aside0.mk ((by rw [hg]; exact Nat.ne_of_gt (blk_lt (g := gb150) (o := .cells #[.int .i64 t146, .int .i64 t147] 39 (0, 0)) (by (with_reducible repeat (first | refine blk_drewN ?_ _ | refine blk_drew ?_ | refine blk_alloc ?_ _)); exact BK150.out)) : gb164 ≠ gb150))
                      have n11_ := Aside0.mk ((by rw [hg]; exact Nat.ne_of_lt (blk_lt (g := gb151) (o := .cells #[.int .i64 t148, .int .i64 t149] 39 (0, 0)) (by (with_reducible repeat (first | refine blk_drewN ?_ _ | refine blk_drew ?_ | refine blk_alloc ?_ _)); exact BK151.out)) : gb151 ≠ gb164))
                      have n12_ := Aside0.mk ((by rw [hg]; exact Nat.ne_of_gt (blk_lt (g := gb151) (o := .cells #[.int .i64 t148, .int .i64 t149] 39 (0, 0)) (by (with_reducible repeat (first | refine blk_drewN ?_ _ | refine blk_drew ?_ | refine blk_alloc ?_ _)); exact BK151.out)) : gb164 ≠ gb151))
                      have n13_ := Aside0.mk ((by rw [hg]; exact Nat.ne_of_lt (blk_lt (g := gb165) (o := .cells #[.int .i64 0, .int .i64 0] 39 (0, 0)) (by (with_reducible repeat (first | refine blk_drewN ?_ _ | refine blk_drew ?_ | refine blk_alloc ?_ _)); exact BK165.out)) : gb165 ≠ gb164))
                      have n14_ := Aside0.mk ((by rw [hg]; exact Nat.ne_of_gt (blk_lt (g := gb165) (o := .cells #[.int .i64 0, .int .i64 0] 39 (0, 0)) (by (with_reducible repeat (first | refine blk_drewN ?_ _ | refine blk_drew ?_ | refine blk_alloc ?_ _)); exact BK165.out)) : gb164 ≠ gb165))
                      have n15_ := Aside0.mk ((by rw [hg]; exact Nat.ne_of_lt (IsS84.lt (show IsS84 w _ g137 t135 t145 from by repeat (first | (with_reducible first | exact HI137.out | apply IsS84.alloc | apply IsS84.drewN | apply IsS84.drew | apply IsS84.set_1 | refine IsS84.far ?_ NB137_150.out _ | refine IsS84.far ?_ NB137_151.out _ | refine IsS84.far ?_ NB137_165.out _) | exact HI137.out))) : g137 ≠ gb164))
                      have n16_ := Aside0.mk ((by rw [hg]; exact Nat.ne_of_gt (IsS84.lt (show IsS84 w _ g137 t135 t145 from by repeat (first | (with_reducible first | exact HI137.out | apply IsS84.alloc | apply IsS84.drewN | apply IsS84.drew | apply IsS84.set_1 | refine IsS84.far ?_ NB137_150.out _ | refine IsS84.far ?_ NB137_151.out _ | refine IsS84.far ?_ NB137_165.out _) | exact HI137.out))) : gb164 ≠ g137))
                      clear HO140
                      clear HI137
                      clear BK150
                      clear BK151
                      clear BK165
                      clear HB
                      have HO140 := n0_
                      have HI137 := n1_
                      have BK150 := n2_
                      have BK151 := n3_
                      have BK165 := n4_
                      have HB := n5_
                      have BK164 := n6_
                      have GW164 := n7_
                      have GE164 := n8_
                      have NB150_164 := n9_
                      have NB164_150 := n10_
                      have NB151_164 := n11_
                      have NB164_151 := n12_
                      have NB165_164 := n13_
                      have NB164_165 := n14_
                      have NB137_164 := n15_
                      have NB164_137 := n16_
                      clear n0_ n1_ n2_ n3_ n4_ n5_ n6_ n7_ n8_ n9_ n10_ n11_ n12_ n13_ n14_ n15_ n16_
                      clear hb hbox hg
                      refine hK.out _ _ trivial (fun hHeld => ?_)
                      clear hK K
                      refine norm_ (a' := ?_) ?_ ?_
                      rotate_left
                      · show Act.put _ (some 12) _ = _
                        simp only [Act.put, List.setIfInBounds_toArray, List.set_cons_zero, List.set_cons_succ, i64_w, i32_w]
                        rfl
                      exact norm_ (by first | (simp only [putAll, Act.put, List.setIfInBounds_toArray, List.set_cons_zero, List.set_cons_succ]; done) | (simp only [putAll, Act.put, List.setIfInBounds_toArray, List.set_cons_zero, List.set_cons_succ]; rfl)) (hJ5_11_12_13 (gb164, gb165) _ ⟨(by (with_reducible repeat (first | apply Kd.R_alloc | apply Kd.R_drewN | apply Kd.R_drew)); exact HO140.out), (by (with_reducible repeat (first | refine blk_drewN ?_ _ | refine blk_drew ?_ | refine blk_alloc ?_ _)); exact BK150.out), (by (with_reducible repeat (first | refine blk_drewN ?_ _ | refine blk_drew ?_ | refine blk_alloc ?_ _)); exact BK151.out), (by (with_reducible repeat (first | refine blk_drewN ?_ _ | refine blk_drew ?_ | refine blk_alloc ?_ _)); exact BK164.out), (by (with_reducible repeat (first | refine blk_drewN ?_ _ | refine blk_drew ?_ | refine blk_alloc ?_ _)); exact BK165.out), GW164.out, GE164.out, NB137_164.out, NB164_137.out, NB150_164.out, NB164_150.out, NB151_164.out, NB164_151.out, NB165_164.out, NB164_165.out, GW165.out, GE165.out, NB137_165.out, NB165_137.out, NB150_165.out, NB165_150.out, NB151_165.out, NB165_151.out, (by repeat (first | (with_reducible first | exact HI137.out | apply IsS84.alloc | apply IsS84.drewN | apply IsS84.drew | apply IsS84.set_1 | refine IsS84.far ?_ NB137_150.out _ | refine IsS84.far ?_ NB137_151.out _ | refine IsS84.far ?_ NB137_165.out _ | refine IsS84.far ?_ NB137_164.out _) | exact HI137.out)), (by repeat (first | (with_reducible first | exact HB.out | apply below_alloc | apply pw_below_drewN | apply below_drew1 | refine below_set ?_ (IsS84.ge HI137.out) | refine below_set ?_ GE150.out | refine below_set ?_ GE151.out | refine below_set ?_ GE165.out | refine below_set ?_ GE164.out) | exact HB.out))⟩)
                  · skip
                    rintro gb164 w44 ⟨h0_, h1_, h2_, h3_, h4_, h5_, h6_, h7_, h8_, h9_, h10_, h11_, h12_, h13_⟩
                    have n0_ : Aside0 (Kd.R k44 44 w44 w.heap.size (fun _ => True) (.slice Ao27 t138.length co27) t138) := ⟨h0_⟩
                    have n1_ : Aside0 (w44.heap[gb150]? = some (.cells #[.int .i64 t146, .int .i64 t147] 39 (0, 0))) := ⟨h1_⟩
                    have n2_ : Aside0 (w44.heap[gb151]? = some (.cells #[.int .i64 t148, .int .i64 t149] 39 (0, 0))) := ⟨h2_⟩
                    have n3_ : Aside0 (w44.heap[gb164]? = some (.cells #[.int .i64 0, .int .i64 0] 39 (0, 0))) := ⟨h3_⟩
                    have n4_ : Aside0 (w.heap.size ≤ gb164) := ⟨h4_⟩
                    have n5_ : Aside0 (w.heap.size ≤ gb164) := ⟨h5_⟩
                    have n6_ : Aside0 (g137 ≠ gb164) := ⟨h6_⟩
                    have n7_ : Aside0 (gb164 ≠ g137) := ⟨h7_⟩
                    have n8_ : Aside0 (gb150 ≠ gb164) := ⟨h8_⟩
                    have n9_ : Aside0 (gb164 ≠ gb150) := ⟨h9_⟩
                    have n10_ : Aside0 (gb151 ≠ gb164) := ⟨h10_⟩
                    have n11_ : Aside0 (gb164 ≠ gb151) := ⟨h11_⟩
                    have n12_ : Aside0 (IsS84 w w44 g137 t135 t145) := ⟨h12_⟩
                    have n13_ : Aside0 (Below w.heap.size w w44) := ⟨h13_⟩
                    clear HO140
                    clear BK150
                    clear BK151
                    clear HI137
                    clear HB
                    clear h0_ h1_ h2_ h3_ h4_ h5_ h6_ h7_ h8_ h9_ h10_ h11_ h12_ h13_
                    have HO140 := n0_
                    have BK150 := n1_
                    have BK151 := n2_
                    have BK164 := n3_
                    have GW164 := n4_
                    have GE164 := n5_
                    have NB137_164 := n6_
                    have NB164_137 := n7_
                    have NB150_164 := n8_
                    have NB164_150 := n9_
                    have NB151_164 := n10_
                    have NB164_151 := n11_
                    have HI137 := n12_
                    have HB := n13_
                    clear n0_ n1_ n2_ n3_ n4_ n5_ n6_ n7_ n8_ n9_ n10_ n11_ n12_ n13_
                    have hHeld := trivial
                    refine norm_ (a' := ?_) ?_ ?_
                    rotate_left
                    · simp only [putAll, Act.put, List.setIfInBounds_toArray, List.set_cons_zero, List.set_cons_succ]
                      rfl
                    refine one_ (i := 13) (N := some 13) #[true, true, true, true, true, true, true, true, true, true, true, true, true, true, false, false] rfl rfl (one_of HT_.out (by kernel_rfl)) (by decide) (fun K hK => ?_)
                    refine box_step ?hg (N := 13) ?hd (cs := #[.int .i64 0, .int .i64 0]) (t := 39) ?hr ?_; (case hd => rfl); (case hg => rfl); (case hr => first | (go_simp; done) | (go_simp; rfl))
                    intro gb165 hg w45 hbox hb
                    have n0_ := Aside0.mk (Kd.R_below (by (with_reducible repeat (first | apply Kd.R_alloc | apply Kd.R_drewN | apply Kd.R_drew)); exact HO140.out) hb)
                    have n1_ := Aside0.mk (IsS84.below (by repeat (first | (with_reducible first | exact HI137.out | apply IsS84.alloc | apply IsS84.drewN | apply IsS84.drew | apply IsS84.set_1 | refine IsS84.far ?_ NB137_150.out _ | refine IsS84.far ?_ NB137_151.out _ | refine IsS84.far ?_ NB137_164.out _) | exact HI137.out)) hb)
                    have n2_ := Aside0.mk (blk_below (g := gb150) (o := .cells #[.int .i64 t146, .int .i64 t147] 39 (0, 0)) (by (with_reducible repeat (first | refine blk_drewN ?_ _ | refine blk_drew ?_ | refine blk_alloc ?_ _)); exact BK150.out) hb)
                    have n3_ := Aside0.mk (blk_below (g := gb151) (o := .cells #[.int .i64 t148, .int .i64 t149] 39 (0, 0)) (by (with_reducible repeat (first | refine blk_drewN ?_ _ | refine blk_drew ?_ | refine blk_alloc ?_ _)); exact BK151.out) hb)
                    have n4_ := Aside0.mk (blk_below (g := gb164) (o := .cells #[.int .i64 0, .int .i64 0] 39 (0, 0)) (by (with_reducible repeat (first | refine blk_drewN ?_ _ | refine blk_drew ?_ | refine blk_alloc ?_ _)); exact BK164.out) hb)
                    have n5_ := Aside0.mk (below_step (by repeat (first | (with_reducible first | exact HB.out | apply below_alloc | apply pw_below_drewN | apply below_drew1 | refine below_set ?_ (IsS84.ge HI137.out) | refine below_set ?_ GE150.out | refine below_set ?_ GE151.out | refine below_set ?_ GE164.out) | exact HB.out)) hb)
                    have n6_ := Aside0.mk (hbox)
                    have n7_ := Aside0.mk ((by rw [hg]; exact (below_size (by repeat (first | (with_reducible first | exact HB.out | apply below_alloc | apply pw_below_drewN | apply below_drew1 | refine below_set ?_ (IsS84.ge HI137.out) | refine below_set ?_ GE150.out | refine below_set ?_ GE151.out | refine below_set ?_ GE164.out) | exact HB.out))) : w.heap.size ≤ gb165))
                    have n8_ := Aside0.mk ((by rw [hg]; exact (below_size (by repeat (first | (with_reducible first | exact HB.out | apply below_alloc | apply pw_below_drewN | apply below_drew1 | refine below_set ?_ (IsS84.ge HI137.out) | refine below_set ?_ GE150.out | refine below_set ?_ GE151.out | refine below_set ?_ GE164.out) | exact HB.out))) : w.heap.size ≤ gb165))
                    have n9_ := Aside0.mk ((by rw [hg]; exact Nat.ne_of_lt (blk_lt (g := gb150) (o := .cells #[.int .i64 t146, .int .i64 t147] 39 (0, 0)) (by (with_reducible repeat (first | refine blk_drewN ?_ _ | refine blk_drew ?_ | refine blk_alloc ?_ _)); exact BK150.out)) : gb150 ≠ gb165))
                    have n10_ := Aside0.mk ((by rw [hg]; exact Nat.ne_of_gt (blk_lt (g := gb150) (o := .cells #[.int .i64 t146, .int .i64 t147] 39 (0, 0)) (by (with_reducible repeat (first | refine blk_drewN ?_ _ | refine blk_drew ?_ | refine blk_alloc ?_ _)); exact BK150.out)) : gb165 ≠ gb150))
                    have n11_ := Aside0.mk ((by rw [hg]; exact Nat.ne_of_lt (blk_lt (g := gb151) (o := .cells #[.int .i64 t148, .int .i64 t149] 39 (0, 0)) (by (with_reducible repeat (first | refine blk_drewN ?_ _ | refine blk_drew ?_ | refine blk_alloc ?_ _)); exact BK151.out)) : gb151 ≠ gb165))
                    have n12_ := Aside0.mk ((by rw [hg]; exact Nat.ne_of_gt (blk_lt (g := gb151) (o := .cells #[.int .i64 t148, .int .i64 t149] 39 (0, 0)) (by (with_reducible repeat (first | refine blk_drewN ?_ _ | refine blk_drew ?_ | refine blk_alloc ?_ _)); exact BK151.out)) : gb165 ≠ gb151))
                    have n13_ := Aside0.mk ((by rw [hg]; exact Nat.ne_of_lt (blk_lt (g := gb164) (o := .cells #[.int .i64 0, .int .i64 0] 39 (0, 0)) (by (with_reducible repeat (first | refine blk_drewN ?_ _ | refine blk_drew ?_ | refine blk_alloc ?_ _)); exact BK164.out)) : gb164 ≠ gb165))
                    have n14_ := Aside0.mk ((by rw [hg]; exact Nat.ne_of_gt (blk_lt (g := gb164) (o := .cells #[.int .i64 0, .int .i64 0] 39 (0, 0)) (by (with_reducible repeat (first | refine blk_drewN ?_ _ | refine blk_drew ?_ | refine blk_alloc ?_ _)); exact BK164.out)) : gb165 ≠ gb164))
                    have n15_ := Aside0.mk ((by rw [hg]; exact Nat.ne_of_lt (IsS84.lt (show IsS84 w _ g137 t135 t145 from by repeat (first | (with_reducible first | exact HI137.out | apply IsS84.alloc | apply IsS84.drewN | apply IsS84.drew | apply IsS84.set_1 | refine IsS84.far ?_ NB137_150.out _ | refine IsS84.far ?_ NB137_151.out _ | refine IsS84.far ?_ NB137_164.out _) | exact HI137.out))) : g137 ≠ gb165))
                    have n16_ := Aside0.mk ((by rw [hg]; exact Nat.ne_of_gt (IsS84.lt (show IsS84 w _ g137 t135 t145 from by repeat (first | (with_reducible first | exact HI137.out | apply IsS84.alloc | apply IsS84.drewN | apply IsS84.drew | apply IsS84.set_1 | refine IsS84.far ?_ NB137_150.out _ | refine IsS84.far ?_ NB137_151.out _ | refine IsS84.far ?_ NB137_164.out _) | exact HI137.out))) : gb165 ≠ g137))
                    clear HO140
                    clear HI137
                    clear BK150
                    clear BK151
                    clear BK164
                    clear HB
                    have HO140 := n0_
                    have HI137 := n1_
                    have BK150 := n2_
                    have BK151 := n3_
                    have BK164 := n4_
                    have HB := n5_
                    have BK165 := n6_
                    have GW165 := n7_
                    have GE165 := n8_
                    have NB150_165 := n9_
                    have NB165_150 := n10_
                    have NB151_165 := n11_
                    have NB165_151 := n12_
                    have NB164_165 := n13_
                    have NB165_164 := n14_
                    have NB137_165 := n15_
                    have NB165_137 := n16_
                    clear n0_ n1_ n2_ n3_ n4_ n5_ n6_ n7_ n8_ n9_ n10_ n11_ n12_ n13_ n14_ n15_ n16_
                    clear hb hbox hg
                    refine hK.out _ _ trivial (fun hHeld => ?_)
                    clear hK K
                    refine norm_ (a' := ?_) ?_ ?_
                    rotate_left
                    · show Act.put _ (some 13) _ = _
                      simp only [Act.put, List.setIfInBounds_toArray, List.set_cons_zero, List.set_cons_succ, i64_w, i32_w]
                      rfl
                    exact norm_ (by first | (simp only [putAll, Act.put, List.setIfInBounds_toArray, List.set_cons_zero, List.set_cons_succ]; done) | (simp only [putAll, Act.put, List.setIfInBounds_toArray, List.set_cons_zero, List.set_cons_succ]; rfl)) (hJ5_11_12_13 (gb164, gb165) _ ⟨(by (with_reducible repeat (first | apply Kd.R_alloc | apply Kd.R_drewN | apply Kd.R_drew)); exact HO140.out), (by (with_reducible repeat (first | refine blk_drewN ?_ _ | refine blk_drew ?_ | refine blk_alloc ?_ _)); exact BK150.out), (by (with_reducible repeat (first | refine blk_drewN ?_ _ | refine blk_drew ?_ | refine blk_alloc ?_ _)); exact BK151.out), (by (with_reducible repeat (first | refine blk_drewN ?_ _ | refine blk_drew ?_ | refine blk_alloc ?_ _)); exact BK164.out), (by (with_reducible repeat (first | refine blk_drewN ?_ _ | refine blk_drew ?_ | refine blk_alloc ?_ _)); exact BK165.out), GW164.out, GE164.out, NB137_164.out, NB164_137.out, NB150_164.out, NB164_150.out, NB151_164.out, NB164_151.out, NB165_164.out, NB164_165.out, GW165.out, GE165.out, NB137_165.out, NB165_137.out, NB150_165.out, NB165_150.out, NB151_165.out, NB165_151.out, (by repeat (first | (with_reducible first | exact HI137.out | apply IsS84.alloc | apply IsS84.drewN | apply IsS84.drew | apply IsS84.set_1 | refine IsS84.far ?_ NB137_150.out _ | refine IsS84.far ?_ NB137_151.out _ | refine IsS84.far ?_ NB137_164.out _ | refine IsS84.far ?_ NB137_165.out _) | exact HI137.out)), (by repeat (first | (with_reducible first | exact HB.out | apply below_alloc | apply pw_below_drewN | apply below_drew1 | refine below_set ?_ (IsS84.ge HI137.out) | refine below_set ?_ GE150.out | refine below_set ?_ GE151.out | refine below_set ?_ GE164.out | refine below_set ?_ GE165.out) | exact HB.out))⟩)
                rintro ⟨gb164, gb165⟩ w45 ⟨h0_, h1_, h2_, h3_, h4_, h5_, h6_, h7_, h8_, h9_, h10_, h11_, h12_, h13_, h14_, h15_, h16_, h17_, h18_, h19_, h20_, h21_, h22_, h23_, h24_⟩
                have n0_ : Aside0 (Kd.R k44 44 w45 w.heap.size (fun _ => True) (.slice Ao27 t138.length co27) t138) := ⟨h0_⟩
                have n1_ : Aside0 (w45.heap[gb150]? = some (.cells #[.int .i64 t146, .int .i64 t147] 39 (0, 0))) := ⟨h1_⟩
                have n2_ : Aside0 (w45.heap[gb151]? = some (.cells #[.int .i64 t148, .int .i64 t149] 39 (0, 0))) := ⟨h2_⟩
                have n3_ : Aside0 (w45.heap[gb164]? = some (.cells #[.int .i64 0, .int .i64 0] 39 (0, 0))) := ⟨h3_⟩
                have n4_ : Aside0 (w45.heap[gb165]? = some (.cells #[.int .i64 0, .int .i64 0] 39 (0, 0))) := ⟨h4_⟩
                have n5_ : Aside0 (w.heap.size ≤ gb164) := ⟨h5_⟩
                have n6_ : Aside0 (w.heap.size ≤ gb164) := ⟨h6_⟩
                have n7_ : Aside0 (g137 ≠ gb164) := ⟨h7_⟩
                have n8_ : Aside0 (gb164 ≠ g137) := ⟨h8_⟩
                have n9_ : Aside0 (gb150 ≠ gb164) := ⟨h9_⟩
                have n10_ : Aside0 (gb164 ≠ gb150) := ⟨h10_⟩
                have n11_ : Aside0 (gb151 ≠ gb164) := ⟨h11_⟩
                have n12_ : Aside0 (gb164 ≠ gb151) := ⟨h12_⟩
                have n13_ : Aside0 (gb165 ≠ gb164) := ⟨h13_⟩
                have n14_ : Aside0 (gb164 ≠ gb165) := ⟨h14_⟩
                have n15_ : Aside0 (w.heap.size ≤ gb165) := ⟨h15_⟩
                have n16_ : Aside0 (w.heap.size ≤ gb165) := ⟨h16_⟩
                have n17_ : Aside0 (g137 ≠ gb165) := ⟨h17_⟩
                have n18_ : Aside0 (gb165 ≠ g137) := ⟨h18_⟩
                have n19_ : Aside0 (gb150 ≠ gb165) := ⟨h19_⟩
                have n20_ : Aside0 (gb165 ≠ gb150) := ⟨h20_⟩
                have n21_ : Aside0 (gb151 ≠ gb165) := ⟨h21_⟩
                have n22_ : Aside0 (gb165 ≠ gb151) := ⟨h22_⟩
                have n23_ : Aside0 (IsS84 w w45 g137 t135 t145) := ⟨h23_⟩
                have n24_ : Aside0 (Below w.heap.size w w45) := ⟨h24_⟩
                clear HO140
                clear BK150
                clear BK151
                clear HI137
                clear HB
                clear h0_ h1_ h2_ h3_ h4_ h5_ h6_ h7_ h8_ h9_ h10_ h11_ h12_ h13_ h14_ h15_ h16_ h17_ h18_ h19_ h20_ h21_ h22_ h23_ h24_
                have HO140 := n0_
                have BK150 := n1_
                have BK151 := n2_
                have BK164 := n3_
                have BK165 := n4_
                have GW164 := n5_
                have GE164 := n6_
                have NB137_164 := n7_
                have NB164_137 := n8_
                have NB150_164 := n9_
                have NB164_150 := n10_
                have NB151_164 := n11_
                have NB164_151 := n12_
                have NB165_164 := n13_
                have NB164_165 := n14_
                have GW165 := n15_
                have GE165 := n16_
                have NB137_165 := n17_
                have NB165_137 := n18_
                have NB150_165 := n19_
                have NB165_150 := n20_
                have NB151_165 := n21_
                have NB165_151 := n22_
                have HI137 := n23_
                have HB := n24_
                clear n0_ n1_ n2_ n3_ n4_ n5_ n6_ n7_ n8_ n9_ n10_ n11_ n12_ n13_ n14_ n15_ n16_ n17_ n18_ n19_ n20_ n21_ n22_ n23_ n24_
                have hHeld := trivial
                refine norm_ (a' := ?_) ?_ ?_
                rotate_left
                · simp only [putAll, Act.put, List.setIfInBounds_toArray, List.set_cons_zero, List.set_cons_succ]
                  rfl
                refine one_ (i := 14) (N := none) #[true, true, true, true, true, true, true, true, true, true, true, true, true, true, true, false] rfl rfl (one_of HT_.out (by kernel_rfl)) (by decide) (fun K hK => ?_)
                have hs46 : w45.cell? ⟨gb164, 0, none⟩ = some (.int .i64 0) := (blk_cell BK164.out 0).trans rfl
                have hfs46 := blk_frozen BK164.out 0
                have hns46_0 := NB150_164.out
                have hns46_1 := NB151_164.out
                have hns46_3 := NB165_164.out
                have hms46_0 := NB164_150.out
                have hms46_1 := NB164_151.out
                have hms46_3 := NB164_165.out
                have hs47 : w45.cell? ⟨gb164, 1, none⟩ = some (.int .i64 0) := (blk_cell BK164.out 1).trans rfl
                have hfs47 := blk_frozen BK164.out 1
                have hns47_0 := NB150_164.out
                have hns47_1 := NB151_164.out
                have hns47_3 := NB165_164.out
                have hms47_0 := NB164_150.out
                have hms47_1 := NB164_151.out
                have hms47_3 := NB164_165.out
                refine skip_ (w1 := ?_) (by rfl) rfl ?_ ?_
                rotate_left
                · go_simp
                  rfl
                refine hK.out _ _ trivial (fun hHeld => ?_)
                clear hK K
                refine one_ (i := 15) (N := none) #[true, true, true, true, true, true, true, true, true, true, true, true, true, true, true, true] rfl rfl (one_of HT_.out (by kernel_rfl)) (by decide) (fun K hK => ?_)
                have hs48 : w45.cell? ⟨gb165, 0, none⟩ = some (.int .i64 0) := (blk_cell BK165.out 0).trans rfl
                have hfs48 := blk_frozen BK165.out 0
                have hns48_0 := NB150_165.out
                have hns48_1 := NB151_165.out
                have hns48_2 := NB164_165.out
                have hms48_0 := NB165_150.out
                have hms48_1 := NB165_151.out
                have hms48_2 := NB165_164.out
                have hs49 : w45.cell? ⟨gb165, 1, none⟩ = some (.int .i64 0) := (blk_cell BK165.out 1).trans rfl
                have hfs49 := blk_frozen BK165.out 1
                have hns49_0 := NB150_165.out
                have hns49_1 := NB151_165.out
                have hns49_2 := NB164_165.out
                have hms49_0 := NB165_150.out
                have hms49_1 := NB165_151.out
                have hms49_2 := NB165_164.out
                refine skip_ (w1 := ?_) (by rfl) rfl ?_ ?_
                rotate_left
                · go_simp
                  rfl
                refine hK.out _ _ trivial (fun hHeld => ?_)
                clear hK K
                refine done_ (done_of HT_.out (by kernel_rfl)) ?_
                have hnb50 := NB150_164.out
                have hnc50 := NB164_150.out
                have hnb51 := NB150_165.out
                have hnc51 := NB165_150.out
                have hcz52_0 : w45.cell? ⟨gb150, 0, none⟩ = some (.int .i64 t146) := (blk_cell BK150.out 0).trans rfl
                have hcz52_1 : w45.cell? ⟨gb150, 1, none⟩ = some (.int .i64 t147) := (blk_cell BK150.out 1).trans rfl
                have hfz52_0 := blk_frozen BK150.out 0
                have hfz52_1 := blk_frozen BK150.out 1
                have hnb53 := NB151_164.out
                have hnc53 := NB164_151.out
                have hnb54 := NB151_165.out
                have hnc54 := NB165_151.out
                have hcz55_0 : w45.cell? ⟨gb151, 0, none⟩ = some (.int .i64 t148) := (blk_cell BK151.out 0).trans rfl
                have hcz55_1 : w45.cell? ⟨gb151, 1, none⟩ = some (.int .i64 t149) := (blk_cell BK151.out 1).trans rfl
                have hfz55_0 := blk_frozen BK151.out 0
                have hfz55_1 := blk_frozen BK151.out 1
                have hnb56 := NB164_165.out
                have hnc56 := NB165_164.out
                have hnb57 := NB164_137.out
                have hnc57 := NB137_164.out
                have hcz58_0 : w45.cell? ⟨gb164, 0, none⟩ = some (.int .i64 0) := (blk_cell BK164.out 0).trans rfl
                have hcz58_1 : w45.cell? ⟨gb164, 1, none⟩ = some (.int .i64 0) := (blk_cell BK164.out 1).trans rfl
                have hfz58_0 := blk_frozen BK164.out 0
                have hfz58_1 := blk_frozen BK164.out 1
                have hnb59 := NB165_137.out
                have hnc59 := NB137_165.out
                have hcz60_0 : w45.cell? ⟨gb165, 0, none⟩ = some (.int .i64 0) := (blk_cell BK165.out 0).trans rfl
                have hcz60_1 : w45.cell? ⟨gb165, 1, none⟩ = some (.int .i64 0) := (blk_cell BK165.out 1).trans rfl
                have hfz60_0 := blk_frozen BK165.out 0
                have hfz60_1 := blk_frozen BK165.out 1
                try go_wp2
                go_ret
                exact ⟨by first | rfl | (simp [errW_none, errW_some] <;> rfl) | (simp only [← hji12]; first | rfl | (simp [errW_none, errW_some] <;> rfl)) | (simp [*, errW_none, errW_some] <;> rfl), by repeat (first | (with_reducible first | exact HB.out | apply below_alloc | apply pw_below_drewN | apply below_drew1 | refine below_set ?_ (IsS84.ge HI137.out) | refine below_set ?_ GE150.out | refine below_set ?_ GE151.out | refine below_set ?_ GE164.out | refine below_set ?_ GE165.out) | exact HB.out)⟩
              · rw [if_neg c21] at H
                have c21b0 : (t146 == (wrap64 (t156 + t162))) = false := beq_eq_false_iff_ne.mpr c21
                have c21b1 : (t146 != (wrap64 (t156 + t162))) = true := bne_iff_ne.mpr c21
                exact absurd (Option.some.inj H) (by rw [HRT_.out]; decide)
            · rw [if_neg c20] at H
              have c20b0 : (t147 == t148) = false := beq_eq_false_iff_ne.mpr c20
              have c20b1 : (t147 != t148) = true := bne_iff_ne.mpr c20
              exact absurd (Option.some.inj H) (by rw [HRT_.out]; decide)
          · rw [if_neg c19] at H
            have c19b0 : (t146 == t149) = false := beq_eq_false_iff_ne.mpr c19
            have c19b1 : (t146 != t149) = true := bne_iff_ne.mpr c19
            exact absurd (Option.some.inj H) (by rw [HRT_.out]; decide)
        · rw [if_neg c14] at H
          exact absurd H (by simp)
      · rw [if_neg c13] at H
        exact absurd H (by simp)
  · replace c4 := Bool.eq_false_iff.mpr c4
    subst c4
    have H1 : (some false) = some r := by rw [if_neg (show ¬ (false = true) by decide)] at H; exact H
    clear H
    have H := H1
    clear H1
    exact absurd (Option.some.inj H) (by rw [HRT_.out]; decide)

/-- THE ONE PURE STATEMENT of storagebarterlaw26_EndingRoom: yours. -/
def storagebarterlaw26_EndingRoom.Pure : Prop := ∀ (l0 : List Int) (a1 : Int), l0.length ≤ maxLen → l0.length * 1 ≤ 140737488351232 → (∀ x ∈ l0, (Lit.int .u8 x).wf = true) → (Lit.int .u8 a1).wf = true → ∃ k, storagebarterlaw26_EndingRoom.f k l0 a1 = some true
theorem storagebarterlaw26_EndingRoom.walk (P : storagebarterlaw26_EndingRoom.Pure) (a0 : Option Addr) (len0 cap0 : Nat) (z0 : List Int) (a1 : Int) (w : World) (w0 : (a0 = none ∧ len0 = 0 ∧ cap0 = 0 ∧ z0 = []) ∨ ∃ x, a0 = some x ∧ len0 ≤ cap0 ∧ cap0 ≤ maxLen ∧ z0.length = cap0 ∧ (∀ i, i < z0.length → w.cell? (x.add i) = some (.int .u8 (z0.getD i 0))) ∧ ∀ n ∈ z0, (Lit.int .u8 n).wf = true) (y0 : len0 * 1 ≤ 140737488351232) (w1 : (Lit.int .u8 a1).wf = true) :
    Calls Try.prog 4 #[.slice a0 len0 cap0, .int .u8 a1] w fun e w' => e = .returned (.bool true) ∧ Below w.heap.size w w' := by
  obtain ⟨l0, rfl, hr0, hm0, hw0, hc0⟩ := ReadsInt.ofRowC w0
  obtain ⟨k, h⟩ := P l0 a1 hm0 y0 hw0 w1
  refine (storagebarterlaw26_EndingRoom.calls k _ _ l0 a1 true w (Kd.C_of_reads (d := (0 : Int)) (h1 := fun _ => rfl) hr0) hc0 h rfl).mono ?_
  rintro e w' ⟨rfl, hd⟩
  exact ⟨rfl, hd⟩

end Go.Proofs.Ytepffabkcbfejaa.PEndingRoom
