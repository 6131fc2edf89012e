-- Written by a program of this repository (wip/tools/myprint.py over the print of the kit): contracts and rows.
import Derived.Test.YtgckkjgemkabnaaDoorPSlotWalksx0
import Derived.Test.YtgckkjgemkabnaaDoorPSlotWalksx4
import Derived.Test.YtgckkjgemkabnaaDoorPSlotWalksx5
namespace Go.Proofs.YtgckkjgemkabnaaDoor.PSlotWalks
open Go.RowKit Go.Proofs.YtgckkjgemkabnaaDoorW.PrintWords Go.Proofs.YtgckkjgemkabnaaDoorW.PrintLast Go.Proofs.YtgckkjgemkabnaaDoorW.PrintMore
attribute [local go_sem] max2_int min2_int max_two min_two max_three min_three max_four min_four   -- for this text's walks alone
set_option linter.unusedVariables false
set_option linter.unusedSimpArgs false

/-! ### slot_New: function 36 -/
set_option maxHeartbeats 4000000 in
set_option maxRecDepth 100000 in
theorem slotfn_New (p q st te : Int) (A : Option Addr) (c : Nat) (l : List Int) (hl : l.length < 17592186044416) (kk : Nat) (hv : duty_Valid.f kk p q st te l = some true) (w : World) (hr : Kd.C (Kd.int .i64) w A l.length l) (hc : l.length ≤ c) :
    Calls Tryd.prog 36 #[.agg #[.int .i64 p, .int .i64 q, .int .i64 st, .int .i64 te, .slice A l.length c]] w fun e w' => ∃ (B : Option Addr) (d : Nat), e = .returned (.tuple #[.agg #[.int .i64 p, .int .i64 q, .int .i64 st, .int .i64 te, .slice B l.length d, .int .i64 0, .int .i64 0, .int .i64 0, .bool false, .bool false, .bool false, .bool false, .bool false, .int .i64 0], .int .i64 0]) ∧ Kd.R (Kd.int .i64) 3 w' w.heap.size (fun _ => True) (.slice B l.length d) l ∧ Below w.heap.size w w' := by
  have hu := Tryd.underlying54
  have hu4 := Tryd.underlying26
  have HR := Aside0.mk hr
  have HV := Aside0.mk hv
  clear hr hv
  go_enter Tryd.func36, Tryd.ntmps36
  go_upto_region 1 with (fail)
  have q1 : ((w.alloc (.cells #[.int .i64 p, .int .i64 q, .int .i64 st, .int .i64 te, .slice A l.length c] 26)).alloc (.cells #[.int .i64 0, .int .i64 0, .int .i64 0, .int .i64 0, .slice none 0 0, .int .i64 0, .int .i64 0, .int .i64 0, .bool false, .bool false, .bool false, .bool false, .bool false, .int .i64 0] 54)).heap[w.heap.size]? = some (.cells #[.int .i64 p, .int .i64 q, .int .i64 st, .int .i64 te, .slice A l.length c] 26 (0, 0)) := blk_alloc (blk_new w _) _
  have q2 : ((w.alloc (.cells #[.int .i64 p, .int .i64 q, .int .i64 st, .int .i64 te, .slice A l.length c] 26)).alloc (.cells #[.int .i64 0, .int .i64 0, .int .i64 0, .int .i64 0, .slice none 0 0, .int .i64 0, .int .i64 0, .int .i64 0, .bool false, .bool false, .bool false, .bool false, .bool false, .int .i64 0] 54)).heap[w.heap.size + 1]? = some (.cells #[.int .i64 0, .int .i64 0, .int .i64 0, .int .i64 0, .slice none 0 0, .int .i64 0, .int .i64 0, .int .i64 0, .bool false, .bool false, .bool false, .bool false, .bool false, .int .i64 0] 54 (0, 0)) := by have := blk_new (w.alloc (.cells #[.int .i64 p, .int .i64 q, .int .i64 st, .int .i64 te, .slice A l.length c] 26)) (.cells #[.int .i64 0, .int .i64 0, .int .i64 0, .int .i64 0, .slice none 0 0, .int .i64 0, .int .i64 0, .int .i64 0, .bool false, .bool false, .bool false, .bool false, .bool false, .int .i64 0] 54); simpa using this
  have q3 : Below w.heap.size w ((w.alloc (.cells #[.int .i64 p, .int .i64 q, .int .i64 st, .int .i64 te, .slice A l.length c] 26)).alloc (.cells #[.int .i64 0, .int .i64 0, .int .i64 0, .int .i64 0, .slice none 0 0, .int .i64 0, .int .i64 0, .int .i64 0, .bool false, .bool false, .bool false, .bool false, .bool false, .int .i64 0] 54)) := below_alloc (below_alloc (Below.refl _ _) _) _
  have q4 := Kd.C_below HR.out q3
  have q7 : ((w.alloc (.cells #[.int .i64 p, .int .i64 q, .int .i64 st, .int .i64 te, .slice A l.length c] 26)).alloc (.cells #[.int .i64 0, .int .i64 0, .int .i64 0, .int .i64 0, .slice none 0 0, .int .i64 0, .int .i64 0, .int .i64 0, .bool false, .bool false, .bool false, .bool false, .bool false, .int .i64 0] 54)).heap.size = w.heap.size + 2 := by simp
  obtain ⟨ga, hga⟩ : ∃ ga, ga = w.heap.size := ⟨_, rfl⟩
  obtain ⟨gr, hgr⟩ : ∃ gr, gr = w.heap.size + 1 := ⟨_, rfl⟩
  generalize ((w.alloc (.cells #[.int .i64 p, .int .i64 q, .int .i64 st, .int .i64 te, .slice A l.length c] 26)).alloc (.cells #[.int .i64 0, .int .i64 0, .int .i64 0, .int .i64 0, .slice none 0 0, .int .i64 0, .int .i64 0, .int .i64 0, .bool false, .bool false, .bool false, .bool false, .bool false, .int .i64 0] 54)) = W2 at *
  rw [← hgr] at q2 ⊢
  rw [← hga] at q1 ⊢
  have x0 := blk_cell q1 0; have x1 := blk_cell q1 1; have x2 := blk_cell q1 2; have x3 := blk_cell q1 3; have x4 := blk_cell q1 4
  have n1 : gr ≠ ga := by omega
  have hge : w.heap.size ≤ ga := by omega
  have hge2 : w.heap.size ≤ gr := by omega
  have BS := Aside0.mk q1; have BR := Aside0.mk q2; have HB := Aside0.mk q3; have HC := Aside0.mk q4; have HSZ := Aside0.mk q7
  clear q1 q2 q3 q4 q7 hga hgr
  go_wp2_with fail
  refine (duty_Valid.calls kk p q st te A c l true _ HC.out hc HV.out).mono ?_
  rintro e w3 ⟨rfl, hb⟩
  have hz := hb.size
  replace BS := Aside0.mk ((hb.block ga (blk_lt BS.out)).trans BS.out); replace BR := Aside0.mk ((hb.block gr (blk_lt BR.out)).trans BR.out); replace HC := Aside0.mk (Kd.C_below HC.out hb); replace HB := Aside0.mk (below_step HB.out hb)
  have HSZ3 : Aside0 (w.heap.size ≤ w3.heap.size) := ⟨by have := HSZ.out; omega⟩
  clear hb hz x0 x1 x2 x3 x4
  have x4 := blk_cell BS.out 4
  go_wp2_with fail
  refine (ints_clone A c l hl _ HC.out hc).mono ?_
  rintro e w4 ⟨v0, rfl, ho, hb⟩
  obtain ⟨B, d, rfl⟩ := Kd.R_slice ho
  have BS3 := (hb.block ga (blk_lt BS.out)).trans BS.out
  have BR3 := (hb.block gr (blk_lt BR.out)).trans BR.out
  have HB3 := below_step HB.out hb
  have o1 : Kd.R (Kd.int .i64) 3 w4 w.heap.size (fun k => True) (.slice B l.length d) l := Kd.R_lower ho HSZ3.out
  have f4 := blk_frozen BS3 4; have y4 := blk_cell BS3 4
  have BS4 := Aside0.mk (blk_set BS3 4 (.slice B l.length d))
  have BR4 := Aside0.mk (blk_far BR3 (p := ⟨ga, 4, none⟩) n1 (.slice B l.length d))
  have HB4 := Aside0.mk (HB3.setCell (p := ⟨ga, 4, none⟩) hge (.slice B l.length d))
  have O1 := Aside0.mk (Kd.R_set o1 BS3 (by decide) 4 (.slice B l.length d))
  clear ho hb BS3 BR3 HB3 o1 x4
  go_upto_region 4 with (fail)
  clear y4 f4
  generalize w4.setCell ⟨ga, 4, none⟩ (.slice B l.length d) = W4 at *
  have x0 := blk_cell BS4.out 0; have x1 := blk_cell BS4.out 1; have x2 := blk_cell BS4.out 2; have x3 := blk_cell BS4.out 3; have x4 := blk_cell BS4.out 4
  have z0 := blk_cell BR4.out 0; have z1 := blk_cell BR4.out 1; have z2 := blk_cell BR4.out 2; have z3 := blk_cell BR4.out 3; have z4 := blk_cell BR4.out 4; have z5 := blk_cell BR4.out 5; have z6 := blk_cell BR4.out 6; have z7 := blk_cell BR4.out 7; have z8 := blk_cell BR4.out 8; have z9 := blk_cell BR4.out 9; have z10 := blk_cell BR4.out 10; have z11 := blk_cell BR4.out 11; have z12 := blk_cell BR4.out 12; have z13 := blk_cell BR4.out 13; have zf0 := blk_frozen BR4.out 0; have zf1 := blk_frozen BR4.out 1; have zf2 := blk_frozen BR4.out 2; have zf3 := blk_frozen BR4.out 3; have zf4 := blk_frozen BR4.out 4; have zf5 := blk_frozen BR4.out 5; have zf6 := blk_frozen BR4.out 6; have zf7 := blk_frozen BR4.out 7; have zf8 := blk_frozen BR4.out 8; have zf9 := blk_frozen BR4.out 9; have zf10 := blk_frozen BR4.out 10; have zf11 := blk_frozen BR4.out 11; have zf12 := blk_frozen BR4.out 12; have zf13 := blk_frozen BR4.out 13
  go_wp2
  refine bodyPost_ret (results_ct rfl _ _ gr 54 #[.int .i64 p, .int .i64 q, .int .i64 st, .int .i64 te, .slice B l.length d, .int .i64 0, .int .i64 0, .int .i64 0, .bool false, .bool false, .bool false, .bool false, .bool false, .int .i64 0] (0, 0) _ rfl (by exact zset14 BR4.out _ _ _ _ _ _ _ _ _ _ _ _ _ _) Tryd.underlying54 rfl (by kernel_rfl)) rfl ?_
  exact ⟨B, d, rfl, zset14_R O1.out (by decide) BR4.out _ _ _ _ _ _ _ _ _ _ _ _ _ _, zset14_B HB4.out hge2 _ _ _ _ _ _ _ _ _ _ _ _ _ _⟩

def slot_New.f (k : Nat) (a0_0 : Int) (a0_1 : Int) (a0_2 : Int) (a0_3 : Int) (l0_4 : List Int) : Option (Int × Int × Int × Int × (List Int) × Int × Int × Int × Bool × Bool × Bool × Bool × Bool × Int × Int) := if l0_4.length < 17592186044416 then (duty_Valid.f k a0_0 a0_1 a0_2 a0_3 l0_4).bind fun t => if t = true then some (a0_0, a0_1, a0_2, a0_3, l0_4, 0, 0, 0, false, false, false, false, false, 0, 0) else none else none
theorem slot_New.mono : ∀ a0 a1 a2 a3 a4 k, LeO (slot_New.f k a0 a1 a2 a3 a4) (slot_New.f (k + 1) a0 a1 a2 a3 a4) := by
  intro a0 a1 a2 a3 a4 k
  unfold slot_New.f
  exact LeO.ite (LeO.bind (duty_Valid.mono _ _ _ _ _ _) (fun _ => LeO.refl _)) (LeO.refl _)
theorem slot_New.calls (k : Nat) (a0_0 : Int) (a0_1 : Int) (a0_2 : Int) (a0_3 : Int) (A0_4 : Option Addr) (c0_4 : Nat) (l0_4 : List Int) (r1 : Int) (r2 : Int) (r3 : Int) (r4 : Int) (r5 : List Int) (r6 : Int) (r7 : Int) (r8 : Int) (r9 : Bool) (r10 : Bool) (r11 : Bool) (r12 : Bool) (r13 : Bool) (r14 : Int) (r15 : Int) (w : World) (hr0_4 : Kd.C (Kd.int .i64) w A0_4 l0_4.length l0_4) (hc0_4 : l0_4.length ≤ c0_4) (h : slot_New.f k a0_0 a0_1 a0_2 a0_3 l0_4 = some (r1, r2, r3, r4, r5, r6, r7, r8, r9, r10, r11, r12, r13, r14, r15)) :
    Calls Tryd.prog 36 #[.agg #[.int .i64 a0_0, .int .i64 a0_1, .int .i64 a0_2, .int .i64 a0_3, .slice A0_4 l0_4.length c0_4]] w fun e w' => ∃ v4_ : Value, e = .returned (.tuple #[.agg #[.int .i64 r1, .int .i64 r2, .int .i64 r3, .int .i64 r4, v4_, .int .i64 r6, .int .i64 r7, .int .i64 r8, .bool r9, .bool r10, .bool r11, .bool r12, .bool r13, .int .i64 r14], .int .i64 r15]) ∧ Kd.R (Kd.int .i64) 3 w' w.heap.size (fun _ => True) v4_ r5 ∧ Below w.heap.size w w' := by
  unfold slot_New.f at h
  split at h
  · rename_i hl
    obtain ⟨t, ht, h⟩ := Option.bind_eq_some_iff.mp h
    (try dsimp only at h)
    split at h
    · rename_i hv
      subst hv
      simp only [Option.some.injEq, Prod.mk.injEq] at h
      obtain ⟨rfl, rfl, rfl, rfl, rfl, rfl, rfl, rfl, rfl, rfl, rfl, rfl, rfl, rfl, rfl⟩ := h
      refine (slotfn_New a0_0 a0_1 a0_2 a0_3 A0_4 c0_4 l0_4 hl k ht w hr0_4 hc0_4).mono ?_
      rintro e w' ⟨B, d, rfl, ho, hb⟩
      exact ⟨_, rfl, ho, hb⟩
    · cases h
  · cases h


-- NOT PRINTED: function 59 (duty_Plan_1)

/-! ### slices_Index_int_int: function 83 -/
def slices_Index_int_int.l0 : Nat → List Int → Int → Int → Int → Option (Int)
  | 0, _, _, _, _ => none
  | k + 1, x0, x1, x7, x8 => if x8 < x7 then (if 0 ≤ x8 then (if x8 < (x0.length : Int) then (if x1 = (rd x0 x8) then (some x8) else (slices_Index_int_int.l0 k x0 x1 x7 (wrap64 (x8 + 1)))) else (none)) else (none)) else (some (-1))
def slices_Index_int_int.f (k : Nat) (l0 : List Int) (a1 : Int) : Option (Int) := slices_Index_int_int.l0 k l0 a1 (l0.length : Int) 0
theorem slices_Index_int_int.mono_l : ∀ k, (∀ y0 y1 y2 y3, LeO (slices_Index_int_int.l0 k y0 y1 y2 y3) (slices_Index_int_int.l0 (k + 1) y0 y1 y2 y3))
  | 0 => fun _ _ _ _ r h => by simp [slices_Index_int_int.l0] at h
  | k + 1 => by
    have ih0 := slices_Index_int_int.mono_l k
    · intro y0 y1 y2 y3
      unfold slices_Index_int_int.l0
      repeat' first
      | (with_reducible exact ih0 _ _ _ _)
      | (with_reducible exact LeO.refl _)
      | (with_reducible exact LeO.none _)
      | (with_reducible refine LeO.ite ?_ ?_)
      | (with_reducible refine LeO.bind ?_ (fun _ => ?_))
      | exact ih0 _ _ _ _
      | exact LeO.none _
      | refine LeO.ite ?_ ?_
      | refine LeO.bind ?_ (fun _ => ?_)
theorem slices_Index_int_int.mono : ∀ a0 a1 k, LeO (slices_Index_int_int.f k a0 a1) (slices_Index_int_int.f (k + 1) a0 a1) := by
  intro a0 a1 k
  have ih0 := slices_Index_int_int.mono_l k
  unfold slices_Index_int_int.f
  repeat' first
      | (with_reducible exact ih0 _ _ _ _)
      | (with_reducible exact LeO.refl _)
      | (with_reducible exact LeO.none _)
      | (with_reducible refine LeO.ite ?_ ?_)
      | (with_reducible refine LeO.bind ?_ (fun _ => ?_))
      | exact ih0 _ _ _ _
      | exact LeO.none _
      | refine LeO.ite ?_ ?_
      | refine LeO.bind ?_ (fun _ => ?_)
set_option maxHeartbeats 8000000 in
set_option maxRecDepth 100000 in
theorem slices_Index_int_int.calls (k : Nat) (A0 : Option Addr) (c0 : Nat) (l0 : List Int) (a1 : Int) (r : Int) (w : World) (hr0 : Kd.C (Kd.int .i64) w A0 l0.length l0) (hc0 : l0.length ≤ c0) (h : slices_Index_int_int.f k l0 a1 = some r) :
    Calls Tryd.prog 83 #[.slice A0 l0.length c0, .int .i64 a1] w fun e w' => e = .returned (.int .i64 r) ∧ Drawn0 w w' := by
  have HR0 := Aside0.mk hr0
  have HC0 := Aside0.mk hc0
  clear hr0 hc0
  have H : (slices_Index_int_int.l0 k l0 a1 (l0.length : Int) 0) = some r := h
  clear h
  have H' := Aside0.mk H
  clear H
  go_enter Tryd.func83, Tryd.ntmps83
  go_wp2
  go_loopg [8] k (fun kq v8 w' => ∃ (x8_1 : Int), v8 = .int .i64 x8_1 ∧ Aside0 (slices_Index_int_int.l0 kq l0 a1 (l0.length : Int) x8_1 = some r) ∧ Aside0 (kq ≤ k) ∧ Drawn0 w w')
  case atStart => exact ⟨(0), (by first | rfl | (simp; done) | (simp [*]; done)), H', ⟨Nat.le_refl _⟩, by repeat (first | exact Drawn0.refl _ | apply Drawn0.step)⟩
  case round =>
    clear H'
    try clear p2
    obtain ⟨x8_1, rfl, HA, HK1, ⟨m1, rfl⟩⟩ := hrel
    cases gk with
    | zero => exact absurd HA.out (by simp [slices_Index_int_int.l0])
    | succ k1 =>
      have H := HA.out
      clear HA
      simp only [slices_Index_int_int.l0] at H
      by_cases c3 : x8_1 < (l0.length : Int)
      · rw [if_pos c3] at H
        have c3b0 : decide (x8_1 < (l0.length : Int)) = true := decide_eq_true c3
        clear c3
        by_cases c4 : 0 ≤ x8_1
        · rw [if_pos c4] at H
          have c4b0 : decide (0 ≤ x8_1) = true := decide_eq_true c4
          clear c4
          by_cases c5 : x8_1 < (l0.length : Int)
          · rw [if_pos c5] at H
            have c5b0 : decide (x8_1 < (l0.length : Int)) = true := decide_eq_true c5
            clear c5
            by_cases c6 : a1 = (rd l0 x8_1)
            · rw [if_pos c6] at H
              have c6b0 : (a1 == (rd l0 x8_1)) = true := beq_iff_eq.mpr c6
              have c6b1 : (a1 != (rd l0 x8_1)) = false := bne_eq_false_iff_eq.mpr c6
              clear c6
              obtain rfl := Option.some.inj H
              have p126 : 0 ≤ (x8_1 : Int) := of_decide_eq_true (by first | (with_reducible assumption) | assumption)
              have q126 : x8_1 < (l0.length : Int) := of_decide_eq_true (by first | (with_reducible assumption) | assumption)
              obtain ⟨ad126, e126, hx126_0⟩ := Kd.at_int HR0.out x8_1 p126 q126
              cases e126
              replace p126 := eq_true p126
              replace q126 := eq_true q126
              go_wp2
              go_ret
              exact ⟨by first | rfl | (simp; done) | (simp [*]; done), by repeat (first | exact Drawn0.refl _ | apply Drawn0.step)⟩
            · rw [if_neg c6] at H
              have c6b0 : (a1 == (rd l0 x8_1)) = false := beq_eq_false_iff_ne.mpr c6
              have c6b1 : (a1 != (rd l0 x8_1)) = true := bne_iff_ne.mpr c6
              have H' := Aside0.mk H
              clear H
              have p126 : 0 ≤ (x8_1 : Int) := of_decide_eq_true (by first | (with_reducible assumption) | assumption)
              have q126 : x8_1 < (l0.length : Int) := of_decide_eq_true (by first | (with_reducible assumption) | assumption)
              obtain ⟨ad126, e126, hx126_0⟩ := Kd.at_int HR0.out x8_1 p126 q126
              cases e126
              replace p126 := eq_true p126
              replace q126 := eq_true q126
              go_wp2
              go_roundg k1
              case measure => have := HK1.out; omega
              case rel => exact ⟨(wrap64 (x8_1 + 1)), (by first | rfl | (simp; done) | (simp [*]; done)), H', ⟨by have := HK1.out; omega⟩, by repeat (first | exact Drawn0.refl _ | apply Drawn0.step)⟩
          · rw [if_neg c5] at H
            exact absurd H (by simp)
        · rw [if_neg c4] at H
          exact absurd H (by simp)
      · rw [if_neg c3] at H
        have c3b0 : decide (x8_1 < (l0.length : Int)) = false := decide_eq_false c3
        clear c3
        obtain rfl := Option.some.inj H
        go_wp2
        go_ret
        exact ⟨by first | rfl | (simp; done) | (simp [*]; done), by repeat (first | exact Drawn0.refl _ | apply Drawn0.step)⟩

/-! ### slices_Contains_int_int: function 60 -/
def slices_Contains_int_int.f (k : Nat) (l0 : List Int) (a1 : Int) : Option (Bool) := (slices_Index_int_int.f k l0 a1).bind fun t127 => (some (decide (t127 ≥ 0)))
theorem slices_Contains_int_int.mono : ∀ a0 a1 k, LeO (slices_Contains_int_int.f k a0 a1) (slices_Contains_int_int.f (k + 1) a0 a1) := by
  intro a0 a1 k
  unfold slices_Contains_int_int.f
  repeat' first
      | (with_reducible exact slices_Index_int_int.mono _ _ _)
      | (with_reducible exact LeO.refl _)
      | (with_reducible exact LeO.none _)
      | (with_reducible refine LeO.ite ?_ ?_)
      | (with_reducible refine LeO.bind ?_ (fun _ => ?_))
      | exact slices_Index_int_int.mono _ _ _
      | exact LeO.none _
      | refine LeO.ite ?_ ?_
      | refine LeO.bind ?_ (fun _ => ?_)
set_option maxHeartbeats 8000000 in
set_option maxRecDepth 100000 in
theorem slices_Contains_int_int.calls (k : Nat) (A0 : Option Addr) (c0 : Nat) (l0 : List Int) (a1 : Int) (r : Bool) (w : World) (hr0 : Kd.C (Kd.int .i64) w A0 l0.length l0) (hc0 : l0.length ≤ c0) (h : slices_Contains_int_int.f k l0 a1 = some r) :
    Calls Tryd.prog 60 #[.slice A0 l0.length c0, .int .i64 a1] w fun e w' => e = .returned (.bool r) ∧ Drawn0 w w' := by
  have HR0 := Aside0.mk hr0
  have HC0 := Aside0.mk hc0
  clear hr0 hc0
  have H : ((slices_Index_int_int.f k l0 a1).bind fun t127 => (some (decide (t127 ≥ 0)))) = some r := h
  clear h
  replace H := Option.bind_eq_some_iff.mp H
  obtain ⟨t127, A30, H⟩ := H
  replace H : (some (decide (t127 ≥ 0))) = some r := H
  have A3 := Aside0.mk A30
  clear A30
  obtain rfl := Option.some.inj H
  go_enter Tryd.func60, Tryd.ntmps60
  go_wp2_with (first | ((with_reducible refine gate_callee (f := 83) rfl ?_); refine goesL_ (some 7) rfl rfl Tryd.func83 (by kernel_rfl) rfl #[.slice A0 l0.length c0, .int .i64 a1] rfl (by (try simp only [List.map_toArray, List.map_cons, List.map_nil]); first | done | rfl | (simp only [List.length_drop, List.length_take]; rfl)) ?_; (with_reducible refine (slices_Index_int_int.calls k _ _ l0 a1 t127 _ ?side1 ?side2 A3.out).mono ?_); (case side1 => repeat (first | exact HR0.out | (with_reducible refine Kd.C_alloc ?_ _) | (with_reducible refine Kd.C_drewN ?_ _) | (with_reducible refine Kd.C_drew ?_))); (case side2 => exact HC0.out); rintro e w' ⟨rfl, ⟨nd, rfl⟩⟩; refine ⟨_, rfl, ?_⟩))
  go_ret
  exact ⟨by first | rfl | (simp; done) | (simp [*]; done), by repeat (first | exact Drawn0.refl _ | apply Drawn0.step)⟩

/-! ### duty_Plan: function 19 -/
def bothL (tick slot p q : Int) (ks : List Int) : List S36 := ks.flatMap fun kd => [(⟨tick, slot, p, kd⟩ : S36), (⟨tick, slot, q, kd⟩ : S36)]
theorem bothL_snoc (tick slot p q : Int) (ks : List Int) (kd : Int) : bothL tick slot p q (ks ++ [kd]) = bothL tick slot p q ks ++ [(⟨tick, slot, p, kd⟩ : S36)] ++ [(⟨tick, slot, q, kd⟩ : S36)] := by simp [bothL]
theorem bothL_length (tick slot p q : Int) (ks : List Int) : (bothL tick slot p q ks).length = 2 * ks.length := by
  induction ks with
  | nil => rfl
  | cons k t ih =>
    have e : bothL tick slot p q (k :: t) = [⟨tick, slot, p, k⟩, ⟨tick, slot, q, k⟩] ++ bothL tick slot p q t := rfl
    rw [e, List.length_append, ih]; simp; omega
theorem print_take_snoc {α : Type} (l : List α) (d : α) (i : Int) (h0 : 0 ≤ i) (h : i < l.length) : l.take (i + 1).toNat = l.take i.toNat ++ [l.getD i.toNat d] := by
  have e : (i + 1).toNat = i.toNat + 1 := by omega
  rw [e, List.take_succ_eq_append_getElem (by omega), List.getD_eq_getElem?_getD, List.getElem?_eq_getElem (by omega)]; rfl
theorem kinds_cell {w : World} {gk : Nat} {ks : List Int} (h : w.heap[gk]? = some (.cells (ks.map (Value.int .i64)).toArray 3 (0, 0))) (i : Int) (h0 : 0 ≤ i) (h1 : i < ks.length) : w.cell? ⟨gk, i.toNat, none⟩ = some (.int .i64 (rd ks i)) := by
  refine (blk_cell h i.toNat).trans ?_
  have hi : i.toNat < ks.length := by omega
  simp [rd, List.getD_eq_getElem?_getD, List.getElem?_eq_getElem hi]

theorem duty_pick (W : World) (p q j : Int) (h : j = 0 ∨ j = 1) : (Instr.index 51 (.agg #[.int .i64 p, .int .i64 q]) (.int .i64 j)).run Tryd.prog W = .ok (.int .i64 (if j = 0 then p else q)) W := by
  obtain ⟨i0, hi0, _, hsz, _⟩ := info_parts info3
  rcases h with rfl | rfl <;> simp [Instr.index, run_underlying Tryd.underlying51, asIntOf, sizeOf, typeInfo, hi0, hsz, part, isAgg, run_underlying Tryd.underlying3, go_sem]

set_option maxHeartbeats 4000000 in
set_option maxRecDepth 100000 in
theorem duty_both (ga go gs gk : Nat) (p q st te tick slot : Int) (vc v : Value) (ck : Nat) (ks : List Int) (xs : List S36) (base : Nat) (w : World)
    (ha : w.heap[ga]? = some (.cells #[.int .i64 p, .int .i64 q, .int .i64 st, .int .i64 te, vc] 26 (0, 0))) (hg : w.heap[go]? = some (.cells #[v] 30 (0, 0))) (hs : w.heap[gs]? = some (.cells #[.int .i64 slot] 3 (0, 0))) (hk : w.heap[gk]? = some (.cells (ks.map (Value.int .i64)).toArray 3 (0, 0))) (n1 : ga ≠ go) (n2 : gs ≠ go) (n3 : gk ≠ go)
    (hr : Kd.R k36 36 w base (fun k => k ≠ go ∧ k ≠ ga ∧ k ≠ gs ∧ k ≠ gk) v xs) (hb : base ≤ w.heap.size) (hgo : base ≤ go) (hl : xs.length ≤ 1000) (hkl : ks.length ≤ 10) (hkc : ks.length ≤ ck) :
    Calls Tryd.prog 59 #[.int .i64 tick, .slice (some ⟨gk, 0, none⟩) ks.length ck, .pointer (some ⟨ga, 0, none⟩), .pointer (some ⟨go, 0, none⟩), .pointer (some ⟨gs, 0, none⟩)] w fun e w' => ∃ v', e = .returned (.tuple #[]) ∧ w'.heap[ga]? = some (.cells #[.int .i64 p, .int .i64 q, .int .i64 st, .int .i64 te, vc] 26 (0, 0)) ∧ w'.heap[go]? = some (.cells #[v'] 30 (0, 0)) ∧ w'.heap[gs]? = some (.cells #[.int .i64 slot] 3 (0, 0)) ∧ Kd.R k36 36 w' base (fun k => k ≠ go ∧ k ≠ ga ∧ k ≠ gs ∧ k ≠ gk) v' (xs ++ bothL tick slot p q ks) ∧ Below base w w' := by
  have hu := Tryd.underlying26
  have hu2 := Tryd.underlying36
  have hx0 : ∀ W : World, (Instr.index 51 (.agg #[.int .i64 p, .int .i64 q]) (.int .i64 0)).run Tryd.prog W = .ok (.int .i64 p) W := fun W => duty_pick W p q 0 (by omega)
  have hx1 : ∀ W : World, (Instr.index 51 (.agg #[.int .i64 p, .int .i64 q]) (.int .i64 1)).run Tryd.prog W = .ok (.int .i64 q) W := fun W => duty_pick W p q 1 (by omega)
  obtain ⟨A, cap, rfl⟩ := Kd.R_slice hr
  have HA := Aside0.mk ha; have HG := Aside0.mk hg; have HS := Aside0.mk hs; have HK := Aside0.mk hk; have HR := Aside0.mk hr
  clear ha hg hs hk hr
  go_enter Tryd.func59, Tryd.ntmps59
  go_wp2
  go_loopw [13] (fun v13 w' => ∃ (i : Int) (A : Option Addr) (n cap : Nat) (zs : List S36), 0 ≤ i ∧ i ≤ ks.length ∧ v13 = .int .i64 i ∧ Aside0 (zs = xs ++ bothL tick slot p q (ks.take i.toNat)) ∧ Aside0 (w'.heap[ga]? = some (.cells #[.int .i64 p, .int .i64 q, .int .i64 st, .int .i64 te, vc] 26 (0, 0))) ∧ Aside0 (w'.heap[go]? = some (.cells #[.slice A n cap] 30 (0, 0))) ∧ Aside0 (w'.heap[gs]? = some (.cells #[.int .i64 slot] 3 (0, 0))) ∧ Aside0 (w'.heap[gk]? = some (.cells (ks.map (Value.int .i64)).toArray 3 (0, 0))) ∧ Aside0 (Kd.R k36 36 w' base (fun k => k ≠ go ∧ k ≠ ga ∧ k ≠ gs ∧ k ≠ gk) (.slice A n cap) zs) ∧ Aside0 (Below base w w')) (fun v13 _ => ks.length - (intOf v13).toNat)
  case atStart => exact ⟨0, A, _, cap, xs, by omega, by omega, rfl, ⟨by simp [bothL]⟩, HA, HG, HS, HK, HR, ⟨Below.refl _ _⟩⟩
  case round =>
    clear HA HG HS HK HR
    obtain ⟨i, A, n, cap, zs, hi0, hi, rfl, HZ, HA, HG, HS, HK, HR, HB⟩ := hrel
    by_cases hlt : i < (ks.length : Int)
    · have kk := kinds_cell HK.out i hi0 hlt
      obtain ⟨kd, hkd⟩ : ∃ kd, kd = rd ks i := ⟨_, rfl⟩
      rw [← hkd] at kk
      have HKD := Aside0.mk hkd
      clear hkd
      have ka := blk_cell HA.out 0
      have kb := blk_cell HA.out 1
      go_wp2
      clear kk ka kb
      have HLT := Aside0.mk hlt
      go_loopw [22] (fun v22 w' => ∃ (j : Int) (A : Option Addr) (n cap : Nat) (ws : List S36), v22 = .int .i64 j ∧ ((j = 0 ∧ ws = zs) ∨ (j = 1 ∧ ws = zs ++ [(⟨tick, slot, p, kd⟩ : S36)]) ∨ (j = 2 ∧ ws = zs ++ [(⟨tick, slot, p, kd⟩ : S36)] ++ [(⟨tick, slot, q, kd⟩ : S36)])) ∧ Aside0 (w'.heap[ga]? = some (.cells #[.int .i64 p, .int .i64 q, .int .i64 st, .int .i64 te, vc] 26 (0, 0))) ∧ Aside0 (w'.heap[go]? = some (.cells #[.slice A n cap] 30 (0, 0))) ∧ Aside0 (w'.heap[gs]? = some (.cells #[.int .i64 slot] 3 (0, 0))) ∧ Aside0 (w'.heap[gk]? = some (.cells (ks.map (Value.int .i64)).toArray 3 (0, 0))) ∧ Aside0 (Kd.R k36 36 w' base (fun k => k ≠ go ∧ k ≠ ga ∧ k ≠ gs ∧ k ≠ gk) (.slice A n cap) ws) ∧ Aside0 (Below base w w')) (fun v22 _ => 2 - (intOf v22).toNat)
      case atStart => exact ⟨0, A, n, cap, zs, rfl, .inl ⟨rfl, rfl⟩, HA, HG, HS, HK, HR, HB⟩
      case round =>
        clear HA HG HS HK HR HB
        obtain ⟨j, A, n, cap, ws, rfl, hj, HA, HG, HS, HK, HR, HB⟩ := hrel
        have hz0 : (zs.length : Int) ≤ 1000 + 20 := by have := HZ.out; subst this; have h2 := bothL_length tick slot p q (ks.take i.toNat); have h3 := List.length_take_le i.toNat ks; simp; omega
        rcases hj with ⟨rfl, hw⟩ | ⟨rfl, hw⟩ | ⟨rfl, hw⟩
        · subst hw
          have c0 := blk_cell HG.out 0
          have c1 := blk_cell HS.out 0
          have HBz := Aside0.mk (Nat.le_trans hb HB.out.size)
          obtain ⟨ys, hy⟩ : ∃ ys, ws ++ [(⟨tick, slot, p, kd⟩ : S36)] = ys := ⟨_, rfl⟩
          have HY := Aside0.mk hy
          clear hy
          go_wp2_with (at_builtin; go_loud (refine Kd.R_append k36 (w0 := w) base rfl (.tmp 25) (.tmp 31) 30 36 (.agg #[(.int .i64 0), (.int .i64 0), (.int .i64 0), (.int .i64 0)]) 32 rfl Tryd.underlying30 info36 rfl (by decide) (by omega) (.slice A n cap) (ws) (⟨tick, slot, p, kd⟩ : S36) [.int .i64 tick, .int .i64 slot, .int .i64 p, .int .i64 kd] (fun k => k ≠ go ∧ k ≠ ga ∧ k ≠ gs ∧ k ≠ gk) (fun _ => False) rfl rfl (k36_mkM _ _ _ (⟨tick, slot, p, kd⟩ : S36)) (fun _ hk => hk.elim) (fun k hk => ⟨fun e => absurd (blk_lt HG.out) (by subst e; exact Nat.not_lt.2 hk), fun e => absurd (blk_lt HA.out) (by subst e; exact Nat.not_lt.2 hk), fun e => absurd (blk_lt HS.out) (by subst e; exact Nat.not_lt.2 hk), fun e => absurd (blk_lt HK.out) (by subst e; exact Nat.not_lt.2 hk)⟩) HR.out HB.out HBz.out ?aL ?_; (case aL => (try simp); omega); intro v1 W4 ho hb4 hg_ hat; rw [HY.out] at ho; obtain ⟨A1, d1, rfl⟩ := Kd.R_slice ho; have HA4 := Aside0.mk (blk_grown (g := ga) (by exact HA.out) hg_ (Kd.R_away HR.out (fun _ hk => hk.2.1))); have hg4 := blk_grown (g := go) (by exact HG.out) hg_ (Kd.R_away HR.out (fun _ hk => hk.1)); have HS4 := Aside0.mk (blk_grown (g := gs) (by exact HS.out) hg_ (Kd.R_away HR.out (fun _ hk => hk.2.2.1))); have HK4 := Aside0.mk (blk_grown (g := gk) (by exact HK.out) hg_ (Kd.R_away HR.out (fun _ hk => hk.2.2.2))); have m0 := blk_cell hg4 0; have m0' := blk_frozen hg4 0; have HG4 := Aside0.mk hg4; have HO4 := Aside0.mk ho; have HB4 := Aside0.mk hb4; clear ho hb4 hg_ hat hg4))
          go_roundw
          case rel => exact ⟨1, A1, _, d1, ys, by go_num, .inr (.inl ⟨rfl, HY.out.symm⟩), ⟨blk_far HA4.out n1 _⟩, ⟨blk_set HG4.out 0 _⟩, ⟨blk_far HS4.out n2 _⟩, ⟨blk_far HK4.out n3 _⟩, ⟨Kd.R_far HO4.out (p := ⟨go, 0, none⟩) (fun k h => h.1) _⟩, ⟨HB4.out.setCell (p := ⟨go, 0, none⟩) hgo _⟩⟩
          case measure => simp [intOf]
        · subst hw
          have c0 := blk_cell HG.out 0
          have c1 := blk_cell HS.out 0
          have HBz := Aside0.mk (Nat.le_trans hb HB.out.size)
          obtain ⟨ys, hy⟩ : ∃ ys, zs ++ [(⟨tick, slot, p, kd⟩ : S36)] ++ [(⟨tick, slot, q, kd⟩ : S36)] = ys := ⟨_, rfl⟩
          have HY := Aside0.mk hy
          clear hy
          go_wp2_with (at_builtin; go_loud (refine Kd.R_append k36 (w0 := w) base rfl (.tmp 25) (.tmp 31) 30 36 (.agg #[(.int .i64 0), (.int .i64 0), (.int .i64 0), (.int .i64 0)]) 32 rfl Tryd.underlying30 info36 rfl (by decide) (by omega) (.slice A n cap) (zs ++ [(⟨tick, slot, p, kd⟩ : S36)]) (⟨tick, slot, q, kd⟩ : S36) [.int .i64 tick, .int .i64 slot, .int .i64 q, .int .i64 kd] (fun k => k ≠ go ∧ k ≠ ga ∧ k ≠ gs ∧ k ≠ gk) (fun _ => False) rfl rfl (k36_mkM _ _ _ (⟨tick, slot, q, kd⟩ : S36)) (fun _ hk => hk.elim) (fun k hk => ⟨fun e => absurd (blk_lt HG.out) (by subst e; exact Nat.not_lt.2 hk), fun e => absurd (blk_lt HA.out) (by subst e; exact Nat.not_lt.2 hk), fun e => absurd (blk_lt HS.out) (by subst e; exact Nat.not_lt.2 hk), fun e => absurd (blk_lt HK.out) (by subst e; exact Nat.not_lt.2 hk)⟩) HR.out HB.out HBz.out ?aL ?_; (case aL => (try simp); omega); intro v1 W4 ho hb4 hg_ hat; rw [HY.out] at ho; obtain ⟨A1, d1, rfl⟩ := Kd.R_slice ho; have HA4 := Aside0.mk (blk_grown (g := ga) (by exact HA.out) hg_ (Kd.R_away HR.out (fun _ hk => hk.2.1))); have hg4 := blk_grown (g := go) (by exact HG.out) hg_ (Kd.R_away HR.out (fun _ hk => hk.1)); have HS4 := Aside0.mk (blk_grown (g := gs) (by exact HS.out) hg_ (Kd.R_away HR.out (fun _ hk => hk.2.2.1))); have HK4 := Aside0.mk (blk_grown (g := gk) (by exact HK.out) hg_ (Kd.R_away HR.out (fun _ hk => hk.2.2.2))); have m0 := blk_cell hg4 0; have m0' := blk_frozen hg4 0; have HG4 := Aside0.mk hg4; have HO4 := Aside0.mk ho; have HB4 := Aside0.mk hb4; clear ho hb4 hg_ hat hg4))
          go_roundw
          case rel => exact ⟨2, A1, _, d1, ys, by go_num, .inr (.inr ⟨rfl, HY.out.symm⟩), ⟨blk_far HA4.out n1 _⟩, ⟨blk_set HG4.out 0 _⟩, ⟨blk_far HS4.out n2 _⟩, ⟨blk_far HK4.out n3 _⟩, ⟨Kd.R_far HO4.out (p := ⟨go, 0, none⟩) (fun k h => h.1) _⟩, ⟨HB4.out.setCell (p := ⟨go, 0, none⟩) hgo _⟩⟩
          case measure => simp [intOf]
        · subst hw
          have hlt := HLT.out
          go_wp2
          go_roundw
          case rel => exact ⟨i + 1, A, n, cap, _, by omega, by omega, by go_num, ⟨by rw [print_take_snoc ks 0 i hi0 hlt, bothL_snoc, HZ.out]; have := HKD.out; simp only [rd] at this; rw [← this]; simp⟩, HA, HG, HS, HK, HR, HB⟩
          case measure => simp [intOf]; omega
    · go_wp2
      go_end0
      rw [List.take_of_length_le (by omega)] at HZ
      obtain rfl := HZ.out
      exact ⟨rfl, HA.out, _, HG.out, HS.out, HR.out, HB.out⟩

theorem duty_both_at (ga go gs : Nat) (p q st te tick slot : Int) (vc v : Value) (ks : List Int) (xs : List S36) (base gk nk : Nat) (O : Obj) (W : World) (hgk : gk = W.heap.size) (hnk : nk = ks.length) (hO : O = (.cells (ks.map (Value.int .i64)).toArray 3 (0, 0)))
    (ha : W.heap[ga]? = some (.cells #[.int .i64 p, .int .i64 q, .int .i64 st, .int .i64 te, vc] 26 (0, 0))) (hg : W.heap[go]? = some (.cells #[v] 30 (0, 0))) (hs : W.heap[gs]? = some (.cells #[.int .i64 slot] 3 (0, 0))) (n1 : ga ≠ go) (n2 : gs ≠ go)
    (hr : Kd.R k36 36 W base (fun k => k ≠ go ∧ k ≠ ga ∧ k ≠ gs) v xs) (hb : base ≤ W.heap.size) (hgo : base ≤ go) (hl : xs.length ≤ 1000) (hkl : ks.length ≤ 10) :
    Calls Tryd.prog 59 #[.int .i64 tick, .slice (some ⟨gk, 0, none⟩) nk nk, .pointer (some ⟨ga, 0, none⟩), .pointer (some ⟨go, 0, none⟩), .pointer (some ⟨gs, 0, none⟩)] (W.alloc O) fun e w' => ∃ v', e = .returned (.tuple #[]) ∧ w'.heap[ga]? = some (.cells #[.int .i64 p, .int .i64 q, .int .i64 st, .int .i64 te, vc] 26 (0, 0)) ∧ w'.heap[go]? = some (.cells #[v'] 30 (0, 0)) ∧ w'.heap[gs]? = some (.cells #[.int .i64 slot] 3 (0, 0)) ∧ Kd.R k36 36 w' base (fun k => k ≠ go ∧ k ≠ ga ∧ k ≠ gs) v' (xs ++ bothL tick slot p q ks) ∧ Below base W w' := by
  subst hgk hnk hO
  have hlt := blk_lt hg
  refine (duty_both ga go gs W.heap.size p q st te tick slot vc v ks.length ks xs base (W.alloc (.cells (ks.map (Value.int .i64)).toArray 3 (0, 0))) (blk_alloc ha _) (blk_alloc hg _) (blk_alloc hs _) (blk_new W _) n1 n2 (by omega) (Kd.R_alloc (Kd.R_mono (Kd.R_bound hr) (fun k hk => ⟨hk.1.1, hk.1.2.1, hk.1.2.2, by have := hk.2.2.1; omega⟩)) _) (Nat.le_trans hb (by simp)) hgo hl hkl (Nat.le_refl _)).mono ?_
  rintro e w' ⟨v', he, h1, h2, h3, h4, h5⟩
  exact ⟨v', he, h1, h2, h3, Kd.R_mono h4 (fun k hk => ⟨hk.1, hk.2.1, hk.2.2.1⟩), ((Below.refl base W).alloc hb _).trans h5⟩

theorem w64_ {n : Int} (h0 : 0 ≤ n) (h1 : n < 9223372036854775808) : wrap64 n = n := by unfold wrap64; omega
theorem index_ok (l : List Int) (hl : l.length ≤ 9223372036854775807) (a : Int) : ∀ (t : List Int) (i : Int), 0 ≤ i → i + t.length = l.length → l.drop i.toNat = t → ∃ k r, slices_Index_int_int.l0 k l a l.length i = some r ∧ (0 ≤ r ↔ a ∈ t)
  | [], i, h0, hi, hd => ⟨1, -1, by rw [slices_Index_int_int.l0, if_neg (by simp at hi; omega)], by simp⟩
  | e :: t, i, h0, hi, hd => by
    rw [List.length_cons] at hi
    push_cast at hi
    have hr : rd l i = e := by
      have : (l.drop i.toNat)[0]? = some e := by rw [hd]; rfl
      rw [List.getElem?_drop] at this
      simp [rd, List.getD_eq_getElem?_getD] at this ⊢
      rw [this]; rfl
    by_cases q : a = e
    · exact ⟨1, i, by rw [slices_Index_int_int.l0, if_pos (by omega), if_pos h0, if_pos (by omega), hr, if_pos q], by simp [q]; omega⟩
    · obtain ⟨k, r, h1, h2⟩ := index_ok l hl a t (i + 1) (by omega) (by omega) (by rw [show (i + 1).toNat = i.toNat + 1 by omega, ← List.drop_drop, hd]; rfl)
      refine ⟨k + 1, r, ?_, by rw [h2]; simp [q]⟩
      rw [slices_Index_int_int.l0, if_pos (by omega), if_pos h0, if_pos (by omega), hr, if_neg q, w64_ (by omega) (by omega), h1]
theorem contains_ok (l : List Int) (hl : l.length ≤ 9223372036854775807) (a : Int) : ∃ k, slices_Contains_int_int.f k l a = some (decide (a ∈ l)) := by
  obtain ⟨k, r, h1, h2⟩ := index_ok l hl a l 0 (Int.le_refl _) (by omega) rfl
  refine ⟨k, ?_⟩
  unfold slices_Contains_int_int.f slices_Index_int_int.f
  rw [h1]
  simp only [Option.bind_some, ge_iff_le, h2]
def planT (slot p q : Int) (l : List Int) : Nat → Int → List S36
  | 0, _ => []
  | n + 1, t => bothL t slot p q [5] ++ (if t ∈ l then bothL t slot p q [6] else []) ++ planT slot p q l n (t + 1)
def planL (a0 a1 a2 a3 : Int) (l : List Int) (slot : Int) (settle : Bool) : List S36 := bothL a2 slot a0 a1 [1, 2, 3, 4] ++ planT slot a0 a1 l a3.toNat (a2 + 1) ++ (if settle = true then bothL (a2 + a3 + 1) slot a0 a1 [7] else [])
theorem valid_ok {k : Nat} {a0_0 a0_1 a0_2 a0_3 : Int} {l0_4 : List Int} (h : duty_Valid.f k a0_0 a0_1 a0_2 a0_3 l0_4 = some true) : 1 ≤ a0_3 ∧ a0_3 ≤ 16 ∧ 0 ≤ a0_2 ∧ a0_2 ≤ 16 - a0_3 := by
  have hj : ∀ k : Nat, duty_Valid.j0 k true a0_0 a0_1 a0_2 a0_3 l0_4 ≠ some true := fun k => by cases k <;> simp [duty_Valid.j0]
  unfold duty_Valid.f at h
  obtain ⟨t, -, h⟩ := Option.bind_eq_some_iff.mp h
  split at h
  · obtain ⟨t, -, h⟩ := Option.bind_eq_some_iff.mp h
    split at h
    · split at h
      · exact absurd h (hj _)
      · split at h
        · exact absurd h (hj _)
        · split at h
          · exact absurd h (hj _)
          · split at h
            · exact absurd h (hj _)
            · rename_i h1 h2 h3
              rw [w64_ (by omega) (by omega)] at h
              by_cases q : a0_2 > 16 - a0_3
              · rw [decide_eq_true q] at h; exact absurd h (hj _)
              · omega
    · exact absurd h (hj _)
  · exact absurd h (hj _)
def duty_Plan.f (k : Nat) (a0_0 : Int) (a0_1 : Int) (a0_2 : Int) (a0_3 : Int) (l0_4 : List Int) (a1 : Int) (a2 : Bool) : Option (List S36 × Int) := if a1 < 0 then some ([], 1) else if a1 ≥ 6 then some ([], 1) else (duty_Valid.f k a0_0 a0_1 a0_2 a0_3 l0_4).bind fun t => if t = true then some (planL a0_0 a0_1 a0_2 a0_3 l0_4 a1 a2, 0) else some ([], 44)
theorem duty_Plan.mono : ∀ a0 a1 a2 a3 a4 a5 a6 k, LeO (duty_Plan.f k a0 a1 a2 a3 a4 a5 a6) (duty_Plan.f (k + 1) a0 a1 a2 a3 a4 a5 a6) := by
  intro a0 a1 a2 a3 a4 a5 a6 k
  unfold duty_Plan.f
  exact LeO.ite (LeO.refl _) (LeO.ite (LeO.refl _) (LeO.bind (duty_Valid.mono _ _ _ _ _ _) (fun _ => LeO.refl _)))

set_option maxHeartbeats 4000000 in
set_option maxRecDepth 100000 in
theorem duty_Plan.calls (k : Nat) (a0_0 : Int) (a0_1 : Int) (a0_2 : Int) (a0_3 : Int) (A0_4 : Option Addr) (c0_4 : Nat) (l0_4 : List Int) (a1 : Int) (a2 : Bool) (r1 : List (S36)) (r2 : Int) (w : World) (hr0_4 : Kd.C (Kd.int .i64) w A0_4 l0_4.length l0_4) (hc0_4 : l0_4.length ≤ c0_4) (h : duty_Plan.f k a0_0 a0_1 a0_2 a0_3 l0_4 a1 a2 = some (r1, r2)) :
    Calls Tryd.prog 19 #[.agg #[.int .i64 a0_0, .int .i64 a0_1, .int .i64 a0_2, .int .i64 a0_3, .slice A0_4 l0_4.length c0_4], .int .i64 a1, .bool a2] w fun e w' => ∃ v0_ : Value, e = .returned (.tuple #[v0_, .int .i64 r2]) ∧ Kd.R k36 36 w' w.heap.size (fun _ => True) v0_ r1 ∧ Below w.heap.size w w' := by
  have hu := Tryd.underlying26
  unfold duty_Plan.f at h
  have HR0 := Aside0.mk hr0_4
  have HC0 := Aside0.mk hc0_4
  clear hr0_4 hc0_4
  by_cases q0 : a1 < 0
  · rw [if_pos q0] at h
    simp only [Option.some.injEq, Prod.mk.injEq] at h
    obtain ⟨rfl, rfl⟩ := h
    have b0 : decide (a1 < 0) = true := decide_eq_true q0
    clear q0
    go_enter Tryd.func19, Tryd.ntmps19
    go_wp2
    go_ret2
    exact ⟨_, rfl, Kd.R_nil _ _ _ _ _, below_alloc (below_alloc (Below.refl _ _) _) _⟩
  rw [if_neg q0] at h
  have b0 : decide (a1 < 0) = false := decide_eq_false q0
  by_cases q1 : a1 ≥ 6
  · rw [if_pos q1] at h
    simp only [Option.some.injEq, Prod.mk.injEq] at h
    obtain ⟨rfl, rfl⟩ := h
    have b1 : decide (a1 ≥ 6) = true := decide_eq_true q1
    have b2 : decide (6 ≤ a1) = true := decide_eq_true q1
    clear q0 q1
    go_enter Tryd.func19, Tryd.ntmps19
    go_wp2
    go_ret2
    exact ⟨_, rfl, Kd.R_nil _ _ _ _ _, below_alloc (below_alloc (Below.refl _ _) _) _⟩
  rw [if_neg q1] at h
  have b1 : decide (a1 ≥ 6) = false := decide_eq_false q1
  have b2 : decide (6 ≤ a1) = false := decide_eq_false q1
  have HQ := Aside0.mk (And.intro q0 q1)
  clear q0 q1
  obtain ⟨t, hv, h⟩ := Option.bind_eq_some_iff.mp h
  have HV := Aside0.mk hv
  clear hv
  cases t
  · rw [if_neg (by simp)] at h
    simp only [Option.some.injEq, Prod.mk.injEq] at h
    obtain ⟨rfl, rfl⟩ := h
    go_enter Tryd.func19, Tryd.ntmps19
    go_wp2_with fail
    refine (duty_Valid.calls k a0_0 a0_1 a0_2 a0_3 A0_4 c0_4 l0_4 false _ (Kd.C_alloc (Kd.C_alloc HR0.out _) _) HC0.out HV.out).mono ?_
    rintro e w1 ⟨rfl, hb⟩
    go_wp2
    go_ret2
    exact ⟨_, rfl, Kd.R_nil _ _ _ _ _, below_step (below_alloc (below_alloc (Below.refl _ _) _) _) hb⟩
  · rw [if_pos rfl] at h
    simp only [Option.some.injEq, Prod.mk.injEq] at h
    obtain ⟨rfl, rfl⟩ := h
    obtain ⟨v1, v2, v3, v4⟩ := valid_ok HV.out
    go_enter Tryd.func19, Tryd.ntmps19
    go_wp2_with fail
    have hA := blk_alloc (blk_new w (.cells #[.int .i64 a0_0, .int .i64 a0_1, .int .i64 a0_2, .int .i64 a0_3, .slice A0_4 l0_4.length c0_4] 26 (0, 0))) (.cells #[.int .i64 a1] 3 (0, 0))
    have hS := blk_new (w.alloc (.cells #[.int .i64 a0_0, .int .i64 a0_1, .int .i64 a0_2, .int .i64 a0_3, .slice A0_4 l0_4.length c0_4] 26 (0, 0))) (.cells #[.int .i64 a1] 3 (0, 0))
    rw [show (w.alloc (.cells #[.int .i64 a0_0, .int .i64 a0_1, .int .i64 a0_2, .int .i64 a0_3, .slice A0_4 l0_4.length c0_4] 26 (0, 0))).heap.size = w.heap.size + 1 by simp] at hS
    refine (duty_Valid.calls k a0_0 a0_1 a0_2 a0_3 A0_4 c0_4 l0_4 true _ (Kd.C_alloc (Kd.C_alloc HR0.out _) _) HC0.out HV.out).mono ?_
    rintro e w1 ⟨rfl, hb⟩
    have hsz : w.heap.size + 2 ≤ w1.heap.size := by have := hb.size; simpa using this
    have hA := blk_below hA hb; have hS := blk_below hS hb
    have HB1 := Aside0.mk (below_step (below_alloc (below_alloc (Below.refl w.heap.size w) (.cells #[.int .i64 a0_0, .int .i64 a0_1, .int .i64 a0_2, .int .i64 a0_3, .slice A0_4 l0_4.length c0_4] 26 (0, 0))) (.cells #[.int .i64 a1] 3 (0, 0))) hb)
    have HA1 := Aside0.mk (blk_alloc hA (.cells #[.slice none 0 0] 30 (0, 0))); have HS1 := Aside0.mk (blk_alloc hS (.cells #[.slice none 0 0] 30 (0, 0))); have HG1 := Aside0.mk (blk_new w1 (.cells #[.slice none 0 0] 30 (0, 0)))
    have HB2 := Aside0.mk (below_alloc HB1.out (.cells #[.slice none 0 0] 30 (0, 0)))
    have c2 := blk_cell HA1.out 2
    clear hA hS hb
    go_wp2_with fail
    refine (duty_both_at w.heap.size w1.heap.size (w.heap.size + 1) a0_0 a0_1 a0_2 a0_3 a0_2 a1 (.slice A0_4 l0_4.length c0_4) (.slice none 0 0) [1, 2, 3, 4] [] w.heap.size (w1.heap.size + 1) 4 (.cells #[.int .i64 1, .int .i64 2, .int .i64 3, .int .i64 4] 3 (0, 0)) (w1.alloc (.cells #[.slice none 0 0] 30 (0, 0))) (by simp) rfl rfl HA1.out HG1.out HS1.out (by omega) (by omega) (Kd.R_nil _ _ _ _ _) HB2.out.size (by omega) (by simp) (by simp)).mono ?_
    rintro e w2 ⟨v2, rfl, hA, hG, hS, ho, hb⟩
    obtain ⟨A2, d2, rfl⟩ := Kd.R_slice ho
    obtain ⟨F, hF⟩ : ∃ F, F = bothL a0_2 a1 a0_0 a0_1 [1, 2, 3, 4] ++ planT a1 a0_0 a0_1 l0_4 a0_3.toNat (a0_2 + 1) := ⟨_, rfl⟩
    have HF := Aside0.mk hF
    obtain ⟨z1, hz1⟩ : ∃ z1, z1 = [] ++ bothL a0_2 a1 a0_0 a0_1 [1, 2, 3, 4] := ⟨_, rfl⟩
    rw [← hz1] at ho hG
    have hzl : z1.length = 8 := by rw [hz1]; simp [bothL]
    have HF1 : Aside0 (z1 ++ planT a1 a0_0 a0_1 l0_4 a0_3.toNat (a0_2 + 1) = F) := ⟨by rw [hz1, hF]; simp⟩
    have HA := Aside0.mk hA; have HG := Aside0.mk hG; have HS := Aside0.mk hS; have HR := Aside0.mk ho; have HB := Aside0.mk (HB2.out.trans hb)
    clear hA hG hS ho hb hF hz1 HA1 HS1 HG1 HB1 HB2 c2
    generalize w1.heap.size = go at *
    have c2 := blk_cell HA.out 2
    have hw1 : IntKind.i64.wrap (a0_2 + 1) = a0_2 + 1 := IntWalk.i64_in _ (by omega)
    have hw2 : IntKind.i64.wrap (a0_2 + a0_3) = a0_2 + a0_3 := IntWalk.i64_in _ (by omega)
    have HW2 := Aside0.mk hw2
    clear hw2
    go_wp2
    clear c2 hw1
    go_loopg [10] a0_3.toNat (fun kq v10 w' => ∃ (t : Int) (A : Option Addr) (n cap : Nat) (zs : List S36), v10 = .int .i64 t ∧ t + kq = a0_2 + 1 + a0_3 ∧ 1 ≤ t ∧ (zs.length : Int) + 4 * kq ≤ 80 ∧ Aside0 (zs ++ planT a1 a0_0 a0_1 l0_4 kq t = F) ∧ Aside0 (w'.heap[w.heap.size]? = some (.cells #[.int .i64 a0_0, .int .i64 a0_1, .int .i64 a0_2, .int .i64 a0_3, .slice A0_4 l0_4.length c0_4] 26 (0, 0))) ∧ Aside0 (w'.heap[go]? = some (.cells #[.slice A n cap] 30 (0, 0))) ∧ Aside0 (w'.heap[w.heap.size + 1]? = some (.cells #[.int .i64 a1] 3 (0, 0))) ∧ Aside0 (Kd.R k36 36 w' w.heap.size (fun k => k ≠ go ∧ k ≠ w.heap.size ∧ k ≠ w.heap.size + 1) (.slice A n cap) zs) ∧ Aside0 (Below w.heap.size w w'))
    case atStart => exact ⟨a0_2 + 1, A2, z1.length, d2, z1, by go_num, by omega, by omega, by omega, HF1, HA, HG, HS, HR, HB⟩
    case round =>
      clear HA HG HS HR HB HF1
      obtain ⟨t, A, n, cap, zs, rfl, hk, ht1, hzn, HF1, HA, HG, HS, HR, HB⟩ := hrel
      have c2 := blk_cell HA.out 2
      have c3 := blk_cell HA.out 3
      have hw2 := HW2.out
      by_cases hlt : t ≤ a0_2 + a0_3
      · obtain ⟨m, rfl⟩ : ∃ m, gk = m + 1 := ⟨gk - 1, by omega⟩
        go_wp2_with fail
        refine (duty_both_at w.heap.size go (w.heap.size + 1) a0_0 a0_1 a0_2 a0_3 (t) a1 (.slice A0_4 l0_4.length c0_4) (.slice A n cap) [5] zs w.heap.size wr.heap.size 1 (.cells #[.int .i64 5] 3 (0, 0)) wr rfl rfl rfl HA.out HG.out HS.out (by omega) (by omega) HR.out HB.out.size (by omega) (by omega) (by simp)).mono ?_
        rintro e w2 ⟨v2, rfl, hA, hG, hS, ho, hb⟩
        obtain ⟨A2, d2, rfl⟩ := Kd.R_slice ho
        obtain ⟨z2, hz⟩ : ∃ z, z = zs ++ bothL (t) a1 a0_0 a0_1 [5] := ⟨_, rfl⟩
        rw [← hz] at ho hG
        have hzl2 : z2.length = zs.length + 2 := by rw [hz, List.length_append, bothL_length]; simp
        have HZ2 := Aside0.mk hz
        have HA2 := Aside0.mk hA; have HG2 := Aside0.mk hG; have HS2 := Aside0.mk hS; have HR2 := Aside0.mk ho; have HB2 := Aside0.mk (HB.out.trans hb)
        clear hA hG hS ho hb hz
        clear c2 c3
        have c4 := blk_cell HA2.out 4
        obtain ⟨kc, hc⟩ := contains_ok l0_4 (Kd.C_max HR0.out) t
        obtain ⟨bm, hbm⟩ : ∃ b, b = decide (t ∈ l0_4) := ⟨_, rfl⟩
        rw [← hbm] at hc
        have HC := Aside0.mk hc; have HBM := Aside0.mk hbm; clear hc hbm
        go_wp2_with fail
        refine (slices_Contains_int_int.calls kc A0_4 c0_4 l0_4 t bm _ (Kd.C_below HR0.out HB2.out) HC0.out HC.out).mono ?_
        rintro e w3 ⟨rfl, hd⟩
        obtain ⟨nd, rfl⟩ := hd.out
        clear c4 hd
        have HA3 : Aside0 ((w2.drewN nd).heap[w.heap.size]? = some (.cells #[.int .i64 a0_0, .int .i64 a0_1, .int .i64 a0_2, .int .i64 a0_3, .slice A0_4 l0_4.length c0_4] 26 (0, 0))) := ⟨HA2.out⟩
        have HG3 : Aside0 ((w2.drewN nd).heap[go]? = some (.cells #[.slice A2 z2.length d2] 30 (0, 0))) := ⟨HG2.out⟩
        have HS3 : Aside0 ((w2.drewN nd).heap[w.heap.size + 1]? = some (.cells #[.int .i64 a1] 3 (0, 0))) := ⟨HS2.out⟩
        have HR3 : Aside0 (Kd.R k36 36 (w2.drewN nd) w.heap.size (fun k => k ≠ go ∧ k ≠ w.heap.size ∧ k ≠ w.heap.size + 1) (.slice A2 z2.length d2) z2) := ⟨HR2.out⟩
        have HB3 : Aside0 (Below w.heap.size w (w2.drewN nd)) := ⟨pw_below_drewN HB2.out nd⟩
        clear HA2 HG2 HS2 HR2 HB2
        generalize w2.drewN nd = W3 at *
        cases bm
        · have HF2 : Aside0 (z2 ++ planT a1 a0_0 a0_1 l0_4 m (t + 1) = F) := ⟨by rw [← HF1.out, HZ2.out, planT, if_neg (of_decide_eq_false HBM.out.symm)]; simp⟩
          go_wp2
          go_roundg m
          case measure => omega
          case rel => exact ⟨t + 1, A2, z2.length, d2, z2, by go_num, by omega, by omega, by omega, HF2, HA3, HG3, HS3, HR3, HB3⟩
        · skip
          go_wp2_with fail
          refine (duty_both_at w.heap.size go (w.heap.size + 1) a0_0 a0_1 a0_2 a0_3 (t) a1 (.slice A0_4 l0_4.length c0_4) (.slice A2 z2.length d2) [6] z2 w.heap.size W3.heap.size 1 (.cells #[.int .i64 6] 3 (0, 0)) W3 rfl rfl rfl HA3.out HG3.out HS3.out (by omega) (by omega) HR3.out HB3.out.size (by omega) (by omega) (by simp)).mono ?_
          rintro e w4 ⟨v4, rfl, hA, hG, hS, ho, hb⟩
          obtain ⟨A4, d4, rfl⟩ := Kd.R_slice ho
          obtain ⟨z4, hz⟩ : ∃ z, z = z2 ++ bothL (t) a1 a0_0 a0_1 [6] := ⟨_, rfl⟩
          rw [← hz] at ho hG
          have hzl4 : z4.length = z2.length + 2 := by rw [hz, List.length_append, bothL_length]; simp
          have HZ4 := Aside0.mk hz
          have HA4 := Aside0.mk hA; have HG4 := Aside0.mk hG; have HS4 := Aside0.mk hS; have HR4 := Aside0.mk ho; have HB4 := Aside0.mk (HB3.out.trans hb)
          clear hA hG hS ho hb hz
          have HF2 : Aside0 (z4 ++ planT a1 a0_0 a0_1 l0_4 m (t + 1) = F) := ⟨by rw [← HF1.out, HZ4.out, HZ2.out, planT, if_pos (of_decide_eq_true HBM.out.symm)]; simp⟩
          go_wp2
          go_roundg m
          case measure => omega
          case rel => exact ⟨t + 1, A4, z4.length, d4, z4, by go_num, by omega, by omega, by omega, HF2, HA4, HG4, HS4, HR4, HB4⟩
      · obtain rfl : gk = 0 := by omega
        have hF1 : zs = F := by have := HF1.out; simpa [planT] using this
        cases a2
        · have e : planL a0_0 a0_1 a0_2 a0_3 l0_4 a1 false = zs := by rw [hF1, HF.out]; simp [planL]
          have HE := Aside0.mk e
          clear e hF1
          have c0 := blk_cell HG.out 0
          go_wp2
          go_ret2
          rw [HE.out]
          exact ⟨_, rfl, Kd.R_mono HR.out (fun _ _ => trivial), HB.out⟩
        · have hw3 : IntKind.i64.wrap (a0_2 + a0_3 + 1) = a0_2 + a0_3 + 1 := IntWalk.i64_in _ (by omega)
          have HFF := Aside0.mk hF1
          clear hF1
          go_wp2_with fail
          refine (duty_both_at w.heap.size go (w.heap.size + 1) a0_0 a0_1 a0_2 a0_3 (a0_2 + a0_3 + 1) a1 (.slice A0_4 l0_4.length c0_4) (.slice A n cap) [7] zs w.heap.size wr.heap.size 1 (.cells #[.int .i64 7] 3 (0, 0)) wr rfl rfl rfl HA.out HG.out HS.out (by omega) (by omega) HR.out HB.out.size (by omega) (by omega) (by simp)).mono ?_
          rintro e w2 ⟨v2, rfl, hA, hG, hS, ho, hb⟩
          obtain ⟨A2, d2, rfl⟩ := Kd.R_slice ho
          obtain ⟨z2, hz⟩ : ∃ z, z = zs ++ bothL (a0_2 + a0_3 + 1) a1 a0_0 a0_1 [7] := ⟨_, rfl⟩
          rw [← hz] at ho hG
          have hzl2 : z2.length = zs.length + 2 := by rw [hz, List.length_append, bothL_length]; simp
          have HZ2 := Aside0.mk hz
          have HA2 := Aside0.mk hA; have HG2 := Aside0.mk hG; have HS2 := Aside0.mk hS; have HR2 := Aside0.mk ho; have HB2 := Aside0.mk (HB.out.trans hb)
          clear hA hG hS ho hb hz
          have e : planL a0_0 a0_1 a0_2 a0_3 l0_4 a1 true = z2 := by rw [HZ2.out, HFF.out, HF.out]; simp [planL]
          have HE := Aside0.mk e
          clear e c2 c3 hzl2
          have c0 := blk_cell HG2.out 0
          go_wp2
          go_ret2
          rw [HE.out]
          exact ⟨_, rfl, Kd.R_mono HR2.out (fun _ _ => trivial), HB2.out⟩


/-! ### slot_Next: function 40 -/
set_option maxHeartbeats 4000000 in
set_option maxRecDepth 100000 in
theorem slot_Next_none (p q st te : Int) (A : Option Addr) (c : Nat) (l : List Int) (hl : l.length < 17592186044416) (sp : Int) (s : SlotS) (kk : Nat) (L : List S36) (hs0 : (L.length : Int) ≤ sp) (w : World) (hr : Kd.C (Kd.int .i64) w A l.length l) (hc : l.length ≤ c) (hp : duty_Plan.f kk p q st te l 0 true = some (L, 0)) :
    Calls Tryd.prog 40 #[.agg #[.int .i64 p, .int .i64 q, .int .i64 st, .int .i64 te, .slice A l.length c, .int .i64 sp, .int .i64 s.c0, .int .i64 s.c1, .bool s.h0, .bool s.h1, .bool s.t0, .bool s.t1, .bool s.en, .int .i64 s.bl]] w fun e w' => e = .returned (.tuple #[.agg #[.int .i64 0, .int .i64 0, .int .i64 0, .int .i64 0], .bool false]) ∧ Below w.heap.size w w' := by
  have hu := Tryd.underlying54
  have hu4 := Tryd.underlying26
  have hu5 := Tryd.underlying36
  have HR := Aside0.mk hr
  have HP := Aside0.mk hp
  clear hr hp
  obtain ⟨c0, c1, h0, h1, t0, t1, en, bl⟩ := s
  go_enter Tryd.func40, Tryd.ntmps40
  go_upto_region 1 with (fail)
  have q1 : ((w.alloc (.cells #[.int .i64 p, .int .i64 q, .int .i64 st, .int .i64 te, .slice A l.length c, .int .i64 sp, .int .i64 c0, .int .i64 c1, .bool h0, .bool h1, .bool t0, .bool t1, .bool en, .int .i64 bl] 54)).alloc (.cells #[.int .i64 0, .int .i64 0, .int .i64 0, .int .i64 0] 36)).heap[w.heap.size]? = some (.cells #[.int .i64 p, .int .i64 q, .int .i64 st, .int .i64 te, .slice A l.length c, .int .i64 sp, .int .i64 c0, .int .i64 c1, .bool h0, .bool h1, .bool t0, .bool t1, .bool en, .int .i64 bl] 54 (0, 0)) := blk_alloc (blk_new w _) _
  have q2 : ((w.alloc (.cells #[.int .i64 p, .int .i64 q, .int .i64 st, .int .i64 te, .slice A l.length c, .int .i64 sp, .int .i64 c0, .int .i64 c1, .bool h0, .bool h1, .bool t0, .bool t1, .bool en, .int .i64 bl] 54)).alloc (.cells #[.int .i64 0, .int .i64 0, .int .i64 0, .int .i64 0] 36)).heap[w.heap.size + 1]? = some (.cells #[.int .i64 0, .int .i64 0, .int .i64 0, .int .i64 0] 36 (0, 0)) := by have := blk_new (w.alloc (.cells #[.int .i64 p, .int .i64 q, .int .i64 st, .int .i64 te, .slice A l.length c, .int .i64 sp, .int .i64 c0, .int .i64 c1, .bool h0, .bool h1, .bool t0, .bool t1, .bool en, .int .i64 bl] 54)) (.cells #[.int .i64 0, .int .i64 0, .int .i64 0, .int .i64 0] 36); simpa using this
  have q3 : Below w.heap.size w ((w.alloc (.cells #[.int .i64 p, .int .i64 q, .int .i64 st, .int .i64 te, .slice A l.length c, .int .i64 sp, .int .i64 c0, .int .i64 c1, .bool h0, .bool h1, .bool t0, .bool t1, .bool en, .int .i64 bl] 54)).alloc (.cells #[.int .i64 0, .int .i64 0, .int .i64 0, .int .i64 0] 36)) := below_alloc (below_alloc (Below.refl _ _) _) _
  have q4 := Kd.C_below HR.out q3
  obtain ⟨gs, hgs⟩ : ∃ gs, gs = w.heap.size := ⟨_, rfl⟩
  obtain ⟨gr, hgr⟩ : ∃ gr, gr = w.heap.size + 1 := ⟨_, rfl⟩
  generalize ((w.alloc (.cells #[.int .i64 p, .int .i64 q, .int .i64 st, .int .i64 te, .slice A l.length c, .int .i64 sp, .int .i64 c0, .int .i64 c1, .bool h0, .bool h1, .bool t0, .bool t1, .bool en, .int .i64 bl] 54)).alloc (.cells #[.int .i64 0, .int .i64 0, .int .i64 0, .int .i64 0] 36)) = W2 at *
  rw [← hgr] at q2 ⊢
  rw [← hgs] at q1 ⊢
  have x0 := blk_cell q1 0; have x1 := blk_cell q1 1; have x2 := blk_cell q1 2; have x3 := blk_cell q1 3; have x4 := blk_cell q1 4; have x5 := blk_cell q1 5
  have hge2 : w.heap.size ≤ gr := by omega
  have BS := Aside0.mk q1; have BR := Aside0.mk q2; have HB := Aside0.mk q3; have HC := Aside0.mk q4
  clear q1 q2 q3 q4 hgs hgr
  go_wp2_with fail
  refine (duty_Plan.calls kk p q st te A c l 0 true L 0 _ HC.out hc HP.out).mono ?_
  rintro e w3 ⟨v0, rfl, ho, hb⟩
  obtain ⟨B, d, rfl, hd, hcl⟩ := Kd.R_reads ho
  have BS3 := Aside0.mk ((hb.block gs (blk_lt BS.out)).trans BS.out)
  have BR3 := Aside0.mk ((hb.block gr (blk_lt BR.out)).trans BR.out)
  have HB3 := Aside0.mk (below_step HB.out hb)
  have HL3 := Aside0.mk hcl
  clear ho hb hcl x0 x1 x2 x3 x4 x5
  have x5 := blk_cell BS3.out 5
  have hneg : ¬ sp < 0 := by omega
  have z0 := blk_cell BR3.out 0; have z1 := blk_cell BR3.out 1; have z2 := blk_cell BR3.out 2; have z3 := blk_cell BR3.out 3; have zf0 := blk_frozen BR3.out 0; have zf1 := blk_frozen BR3.out 1; have zf2 := blk_frozen BR3.out 2; have zf3 := blk_frozen BR3.out 3
  go_wp2
  refine bodyPost_ret (results_ct rfl _ _ gr 36 #[.int .i64 0, .int .i64 0, .int .i64 0, .int .i64 0] (0, 0) _ rfl (by exact blk_set (blk_set (blk_set (blk_set BR3.out 0 _) 1 _) 2 _) 3 _) Tryd.underlying36 rfl (by kernel_rfl)) rfl ?_
  exact ⟨rfl, below_set (below_set (below_set (below_set HB3.out hge2) hge2) hge2) hge2⟩

set_option maxHeartbeats 4000000 in
set_option maxRecDepth 100000 in
theorem slot_Next_some (p q st te : Int) (A : Option Addr) (c : Nat) (l : List Int) (hl : l.length < 17592186044416) (sp : Int) (s : SlotS) (kk : Nat) (L : List S36) (hs0 : 0 ≤ sp) (hs1 : sp < (L.length : Int)) (w : World) (hr : Kd.C (Kd.int .i64) w A l.length l) (hc : l.length ≤ c) (hp : duty_Plan.f kk p q st te l 0 true = some (L, 0)) :
    Calls Tryd.prog 40 #[.agg #[.int .i64 p, .int .i64 q, .int .i64 st, .int .i64 te, .slice A l.length c, .int .i64 sp, .int .i64 s.c0, .int .i64 s.c1, .bool s.h0, .bool s.h1, .bool s.t0, .bool s.t1, .bool s.en, .int .i64 s.bl]] w fun e w' => e = .returned (.tuple #[.agg #[.int .i64 (rd_T36 L sp).f0, .int .i64 (rd_T36 L sp).f1, .int .i64 (rd_T36 L sp).f2, .int .i64 (rd_T36 L sp).f3], .bool true]) ∧ Below w.heap.size w w' := by
  have hu := Tryd.underlying54
  have hu4 := Tryd.underlying26
  have hu5 := Tryd.underlying36
  have HR := Aside0.mk hr
  have HP := Aside0.mk hp
  clear hr hp
  obtain ⟨c0, c1, h0, h1, t0, t1, en, bl⟩ := s
  go_enter Tryd.func40, Tryd.ntmps40
  go_upto_region 1 with (fail)
  have q1 : ((w.alloc (.cells #[.int .i64 p, .int .i64 q, .int .i64 st, .int .i64 te, .slice A l.length c, .int .i64 sp, .int .i64 c0, .int .i64 c1, .bool h0, .bool h1, .bool t0, .bool t1, .bool en, .int .i64 bl] 54)).alloc (.cells #[.int .i64 0, .int .i64 0, .int .i64 0, .int .i64 0] 36)).heap[w.heap.size]? = some (.cells #[.int .i64 p, .int .i64 q, .int .i64 st, .int .i64 te, .slice A l.length c, .int .i64 sp, .int .i64 c0, .int .i64 c1, .bool h0, .bool h1, .bool t0, .bool t1, .bool en, .int .i64 bl] 54 (0, 0)) := blk_alloc (blk_new w _) _
  have q2 : ((w.alloc (.cells #[.int .i64 p, .int .i64 q, .int .i64 st, .int .i64 te, .slice A l.length c, .int .i64 sp, .int .i64 c0, .int .i64 c1, .bool h0, .bool h1, .bool t0, .bool t1, .bool en, .int .i64 bl] 54)).alloc (.cells #[.int .i64 0, .int .i64 0, .int .i64 0, .int .i64 0] 36)).heap[w.heap.size + 1]? = some (.cells #[.int .i64 0, .int .i64 0, .int .i64 0, .int .i64 0] 36 (0, 0)) := by have := blk_new (w.alloc (.cells #[.int .i64 p, .int .i64 q, .int .i64 st, .int .i64 te, .slice A l.length c, .int .i64 sp, .int .i64 c0, .int .i64 c1, .bool h0, .bool h1, .bool t0, .bool t1, .bool en, .int .i64 bl] 54)) (.cells #[.int .i64 0, .int .i64 0, .int .i64 0, .int .i64 0] 36); simpa using this
  have q3 : Below w.heap.size w ((w.alloc (.cells #[.int .i64 p, .int .i64 q, .int .i64 st, .int .i64 te, .slice A l.length c, .int .i64 sp, .int .i64 c0, .int .i64 c1, .bool h0, .bool h1, .bool t0, .bool t1, .bool en, .int .i64 bl] 54)).alloc (.cells #[.int .i64 0, .int .i64 0, .int .i64 0, .int .i64 0] 36)) := below_alloc (below_alloc (Below.refl _ _) _) _
  have q4 := Kd.C_below HR.out q3
  obtain ⟨gs, hgs⟩ : ∃ gs, gs = w.heap.size := ⟨_, rfl⟩
  obtain ⟨gr, hgr⟩ : ∃ gr, gr = w.heap.size + 1 := ⟨_, rfl⟩
  generalize ((w.alloc (.cells #[.int .i64 p, .int .i64 q, .int .i64 st, .int .i64 te, .slice A l.length c, .int .i64 sp, .int .i64 c0, .int .i64 c1, .bool h0, .bool h1, .bool t0, .bool t1, .bool en, .int .i64 bl] 54)).alloc (.cells #[.int .i64 0, .int .i64 0, .int .i64 0, .int .i64 0] 36)) = W2 at *
  rw [← hgr] at q2 ⊢
  rw [← hgs] at q1 ⊢
  have x0 := blk_cell q1 0; have x1 := blk_cell q1 1; have x2 := blk_cell q1 2; have x3 := blk_cell q1 3; have x4 := blk_cell q1 4; have x5 := blk_cell q1 5
  have hge2 : w.heap.size ≤ gr := by omega
  have BS := Aside0.mk q1; have BR := Aside0.mk q2; have HB := Aside0.mk q3; have HC := Aside0.mk q4
  clear q1 q2 q3 q4 hgs hgr
  go_wp2_with fail
  refine (duty_Plan.calls kk p q st te A c l 0 true L 0 _ HC.out hc HP.out).mono ?_
  rintro e w3 ⟨v0, rfl, ho, hb⟩
  obtain ⟨B, d, rfl, hd, hcl⟩ := Kd.R_reads ho
  have BS3 := Aside0.mk ((hb.block gs (blk_lt BS.out)).trans BS.out)
  have BR3 := Aside0.mk ((hb.block gr (blk_lt BR.out)).trans BR.out)
  have HB3 := Aside0.mk (below_step HB.out hb)
  have HL3 := Aside0.mk hcl
  clear ho hb hcl x0 x1 x2 x3 x4 x5
  have x5 := blk_cell BS3.out 5
  have hneg : ¬ sp < 0 := by omega
  obtain ⟨ad, ead, y0, y1, y2, y3⟩ := at_T36 HL3.out sp hs0 hs1
  cases ead
  have z0 := blk_cell BR3.out 0; have z1 := blk_cell BR3.out 1; have z2 := blk_cell BR3.out 2; have z3 := blk_cell BR3.out 3; have zf0 := blk_frozen BR3.out 0; have zf1 := blk_frozen BR3.out 1; have zf2 := blk_frozen BR3.out 2; have zf3 := blk_frozen BR3.out 3
  go_wp2
  refine bodyPost_ret (results_ct rfl _ _ gr 36 #[.int .i64 (rd_T36 L sp).f0, .int .i64 (rd_T36 L sp).f1, .int .i64 (rd_T36 L sp).f2, .int .i64 (rd_T36 L sp).f3] (0, 0) _ rfl (by exact blk_set (blk_set (blk_set (blk_set BR3.out 0 _) 1 _) 2 _) 3 _) Tryd.underlying36 rfl (by kernel_rfl)) rfl ?_
  exact ⟨rfl, below_set (below_set (below_set (below_set HB3.out hge2) hge2) hge2) hge2⟩

def slot_Next.f (k : Nat) (a0_0 : Int) (a0_1 : Int) (a0_2 : Int) (a0_3 : Int) (l0_4 : List Int) (a0_5 : Int) (a0_6 : Int) (a0_7 : Int) (a0_8 : Bool) (a0_9 : Bool) (a0_10 : Bool) (a0_11 : Bool) (a0_12 : Bool) (a0_13 : Int) : Option (Int × Int × Int × Int × Bool) := if l0_4.length < 17592186044416 then (duty_Plan.f k a0_0 a0_1 a0_2 a0_3 l0_4 0 true).bind fun t => if t.2 = 0 ∧ 0 ≤ a0_5 then (if a0_5 < (t.1.length : Int) then some ((rd_T36 t.1 a0_5).f0, (rd_T36 t.1 a0_5).f1, (rd_T36 t.1 a0_5).f2, (rd_T36 t.1 a0_5).f3, true) else some (0, 0, 0, 0, false)) else none else none
theorem slot_Next.mono : ∀ a0 a1 a2 a3 a4 a5 a6 a7 a8 a9 a10 a11 a12 a13 k, LeO (slot_Next.f k a0 a1 a2 a3 a4 a5 a6 a7 a8 a9 a10 a11 a12 a13) (slot_Next.f (k + 1) a0 a1 a2 a3 a4 a5 a6 a7 a8 a9 a10 a11 a12 a13) := by
  intro a0 a1 a2 a3 a4 a5 a6 a7 a8 a9 a10 a11 a12 a13 k
  unfold slot_Next.f
  exact LeO.ite (LeO.bind (duty_Plan.mono _ _ _ _ _ _ _ _) (fun _ => LeO.refl _)) (LeO.refl _)
theorem slot_Next.calls (k : Nat) (a0_0 : Int) (a0_1 : Int) (a0_2 : Int) (a0_3 : Int) (A0_4 : Option Addr) (c0_4 : Nat) (l0_4 : List Int) (a0_5 : Int) (a0_6 : Int) (a0_7 : Int) (a0_8 : Bool) (a0_9 : Bool) (a0_10 : Bool) (a0_11 : Bool) (a0_12 : Bool) (a0_13 : Int) (r1 : Int) (r2 : Int) (r3 : Int) (r4 : Int) (r5 : Bool) (w : World) (hr0_4 : Kd.C (Kd.int .i64) w A0_4 l0_4.length l0_4) (hc0_4 : l0_4.length ≤ c0_4) (h : slot_Next.f k a0_0 a0_1 a0_2 a0_3 l0_4 a0_5 a0_6 a0_7 a0_8 a0_9 a0_10 a0_11 a0_12 a0_13 = some (r1, r2, r3, r4, r5)) :
    Calls Tryd.prog 40 #[.agg #[.int .i64 a0_0, .int .i64 a0_1, .int .i64 a0_2, .int .i64 a0_3, .slice A0_4 l0_4.length c0_4, .int .i64 a0_5, .int .i64 a0_6, .int .i64 a0_7, .bool a0_8, .bool a0_9, .bool a0_10, .bool a0_11, .bool a0_12, .int .i64 a0_13]] w fun e w' => e = .returned (.tuple #[.agg #[.int .i64 r1, .int .i64 r2, .int .i64 r3, .int .i64 r4], .bool r5]) ∧ Below w.heap.size w w' := by
  unfold slot_Next.f at h
  split at h
  · rename_i hl
    obtain ⟨⟨L, e⟩, ht, h⟩ := Option.bind_eq_some_iff.mp h
    (try dsimp only at h)
    split at h
    · rename_i hh
      obtain ⟨rfl, hs0⟩ := hh
      split at h
      · rename_i hs1
        simp only [Option.some.injEq, Prod.mk.injEq] at h
        obtain ⟨rfl, rfl, rfl, rfl, rfl⟩ := h
        exact slot_Next_some a0_0 a0_1 a0_2 a0_3 A0_4 c0_4 l0_4 hl a0_5 ⟨a0_6, a0_7, a0_8, a0_9, a0_10, a0_11, a0_12, a0_13⟩ k L hs0 hs1 w hr0_4 hc0_4 ht
      · rename_i hs1
        simp only [Option.some.injEq, Prod.mk.injEq] at h
        obtain ⟨rfl, rfl, rfl, rfl, rfl⟩ := h
        exact slot_Next_none a0_0 a0_1 a0_2 a0_3 A0_4 c0_4 l0_4 hl a0_5 ⟨a0_6, a0_7, a0_8, a0_9, a0_10, a0_11, a0_12, a0_13⟩ k L (by omega) w hr0_4 hc0_4 ht
    · cases h
  · cases h


/-! ### slot_own: function 70 -/
set_option maxHeartbeats 4000000 in
set_option maxRecDepth 100000 in
theorem slotfn_own (p q st te : Int) (A : Option Addr) (c : Nat) (l : List Int) (hl : l.length < 17592186044416) (sp : Int) (s : SlotS) (w : World) (hr : Kd.C (Kd.int .i64) w A l.length l) (hc : l.length ≤ c) :
    Calls Tryd.prog 70 #[.agg #[.int .i64 p, .int .i64 q, .int .i64 st, .int .i64 te, .slice A l.length c, .int .i64 sp, .int .i64 s.c0, .int .i64 s.c1, .bool s.h0, .bool s.h1, .bool s.t0, .bool s.t1, .bool s.en, .int .i64 s.bl]] w fun e w' => ∃ (B : Option Addr) (d : Nat), e = .returned (.agg #[.int .i64 p, .int .i64 q, .int .i64 st, .int .i64 te, .slice B l.length d, .int .i64 sp, .int .i64 s.c0, .int .i64 s.c1, .bool s.h0, .bool s.h1, .bool s.t0, .bool s.t1, .bool s.en, .int .i64 s.bl]) ∧ Kd.R (Kd.int .i64) 3 w' w.heap.size (fun _ => True) (.slice B l.length d) l ∧ Below w.heap.size w w' := by
  have hu := Tryd.underlying54
  have hu4 := Tryd.underlying26
  have HR := Aside0.mk hr
  clear hr
  obtain ⟨c0, c1, h0, h1, t0, t1, en, bl⟩ := s
  go_enter Tryd.func70, Tryd.ntmps70
  go_upto_region 1 with (fail)
  have q1 : ((w.alloc (.cells #[.int .i64 p, .int .i64 q, .int .i64 st, .int .i64 te, .slice A l.length c, .int .i64 sp, .int .i64 c0, .int .i64 c1, .bool h0, .bool h1, .bool t0, .bool t1, .bool en, .int .i64 bl] 54)).alloc (.cells #[.int .i64 0, .int .i64 0, .int .i64 0, .int .i64 0, .slice none 0 0, .int .i64 0, .int .i64 0, .int .i64 0, .bool false, .bool false, .bool false, .bool false, .bool false, .int .i64 0] 54)).heap[w.heap.size]? = some (.cells #[.int .i64 p, .int .i64 q, .int .i64 st, .int .i64 te, .slice A l.length c, .int .i64 sp, .int .i64 c0, .int .i64 c1, .bool h0, .bool h1, .bool t0, .bool t1, .bool en, .int .i64 bl] 54 (0, 0)) := blk_alloc (blk_new w _) _
  have q2 : ((w.alloc (.cells #[.int .i64 p, .int .i64 q, .int .i64 st, .int .i64 te, .slice A l.length c, .int .i64 sp, .int .i64 c0, .int .i64 c1, .bool h0, .bool h1, .bool t0, .bool t1, .bool en, .int .i64 bl] 54)).alloc (.cells #[.int .i64 0, .int .i64 0, .int .i64 0, .int .i64 0, .slice none 0 0, .int .i64 0, .int .i64 0, .int .i64 0, .bool false, .bool false, .bool false, .bool false, .bool false, .int .i64 0] 54)).heap[w.heap.size + 1]? = some (.cells #[.int .i64 0, .int .i64 0, .int .i64 0, .int .i64 0, .slice none 0 0, .int .i64 0, .int .i64 0, .int .i64 0, .bool false, .bool false, .bool false, .bool false, .bool false, .int .i64 0] 54 (0, 0)) := by have := blk_new (w.alloc (.cells #[.int .i64 p, .int .i64 q, .int .i64 st, .int .i64 te, .slice A l.length c, .int .i64 sp, .int .i64 c0, .int .i64 c1, .bool h0, .bool h1, .bool t0, .bool t1, .bool en, .int .i64 bl] 54)) (.cells #[.int .i64 0, .int .i64 0, .int .i64 0, .int .i64 0, .slice none 0 0, .int .i64 0, .int .i64 0, .int .i64 0, .bool false, .bool false, .bool false, .bool false, .bool false, .int .i64 0] 54); simpa using this
  have q3 : Below w.heap.size w ((w.alloc (.cells #[.int .i64 p, .int .i64 q, .int .i64 st, .int .i64 te, .slice A l.length c, .int .i64 sp, .int .i64 c0, .int .i64 c1, .bool h0, .bool h1, .bool t0, .bool t1, .bool en, .int .i64 bl] 54)).alloc (.cells #[.int .i64 0, .int .i64 0, .int .i64 0, .int .i64 0, .slice none 0 0, .int .i64 0, .int .i64 0, .int .i64 0, .bool false, .bool false, .bool false, .bool false, .bool false, .int .i64 0] 54)) := below_alloc (below_alloc (Below.refl _ _) _) _
  have q4 := Kd.C_below HR.out q3
  have q7 : ((w.alloc (.cells #[.int .i64 p, .int .i64 q, .int .i64 st, .int .i64 te, .slice A l.length c, .int .i64 sp, .int .i64 c0, .int .i64 c1, .bool h0, .bool h1, .bool t0, .bool t1, .bool en, .int .i64 bl] 54)).alloc (.cells #[.int .i64 0, .int .i64 0, .int .i64 0, .int .i64 0, .slice none 0 0, .int .i64 0, .int .i64 0, .int .i64 0, .bool false, .bool false, .bool false, .bool false, .bool false, .int .i64 0] 54)).heap.size = w.heap.size + 2 := by simp
  obtain ⟨gs, hgs⟩ : ∃ gs, gs = w.heap.size := ⟨_, rfl⟩
  obtain ⟨gr, hgr⟩ : ∃ gr, gr = w.heap.size + 1 := ⟨_, rfl⟩
  generalize ((w.alloc (.cells #[.int .i64 p, .int .i64 q, .int .i64 st, .int .i64 te, .slice A l.length c, .int .i64 sp, .int .i64 c0, .int .i64 c1, .bool h0, .bool h1, .bool t0, .bool t1, .bool en, .int .i64 bl] 54)).alloc (.cells #[.int .i64 0, .int .i64 0, .int .i64 0, .int .i64 0, .slice none 0 0, .int .i64 0, .int .i64 0, .int .i64 0, .bool false, .bool false, .bool false, .bool false, .bool false, .int .i64 0] 54)) = W2 at *
  rw [← hgr] at q2 ⊢
  rw [← hgs] at q1 ⊢
  have x4 := blk_cell q1 4
  have n1 : gr ≠ gs := by omega
  have hge : w.heap.size ≤ gs := by omega
  have hge2 : w.heap.size ≤ gr := by omega
  have BS := Aside0.mk q1; have BR := Aside0.mk q2; have HB := Aside0.mk q3; have HC := Aside0.mk q4; have HSZ := Aside0.mk q7
  clear q1 q2 q3 q4 q7 hgs hgr
  go_wp2_with fail
  refine (ints_clone A c l hl _ HC.out hc).mono ?_
  rintro e w3 ⟨v0, rfl, ho, hb⟩
  obtain ⟨B, d, rfl⟩ := Kd.R_slice ho
  have hsz := HSZ.out
  have BS3 := (hb.block gs (blk_lt BS.out)).trans BS.out
  have BR3 := (hb.block gr (blk_lt BR.out)).trans BR.out
  have HB3 := below_step HB.out hb
  have o1 : Kd.R (Kd.int .i64) 3 w3 w.heap.size (fun k => True) (.slice B l.length d) l := Kd.R_lower ho (by omega)
  have f4 := blk_frozen BS3 4; have y4 := blk_cell BS3 4
  have BS4 := Aside0.mk (blk_set BS3 4 (.slice B l.length d))
  have BR4 := Aside0.mk (blk_far BR3 (p := ⟨gs, 4, none⟩) n1 (.slice B l.length d))
  have HB4 := Aside0.mk (HB3.setCell (p := ⟨gs, 4, none⟩) hge (.slice B l.length d))
  have o2 := Kd.R_set o1 BS3 (by decide) 4 (.slice B l.length d)
  have O1 := Aside0.mk o2
  clear ho hb BS3 BR3 HB3 o1 o2 x4 hsz
  go_upto_region 2 with (fail)
  clear y4 f4
  generalize w3.setCell ⟨gs, 4, none⟩ (.slice B l.length d) = W4 at *
  have x0 := blk_cell BS4.out 0; have x1 := blk_cell BS4.out 1; have x2 := blk_cell BS4.out 2; have x3 := blk_cell BS4.out 3; have x4 := blk_cell BS4.out 4; have x5 := blk_cell BS4.out 5; have x6 := blk_cell BS4.out 6; have x7 := blk_cell BS4.out 7; have x8 := blk_cell BS4.out 8; have x9 := blk_cell BS4.out 9; have x10 := blk_cell BS4.out 10; have x11 := blk_cell BS4.out 11; have x12 := blk_cell BS4.out 12; have x13 := blk_cell BS4.out 13
  have z0 := blk_cell BR4.out 0; have z1 := blk_cell BR4.out 1; have z2 := blk_cell BR4.out 2; have z3 := blk_cell BR4.out 3; have z4 := blk_cell BR4.out 4; have z5 := blk_cell BR4.out 5; have z6 := blk_cell BR4.out 6; have z7 := blk_cell BR4.out 7; have z8 := blk_cell BR4.out 8; have z9 := blk_cell BR4.out 9; have z10 := blk_cell BR4.out 10; have z11 := blk_cell BR4.out 11; have z12 := blk_cell BR4.out 12; have z13 := blk_cell BR4.out 13; have zf0 := blk_frozen BR4.out 0; have zf1 := blk_frozen BR4.out 1; have zf2 := blk_frozen BR4.out 2; have zf3 := blk_frozen BR4.out 3; have zf4 := blk_frozen BR4.out 4; have zf5 := blk_frozen BR4.out 5; have zf6 := blk_frozen BR4.out 6; have zf7 := blk_frozen BR4.out 7; have zf8 := blk_frozen BR4.out 8; have zf9 := blk_frozen BR4.out 9; have zf10 := blk_frozen BR4.out 10; have zf11 := blk_frozen BR4.out 11; have zf12 := blk_frozen BR4.out 12; have zf13 := blk_frozen BR4.out 13
  go_wp2
  refine bodyPost_ret (results_cell_row rfl _ _ gr 54 #[.int .i64 p, .int .i64 q, .int .i64 st, .int .i64 te, .slice B l.length d, .int .i64 sp, .int .i64 c0, .int .i64 c1, .bool h0, .bool h1, .bool t0, .bool t1, .bool en, .int .i64 bl] (0, 0) _ rfl (by exact zset14 BR4.out _ _ _ _ _ _ _ _ _ _ _ _ _ _) Tryd.underlying54 rfl (by kernel_rfl)) rfl ?_
  exact ⟨B, d, rfl, zset14_R O1.out (by decide) BR4.out _ _ _ _ _ _ _ _ _ _ _ _ _ _, zset14_B HB4.out hge2 _ _ _ _ _ _ _ _ _ _ _ _ _ _⟩

def slot_own.f (a0_0 : Int) (a0_1 : Int) (a0_2 : Int) (a0_3 : Int) (l0_4 : List Int) (a0_5 : Int) (a0_6 : Int) (a0_7 : Int) (a0_8 : Bool) (a0_9 : Bool) (a0_10 : Bool) (a0_11 : Bool) (a0_12 : Bool) (a0_13 : Int) : Option (Int × Int × Int × Int × (List Int) × Int × Int × Int × Bool × Bool × Bool × Bool × Bool × Int) := if l0_4.length < 17592186044416 then some (a0_0, a0_1, a0_2, a0_3, l0_4, a0_5, a0_6, a0_7, a0_8, a0_9, a0_10, a0_11, a0_12, a0_13) else none
theorem slot_own.calls (a0_0 : Int) (a0_1 : Int) (a0_2 : Int) (a0_3 : Int) (A0_4 : Option Addr) (c0_4 : Nat) (l0_4 : List Int) (a0_5 : Int) (a0_6 : Int) (a0_7 : Int) (a0_8 : Bool) (a0_9 : Bool) (a0_10 : Bool) (a0_11 : Bool) (a0_12 : Bool) (a0_13 : Int) (r1 : Int) (r2 : Int) (r3 : Int) (r4 : Int) (r5 : List Int) (r6 : Int) (r7 : Int) (r8 : Int) (r9 : Bool) (r10 : Bool) (r11 : Bool) (r12 : Bool) (r13 : Bool) (r14 : Int) (w : World) (hr0_4 : Kd.C (Kd.int .i64) w A0_4 l0_4.length l0_4) (hc0_4 : l0_4.length ≤ c0_4) (h : slot_own.f a0_0 a0_1 a0_2 a0_3 l0_4 a0_5 a0_6 a0_7 a0_8 a0_9 a0_10 a0_11 a0_12 a0_13 = some (r1, r2, r3, r4, r5, r6, r7, r8, r9, r10, r11, r12, r13, r14)) :
    Calls Tryd.prog 70 #[.agg #[.int .i64 a0_0, .int .i64 a0_1, .int .i64 a0_2, .int .i64 a0_3, .slice A0_4 l0_4.length c0_4, .int .i64 a0_5, .int .i64 a0_6, .int .i64 a0_7, .bool a0_8, .bool a0_9, .bool a0_10, .bool a0_11, .bool a0_12, .int .i64 a0_13]] w fun e w' => ∃ v4_ : Value, e = .returned (.agg #[.int .i64 r1, .int .i64 r2, .int .i64 r3, .int .i64 r4, v4_, .int .i64 r6, .int .i64 r7, .int .i64 r8, .bool r9, .bool r10, .bool r11, .bool r12, .bool r13, .int .i64 r14]) ∧ Kd.R (Kd.int .i64) 3 w' w.heap.size (fun _ => True) v4_ r5 ∧ Below w.heap.size w w' := by
  unfold slot_own.f at h
  split at h
  · rename_i hl
    simp only [Option.some.injEq, Prod.mk.injEq] at h
    obtain ⟨rfl, rfl, rfl, rfl, rfl, rfl, rfl, rfl, rfl, rfl, rfl, rfl, rfl, rfl⟩ := h
    refine (slotfn_own a0_0 a0_1 a0_2 a0_3 A0_4 c0_4 l0_4 hl a0_5 ⟨a0_6, a0_7, a0_8, a0_9, a0_10, a0_11, a0_12, a0_13⟩ w hr0_4 hc0_4).mono ?_
    rintro e w' ⟨B, d, rfl, ho, hb⟩
    exact ⟨_, rfl, ho, hb⟩
  · cases h


/-! ### slot_Step: function 37 -/
set_option maxHeartbeats 40000000 in
set_option maxRecDepth 100000 in
theorem slot_Step_some (p q st te : Int) (A : Option Addr) (c : Nat) (l : List Int) (hl : l.length < 17592186044416) (sp : Int) (s : SlotS) (kk : Nat) (L : List S36) (how : Int) (hs0 : 0 ≤ sp) (hs1 : sp < (L.length : Int)) (hs2 : sp < 1000000) (hh0 : 0 ≤ how) (hh1 : how ≤ 3) (hpe : (rd_T36 L sp).f2 = p ∨ (rd_T36 L sp).f2 = q) (w : World) (hr : Kd.C (Kd.int .i64) w A l.length l) (hc : l.length ≤ c) (hL : Laid w) (hp : duty_Plan.f kk p q st te l 0 true = some (L, 0)) :
    Calls Tryd.prog 37 #[.agg #[.int .i64 p, .int .i64 q, .int .i64 st, .int .i64 te, .slice A l.length c, .int .i64 sp, .int .i64 s.c0, .int .i64 s.c1, .bool s.h0, .bool s.h1, .bool s.t0, .bool s.t1, .bool s.en, .int .i64 s.bl], .int .i64 how] w fun e w' => ∃ (B : Option Addr) (d : Nat), e = .returned (.tuple #[.agg #[.int .i64 p, .int .i64 q, .int .i64 st, .int .i64 te, .slice B l.length d, .int .i64 (sp + 1), .int .i64 (doF (if (rd_T36 L sp).f2 = p then 0 else 1) (rd_T36 L sp).f2 (rd_T36 L sp).f3 how s).c0, .int .i64 (doF (if (rd_T36 L sp).f2 = p then 0 else 1) (rd_T36 L sp).f2 (rd_T36 L sp).f3 how s).c1, .bool (doF (if (rd_T36 L sp).f2 = p then 0 else 1) (rd_T36 L sp).f2 (rd_T36 L sp).f3 how s).h0, .bool (doF (if (rd_T36 L sp).f2 = p then 0 else 1) (rd_T36 L sp).f2 (rd_T36 L sp).f3 how s).h1, .bool (doF (if (rd_T36 L sp).f2 = p then 0 else 1) (rd_T36 L sp).f2 (rd_T36 L sp).f3 how s).t0, .bool (doF (if (rd_T36 L sp).f2 = p then 0 else 1) (rd_T36 L sp).f2 (rd_T36 L sp).f3 how s).t1, .bool (doF (if (rd_T36 L sp).f2 = p then 0 else 1) (rd_T36 L sp).f2 (rd_T36 L sp).f3 how s).en, .int .i64 (doF (if (rd_T36 L sp).f2 = p then 0 else 1) (rd_T36 L sp).f2 (rd_T36 L sp).f3 how s).bl], .int .i64 0]) ∧ Kd.R (Kd.int .i64) 3 w' w.heap.size (fun _ => True) (.slice B l.length d) l ∧ Below w.heap.size w w' := by
  have hu := Tryd.underlying54
  have hu4 := Tryd.underlying26
  have hu5 := Tryd.underlying36
  have HR := Aside0.mk hr
  have HP := Aside0.mk hp
  have HL := Aside0.mk hL
  clear hr hp hL
  obtain ⟨s2, hs_2⟩ : ∃ s2, (doF (if (rd_T36 L sp).f2 = p then 0 else 1) (rd_T36 L sp).f2 (rd_T36 L sp).f3 how s) = s2 := ⟨_, rfl⟩
  rw [hs_2]
  have HE := Aside0.mk hs_2
  clear hs_2
  obtain ⟨c0, c1, h0, h1, t0, t1, en, bl⟩ := s
  go_enter Tryd.func37, Tryd.ntmps37
  go_upto_region 1 with (fail)
  have q1 : ((w.alloc (.cells #[.int .i64 p, .int .i64 q, .int .i64 st, .int .i64 te, .slice A l.length c, .int .i64 sp, .int .i64 c0, .int .i64 c1, .bool h0, .bool h1, .bool t0, .bool t1, .bool en, .int .i64 bl] 54)).alloc (.cells #[.int .i64 0, .int .i64 0, .int .i64 0, .int .i64 0, .slice none 0 0, .int .i64 0, .int .i64 0, .int .i64 0, .bool false, .bool false, .bool false, .bool false, .bool false, .int .i64 0] 54)).heap[w.heap.size]? = some (.cells #[.int .i64 p, .int .i64 q, .int .i64 st, .int .i64 te, .slice A l.length c, .int .i64 sp, .int .i64 c0, .int .i64 c1, .bool h0, .bool h1, .bool t0, .bool t1, .bool en, .int .i64 bl] 54 (0, 0)) := blk_alloc (blk_new w _) _
  have q2 : ((w.alloc (.cells #[.int .i64 p, .int .i64 q, .int .i64 st, .int .i64 te, .slice A l.length c, .int .i64 sp, .int .i64 c0, .int .i64 c1, .bool h0, .bool h1, .bool t0, .bool t1, .bool en, .int .i64 bl] 54)).alloc (.cells #[.int .i64 0, .int .i64 0, .int .i64 0, .int .i64 0, .slice none 0 0, .int .i64 0, .int .i64 0, .int .i64 0, .bool false, .bool false, .bool false, .bool false, .bool false, .int .i64 0] 54)).heap[w.heap.size + 1]? = some (.cells #[.int .i64 0, .int .i64 0, .int .i64 0, .int .i64 0, .slice none 0 0, .int .i64 0, .int .i64 0, .int .i64 0, .bool false, .bool false, .bool false, .bool false, .bool false, .int .i64 0] 54 (0, 0)) := by have := blk_new (w.alloc (.cells #[.int .i64 p, .int .i64 q, .int .i64 st, .int .i64 te, .slice A l.length c, .int .i64 sp, .int .i64 c0, .int .i64 c1, .bool h0, .bool h1, .bool t0, .bool t1, .bool en, .int .i64 bl] 54)) (.cells #[.int .i64 0, .int .i64 0, .int .i64 0, .int .i64 0, .slice none 0 0, .int .i64 0, .int .i64 0, .int .i64 0, .bool false, .bool false, .bool false, .bool false, .bool false, .int .i64 0] 54); simpa using this
  have q3 : Below w.heap.size w ((w.alloc (.cells #[.int .i64 p, .int .i64 q, .int .i64 st, .int .i64 te, .slice A l.length c, .int .i64 sp, .int .i64 c0, .int .i64 c1, .bool h0, .bool h1, .bool t0, .bool t1, .bool en, .int .i64 bl] 54)).alloc (.cells #[.int .i64 0, .int .i64 0, .int .i64 0, .int .i64 0, .slice none 0 0, .int .i64 0, .int .i64 0, .int .i64 0, .bool false, .bool false, .bool false, .bool false, .bool false, .int .i64 0] 54)) := below_alloc (below_alloc (Below.refl _ _) _) _
  have q4 := Kd.C_below HR.out q3
  have q7 : ((w.alloc (.cells #[.int .i64 p, .int .i64 q, .int .i64 st, .int .i64 te, .slice A l.length c, .int .i64 sp, .int .i64 c0, .int .i64 c1, .bool h0, .bool h1, .bool t0, .bool t1, .bool en, .int .i64 bl] 54)).alloc (.cells #[.int .i64 0, .int .i64 0, .int .i64 0, .int .i64 0, .slice none 0 0, .int .i64 0, .int .i64 0, .int .i64 0, .bool false, .bool false, .bool false, .bool false, .bool false, .int .i64 0] 54)).heap.size = w.heap.size + 2 := by simp
  obtain ⟨gs, hgs⟩ : ∃ gs, gs = w.heap.size := ⟨_, rfl⟩
  obtain ⟨gr, hgr⟩ : ∃ gr, gr = w.heap.size + 1 := ⟨_, rfl⟩
  generalize ((w.alloc (.cells #[.int .i64 p, .int .i64 q, .int .i64 st, .int .i64 te, .slice A l.length c, .int .i64 sp, .int .i64 c0, .int .i64 c1, .bool h0, .bool h1, .bool t0, .bool t1, .bool en, .int .i64 bl] 54)).alloc (.cells #[.int .i64 0, .int .i64 0, .int .i64 0, .int .i64 0, .slice none 0 0, .int .i64 0, .int .i64 0, .int .i64 0, .bool false, .bool false, .bool false, .bool false, .bool false, .int .i64 0] 54)) = W2 at *
  rw [← hgr] at q2 ⊢
  rw [← hgs] at q1 ⊢
  have x0 := blk_cell q1 0; have x1 := blk_cell q1 1; have x2 := blk_cell q1 2; have x3 := blk_cell q1 3; have x4 := blk_cell q1 4; have x5 := blk_cell q1 5; have x6 := blk_cell q1 6; have x7 := blk_cell q1 7; have x8 := blk_cell q1 8; have x9 := blk_cell q1 9; have x10 := blk_cell q1 10; have x11 := blk_cell q1 11; have x12 := blk_cell q1 12; have x13 := blk_cell q1 13
  have hge2 : w.heap.size ≤ gr := by omega
  have BS := Aside0.mk q1; have BR := Aside0.mk q2; have HB := Aside0.mk q3; have HC := Aside0.mk q4; have HSZ := Aside0.mk q7
  clear q1 q2 q3 q4 q7 hgs hgr
  go_wp2_with fail
  refine (slot_Next_some p q st te A c l hl sp ⟨c0, c1, h0, h1, t0, t1, en, bl⟩ kk L hs0 hs1 _ HC.out hc HP.out).mono ?_
  rintro e w3 ⟨rfl, hb⟩
  have hz := hb.size
  have HSZ3 : Aside0 (w.heap.size ≤ w3.heap.size) := ⟨by have := HSZ.out; omega⟩
  replace BS := Aside0.mk ((hb.block gs (blk_lt BS.out)).trans BS.out); replace BR := Aside0.mk ((hb.block gr (blk_lt BR.out)).trans BR.out); replace HC := Aside0.mk (Kd.C_below HC.out hb); replace HB := Aside0.mk (below_step HB.out hb)
  clear hb hz x0 x1 x2 x3 x4 x5 x6 x7 x8 x9 x10 x11 x12 x13
  have hn0 : ¬ how < 0 := by omega
  have hn3 : ¬ how > 3 := by omega
  go_upto_region 6 with (fail)
  have r1 : (w3.alloc (.cells #[.int .i64 (rd_T36 L sp).f0, .int .i64 (rd_T36 L sp).f1, .int .i64 (rd_T36 L sp).f2, .int .i64 (rd_T36 L sp).f3] 36)).heap[w3.heap.size]? = some (.cells #[.int .i64 (rd_T36 L sp).f0, .int .i64 (rd_T36 L sp).f1, .int .i64 (rd_T36 L sp).f2, .int .i64 (rd_T36 L sp).f3] 36 (0, 0)) := blk_new w3 _
  have r2 := blk_alloc BS.out (.cells #[.int .i64 (rd_T36 L sp).f0, .int .i64 (rd_T36 L sp).f1, .int .i64 (rd_T36 L sp).f2, .int .i64 (rd_T36 L sp).f3] 36); have r3 := blk_alloc BR.out (.cells #[.int .i64 (rd_T36 L sp).f0, .int .i64 (rd_T36 L sp).f1, .int .i64 (rd_T36 L sp).f2, .int .i64 (rd_T36 L sp).f3] 36); have r4 := below_alloc HB.out (.cells #[.int .i64 (rd_T36 L sp).f0, .int .i64 (rd_T36 L sp).f1, .int .i64 (rd_T36 L sp).f2, .int .i64 (rd_T36 L sp).f3] 36)
  have r5 := Kd.C_below HC.out (below_alloc (Below.refl _ w3) (.cells #[.int .i64 (rd_T36 L sp).f0, .int .i64 (rd_T36 L sp).f1, .int .i64 (rd_T36 L sp).f2, .int .i64 (rd_T36 L sp).f3] 36))
  have r6 : w.heap.size ≤ (w3.alloc (.cells #[.int .i64 (rd_T36 L sp).f0, .int .i64 (rd_T36 L sp).f1, .int .i64 (rd_T36 L sp).f2, .int .i64 (rd_T36 L sp).f3] 36)).heap.size := by have := HSZ3.out; simp; omega
  obtain ⟨gd, hgd⟩ : ∃ gd, gd = w3.heap.size := ⟨_, rfl⟩
  generalize w3.alloc (.cells #[.int .i64 (rd_T36 L sp).f0, .int .i64 (rd_T36 L sp).f1, .int .i64 (rd_T36 L sp).f2, .int .i64 (rd_T36 L sp).f3] 36) = W5 at *
  rw [← hgd] at r1 ⊢
  have BD5 := Aside0.mk r1; have BS5 := Aside0.mk r2; have BR5 := Aside0.mk r3; have HB5 := Aside0.mk r4; have HC5 := Aside0.mk r5; have HZ5 := Aside0.mk r6
  clear r1 r2 r3 r4 r5 r6 hgd
  have x0 := blk_cell BS5.out 0; have x1 := blk_cell BS5.out 1; have x2 := blk_cell BS5.out 2; have x3 := blk_cell BS5.out 3; have x4 := blk_cell BS5.out 4; have x5 := blk_cell BS5.out 5; have x6 := blk_cell BS5.out 6; have x7 := blk_cell BS5.out 7; have x8 := blk_cell BS5.out 8; have x9 := blk_cell BS5.out 9; have x10 := blk_cell BS5.out 10; have x11 := blk_cell BS5.out 11; have x12 := blk_cell BS5.out 12; have x13 := blk_cell BS5.out 13
  have y0 := blk_cell BD5.out 0; have y1 := blk_cell BD5.out 1; have y2 := blk_cell BD5.out 2; have y3 := blk_cell BD5.out 3
  go_region_law (first | (refine goes_ Tryd.func70 (by kernel_rfl) rfl #[.agg #[.int .i64 p, .int .i64 q, .int .i64 st, .int .i64 te, .slice A l.length c, .int .i64 sp, .int .i64 c0, .int .i64 c1, .bool h0, .bool h1, .bool t0, .bool t1, .bool en, .int .i64 bl]] (by rfl) rfl rfl (by (try simp only [List.map_toArray, List.map_cons, List.map_nil]); first | done | rfl) ?_; refine (slotfn_own p q st te A c l hl sp ⟨c0, c1, h0, h1, t0, t1, en, bl⟩ _ (Kd.C_below HC5.out (below_drew (Below.refl _ _))) hc).mono ?_; rintro e w6 ⟨B, d, rfl, ho, hb⟩; refine ⟨_, rfl, ?_⟩; have hb6 : Below W5.heap.size W5 w6 := (below_drew (Below.refl _ _)).trans hb; have BD6 := Aside0.mk ((hb6.block gd (blk_lt BD5.out)).trans BD5.out); have BR6 := Aside0.mk ((hb6.block gr (blk_lt BR5.out)).trans BR5.out); have HB6 := Aside0.mk (below_step HB5.out hb6); have HO6 := Aside0.mk ho; have HZ6 := Aside0.mk hb6.size; have w_0 := blk_cell BD6.out 0; have w_1 := blk_cell BD6.out 1; have w_2 := blk_cell BD6.out 2; have w_3 := blk_cell BD6.out 3; clear ho hb hb6) | (refine goes_ Tryd.func71 (by kernel_rfl) rfl #[.agg #[.int .i64 p, .int .i64 q, .int .i64 st, .int .i64 te, .slice B l.length d, .int .i64 sp, .int .i64 c0, .int .i64 c1, .bool h0, .bool h1, .bool t0, .bool t1, .bool en, .int .i64 bl], .agg #[.int .i64 (rd_T36 L sp).f0, .int .i64 (rd_T36 L sp).f1, .int .i64 (rd_T36 L sp).f2, .int .i64 (rd_T36 L sp).f3], .int .i64 how] (by rfl) rfl rfl (by (try simp only [List.map_toArray, List.map_cons, List.map_nil]); first | done | rfl) ?_; refine (slot_Do p q st te B l.length d l sp ⟨c0, c1, h0, h1, t0, t1, en, bl⟩ (rd_T36 L sp).f0 (rd_T36 L sp).f1 (rd_T36 L sp).f2 (rd_T36 L sp).f3 how hpe hs0 hs2 rfl _ (laid_below HL.out HB6.out) (Kd.R_reads' HO6.out).2.2 (Kd.R_reads' HO6.out).2.1).mono ?_; rw [HE.out]; rintro e w7 ⟨rfl, hb⟩; refine ⟨_, rfl, ?_⟩; have BR7 := Aside0.mk ((hb.block gr (blk_lt BR6.out)).trans BR6.out); have HB7 := Aside0.mk (below_step HB6.out hb); have HO7 := Aside0.mk (Kd.R_below HO6.out hb); have z0 := blk_cell BR7.out 0; have z1 := blk_cell BR7.out 1; have z2 := blk_cell BR7.out 2; have z3 := blk_cell BR7.out 3; have z4 := blk_cell BR7.out 4; have z5 := blk_cell BR7.out 5; have z6 := blk_cell BR7.out 6; have z7 := blk_cell BR7.out 7; have z8 := blk_cell BR7.out 8; have z9 := blk_cell BR7.out 9; have z10 := blk_cell BR7.out 10; have z11 := blk_cell BR7.out 11; have z12 := blk_cell BR7.out 12; have z13 := blk_cell BR7.out 13; have zf0 := blk_frozen BR7.out 0; have zf1 := blk_frozen BR7.out 1; have zf2 := blk_frozen BR7.out 2; have zf3 := blk_frozen BR7.out 3; have zf4 := blk_frozen BR7.out 4; have zf5 := blk_frozen BR7.out 5; have zf6 := blk_frozen BR7.out 6; have zf7 := blk_frozen BR7.out 7; have zf8 := blk_frozen BR7.out 8; have zf9 := blk_frozen BR7.out 9; have zf10 := blk_frozen BR7.out 10; have zf11 := blk_frozen BR7.out 11; have zf12 := blk_frozen BR7.out 12; have zf13 := blk_frozen BR7.out 13; clear hb))
  all_goals (
    go_wp2
    refine bodyPost_ret (results_ct rfl _ _ gr 54 #[.int .i64 p, .int .i64 q, .int .i64 st, .int .i64 te, .slice B l.length d, .int .i64 (sp + 1), .int .i64 s2.c0, .int .i64 s2.c1, .bool s2.h0, .bool s2.h1, .bool s2.t0, .bool s2.t1, .bool s2.en, .int .i64 s2.bl] (0, 0) _ rfl (by exact zset14 BR7.out _ _ _ _ _ _ _ _ _ _ _ _ _ _) Tryd.underlying54 rfl (by kernel_rfl)) rfl ?_
    exact ⟨B, d, rfl, zset14_R (Kd.R_lower HO7.out HZ5.out) (by decide) BR7.out _ _ _ _ _ _ _ _ _ _ _ _ _ _, zset14_B HB7.out hge2 _ _ _ _ _ _ _ _ _ _ _ _ _ _⟩)

set_option maxHeartbeats 4000000 in
set_option maxRecDepth 100000 in
theorem slot_Step_none (p q st te : Int) (A : Option Addr) (c : Nat) (l : List Int) (hl : l.length < 17592186044416) (sp : Int) (s : SlotS) (kk : Nat) (L : List S36) (how : Int) (hs0 : (L.length : Int) ≤ sp) (w : World) (hr : Kd.C (Kd.int .i64) w A l.length l) (hc : l.length ≤ c) (hp : duty_Plan.f kk p q st te l 0 true = some (L, 0)) :
    Calls Tryd.prog 37 #[.agg #[.int .i64 p, .int .i64 q, .int .i64 st, .int .i64 te, .slice A l.length c, .int .i64 sp, .int .i64 s.c0, .int .i64 s.c1, .bool s.h0, .bool s.h1, .bool s.t0, .bool s.t1, .bool s.en, .int .i64 s.bl], .int .i64 how] w fun e w' => ∃ (B : Option Addr) (d : Nat), e = .returned (.tuple #[.agg #[.int .i64 p, .int .i64 q, .int .i64 st, .int .i64 te, .slice B l.length d, .int .i64 sp, .int .i64 s.c0, .int .i64 s.c1, .bool s.h0, .bool s.h1, .bool s.t0, .bool s.t1, .bool s.en, .int .i64 s.bl], .int .i64 5]) ∧ Kd.R (Kd.int .i64) 3 w' w.heap.size (fun _ => True) (.slice B l.length d) l ∧ Below w.heap.size w w' := by
  have hu := Tryd.underlying54
  have hu4 := Tryd.underlying26
  have hu5 := Tryd.underlying36
  have HR := Aside0.mk hr
  have HP := Aside0.mk hp
  clear hr hp
  obtain ⟨c0, c1, h0, h1, t0, t1, en, bl⟩ := s
  go_enter Tryd.func37, Tryd.ntmps37
  go_upto_region 1 with (fail)
  have q1 : ((w.alloc (.cells #[.int .i64 p, .int .i64 q, .int .i64 st, .int .i64 te, .slice A l.length c, .int .i64 sp, .int .i64 c0, .int .i64 c1, .bool h0, .bool h1, .bool t0, .bool t1, .bool en, .int .i64 bl] 54)).alloc (.cells #[.int .i64 0, .int .i64 0, .int .i64 0, .int .i64 0, .slice none 0 0, .int .i64 0, .int .i64 0, .int .i64 0, .bool false, .bool false, .bool false, .bool false, .bool false, .int .i64 0] 54)).heap[w.heap.size]? = some (.cells #[.int .i64 p, .int .i64 q, .int .i64 st, .int .i64 te, .slice A l.length c, .int .i64 sp, .int .i64 c0, .int .i64 c1, .bool h0, .bool h1, .bool t0, .bool t1, .bool en, .int .i64 bl] 54 (0, 0)) := blk_alloc (blk_new w _) _
  have q2 : ((w.alloc (.cells #[.int .i64 p, .int .i64 q, .int .i64 st, .int .i64 te, .slice A l.length c, .int .i64 sp, .int .i64 c0, .int .i64 c1, .bool h0, .bool h1, .bool t0, .bool t1, .bool en, .int .i64 bl] 54)).alloc (.cells #[.int .i64 0, .int .i64 0, .int .i64 0, .int .i64 0, .slice none 0 0, .int .i64 0, .int .i64 0, .int .i64 0, .bool false, .bool false, .bool false, .bool false, .bool false, .int .i64 0] 54)).heap[w.heap.size + 1]? = some (.cells #[.int .i64 0, .int .i64 0, .int .i64 0, .int .i64 0, .slice none 0 0, .int .i64 0, .int .i64 0, .int .i64 0, .bool false, .bool false, .bool false, .bool false, .bool false, .int .i64 0] 54 (0, 0)) := by have := blk_new (w.alloc (.cells #[.int .i64 p, .int .i64 q, .int .i64 st, .int .i64 te, .slice A l.length c, .int .i64 sp, .int .i64 c0, .int .i64 c1, .bool h0, .bool h1, .bool t0, .bool t1, .bool en, .int .i64 bl] 54)) (.cells #[.int .i64 0, .int .i64 0, .int .i64 0, .int .i64 0, .slice none 0 0, .int .i64 0, .int .i64 0, .int .i64 0, .bool false, .bool false, .bool false, .bool false, .bool false, .int .i64 0] 54); simpa using this
  have q3 : Below w.heap.size w ((w.alloc (.cells #[.int .i64 p, .int .i64 q, .int .i64 st, .int .i64 te, .slice A l.length c, .int .i64 sp, .int .i64 c0, .int .i64 c1, .bool h0, .bool h1, .bool t0, .bool t1, .bool en, .int .i64 bl] 54)).alloc (.cells #[.int .i64 0, .int .i64 0, .int .i64 0, .int .i64 0, .slice none 0 0, .int .i64 0, .int .i64 0, .int .i64 0, .bool false, .bool false, .bool false, .bool false, .bool false, .int .i64 0] 54)) := below_alloc (below_alloc (Below.refl _ _) _) _
  have q4 := Kd.C_below HR.out q3
  have q7 : ((w.alloc (.cells #[.int .i64 p, .int .i64 q, .int .i64 st, .int .i64 te, .slice A l.length c, .int .i64 sp, .int .i64 c0, .int .i64 c1, .bool h0, .bool h1, .bool t0, .bool t1, .bool en, .int .i64 bl] 54)).alloc (.cells #[.int .i64 0, .int .i64 0, .int .i64 0, .int .i64 0, .slice none 0 0, .int .i64 0, .int .i64 0, .int .i64 0, .bool false, .bool false, .bool false, .bool false, .bool false, .int .i64 0] 54)).heap.size = w.heap.size + 2 := by simp
  obtain ⟨gs, hgs⟩ : ∃ gs, gs = w.heap.size := ⟨_, rfl⟩
  obtain ⟨gr, hgr⟩ : ∃ gr, gr = w.heap.size + 1 := ⟨_, rfl⟩
  generalize ((w.alloc (.cells #[.int .i64 p, .int .i64 q, .int .i64 st, .int .i64 te, .slice A l.length c, .int .i64 sp, .int .i64 c0, .int .i64 c1, .bool h0, .bool h1, .bool t0, .bool t1, .bool en, .int .i64 bl] 54)).alloc (.cells #[.int .i64 0, .int .i64 0, .int .i64 0, .int .i64 0, .slice none 0 0, .int .i64 0, .int .i64 0, .int .i64 0, .bool false, .bool false, .bool false, .bool false, .bool false, .int .i64 0] 54)) = W2 at *
  rw [← hgr] at q2 ⊢
  rw [← hgs] at q1 ⊢
  have x0 := blk_cell q1 0; have x1 := blk_cell q1 1; have x2 := blk_cell q1 2; have x3 := blk_cell q1 3; have x4 := blk_cell q1 4; have x5 := blk_cell q1 5; have x6 := blk_cell q1 6; have x7 := blk_cell q1 7; have x8 := blk_cell q1 8; have x9 := blk_cell q1 9; have x10 := blk_cell q1 10; have x11 := blk_cell q1 11; have x12 := blk_cell q1 12; have x13 := blk_cell q1 13
  have hge2 : w.heap.size ≤ gr := by omega
  have BS := Aside0.mk q1; have BR := Aside0.mk q2; have HB := Aside0.mk q3; have HC := Aside0.mk q4; have HSZ := Aside0.mk q7
  clear q1 q2 q3 q4 q7 hgs hgr
  go_wp2_with fail
  refine (slot_Next_none p q st te A c l hl sp ⟨c0, c1, h0, h1, t0, t1, en, bl⟩ kk L hs0 _ HC.out hc HP.out).mono ?_
  rintro e w3 ⟨rfl, hb⟩
  have hz := hb.size
  have HSZ3 : Aside0 (w.heap.size ≤ w3.heap.size) := ⟨by have := HSZ.out; omega⟩
  replace BS := Aside0.mk ((hb.block gs (blk_lt BS.out)).trans BS.out); replace BR := Aside0.mk ((hb.block gr (blk_lt BR.out)).trans BR.out); replace HC := Aside0.mk (Kd.C_below HC.out hb); replace HB := Aside0.mk (below_step HB.out hb)
  clear hb hz x0 x1 x2 x3 x4 x5 x6 x7 x8 x9 x10 x11 x12 x13
  go_upto_region 3 with (fail)
  have r2 := blk_alloc BS.out (.cells #[.int .i64 0, .int .i64 0, .int .i64 0, .int .i64 0] 36); have r3 := blk_alloc BR.out (.cells #[.int .i64 0, .int .i64 0, .int .i64 0, .int .i64 0] 36); have r4 := below_alloc HB.out (.cells #[.int .i64 0, .int .i64 0, .int .i64 0, .int .i64 0] 36)
  have r5 := Kd.C_below HC.out (below_alloc (Below.refl _ w3) (.cells #[.int .i64 0, .int .i64 0, .int .i64 0, .int .i64 0] 36))
  have r6 : w.heap.size ≤ (w3.alloc (.cells #[.int .i64 0, .int .i64 0, .int .i64 0, .int .i64 0] 36)).heap.size := by have := HSZ3.out; simp; omega
  generalize w3.alloc (.cells #[.int .i64 0, .int .i64 0, .int .i64 0, .int .i64 0] 36) = W5 at *
  have BS5 := Aside0.mk r2; have BR5 := Aside0.mk r3; have HB5 := Aside0.mk r4; have HC5 := Aside0.mk r5; have HZ5 := Aside0.mk r6
  clear r2 r3 r4 r5 r6
  have x0 := blk_cell BS5.out 0; have x1 := blk_cell BS5.out 1; have x2 := blk_cell BS5.out 2; have x3 := blk_cell BS5.out 3; have x4 := blk_cell BS5.out 4; have x5 := blk_cell BS5.out 5; have x6 := blk_cell BS5.out 6; have x7 := blk_cell BS5.out 7; have x8 := blk_cell BS5.out 8; have x9 := blk_cell BS5.out 9; have x10 := blk_cell BS5.out 10; have x11 := blk_cell BS5.out 11; have x12 := blk_cell BS5.out 12; have x13 := blk_cell BS5.out 13
  go_wp2_with fail
  refine (slotfn_own p q st te A c l hl sp ⟨c0, c1, h0, h1, t0, t1, en, bl⟩ _ HC5.out hc).mono ?_
  rintro e w6 ⟨B, d, rfl, ho, hb⟩
  have BR7 := Aside0.mk ((hb.block gr (blk_lt BR5.out)).trans BR5.out); have HB7 := Aside0.mk (below_step HB5.out hb); have HO7 := Aside0.mk ho
  have z0 := blk_cell BR7.out 0; have z1 := blk_cell BR7.out 1; have z2 := blk_cell BR7.out 2; have z3 := blk_cell BR7.out 3; have z4 := blk_cell BR7.out 4; have z5 := blk_cell BR7.out 5; have z6 := blk_cell BR7.out 6; have z7 := blk_cell BR7.out 7; have z8 := blk_cell BR7.out 8; have z9 := blk_cell BR7.out 9; have z10 := blk_cell BR7.out 10; have z11 := blk_cell BR7.out 11; have z12 := blk_cell BR7.out 12; have z13 := blk_cell BR7.out 13; have zf0 := blk_frozen BR7.out 0; have zf1 := blk_frozen BR7.out 1; have zf2 := blk_frozen BR7.out 2; have zf3 := blk_frozen BR7.out 3; have zf4 := blk_frozen BR7.out 4; have zf5 := blk_frozen BR7.out 5; have zf6 := blk_frozen BR7.out 6; have zf7 := blk_frozen BR7.out 7; have zf8 := blk_frozen BR7.out 8; have zf9 := blk_frozen BR7.out 9; have zf10 := blk_frozen BR7.out 10; have zf11 := blk_frozen BR7.out 11; have zf12 := blk_frozen BR7.out 12; have zf13 := blk_frozen BR7.out 13
  clear hb ho
  go_wp2
  refine bodyPost_ret (results_ct rfl _ _ gr 54 #[.int .i64 p, .int .i64 q, .int .i64 st, .int .i64 te, .slice B l.length d, .int .i64 sp, .int .i64 c0, .int .i64 c1, .bool h0, .bool h1, .bool t0, .bool t1, .bool en, .int .i64 bl] (0, 0) _ rfl (by exact zset14 BR7.out _ _ _ _ _ _ _ _ _ _ _ _ _ _) Tryd.underlying54 rfl (by kernel_rfl)) rfl ?_
  exact ⟨B, d, rfl, zset14_R (Kd.R_lower HO7.out HZ5.out) (by decide) BR7.out _ _ _ _ _ _ _ _ _ _ _ _ _ _, zset14_B HB7.out hge2 _ _ _ _ _ _ _ _ _ _ _ _ _ _⟩

def slot_Step.f (k : Nat) (a0_0 : Int) (a0_1 : Int) (a0_2 : Int) (a0_3 : Int) (l0_4 : List Int) (a0_5 : Int) (a0_6 : Int) (a0_7 : Int) (a0_8 : Bool) (a0_9 : Bool) (a0_10 : Bool) (a0_11 : Bool) (a0_12 : Bool) (a0_13 : Int) (a1 : Int) : Option (Int × Int × Int × Int × (List Int) × Int × Int × Int × Bool × Bool × Bool × Bool × Bool × Int × Int) := if l0_4.length < 17592186044416 then (duty_Plan.f k a0_0 a0_1 a0_2 a0_3 l0_4 0 true).bind fun t => if t.2 = 0 ∧ 0 ≤ a0_5 ∧ a0_5 < 1000000 then (if a0_5 < (t.1.length : Int) then (if 0 ≤ a1 ∧ a1 ≤ 3 ∧ ((rd_T36 t.1 a0_5).f2 = a0_0 ∨ (rd_T36 t.1 a0_5).f2 = a0_1) then some (a0_0, a0_1, a0_2, a0_3, l0_4, a0_5 + 1, (doF (if (rd_T36 t.1 a0_5).f2 = a0_0 then 0 else 1) (rd_T36 t.1 a0_5).f2 (rd_T36 t.1 a0_5).f3 a1 ⟨a0_6, a0_7, a0_8, a0_9, a0_10, a0_11, a0_12, a0_13⟩).c0, (doF (if (rd_T36 t.1 a0_5).f2 = a0_0 then 0 else 1) (rd_T36 t.1 a0_5).f2 (rd_T36 t.1 a0_5).f3 a1 ⟨a0_6, a0_7, a0_8, a0_9, a0_10, a0_11, a0_12, a0_13⟩).c1, (doF (if (rd_T36 t.1 a0_5).f2 = a0_0 then 0 else 1) (rd_T36 t.1 a0_5).f2 (rd_T36 t.1 a0_5).f3 a1 ⟨a0_6, a0_7, a0_8, a0_9, a0_10, a0_11, a0_12, a0_13⟩).h0, (doF (if (rd_T36 t.1 a0_5).f2 = a0_0 then 0 else 1) (rd_T36 t.1 a0_5).f2 (rd_T36 t.1 a0_5).f3 a1 ⟨a0_6, a0_7, a0_8, a0_9, a0_10, a0_11, a0_12, a0_13⟩).h1, (doF (if (rd_T36 t.1 a0_5).f2 = a0_0 then 0 else 1) (rd_T36 t.1 a0_5).f2 (rd_T36 t.1 a0_5).f3 a1 ⟨a0_6, a0_7, a0_8, a0_9, a0_10, a0_11, a0_12, a0_13⟩).t0, (doF (if (rd_T36 t.1 a0_5).f2 = a0_0 then 0 else 1) (rd_T36 t.1 a0_5).f2 (rd_T36 t.1 a0_5).f3 a1 ⟨a0_6, a0_7, a0_8, a0_9, a0_10, a0_11, a0_12, a0_13⟩).t1, (doF (if (rd_T36 t.1 a0_5).f2 = a0_0 then 0 else 1) (rd_T36 t.1 a0_5).f2 (rd_T36 t.1 a0_5).f3 a1 ⟨a0_6, a0_7, a0_8, a0_9, a0_10, a0_11, a0_12, a0_13⟩).en, (doF (if (rd_T36 t.1 a0_5).f2 = a0_0 then 0 else 1) (rd_T36 t.1 a0_5).f2 (rd_T36 t.1 a0_5).f3 a1 ⟨a0_6, a0_7, a0_8, a0_9, a0_10, a0_11, a0_12, a0_13⟩).bl, 0) else none) else some (a0_0, a0_1, a0_2, a0_3, l0_4, a0_5, a0_6, a0_7, a0_8, a0_9, a0_10, a0_11, a0_12, a0_13, 5)) else none else none
theorem slot_Step.mono : ∀ a0 a1 a2 a3 a4 a5 a6 a7 a8 a9 a10 a11 a12 a13 a14 k, LeO (slot_Step.f k a0 a1 a2 a3 a4 a5 a6 a7 a8 a9 a10 a11 a12 a13 a14) (slot_Step.f (k + 1) a0 a1 a2 a3 a4 a5 a6 a7 a8 a9 a10 a11 a12 a13 a14) := by
  intro a0 a1 a2 a3 a4 a5 a6 a7 a8 a9 a10 a11 a12 a13 a14 k
  unfold slot_Step.f
  exact LeO.ite (LeO.bind (duty_Plan.mono _ _ _ _ _ _ _ _) (fun _ => LeO.refl _)) (LeO.refl _)
theorem slot_Step.calls (k : Nat) (a0_0 : Int) (a0_1 : Int) (a0_2 : Int) (a0_3 : Int) (A0_4 : Option Addr) (c0_4 : Nat) (l0_4 : List Int) (a0_5 : Int) (a0_6 : Int) (a0_7 : Int) (a0_8 : Bool) (a0_9 : Bool) (a0_10 : Bool) (a0_11 : Bool) (a0_12 : Bool) (a0_13 : Int) (a1 : Int) (r1 : Int) (r2 : Int) (r3 : Int) (r4 : Int) (r5 : List Int) (r6 : Int) (r7 : Int) (r8 : Int) (r9 : Bool) (r10 : Bool) (r11 : Bool) (r12 : Bool) (r13 : Bool) (r14 : Int) (r15 : Int) (w : World) (hr0_4 : Kd.C (Kd.int .i64) w A0_4 l0_4.length l0_4) (hc0_4 : l0_4.length ≤ c0_4) (h : slot_Step.f k a0_0 a0_1 a0_2 a0_3 l0_4 a0_5 a0_6 a0_7 a0_8 a0_9 a0_10 a0_11 a0_12 a0_13 a1 = some (r1, r2, r3, r4, r5, r6, r7, r8, r9, r10, r11, r12, r13, r14, r15)) (hL_ : Laid w) :
    Calls Tryd.prog 37 #[.agg #[.int .i64 a0_0, .int .i64 a0_1, .int .i64 a0_2, .int .i64 a0_3, .slice A0_4 l0_4.length c0_4, .int .i64 a0_5, .int .i64 a0_6, .int .i64 a0_7, .bool a0_8, .bool a0_9, .bool a0_10, .bool a0_11, .bool a0_12, .int .i64 a0_13], .int .i64 a1] w fun e w' => ∃ v4_ : Value, e = .returned (.tuple #[.agg #[.int .i64 r1, .int .i64 r2, .int .i64 r3, .int .i64 r4, v4_, .int .i64 r6, .int .i64 r7, .int .i64 r8, .bool r9, .bool r10, .bool r11, .bool r12, .bool r13, .int .i64 r14], .int .i64 r15]) ∧ Kd.R (Kd.int .i64) 3 w' w.heap.size (fun _ => True) v4_ r5 ∧ Below w.heap.size w w' := by
  unfold slot_Step.f at h
  split at h
  · rename_i hl
    obtain ⟨⟨L, e⟩, ht, h⟩ := Option.bind_eq_some_iff.mp h
    (try dsimp only at h)
    split at h
    · rename_i hh
      obtain ⟨rfl, hs0, hs2⟩ := hh
      split at h
      · rename_i hs1
        split at h
        · rename_i hq
          simp only [Option.some.injEq, Prod.mk.injEq] at h
          obtain ⟨rfl, rfl, rfl, rfl, rfl, rfl, rfl, rfl, rfl, rfl, rfl, rfl, rfl, rfl, rfl⟩ := h
          refine (slot_Step_some a0_0 a0_1 a0_2 a0_3 A0_4 c0_4 l0_4 hl a0_5 ⟨a0_6, a0_7, a0_8, a0_9, a0_10, a0_11, a0_12, a0_13⟩ k L a1 hs0 hs1 hs2 hq.1 hq.2.1 hq.2.2 w hr0_4 hc0_4 hL_ ht).mono ?_
          rintro e w' ⟨B, d, rfl, ho, hb⟩
          exact ⟨_, rfl, ho, hb⟩
        · cases h
      · rename_i hs1
        simp only [Option.some.injEq, Prod.mk.injEq] at h
        obtain ⟨rfl, rfl, rfl, rfl, rfl, rfl, rfl, rfl, rfl, rfl, rfl, rfl, rfl, rfl, rfl⟩ := h
        refine (slot_Step_none a0_0 a0_1 a0_2 a0_3 A0_4 c0_4 l0_4 hl a0_5 ⟨a0_6, a0_7, a0_8, a0_9, a0_10, a0_11, a0_12, a0_13⟩ k L a1 (by omega) w hr0_4 hc0_4 ht).mono ?_
        rintro e w' ⟨B, d, rfl, ho, hb⟩
        exact ⟨_, rfl, ho, hb⟩
    · cases h
  · cases h

end Go.Proofs.YtgckkjgemkabnaaDoor.PSlotWalks
