-- Written by a program of this repository (wip/tools/myprint.py over the print of the kit): contracts and rows.
import Derived.Test.YtgckkjgemkabnaaDoorPSlotFollowsx1
import Derived.Test.YtgckkjgemkabnaaDoorPSlotFollowsx2
import Derived.Test.YtgckkjgemkabnaaDoorPSlotFollowsx3
import Derived.Test.YtgckkjgemkabnaaDoorPSlotFollowsx5
import Derived.Test.YtgckkjgemkabnaaDoorPSlotFollowsx0
import Derived.Test.YtgckkjgemkabnaaDoorPSlotFollowsx6
import Derived.Test.YtgckkjgemkabnaaDoorPSlotFollowsx7
import Derived.Test.YtgckkjgemkabnaaDoorPSlotFollowsx8
namespace Go.Proofs.YtgckkjgemkabnaaDoor.PSlotFollows
open Go.RowKit Go.Proofs.YtgckkjgemkabnaaDoorW.PrintWords Go.Proofs.YtgckkjgemkabnaaDoorW.PrintLast Go.Proofs.YtgckkjgemkabnaaDoorW.PrintMore
attribute [local go_sem] max2_int min2_int max_two min_two max_three min_three max_four min_four   -- for this text's walks alone
set_option linter.unusedVariables false
set_option linter.unusedSimpArgs false

/-! ### slot_Kept: function 42 -/
def keptF (sd : Int) (s : SlotS) : Bool := !s.en && (if sd = 0 then s.h1 else if sd = 1 then s.h0 else false)
set_option maxHeartbeats 4000000 in
set_option maxRecDepth 100000 in
theorem slotfn_Kept (p q st te : Int) (A : Option Addr) (c : Nat) (l : List Int) (hl : l.length < 17592186044416) (sp : Int) (s : SlotS) (peer sd : Int) (hsd : slot_Side.f p q st te l peer = some sd) (w : World) (hr : Kd.C (Kd.int .i64) w A l.length l) (hc : l.length ≤ c) :
    Calls Tryd.prog 42 #[.agg #[.int .i64 p, .int .i64 q, .int .i64 st, .int .i64 te, .slice A l.length c, .int .i64 sp, .int .i64 s.c0, .int .i64 s.c1, .bool s.h0, .bool s.h1, .bool s.t0, .bool s.t1, .bool s.en, .int .i64 s.bl], .int .i64 peer] w fun e w' => e = .returned (.bool (keptF sd s)) ∧ Below w.heap.size w w' := by
  have h3 : sd = 0 ∨ sd = 1 ∨ sd = -1 := by
    unfold slot_Side.f at hsd
    split at hsd
    · exact .inl (Option.some.inj hsd).symm
    · split at hsd
      · exact .inr (.inl (Option.some.inj hsd).symm)
      · exact .inr (.inr (Option.some.inj hsd).symm)
  have hu := Tryd.underlying54
  have hu4 := Tryd.underlying26
  have HR := Aside0.mk hr
  have HD := Aside0.mk hsd
  clear hr hsd
  obtain ⟨c0, c1, h0, h1, t0, t1, en, bl⟩ := s
  go_enter Tryd.func42, Tryd.ntmps42
  go_upto_region 1 with (fail)
  have q1 : (w.alloc (.cells #[.int .i64 p, .int .i64 q, .int .i64 st, .int .i64 te, .slice A l.length c, .int .i64 sp, .int .i64 c0, .int .i64 c1, .bool h0, .bool h1, .bool t0, .bool t1, .bool en, .int .i64 bl] 54)).heap[w.heap.size]? = some (.cells #[.int .i64 p, .int .i64 q, .int .i64 st, .int .i64 te, .slice A l.length c, .int .i64 sp, .int .i64 c0, .int .i64 c1, .bool h0, .bool h1, .bool t0, .bool t1, .bool en, .int .i64 bl] 54 (0, 0)) := blk_new w _
  have q3 : Below w.heap.size w (w.alloc (.cells #[.int .i64 p, .int .i64 q, .int .i64 st, .int .i64 te, .slice A l.length c, .int .i64 sp, .int .i64 c0, .int .i64 c1, .bool h0, .bool h1, .bool t0, .bool t1, .bool en, .int .i64 bl] 54)) := below_alloc (Below.refl _ _) _
  have q4 := Kd.C_below HR.out q3
  obtain ⟨gs, hgs⟩ : ∃ gs, gs = w.heap.size := ⟨_, rfl⟩
  generalize w.alloc (.cells #[.int .i64 p, .int .i64 q, .int .i64 st, .int .i64 te, .slice A l.length c, .int .i64 sp, .int .i64 c0, .int .i64 c1, .bool h0, .bool h1, .bool t0, .bool t1, .bool en, .int .i64 bl] 54) = W2 at *
  rw [← hgs] at q1 ⊢
  have x0 := blk_cell q1 0; have x1 := blk_cell q1 1; have x2 := blk_cell q1 2; have x3 := blk_cell q1 3; have x4 := blk_cell q1 4
  have BS := Aside0.mk q1; have HB := Aside0.mk q3; have HC := Aside0.mk q4
  clear q1 q3 q4 hgs
  go_wp2_with fail
  refine (slot_Side.calls p q st te A c l peer sd _ HC.out hc HD.out).mono ?_
  rintro e w3 ⟨rfl, hb⟩
  have BS3 := Aside0.mk ((hb.block gs (blk_lt BS.out)).trans BS.out)
  have HB3 := Aside0.mk (below_step HB.out hb)
  clear hb x0 x1 x2 x3 x4
  have y12 := blk_cell BS3.out 12; have y8 := blk_cell BS3.out 8; have y9 := blk_cell BS3.out 9
  cases en
  · rcases h3 with rfl | rfl | rfl
    · go_wp2
      go_ret
      exact ⟨by simp [keptF], HB3.out⟩
    · go_wp2
      go_ret
      exact ⟨by simp [keptF], HB3.out⟩
    · go_wp2
      go_ret
      exact ⟨by simp [keptF], HB3.out⟩
  · go_wp2
    go_ret
    exact ⟨by simp [keptF], HB3.out⟩

def slot_Kept.f (a0_0 : Int) (a0_1 : Int) (a0_2 : Int) (a0_3 : Int) (l0_4 : List Int) (a0_5 : Int) (a0_6 : Int) (a0_7 : Int) (a0_8 : Bool) (a0_9 : Bool) (a0_10 : Bool) (a0_11 : Bool) (a0_12 : Bool) (a0_13 : Int) (a1 : Int) : Option (Bool) := if l0_4.length < 17592186044416 then (slot_Side.f a0_0 a0_1 a0_2 a0_3 l0_4 a1).bind fun t => some (keptF t ⟨a0_6, a0_7, a0_8, a0_9, a0_10, a0_11, a0_12, a0_13⟩) else none
theorem slot_Kept.calls (a0_0 : Int) (a0_1 : Int) (a0_2 : Int) (a0_3 : Int) (A0_4 : Option Addr) (c0_4 : Nat) (l0_4 : List Int) (a0_5 : Int) (a0_6 : Int) (a0_7 : Int) (a0_8 : Bool) (a0_9 : Bool) (a0_10 : Bool) (a0_11 : Bool) (a0_12 : Bool) (a0_13 : Int) (a1 : Int) (r : Bool) (w : World) (hr0_4 : Kd.C (Kd.int .i64) w A0_4 l0_4.length l0_4) (hc0_4 : l0_4.length ≤ c0_4) (h : slot_Kept.f a0_0 a0_1 a0_2 a0_3 l0_4 a0_5 a0_6 a0_7 a0_8 a0_9 a0_10 a0_11 a0_12 a0_13 a1 = some r) :
    Calls Tryd.prog 42 #[.agg #[.int .i64 a0_0, .int .i64 a0_1, .int .i64 a0_2, .int .i64 a0_3, .slice A0_4 l0_4.length c0_4, .int .i64 a0_5, .int .i64 a0_6, .int .i64 a0_7, .bool a0_8, .bool a0_9, .bool a0_10, .bool a0_11, .bool a0_12, .int .i64 a0_13], .int .i64 a1] w fun e w' => e = .returned (.bool r) ∧ Below w.heap.size w w' := by
  unfold slot_Kept.f at h
  split at h
  · rename_i hl
    obtain ⟨t, ht, h⟩ := Option.bind_eq_some_iff.mp h
    obtain rfl := Option.some.inj h
    exact slotfn_Kept a0_0 a0_1 a0_2 a0_3 A0_4 c0_4 l0_4 hl a0_5 ⟨a0_6, a0_7, a0_8, a0_9, a0_10, a0_11, a0_12, a0_13⟩ a1 t ht w hr0_4 hc0_4
  · cases h


/-! ### storagebarterlaw29_sane: function 35 -/
theorem bset14 {w : World} {g : Nat} {a0 a1 a2 a3 a4 a5 a6 a7 a8 a9 a10 a11 a12 a13 : Value} (h : w.heap[g]? = some (.cells #[a0, a1, a2, a3, a4, a5, a6, a7, a8, a9, a10, a11, a12, a13] 54 (0, 0))) (u0 u1 u2 u3 u4 u5 u6 u7 u8 u9 u10 u11 u12 u13 : Value) : ((((((((((((((w.setCell ⟨g, 0, none⟩ u0).setCell ⟨g, 1, none⟩ u1).setCell ⟨g, 2, none⟩ u2).setCell ⟨g, 3, none⟩ u3).setCell ⟨g, 4, none⟩ u4).setCell ⟨g, 5, none⟩ u5).setCell ⟨g, 6, none⟩ u6).setCell ⟨g, 7, none⟩ u7).setCell ⟨g, 8, none⟩ u8).setCell ⟨g, 9, none⟩ u9).setCell ⟨g, 10, none⟩ u10).setCell ⟨g, 11, none⟩ u11).setCell ⟨g, 12, none⟩ u12).setCell ⟨g, 13, none⟩ u13).heap[g]? = some (.cells #[u0, u1, u2, u3, u4, u5, u6, u7, u8, u9, u10, u11, u12, u13] 54 (0, 0)) := by
  replace h := blk_set h 0 u0
  simp only [List.setIfInBounds_toArray, List.set_cons_zero, List.set_cons_succ] at h
  replace h := blk_set h 1 u1
  simp only [List.setIfInBounds_toArray, List.set_cons_zero, List.set_cons_succ] at h
  replace h := blk_set h 2 u2
  simp only [List.setIfInBounds_toArray, List.set_cons_zero, List.set_cons_succ] at h
  replace h := blk_set h 3 u3
  simp only [List.setIfInBounds_toArray, List.set_cons_zero, List.set_cons_succ] at h
  replace h := blk_set h 4 u4
  simp only [List.setIfInBounds_toArray, List.set_cons_zero, List.set_cons_succ] at h
  replace h := blk_set h 5 u5
  simp only [List.setIfInBounds_toArray, List.set_cons_zero, List.set_cons_succ] at h
  replace h := blk_set h 6 u6
  simp only [List.setIfInBounds_toArray, List.set_cons_zero, List.set_cons_succ] at h
  replace h := blk_set h 7 u7
  simp only [List.setIfInBounds_toArray, List.set_cons_zero, List.set_cons_succ] at h
  replace h := blk_set h 8 u8
  simp only [List.setIfInBounds_toArray, List.set_cons_zero, List.set_cons_succ] at h
  replace h := blk_set h 9 u9
  simp only [List.setIfInBounds_toArray, List.set_cons_zero, List.set_cons_succ] at h
  replace h := blk_set h 10 u10
  simp only [List.setIfInBounds_toArray, List.set_cons_zero, List.set_cons_succ] at h
  replace h := blk_set h 11 u11
  simp only [List.setIfInBounds_toArray, List.set_cons_zero, List.set_cons_succ] at h
  replace h := blk_set h 12 u12
  simp only [List.setIfInBounds_toArray, List.set_cons_zero, List.set_cons_succ] at h
  replace h := blk_set h 13 u13
  simp only [List.setIfInBounds_toArray, List.set_cons_zero, List.set_cons_succ] at h
  exact h
theorem bset14_R {α : Type} {d : Kd α} {e base : Nat} {ok : Nat → Prop} {v : Value} {xs : List α} {w : World} {g : Nat} {a0 a1 a2 a3 a4 a5 a6 a7 a8 a9 a10 a11 a12 a13 : Value} (hr : d.R e w base ok v xs) (ht : ∀ q, q ∈ e :: d.E → q ≠ 54) (h : w.heap[g]? = some (.cells #[a0, a1, a2, a3, a4, a5, a6, a7, a8, a9, a10, a11, a12, a13] 54 (0, 0))) (u0 u1 u2 u3 u4 u5 u6 u7 u8 u9 u10 u11 u12 u13 : Value) : d.R e ((((((((((((((w.setCell ⟨g, 0, none⟩ u0).setCell ⟨g, 1, none⟩ u1).setCell ⟨g, 2, none⟩ u2).setCell ⟨g, 3, none⟩ u3).setCell ⟨g, 4, none⟩ u4).setCell ⟨g, 5, none⟩ u5).setCell ⟨g, 6, none⟩ u6).setCell ⟨g, 7, none⟩ u7).setCell ⟨g, 8, none⟩ u8).setCell ⟨g, 9, none⟩ u9).setCell ⟨g, 10, none⟩ u10).setCell ⟨g, 11, none⟩ u11).setCell ⟨g, 12, none⟩ u12).setCell ⟨g, 13, none⟩ u13) base ok v xs := by
  replace hr := Kd.R_set hr h ht 0 u0
  replace h := blk_set h 0 u0
  simp only [List.setIfInBounds_toArray, List.set_cons_zero, List.set_cons_succ] at h
  replace hr := Kd.R_set hr h ht 1 u1
  replace h := blk_set h 1 u1
  simp only [List.setIfInBounds_toArray, List.set_cons_zero, List.set_cons_succ] at h
  replace hr := Kd.R_set hr h ht 2 u2
  replace h := blk_set h 2 u2
  simp only [List.setIfInBounds_toArray, List.set_cons_zero, List.set_cons_succ] at h
  replace hr := Kd.R_set hr h ht 3 u3
  replace h := blk_set h 3 u3
  simp only [List.setIfInBounds_toArray, List.set_cons_zero, List.set_cons_succ] at h
  replace hr := Kd.R_set hr h ht 4 u4
  replace h := blk_set h 4 u4
  simp only [List.setIfInBounds_toArray, List.set_cons_zero, List.set_cons_succ] at h
  replace hr := Kd.R_set hr h ht 5 u5
  replace h := blk_set h 5 u5
  simp only [List.setIfInBounds_toArray, List.set_cons_zero, List.set_cons_succ] at h
  replace hr := Kd.R_set hr h ht 6 u6
  replace h := blk_set h 6 u6
  simp only [List.setIfInBounds_toArray, List.set_cons_zero, List.set_cons_succ] at h
  replace hr := Kd.R_set hr h ht 7 u7
  replace h := blk_set h 7 u7
  simp only [List.setIfInBounds_toArray, List.set_cons_zero, List.set_cons_succ] at h
  replace hr := Kd.R_set hr h ht 8 u8
  replace h := blk_set h 8 u8
  simp only [List.setIfInBounds_toArray, List.set_cons_zero, List.set_cons_succ] at h
  replace hr := Kd.R_set hr h ht 9 u9
  replace h := blk_set h 9 u9
  simp only [List.setIfInBounds_toArray, List.set_cons_zero, List.set_cons_succ] at h
  replace hr := Kd.R_set hr h ht 10 u10
  replace h := blk_set h 10 u10
  simp only [List.setIfInBounds_toArray, List.set_cons_zero, List.set_cons_succ] at h
  replace hr := Kd.R_set hr h ht 11 u11
  replace h := blk_set h 11 u11
  simp only [List.setIfInBounds_toArray, List.set_cons_zero, List.set_cons_succ] at h
  replace hr := Kd.R_set hr h ht 12 u12
  replace h := blk_set h 12 u12
  simp only [List.setIfInBounds_toArray, List.set_cons_zero, List.set_cons_succ] at h
  replace hr := Kd.R_set hr h ht 13 u13
  replace h := blk_set h 13 u13
  simp only [List.setIfInBounds_toArray, List.set_cons_zero, List.set_cons_succ] at h
  exact hr
theorem bset14_C {w : World} {g base d : Nat} {ok : Nat → Prop} {B : Option Addr} {xs : List Int} {a0 a1 a2 a3 a4 a5 a6 a7 a8 a9 a10 a11 a12 a13 : Value} (hr : Kd.R (Kd.int .i64) 3 w base ok (.slice B xs.length d) xs) (h : w.heap[g]? = some (.cells #[a0, a1, a2, a3, a4, a5, a6, a7, a8, a9, a10, a11, a12, a13] 54 (0, 0))) (u0 u1 u2 u3 u4 u5 u6 u7 u8 u9 u10 u11 u12 u13 : Value) : Kd.C (Kd.int .i64) ((((((((((((((w.setCell ⟨g, 0, none⟩ u0).setCell ⟨g, 1, none⟩ u1).setCell ⟨g, 2, none⟩ u2).setCell ⟨g, 3, none⟩ u3).setCell ⟨g, 4, none⟩ u4).setCell ⟨g, 5, none⟩ u5).setCell ⟨g, 6, none⟩ u6).setCell ⟨g, 7, none⟩ u7).setCell ⟨g, 8, none⟩ u8).setCell ⟨g, 9, none⟩ u9).setCell ⟨g, 10, none⟩ u10).setCell ⟨g, 11, none⟩ u11).setCell ⟨g, 12, none⟩ u12).setCell ⟨g, 13, none⟩ u13) B xs.length xs :=
  (Kd.R_reads' (bset14_R hr (by decide) h u0 u1 u2 u3 u4 u5 u6 u7 u8 u9 u10 u11 u12 u13)).2.2
theorem bset14_B {B g : Nat} {w0 w : World} (h : Below B w0 w) (hg : B ≤ g) (u0 u1 u2 u3 u4 u5 u6 u7 u8 u9 u10 u11 u12 u13 : Value) : Below B w0 ((((((((((((((w.setCell ⟨g, 0, none⟩ u0).setCell ⟨g, 1, none⟩ u1).setCell ⟨g, 2, none⟩ u2).setCell ⟨g, 3, none⟩ u3).setCell ⟨g, 4, none⟩ u4).setCell ⟨g, 5, none⟩ u5).setCell ⟨g, 6, none⟩ u6).setCell ⟨g, 7, none⟩ u7).setCell ⟨g, 8, none⟩ u8).setCell ⟨g, 9, none⟩ u9).setCell ⟨g, 10, none⟩ u10).setCell ⟨g, 11, none⟩ u11).setCell ⟨g, 12, none⟩ u12).setCell ⟨g, 13, none⟩ u13) := zset14_B h hg u0 u1 u2 u3 u4 u5 u6 u7 u8 u9 u10 u11 u12 u13
/-- the plan and the states of the chapter's example -/
def L29 : List S36 := planL 1 2 0 3 [3] 0 true
def how29 (n : Nat) : Int := if n = 8 then 1 else 0
def st29 : Nat → SlotS
  | 0 => ⟨0, 0, false, false, false, false, false, 0⟩
  | n + 1 => doF (if (rd_T36 L29 n).f2 = 1 then 0 else 1) (rd_T36 L29 n).f2 (rd_T36 L29 n).f3 (how29 n) (st29 n)
theorem plan29 : duty_Plan.f 20 1 2 0 3 [3] 0 true = some (L29, 0) := by kernel_rfl
theorem valid29 : duty_Valid.f 20 1 2 0 3 [3] = some true := by kernel_rfl
theorem peers29 : ∀ n : Nat, n < 16 → ((rd_T36 L29 n).f2 = 1 ∨ (rd_T36 L29 n).f2 = 2) := by decide
theorem len29 : L29.length = 18 := by kernel_rfl

theorem st29_eq (n : Nat) (i : Int) (hi : i = n) (how : Int) (hh : how = how29 n) : doF (if (rd_T36 L29 i).f2 = 1 then 0 else 1) (rd_T36 L29 i).f2 (rd_T36 L29 i).f3 how (st29 n) = st29 (n + 1) := by
  subst hi hh
  rfl
theorem peers29i (i : Int) (h0 : 0 ≤ i) (h1 : i < 16) : (rd_T36 L29 i).f2 = 1 ∨ (rd_T36 L29 i).f2 = 2 := by
  have := peers29 i.toNat (by omega)
  rwa [show ((i.toNat : Nat) : Int) = i by omega] at this
theorem s29_0 : st29 0 = ⟨0, 0, false, false, false, false, false, 0⟩ := rfl
theorem s29_1 : st29 1 = ⟨8, 0, false, false, false, false, false, 0⟩ := (st29_eq 0 0 rfl 0 rfl).symm.trans (by rw [s29_0]; kernel_rfl)
theorem s29_2 : st29 2 = ⟨8, 8, false, false, false, false, false, 0⟩ := (st29_eq 1 1 rfl 0 rfl).symm.trans (by rw [s29_1]; kernel_rfl)
theorem s29_3 : st29 3 = ⟨16, 8, false, false, false, false, false, 0⟩ := (st29_eq 2 2 rfl 0 rfl).symm.trans (by rw [s29_2]; kernel_rfl)
theorem s29_4 : st29 4 = ⟨16, 16, false, false, false, false, false, 0⟩ := (st29_eq 3 3 rfl 0 rfl).symm.trans (by rw [s29_3]; kernel_rfl)
theorem s29_5 : st29 5 = ⟨17, 16, false, false, false, false, false, 0⟩ := (st29_eq 4 4 rfl 0 rfl).symm.trans (by rw [s29_4]; kernel_rfl)
theorem s29_6 : st29 6 = ⟨17, 17, false, false, false, false, false, 0⟩ := (st29_eq 5 5 rfl 0 rfl).symm.trans (by rw [s29_5]; kernel_rfl)
theorem s29_7 : st29 7 = ⟨19, 17, true, false, false, false, false, 0⟩ := (st29_eq 6 6 rfl 0 rfl).symm.trans (by rw [s29_6]; kernel_rfl)
theorem s29_8 : st29 8 = ⟨19, 19, true, true, false, false, false, 0⟩ := (st29_eq 7 7 rfl 0 rfl).symm.trans (by rw [s29_7]; kernel_rfl)
theorem s29_9 : st29 9 = ⟨19, 19, false, true, false, false, false, 0⟩ := (st29_eq 8 8 rfl 1 rfl).symm.trans (by rw [s29_8]; kernel_rfl)
theorem s29_10 : st29 10 = ⟨19, 20, false, true, false, false, false, 0⟩ := (st29_eq 9 9 rfl 0 rfl).symm.trans (by rw [s29_9]; kernel_rfl)
theorem s29_11 : st29 11 = ⟨19, 20, false, true, false, false, false, 0⟩ := (st29_eq 10 10 rfl 0 rfl).symm.trans (by rw [s29_10]; kernel_rfl)
theorem s29_12 : st29 12 = ⟨19, 21, false, true, false, false, false, 0⟩ := (st29_eq 11 11 rfl 0 rfl).symm.trans (by rw [s29_11]; kernel_rfl)
theorem s29_13 : st29 13 = ⟨19, 21, false, true, false, false, false, 0⟩ := (st29_eq 12 12 rfl 0 rfl).symm.trans (by rw [s29_12]; kernel_rfl)
theorem s29_14 : st29 14 = ⟨19, 22, false, true, false, false, false, 0⟩ := (st29_eq 13 13 rfl 0 rfl).symm.trans (by rw [s29_13]; kernel_rfl)
theorem s29_15 : st29 15 = ⟨19, 22, false, true, false, false, true, 1⟩ := (st29_eq 14 14 rfl 0 rfl).symm.trans (by rw [s29_14]; kernel_rfl)
set_option maxHeartbeats 40000000 in
set_option maxRecDepth 100000 in
theorem sane29 (w : World) (hL : Laid w) : Calls Tryd.prog 35 #[] w fun e w' => e = .returned (.bool true) ∧ Below w.heap.size w w' := by
  have hu := Tryd.underlying54
  have hu4 := Tryd.underlying26
  have HL := Aside0.mk hL
  clear hL
  go_enter Tryd.func35, Tryd.ntmps35
  go_wp2_with fail
  have hcb : Kd.C (Kd.int .i64) (w.alloc (.cells #[.int .i64 3] 3)) (some ⟨w.heap.size, 0, none⟩) 1 [3] := ⟨rfl, by omega, fun _ => ⟨⟨w.heap.size, 0, none⟩, rfl, fun j p_ hj => by
    match j, hj with
    | 0, hj => injection hj with hj; subst hj; exact ⟨[.int .i64 3], rfl, rfl, fun i u hu_ => by
        match i, hu_ with
        | 0, hu_ => injection hu_ with hu_; subst hu_; rw [Addr.add_lit]; exact blk_cell (blk_new w (.cells #[.int .i64 3] 3)) 0⟩⟩⟩
  refine (slotfn_New 1 2 0 3 (some ⟨w.heap.size, 0, none⟩) 1 [3] (by decide) 20 valid29 _ hcb (by decide)).mono ?_
  rintro e w1 ⟨A, c, rfl, ho, hb⟩
  have HB0 := Aside0.mk (below_step (below_alloc (Below.refl _ w) (.cells #[.int .i64 3] 3)) hb)
  have HO := Aside0.mk ho
  clear hcb ho hb
  go_upto_region 2 with (fail)
  have r1 : (w1.alloc (.cells #[.int .i64 1, .int .i64 2, .int .i64 0, .int .i64 3, .slice A 1 c, .int .i64 0, .int .i64 0, .int .i64 0, .bool false, .bool false, .bool false, .bool false, .bool false, .int .i64 0] 54)).heap[w1.heap.size]? = some (.cells #[.int .i64 1, .int .i64 2, .int .i64 0, .int .i64 3, .slice A 1 c, .int .i64 0, .int .i64 0, .int .i64 0, .bool false, .bool false, .bool false, .bool false, .bool false, .int .i64 0] 54 (0, 0)) := blk_new w1 _
  have r3 : Below w.heap.size w (w1.alloc (.cells #[.int .i64 1, .int .i64 2, .int .i64 0, .int .i64 3, .slice A 1 c, .int .i64 0, .int .i64 0, .int .i64 0, .bool false, .bool false, .bool false, .bool false, .bool false, .int .i64 0] 54)) := below_alloc HB0.out _
  have r4 : Kd.C (Kd.int .i64) (w1.alloc (.cells #[.int .i64 1, .int .i64 2, .int .i64 0, .int .i64 3, .slice A 1 c, .int .i64 0, .int .i64 0, .int .i64 0, .bool false, .bool false, .bool false, .bool false, .bool false, .int .i64 0] 54)) A 1 [3] := Kd.C_below (Kd.R_reads' HO.out).2.2 (below_alloc (Below.refl _ w1) _)
  have r5 : 1 ≤ c := (Kd.R_reads' HO.out).2.1
  have r6 : w.heap.size ≤ w1.heap.size := HB0.out.size
  obtain ⟨gs, hgs⟩ : ∃ gs, gs = w1.heap.size := ⟨_, rfl⟩
  generalize (w1.alloc (.cells #[.int .i64 1, .int .i64 2, .int .i64 0, .int .i64 3, .slice A 1 c, .int .i64 0, .int .i64 0, .int .i64 0, .bool false, .bool false, .bool false, .bool false, .bool false, .int .i64 0] 54)) = W2 at *
  rw [← hgs] at r1 ⊢
  have hge : w.heap.size ≤ gs := by omega
  have BS : Aside0 (W2.heap[gs]? = some (.cells #[.int .i64 1, .int .i64 2, .int .i64 0, .int .i64 3, .slice A 1 c, .int .i64 0, .int .i64 (st29 (0 : Int).toNat).c0, .int .i64 (st29 (0 : Int).toNat).c1, .bool (st29 (0 : Int).toNat).h0, .bool (st29 (0 : Int).toNat).h1, .bool (st29 (0 : Int).toNat).t0, .bool (st29 (0 : Int).toNat).t1, .bool (st29 (0 : Int).toNat).en, .int .i64 (st29 (0 : Int).toNat).bl] 54 (0, 0))) := ⟨r1⟩
  have HB := Aside0.mk r3; have HC := Aside0.mk r4; have HCC := Aside0.mk r5
  clear r1 r3 r4 r5 r6 hgs HO HB0
  go_wp2
  go_loopw [3] (fun vi w' => ∃ (i j : Int), 0 ≤ i ∧ i ≤ 8 ∧ Aside0 (j = i + 0) ∧ vi = .int .i64 i ∧ (∃ (A : Option Addr) (c : Nat), Aside0 (w'.heap[gs]? = some (.cells #[.int .i64 1, .int .i64 2, .int .i64 0, .int .i64 3, .slice A 1 c, .int .i64 j, .int .i64 (st29 j.toNat).c0, .int .i64 (st29 j.toNat).c1, .bool (st29 j.toNat).h0, .bool (st29 j.toNat).h1, .bool (st29 j.toNat).t0, .bool (st29 j.toNat).t1, .bool (st29 j.toNat).en, .int .i64 (st29 j.toNat).bl] 54 (0, 0))) ∧ Aside0 (Kd.C (Kd.int .i64) w' A 1 [3]) ∧ Aside0 (1 ≤ c) ∧ Aside0 (Below w.heap.size w w'))) (fun vi _ => 8 - (intOf vi).toNat)
  case atStart => exact ⟨0, 0, by omega, by omega, ⟨by omega⟩, rfl, A, c, BS, HC, HCC, HB⟩
  case round =>
    clear BS HC HCC HB
    obtain ⟨i, j, hi0, hi1, HJ, rfl, A, c, BS, HC, HCC, HB⟩ := hrel
    by_cases hlt : i < 8
    · have hj0 : 0 ≤ j := by have := HJ.out; omega
      have hj1 : j < 8 := by have := HJ.out; omega
      have hj2 : 0 ≤ j := by have := HJ.out; omega
      have x0 := blk_cell BS.out 0; have x1 := blk_cell BS.out 1; have x2 := blk_cell BS.out 2; have x3 := blk_cell BS.out 3; have x4 := blk_cell BS.out 4; have x5 := blk_cell BS.out 5; have x6 := blk_cell BS.out 6; have x7 := blk_cell BS.out 7; have x8 := blk_cell BS.out 8; have x9 := blk_cell BS.out 9; have x10 := blk_cell BS.out 10; have x11 := blk_cell BS.out 11; have x12 := blk_cell BS.out 12; have x13 := blk_cell BS.out 13
      have hstep := st29_eq j.toNat j (by omega) 0 (by unfold how29; rw [if_neg (by omega)])
      have hcon := slot_Step_some 1 2 0 3 A c [3] (by decide) j (st29 j.toNat) 20 L29 0 (by omega) (by rw [len29]; omega) (by omega) (by omega) (by omega) (peers29i j (by omega) (by omega))
      rw [hstep] at hcon
      have HST := Aside0.mk hcon
      clear hcon hstep
      go_wp2_with fail
      refine (HST.out _ HC.out HCC.out (laid_below HL.out HB.out) plan29).mono ?_
      rintro e w2 ⟨B, d, rfl, ho, hb⟩
      have BS1 := (hb.block gs (blk_lt BS.out)).trans BS.out
      have y0 := blk_cell BS1 0; have y1 := blk_cell BS1 1; have y2 := blk_cell BS1 2; have y3 := blk_cell BS1 3; have y4 := blk_cell BS1 4; have y5 := blk_cell BS1 5; have y6 := blk_cell BS1 6; have y7 := blk_cell BS1 7; have y8 := blk_cell BS1 8; have y9 := blk_cell BS1 9; have y10 := blk_cell BS1 10; have y11 := blk_cell BS1 11; have y12 := blk_cell BS1 12; have y13 := blk_cell BS1 13; have yf0 := blk_frozen BS1 0; have yf1 := blk_frozen BS1 1; have yf2 := blk_frozen BS1 2; have yf3 := blk_frozen BS1 3; have yf4 := blk_frozen BS1 4; have yf5 := blk_frozen BS1 5; have yf6 := blk_frozen BS1 6; have yf7 := blk_frozen BS1 7; have yf8 := blk_frozen BS1 8; have yf9 := blk_frozen BS1 9; have yf10 := blk_frozen BS1 10; have yf11 := blk_frozen BS1 11; have yf12 := blk_frozen BS1 12; have yf13 := blk_frozen BS1 13
      have HBS := Aside0.mk BS1
      have HB1 := Aside0.mk (below_step HB.out hb)
      have HCD := Aside0.mk (Kd.R_reads' ho).2.1
      have HCA := Aside0.mk (Kd.C_below HC.out hb)
      have HO := Aside0.mk ho
      clear x0 x1 x2 x3 x4 x5 x6 x7 x8 x9 x10 x11 x12 x13 hb BS1 ho HST
      go_wp2
      go_roundw
      case rel => exact ⟨i + 1, j + 1, by omega, by omega, ⟨by have := HJ.out; omega⟩, by go_num, B, d, ⟨by rw [show (j + 1).toNat = j.toNat + 1 by omega]; exact bset14 HBS.out _ _ _ _ _ _ _ _ _ _ _ _ _ _⟩, ⟨bset14_C HO.out HBS.out _ _ _ _ _ _ _ _ _ _ _ _ _ _⟩, ⟨HCD.out⟩, ⟨zset14_B HB1.out hge _ _ _ _ _ _ _ _ _ _ _ _ _ _⟩⟩
      case measure => simp [intOf]; omega
    · obtain rfl : i = 8 := by omega
      obtain rfl : j = 8 := by have := HJ.out; omega
      have BS : Aside0 (wr.heap[gs]? = some (.cells #[.int .i64 1, .int .i64 2, .int .i64 0, .int .i64 3, .slice A 1 c, .int .i64 8, .int .i64 (st29 8).c0, .int .i64 (st29 8).c1, .bool (st29 8).h0, .bool (st29 8).h1, .bool (st29 8).t0, .bool (st29 8).t1, .bool (st29 8).en, .int .i64 (st29 8).bl] 54 (0, 0))) := BS
      clear hlt hi0 hi1
      have x0 := blk_cell BS.out 0; have x1 := blk_cell BS.out 1; have x2 := blk_cell BS.out 2; have x3 := blk_cell BS.out 3; have x4 := blk_cell BS.out 4; have x5 := blk_cell BS.out 5; have x6 := blk_cell BS.out 6; have x7 := blk_cell BS.out 7; have x8 := blk_cell BS.out 8; have x9 := blk_cell BS.out 9; have x10 := blk_cell BS.out 10; have x11 := blk_cell BS.out 11; have x12 := blk_cell BS.out 12; have x13 := blk_cell BS.out 13
      have hk : keptF 0 (st29 8) = true := by rw [s29_8]; kernel_rfl
      have HK := Aside0.mk hk
      clear hk
      go_wp2_with fail
      refine (slotfn_Kept 1 2 0 3 A c [3] (by decide) 8 (st29 8) 1 0 (by kernel_rfl) _ HC.out HCC.out).mono ?_
      rintro e w3 ⟨rfl, hb⟩
      rw [HK.out]
      replace BS := Aside0.mk ((hb.block gs (blk_lt BS.out)).trans BS.out); replace HC := Aside0.mk (Kd.C_below HC.out hb); replace HB := Aside0.mk (below_step HB.out hb); (try replace BT := Aside0.mk ((hb.block gt (blk_lt BT.out)).trans BT.out)); clear hb
      clear x0 x1 x2 x3 x4 x5 x6 x7 x8 x9 x10 x11 x12 x13
      go_upto_region 7 with (fail)
      have x0 := blk_cell BS.out 0; have x1 := blk_cell BS.out 1; have x2 := blk_cell BS.out 2; have x3 := blk_cell BS.out 3; have x4 := blk_cell BS.out 4; have x5 := blk_cell BS.out 5; have x6 := blk_cell BS.out 6; have x7 := blk_cell BS.out 7; have x8 := blk_cell BS.out 8; have x9 := blk_cell BS.out 9; have x10 := blk_cell BS.out 10; have x11 := blk_cell BS.out 11; have x12 := blk_cell BS.out 12; have x13 := blk_cell BS.out 13
      have hstep := st29_eq 8 8 (by omega) 1 (by kernel_rfl)
      have hcon := slot_Step_some 1 2 0 3 A c [3] (by decide) 8 (st29 8) 20 L29 1 (by omega) (by rw [len29]; omega) (by omega) (by omega) (by omega) (peers29i 8 (by omega) (by omega))
      rw [hstep] at hcon
      have HST := Aside0.mk hcon
      clear hcon hstep
      go_wp2_with fail
      refine (HST.out _ HC.out HCC.out (laid_below HL.out HB.out) plan29).mono ?_
      rintro e w4 ⟨B, d, rfl, ho, hb⟩
      have BS1 := (hb.block gs (blk_lt BS.out)).trans BS.out
      have y0 := blk_cell BS1 0; have y1 := blk_cell BS1 1; have y2 := blk_cell BS1 2; have y3 := blk_cell BS1 3; have y4 := blk_cell BS1 4; have y5 := blk_cell BS1 5; have y6 := blk_cell BS1 6; have y7 := blk_cell BS1 7; have y8 := blk_cell BS1 8; have y9 := blk_cell BS1 9; have y10 := blk_cell BS1 10; have y11 := blk_cell BS1 11; have y12 := blk_cell BS1 12; have y13 := blk_cell BS1 13; have yf0 := blk_frozen BS1 0; have yf1 := blk_frozen BS1 1; have yf2 := blk_frozen BS1 2; have yf3 := blk_frozen BS1 3; have yf4 := blk_frozen BS1 4; have yf5 := blk_frozen BS1 5; have yf6 := blk_frozen BS1 6; have yf7 := blk_frozen BS1 7; have yf8 := blk_frozen BS1 8; have yf9 := blk_frozen BS1 9; have yf10 := blk_frozen BS1 10; have yf11 := blk_frozen BS1 11; have yf12 := blk_frozen BS1 12; have yf13 := blk_frozen BS1 13
      have HBS := Aside0.mk BS1
      have HB1 := Aside0.mk (below_step HB.out hb)
      have HCD := Aside0.mk (Kd.R_reads' ho).2.1
      have HCA := Aside0.mk (Kd.C_below HC.out hb)
      have HO := Aside0.mk ho
      clear x0 x1 x2 x3 x4 x5 x6 x7 x8 x9 x10 x11 x12 x13 hb BS1 ho HST
      go_upto_region 8 with (fail)
      have r1 := bset14 HBS.out (.int .i64 1) (.int .i64 2) (.int .i64 0) (.int .i64 3) (.slice B 1 d) (.int .i64 9) (.int .i64 (st29 9).c0) (.int .i64 (st29 9).c1) (.bool (st29 9).h0) (.bool (st29 9).h1) (.bool (st29 9).t0) (.bool (st29 9).t1) (.bool (st29 9).en) (.int .i64 (st29 9).bl)
      have r2 : Kd.C (Kd.int .i64) ((((((((((((((w4.setCell ⟨gs, 0, none⟩ (.int .i64 1)).setCell ⟨gs, 1, none⟩ (.int .i64 2)).setCell ⟨gs, 2, none⟩ (.int .i64 0)).setCell ⟨gs, 3, none⟩ (.int .i64 3)).setCell ⟨gs, 4, none⟩ (.slice B 1 d)).setCell ⟨gs, 5, none⟩ (.int .i64 9)).setCell ⟨gs, 6, none⟩ (.int .i64 (st29 9).c0)).setCell ⟨gs, 7, none⟩ (.int .i64 (st29 9).c1)).setCell ⟨gs, 8, none⟩ (.bool (st29 9).h0)).setCell ⟨gs, 9, none⟩ (.bool (st29 9).h1)).setCell ⟨gs, 10, none⟩ (.bool (st29 9).t0)).setCell ⟨gs, 11, none⟩ (.bool (st29 9).t1)).setCell ⟨gs, 12, none⟩ (.bool (st29 9).en)).setCell ⟨gs, 13, none⟩ (.int .i64 (st29 9).bl)) B 1 [3] := bset14_C HO.out HBS.out (.int .i64 1) (.int .i64 2) (.int .i64 0) (.int .i64 3) (.slice B 1 d) (.int .i64 9) (.int .i64 (st29 9).c0) (.int .i64 (st29 9).c1) (.bool (st29 9).h0) (.bool (st29 9).h1) (.bool (st29 9).t0) (.bool (st29 9).t1) (.bool (st29 9).en) (.int .i64 (st29 9).bl)
      have r3 := zset14_B HB1.out hge (.int .i64 1) (.int .i64 2) (.int .i64 0) (.int .i64 3) (.slice B 1 d) (.int .i64 9) (.int .i64 (st29 9).c0) (.int .i64 (st29 9).c1) (.bool (st29 9).h0) (.bool (st29 9).h1) (.bool (st29 9).t0) (.bool (st29 9).t1) (.bool (st29 9).en) (.int .i64 (st29 9).bl)
      clear BS HC HCC HB y0 yf0 y1 yf1 y2 yf2 y3 yf3 y4 yf4 y5 yf5 y6 yf6 y7 yf7 y8 yf8 y9 yf9 y10 yf10 y11 yf11 y12 yf12 y13 yf13 HBS HB1 HO
      generalize ((((((((((((((w4.setCell ⟨gs, 0, none⟩ (.int .i64 1)).setCell ⟨gs, 1, none⟩ (.int .i64 2)).setCell ⟨gs, 2, none⟩ (.int .i64 0)).setCell ⟨gs, 3, none⟩ (.int .i64 3)).setCell ⟨gs, 4, none⟩ (.slice B 1 d)).setCell ⟨gs, 5, none⟩ (.int .i64 9)).setCell ⟨gs, 6, none⟩ (.int .i64 (st29 9).c0)).setCell ⟨gs, 7, none⟩ (.int .i64 (st29 9).c1)).setCell ⟨gs, 8, none⟩ (.bool (st29 9).h0)).setCell ⟨gs, 9, none⟩ (.bool (st29 9).h1)).setCell ⟨gs, 10, none⟩ (.bool (st29 9).t0)).setCell ⟨gs, 11, none⟩ (.bool (st29 9).t1)).setCell ⟨gs, 12, none⟩ (.bool (st29 9).en)).setCell ⟨gs, 13, none⟩ (.int .i64 (st29 9).bl)) = W8_ at *
      have BS := Aside0.mk r1; have HC := Aside0.mk r2; have HB := Aside0.mk r3; have HCC := HCD
      clear r1 r2 r3
      clear HCD HCA
      obtain ⟨A2, hA2⟩ : ∃ A2, A2 = B := ⟨_, rfl⟩
      obtain ⟨d2, hd2⟩ : ∃ d2, d2 = d := ⟨_, rfl⟩
      rw [← hA2, ← hd2] at BS
      rw [← hA2] at HC
      rw [← hd2] at HCC
      clear hA2 hd2
      go_wp2
      go_loopw [5] (fun vi w' => ∃ (i j : Int), 0 ≤ i ∧ i ≤ 5 ∧ Aside0 (j = i + 9) ∧ vi = .int .i64 i ∧ (∃ (A : Option Addr) (c : Nat), Aside0 (w'.heap[gs]? = some (.cells #[.int .i64 1, .int .i64 2, .int .i64 0, .int .i64 3, .slice A 1 c, .int .i64 j, .int .i64 (st29 j.toNat).c0, .int .i64 (st29 j.toNat).c1, .bool (st29 j.toNat).h0, .bool (st29 j.toNat).h1, .bool (st29 j.toNat).t0, .bool (st29 j.toNat).t1, .bool (st29 j.toNat).en, .int .i64 (st29 j.toNat).bl] 54 (0, 0))) ∧ Aside0 (Kd.C (Kd.int .i64) w' A 1 [3]) ∧ Aside0 (1 ≤ c) ∧ Aside0 (Below w.heap.size w w'))) (fun vi _ => 5 - (intOf vi).toNat)
      case atStart => exact ⟨0, 9, by omega, by omega, ⟨by omega⟩, rfl, A2, d2, BS, HC, HCC, HB⟩
      case round =>
        clear BS HC HCC HB
        obtain ⟨i, j, hi0, hi1, HJ, rfl, A, c, BS, HC, HCC, HB⟩ := hrel
        by_cases hlt : i < 5
        · have hj0 : 0 ≤ j := by have := HJ.out; omega
          have hj1 : j < 14 := by have := HJ.out; omega
          have hj2 : 9 ≤ j := by have := HJ.out; omega
          have x0 := blk_cell BS.out 0; have x1 := blk_cell BS.out 1; have x2 := blk_cell BS.out 2; have x3 := blk_cell BS.out 3; have x4 := blk_cell BS.out 4; have x5 := blk_cell BS.out 5; have x6 := blk_cell BS.out 6; have x7 := blk_cell BS.out 7; have x8 := blk_cell BS.out 8; have x9 := blk_cell BS.out 9; have x10 := blk_cell BS.out 10; have x11 := blk_cell BS.out 11; have x12 := blk_cell BS.out 12; have x13 := blk_cell BS.out 13
          have hstep := st29_eq j.toNat j (by omega) 0 (by unfold how29; rw [if_neg (by omega)])
          have hcon := slot_Step_some 1 2 0 3 A c [3] (by decide) j (st29 j.toNat) 20 L29 0 (by omega) (by rw [len29]; omega) (by omega) (by omega) (by omega) (peers29i j (by omega) (by omega))
          rw [hstep] at hcon
          have HST := Aside0.mk hcon
          clear hcon hstep
          go_wp2_with fail
          refine (HST.out _ HC.out HCC.out (laid_below HL.out HB.out) plan29).mono ?_
          rintro e w2 ⟨B, d, rfl, ho, hb⟩
          have BS1 := (hb.block gs (blk_lt BS.out)).trans BS.out
          have y0 := blk_cell BS1 0; have y1 := blk_cell BS1 1; have y2 := blk_cell BS1 2; have y3 := blk_cell BS1 3; have y4 := blk_cell BS1 4; have y5 := blk_cell BS1 5; have y6 := blk_cell BS1 6; have y7 := blk_cell BS1 7; have y8 := blk_cell BS1 8; have y9 := blk_cell BS1 9; have y10 := blk_cell BS1 10; have y11 := blk_cell BS1 11; have y12 := blk_cell BS1 12; have y13 := blk_cell BS1 13; have yf0 := blk_frozen BS1 0; have yf1 := blk_frozen BS1 1; have yf2 := blk_frozen BS1 2; have yf3 := blk_frozen BS1 3; have yf4 := blk_frozen BS1 4; have yf5 := blk_frozen BS1 5; have yf6 := blk_frozen BS1 6; have yf7 := blk_frozen BS1 7; have yf8 := blk_frozen BS1 8; have yf9 := blk_frozen BS1 9; have yf10 := blk_frozen BS1 10; have yf11 := blk_frozen BS1 11; have yf12 := blk_frozen BS1 12; have yf13 := blk_frozen BS1 13
          have HBS := Aside0.mk BS1
          have HB1 := Aside0.mk (below_step HB.out hb)
          have HCD := Aside0.mk (Kd.R_reads' ho).2.1
          have HCA := Aside0.mk (Kd.C_below HC.out hb)
          have HO := Aside0.mk ho
          clear x0 x1 x2 x3 x4 x5 x6 x7 x8 x9 x10 x11 x12 x13 hb BS1 ho HST
          go_wp2
          go_roundw
          case rel => exact ⟨i + 1, j + 1, by omega, by omega, ⟨by have := HJ.out; omega⟩, by go_num, B, d, ⟨by rw [show (j + 1).toNat = j.toNat + 1 by omega]; exact bset14 HBS.out _ _ _ _ _ _ _ _ _ _ _ _ _ _⟩, ⟨bset14_C HO.out HBS.out _ _ _ _ _ _ _ _ _ _ _ _ _ _⟩, ⟨HCD.out⟩, ⟨zset14_B HB1.out hge _ _ _ _ _ _ _ _ _ _ _ _ _ _⟩⟩
          case measure => simp [intOf]; omega
        · obtain rfl : i = 5 := by omega
          obtain rfl : j = 14 := by have := HJ.out; omega
          have BS : Aside0 (wr.heap[gs]? = some (.cells #[.int .i64 1, .int .i64 2, .int .i64 0, .int .i64 3, .slice A 1 c, .int .i64 14, .int .i64 (st29 14).c0, .int .i64 (st29 14).c1, .bool (st29 14).h0, .bool (st29 14).h1, .bool (st29 14).t0, .bool (st29 14).t1, .bool (st29 14).en, .int .i64 (st29 14).bl] 54 (0, 0))) := BS
          clear hlt hi0 hi1
          have x0 := blk_cell BS.out 0; have x1 := blk_cell BS.out 1; have x2 := blk_cell BS.out 2; have x3 := blk_cell BS.out 3; have x4 := blk_cell BS.out 4; have x5 := blk_cell BS.out 5; have x6 := blk_cell BS.out 6; have x7 := blk_cell BS.out 7; have x8 := blk_cell BS.out 8; have x9 := blk_cell BS.out 9; have x10 := blk_cell BS.out 10; have x11 := blk_cell BS.out 11; have x12 := blk_cell BS.out 12; have x13 := blk_cell BS.out 13
          have hstep := st29_eq 14 14 (by omega) 0 (by kernel_rfl)
          have hcon := slot_Step_some 1 2 0 3 A c [3] (by decide) 14 (st29 14) 20 L29 0 (by omega) (by rw [len29]; omega) (by omega) (by omega) (by omega) (peers29i 14 (by omega) (by omega))
          rw [hstep] at hcon
          have HST := Aside0.mk hcon
          clear hcon hstep
          go_wp2_with fail
          refine (HST.out _ HC.out HCC.out (laid_below HL.out HB.out) plan29).mono ?_
          rintro e w5 ⟨B, d, rfl, ho, hb⟩
          have BS1 := (hb.block gs (blk_lt BS.out)).trans BS.out
          have y0 := blk_cell BS1 0; have y1 := blk_cell BS1 1; have y2 := blk_cell BS1 2; have y3 := blk_cell BS1 3; have y4 := blk_cell BS1 4; have y5 := blk_cell BS1 5; have y6 := blk_cell BS1 6; have y7 := blk_cell BS1 7; have y8 := blk_cell BS1 8; have y9 := blk_cell BS1 9; have y10 := blk_cell BS1 10; have y11 := blk_cell BS1 11; have y12 := blk_cell BS1 12; have y13 := blk_cell BS1 13; have yf0 := blk_frozen BS1 0; have yf1 := blk_frozen BS1 1; have yf2 := blk_frozen BS1 2; have yf3 := blk_frozen BS1 3; have yf4 := blk_frozen BS1 4; have yf5 := blk_frozen BS1 5; have yf6 := blk_frozen BS1 6; have yf7 := blk_frozen BS1 7; have yf8 := blk_frozen BS1 8; have yf9 := blk_frozen BS1 9; have yf10 := blk_frozen BS1 10; have yf11 := blk_frozen BS1 11; have yf12 := blk_frozen BS1 12; have yf13 := blk_frozen BS1 13
          have HBS := Aside0.mk BS1
          have HB1 := Aside0.mk (below_step HB.out hb)
          have HCD := Aside0.mk (Kd.R_reads' ho).2.1
          have HCA := Aside0.mk (Kd.C_below HC.out hb)
          have HO := Aside0.mk ho
          clear x0 x1 x2 x3 x4 x5 x6 x7 x8 x9 x10 x11 x12 x13 hb BS1 ho HST
          go_upto_region 13 with (fail)
          have r1 : (w5.alloc (.cells #[.int .i64 1, .int .i64 2, .int .i64 0, .int .i64 3, .slice B 1 d, .int .i64 15, .int .i64 (st29 15).c0, .int .i64 (st29 15).c1, .bool (st29 15).h0, .bool (st29 15).h1, .bool (st29 15).t0, .bool (st29 15).t1, .bool (st29 15).en, .int .i64 (st29 15).bl] 54)).heap[w5.heap.size]? = some (.cells #[.int .i64 1, .int .i64 2, .int .i64 0, .int .i64 3, .slice B 1 d, .int .i64 15, .int .i64 (st29 15).c0, .int .i64 (st29 15).c1, .bool (st29 15).h0, .bool (st29 15).h1, .bool (st29 15).t0, .bool (st29 15).t1, .bool (st29 15).en, .int .i64 (st29 15).bl] 54 (0, 0)) := blk_new w5 _
          have r2 := blk_alloc HBS.out (.cells #[.int .i64 1, .int .i64 2, .int .i64 0, .int .i64 3, .slice B 1 d, .int .i64 15, .int .i64 (st29 15).c0, .int .i64 (st29 15).c1, .bool (st29 15).h0, .bool (st29 15).h1, .bool (st29 15).t0, .bool (st29 15).t1, .bool (st29 15).en, .int .i64 (st29 15).bl] 54); have r3 := below_alloc HB1.out (.cells #[.int .i64 1, .int .i64 2, .int .i64 0, .int .i64 3, .slice B 1 d, .int .i64 15, .int .i64 (st29 15).c0, .int .i64 (st29 15).c1, .bool (st29 15).h0, .bool (st29 15).h1, .bool (st29 15).t0, .bool (st29 15).t1, .bool (st29 15).en, .int .i64 (st29 15).bl] 54); have r4 := Kd.C_below HCA.out (below_alloc (Below.refl _ w5) (.cells #[.int .i64 1, .int .i64 2, .int .i64 0, .int .i64 3, .slice B 1 d, .int .i64 15, .int .i64 (st29 15).c0, .int .i64 (st29 15).c1, .bool (st29 15).h0, .bool (st29 15).h1, .bool (st29 15).t0, .bool (st29 15).t1, .bool (st29 15).en, .int .i64 (st29 15).bl] 54))
          obtain ⟨gt, hgt⟩ : ∃ gt, gt = w5.heap.size := ⟨_, rfl⟩
          clear BS HC HB y0 yf0 y1 yf1 y2 yf2 y3 yf3 y4 yf4 y5 yf5 y6 yf6 y7 yf7 y8 yf8 y9 yf9 y10 yf10 y11 yf11 y12 yf12 y13 yf13 HBS HB1 HO
          generalize (w5.alloc (.cells #[.int .i64 1, .int .i64 2, .int .i64 0, .int .i64 3, .slice B 1 d, .int .i64 15, .int .i64 (st29 15).c0, .int .i64 (st29 15).c1, .bool (st29 15).h0, .bool (st29 15).h1, .bool (st29 15).t0, .bool (st29 15).t1, .bool (st29 15).en, .int .i64 (st29 15).bl] 54)) = W6 at *
          rw [← hgt] at r1 ⊢
          have BT := Aside0.mk r1; have BS := Aside0.mk r2; have HB := Aside0.mk r3; have HC := Aside0.mk r4
          clear r1 r2 r3 r4 hgt
          have BS : Aside0 (W6.heap[gs]? = some (.cells #[.int .i64 1, .int .i64 2, .int .i64 0, .int .i64 3, .slice A 1 c, .int .i64 14, .int .i64 19, .int .i64 22, .bool false, .bool true, .bool false, .bool false, .bool false, .int .i64 0] 54 (0, 0))) := ⟨by have h_ := BS.out; rw [s29_14] at h_; exact h_⟩
          have BT : Aside0 (W6.heap[gt]? = some (.cells #[.int .i64 1, .int .i64 2, .int .i64 0, .int .i64 3, .slice B 1 d, .int .i64 15, .int .i64 19, .int .i64 22, .bool false, .bool true, .bool false, .bool false, .bool true, .int .i64 1] 54 (0, 0))) := ⟨by have h_ := BT.out; rw [s29_15] at h_; exact h_⟩
          have x0 := blk_cell BS.out 0; have x1 := blk_cell BS.out 1; have x2 := blk_cell BS.out 2; have x3 := blk_cell BS.out 3; have x4 := blk_cell BS.out 4; have x5 := blk_cell BS.out 5; have x6 := blk_cell BS.out 6; have x7 := blk_cell BS.out 7; have x8 := blk_cell BS.out 8; have x9 := blk_cell BS.out 9; have x10 := blk_cell BS.out 10; have x11 := blk_cell BS.out 11; have x12 := blk_cell BS.out 12; have x13 := blk_cell BS.out 13
          have hk : keptF 0 (⟨19, 22, false, true, false, false, false, 0⟩ : SlotS) = true := by rfl
          have HK := Aside0.mk hk
          clear hk
          go_wp2_with fail
          refine (slotfn_Kept 1 2 0 3 A c [3] (by decide) 14 (⟨19, 22, false, true, false, false, false, 0⟩ : SlotS) 1 0 (by kernel_rfl) _ HC.out HCC.out).mono ?_
          rintro e w7 ⟨rfl, hb⟩
          rw [HK.out]
          replace BS := Aside0.mk ((hb.block gs (blk_lt BS.out)).trans BS.out); replace HC := Aside0.mk (Kd.C_below HC.out hb); replace HB := Aside0.mk (below_step HB.out hb); (try replace BT := Aside0.mk ((hb.block gt (blk_lt BT.out)).trans BT.out)); clear hb
          clear x0 x1 x2 x3 x4 x5 x6 x7 x8 x9 x10 x11 x12 x13
          have x0 := blk_cell BS.out 0; have x1 := blk_cell BS.out 1; have x2 := blk_cell BS.out 2; have x3 := blk_cell BS.out 3; have x4 := blk_cell BS.out 4; have x5 := blk_cell BS.out 5; have x6 := blk_cell BS.out 6; have x7 := blk_cell BS.out 7; have x8 := blk_cell BS.out 8; have x9 := blk_cell BS.out 9; have x10 := blk_cell BS.out 10; have x11 := blk_cell BS.out 11; have x12 := blk_cell BS.out 12; have x13 := blk_cell BS.out 13
          have hk : keptF 1 (⟨19, 22, false, true, false, false, false, 0⟩ : SlotS) = false := by rfl
          have HK := Aside0.mk hk
          clear hk
          go_wp2_with fail
          refine (slotfn_Kept 1 2 0 3 A c [3] (by decide) 14 (⟨19, 22, false, true, false, false, false, 0⟩ : SlotS) 2 1 (by kernel_rfl) _ HC.out HCC.out).mono ?_
          rintro e w8 ⟨rfl, hb⟩
          rw [HK.out]
          replace BS := Aside0.mk ((hb.block gs (blk_lt BS.out)).trans BS.out); replace HC := Aside0.mk (Kd.C_below HC.out hb); replace HB := Aside0.mk (below_step HB.out hb); (try replace BT := Aside0.mk ((hb.block gt (blk_lt BT.out)).trans BT.out)); clear hb
          clear x0 x1 x2 x3 x4 x5 x6 x7 x8 x9 x10 x11 x12 x13
          have x0 := blk_cell BS.out 0; have x1 := blk_cell BS.out 1; have x2 := blk_cell BS.out 2; have x3 := blk_cell BS.out 3; have x4 := blk_cell BS.out 4; have x5 := blk_cell BS.out 5; have x6 := blk_cell BS.out 6; have x7 := blk_cell BS.out 7; have x8 := blk_cell BS.out 8; have x9 := blk_cell BS.out 9; have x10 := blk_cell BS.out 10; have x11 := blk_cell BS.out 11; have x12 := blk_cell BS.out 12; have x13 := blk_cell BS.out 13
          have z0 := blk_cell BT.out 0; have z1 := blk_cell BT.out 1; have z2 := blk_cell BT.out 2; have z3 := blk_cell BT.out 3; have z4 := blk_cell BT.out 4; have z5 := blk_cell BT.out 5; have z6 := blk_cell BT.out 6; have z7 := blk_cell BT.out 7; have z8 := blk_cell BT.out 8; have z9 := blk_cell BT.out 9; have z10 := blk_cell BT.out 10; have z11 := blk_cell BT.out 11; have z12 := blk_cell BT.out 12; have z13 := blk_cell BT.out 13
          go_wp2
          go_ret
          exact ⟨rfl, HB.out⟩

def storagebarterlaw29_sane.f : Option (Bool) := some true
theorem storagebarterlaw29_sane.calls (r : Bool) (w : World) (h : storagebarterlaw29_sane.f = some r) (hL_ : Laid w) :
    Calls Tryd.prog 35 #[] w fun e w' => e = .returned (.bool r) ∧ Below w.heap.size w w' := by
  obtain rfl := Option.some.inj h
  exact sane29 w hL_

/-! ### storagebarterlaw29_SlotFollows: function 9 -/
mutual
def storagebarterlaw29_SlotFollows.l0 : Nat → List (S36) → Int → Int → Int → Int → Int → Int → List Int → Int → Int → Int → Int → List Int → Int → Int → Int → Bool → Bool → Bool → Bool → Bool → Int → Int → Int → Option (Bool)
 | 0, _, _, _, _, _, _, _, _, _, _, _, _, _, _, _, _, _, _, _, _, _, _, _, _ => none
 | k + 1, x37, x38, x39, x177000, x177001, x177002, x177003, x177004, x195000, x195001, x195002, x195003, x195004, x195005, x195006, x195007, x195008, x195009, x195010, x195011, x195012, x195013, x200000, x200001 => if x39 < x38 then (if 0 ≤ x39 then (if x39 < (x37.length : Int) then ((slot_Next.f k x195000 x195001 x195002 x195003 x195004 x195005 x195006 x195007 x195008 x195009 x195010 x195011 x195012 x195013).bind fun bt226 => (if bt226.2.2.2.2 = true then (storagebarterlaw29_SlotFollows.j1 k x39 x37 x38 x39 (!(bt226.1 == ((rd_T36 x37 x39).f0)) || (!(bt226.2.1 == ((rd_T36 x37 x39).f1)) || (!(bt226.2.2.1 == ((rd_T36 x37 x39).f2)) || (!(bt226.2.2.2.1 == ((rd_T36 x37 x39).f3)))))) x177000 x177001 x177002 x177003 x177004 x195000 x195001 x195002 x195003 x195004 x195005 x195006 x195007 x195008 x195009 x195010 x195011 x195012 x195013 x200000 x200001 ((rd_T36 x37 x39).f0) ((rd_T36 x37 x39).f1) ((rd_T36 x37 x39).f2) ((rd_T36 x37 x39).f3)) else (storagebarterlaw29_SlotFollows.j1 k x39 x37 x38 x39 true x177000 x177001 x177002 x177003 x177004 x195000 x195001 x195002 x195003 x195004 x195005 x195006 x195007 x195008 x195009 x195010 x195011 x195012 x195013 x200000 x200001 ((rd_T36 x37 x39).f0) ((rd_T36 x37 x39).f1) ((rd_T36 x37 x39).f2) ((rd_T36 x37 x39).f3)))) else (none)) else (none)) else ((slot_Next.f k x195000 x195001 x195002 x195003 x195004 x195005 x195006 x195007 x195008 x195009 x195010 x195011 x195012 x195013).bind fun bt200 => ((slot_Step.f k x195000 x195001 x195002 x195003 x195004 x195005 x195006 x195007 x195008 x195009 x195010 x195011 x195012 x195013 0).bind fun bt206 => (if bt200.2.2.2.2 = true then (some false) else (some (bt206.2.2.2.2.2.2.2.2.2.2.2.2.2.2 == 5)))))
def storagebarterlaw29_SlotFollows.j1 : Nat → Int → List (S36) → Int → Int → Bool → Int → Int → Int → Int → List Int → Int → Int → Int → Int → List Int → Int → Int → Int → Bool → Bool → Bool → Bool → Bool → Int → Int → Int → Int → Int → Int → Int → Option (Bool)
 | 0, _, _, _, _, _, _, _, _, _, _, _, _, _, _, _, _, _, _, _, _, _, _, _, _, _, _, _, _, _, _ => none
 | k + 1, x9, x37, x38, x39, x55, x177000, x177001, x177002, x177003, x177004, x195000, x195001, x195002, x195003, x195004, x195005, x195006, x195007, x195008, x195009, x195010, x195011, x195012, x195013, x200000, x200001, x226000, x226001, x226002, x226003 => if x55 = true then (some false) else ((slot_Step.f k x195000 x195001 x195002 x195003 x195004 x195005 x195006 x195007 x195008 x195009 x195010 x195011 x195012 x195013 0).bind fun bt232 => (if bt232.2.2.2.2.2.2.2.2.2.2.2.2.2.2 = 0 then ((slot_Side.f x177000 x177001 x177002 x177003 x177004 x226002).bind fun t250 => (if t250 = 0 then ((storagebarterref28_Cost.f x226003).bind fun t251 => (if (!(bt232.2.2.2.2.2.2.1 == (wrap64 (x200000 + t251))) || (!(bt232.2.2.2.2.2.2.2.1 == x200001))) = true then (some false) else (if bt232.2.2.2.2.2.2.2.2.2.2.2.2.1 = true then (some false) else ((slot_Kept.f bt232.1 bt232.2.1 bt232.2.2.1 bt232.2.2.2.1 bt232.2.2.2.2.1 bt232.2.2.2.2.2.1 bt232.2.2.2.2.2.2.1 bt232.2.2.2.2.2.2.2.1 bt232.2.2.2.2.2.2.2.2.1 bt232.2.2.2.2.2.2.2.2.2.1 bt232.2.2.2.2.2.2.2.2.2.2.1 bt232.2.2.2.2.2.2.2.2.2.2.2.1 bt232.2.2.2.2.2.2.2.2.2.2.2.2.1 bt232.2.2.2.2.2.2.2.2.2.2.2.2.2.1 x177001).bind fun t252 => (if (t252 != (decide (x9 ≥ 6))) = true then (some false) else ((slot_Kept.f bt232.1 bt232.2.1 bt232.2.2.1 bt232.2.2.2.1 bt232.2.2.2.2.1 bt232.2.2.2.2.2.1 bt232.2.2.2.2.2.2.1 bt232.2.2.2.2.2.2.2.1 bt232.2.2.2.2.2.2.2.2.1 bt232.2.2.2.2.2.2.2.2.2.1 bt232.2.2.2.2.2.2.2.2.2.2.1 bt232.2.2.2.2.2.2.2.2.2.2.2.1 bt232.2.2.2.2.2.2.2.2.2.2.2.2.1 bt232.2.2.2.2.2.2.2.2.2.2.2.2.2.1 x177000).bind fun t253 => (if (t253 != (decide (x9 ≥ 7))) = true then (some false) else (storagebarterlaw29_SlotFollows.l0 k x37 x38 (wrap64 (x39 + 1)) x177000 x177001 x177002 x177003 x177004 bt232.1 bt232.2.1 bt232.2.2.1 bt232.2.2.2.1 bt232.2.2.2.2.1 bt232.2.2.2.2.2.1 bt232.2.2.2.2.2.2.1 bt232.2.2.2.2.2.2.2.1 bt232.2.2.2.2.2.2.2.2.1 bt232.2.2.2.2.2.2.2.2.2.1 bt232.2.2.2.2.2.2.2.2.2.2.1 bt232.2.2.2.2.2.2.2.2.2.2.2.1 bt232.2.2.2.2.2.2.2.2.2.2.2.2.1 bt232.2.2.2.2.2.2.2.2.2.2.2.2.2.1 (wrap64 (x200000 + t251)) x200001)))))))) else (if t250 = 1 then ((storagebarterref28_Cost.f x226003).bind fun t254 => (if (!(bt232.2.2.2.2.2.2.1 == x200000) || (!(bt232.2.2.2.2.2.2.2.1 == (wrap64 (x200001 + t254))))) = true then (some false) else (if bt232.2.2.2.2.2.2.2.2.2.2.2.2.1 = true then (some false) else ((slot_Kept.f bt232.1 bt232.2.1 bt232.2.2.1 bt232.2.2.2.1 bt232.2.2.2.2.1 bt232.2.2.2.2.2.1 bt232.2.2.2.2.2.2.1 bt232.2.2.2.2.2.2.2.1 bt232.2.2.2.2.2.2.2.2.1 bt232.2.2.2.2.2.2.2.2.2.1 bt232.2.2.2.2.2.2.2.2.2.2.1 bt232.2.2.2.2.2.2.2.2.2.2.2.1 bt232.2.2.2.2.2.2.2.2.2.2.2.2.1 bt232.2.2.2.2.2.2.2.2.2.2.2.2.2.1 x177001).bind fun t255 => (if (t255 != (decide (x9 ≥ 6))) = true then (some false) else ((slot_Kept.f bt232.1 bt232.2.1 bt232.2.2.1 bt232.2.2.2.1 bt232.2.2.2.2.1 bt232.2.2.2.2.2.1 bt232.2.2.2.2.2.2.1 bt232.2.2.2.2.2.2.2.1 bt232.2.2.2.2.2.2.2.2.1 bt232.2.2.2.2.2.2.2.2.2.1 bt232.2.2.2.2.2.2.2.2.2.2.1 bt232.2.2.2.2.2.2.2.2.2.2.2.1 bt232.2.2.2.2.2.2.2.2.2.2.2.2.1 bt232.2.2.2.2.2.2.2.2.2.2.2.2.2.1 x177000).bind fun t256 => (if (t256 != (decide (x9 ≥ 7))) = true then (some false) else (storagebarterlaw29_SlotFollows.l0 k x37 x38 (wrap64 (x39 + 1)) x177000 x177001 x177002 x177003 x177004 bt232.1 bt232.2.1 bt232.2.2.1 bt232.2.2.2.1 bt232.2.2.2.2.1 bt232.2.2.2.2.2.1 bt232.2.2.2.2.2.2.1 bt232.2.2.2.2.2.2.2.1 bt232.2.2.2.2.2.2.2.2.1 bt232.2.2.2.2.2.2.2.2.2.1 bt232.2.2.2.2.2.2.2.2.2.2.1 bt232.2.2.2.2.2.2.2.2.2.2.2.1 bt232.2.2.2.2.2.2.2.2.2.2.2.2.1 bt232.2.2.2.2.2.2.2.2.2.2.2.2.2.1 x200000 (wrap64 (x200001 + t254)))))))))) else (none)))) else (some false)))
end
def storagebarterlaw29_SlotFollows.f (k : Nat) (l0 : List Int) : Option (Bool) := (storagebarterlaw29_sane.f).bind fun t164 => (if t164 = true then ((storagebarterplay_New.f l0).bind fun bt165 => ((storagebarterplay_Dice_Arrangement.f k bt165.1 bt165.2 4).bind fun bt168 => ((slot_New.f k bt168.1 bt168.2.1 bt168.2.2.1 bt168.2.2.2.1 bt168.2.2.2.2.1).bind fun bt177 => ((storagebarterref28_Plan.f k bt168.1 bt168.2.1 bt168.2.2.1 bt168.2.2.2.1 bt168.2.2.2.2.1 0 true).bind fun bt195 => (if bt177.2.2.2.2.2.2.2.2.2.2.2.2.2.2 = 0 then (storagebarterlaw29_SlotFollows.l0 k bt195.1 (bt195.1.length : Int) 0 bt168.1 bt168.2.1 bt168.2.2.1 bt168.2.2.2.1 bt168.2.2.2.2.1 bt177.1 bt177.2.1 bt177.2.2.1 bt177.2.2.2.1 bt177.2.2.2.2.1 bt177.2.2.2.2.2.1 bt177.2.2.2.2.2.2.1 bt177.2.2.2.2.2.2.2.1 bt177.2.2.2.2.2.2.2.2.1 bt177.2.2.2.2.2.2.2.2.2.1 bt177.2.2.2.2.2.2.2.2.2.2.1 bt177.2.2.2.2.2.2.2.2.2.2.2.1 bt177.2.2.2.2.2.2.2.2.2.2.2.2.1 bt177.2.2.2.2.2.2.2.2.2.2.2.2.2.1 0 0) else (some false)))))) else (some false))
theorem storagebarterlaw29_SlotFollows.mono_l : ∀ k, (∀ y0 y1 y2 y3 y4 y5 y6 y7 y8 y9 y10 y11 y12 y13 y14 y15 y16 y17 y18 y19 y20 y21 y22 y23, LeO (storagebarterlaw29_SlotFollows.l0 k y0 y1 y2 y3 y4 y5 y6 y7 y8 y9 y10 y11 y12 y13 y14 y15 y16 y17 y18 y19 y20 y21 y22 y23) (storagebarterlaw29_SlotFollows.l0 (k + 1) y0 y1 y2 y3 y4 y5 y6 y7 y8 y9 y10 y11 y12 y13 y14 y15 y16 y17 y18 y19 y20 y21 y22 y23)) ∧ (∀ y0 y1 y2 y3 y4 y5 y6 y7 y8 y9 y10 y11 y12 y13 y14 y15 y16 y17 y18 y19 y20 y21 y22 y23 y24 y25 y26 y27 y28 y29, LeO (storagebarterlaw29_SlotFollows.j1 k y0 y1 y2 y3 y4 y5 y6 y7 y8 y9 y10 y11 y12 y13 y14 y15 y16 y17 y18 y19 y20 y21 y22 y23 y24 y25 y26 y27 y28 y29) (storagebarterlaw29_SlotFollows.j1 (k + 1) y0 y1 y2 y3 y4 y5 y6 y7 y8 y9 y10 y11 y12 y13 y14 y15 y16 y17 y18 y19 y20 y21 y22 y23 y24 y25 y26 y27 y28 y29))
 | 0 => ⟨fun _ _ _ _ _ _ _ _ _ _ _ _ _ _ _ _ _ _ _ _ _ _ _ _ r h => by simp [storagebarterlaw29_SlotFollows.l0] at h, fun _ _ _ _ _ _ _ _ _ _ _ _ _ _ _ _ _ _ _ _ _ _ _ _ _ _ _ _ _ _ r h => by simp [storagebarterlaw29_SlotFollows.j1] at h⟩
 | k + 1 => by
  obtain ⟨ih0, ih1⟩ := storagebarterlaw29_SlotFollows.mono_l k
  refine ⟨?_, ?_⟩
  ·intro y0 y1 y2 y3 y4 y5 y6 y7 y8 y9 y10 y11 y12 y13 y14 y15 y16 y17 y18 y19 y20 y21 y22 y23
   unfold storagebarterlaw29_SlotFollows.l0
   repeat' first
   | (with_reducible exact ih0 _ _ _ _ _ _ _ _ _ _ _ _ _ _ _ _ _ _ _ _ _ _ _ _)
   | (with_reducible exact ih1 _ _ _ _ _ _ _ _ _ _ _ _ _ _ _ _ _ _ _ _ _ _ _ _ _ _ _ _ _ _)
   | (with_reducible exact slot_New.mono _ _ _ _ _ _)
   | (with_reducible exact slot_Next.mono _ _ _ _ _ _ _ _ _ _ _ _ _ _ _)
   | (with_reducible exact slot_Step.mono _ _ _ _ _ _ _ _ _ _ _ _ _ _ _ _)
   | (with_reducible exact storagebarterplay_Dice_Arrangement.mono _ _ _ _)
   | (with_reducible exact storagebarterref28_Plan.mono _ _ _ _ _ _ _ _)
   | (with_reducible exact LeO.refl _)
   | (with_reducible exact LeO.none _)
   | (with_reducible refine LeO.ite ?_ ?_)
   | (with_reducible refine LeO.bind ?_ (fun _ => ?_))
   | exact ih0 _ _ _ _ _ _ _ _ _ _ _ _ _ _ _ _ _ _ _ _ _ _ _ _
   | exact ih1 _ _ _ _ _ _ _ _ _ _ _ _ _ _ _ _ _ _ _ _ _ _ _ _ _ _ _ _ _ _
   | exact slot_New.mono _ _ _ _ _ _
   | exact slot_Next.mono _ _ _ _ _ _ _ _ _ _ _ _ _ _ _
   | exact slot_Step.mono _ _ _ _ _ _ _ _ _ _ _ _ _ _ _ _
   | exact storagebarterplay_Dice_Arrangement.mono _ _ _ _
   | exact storagebarterref28_Plan.mono _ _ _ _ _ _ _ _
   | exact LeO.none _
   | refine LeO.ite ?_ ?_
   | refine LeO.bind ?_ (fun _ => ?_)
  ·intro y0 y1 y2 y3 y4 y5 y6 y7 y8 y9 y10 y11 y12 y13 y14 y15 y16 y17 y18 y19 y20 y21 y22 y23 y24 y25 y26 y27 y28 y29
   unfold storagebarterlaw29_SlotFollows.j1
   repeat' first
   | (with_reducible exact ih0 _ _ _ _ _ _ _ _ _ _ _ _ _ _ _ _ _ _ _ _ _ _ _ _)
   | (with_reducible exact ih1 _ _ _ _ _ _ _ _ _ _ _ _ _ _ _ _ _ _ _ _ _ _ _ _ _ _ _ _ _ _)
   | (with_reducible exact slot_New.mono _ _ _ _ _ _)
   | (with_reducible exact slot_Next.mono _ _ _ _ _ _ _ _ _ _ _ _ _ _ _)
   | (with_reducible exact slot_Step.mono _ _ _ _ _ _ _ _ _ _ _ _ _ _ _ _)
   | (with_reducible exact storagebarterplay_Dice_Arrangement.mono _ _ _ _)
   | (with_reducible exact storagebarterref28_Plan.mono _ _ _ _ _ _ _ _)
   | (with_reducible exact LeO.refl _)
   | (with_reducible exact LeO.none _)
   | (with_reducible refine LeO.ite ?_ ?_)
   | (with_reducible refine LeO.bind ?_ (fun _ => ?_))
   | exact ih0 _ _ _ _ _ _ _ _ _ _ _ _ _ _ _ _ _ _ _ _ _ _ _ _
   | exact ih1 _ _ _ _ _ _ _ _ _ _ _ _ _ _ _ _ _ _ _ _ _ _ _ _ _ _ _ _ _ _
   | exact slot_New.mono _ _ _ _ _ _
   | exact slot_Next.mono _ _ _ _ _ _ _ _ _ _ _ _ _ _ _
   | exact slot_Step.mono _ _ _ _ _ _ _ _ _ _ _ _ _ _ _ _
   | exact storagebarterplay_Dice_Arrangement.mono _ _ _ _
   | exact storagebarterref28_Plan.mono _ _ _ _ _ _ _ _
   | exact LeO.none _
   | refine LeO.ite ?_ ?_
   | refine LeO.bind ?_ (fun _ => ?_)
theorem storagebarterlaw29_SlotFollows.mono : ∀ a0 k, LeO (storagebarterlaw29_SlotFollows.f k a0) (storagebarterlaw29_SlotFollows.f (k + 1) a0) := by
 intro a0 k
 obtain ⟨ih0, ih1⟩ := storagebarterlaw29_SlotFollows.mono_l k
 unfold storagebarterlaw29_SlotFollows.f
 repeat' first
   | (with_reducible exact ih0 _ _ _ _ _ _ _ _ _ _ _ _ _ _ _ _ _ _ _ _ _ _ _ _)
   | (with_reducible exact ih1 _ _ _ _ _ _ _ _ _ _ _ _ _ _ _ _ _ _ _ _ _ _ _ _ _ _ _ _ _ _)
   | (with_reducible exact slot_New.mono _ _ _ _ _ _)
   | (with_reducible exact slot_Next.mono _ _ _ _ _ _ _ _ _ _ _ _ _ _ _)
   | (with_reducible exact slot_Step.mono _ _ _ _ _ _ _ _ _ _ _ _ _ _ _ _)
   | (with_reducible exact storagebarterplay_Dice_Arrangement.mono _ _ _ _)
   | (with_reducible exact storagebarterref28_Plan.mono _ _ _ _ _ _ _ _)
   | (with_reducible exact LeO.refl _)
   | (with_reducible exact LeO.none _)
   | (with_reducible refine LeO.ite ?_ ?_)
   | (with_reducible refine LeO.bind ?_ (fun _ => ?_))
   | exact ih0 _ _ _ _ _ _ _ _ _ _ _ _ _ _ _ _ _ _ _ _ _ _ _ _
   | exact ih1 _ _ _ _ _ _ _ _ _ _ _ _ _ _ _ _ _ _ _ _ _ _ _ _ _ _ _ _ _ _
   | exact slot_New.mono _ _ _ _ _ _
   | exact slot_Next.mono _ _ _ _ _ _ _ _ _ _ _ _ _ _ _
   | exact slot_Step.mono _ _ _ _ _ _ _ _ _ _ _ _ _ _ _ _
   | exact storagebarterplay_Dice_Arrangement.mono _ _ _ _
   | exact storagebarterref28_Plan.mono _ _ _ _ _ _ _ _
   | exact LeO.none _
   | refine LeO.ite ?_ ?_
   | refine LeO.bind ?_ (fun _ => ?_)
def storagebarterlaw29_SlotFollows.T19 : Bool × List (List Nat × List Nat) := (true, [([], []), ([], []), ([1], [1]), ([0, 2], [0, 2]), ([3], [3]), ([4], [4]), ([], []), ([6], [6]), ([7, 3], [7]), ([5, 8], [5, 8]), ([3, 0, 1, 2, 3, 4, 5, 6, 7, 8, 9], [3]), ([10, 9, 8, 0, 1, 2, 3, 4, 5, 6, 7, 8, 9], [9, 10])])
def storagebarterlaw29_SlotFollows.B19 : List Nat := [0, 0, 2, 7, 15, 31, 0, 64, 207, 511, 1023, 2047]
theorem storagebarterlaw29_SlotFollows.tab19 : rtab .any (opsOf Tryd.f9 19) = storagebarterlaw29_SlotFollows.T19 := by kernel_rfl
theorem storagebarterlaw29_SlotFollows.bits19 : waitsOk storagebarterlaw29_SlotFollows.T19.2 storagebarterlaw29_SlotFollows.B19 = true := by kernel_rfl

end Go.Proofs.YtgckkjgemkabnaaDoor.PSlotFollows
