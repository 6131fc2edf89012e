-- Written by a program of this repository (wip/tools/myprint.py over the print of the kit): contracts and rows.
import Derived.Test.YtgckkjgemkabnaaDoorPSlotWalksx0
import Derived.Test.YtgckkjgemkabnaaDoorPSlotWalksx4
import Derived.Test.YtgckkjgemkabnaaDoorPSlotWalksx5
import Derived.Test.YtgckkjgemkabnaaDoorPSlotWalksx6
namespace Go.Proofs.YtgckkjgemkabnaaDoor.PSlotWalks
open Go.RowKit Go.Proofs.YtgckkjgemkabnaaDoorW.PrintWords Go.Proofs.YtgckkjgemkabnaaDoorW.PrintLast Go.Proofs.YtgckkjgemkabnaaDoorW.PrintMore
attribute [local go_sem] max2_int min2_int max_two min_two max_three min_three max_four min_four   -- for this text's walks alone
set_option linter.unusedVariables false
set_option linter.unusedSimpArgs false

/-! ### slot_Kept: function 42 -/
def keptF (sd : Int) (s : SlotS) : Bool := !s.en && (if sd = 0 then s.h1 else if sd = 1 then s.h0 else false)
set_option maxHeartbeats 4000000 in
set_option maxRecDepth 100000 in
theorem slotfn_Kept (p q st te : Int) (A : Option Addr) (c : Nat) (l : List Int) (hl : l.length < 17592186044416) (sp : Int) (s : SlotS) (peer sd : Int) (hsd : slot_Side.f p q st te l peer = some sd) (w : World) (hr : Kd.C (Kd.int .i64) w A l.length l) (hc : l.length ≤ c) :
    Calls Tryd.prog 42 #[.agg #[.int .i64 p, .int .i64 q, .int .i64 st, .int .i64 te, .slice A l.length c, .int .i64 sp, .int .i64 s.c0, .int .i64 s.c1, .bool s.h0, .bool s.h1, .bool s.t0, .bool s.t1, .bool s.en, .int .i64 s.bl], .int .i64 peer] w fun e w' => e = .returned (.bool (keptF sd s)) ∧ Below w.heap.size w w' := by
  have h3 : sd = 0 ∨ sd = 1 ∨ sd = -1 := by
    unfold slot_Side.f at hsd
    split at hsd
    · exact .inl (Option.some.inj hsd).symm
    · split at hsd
      · exact .inr (.inl (Option.some.inj hsd).symm)
      · exact .inr (.inr (Option.some.inj hsd).symm)
  have hu := Tryd.underlying54
  have hu4 := Tryd.underlying26
  have HR := Aside0.mk hr
  have HD := Aside0.mk hsd
  clear hr hsd
  obtain ⟨c0, c1, h0, h1, t0, t1, en, bl⟩ := s
  go_enter Tryd.func42, Tryd.ntmps42
  go_upto_region 1 with (fail)
  have q1 : (w.alloc (.cells #[.int .i64 p, .int .i64 q, .int .i64 st, .int .i64 te, .slice A l.length c, .int .i64 sp, .int .i64 c0, .int .i64 c1, .bool h0, .bool h1, .bool t0, .bool t1, .bool en, .int .i64 bl] 54)).heap[w.heap.size]? = some (.cells #[.int .i64 p, .int .i64 q, .int .i64 st, .int .i64 te, .slice A l.length c, .int .i64 sp, .int .i64 c0, .int .i64 c1, .bool h0, .bool h1, .bool t0, .bool t1, .bool en, .int .i64 bl] 54 (0, 0)) := blk_new w _
  have q3 : Below w.heap.size w (w.alloc (.cells #[.int .i64 p, .int .i64 q, .int .i64 st, .int .i64 te, .slice A l.length c, .int .i64 sp, .int .i64 c0, .int .i64 c1, .bool h0, .bool h1, .bool t0, .bool t1, .bool en, .int .i64 bl] 54)) := below_alloc (Below.refl _ _) _
  have q4 := Kd.C_below HR.out q3
  obtain ⟨gs, hgs⟩ : ∃ gs, gs = w.heap.size := ⟨_, rfl⟩
  generalize w.alloc (.cells #[.int .i64 p, .int .i64 q, .int .i64 st, .int .i64 te, .slice A l.length c, .int .i64 sp, .int .i64 c0, .int .i64 c1, .bool h0, .bool h1, .bool t0, .bool t1, .bool en, .int .i64 bl] 54) = W2 at *
  rw [← hgs] at q1 ⊢
  have x0 := blk_cell q1 0; have x1 := blk_cell q1 1; have x2 := blk_cell q1 2; have x3 := blk_cell q1 3; have x4 := blk_cell q1 4
  have BS := Aside0.mk q1; have HB := Aside0.mk q3; have HC := Aside0.mk q4
  clear q1 q3 q4 hgs
  go_wp2_with fail
  refine (slot_Side.calls p q st te A c l peer sd _ HC.out hc HD.out).mono ?_
  rintro e w3 ⟨rfl, hb⟩
  have BS3 := Aside0.mk ((hb.block gs (blk_lt BS.out)).trans BS.out)
  have HB3 := Aside0.mk (below_step HB.out hb)
  clear hb x0 x1 x2 x3 x4
  have y12 := blk_cell BS3.out 12; have y8 := blk_cell BS3.out 8; have y9 := blk_cell BS3.out 9
  cases en
  · rcases h3 with rfl | rfl | rfl
    · go_wp2
      go_ret
      exact ⟨by simp [keptF], HB3.out⟩
    · go_wp2
      go_ret
      exact ⟨by simp [keptF], HB3.out⟩
    · go_wp2
      go_ret
      exact ⟨by simp [keptF], HB3.out⟩
  · go_wp2
    go_ret
    exact ⟨by simp [keptF], HB3.out⟩

def slot_Kept.f (a0_0 : Int) (a0_1 : Int) (a0_2 : Int) (a0_3 : Int) (l0_4 : List Int) (a0_5 : Int) (a0_6 : Int) (a0_7 : Int) (a0_8 : Bool) (a0_9 : Bool) (a0_10 : Bool) (a0_11 : Bool) (a0_12 : Bool) (a0_13 : Int) (a1 : Int) : Option (Bool) := if l0_4.length < 17592186044416 then (slot_Side.f a0_0 a0_1 a0_2 a0_3 l0_4 a1).bind fun t => some (keptF t ⟨a0_6, a0_7, a0_8, a0_9, a0_10, a0_11, a0_12, a0_13⟩) else none
theorem slot_Kept.calls (a0_0 : Int) (a0_1 : Int) (a0_2 : Int) (a0_3 : Int) (A0_4 : Option Addr) (c0_4 : Nat) (l0_4 : List Int) (a0_5 : Int) (a0_6 : Int) (a0_7 : Int) (a0_8 : Bool) (a0_9 : Bool) (a0_10 : Bool) (a0_11 : Bool) (a0_12 : Bool) (a0_13 : Int) (a1 : Int) (r : Bool) (w : World) (hr0_4 : Kd.C (Kd.int .i64) w A0_4 l0_4.length l0_4) (hc0_4 : l0_4.length ≤ c0_4) (h : slot_Kept.f a0_0 a0_1 a0_2 a0_3 l0_4 a0_5 a0_6 a0_7 a0_8 a0_9 a0_10 a0_11 a0_12 a0_13 a1 = some r) :
    Calls Tryd.prog 42 #[.agg #[.int .i64 a0_0, .int .i64 a0_1, .int .i64 a0_2, .int .i64 a0_3, .slice A0_4 l0_4.length c0_4, .int .i64 a0_5, .int .i64 a0_6, .int .i64 a0_7, .bool a0_8, .bool a0_9, .bool a0_10, .bool a0_11, .bool a0_12, .int .i64 a0_13], .int .i64 a1] w fun e w' => e = .returned (.bool r) ∧ Below w.heap.size w w' := by
  unfold slot_Kept.f at h
  split at h
  · rename_i hl
    obtain ⟨t, ht, h⟩ := Option.bind_eq_some_iff.mp h
    obtain rfl := Option.some.inj h
    exact slotfn_Kept a0_0 a0_1 a0_2 a0_3 A0_4 c0_4 l0_4 hl a0_5 ⟨a0_6, a0_7, a0_8, a0_9, a0_10, a0_11, a0_12, a0_13⟩ a1 t ht w hr0_4 hc0_4
  · cases h


/-! ### storagebarterlaw29_sane: function 35 -/
theorem bset14 {w : World} {g : Nat} {a0 a1 a2 a3 a4 a5 a6 a7 a8 a9 a10 a11 a12 a13 : Value} (h : w.heap[g]? = some (.cells #[a0, a1, a2, a3, a4, a5, a6, a7, a8, a9, a10, a11, a12, a13] 54 (0, 0))) (u0 u1 u2 u3 u4 u5 u6 u7 u8 u9 u10 u11 u12 u13 : Value) : ((((((((((((((w.setCell ⟨g, 0, none⟩ u0).setCell ⟨g, 1, none⟩ u1).setCell ⟨g, 2, none⟩ u2).setCell ⟨g, 3, none⟩ u3).setCell ⟨g, 4, none⟩ u4).setCell ⟨g, 5, none⟩ u5).setCell ⟨g, 6, none⟩ u6).setCell ⟨g, 7, none⟩ u7).setCell ⟨g, 8, none⟩ u8).setCell ⟨g, 9, none⟩ u9).setCell ⟨g, 10, none⟩ u10).setCell ⟨g, 11, none⟩ u11).setCell ⟨g, 12, none⟩ u12).setCell ⟨g, 13, none⟩ u13).heap[g]? = some (.cells #[u0, u1, u2, u3, u4, u5, u6, u7, u8, u9, u10, u11, u12, u13] 54 (0, 0)) := by
  replace h := blk_set h 0 u0
  simp only [List.setIfInBounds_toArray, List.set_cons_zero, List.set_cons_succ] at h
  replace h := blk_set h 1 u1
  simp only [List.setIfInBounds_toArray, List.set_cons_zero, List.set_cons_succ] at h
  replace h := blk_set h 2 u2
  simp only [List.setIfInBounds_toArray, List.set_cons_zero, List.set_cons_succ] at h
  replace h := blk_set h 3 u3
  simp only [List.setIfInBounds_toArray, List.set_cons_zero, List.set_cons_succ] at h
  replace h := blk_set h 4 u4
  simp only [List.setIfInBounds_toArray, List.set_cons_zero, List.set_cons_succ] at h
  replace h := blk_set h 5 u5
  simp only [List.setIfInBounds_toArray, List.set_cons_zero, List.set_cons_succ] at h
  replace h := blk_set h 6 u6
  simp only [List.setIfInBounds_toArray, List.set_cons_zero, List.set_cons_succ] at h
  replace h := blk_set h 7 u7
  simp only [List.setIfInBounds_toArray, List.set_cons_zero, List.set_cons_succ] at h
  replace h := blk_set h 8 u8
  simp only [List.setIfInBounds_toArray, List.set_cons_zero, List.set_cons_succ] at h
  replace h := blk_set h 9 u9
  simp only [List.setIfInBounds_toArray, List.set_cons_zero, List.set_cons_succ] at h
  replace h := blk_set h 10 u10
  simp only [List.setIfInBounds_toArray, List.set_cons_zero, List.set_cons_succ] at h
  replace h := blk_set h 11 u11
  simp only [List.setIfInBounds_toArray, List.set_cons_zero, List.set_cons_succ] at h
  replace h := blk_set h 12 u12
  simp only [List.setIfInBounds_toArray, List.set_cons_zero, List.set_cons_succ] at h
  replace h := blk_set h 13 u13
  simp only [List.setIfInBounds_toArray, List.set_cons_zero, List.set_cons_succ] at h
  exact h
theorem bset14_R {α : Type} {d : Kd α} {e base : Nat} {ok : Nat → Prop} {v : Value} {xs : List α} {w : World} {g : Nat} {a0 a1 a2 a3 a4 a5 a6 a7 a8 a9 a10 a11 a12 a13 : Value} (hr : d.R e w base ok v xs) (ht : ∀ q, q ∈ e :: d.E → q ≠ 54) (h : w.heap[g]? = some (.cells #[a0, a1, a2, a3, a4, a5, a6, a7, a8, a9, a10, a11, a12, a13] 54 (0, 0))) (u0 u1 u2 u3 u4 u5 u6 u7 u8 u9 u10 u11 u12 u13 : Value) : d.R e ((((((((((((((w.setCell ⟨g, 0, none⟩ u0).setCell ⟨g, 1, none⟩ u1).setCell ⟨g, 2, none⟩ u2).setCell ⟨g, 3, none⟩ u3).setCell ⟨g, 4, none⟩ u4).setCell ⟨g, 5, none⟩ u5).setCell ⟨g, 6, none⟩ u6).setCell ⟨g, 7, none⟩ u7).setCell ⟨g, 8, none⟩ u8).setCell ⟨g, 9, none⟩ u9).setCell ⟨g, 10, none⟩ u10).setCell ⟨g, 11, none⟩ u11).setCell ⟨g, 12, none⟩ u12).setCell ⟨g, 13, none⟩ u13) base ok v xs := by
  replace hr := Kd.R_set hr h ht 0 u0
  replace h := blk_set h 0 u0
  simp only [List.setIfInBounds_toArray, List.set_cons_zero, List.set_cons_succ] at h
  replace hr := Kd.R_set hr h ht 1 u1
  replace h := blk_set h 1 u1
  simp only [List.setIfInBounds_toArray, List.set_cons_zero, List.set_cons_succ] at h
  replace hr := Kd.R_set hr h ht 2 u2
  replace h := blk_set h 2 u2
  simp only [List.setIfInBounds_toArray, List.set_cons_zero, List.set_cons_succ] at h
  replace hr := Kd.R_set hr h ht 3 u3
  replace h := blk_set h 3 u3
  simp only [List.setIfInBounds_toArray, List.set_cons_zero, List.set_cons_succ] at h
  replace hr := Kd.R_set hr h ht 4 u4
  replace h := blk_set h 4 u4
  simp only [List.setIfInBounds_toArray, List.set_cons_zero, List.set_cons_succ] at h
  replace hr := Kd.R_set hr h ht 5 u5
  replace h := blk_set h 5 u5
  simp only [List.setIfInBounds_toArray, List.set_cons_zero, List.set_cons_succ] at h
  replace hr := Kd.R_set hr h ht 6 u6
  replace h := blk_set h 6 u6
  simp only [List.setIfInBounds_toArray, List.set_cons_zero, List.set_cons_succ] at h
  replace hr := Kd.R_set hr h ht 7 u7
  replace h := blk_set h 7 u7
  simp only [List.setIfInBounds_toArray, List.set_cons_zero, List.set_cons_succ] at h
  replace hr := Kd.R_set hr h ht 8 u8
  replace h := blk_set h 8 u8
  simp only [List.setIfInBounds_toArray, List.set_cons_zero, List.set_cons_succ] at h
  replace hr := Kd.R_set hr h ht 9 u9
  replace h := blk_set h 9 u9
  simp only [List.setIfInBounds_toArray, List.set_cons_zero, List.set_cons_succ] at h
  replace hr := Kd.R_set hr h ht 10 u10
  replace h := blk_set h 10 u10
  simp only [List.setIfInBounds_toArray, List.set_cons_zero, List.set_cons_succ] at h
  replace hr := Kd.R_set hr h ht 11 u11
  replace h := blk_set h 11 u11
  simp only [List.setIfInBounds_toArray, List.set_cons_zero, List.set_cons_succ] at h
  replace hr := Kd.R_set hr h ht 12 u12
  replace h := blk_set h 12 u12
  simp only [List.setIfInBounds_toArray, List.set_cons_zero, List.set_cons_succ] at h
  replace hr := Kd.R_set hr h ht 13 u13
  replace h := blk_set h 13 u13
  simp only [List.setIfInBounds_toArray, List.set_cons_zero, List.set_cons_succ] at h
  exact hr
theorem bset14_C {w : World} {g base d : Nat} {ok : Nat → Prop} {B : Option Addr} {xs : List Int} {a0 a1 a2 a3 a4 a5 a6 a7 a8 a9 a10 a11 a12 a13 : Value} (hr : Kd.R (Kd.int .i64) 3 w base ok (.slice B xs.length d) xs) (h : w.heap[g]? = some (.cells #[a0, a1, a2, a3, a4, a5, a6, a7, a8, a9, a10, a11, a12, a13] 54 (0, 0))) (u0 u1 u2 u3 u4 u5 u6 u7 u8 u9 u10 u11 u12 u13 : Value) : Kd.C (Kd.int .i64) ((((((((((((((w.setCell ⟨g, 0, none⟩ u0).setCell ⟨g, 1, none⟩ u1).setCell ⟨g, 2, none⟩ u2).setCell ⟨g, 3, none⟩ u3).setCell ⟨g, 4, none⟩ u4).setCell ⟨g, 5, none⟩ u5).setCell ⟨g, 6, none⟩ u6).setCell ⟨g, 7, none⟩ u7).setCell ⟨g, 8, none⟩ u8).setCell ⟨g, 9, none⟩ u9).setCell ⟨g, 10, none⟩ u10).setCell ⟨g, 11, none⟩ u11).setCell ⟨g, 12, none⟩ u12).setCell ⟨g, 13, none⟩ u13) B xs.length xs :=
  (Kd.R_reads' (bset14_R hr (by decide) h u0 u1 u2 u3 u4 u5 u6 u7 u8 u9 u10 u11 u12 u13)).2.2
theorem bset14_B {B g : Nat} {w0 w : World} (h : Below B w0 w) (hg : B ≤ g) (u0 u1 u2 u3 u4 u5 u6 u7 u8 u9 u10 u11 u12 u13 : Value) : Below B w0 ((((((((((((((w.setCell ⟨g, 0, none⟩ u0).setCell ⟨g, 1, none⟩ u1).setCell ⟨g, 2, none⟩ u2).setCell ⟨g, 3, none⟩ u3).setCell ⟨g, 4, none⟩ u4).setCell ⟨g, 5, none⟩ u5).setCell ⟨g, 6, none⟩ u6).setCell ⟨g, 7, none⟩ u7).setCell ⟨g, 8, none⟩ u8).setCell ⟨g, 9, none⟩ u9).setCell ⟨g, 10, none⟩ u10).setCell ⟨g, 11, none⟩ u11).setCell ⟨g, 12, none⟩ u12).setCell ⟨g, 13, none⟩ u13) := zset14_B h hg u0 u1 u2 u3 u4 u5 u6 u7 u8 u9 u10 u11 u12 u13
/-- the plan and the states of the chapter's example -/
def L29 : List S36 := planL 1 2 0 3 [3] 0 true
def how29 (n : Nat) : Int := if n = 8 then 1 else 0
def st29 : Nat → SlotS
  | 0 => ⟨0, 0, false, false, false, false, false, 0⟩
  | n + 1 => doF (if (rd_T36 L29 n).f2 = 1 then 0 else 1) (rd_T36 L29 n).f2 (rd_T36 L29 n).f3 (how29 n) (st29 n)
theorem plan29 : duty_Plan.f 20 1 2 0 3 [3] 0 true = some (L29, 0) := by kernel_rfl
theorem valid29 : duty_Valid.f 20 1 2 0 3 [3] = some true := by kernel_rfl
theorem peers29 : ∀ n : Nat, n < 16 → ((rd_T36 L29 n).f2 = 1 ∨ (rd_T36 L29 n).f2 = 2) := by decide
theorem len29 : L29.length = 18 := by kernel_rfl

theorem st29_eq (n : Nat) (i : Int) (hi : i = n) (how : Int) (hh : how = how29 n) : doF (if (rd_T36 L29 i).f2 = 1 then 0 else 1) (rd_T36 L29 i).f2 (rd_T36 L29 i).f3 how (st29 n) = st29 (n + 1) := by
  subst hi hh
  rfl
theorem peers29i (i : Int) (h0 : 0 ≤ i) (h1 : i < 16) : (rd_T36 L29 i).f2 = 1 ∨ (rd_T36 L29 i).f2 = 2 := by
  have := peers29 i.toNat (by omega)
  rwa [show ((i.toNat : Nat) : Int) = i by omega] at this
theorem s29_0 : st29 0 = ⟨0, 0, false, false, false, false, false, 0⟩ := rfl
theorem s29_1 : st29 1 = ⟨8, 0, false, false, false, false, false, 0⟩ := (st29_eq 0 0 rfl 0 rfl).symm.trans (by rw [s29_0]; kernel_rfl)
theorem s29_2 : st29 2 = ⟨8, 8, false, false, false, false, false, 0⟩ := (st29_eq 1 1 rfl 0 rfl).symm.trans (by rw [s29_1]; kernel_rfl)
theorem s29_3 : st29 3 = ⟨16, 8, false, false, false, false, false, 0⟩ := (st29_eq 2 2 rfl 0 rfl).symm.trans (by rw [s29_2]; kernel_rfl)
theorem s29_4 : st29 4 = ⟨16, 16, false, false, false, false, false, 0⟩ := (st29_eq 3 3 rfl 0 rfl).symm.trans (by rw [s29_3]; kernel_rfl)
theorem s29_5 : st29 5 = ⟨17, 16, false, false, false, false, false, 0⟩ := (st29_eq 4 4 rfl 0 rfl).symm.trans (by rw [s29_4]; kernel_rfl)
theorem s29_6 : st29 6 = ⟨17, 17, false, false, false, false, false, 0⟩ := (st29_eq 5 5 rfl 0 rfl).symm.trans (by rw [s29_5]; kernel_rfl)
theorem s29_7 : st29 7 = ⟨19, 17, true, false, false, false, false, 0⟩ := (st29_eq 6 6 rfl 0 rfl).symm.trans (by rw [s29_6]; kernel_rfl)
theorem s29_8 : st29 8 = ⟨19, 19, true, true, false, false, false, 0⟩ := (st29_eq 7 7 rfl 0 rfl).symm.trans (by rw [s29_7]; kernel_rfl)
theorem s29_9 : st29 9 = ⟨19, 19, false, true, false, false, false, 0⟩ := (st29_eq 8 8 rfl 1 rfl).symm.trans (by rw [s29_8]; kernel_rfl)
theorem s29_10 : st29 10 = ⟨19, 20, false, true, false, false, false, 0⟩ := (st29_eq 9 9 rfl 0 rfl).symm.trans (by rw [s29_9]; kernel_rfl)
theorem s29_11 : st29 11 = ⟨19, 20, false, true, false, false, false, 0⟩ := (st29_eq 10 10 rfl 0 rfl).symm.trans (by rw [s29_10]; kernel_rfl)
theorem s29_12 : st29 12 = ⟨19, 21, false, true, false, false, false, 0⟩ := (st29_eq 11 11 rfl 0 rfl).symm.trans (by rw [s29_11]; kernel_rfl)
theorem s29_13 : st29 13 = ⟨19, 21, false, true, false, false, false, 0⟩ := (st29_eq 12 12 rfl 0 rfl).symm.trans (by rw [s29_12]; kernel_rfl)
theorem s29_14 : st29 14 = ⟨19, 22, false, true, false, false, false, 0⟩ := (st29_eq 13 13 rfl 0 rfl).symm.trans (by rw [s29_13]; kernel_rfl)
theorem s29_15 : st29 15 = ⟨19, 22, false, true, false, false, true, 1⟩ := (st29_eq 14 14 rfl 0 rfl).symm.trans (by rw [s29_14]; kernel_rfl)
set_option maxHeartbeats 40000000 in
set_option maxRecDepth 100000 in
theorem sane29 (w : World) (hL : Laid w) : Calls Tryd.prog 35 #[] w fun e w' => e = .returned (.bool true) ∧ Below w.heap.size w w' := by
  have hu := Tryd.underlying54
  have hu4 := Tryd.underlying26
  have HL := Aside0.mk hL
  clear hL
  go_enter Tryd.func35, Tryd.ntmps35
  go_wp2_with fail
  have hcb : Kd.C (Kd.int .i64) (w.alloc (.cells #[.int .i64 3] 3)) (some ⟨w.heap.size, 0, none⟩) 1 [3] := ⟨rfl, by omega, fun _ => ⟨⟨w.heap.size, 0, none⟩, rfl, fun j p_ hj => by
    match j, hj with
    | 0, hj => injection hj with hj; subst hj; exact ⟨[.int .i64 3], rfl, rfl, fun i u hu_ => by
        match i, hu_ with
        | 0, hu_ => injection hu_ with hu_; subst hu_; rw [Addr.add_lit]; exact blk_cell (blk_new w (.cells #[.int .i64 3] 3)) 0⟩⟩⟩
  refine (slotfn_New 1 2 0 3 (some ⟨w.heap.size, 0, none⟩) 1 [3] (by decide) 20 valid29 _ hcb (by decide)).mono ?_
  rintro e w1 ⟨A, c, rfl, ho, hb⟩
  have HB0 := Aside0.mk (below_step (below_alloc (Below.refl _ w) (.cells #[.int .i64 3] 3)) hb)
  have HO := Aside0.mk ho
  clear hcb ho hb
  go_upto_region 2 with (fail)
  have r1 : (w1.alloc (.cells #[.int .i64 1, .int .i64 2, .int .i64 0, .int .i64 3, .slice A 1 c, .int .i64 0, .int .i64 0, .int .i64 0, .bool false, .bool false, .bool false, .bool false, .bool false, .int .i64 0] 54)).heap[w1.heap.size]? = some (.cells #[.int .i64 1, .int .i64 2, .int .i64 0, .int .i64 3, .slice A 1 c, .int .i64 0, .int .i64 0, .int .i64 0, .bool false, .bool false, .bool false, .bool false, .bool false, .int .i64 0] 54 (0, 0)) := blk_new w1 _
  have r3 : Below w.heap.size w (w1.alloc (.cells #[.int .i64 1, .int .i64 2, .int .i64 0, .int .i64 3, .slice A 1 c, .int .i64 0, .int .i64 0, .int .i64 0, .bool false, .bool false, .bool false, .bool false, .bool false, .int .i64 0] 54)) := below_alloc HB0.out _
  have r4 : Kd.C (Kd.int .i64) (w1.alloc (.cells #[.int .i64 1, .int .i64 2, .int .i64 0, .int .i64 3, .slice A 1 c, .int .i64 0, .int .i64 0, .int .i64 0, .bool false, .bool false, .bool false, .bool false, .bool false, .int .i64 0] 54)) A 1 [3] := Kd.C_below (Kd.R_reads' HO.out).2.2 (below_alloc (Below.refl _ w1) _)
  have r5 : 1 ≤ c := (Kd.R_reads' HO.out).2.1
  have r6 : w.heap.size ≤ w1.heap.size := HB0.out.size
  obtain ⟨gs, hgs⟩ : ∃ gs, gs = w1.heap.size := ⟨_, rfl⟩
  generalize (w1.alloc (.cells #[.int .i64 1, .int .i64 2, .int .i64 0, .int .i64 3, .slice A 1 c, .int .i64 0, .int .i64 0, .int .i64 0, .bool false, .bool false, .bool false, .bool false, .bool false, .int .i64 0] 54)) = W2 at *
  rw [← hgs] at r1 ⊢
  have hge : w.heap.size ≤ gs := by omega
  have BS : Aside0 (W2.heap[gs]? = some (.cells #[.int .i64 1, .int .i64 2, .int .i64 0, .int .i64 3, .slice A 1 c, .int .i64 0, .int .i64 (st29 (0 : Int).toNat).c0, .int .i64 (st29 (0 : Int).toNat).c1, .bool (st29 (0 : Int).toNat).h0, .bool (st29 (0 : Int).toNat).h1, .bool (st29 (0 : Int).toNat).t0, .bool (st29 (0 : Int).toNat).t1, .bool (st29 (0 : Int).toNat).en, .int .i64 (st29 (0 : Int).toNat).bl] 54 (0, 0))) := ⟨r1⟩
  have HB := Aside0.mk r3; have HC := Aside0.mk r4; have HCC := Aside0.mk r5
  clear r1 r3 r4 r5 r6 hgs HO HB0
  go_wp2
  go_loopw [3] (fun vi w' => ∃ (i j : Int), 0 ≤ i ∧ i ≤ 8 ∧ Aside0 (j = i + 0) ∧ vi = .int .i64 i ∧ (∃ (A : Option Addr) (c : Nat), Aside0 (w'.heap[gs]? = some (.cells #[.int .i64 1, .int .i64 2, .int .i64 0, .int .i64 3, .slice A 1 c, .int .i64 j, .int .i64 (st29 j.toNat).c0, .int .i64 (st29 j.toNat).c1, .bool (st29 j.toNat).h0, .bool (st29 j.toNat).h1, .bool (st29 j.toNat).t0, .bool (st29 j.toNat).t1, .bool (st29 j.toNat).en, .int .i64 (st29 j.toNat).bl] 54 (0, 0))) ∧ Aside0 (Kd.C (Kd.int .i64) w' A 1 [3]) ∧ Aside0 (1 ≤ c) ∧ Aside0 (Below w.heap.size w w'))) (fun vi _ => 8 - (intOf vi).toNat)
  case atStart => exact ⟨0, 0, by omega, by omega, ⟨by omega⟩, rfl, A, c, BS, HC, HCC, HB⟩
  case round =>
    clear BS HC HCC HB
    obtain ⟨i, j, hi0, hi1, HJ, rfl, A, c, BS, HC, HCC, HB⟩ := hrel
    by_cases hlt : i < 8
    · have hj0 : 0 ≤ j := by have := HJ.out; omega
      have hj1 : j < 8 := by have := HJ.out; omega
      have hj2 : 0 ≤ j := by have := HJ.out; omega
      have x0 := blk_cell BS.out 0; have x1 := blk_cell BS.out 1; have x2 := blk_cell BS.out 2; have x3 := blk_cell BS.out 3; have x4 := blk_cell BS.out 4; have x5 := blk_cell BS.out 5; have x6 := blk_cell BS.out 6; have x7 := blk_cell BS.out 7; have x8 := blk_cell BS.out 8; have x9 := blk_cell BS.out 9; have x10 := blk_cell BS.out 10; have x11 := blk_cell BS.out 11; have x12 := blk_cell BS.out 12; have x13 := blk_cell BS.out 13
      have hstep := st29_eq j.toNat j (by omega) 0 (by unfold how29; rw [if_neg (by omega)])
      have hcon := slot_Step_some 1 2 0 3 A c [3] (by decide) j (st29 j.toNat) 20 L29 0 (by omega) (by rw [len29]; omega) (by omega) (by omega) (by omega) (peers29i j (by omega) (by omega))
      rw [hstep] at hcon
      have HST := Aside0.mk hcon
      clear hcon hstep
      go_wp2_with fail
      refine (HST.out _ HC.out HCC.out (laid_below HL.out HB.out) plan29).mono ?_
      rintro e w2 ⟨B, d, rfl, ho, hb⟩
      have BS1 := (hb.block gs (blk_lt BS.out)).trans BS.out
      have y0 := blk_cell BS1 0; have y1 := blk_cell BS1 1; have y2 := blk_cell BS1 2; have y3 := blk_cell BS1 3; have y4 := blk_cell BS1 4; have y5 := blk_cell BS1 5; have y6 := blk_cell BS1 6; have y7 := blk_cell BS1 7; have y8 := blk_cell BS1 8; have y9 := blk_cell BS1 9; have y10 := blk_cell BS1 10; have y11 := blk_cell BS1 11; have y12 := blk_cell BS1 12; have y13 := blk_cell BS1 13; have yf0 := blk_frozen BS1 0; have yf1 := blk_frozen BS1 1; have yf2 := blk_frozen BS1 2; have yf3 := blk_frozen BS1 3; have yf4 := blk_frozen BS1 4; have yf5 := blk_frozen BS1 5; have yf6 := blk_frozen BS1 6; have yf7 := blk_frozen BS1 7; have yf8 := blk_frozen BS1 8; have yf9 := blk_frozen BS1 9; have yf10 := blk_frozen BS1 10; have yf11 := blk_frozen BS1 11; have yf12 := blk_frozen BS1 12; have yf13 := blk_frozen BS1 13
      have HBS := Aside0.mk BS1
      have HB1 := Aside0.mk (below_step HB.out hb)
      have HCD := Aside0.mk (Kd.R_reads' ho).2.1
      have HCA := Aside0.mk (Kd.C_below HC.out hb)
      have HO := Aside0.mk ho
      clear x0 x1 x2 x3 x4 x5 x6 x7 x8 x9 x10 x11 x12 x13 hb BS1 ho HST
      go_wp2
      go_roundw
      case rel => exact ⟨i + 1, j + 1, by omega, by omega, ⟨by have := HJ.out; omega⟩, by go_num, B, d, ⟨by rw [show (j + 1).toNat = j.toNat + 1 by omega]; exact bset14 HBS.out _ _ _ _ _ _ _ _ _ _ _ _ _ _⟩, ⟨bset14_C HO.out HBS.out _ _ _ _ _ _ _ _ _ _ _ _ _ _⟩, ⟨HCD.out⟩, ⟨zset14_B HB1.out hge _ _ _ _ _ _ _ _ _ _ _ _ _ _⟩⟩
      case measure => simp [intOf]; omega
    · obtain rfl : i = 8 := by omega
      obtain rfl : j = 8 := by have := HJ.out; omega
      have BS : Aside0 (wr.heap[gs]? = some (.cells #[.int .i64 1, .int .i64 2, .int .i64 0, .int .i64 3, .slice A 1 c, .int .i64 8, .int .i64 (st29 8).c0, .int .i64 (st29 8).c1, .bool (st29 8).h0, .bool (st29 8).h1, .bool (st29 8).t0, .bool (st29 8).t1, .bool (st29 8).en, .int .i64 (st29 8).bl] 54 (0, 0))) := BS
      clear hlt hi0 hi1
      have x0 := blk_cell BS.out 0; have x1 := blk_cell BS.out 1; have x2 := blk_cell BS.out 2; have x3 := blk_cell BS.out 3; have x4 := blk_cell BS.out 4; have x5 := blk_cell BS.out 5; have x6 := blk_cell BS.out 6; have x7 := blk_cell BS.out 7; have x8 := blk_cell BS.out 8; have x9 := blk_cell BS.out 9; have x10 := blk_cell BS.out 10; have x11 := blk_cell BS.out 11; have x12 := blk_cell BS.out 12; have x13 := blk_cell BS.out 13
      have hk : keptF 0 (st29 8) = true := by rw [s29_8]; kernel_rfl
      have HK := Aside0.mk hk
      clear hk
      go_wp2_with fail
      refine (slotfn_Kept 1 2 0 3 A c [3] (by decide) 8 (st29 8) 1 0 (by kernel_rfl) _ HC.out HCC.out).mono ?_
      rintro e w3 ⟨rfl, hb⟩
      rw [HK.out]
      replace BS := Aside0.mk ((hb.block gs (blk_lt BS.out)).trans BS.out); replace HC := Aside0.mk (Kd.C_below HC.out hb); replace HB := Aside0.mk (below_step HB.out hb); (try replace BT := Aside0.mk ((hb.block gt (blk_lt BT.out)).trans BT.out)); clear hb
      clear x0 x1 x2 x3 x4 x5 x6 x7 x8 x9 x10 x11 x12 x13
      go_upto_region 7 with (fail)
      have x0 := blk_cell BS.out 0; have x1 := blk_cell BS.out 1; have x2 := blk_cell BS.out 2; have x3 := blk_cell BS.out 3; have x4 := blk_cell BS.out 4; have x5 := blk_cell BS.out 5; have x6 := blk_cell BS.out 6; have x7 := blk_cell BS.out 7; have x8 := blk_cell BS.out 8; have x9 := blk_cell BS.out 9; have x10 := blk_cell BS.out 10; have x11 := blk_cell BS.out 11; have x12 := blk_cell BS.out 12; have x13 := blk_cell BS.out 13
      have hstep := st29_eq 8 8 (by omega) 1 (by kernel_rfl)
      have hcon := slot_Step_some 1 2 0 3 A c [3] (by decide) 8 (st29 8) 20 L29 1 (by omega) (by rw [len29]; omega) (by omega) (by omega) (by omega) (peers29i 8 (by omega) (by omega))
      rw [hstep] at hcon
      have HST := Aside0.mk hcon
      clear hcon hstep
      go_wp2_with fail
      refine (HST.out _ HC.out HCC.out (laid_below HL.out HB.out) plan29).mono ?_
      rintro e w4 ⟨B, d, rfl, ho, hb⟩
      have BS1 := (hb.block gs (blk_lt BS.out)).trans BS.out
      have y0 := blk_cell BS1 0; have y1 := blk_cell BS1 1; have y2 := blk_cell BS1 2; have y3 := blk_cell BS1 3; have y4 := blk_cell BS1 4; have y5 := blk_cell BS1 5; have y6 := blk_cell BS1 6; have y7 := blk_cell BS1 7; have y8 := blk_cell BS1 8; have y9 := blk_cell BS1 9; have y10 := blk_cell BS1 10; have y11 := blk_cell BS1 11; have y12 := blk_cell BS1 12; have y13 := blk_cell BS1 13; have yf0 := blk_frozen BS1 0; have yf1 := blk_frozen BS1 1; have yf2 := blk_frozen BS1 2; have yf3 := blk_frozen BS1 3; have yf4 := blk_frozen BS1 4; have yf5 := blk_frozen BS1 5; have yf6 := blk_frozen BS1 6; have yf7 := blk_frozen BS1 7; have yf8 := blk_frozen BS1 8; have yf9 := blk_frozen BS1 9; have yf10 := blk_frozen BS1 10; have yf11 := blk_frozen BS1 11; have yf12 := blk_frozen BS1 12; have yf13 := blk_frozen BS1 13
      have HBS := Aside0.mk BS1
      have HB1 := Aside0.mk (below_step HB.out hb)
      have HCD := Aside0.mk (Kd.R_reads' ho).2.1
      have HCA := Aside0.mk (Kd.C_below HC.out hb)
      have HO := Aside0.mk ho
      clear x0 x1 x2 x3 x4 x5 x6 x7 x8 x9 x10 x11 x12 x13 hb BS1 ho HST
      go_upto_region 8 with (fail)
      have r1 := bset14 HBS.out (.int .i64 1) (.int .i64 2) (.int .i64 0) (.int .i64 3) (.slice B 1 d) (.int .i64 9) (.int .i64 (st29 9).c0) (.int .i64 (st29 9).c1) (.bool (st29 9).h0) (.bool (st29 9).h1) (.bool (st29 9).t0) (.bool (st29 9).t1) (.bool (st29 9).en) (.int .i64 (st29 9).bl)
      have r2 : Kd.C (Kd.int .i64) ((((((((((((((w4.setCell ⟨gs, 0, none⟩ (.int .i64 1)).setCell ⟨gs, 1, none⟩ (.int .i64 2)).setCell ⟨gs, 2, none⟩ (.int .i64 0)).setCell ⟨gs, 3, none⟩ (.int .i64 3)).setCell ⟨gs, 4, none⟩ (.slice B 1 d)).setCell ⟨gs, 5, none⟩ (.int .i64 9)).setCell ⟨gs, 6, none⟩ (.int .i64 (st29 9).c0)).setCell ⟨gs, 7, none⟩ (.int .i64 (st29 9).c1)).setCell ⟨gs, 8, none⟩ (.bool (st29 9).h0)).setCell ⟨gs, 9, none⟩ (.bool (st29 9).h1)).setCell ⟨gs, 10, none⟩ (.bool (st29 9).t0)).setCell ⟨gs, 11, none⟩ (.bool (st29 9).t1)).setCell ⟨gs, 12, none⟩ (.bool (st29 9).en)).setCell ⟨gs, 13, none⟩ (.int .i64 (st29 9).bl)) B 1 [3] := bset14_C HO.out HBS.out (.int .i64 1) (.int .i64 2) (.int .i64 0) (.int .i64 3) (.slice B 1 d) (.int .i64 9) (.int .i64 (st29 9).c0) (.int .i64 (st29 9).c1) (.bool (st29 9).h0) (.bool (st29 9).h1) (.bool (st29 9).t0) (.bool (st29 9).t1) (.bool (st29 9).en) (.int .i64 (st29 9).bl)
      have r3 := zset14_B HB1.out hge (.int .i64 1) (.int .i64 2) (.int .i64 0) (.int .i64 3) (.slice B 1 d) (.int .i64 9) (.int .i64 (st29 9).c0) (.int .i64 (st29 9).c1) (.bool (st29 9).h0) (.bool (st29 9).h1) (.bool (st29 9).t0) (.bool (st29 9).t1) (.bool (st29 9).en) (.int .i64 (st29 9).bl)
      clear BS HC HCC HB y0 yf0 y1 yf1 y2 yf2 y3 yf3 y4 yf4 y5 yf5 y6 yf6 y7 yf7 y8 yf8 y9 yf9 y10 yf10 y11 yf11 y12 yf12 y13 yf13 HBS HB1 HO
      generalize ((((((((((((((w4.setCell ⟨gs, 0, none⟩ (.int .i64 1)).setCell ⟨gs, 1, none⟩ (.int .i64 2)).setCell ⟨gs, 2, none⟩ (.int .i64 0)).setCell ⟨gs, 3, none⟩ (.int .i64 3)).setCell ⟨gs, 4, none⟩ (.slice B 1 d)).setCell ⟨gs, 5, none⟩ (.int .i64 9)).setCell ⟨gs, 6, none⟩ (.int .i64 (st29 9).c0)).setCell ⟨gs, 7, none⟩ (.int .i64 (st29 9).c1)).setCell ⟨gs, 8, none⟩ (.bool (st29 9).h0)).setCell ⟨gs, 9, none⟩ (.bool (st29 9).h1)).setCell ⟨gs, 10, none⟩ (.bool (st29 9).t0)).setCell ⟨gs, 11, none⟩ (.bool (st29 9).t1)).setCell ⟨gs, 12, none⟩ (.bool (st29 9).en)).setCell ⟨gs, 13, none⟩ (.int .i64 (st29 9).bl)) = W8_ at *
      have BS := Aside0.mk r1; have HC := Aside0.mk r2; have HB := Aside0.mk r3; have HCC := HCD
      clear r1 r2 r3
      clear HCD HCA
      obtain ⟨A2, hA2⟩ : ∃ A2, A2 = B := ⟨_, rfl⟩
      obtain ⟨d2, hd2⟩ : ∃ d2, d2 = d := ⟨_, rfl⟩
      rw [← hA2, ← hd2] at BS
      rw [← hA2] at HC
      rw [← hd2] at HCC
      clear hA2 hd2
      go_wp2
      go_loopw [5] (fun vi w' => ∃ (i j : Int), 0 ≤ i ∧ i ≤ 5 ∧ Aside0 (j = i + 9) ∧ vi = .int .i64 i ∧ (∃ (A : Option Addr) (c : Nat), Aside0 (w'.heap[gs]? = some (.cells #[.int .i64 1, .int .i64 2, .int .i64 0, .int .i64 3, .slice A 1 c, .int .i64 j, .int .i64 (st29 j.toNat).c0, .int .i64 (st29 j.toNat).c1, .bool (st29 j.toNat).h0, .bool (st29 j.toNat).h1, .bool (st29 j.toNat).t0, .bool (st29 j.toNat).t1, .bool (st29 j.toNat).en, .int .i64 (st29 j.toNat).bl] 54 (0, 0))) ∧ Aside0 (Kd.C (Kd.int .i64) w' A 1 [3]) ∧ Aside0 (1 ≤ c) ∧ Aside0 (Below w.heap.size w w'))) (fun vi _ => 5 - (intOf vi).toNat)
      case atStart => exact ⟨0, 9, by omega, by omega, ⟨by omega⟩, rfl, A2, d2, BS, HC, HCC, HB⟩
      case round =>
        clear BS HC HCC HB
        obtain ⟨i, j, hi0, hi1, HJ, rfl, A, c, BS, HC, HCC, HB⟩ := hrel
        by_cases hlt : i < 5
        · have hj0 : 0 ≤ j := by have := HJ.out; omega
          have hj1 : j < 14 := by have := HJ.out; omega
          have hj2 : 9 ≤ j := by have := HJ.out; omega
          have x0 := blk_cell BS.out 0; have x1 := blk_cell BS.out 1; have x2 := blk_cell BS.out 2; have x3 := blk_cell BS.out 3; have x4 := blk_cell BS.out 4; have x5 := blk_cell BS.out 5; have x6 := blk_cell BS.out 6; have x7 := blk_cell BS.out 7; have x8 := blk_cell BS.out 8; have x9 := blk_cell BS.out 9; have x10 := blk_cell BS.out 10; have x11 := blk_cell BS.out 11; have x12 := blk_cell BS.out 12; have x13 := blk_cell BS.out 13
          have hstep := st29_eq j.toNat j (by omega) 0 (by unfold how29; rw [if_neg (by omega)])
          have hcon := slot_Step_some 1 2 0 3 A c [3] (by decide) j (st29 j.toNat) 20 L29 0 (by omega) (by rw [len29]; omega) (by omega) (by omega) (by omega) (peers29i j (by omega) (by omega))
          rw [hstep] at hcon
          have HST := Aside0.mk hcon
          clear hcon hstep
          go_wp2_with fail
          refine (HST.out _ HC.out HCC.out (laid_below HL.out HB.out) plan29).mono ?_
          rintro e w2 ⟨B, d, rfl, ho, hb⟩
          have BS1 := (hb.block gs (blk_lt BS.out)).trans BS.out
          have y0 := blk_cell BS1 0; have y1 := blk_cell BS1 1; have y2 := blk_cell BS1 2; have y3 := blk_cell BS1 3; have y4 := blk_cell BS1 4; have y5 := blk_cell BS1 5; have y6 := blk_cell BS1 6; have y7 := blk_cell BS1 7; have y8 := blk_cell BS1 8; have y9 := blk_cell BS1 9; have y10 := blk_cell BS1 10; have y11 := blk_cell BS1 11; have y12 := blk_cell BS1 12; have y13 := blk_cell BS1 13; have yf0 := blk_frozen BS1 0; have yf1 := blk_frozen BS1 1; have yf2 := blk_frozen BS1 2; have yf3 := blk_frozen BS1 3; have yf4 := blk_frozen BS1 4; have yf5 := blk_frozen BS1 5; have yf6 := blk_frozen BS1 6; have yf7 := blk_frozen BS1 7; have yf8 := blk_frozen BS1 8; have yf9 := blk_frozen BS1 9; have yf10 := blk_frozen BS1 10; have yf11 := blk_frozen BS1 11; have yf12 := blk_frozen BS1 12; have yf13 := blk_frozen BS1 13
          have HBS := Aside0.mk BS1
          have HB1 := Aside0.mk (below_step HB.out hb)
          have HCD := Aside0.mk (Kd.R_reads' ho).2.1
          have HCA := Aside0.mk (Kd.C_below HC.out hb)
          have HO := Aside0.mk ho
          clear x0 x1 x2 x3 x4 x5 x6 x7 x8 x9 x10 x11 x12 x13 hb BS1 ho HST
          go_wp2
          go_roundw
          case rel => exact ⟨i + 1, j + 1, by omega, by omega, ⟨by have := HJ.out; omega⟩, by go_num, B, d, ⟨by rw [show (j + 1).toNat = j.toNat + 1 by omega]; exact bset14 HBS.out _ _ _ _ _ _ _ _ _ _ _ _ _ _⟩, ⟨bset14_C HO.out HBS.out _ _ _ _ _ _ _ _ _ _ _ _ _ _⟩, ⟨HCD.out⟩, ⟨zset14_B HB1.out hge _ _ _ _ _ _ _ _ _ _ _ _ _ _⟩⟩
          case measure => simp [intOf]; omega
        · obtain rfl : i = 5 := by omega
          obtain rfl : j = 14 := by have := HJ.out; omega
          have BS : Aside0 (wr.heap[gs]? = some (.cells #[.int .i64 1, .int .i64 2, .int .i64 0, .int .i64 3, .slice A 1 c, .int .i64 14, .int .i64 (st29 14).c0, .int .i64 (st29 14).c1, .bool (st29 14).h0, .bool (st29 14).h1, .bool (st29 14).t0, .bool (st29 14).t1, .bool (st29 14).en, .int .i64 (st29 14).bl] 54 (0, 0))) := BS
          clear hlt hi0 hi1
          have x0 := blk_cell BS.out 0; have x1 := blk_cell BS.out 1; have x2 := blk_cell BS.out 2; have x3 := blk_cell BS.out 3; have x4 := blk_cell BS.out 4; have x5 := blk_cell BS.out 5; have x6 := blk_cell BS.out 6; have x7 := blk_cell BS.out 7; have x8 := blk_cell BS.out 8; have x9 := blk_cell BS.out 9; have x10 := blk_cell BS.out 10; have x11 := blk_cell BS.out 11; have x12 := blk_cell BS.out 12; have x13 := blk_cell BS.out 13
          have hstep := st29_eq 14 14 (by omega) 0 (by kernel_rfl)
          have hcon := slot_Step_some 1 2 0 3 A c [3] (by decide) 14 (st29 14) 20 L29 0 (by omega) (by rw [len29]; omega) (by omega) (by omega) (by omega) (peers29i 14 (by omega) (by omega))
          rw [hstep] at hcon
          have HST := Aside0.mk hcon
          clear hcon hstep
          go_wp2_with fail
          refine (HST.out _ HC.out HCC.out (laid_below HL.out HB.out) plan29).mono ?_
          rintro e w5 ⟨B, d, rfl, ho, hb⟩
          have BS1 := (hb.block gs (blk_lt BS.out)).trans BS.out
          have y0 := blk_cell BS1 0; have y1 := blk_cell BS1 1; have y2 := blk_cell BS1 2; have y3 := blk_cell BS1 3; have y4 := blk_cell BS1 4; have y5 := blk_cell BS1 5; have y6 := blk_cell BS1 6; have y7 := blk_cell BS1 7; have y8 := blk_cell BS1 8; have y9 := blk_cell BS1 9; have y10 := blk_cell BS1 10; have y11 := blk_cell BS1 11; have y12 := blk_cell BS1 12; have y13 := blk_cell BS1 13; have yf0 := blk_frozen BS1 0; have yf1 := blk_frozen BS1 1; have yf2 := blk_frozen BS1 2; have yf3 := blk_frozen BS1 3; have yf4 := blk_frozen BS1 4; have yf5 := blk_frozen BS1 5; have yf6 := blk_frozen BS1 6; have yf7 := blk_frozen BS1 7; have yf8 := blk_frozen BS1 8; have yf9 := blk_frozen BS1 9; have yf10 := blk_frozen BS1 10; have yf11 := blk_frozen BS1 11; have yf12 := blk_frozen BS1 12; have yf13 := blk_frozen BS1 13
          have HBS := Aside0.mk BS1
          have HB1 := Aside0.mk (below_step HB.out hb)
          have HCD := Aside0.mk (Kd.R_reads' ho).2.1
          have HCA := Aside0.mk (Kd.C_below HC.out hb)
          have HO := Aside0.mk ho
          clear x0 x1 x2 x3 x4 x5 x6 x7 x8 x9 x10 x11 x12 x13 hb BS1 ho HST
          go_upto_region 13 with (fail)
          have r1 : (w5.alloc (.cells #[.int .i64 1, .int .i64 2, .int .i64 0, .int .i64 3, .slice B 1 d, .int .i64 15, .int .i64 (st29 15).c0, .int .i64 (st29 15).c1, .bool (st29 15).h0, .bool (st29 15).h1, .bool (st29 15).t0, .bool (st29 15).t1, .bool (st29 15).en, .int .i64 (st29 15).bl] 54)).heap[w5.heap.size]? = some (.cells #[.int .i64 1, .int .i64 2, .int .i64 0, .int .i64 3, .slice B 1 d, .int .i64 15, .int .i64 (st29 15).c0, .int .i64 (st29 15).c1, .bool (st29 15).h0, .bool (st29 15).h1, .bool (st29 15).t0, .bool (st29 15).t1, .bool (st29 15).en, .int .i64 (st29 15).bl] 54 (0, 0)) := blk_new w5 _
          have r2 := blk_alloc HBS.out (.cells #[.int .i64 1, .int .i64 2, .int .i64 0, .int .i64 3, .slice B 1 d, .int .i64 15, .int .i64 (st29 15).c0, .int .i64 (st29 15).c1, .bool (st29 15).h0, .bool (st29 15).h1, .bool (st29 15).t0, .bool (st29 15).t1, .bool (st29 15).en, .int .i64 (st29 15).bl] 54); have r3 := below_alloc HB1.out (.cells #[.int .i64 1, .int .i64 2, .int .i64 0, .int .i64 3, .slice B 1 d, .int .i64 15, .int .i64 (st29 15).c0, .int .i64 (st29 15).c1, .bool (st29 15).h0, .bool (st29 15).h1, .bool (st29 15).t0, .bool (st29 15).t1, .bool (st29 15).en, .int .i64 (st29 15).bl] 54); have r4 := Kd.C_below HCA.out (below_alloc (Below.refl _ w5) (.cells #[.int .i64 1, .int .i64 2, .int .i64 0, .int .i64 3, .slice B 1 d, .int .i64 15, .int .i64 (st29 15).c0, .int .i64 (st29 15).c1, .bool (st29 15).h0, .bool (st29 15).h1, .bool (st29 15).t0, .bool (st29 15).t1, .bool (st29 15).en, .int .i64 (st29 15).bl] 54))
          obtain ⟨gt, hgt⟩ : ∃ gt, gt = w5.heap.size := ⟨_, rfl⟩
          clear BS HC HB y0 yf0 y1 yf1 y2 yf2 y3 yf3 y4 yf4 y5 yf5 y6 yf6 y7 yf7 y8 yf8 y9 yf9 y10 yf10 y11 yf11 y12 yf12 y13 yf13 HBS HB1 HO
          generalize (w5.alloc (.cells #[.int .i64 1, .int .i64 2, .int .i64 0, .int .i64 3, .slice B 1 d, .int .i64 15, .int .i64 (st29 15).c0, .int .i64 (st29 15).c1, .bool (st29 15).h0, .bool (st29 15).h1, .bool (st29 15).t0, .bool (st29 15).t1, .bool (st29 15).en, .int .i64 (st29 15).bl] 54)) = W6 at *
          rw [← hgt] at r1 ⊢
          have BT := Aside0.mk r1; have BS := Aside0.mk r2; have HB := Aside0.mk r3; have HC := Aside0.mk r4
          clear r1 r2 r3 r4 hgt
          have BS : Aside0 (W6.heap[gs]? = some (.cells #[.int .i64 1, .int .i64 2, .int .i64 0, .int .i64 3, .slice A 1 c, .int .i64 14, .int .i64 19, .int .i64 22, .bool false, .bool true, .bool false, .bool false, .bool false, .int .i64 0] 54 (0, 0))) := ⟨by have h_ := BS.out; rw [s29_14] at h_; exact h_⟩
          have BT : Aside0 (W6.heap[gt]? = some (.cells #[.int .i64 1, .int .i64 2, .int .i64 0, .int .i64 3, .slice B 1 d, .int .i64 15, .int .i64 19, .int .i64 22, .bool false, .bool true, .bool false, .bool false, .bool true, .int .i64 1] 54 (0, 0))) := ⟨by have h_ := BT.out; rw [s29_15] at h_; exact h_⟩
          have x0 := blk_cell BS.out 0; have x1 := blk_cell BS.out 1; have x2 := blk_cell BS.out 2; have x3 := blk_cell BS.out 3; have x4 := blk_cell BS.out 4; have x5 := blk_cell BS.out 5; have x6 := blk_cell BS.out 6; have x7 := blk_cell BS.out 7; have x8 := blk_cell BS.out 8; have x9 := blk_cell BS.out 9; have x10 := blk_cell BS.out 10; have x11 := blk_cell BS.out 11; have x12 := blk_cell BS.out 12; have x13 := blk_cell BS.out 13
          have hk : keptF 0 (⟨19, 22, false, true, false, false, false, 0⟩ : SlotS) = true := by rfl
          have HK := Aside0.mk hk
          clear hk
          go_wp2_with fail
          refine (slotfn_Kept 1 2 0 3 A c [3] (by decide) 14 (⟨19, 22, false, true, false, false, false, 0⟩ : SlotS) 1 0 (by kernel_rfl) _ HC.out HCC.out).mono ?_
          rintro e w7 ⟨rfl, hb⟩
          rw [HK.out]
          replace BS := Aside0.mk ((hb.block gs (blk_lt BS.out)).trans BS.out); replace HC := Aside0.mk (Kd.C_below HC.out hb); replace HB := Aside0.mk (below_step HB.out hb); (try replace BT := Aside0.mk ((hb.block gt (blk_lt BT.out)).trans BT.out)); clear hb
          clear x0 x1 x2 x3 x4 x5 x6 x7 x8 x9 x10 x11 x12 x13
          have x0 := blk_cell BS.out 0; have x1 := blk_cell BS.out 1; have x2 := blk_cell BS.out 2; have x3 := blk_cell BS.out 3; have x4 := blk_cell BS.out 4; have x5 := blk_cell BS.out 5; have x6 := blk_cell BS.out 6; have x7 := blk_cell BS.out 7; have x8 := blk_cell BS.out 8; have x9 := blk_cell BS.out 9; have x10 := blk_cell BS.out 10; have x11 := blk_cell BS.out 11; have x12 := blk_cell BS.out 12; have x13 := blk_cell BS.out 13
          have hk : keptF 1 (⟨19, 22, false, true, false, false, false, 0⟩ : SlotS) = false := by rfl
          have HK := Aside0.mk hk
          clear hk
          go_wp2_with fail
          refine (slotfn_Kept 1 2 0 3 A c [3] (by decide) 14 (⟨19, 22, false, true, false, false, false, 0⟩ : SlotS) 2 1 (by kernel_rfl) _ HC.out HCC.out).mono ?_
          rintro e w8 ⟨rfl, hb⟩
          rw [HK.out]
          replace BS := Aside0.mk ((hb.block gs (blk_lt BS.out)).trans BS.out); replace HC := Aside0.mk (Kd.C_below HC.out hb); replace HB := Aside0.mk (below_step HB.out hb); (try replace BT := Aside0.mk ((hb.block gt (blk_lt BT.out)).trans BT.out)); clear hb
          clear x0 x1 x2 x3 x4 x5 x6 x7 x8 x9 x10 x11 x12 x13
          have x0 := blk_cell BS.out 0; have x1 := blk_cell BS.out 1; have x2 := blk_cell BS.out 2; have x3 := blk_cell BS.out 3; have x4 := blk_cell BS.out 4; have x5 := blk_cell BS.out 5; have x6 := blk_cell BS.out 6; have x7 := blk_cell BS.out 7; have x8 := blk_cell BS.out 8; have x9 := blk_cell BS.out 9; have x10 := blk_cell BS.out 10; have x11 := blk_cell BS.out 11; have x12 := blk_cell BS.out 12; have x13 := blk_cell BS.out 13
          have z0 := blk_cell BT.out 0; have z1 := blk_cell BT.out 1; have z2 := blk_cell BT.out 2; have z3 := blk_cell BT.out 3; have z4 := blk_cell BT.out 4; have z5 := blk_cell BT.out 5; have z6 := blk_cell BT.out 6; have z7 := blk_cell BT.out 7; have z8 := blk_cell BT.out 8; have z9 := blk_cell BT.out 9; have z10 := blk_cell BT.out 10; have z11 := blk_cell BT.out 11; have z12 := blk_cell BT.out 12; have z13 := blk_cell BT.out 13
          go_wp2
          go_ret
          exact ⟨rfl, HB.out⟩

def storagebarterlaw29_sane.f : Option (Bool) := some true
theorem storagebarterlaw29_sane.calls (r : Bool) (w : World) (h : storagebarterlaw29_sane.f = some r) (hL_ : Laid w) :
    Calls Tryd.prog 35 #[] w fun e w' => e = .returned (.bool r) ∧ Below w.heap.size w w' := by
  obtain rfl := Option.some.inj h
  exact sane29 w hL_

/-! ### storagebarterref28_Cost: function 28 -/
def storagebarterref28_Cost.f (a0 : Int) : Option (Int) := if a0 = 1 then (some 8) else (if a0 = 2 then (some 8) else (if a0 = 3 then (some 1) else (if a0 = 4 then (some 2) else (if a0 = 5 then (some 1) else (if a0 = 6 then (some 1) else (if a0 = 7 then (some 8) else (some 0)))))))
set_option maxHeartbeats 8000000 in
set_option maxRecDepth 100000 in
theorem storagebarterref28_Cost.calls (a0 : Int) (r : Int) (w : World) (h : storagebarterref28_Cost.f a0 = some r) :
    Calls Tryd.prog 28 #[.int .i64 a0] w fun e w' => e = .returned (.int .i64 r) ∧ Drawn0 w w' := by
  have H : (if a0 = 1 then (some 8) else (if a0 = 2 then (some 8) else (if a0 = 3 then (some 1) else (if a0 = 4 then (some 2) else (if a0 = 5 then (some 1) else (if a0 = 6 then (some 1) else (if a0 = 7 then (some 8) else (some 0)))))))) = some r := h
  clear h
  by_cases c2 : a0 = 1
  · rw [if_pos c2] at H
    have c2b0 : (a0 == 1) = true := beq_iff_eq.mpr c2
    have c2b1 : (a0 != 1) = false := bne_eq_false_iff_eq.mpr c2
    clear c2
    obtain rfl := Option.some.inj H
    go_enter Tryd.func28, Tryd.ntmps28
    go_wp2
    go_ret
    exact ⟨by first | rfl | (simp; done) | (simp [*]; done), by repeat (first | exact Drawn0.refl _ | apply Drawn0.step)⟩
  · rw [if_neg c2] at H
    have c2b0 : (a0 == 1) = false := beq_eq_false_iff_ne.mpr c2
    have c2b1 : (a0 != 1) = true := bne_iff_ne.mpr c2
    by_cases c3 : a0 = 2
    · rw [if_pos c3] at H
      have c3b0 : (a0 == 2) = true := beq_iff_eq.mpr c3
      have c3b1 : (a0 != 2) = false := bne_eq_false_iff_eq.mpr c3
      clear c3
      obtain rfl := Option.some.inj H
      go_enter Tryd.func28, Tryd.ntmps28
      go_wp2
      go_ret
      exact ⟨by first | rfl | (simp; done) | (simp [*]; done), by repeat (first | exact Drawn0.refl _ | apply Drawn0.step)⟩
    · rw [if_neg c3] at H
      have c3b0 : (a0 == 2) = false := beq_eq_false_iff_ne.mpr c3
      have c3b1 : (a0 != 2) = true := bne_iff_ne.mpr c3
      by_cases c4 : a0 = 3
      · rw [if_pos c4] at H
        have c4b0 : (a0 == 3) = true := beq_iff_eq.mpr c4
        have c4b1 : (a0 != 3) = false := bne_eq_false_iff_eq.mpr c4
        clear c4
        obtain rfl := Option.some.inj H
        go_enter Tryd.func28, Tryd.ntmps28
        go_wp2
        go_ret
        exact ⟨by first | rfl | (simp; done) | (simp [*]; done), by repeat (first | exact Drawn0.refl _ | apply Drawn0.step)⟩
      · rw [if_neg c4] at H
        have c4b0 : (a0 == 3) = false := beq_eq_false_iff_ne.mpr c4
        have c4b1 : (a0 != 3) = true := bne_iff_ne.mpr c4
        by_cases c5 : a0 = 4
        · rw [if_pos c5] at H
          have c5b0 : (a0 == 4) = true := beq_iff_eq.mpr c5
          have c5b1 : (a0 != 4) = false := bne_eq_false_iff_eq.mpr c5
          clear c5
          obtain rfl := Option.some.inj H
          go_enter Tryd.func28, Tryd.ntmps28
          go_wp2
          go_ret
          exact ⟨by first | rfl | (simp; done) | (simp [*]; done), by repeat (first | exact Drawn0.refl _ | apply Drawn0.step)⟩
        · rw [if_neg c5] at H
          have c5b0 : (a0 == 4) = false := beq_eq_false_iff_ne.mpr c5
          have c5b1 : (a0 != 4) = true := bne_iff_ne.mpr c5
          by_cases c6 : a0 = 5
          · rw [if_pos c6] at H
            have c6b0 : (a0 == 5) = true := beq_iff_eq.mpr c6
            have c6b1 : (a0 != 5) = false := bne_eq_false_iff_eq.mpr c6
            clear c6
            obtain rfl := Option.some.inj H
            go_enter Tryd.func28, Tryd.ntmps28
            go_wp2
            go_ret
            exact ⟨by first | rfl | (simp; done) | (simp [*]; done), by repeat (first | exact Drawn0.refl _ | apply Drawn0.step)⟩
          · rw [if_neg c6] at H
            have c6b0 : (a0 == 5) = false := beq_eq_false_iff_ne.mpr c6
            have c6b1 : (a0 != 5) = true := bne_iff_ne.mpr c6
            by_cases c7 : a0 = 6
            · rw [if_pos c7] at H
              have c7b0 : (a0 == 6) = true := beq_iff_eq.mpr c7
              have c7b1 : (a0 != 6) = false := bne_eq_false_iff_eq.mpr c7
              clear c7
              obtain rfl := Option.some.inj H
              go_enter Tryd.func28, Tryd.ntmps28
              go_wp2
              go_ret
              exact ⟨by first | rfl | (simp; done) | (simp [*]; done), by repeat (first | exact Drawn0.refl _ | apply Drawn0.step)⟩
            · rw [if_neg c7] at H
              have c7b0 : (a0 == 6) = false := beq_eq_false_iff_ne.mpr c7
              have c7b1 : (a0 != 6) = true := bne_iff_ne.mpr c7
              by_cases c8 : a0 = 7
              · rw [if_pos c8] at H
                have c8b0 : (a0 == 7) = true := beq_iff_eq.mpr c8
                have c8b1 : (a0 != 7) = false := bne_eq_false_iff_eq.mpr c8
                clear c8
                obtain rfl := Option.some.inj H
                go_enter Tryd.func28, Tryd.ntmps28
                go_wp2
                go_ret
                exact ⟨by first | rfl | (simp; done) | (simp [*]; done), by repeat (first | exact Drawn0.refl _ | apply Drawn0.step)⟩
              · rw [if_neg c8] at H
                have c8b0 : (a0 == 7) = false := beq_eq_false_iff_ne.mpr c8
                have c8b1 : (a0 != 7) = true := bne_iff_ne.mpr c8
                obtain rfl := Option.some.inj H
                go_enter Tryd.func28, Tryd.ntmps28
                go_wp2
                go_ret
                exact ⟨by first | rfl | (simp; done) | (simp [*]; done), by repeat (first | exact Drawn0.refl _ | apply Drawn0.step)⟩

/-! ### storagebarterref29_Side: function 46 -/
def storagebarterref29_Side.f (a0_0 : Int) (a0_1 : Int) (a0_2 : Int) (a0_3 : Int) (l0_4 : List Int) (a1 : Int) : Option (Int) := if a1 = a0_0 then (some 0) else (if a1 = a0_1 then (some 1) else (some (-1)))
set_option maxHeartbeats 8000000 in
set_option maxRecDepth 100000 in
theorem storagebarterref29_Side.calls (a0_0 : Int) (a0_1 : Int) (a0_2 : Int) (a0_3 : Int) (A0_4 : Option Addr) (c0_4 : Nat) (l0_4 : List Int) (a1 : Int) (r : Int) (w : World) (hr0_4 : Kd.C (Kd.int .i64) w A0_4 l0_4.length l0_4) (hc0_4 : l0_4.length ≤ c0_4) (h : storagebarterref29_Side.f a0_0 a0_1 a0_2 a0_3 l0_4 a1 = some r) :
    Calls Tryd.prog 46 #[.agg #[.int .i64 a0_0, .int .i64 a0_1, .int .i64 a0_2, .int .i64 a0_3, .slice A0_4 l0_4.length c0_4], .int .i64 a1] w fun e w' => e = .returned (.int .i64 r) ∧ Below w.heap.size w w' := by
  have hu26 := Tryd.underlying26
  have HR0_4 := Aside0.mk hr0_4
  have HC0_4 := Aside0.mk hc0_4
  clear hr0_4 hc0_4
  have HB := Aside0.mk (Below.refl w.heap.size w)
  have H : (if a1 = a0_0 then (some 0) else (if a1 = a0_1 then (some 1) else (some (-1)))) = some r := h
  clear h
  by_cases c3 : a1 = a0_0
  · rw [if_pos c3] at H
    have c3b0 : (a1 == a0_0) = true := beq_iff_eq.mpr c3
    have c3b1 : (a1 != a0_0) = false := bne_eq_false_iff_eq.mpr c3
    clear c3
    obtain rfl := Option.some.inj H
    go_enter Tryd.func46, Tryd.ntmps46
    go_wp2_with (first | ((with_reducible refine gate_dst (N := 2) rfl ?_); refine box_event ?hg (N := 2) ?hd (cs := #[.int .i64 a0_0, .int .i64 a0_1, .int .i64 a0_2, .int .i64 a0_3, .slice A0_4 l0_4.length c0_4]) (t := 26) ?hr ?_; (case hd => rfl); (case hg => rfl); (case hr => first | (go_simp; done) | (go_simp; rfl)); intro gb128 hg w4 hbox hb; have n0_ := Aside0.mk (below_step (by repeat (first | (with_reducible first | exact HB.out | apply below_alloc | apply pw_below_drewN | apply below_drew1) | exact HB.out)) hb); have n1_ := Aside0.mk (hbox); have n2_ := Aside0.mk ((by rw [hg]; exact (below_size (by repeat (first | (with_reducible first | exact HB.out | apply below_alloc | apply pw_below_drewN | apply below_drew1) | exact HB.out))) : w.heap.size ≤ gb128)); have n3_ := Aside0.mk ((by rw [hg]; exact (below_size (by repeat (first | (with_reducible first | exact HB.out | apply below_alloc | apply pw_below_drewN | apply below_drew1) | exact HB.out))) : w.heap.size ≤ gb128)); clear HB; have HB := n0_; have BK128 := n1_; have GW128 := n2_; have GE128 := n3_; clear n0_ n1_ n2_ n3_; clear hb hbox hg; have hcz5 := cz5 BK128.out; have hfz5 := blk_frozen BK128.out))
    go_ret
    exact ⟨by first | rfl | (simp [errW_none, errW_some] <;> rfl) | (simp [*, errW_none, errW_some] <;> rfl), by repeat (first | (with_reducible first | exact HB.out | apply below_alloc | apply pw_below_drewN | apply below_drew1 | refine below_set ?_ GE128.out) | exact HB.out)⟩
  · rw [if_neg c3] at H
    have c3b0 : (a1 == a0_0) = false := beq_eq_false_iff_ne.mpr c3
    have c3b1 : (a1 != a0_0) = true := bne_iff_ne.mpr c3
    by_cases c6 : a1 = a0_1
    · rw [if_pos c6] at H
      have c6b0 : (a1 == a0_1) = true := beq_iff_eq.mpr c6
      have c6b1 : (a1 != a0_1) = false := bne_eq_false_iff_eq.mpr c6
      clear c6
      obtain rfl := Option.some.inj H
      go_enter Tryd.func46, Tryd.ntmps46
      go_wp2_with (first | ((with_reducible refine gate_dst (N := 2) rfl ?_); refine box_event ?hg (N := 2) ?hd (cs := #[.int .i64 a0_0, .int .i64 a0_1, .int .i64 a0_2, .int .i64 a0_3, .slice A0_4 l0_4.length c0_4]) (t := 26) ?hr ?_; (case hd => rfl); (case hg => rfl); (case hr => first | (go_simp; done) | (go_simp; rfl)); intro gb128 hg w7 hbox hb; have n0_ := Aside0.mk (below_step (by repeat (first | (with_reducible first | exact HB.out | apply below_alloc | apply pw_below_drewN | apply below_drew1) | exact HB.out)) hb); have n1_ := Aside0.mk (hbox); have n2_ := Aside0.mk ((by rw [hg]; exact (below_size (by repeat (first | (with_reducible first | exact HB.out | apply below_alloc | apply pw_below_drewN | apply below_drew1) | exact HB.out))) : w.heap.size ≤ gb128)); have n3_ := Aside0.mk ((by rw [hg]; exact (below_size (by repeat (first | (with_reducible first | exact HB.out | apply below_alloc | apply pw_below_drewN | apply below_drew1) | exact HB.out))) : w.heap.size ≤ gb128)); clear HB; have HB := n0_; have BK128 := n1_; have GW128 := n2_; have GE128 := n3_; clear n0_ n1_ n2_ n3_; clear hb hbox hg; have hcz8 := cz5 BK128.out; have hfz8 := blk_frozen BK128.out))
      go_ret
      exact ⟨by first | rfl | (simp [errW_none, errW_some] <;> rfl) | (simp [*, errW_none, errW_some] <;> rfl), by repeat (first | (with_reducible first | exact HB.out | apply below_alloc | apply pw_below_drewN | apply below_drew1 | refine below_set ?_ GE128.out) | exact HB.out)⟩
    · rw [if_neg c6] at H
      have c6b0 : (a1 == a0_1) = false := beq_eq_false_iff_ne.mpr c6
      have c6b1 : (a1 != a0_1) = true := bne_iff_ne.mpr c6
      obtain rfl := Option.some.inj H
      go_enter Tryd.func46, Tryd.ntmps46
      go_wp2_with (first | ((with_reducible refine gate_dst (N := 2) rfl ?_); refine box_event ?hg (N := 2) ?hd (cs := #[.int .i64 a0_0, .int .i64 a0_1, .int .i64 a0_2, .int .i64 a0_3, .slice A0_4 l0_4.length c0_4]) (t := 26) ?hr ?_; (case hd => rfl); (case hg => rfl); (case hr => first | (go_simp; done) | (go_simp; rfl)); intro gb128 hg w9 hbox hb; have n0_ := Aside0.mk (below_step (by repeat (first | (with_reducible first | exact HB.out | apply below_alloc | apply pw_below_drewN | apply below_drew1) | exact HB.out)) hb); have n1_ := Aside0.mk (hbox); have n2_ := Aside0.mk ((by rw [hg]; exact (below_size (by repeat (first | (with_reducible first | exact HB.out | apply below_alloc | apply pw_below_drewN | apply below_drew1) | exact HB.out))) : w.heap.size ≤ gb128)); have n3_ := Aside0.mk ((by rw [hg]; exact (below_size (by repeat (first | (with_reducible first | exact HB.out | apply below_alloc | apply pw_below_drewN | apply below_drew1) | exact HB.out))) : w.heap.size ≤ gb128)); clear HB; have HB := n0_; have BK128 := n1_; have GW128 := n2_; have GE128 := n3_; clear n0_ n1_ n2_ n3_; clear hb hbox hg; have hcz10 := cz5 BK128.out; have hfz10 := blk_frozen BK128.out))
      go_ret
      exact ⟨by first | rfl | (simp [errW_none, errW_some] <;> rfl) | (simp [*, errW_none, errW_some] <;> rfl), by repeat (first | (with_reducible first | exact HB.out | apply below_alloc | apply pw_below_drewN | apply below_drew1 | refine below_set ?_ GE128.out) | exact HB.out)⟩

end Go.Proofs.YtgckkjgemkabnaaDoor.PSlotWalks
