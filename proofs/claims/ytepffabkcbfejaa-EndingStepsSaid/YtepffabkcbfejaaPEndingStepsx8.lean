-- Written by a program of this repository (wip/tools/myprint.py over the print of the kit): contracts and rows.
import Derived.Test.YtepffabkcbfejaaPEndingStepsx0
namespace Go.Proofs.Ytepffabkcbfejaa.PEndingSteps
open Go.RowKit Go.Proofs.YtepffabkcbfejaaW.PrintWords Go.Proofs.YtepffabkcbfejaaW.PrintLast Go.Proofs.YtepffabkcbfejaaW.PrintMore
attribute [local go_sem] max2_int min2_int max_two min_two max_three min_three max_four min_four   -- for this text's walks alone
set_option linter.unusedVariables false
set_option linter.unusedSimpArgs false

/-! ### storagebarterref26_Room: function 30 -/
mutual
def storagebarterref26_Room.l0 : Nat → List (S44) → Int → Int → Int → Int → Int → Option (Int × Int)
  | 0, _, _, _, _, _, _ => none
  | k + 1, x0, x1, x2, x8, ba2, ba3 => if x8 < (x0.length : Int) then (if 0 ≤ x8 then (if ((rd_T44 x0 x8).f1) = x1 then (storagebarterref26_Room.j1 k x0 x1 x2 x8 (((rd_T44 x0 x8).f0) == x2) ba2 ba3) else (storagebarterref26_Room.j1 k x0 x1 x2 x8 false ba2 ba3)) else (none)) else (some (ba2, ba3))
def storagebarterref26_Room.j1 : Nat → List (S44) → Int → Int → Int → Bool → Int → Int → Option (Int × Int)
  | 0, _, _, _, _, _, _, _ => none
  | k + 1, x0, x1, x2, x8, x30, ba2, ba3 => if x30 = true then (if 0 ≤ x8 then (if x8 < (x0.length : Int) then (if ((rd_T44 x0 x8).f1) = x2 then (if ((rd_T44 x0 x8).f0) = x1 then (storagebarterref26_Room.l0 k x0 x1 x2 (wrap64 (x8 + 1)) (wrap64 (ba2 + ((rd_T44 x0 x8).f4))) (wrap64 (ba3 + ((rd_T44 x0 x8).f4)))) else (storagebarterref26_Room.l0 k x0 x1 x2 (wrap64 (x8 + 1)) (wrap64 (ba2 + ((rd_T44 x0 x8).f4))) ba3)) else (storagebarterref26_Room.l0 k x0 x1 x2 (wrap64 (x8 + 1)) (wrap64 (ba2 + ((rd_T44 x0 x8).f4))) ba3)) else (none)) else (none)) else (if 0 ≤ x8 then (if x8 < (x0.length : Int) then (if ((rd_T44 x0 x8).f1) = x2 then (if ((rd_T44 x0 x8).f0) = x1 then (storagebarterref26_Room.l0 k x0 x1 x2 (wrap64 (x8 + 1)) ba2 (wrap64 (ba3 + ((rd_T44 x0 x8).f4)))) else (storagebarterref26_Room.l0 k x0 x1 x2 (wrap64 (x8 + 1)) ba2 ba3)) else (storagebarterref26_Room.l0 k x0 x1 x2 (wrap64 (x8 + 1)) ba2 ba3)) else (none)) else (none))
end
def storagebarterref26_Room.f (k : Nat) (l0 : List (S44)) (a1 : Int) (a2 : Int) : Option (Int × Int) := storagebarterref26_Room.l0 k l0 a1 a2 0 0 0
theorem storagebarterref26_Room.mono_l : ∀ k, (∀ y0 y1 y2 y3 y4 y5, LeO (storagebarterref26_Room.l0 k y0 y1 y2 y3 y4 y5) (storagebarterref26_Room.l0 (k + 1) y0 y1 y2 y3 y4 y5)) ∧ (∀ y0 y1 y2 y3 y4 y5 y6, LeO (storagebarterref26_Room.j1 k y0 y1 y2 y3 y4 y5 y6) (storagebarterref26_Room.j1 (k + 1) y0 y1 y2 y3 y4 y5 y6))
  | 0 => ⟨fun _ _ _ _ _ _ r h => by simp [storagebarterref26_Room.l0] at h, fun _ _ _ _ _ _ _ r h => by simp [storagebarterref26_Room.j1] at h⟩
  | k + 1 => by
    obtain ⟨ih0, ih1⟩ := storagebarterref26_Room.mono_l k
    refine ⟨?_, ?_⟩
    · intro y0 y1 y2 y3 y4 y5
      unfold storagebarterref26_Room.l0
      repeat' first
      | (with_reducible exact ih0 _ _ _ _ _ _)
      | (with_reducible exact ih1 _ _ _ _ _ _ _)
      | (with_reducible exact LeO.refl _)
      | (with_reducible exact LeO.none _)
      | (with_reducible refine LeO.ite ?_ ?_)
      | (with_reducible refine LeO.bind ?_ (fun _ => ?_))
      | exact ih0 _ _ _ _ _ _
      | exact ih1 _ _ _ _ _ _ _
      | exact LeO.none _
      | refine LeO.ite ?_ ?_
      | refine LeO.bind ?_ (fun _ => ?_)
    · intro y0 y1 y2 y3 y4 y5 y6
      unfold storagebarterref26_Room.j1
      repeat' first
      | (with_reducible exact ih0 _ _ _ _ _ _)
      | (with_reducible exact ih1 _ _ _ _ _ _ _)
      | (with_reducible exact LeO.refl _)
      | (with_reducible exact LeO.none _)
      | (with_reducible refine LeO.ite ?_ ?_)
      | (with_reducible refine LeO.bind ?_ (fun _ => ?_))
      | exact ih0 _ _ _ _ _ _
      | exact ih1 _ _ _ _ _ _ _
      | exact LeO.none _
      | refine LeO.ite ?_ ?_
      | refine LeO.bind ?_ (fun _ => ?_)
theorem storagebarterref26_Room.mono : ∀ a0 a1 a2 k, LeO (storagebarterref26_Room.f k a0 a1 a2) (storagebarterref26_Room.f (k + 1) a0 a1 a2) := by
  intro a0 a1 a2 k
  obtain ⟨ih0, ih1⟩ := storagebarterref26_Room.mono_l k
  unfold storagebarterref26_Room.f
  repeat' first
      | (with_reducible exact ih0 _ _ _ _ _ _)
      | (with_reducible exact ih1 _ _ _ _ _ _ _)
      | (with_reducible exact LeO.refl _)
      | (with_reducible exact LeO.none _)
      | (with_reducible refine LeO.ite ?_ ?_)
      | (with_reducible refine LeO.bind ?_ (fun _ => ?_))
      | exact ih0 _ _ _ _ _ _
      | exact ih1 _ _ _ _ _ _ _
      | exact LeO.none _
      | refine LeO.ite ?_ ?_
      | refine LeO.bind ?_ (fun _ => ?_)
def storagebarterref26_Room.T6 : Bool × List (List Nat × List Nat) := (true, [([], []), ([0], [0]), ([], []), ([], []), ([2, 3], [2, 3]), ([4], [4]), ([5], [5]), ([1, 6], [1, 6]), ([0, 1, 2, 3, 4, 5, 6, 7], []), ([8, 7, 0, 1, 2, 3, 4, 5, 6, 7], [7, 8])])
def storagebarterref26_Room.B6 : List Nat := [0, 1, 0, 0, 12, 28, 60, 127, 255, 511]
theorem storagebarterref26_Room.tab6 : rtab .any (opsOf Try.f30 6) = storagebarterref26_Room.T6 := by kernel_rfl
theorem storagebarterref26_Room.bits6 : waitsOk storagebarterref26_Room.T6.2 storagebarterref26_Room.B6 = true := by kernel_rfl
def storagebarterref26_Room.T8 : Bool × List (List Nat × List Nat) := (true, [([], []), ([0], [0]), ([], []), ([], []), ([2, 3], [2, 3]), ([4], [4]), ([5], [5]), ([1, 6], [1, 6]), ([0, 1, 2, 3, 4, 5, 6, 7], []), ([8, 7, 0, 1, 2, 3, 4, 5, 6, 7], [7, 8])])
def storagebarterref26_Room.B8 : List Nat := [0, 1, 0, 0, 12, 28, 60, 127, 255, 511]
theorem storagebarterref26_Room.tab8 : rtab .any (opsOf Try.f30 8) = storagebarterref26_Room.T8 := by kernel_rfl
theorem storagebarterref26_Room.bits8 : waitsOk storagebarterref26_Room.T8.2 storagebarterref26_Room.B8 = true := by kernel_rfl
class Up30 (W W1 : World) : Prop where
  below : Below W.heap.size W W1
instance (W : World) : Up30 W W := ⟨Below.refl _ _⟩
instance (W W1 : World) [h : Up30 W W1] (o : Obj) : Up30 W (W1.alloc o) := ⟨below_alloc h.below o⟩
instance (W W1 : World) [h : Up30 W W1] : Up30 W W1.drew := ⟨h.below.trans (below_drew (Below.refl _ _))⟩
instance (W W1 : World) [h : Up30 W W1] (n : Nat) : Up30 W (W1.drewN n) := ⟨pw_below_drewN h.below n⟩
theorem bU30 {W W1 : World} {g : Nat} {o : Obj} [u : Up30 W W1] (h : W.heap[g]? = some o) : W1.heap[g]? = some o := (u.below.block g (blk_lt h)).trans h
theorem hU30 {w W W1 : World} [u : Up30 W W1] (h : Below w.heap.size w W) : Below w.heap.size w W1 := below_step h u.below
theorem cU30 {α : Type} {d : Kd α} {A : Option Addr} {n : Nat} {xs : List α} {W W1 : World} [u : Up30 W W1] (h : d.C W A n xs) : d.C W1 A n xs := Kd.C_below h u.below
set_option maxHeartbeats 60000000 in
set_option maxRecDepth 100000 in
theorem storagebarterref26_Room.calls (k : Nat) (A0 : Option Addr) (c0 : Nat) (l0 : List (S44)) (a1 : Int) (a2 : Int) (r1 : Int) (r2 : Int) (w : World) (hr0 : Kd.C k44 w A0 l0.length l0) (hc0 : l0.length ≤ c0) (h : storagebarterref26_Room.f k l0 a1 a2 = some (r1, r2)) :
  Calls Try.prog 30 #[.slice A0 l0.length c0, .int .i64 a1, .int .i64 a2] w fun e w' => e = .returned (.agg #[.int .i64 r1, .int .i64 r2]) ∧ Below w.heap.size w w' := by
 have hu39 := Try.underlying39
 have HR0 := Aside0.mk hr0
 have HC0 := Aside0.mk hc0
 clear hr0 hc0
 have HB := Aside0.mk (Below.refl w.heap.size w)
 have H : (storagebarterref26_Room.l0 k l0 a1 a2 0 0 0) = some (r1, r2) := h
 clear h
 have H' := Aside0.mk H
 clear H
 go_enter Try.func30, Try.ntmps30
 go_wp2_with (first | ((with_reducible refine gate_dst (N := 6) rfl ?_); refine box_event ?hg (N := 6) ?hd (cs := #[.int .i64 0, .int .i64 0]) (t := 39) ?hr ?_; (case hd => rfl); (case hg => rfl); (case hr => first | (go_simp; done) | (go_simp; rfl)); intro gb194 hg w4 hbox hb; have n0_ := Aside0.mk (below_step (hU30 HB.out) hb); have n1_ := Aside0.mk (hbox); have n2_ := Aside0.mk ((by rw [hg]; exact (below_size (hU30 HB.out)) : w.heap.size ≤ gb194)); have n3_ := Aside0.mk ((by rw [hg]; exact (below_size (hU30 HB.out)) : w.heap.size ≤ gb194)); clear HB; have HB := n0_; have BK194 := n1_; have GW194 := n2_; have GE194 := n3_; clear n0_ n1_ n2_ n3_; clear hb hbox hg) | ((with_reducible refine gate_dst (N := 7) rfl ?_); refine box_event ?hg (N := 7) ?hd (cs := #[.int .i64 0, .int .i64 0]) (t := 39) ?hr ?_; (case hd => rfl); (case hg => rfl); (case hr => first | (go_simp; done) | (go_simp; rfl)); intro gb195 hg w5 hbox hb; have n0_ := Aside0.mk (blk_below (g := gb194) (o := .cells #[.int .i64 0, .int .i64 0] 39 (0, 0)) (bU30 BK194.out) hb); have n1_ := Aside0.mk (below_step (by repeat (first | (with_reducible first | exact HB.out | apply below_alloc | apply pw_below_drewN | apply below_drew1 | refine below_set ?_ GE194.out) | exact HB.out)) hb); have n2_ := Aside0.mk (hbox); have n3_ := Aside0.mk ((by rw [hg]; exact (below_size (by repeat (first | (with_reducible first | exact HB.out | apply below_alloc | apply pw_below_drewN | apply below_drew1 | refine below_set ?_ GE194.out) | exact HB.out))) : w.heap.size ≤ gb195)); have n4_ := Aside0.mk ((by rw [hg]; exact (below_size (by repeat (first | (with_reducible first | exact HB.out | apply below_alloc | apply pw_below_drewN | apply below_drew1 | refine below_set ?_ GE194.out) | exact HB.out))) : w.heap.size ≤ gb195)); have n5_ := Aside0.mk ((by rw [hg]; exact Nat.ne_of_lt (blk_lt (g := gb194) (o := .cells #[.int .i64 0, .int .i64 0] 39 (0, 0)) (bU30 BK194.out)) : gb194 ≠ gb195)); have n6_ := Aside0.mk ((by rw [hg]; exact Nat.ne_of_gt (blk_lt (g := gb194) (o := .cells #[.int .i64 0, .int .i64 0] 39 (0, 0)) (bU30 BK194.out)) : gb195 ≠ gb194)); clear BK194; clear HB; have BK194 := n0_; have HB := n1_; have BK195 := n2_; have GW195 := n3_; have GE195 := n4_; have NB194_195 := n5_; have NB195_194 := n6_; clear n0_ n1_ n2_ n3_ n4_ n5_ n6_; clear hb hbox hg))
 go_loopg [8] k (fun kq v8 w' => ∃ (x8_1 : Int) (ba0 : Int) (ba1 : Int), v8 = .int .i64 x8_1 ∧ Aside0 (storagebarterref26_Room.l0 kq l0 a1 a2 x8_1 ba0 ba1 = some (r1, r2)) ∧ Aside0 (kq ≤ k) ∧ Aside0 (w'.heap[gb194]? = some (.cells #[.int .i64 0, .int .i64 0] 39 (0, 0))) ∧ Aside0 (w'.heap[gb195]? = some (.cells #[.int .i64 ba0, .int .i64 ba1] 39 (0, 0))) ∧ Aside0 (Below w.heap.size w w'))
 case atStart => exact ⟨(0), (0), (0), (by first | rfl | (simp; done) | (simp [*]; done)), H', ⟨Nat.le_refl _⟩, ⟨by exact bU30 BK194.out⟩, ⟨by exact bU30 BK195.out⟩, ⟨by repeat (first | (with_reducible first | exact HB.out | apply below_alloc | apply pw_below_drewN | apply below_drew1 | refine below_set ?_ (Aside0.out (by assumption))) | exact HB.out)⟩⟩
 case round =>
  clear H'
  try clear p2
  try clear c3
  obtain ⟨x8_1, ba0, ba1, rfl, HA, HK1, BK194, BK195, HB⟩ := hrel
  cases gk with
  | zero => exact absurd HA.out (by simp [storagebarterref26_Room.l0])
  | succ k1 =>
   have H := HA.out
   clear HA
   simp only [storagebarterref26_Room.l0] at H
   by_cases c6 : x8_1 < (l0.length : Int)
   case neg =>
    rw [if_neg c6] at H
    have c6b0 : decide (x8_1 < (l0.length : Int)) = false := decide_eq_false c6
    clear c6
    simp only [Option.some.injEq, Prod.mk.injEq] at H
    obtain ⟨rfl, rfl⟩ := H
    have hnb30 := NB195_194.out
    have hnc30 := NB194_195.out
    have hcz31 := cz2 BK195.out
    have hfz31 := blk_frozen BK195.out
    have hcz32 := cz2 BK194.out
    have hfz32 := blk_frozen BK194.out
    go_wp2
    refine bodyPost_ret (results_cell_row rfl _ _ gb194 39 #[.int .i64 ba0, .int .i64 ba1] (0, 0) _ rfl (by (with_reducible repeat (first | refine blk_drewN ?_ _ | refine blk_drew ?_ | refine blk_alloc ?_ _)); refine blk_put (cs := #[.int .i64 ba0, .int .i64 0]) ?_ 1 _ rfl; (with_reducible repeat (first | refine blk_drewN ?_ _ | refine blk_drew ?_ | refine blk_alloc ?_ _)); refine blk_put (cs := #[.int .i64 0, .int .i64 0]) ?_ 0 _ rfl; exact bU30 BK194.out) Try.underlying39 rfl (by kernel_rfl)) rfl ?_
    exact ⟨by first | rfl | (simp [errW_none, errW_some] <;> rfl) | (simp [*, errW_none, errW_some] <;> rfl), by repeat (first | (with_reducible first | exact HB.out | apply below_alloc | apply pw_below_drewN | apply below_drew1 | refine below_set ?_ (Aside0.out (by assumption))) | exact HB.out)⟩


   rw [if_pos c6] at H
   have c6b0 : decide (x8_1 < (l0.length : Int)) = true := decide_eq_true c6
   clear c6
   have HC7 := Aside0.mk H
   clear H
   go_upto_region 5 with (fail)
   go_cut [30] (fun v30 wc => ∃ (kq : Nat) (x30_6 : Bool), v30 = .bool x30_6 ∧ Aside0 (storagebarterref26_Room.j1 kq l0 a1 a2 x8_1 x30_6 ba0 ba1 = some (r1, r2)) ∧ Aside0 (kq ≤ k1) ∧ Aside0 (wc.heap[gb194]? = some (.cells #[.int .i64 0, .int .i64 0] 39 (0, 0))) ∧ Aside0 (wc.heap[gb195]? = some (.cells #[.int .i64 ba0, .int .i64 ba1] 39 (0, 0))) ∧ Aside0 (Below w.heap.size w wc))
   case first =>
    have H := HC7.out
    clear HC7
    by_cases c8 : 0 ≤ x8_1
    case neg =>
     rw [if_neg c8] at H
     exact absurd H (by simp)
    rw [if_pos c8] at H
    have c8b0 : decide (0 ≤ x8_1) = true := decide_eq_true c8
    clear c8
    (first | rw [c8b0] | (simp only [i64_w, i32_w]; rw [c8b0]) | skip)
    by_cases c9 : ((rd_T44 l0 x8_1).f1) = a1
    case neg =>
     rw [if_neg c9] at H
     have c9b0 : (((rd_T44 l0 x8_1).f1) == a1) = false := beq_eq_false_iff_ne.mpr c9
     have c9b1 : (((rd_T44 l0 x8_1).f1) != a1) = true := bne_iff_ne.mpr c9
     have H' := Aside0.mk H
     clear H
     have p196 : 0 ≤ (x8_1 : Int) := of_decide_eq_true (by first | (with_reducible assumption) | assumption)
     have q196 : x8_1 < (l0.length : Int) := of_decide_eq_true (by first | (with_reducible assumption) | assumption)
     obtain ⟨ad196, e196, hx196_0, hx196_1, hx196_2, hx196_3, hx196_4, hx196_5, hx196_6, hx196_7⟩ := at_T44 HR0.out x8_1 p196 q196
     cases e196
     replace hx196_0 := (HB.out.cell (World.block_lt_of_cell? w _ hx196_0)).trans hx196_0
     replace hx196_1 := (HB.out.cell (World.block_lt_of_cell? w _ hx196_1)).trans hx196_1
     replace hx196_2 := (HB.out.cell (World.block_lt_of_cell? w _ hx196_2)).trans hx196_2
     replace hx196_3 := (HB.out.cell (World.block_lt_of_cell? w _ hx196_3)).trans hx196_3
     replace hx196_4 := (HB.out.cell (World.block_lt_of_cell? w _ hx196_4)).trans hx196_4
     replace hx196_5 := (HB.out.cell (World.block_lt_of_cell? w _ hx196_5)).trans hx196_5
     replace hx196_6 := (HB.out.cell (World.block_lt_of_cell? w _ hx196_6)).trans hx196_6
     replace hx196_7 := (HB.out.cell (World.block_lt_of_cell? w _ hx196_7)).trans hx196_7
     replace p196 := eq_true p196
     replace q196 := eq_true q196
     go_wp2
     go_meet
     case rel => exact ⟨_, (false), (by first | rfl | (simp; done) | (simp [*]; done)), H', ⟨by have := HK1.out; first | omega | exact Nat.le_refl _⟩, ⟨by exact bU30 BK194.out⟩, ⟨by exact bU30 BK195.out⟩, ⟨by repeat (first | (with_reducible first | exact HB.out | apply below_alloc | apply pw_below_drewN | apply below_drew1 | refine below_set ?_ (Aside0.out (by assumption))) | exact HB.out)⟩⟩
    rw [if_pos c9] at H
    have c9b0 : (((rd_T44 l0 x8_1).f1) == a1) = true := beq_iff_eq.mpr c9
    have c9b1 : (((rd_T44 l0 x8_1).f1) != a1) = false := bne_eq_false_iff_eq.mpr c9
    clear c9
    have H' := Aside0.mk H
    clear H
    have p196 : 0 ≤ (x8_1 : Int) := of_decide_eq_true (by first | (with_reducible assumption) | assumption)
    have q196 : x8_1 < (l0.length : Int) := of_decide_eq_true (by first | (with_reducible assumption) | assumption)
    obtain ⟨ad196, e196, hx196_0, hx196_1, hx196_2, hx196_3, hx196_4, hx196_5, hx196_6, hx196_7⟩ := at_T44 HR0.out x8_1 p196 q196
    cases e196
    replace hx196_0 := (HB.out.cell (World.block_lt_of_cell? w _ hx196_0)).trans hx196_0
    replace hx196_1 := (HB.out.cell (World.block_lt_of_cell? w _ hx196_1)).trans hx196_1
    replace hx196_2 := (HB.out.cell (World.block_lt_of_cell? w _ hx196_2)).trans hx196_2
    replace hx196_3 := (HB.out.cell (World.block_lt_of_cell? w _ hx196_3)).trans hx196_3
    replace hx196_4 := (HB.out.cell (World.block_lt_of_cell? w _ hx196_4)).trans hx196_4
    replace hx196_5 := (HB.out.cell (World.block_lt_of_cell? w _ hx196_5)).trans hx196_5
    replace hx196_6 := (HB.out.cell (World.block_lt_of_cell? w _ hx196_6)).trans hx196_6
    replace hx196_7 := (HB.out.cell (World.block_lt_of_cell? w _ hx196_7)).trans hx196_7
    replace p196 := eq_true p196
    replace q196 := eq_true q196
    have p197 : 0 ≤ (x8_1 : Int) := of_decide_eq_true (by first | (with_reducible assumption) | assumption)
    have q197 : x8_1 < (l0.length : Int) := of_decide_eq_true (by first | (with_reducible assumption) | assumption)
    obtain ⟨ad197, e197, hx197_0, hx197_1, hx197_2, hx197_3, hx197_4, hx197_5, hx197_6, hx197_7⟩ := at_T44 HR0.out x8_1 p197 q197
    obtain rfl : ad196 = ad197 := (by injection e197)
    replace hx197_0 := (HB.out.cell (World.block_lt_of_cell? w _ hx197_0)).trans hx197_0
    replace hx197_1 := (HB.out.cell (World.block_lt_of_cell? w _ hx197_1)).trans hx197_1
    replace hx197_2 := (HB.out.cell (World.block_lt_of_cell? w _ hx197_2)).trans hx197_2
    replace hx197_3 := (HB.out.cell (World.block_lt_of_cell? w _ hx197_3)).trans hx197_3
    replace hx197_4 := (HB.out.cell (World.block_lt_of_cell? w _ hx197_4)).trans hx197_4
    replace hx197_5 := (HB.out.cell (World.block_lt_of_cell? w _ hx197_5)).trans hx197_5
    replace hx197_6 := (HB.out.cell (World.block_lt_of_cell? w _ hx197_6)).trans hx197_6
    replace hx197_7 := (HB.out.cell (World.block_lt_of_cell? w _ hx197_7)).trans hx197_7
    replace p197 := eq_true p197
    replace q197 := eq_true q197
    go_wp2
    go_meet
    case rel => exact ⟨_, ((((rd_T44 l0 x8_1).f0) == a2)), (by first | rfl | (simp; done) | (simp [*]; done)), H', ⟨by have := HK1.out; first | omega | exact Nat.le_refl _⟩, ⟨by exact bU30 BK194.out⟩, ⟨by exact bU30 BK195.out⟩, ⟨by repeat (first | (with_reducible first | exact HB.out | apply below_alloc | apply pw_below_drewN | apply below_drew1 | refine below_set ?_ (Aside0.out (by assumption))) | exact HB.out)⟩⟩
   case rest =>
    clear HC7
    try clear p1
    try clear q1
    try clear hx1
    try clear p2
    try clear c3
    try clear c6
    try clear c6b0
    try clear c8
    try clear c8b0
    try clear c9
    try clear c9b0
    try clear c9b1
    try clear hx196_0
    try clear hx196_1
    try clear hx196_2
    try clear hx196_3
    try clear hx196_4
    try clear hx196_5
    try clear hx196_6
    try clear hx196_7
    try clear hx197_0
    try clear hx197_1
    try clear hx197_2
    try clear hx197_3
    try clear hx197_4
    try clear hx197_5
    try clear hx197_6
    try clear hx197_7
    try clear p196
    try clear p197
    try clear p2
    try clear q196
    try clear q197
    obtain ⟨kq, x30_6, rfl, HA, HJ6, BK194, BK195, HB⟩ := hcut
    cases kq with
    | zero => exact absurd HA.out (by simp [storagebarterref26_Room.j1])
    | succ kj6 =>
     have H := HA.out
     clear HA
     simp only [storagebarterref26_Room.j1] at H
     by_cases c10 : x30_6 = true
     case neg =>
      replace c10 := Bool.eq_false_iff.mpr c10
      subst c10
      have H1 : (if 0 ≤ x8_1 then (if x8_1 < (l0.length : Int) then (if ((rd_T44 l0 x8_1).f1) = a2 then (if ((rd_T44 l0 x8_1).f0) = a1 then (storagebarterref26_Room.l0 kj6 l0 a1 a2 (wrap64 (x8_1 + 1)) ba0 (wrap64 (ba1 + ((rd_T44 l0 x8_1).f4)))) else (storagebarterref26_Room.l0 kj6 l0 a1 a2 (wrap64 (x8_1 + 1)) ba0 ba1)) else (storagebarterref26_Room.l0 kj6 l0 a1 a2 (wrap64 (x8_1 + 1)) ba0 ba1)) else (none)) else (none)) = some (r1, r2) := by rw [if_neg (show ¬ (false = true) by decide)] at H; exact H
      clear H
      have H := H1
      clear H1
      by_cases c24 : 0 ≤ x8_1
      case neg =>
       rw [if_neg c24] at H
       exact absurd H (by simp)
      rw [if_pos c24] at H
      have c24b0 : decide (0 ≤ x8_1) = true := decide_eq_true c24
      clear c24
      by_cases c25 : x8_1 < (l0.length : Int)
      case neg =>
       rw [if_neg c25] at H
       exact absurd H (by simp)
      rw [if_pos c25] at H
      have c25b0 : decide (x8_1 < (l0.length : Int)) = true := decide_eq_true c25
      clear c25
      by_cases c26 : ((rd_T44 l0 x8_1).f1) = a2
      case neg =>
       rw [if_neg c26] at H
       have c26b0 : (((rd_T44 l0 x8_1).f1) == a2) = false := beq_eq_false_iff_ne.mpr c26
       have c26b1 : (((rd_T44 l0 x8_1).f1) != a2) = true := bne_iff_ne.mpr c26
       have H' := Aside0.mk H
       clear H
       have p202 : 0 ≤ (x8_1 : Int) := of_decide_eq_true (by first | (with_reducible assumption) | assumption)
       have q202 : x8_1 < (l0.length : Int) := of_decide_eq_true (by first | (with_reducible assumption) | assumption)
       obtain ⟨ad202, e202, hx202_0, hx202_1, hx202_2, hx202_3, hx202_4, hx202_5, hx202_6, hx202_7⟩ := at_T44 HR0.out x8_1 p202 q202
       cases e202
       replace hx202_0 := (HB.out.cell (World.block_lt_of_cell? w _ hx202_0)).trans hx202_0
       replace hx202_1 := (HB.out.cell (World.block_lt_of_cell? w _ hx202_1)).trans hx202_1
       replace hx202_2 := (HB.out.cell (World.block_lt_of_cell? w _ hx202_2)).trans hx202_2
       replace hx202_3 := (HB.out.cell (World.block_lt_of_cell? w _ hx202_3)).trans hx202_3
       replace hx202_4 := (HB.out.cell (World.block_lt_of_cell? w _ hx202_4)).trans hx202_4
       replace hx202_5 := (HB.out.cell (World.block_lt_of_cell? w _ hx202_5)).trans hx202_5
       replace hx202_6 := (HB.out.cell (World.block_lt_of_cell? w _ hx202_6)).trans hx202_6
       replace hx202_7 := (HB.out.cell (World.block_lt_of_cell? w _ hx202_7)).trans hx202_7
       replace p202 := eq_true p202
       replace q202 := eq_true q202
       go_wp2
       go_roundg kj6
       case measure => have := HK1.out; have := HJ6.out; omega
       case rel => exact ⟨(wrap64 (x8_1 + 1)), (ba0), (ba1), (by first | rfl | (simp; done) | (simp [*]; done)), H', ⟨by have := HK1.out; have := HJ6.out; omega⟩, ⟨by exact bU30 BK194.out⟩, ⟨by exact bU30 BK195.out⟩, ⟨by repeat (first | (with_reducible first | exact HB.out | apply below_alloc | apply pw_below_drewN | apply below_drew1 | refine below_set ?_ (Aside0.out (by assumption))) | exact HB.out)⟩⟩
      rw [if_pos c26] at H
      have c26b0 : (((rd_T44 l0 x8_1).f1) == a2) = true := beq_iff_eq.mpr c26
      have c26b1 : (((rd_T44 l0 x8_1).f1) != a2) = false := bne_eq_false_iff_eq.mpr c26
      clear c26
      by_cases c27 : ((rd_T44 l0 x8_1).f0) = a1
      case neg =>
       rw [if_neg c27] at H
       have c27b0 : (((rd_T44 l0 x8_1).f0) == a1) = false := beq_eq_false_iff_ne.mpr c27
       have c27b1 : (((rd_T44 l0 x8_1).f0) != a1) = true := bne_iff_ne.mpr c27
       have H' := Aside0.mk H
       clear H
       have p202 : 0 ≤ (x8_1 : Int) := of_decide_eq_true (by first | (with_reducible assumption) | assumption)
       have q202 : x8_1 < (l0.length : Int) := of_decide_eq_true (by first | (with_reducible assumption) | assumption)
       obtain ⟨ad202, e202, hx202_0, hx202_1, hx202_2, hx202_3, hx202_4, hx202_5, hx202_6, hx202_7⟩ := at_T44 HR0.out x8_1 p202 q202
       cases e202
       replace hx202_0 := (HB.out.cell (World.block_lt_of_cell? w _ hx202_0)).trans hx202_0
       replace hx202_1 := (HB.out.cell (World.block_lt_of_cell? w _ hx202_1)).trans hx202_1
       replace hx202_2 := (HB.out.cell (World.block_lt_of_cell? w _ hx202_2)).trans hx202_2
       replace hx202_3 := (HB.out.cell (World.block_lt_of_cell? w _ hx202_3)).trans hx202_3
       replace hx202_4 := (HB.out.cell (World.block_lt_of_cell? w _ hx202_4)).trans hx202_4
       replace hx202_5 := (HB.out.cell (World.block_lt_of_cell? w _ hx202_5)).trans hx202_5
       replace hx202_6 := (HB.out.cell (World.block_lt_of_cell? w _ hx202_6)).trans hx202_6
       replace hx202_7 := (HB.out.cell (World.block_lt_of_cell? w _ hx202_7)).trans hx202_7
       replace p202 := eq_true p202
       replace q202 := eq_true q202
       have p203 : 0 ≤ (x8_1 : Int) := of_decide_eq_true (by first | (with_reducible assumption) | assumption)
       have q203 : x8_1 < (l0.length : Int) := of_decide_eq_true (by first | (with_reducible assumption) | assumption)
       obtain ⟨ad203, e203, hx203_0, hx203_1, hx203_2, hx203_3, hx203_4, hx203_5, hx203_6, hx203_7⟩ := at_T44 HR0.out x8_1 p203 q203
       obtain rfl : ad202 = ad203 := (by injection e203)
       replace hx203_0 := (HB.out.cell (World.block_lt_of_cell? w _ hx203_0)).trans hx203_0
       replace hx203_1 := (HB.out.cell (World.block_lt_of_cell? w _ hx203_1)).trans hx203_1
       replace hx203_2 := (HB.out.cell (World.block_lt_of_cell? w _ hx203_2)).trans hx203_2
       replace hx203_3 := (HB.out.cell (World.block_lt_of_cell? w _ hx203_3)).trans hx203_3
       replace hx203_4 := (HB.out.cell (World.block_lt_of_cell? w _ hx203_4)).trans hx203_4
       replace hx203_5 := (HB.out.cell (World.block_lt_of_cell? w _ hx203_5)).trans hx203_5
       replace hx203_6 := (HB.out.cell (World.block_lt_of_cell? w _ hx203_6)).trans hx203_6
       replace hx203_7 := (HB.out.cell (World.block_lt_of_cell? w _ hx203_7)).trans hx203_7
       replace p203 := eq_true p203
       replace q203 := eq_true q203
       go_wp2
       go_roundg kj6
       case measure => have := HK1.out; have := HJ6.out; omega
       case rel => exact ⟨(wrap64 (x8_1 + 1)), (ba0), (ba1), (by first | rfl | (simp; done) | (simp [*]; done)), H', ⟨by have := HK1.out; have := HJ6.out; omega⟩, ⟨by exact bU30 BK194.out⟩, ⟨by exact bU30 BK195.out⟩, ⟨by repeat (first | (with_reducible first | exact HB.out | apply below_alloc | apply pw_below_drewN | apply below_drew1 | refine below_set ?_ (Aside0.out (by assumption))) | exact HB.out)⟩⟩
      rw [if_pos c27] at H
      have c27b0 : (((rd_T44 l0 x8_1).f0) == a1) = true := beq_iff_eq.mpr c27
      have c27b1 : (((rd_T44 l0 x8_1).f0) != a1) = false := bne_eq_false_iff_eq.mpr c27
      clear c27
      have H' := Aside0.mk H
      clear H
      have p202 : 0 ≤ (x8_1 : Int) := of_decide_eq_true (by first | (with_reducible assumption) | assumption)
      have q202 : x8_1 < (l0.length : Int) := of_decide_eq_true (by first | (with_reducible assumption) | assumption)
      obtain ⟨ad202, e202, hx202_0, hx202_1, hx202_2, hx202_3, hx202_4, hx202_5, hx202_6, hx202_7⟩ := at_T44 HR0.out x8_1 p202 q202
      cases e202
      replace hx202_0 := (HB.out.cell (World.block_lt_of_cell? w _ hx202_0)).trans hx202_0
      replace hx202_1 := (HB.out.cell (World.block_lt_of_cell? w _ hx202_1)).trans hx202_1
      replace hx202_2 := (HB.out.cell (World.block_lt_of_cell? w _ hx202_2)).trans hx202_2
      replace hx202_3 := (HB.out.cell (World.block_lt_of_cell? w _ hx202_3)).trans hx202_3
      replace hx202_4 := (HB.out.cell (World.block_lt_of_cell? w _ hx202_4)).trans hx202_4
      replace hx202_5 := (HB.out.cell (World.block_lt_of_cell? w _ hx202_5)).trans hx202_5
      replace hx202_6 := (HB.out.cell (World.block_lt_of_cell? w _ hx202_6)).trans hx202_6
      replace hx202_7 := (HB.out.cell (World.block_lt_of_cell? w _ hx202_7)).trans hx202_7
      replace p202 := eq_true p202
      replace q202 := eq_true q202
      have p203 : 0 ≤ (x8_1 : Int) := of_decide_eq_true (by first | (with_reducible assumption) | assumption)
      have q203 : x8_1 < (l0.length : Int) := of_decide_eq_true (by first | (with_reducible assumption) | assumption)
      obtain ⟨ad203, e203, hx203_0, hx203_1, hx203_2, hx203_3, hx203_4, hx203_5, hx203_6, hx203_7⟩ := at_T44 HR0.out x8_1 p203 q203
      obtain rfl : ad202 = ad203 := (by injection e203)
      replace hx203_0 := (HB.out.cell (World.block_lt_of_cell? w _ hx203_0)).trans hx203_0
      replace hx203_1 := (HB.out.cell (World.block_lt_of_cell? w _ hx203_1)).trans hx203_1
      replace hx203_2 := (HB.out.cell (World.block_lt_of_cell? w _ hx203_2)).trans hx203_2
      replace hx203_3 := (HB.out.cell (World.block_lt_of_cell? w _ hx203_3)).trans hx203_3
      replace hx203_4 := (HB.out.cell (World.block_lt_of_cell? w _ hx203_4)).trans hx203_4
      replace hx203_5 := (HB.out.cell (World.block_lt_of_cell? w _ hx203_5)).trans hx203_5
      replace hx203_6 := (HB.out.cell (World.block_lt_of_cell? w _ hx203_6)).trans hx203_6
      replace hx203_7 := (HB.out.cell (World.block_lt_of_cell? w _ hx203_7)).trans hx203_7
      replace p203 := eq_true p203
      replace q203 := eq_true q203
      try go_wp2
      have n0_ := Aside0.mk (blk_drew BK194.out)
      have n1_ := Aside0.mk (blk_drew BK195.out)
      have n2_ := Aside0.mk (below_drew1 HB.out)
      clear BK194
      clear BK195
      clear HB
      have BK194 := n0_
      have BK195 := n1_
      have HB := n2_
      clear n0_ n1_ n2_
      have p204 : 0 ≤ (x8_1 : Int) := of_decide_eq_true (by first | (with_reducible assumption) | assumption)
      have q204 : x8_1 < (l0.length : Int) := of_decide_eq_true (by first | (with_reducible assumption) | assumption)
      obtain ⟨ad204, e204, hx204_0, hx204_1, hx204_2, hx204_3, hx204_4, hx204_5, hx204_6, hx204_7⟩ := at_T44 HR0.out x8_1 p204 q204
      have hw204_7 := hx204_7
      have hw204_6 := hx204_6
      have hw204_5 := hx204_5
      have hw204_4 := hx204_4
      have hw204_3 := hx204_3
      have hw204_2 := hx204_2
      have hw204_1 := hx204_1
      have hw204_0 := hx204_0
      obtain rfl : ad202 = ad204 := (by injection e204)
      replace hx204_0 := (HB.out.cell (World.block_lt_of_cell? w _ hx204_0)).trans hx204_0
      replace hx204_1 := (HB.out.cell (World.block_lt_of_cell? w _ hx204_1)).trans hx204_1
      replace hx204_2 := (HB.out.cell (World.block_lt_of_cell? w _ hx204_2)).trans hx204_2
      replace hx204_3 := (HB.out.cell (World.block_lt_of_cell? w _ hx204_3)).trans hx204_3
      replace hx204_4 := (HB.out.cell (World.block_lt_of_cell? w _ hx204_4)).trans hx204_4
      replace hx204_5 := (HB.out.cell (World.block_lt_of_cell? w _ hx204_5)).trans hx204_5
      replace hx204_6 := (HB.out.cell (World.block_lt_of_cell? w _ hx204_6)).trans hx204_6
      replace hx204_7 := (HB.out.cell (World.block_lt_of_cell? w _ hx204_7)).trans hx204_7
      replace p204 := eq_true p204
      replace q204 := eq_true q204
      refine start_ (n := 10) (S := fun w' => w'.cell? ⟨gb195, 0, none⟩ = some (.int .i64 ba0) ∧ w'.cell? ⟨gb195, 1, none⟩ = some (.int .i64 ba1) ∧ w'.cell? (ad202.add ((x8_1).toNat * 8)) = some (.int .i64 ((rd_T44 l0 x8_1).f0)) ∧ w'.cell? ⟨(ad202.add ((x8_1).toNat * 8)).block, (ad202.add ((x8_1).toNat * 8)).off + 1, none⟩ = some (.int .i64 ((rd_T44 l0 x8_1).f1)) ∧ w'.cell? ⟨(ad202.add ((x8_1).toNat * 8)).block, (ad202.add ((x8_1).toNat * 8)).off + 2, none⟩ = some (.int .i64 ((rd_T44 l0 x8_1).f2)) ∧ w'.cell? ⟨(ad202.add ((x8_1).toNat * 8)).block, (ad202.add ((x8_1).toNat * 8)).off + 3, none⟩ = some (.int .i64 ((rd_T44 l0 x8_1).f3)) ∧ w'.cell? ⟨(ad202.add ((x8_1).toNat * 8)).block, (ad202.add ((x8_1).toNat * 8)).off + 4, none⟩ = some (.int .i64 ((rd_T44 l0 x8_1).f4)) ∧ w'.cell? ⟨(ad202.add ((x8_1).toNat * 8)).block, (ad202.add ((x8_1).toNat * 8)).off + 5, none⟩ = some (.int .i64 ((rd_T44 l0 x8_1).f5)) ∧ w'.cell? ⟨(ad202.add ((x8_1).toNat * 8)).block, (ad202.add ((x8_1).toNat * 8)).off + 6, none⟩ = some (.int .i64 ((rd_T44 l0 x8_1).f6)) ∧ w'.cell? ⟨(ad202.add ((x8_1).toNat * 8)).block, (ad202.add ((x8_1).toNat * 8)).off + 7, none⟩ = some (.bool ((rd_T44 l0 x8_1).f7))) (ds := [9]) #[false, false, false, false, false, false, false, false, false, false] (by kernel_rfl) rfl rfl ⟨(blk_cell BK195.out 0).trans rfl, (blk_cell BK195.out 1).trans rfl, ((HB.out.cell (World.block_lt_of_cell? w _ hw204_0)).trans hw204_0), ((HB.out.cell (World.block_lt_of_cell? w _ hw204_1)).trans hw204_1), ((HB.out.cell (World.block_lt_of_cell? w _ hw204_2)).trans hw204_2), ((HB.out.cell (World.block_lt_of_cell? w _ hw204_3)).trans hw204_3), ((HB.out.cell (World.block_lt_of_cell? w _ hw204_4)).trans hw204_4), ((HB.out.cell (World.block_lt_of_cell? w _ hw204_5)).trans hw204_5), ((HB.out.cell (World.block_lt_of_cell? w _ hw204_6)).trans hw204_6), ((HB.out.cell (World.block_lt_of_cell? w _ hw204_7)).trans hw204_7)⟩ (fun hHeld => ?_); refine with_tabW storagebarterref26_Room.tab8 storagebarterref26_Room.bits8 (fun HT_ HW_ => ?_)
      generalize wc.drew = w28 at BK194 BK195 HB hx204_0 hx204_1 hx204_2 hx204_3 hx204_4 hx204_5 hx204_6 hx204_7 hHeld ⊢
      refine pure_ (i := 0) (N := some 56) (v := ?_) (a' := ?_) #[true, false, false, false, false, false, false, false, false, false] rfl rfl (any_of HT_.out (by kernel_rfl)) (fun _ _ _ h => h) (Or.inl ⟨by rfl, ?_⟩) ?_ ?_
      rotate_left
      ·intro w'
       go_simp
       with_reducible rfl
      rotate_left
      ·simp only [Act.put, List.setIfInBounds_toArray, List.set_cons_zero, List.set_cons_succ, i64_w, i32_w]
       rfl
      refine pure_ (i := 2) (N := some 58) (v := ?_) (a' := ?_) #[true, false, true, false, false, false, false, false, false, false] rfl rfl (any_of HT_.out (by kernel_rfl)) (fun _ _ _ h => h) (Or.inl ⟨by rfl, ?_⟩) ?_ ?_
      rotate_left
      ·intro w'
       go_simp
       with_reducible rfl
      rotate_left
      ·simp only [Act.put, List.setIfInBounds_toArray, List.set_cons_zero, List.set_cons_succ, i64_w, i32_w]
       rfl
      refine pure_ (i := 3) (N := some 59) (v := ?_) (a' := ?_) #[true, false, true, true, false, false, false, false, false, false] rfl rfl (any_of HT_.out (by kernel_rfl)) (fun _ _ _ h => h) (Or.inl ⟨by rfl, ?_⟩) ?_ ?_
      rotate_left
      ·intro w'
       go_simp
       with_reducible rfl
      rotate_left
      ·simp only [Act.put, List.setIfInBounds_toArray, List.set_cons_zero, List.set_cons_succ, i64_w, i32_w]
       rfl
      refine pure_ (i := 4) (N := some 60) (v := ?_) (a' := ?_) #[true, false, true, true, true, false, false, false, false, false] rfl rfl (any_of HT_.out (by kernel_rfl)) (fun _ _ _ h => h) (Or.inl ⟨by rfl, ?_⟩) ?_ ?_
      rotate_left
      ·intro w'
       go_simp
       with_reducible rfl
      rotate_left
      ·simp only [Act.put, List.setIfInBounds_toArray, List.set_cons_zero, List.set_cons_succ, i64_w, i32_w]
       rfl
      refine pure_ (i := 5) (N := some 61) (v := ?_) (a' := ?_) #[true, false, true, true, true, true, false, false, false, false] rfl rfl (any_of HT_.out (by kernel_rfl)) (fun _ _ _ h => h) (Or.inl ⟨by rfl, ?_⟩) ?_ ?_
      rotate_left
      ·intro w'
       go_simp
       with_reducible rfl
      rotate_left
      ·simp only [Act.put, List.setIfInBounds_toArray, List.set_cons_zero, List.set_cons_succ, i64_w, i32_w]
       rfl
      refine take_ (i := 1) (N := some 57) (v := ?_) (a' := ?_) #[true, true, true, true, true, true, false, false, false, false] rfl rfl (take_ofW HT_.out HW_.out (by kernel_rfl)) (fun _ _ _ h => h) (Or.inl ⟨by rfl, ?_⟩) hHeld ?_ ?_
      rotate_left
      ·rintro w' ⟨s0, s1, s2, s3, s4, s5, s6, s7, s8, s9⟩
       go_simp
       with_reducible rfl
      rotate_left
      ·simp only [Act.put, List.setIfInBounds_toArray, List.set_cons_zero, List.set_cons_succ, i64_w, i32_w]
       rfl
      refine take_ (i := 6) (N := some 62) (v := ?_) (a' := ?_) #[true, true, true, true, true, true, true, false, false, false] rfl rfl (take_ofW HT_.out HW_.out (by kernel_rfl)) (fun _ _ _ h => h) (Or.inl ⟨by rfl, ?_⟩) hHeld ?_ ?_
      rotate_left
      ·rintro w' ⟨s0, s1, s2, s3, s4, s5, s6, s7, s8, s9⟩
       go_simp
       with_reducible rfl
      rotate_left
      ·simp only [Act.put, List.setIfInBounds_toArray, List.set_cons_zero, List.set_cons_succ, i64_w, i32_w]
       rfl
      refine pure_ (i := 7) (N := some 63) (v := ?_) (a' := ?_) #[true, true, true, true, true, true, true, true, false, false] rfl rfl (any_of HT_.out (by kernel_rfl)) (fun _ _ _ h => h) (Or.inl ⟨by rfl, ?_⟩) ?_ ?_
      rotate_left
      ·intro w'
       go_simp
       with_reducible rfl
      rotate_left
      ·simp only [Act.put, List.setIfInBounds_toArray, List.set_cons_zero, List.set_cons_succ, i64_w, i32_w]
       rfl
      refine pure_ (i := 8) (N := some 64) (v := ?_) (a' := ?_) #[true, true, true, true, true, true, true, true, true, false] rfl rfl (any_of HT_.out (by kernel_rfl)) (fun _ _ _ h => h) (Or.inl ⟨by rfl, ?_⟩) ?_ ?_
      rotate_left
      ·intro w'
       go_simp
       with_reducible rfl
      rotate_left
      ·simp only [Act.put, List.setIfInBounds_toArray, List.set_cons_zero, List.set_cons_succ, i64_w, i32_w]
       rfl
      refine last_ (i := 9) (N := none) #[true, true, true, true, true, true, true, true, true, true] rfl rfl (one_of HT_.out (by kernel_rfl)) (by decide) (fun K hK => ?_)
      have hs29 : w28.cell? ⟨gb195, 1, none⟩ = some (.int .i64 ba1) := (blk_cell BK195.out 1).trans rfl
      have hfs29 := blk_frozen BK195.out 1
      have hns29_0 := NB194_195.out
      have hms29_0 := NB195_194.out
      refine skip_ (w1 := ?_) (by rfl) rfl ?_ ?_
      rotate_left
      ·go_simp
       rfl
      refine hK.out _ _ ?_
      clear hK K
      refine done_ (done_of HT_.out (by kernel_rfl)) ?_
      try go_wp2
      go_roundg kj6
      case measure => have := HK1.out; have := HJ6.out; omega
      case rel => exact ⟨(wrap64 (x8_1 + 1)), (ba0), (wrap64 (ba1 + ((rd_T44 l0 x8_1).f4))), (by first | rfl | (simp; done) | (simp [*]; done)), H', ⟨by have := HK1.out; have := HJ6.out; omega⟩, ⟨by (with_reducible repeat (first | refine blk_drewN ?_ _ | refine blk_drew ?_ | refine blk_alloc ?_ _)); refine blk_far ?_ NB194_195.out _; exact bU30 BK194.out⟩, ⟨by (with_reducible repeat (first | refine blk_drewN ?_ _ | refine blk_drew ?_ | refine blk_alloc ?_ _)); refine blk_put (cs := #[.int .i64 ba0, .int .i64 ba1]) ?_ 1 _ rfl; exact bU30 BK195.out⟩, ⟨by repeat (first | (with_reducible first | exact HB.out | apply below_alloc | apply pw_below_drewN | apply below_drew1 | refine below_set ?_ (Aside0.out (by assumption))) | exact HB.out)⟩⟩
     subst c10
     have H1 : (if 0 ≤ x8_1 then (if x8_1 < (l0.length : Int) then (if ((rd_T44 l0 x8_1).f1) = a2 then (if ((rd_T44 l0 x8_1).f0) = a1 then (storagebarterref26_Room.l0 kj6 l0 a1 a2 (wrap64 (x8_1 + 1)) (wrap64 (ba0 + ((rd_T44 l0 x8_1).f4))) (wrap64 (ba1 + ((rd_T44 l0 x8_1).f4)))) else (storagebarterref26_Room.l0 kj6 l0 a1 a2 (wrap64 (x8_1 + 1)) (wrap64 (ba0 + ((rd_T44 l0 x8_1).f4))) ba1)) else (storagebarterref26_Room.l0 kj6 l0 a1 a2 (wrap64 (x8_1 + 1)) (wrap64 (ba0 + ((rd_T44 l0 x8_1).f4))) ba1)) else (none)) else (none)) = some (r1, r2) := by rw [if_pos rfl] at H; exact H
     clear H
     have H := H1
     clear H1
     by_cases c11 : 0 ≤ x8_1
     case neg =>
      rw [if_neg c11] at H
      exact absurd H (by simp)
     rw [if_pos c11] at H
     have c11b0 : decide (0 ≤ x8_1) = true := decide_eq_true c11
     clear c11
     by_cases c12 : x8_1 < (l0.length : Int)
     case neg =>
      rw [if_neg c12] at H
      exact absurd H (by simp)
     rw [if_pos c12] at H
     have c12b0 : decide (x8_1 < (l0.length : Int)) = true := decide_eq_true c12
     clear c12
     by_cases c13 : ((rd_T44 l0 x8_1).f1) = a2
     case neg =>
      rw [if_neg c13] at H
      have c13b0 : (((rd_T44 l0 x8_1).f1) == a2) = false := beq_eq_false_iff_ne.mpr c13
      have c13b1 : (((rd_T44 l0 x8_1).f1) != a2) = true := bne_iff_ne.mpr c13
      have H' := Aside0.mk H
      clear H
      try go_wp2
      have n0_ := Aside0.mk (blk_drew BK194.out)
      have n1_ := Aside0.mk (blk_drew BK195.out)
      have n2_ := Aside0.mk (below_drew1 HB.out)
      clear BK194
      clear BK195
      clear HB
      have BK194 := n0_
      have BK195 := n1_
      have HB := n2_
      clear n0_ n1_ n2_
      have p198 : 0 ≤ (x8_1 : Int) := of_decide_eq_true (by first | (with_reducible assumption) | assumption)
      have q198 : x8_1 < (l0.length : Int) := of_decide_eq_true (by first | (with_reducible assumption) | assumption)
      obtain ⟨ad198, e198, hx198_0, hx198_1, hx198_2, hx198_3, hx198_4, hx198_5, hx198_6, hx198_7⟩ := at_T44 HR0.out x8_1 p198 q198
      have hw198_7 := hx198_7
      have hw198_6 := hx198_6
      have hw198_5 := hx198_5
      have hw198_4 := hx198_4
      have hw198_3 := hx198_3
      have hw198_2 := hx198_2
      have hw198_1 := hx198_1
      have hw198_0 := hx198_0
      cases e198
      replace hx198_0 := (HB.out.cell (World.block_lt_of_cell? w _ hx198_0)).trans hx198_0
      replace hx198_1 := (HB.out.cell (World.block_lt_of_cell? w _ hx198_1)).trans hx198_1
      replace hx198_2 := (HB.out.cell (World.block_lt_of_cell? w _ hx198_2)).trans hx198_2
      replace hx198_3 := (HB.out.cell (World.block_lt_of_cell? w _ hx198_3)).trans hx198_3
      replace hx198_4 := (HB.out.cell (World.block_lt_of_cell? w _ hx198_4)).trans hx198_4
      replace hx198_5 := (HB.out.cell (World.block_lt_of_cell? w _ hx198_5)).trans hx198_5
      replace hx198_6 := (HB.out.cell (World.block_lt_of_cell? w _ hx198_6)).trans hx198_6
      replace hx198_7 := (HB.out.cell (World.block_lt_of_cell? w _ hx198_7)).trans hx198_7
      replace p198 := eq_true p198
      replace q198 := eq_true q198
      refine start_ (n := 10) (S := fun w' => w'.cell? ⟨gb195, 0, none⟩ = some (.int .i64 ba0) ∧ w'.cell? ⟨gb195, 1, none⟩ = some (.int .i64 ba1) ∧ w'.cell? (ad198.add ((x8_1).toNat * 8)) = some (.int .i64 ((rd_T44 l0 x8_1).f0)) ∧ w'.cell? ⟨(ad198.add ((x8_1).toNat * 8)).block, (ad198.add ((x8_1).toNat * 8)).off + 1, none⟩ = some (.int .i64 ((rd_T44 l0 x8_1).f1)) ∧ w'.cell? ⟨(ad198.add ((x8_1).toNat * 8)).block, (ad198.add ((x8_1).toNat * 8)).off + 2, none⟩ = some (.int .i64 ((rd_T44 l0 x8_1).f2)) ∧ w'.cell? ⟨(ad198.add ((x8_1).toNat * 8)).block, (ad198.add ((x8_1).toNat * 8)).off + 3, none⟩ = some (.int .i64 ((rd_T44 l0 x8_1).f3)) ∧ w'.cell? ⟨(ad198.add ((x8_1).toNat * 8)).block, (ad198.add ((x8_1).toNat * 8)).off + 4, none⟩ = some (.int .i64 ((rd_T44 l0 x8_1).f4)) ∧ w'.cell? ⟨(ad198.add ((x8_1).toNat * 8)).block, (ad198.add ((x8_1).toNat * 8)).off + 5, none⟩ = some (.int .i64 ((rd_T44 l0 x8_1).f5)) ∧ w'.cell? ⟨(ad198.add ((x8_1).toNat * 8)).block, (ad198.add ((x8_1).toNat * 8)).off + 6, none⟩ = some (.int .i64 ((rd_T44 l0 x8_1).f6)) ∧ w'.cell? ⟨(ad198.add ((x8_1).toNat * 8)).block, (ad198.add ((x8_1).toNat * 8)).off + 7, none⟩ = some (.bool ((rd_T44 l0 x8_1).f7))) (ds := [9]) #[false, false, false, false, false, false, false, false, false, false] (by kernel_rfl) rfl rfl ⟨(blk_cell BK195.out 0).trans rfl, (blk_cell BK195.out 1).trans rfl, ((HB.out.cell (World.block_lt_of_cell? w _ hw198_0)).trans hw198_0), ((HB.out.cell (World.block_lt_of_cell? w _ hw198_1)).trans hw198_1), ((HB.out.cell (World.block_lt_of_cell? w _ hw198_2)).trans hw198_2), ((HB.out.cell (World.block_lt_of_cell? w _ hw198_3)).trans hw198_3), ((HB.out.cell (World.block_lt_of_cell? w _ hw198_4)).trans hw198_4), ((HB.out.cell (World.block_lt_of_cell? w _ hw198_5)).trans hw198_5), ((HB.out.cell (World.block_lt_of_cell? w _ hw198_6)).trans hw198_6), ((HB.out.cell (World.block_lt_of_cell? w _ hw198_7)).trans hw198_7)⟩ (fun hHeld => ?_); refine with_tabW storagebarterref26_Room.tab6 storagebarterref26_Room.bits6 (fun HT_ HW_ => ?_)
      generalize wc.drew = w22 at BK194 BK195 HB hx198_0 hx198_1 hx198_2 hx198_3 hx198_4 hx198_5 hx198_6 hx198_7 hHeld ⊢
      refine pure_ (i := 0) (N := some 31) (v := ?_) (a' := ?_) #[true, false, false, false, false, false, false, false, false, false] rfl rfl (any_of HT_.out (by kernel_rfl)) (fun _ _ _ h => h) (Or.inl ⟨by rfl, ?_⟩) ?_ ?_
      rotate_left
      ·intro w'
       go_simp
       with_reducible rfl
      rotate_left
      ·simp only [Act.put, List.setIfInBounds_toArray, List.set_cons_zero, List.set_cons_succ, i64_w, i32_w]
       rfl
      refine pure_ (i := 2) (N := some 33) (v := ?_) (a' := ?_) #[true, false, true, false, false, false, false, false, false, false] rfl rfl (any_of HT_.out (by kernel_rfl)) (fun _ _ _ h => h) (Or.inl ⟨by rfl, ?_⟩) ?_ ?_
      rotate_left
      ·intro w'
       go_simp
       with_reducible rfl
      rotate_left
      ·simp only [Act.put, List.setIfInBounds_toArray, List.set_cons_zero, List.set_cons_succ, i64_w, i32_w]
       rfl
      refine pure_ (i := 3) (N := some 34) (v := ?_) (a' := ?_) #[true, false, true, true, false, false, false, false, false, false] rfl rfl (any_of HT_.out (by kernel_rfl)) (fun _ _ _ h => h) (Or.inl ⟨by rfl, ?_⟩) ?_ ?_
      rotate_left
      ·intro w'
       go_simp
       with_reducible rfl
      rotate_left
      ·simp only [Act.put, List.setIfInBounds_toArray, List.set_cons_zero, List.set_cons_succ, i64_w, i32_w]
       rfl
      refine pure_ (i := 4) (N := some 35) (v := ?_) (a' := ?_) #[true, false, true, true, true, false, false, false, false, false] rfl rfl (any_of HT_.out (by kernel_rfl)) (fun _ _ _ h => h) (Or.inl ⟨by rfl, ?_⟩) ?_ ?_
      rotate_left
      ·intro w'
       go_simp
       with_reducible rfl
      rotate_left
      ·simp only [Act.put, List.setIfInBounds_toArray, List.set_cons_zero, List.set_cons_succ, i64_w, i32_w]
       rfl
      refine pure_ (i := 5) (N := some 36) (v := ?_) (a' := ?_) #[true, false, true, true, true, true, false, false, false, false] rfl rfl (any_of HT_.out (by kernel_rfl)) (fun _ _ _ h => h) (Or.inl ⟨by rfl, ?_⟩) ?_ ?_
      rotate_left
      ·intro w'
       go_simp
       with_reducible rfl
      rotate_left
      ·simp only [Act.put, List.setIfInBounds_toArray, List.set_cons_zero, List.set_cons_succ, i64_w, i32_w]
       rfl
      refine take_ (i := 1) (N := some 32) (v := ?_) (a' := ?_) #[true, true, true, true, true, true, false, false, false, false] rfl rfl (take_ofW HT_.out HW_.out (by kernel_rfl)) (fun _ _ _ h => h) (Or.inl ⟨by rfl, ?_⟩) hHeld ?_ ?_
      rotate_left
      ·rintro w' ⟨s0, s1, s2, s3, s4, s5, s6, s7, s8, s9⟩
       go_simp
       with_reducible rfl
      rotate_left
      ·simp only [Act.put, List.setIfInBounds_toArray, List.set_cons_zero, List.set_cons_succ, i64_w, i32_w]
       rfl
      refine take_ (i := 6) (N := some 37) (v := ?_) (a' := ?_) #[true, true, true, true, true, true, true, false, false, false] rfl rfl (take_ofW HT_.out HW_.out (by kernel_rfl)) (fun _ _ _ h => h) (Or.inl ⟨by rfl, ?_⟩) hHeld ?_ ?_
      rotate_left
      ·rintro w' ⟨s0, s1, s2, s3, s4, s5, s6, s7, s8, s9⟩
       go_simp
       with_reducible rfl
      rotate_left
      ·simp only [Act.put, List.setIfInBounds_toArray, List.set_cons_zero, List.set_cons_succ, i64_w, i32_w]
       rfl
      refine pure_ (i := 7) (N := some 38) (v := ?_) (a' := ?_) #[true, true, true, true, true, true, true, true, false, false] rfl rfl (any_of HT_.out (by kernel_rfl)) (fun _ _ _ h => h) (Or.inl ⟨by rfl, ?_⟩) ?_ ?_
      rotate_left
      ·intro w'
       go_simp
       with_reducible rfl
      rotate_left
      ·simp only [Act.put, List.setIfInBounds_toArray, List.set_cons_zero, List.set_cons_succ, i64_w, i32_w]
       rfl
      refine pure_ (i := 8) (N := some 39) (v := ?_) (a' := ?_) #[true, true, true, true, true, true, true, true, true, false] rfl rfl (any_of HT_.out (by kernel_rfl)) (fun _ _ _ h => h) (Or.inl ⟨by rfl, ?_⟩) ?_ ?_
      rotate_left
      ·intro w'
       go_simp
       with_reducible rfl
      rotate_left
      ·simp only [Act.put, List.setIfInBounds_toArray, List.set_cons_zero, List.set_cons_succ, i64_w, i32_w]
       rfl
      refine last_ (i := 9) (N := none) #[true, true, true, true, true, true, true, true, true, true] rfl rfl (one_of HT_.out (by kernel_rfl)) (by decide) (fun K hK => ?_)
      have hs23 : w22.cell? ⟨gb195, 0, none⟩ = some (.int .i64 ba0) := (blk_cell BK195.out 0).trans rfl
      have hfs23 := blk_frozen BK195.out 0
      have hns23_0 := NB194_195.out
      have hms23_0 := NB195_194.out
      refine skip_ (w1 := ?_) (by rfl) rfl ?_ ?_
      rotate_left
      ·go_simp
       rfl
      refine hK.out _ _ ?_
      clear hK K
      refine done_ (done_of HT_.out (by kernel_rfl)) ?_
      have p199 : 0 ≤ (x8_1 : Int) := of_decide_eq_true (by first | (with_reducible assumption) | assumption)
      have q199 : x8_1 < (l0.length : Int) := of_decide_eq_true (by first | (with_reducible assumption) | assumption)
      obtain ⟨ad199, e199, hx199_0, hx199_1, hx199_2, hx199_3, hx199_4, hx199_5, hx199_6, hx199_7⟩ := at_T44 HR0.out x8_1 p199 q199
      obtain rfl : ad198 = ad199 := (by injection e199)
      have hn199_0 : ad198.block ≠ gb195 := Nat.ne_of_lt (Nat.lt_of_lt_of_le (by have := World.block_lt_of_cell? _ _ hx199_0; first | rwa [add_block] at this | exact this) GW195.out)
      replace hx199_0 := (HB.out.cell (World.block_lt_of_cell? w _ hx199_0)).trans hx199_0
      replace hx199_1 := (HB.out.cell (World.block_lt_of_cell? w _ hx199_1)).trans hx199_1
      replace hx199_2 := (HB.out.cell (World.block_lt_of_cell? w _ hx199_2)).trans hx199_2
      replace hx199_3 := (HB.out.cell (World.block_lt_of_cell? w _ hx199_3)).trans hx199_3
      replace hx199_4 := (HB.out.cell (World.block_lt_of_cell? w _ hx199_4)).trans hx199_4
      replace hx199_5 := (HB.out.cell (World.block_lt_of_cell? w _ hx199_5)).trans hx199_5
      replace hx199_6 := (HB.out.cell (World.block_lt_of_cell? w _ hx199_6)).trans hx199_6
      replace hx199_7 := (HB.out.cell (World.block_lt_of_cell? w _ hx199_7)).trans hx199_7
      replace hx199_0 := (cell_far (p := ⟨gb195, 0, none⟩) (by first | (rw [add_block]; exact hn199_0) | (show (Addr.add _ _).block ≠ _; rw [add_block]; exact hn199_0) | exact hn199_0) (.int .i64 (wrap64 (ba0 + ((rd_T44 l0 x8_1).f4))))).trans hx199_0
      replace hx199_1 := (cell_far (p := ⟨gb195, 0, none⟩) (by first | (rw [add_block]; exact hn199_0) | (show (Addr.add _ _).block ≠ _; rw [add_block]; exact hn199_0) | exact hn199_0) (.int .i64 (wrap64 (ba0 + ((rd_T44 l0 x8_1).f4))))).trans hx199_1
      replace hx199_2 := (cell_far (p := ⟨gb195, 0, none⟩) (by first | (rw [add_block]; exact hn199_0) | (show (Addr.add _ _).block ≠ _; rw [add_block]; exact hn199_0) | exact hn199_0) (.int .i64 (wrap64 (ba0 + ((rd_T44 l0 x8_1).f4))))).trans hx199_2
      replace hx199_3 := (cell_far (p := ⟨gb195, 0, none⟩) (by first | (rw [add_block]; exact hn199_0) | (show (Addr.add _ _).block ≠ _; rw [add_block]; exact hn199_0) | exact hn199_0) (.int .i64 (wrap64 (ba0 + ((rd_T44 l0 x8_1).f4))))).trans hx199_3
      replace hx199_4 := (cell_far (p := ⟨gb195, 0, none⟩) (by first | (rw [add_block]; exact hn199_0) | (show (Addr.add _ _).block ≠ _; rw [add_block]; exact hn199_0) | exact hn199_0) (.int .i64 (wrap64 (ba0 + ((rd_T44 l0 x8_1).f4))))).trans hx199_4
      replace hx199_5 := (cell_far (p := ⟨gb195, 0, none⟩) (by first | (rw [add_block]; exact hn199_0) | (show (Addr.add _ _).block ≠ _; rw [add_block]; exact hn199_0) | exact hn199_0) (.int .i64 (wrap64 (ba0 + ((rd_T44 l0 x8_1).f4))))).trans hx199_5
      replace hx199_6 := (cell_far (p := ⟨gb195, 0, none⟩) (by first | (rw [add_block]; exact hn199_0) | (show (Addr.add _ _).block ≠ _; rw [add_block]; exact hn199_0) | exact hn199_0) (.int .i64 (wrap64 (ba0 + ((rd_T44 l0 x8_1).f4))))).trans hx199_6
      replace hx199_7 := (cell_far (p := ⟨gb195, 0, none⟩) (by first | (rw [add_block]; exact hn199_0) | (show (Addr.add _ _).block ≠ _; rw [add_block]; exact hn199_0) | exact hn199_0) (.int .i64 (wrap64 (ba0 + ((rd_T44 l0 x8_1).f4))))).trans hx199_7
      clear hn199_0
      replace p199 := eq_true p199
      replace q199 := eq_true q199
      try go_wp2
      go_roundg kj6
      case measure => have := HK1.out; have := HJ6.out; omega
      case rel => exact ⟨(wrap64 (x8_1 + 1)), (wrap64 (ba0 + ((rd_T44 l0 x8_1).f4))), (ba1), (by first | rfl | (simp; done) | (simp [*]; done)), H', ⟨by have := HK1.out; have := HJ6.out; omega⟩, ⟨by (with_reducible repeat (first | refine blk_drewN ?_ _ | refine blk_drew ?_ | refine blk_alloc ?_ _)); refine blk_far ?_ NB194_195.out _; exact bU30 BK194.out⟩, ⟨by (with_reducible repeat (first | refine blk_drewN ?_ _ | refine blk_drew ?_ | refine blk_alloc ?_ _)); refine blk_put (cs := #[.int .i64 ba0, .int .i64 ba1]) ?_ 0 _ rfl; exact bU30 BK195.out⟩, ⟨by repeat (first | (with_reducible first | exact HB.out | apply below_alloc | apply pw_below_drewN | apply below_drew1 | refine below_set ?_ (Aside0.out (by assumption))) | exact HB.out)⟩⟩
     rw [if_pos c13] at H
     have c13b0 : (((rd_T44 l0 x8_1).f1) == a2) = true := beq_iff_eq.mpr c13
     have c13b1 : (((rd_T44 l0 x8_1).f1) != a2) = false := bne_eq_false_iff_eq.mpr c13
     clear c13
     by_cases c14 : ((rd_T44 l0 x8_1).f0) = a1
     case neg =>
      rw [if_neg c14] at H
      have c14b0 : (((rd_T44 l0 x8_1).f0) == a1) = false := beq_eq_false_iff_ne.mpr c14
      have c14b1 : (((rd_T44 l0 x8_1).f0) != a1) = true := bne_iff_ne.mpr c14
      have H' := Aside0.mk H
      clear H
      try go_wp2
      have n0_ := Aside0.mk (blk_drew BK194.out)
      have n1_ := Aside0.mk (blk_drew BK195.out)
      have n2_ := Aside0.mk (below_drew1 HB.out)
      clear BK194
      clear BK195
      clear HB
      have BK194 := n0_
      have BK195 := n1_
      have HB := n2_
      clear n0_ n1_ n2_
      have p198 : 0 ≤ (x8_1 : Int) := of_decide_eq_true (by first | (with_reducible assumption) | assumption)
      have q198 : x8_1 < (l0.length : Int) := of_decide_eq_true (by first | (with_reducible assumption) | assumption)
      obtain ⟨ad198, e198, hx198_0, hx198_1, hx198_2, hx198_3, hx198_4, hx198_5, hx198_6, hx198_7⟩ := at_T44 HR0.out x8_1 p198 q198
      have hw198_7 := hx198_7
      have hw198_6 := hx198_6
      have hw198_5 := hx198_5
      have hw198_4 := hx198_4
      have hw198_3 := hx198_3
      have hw198_2 := hx198_2
      have hw198_1 := hx198_1
      have hw198_0 := hx198_0
      cases e198
      replace hx198_0 := (HB.out.cell (World.block_lt_of_cell? w _ hx198_0)).trans hx198_0
      replace hx198_1 := (HB.out.cell (World.block_lt_of_cell? w _ hx198_1)).trans hx198_1
      replace hx198_2 := (HB.out.cell (World.block_lt_of_cell? w _ hx198_2)).trans hx198_2
      replace hx198_3 := (HB.out.cell (World.block_lt_of_cell? w _ hx198_3)).trans hx198_3
      replace hx198_4 := (HB.out.cell (World.block_lt_of_cell? w _ hx198_4)).trans hx198_4
      replace hx198_5 := (HB.out.cell (World.block_lt_of_cell? w _ hx198_5)).trans hx198_5
      replace hx198_6 := (HB.out.cell (World.block_lt_of_cell? w _ hx198_6)).trans hx198_6
      replace hx198_7 := (HB.out.cell (World.block_lt_of_cell? w _ hx198_7)).trans hx198_7
      replace p198 := eq_true p198
      replace q198 := eq_true q198
      refine start_ (n := 10) (S := fun w' => w'.cell? ⟨gb195, 0, none⟩ = some (.int .i64 ba0) ∧ w'.cell? ⟨gb195, 1, none⟩ = some (.int .i64 ba1) ∧ w'.cell? (ad198.add ((x8_1).toNat * 8)) = some (.int .i64 ((rd_T44 l0 x8_1).f0)) ∧ w'.cell? ⟨(ad198.add ((x8_1).toNat * 8)).block, (ad198.add ((x8_1).toNat * 8)).off + 1, none⟩ = some (.int .i64 ((rd_T44 l0 x8_1).f1)) ∧ w'.cell? ⟨(ad198.add ((x8_1).toNat * 8)).block, (ad198.add ((x8_1).toNat * 8)).off + 2, none⟩ = some (.int .i64 ((rd_T44 l0 x8_1).f2)) ∧ w'.cell? ⟨(ad198.add ((x8_1).toNat * 8)).block, (ad198.add ((x8_1).toNat * 8)).off + 3, none⟩ = some (.int .i64 ((rd_T44 l0 x8_1).f3)) ∧ w'.cell? ⟨(ad198.add ((x8_1).toNat * 8)).block, (ad198.add ((x8_1).toNat * 8)).off + 4, none⟩ = some (.int .i64 ((rd_T44 l0 x8_1).f4)) ∧ w'.cell? ⟨(ad198.add ((x8_1).toNat * 8)).block, (ad198.add ((x8_1).toNat * 8)).off + 5, none⟩ = some (.int .i64 ((rd_T44 l0 x8_1).f5)) ∧ w'.cell? ⟨(ad198.add ((x8_1).toNat * 8)).block, (ad198.add ((x8_1).toNat * 8)).off + 6, none⟩ = some (.int .i64 ((rd_T44 l0 x8_1).f6)) ∧ w'.cell? ⟨(ad198.add ((x8_1).toNat * 8)).block, (ad198.add ((x8_1).toNat * 8)).off + 7, none⟩ = some (.bool ((rd_T44 l0 x8_1).f7))) (ds := [9]) #[false, false, false, false, false, false, false, false, false, false] (by kernel_rfl) rfl rfl ⟨(blk_cell BK195.out 0).trans rfl, (blk_cell BK195.out 1).trans rfl, ((HB.out.cell (World.block_lt_of_cell? w _ hw198_0)).trans hw198_0), ((HB.out.cell (World.block_lt_of_cell? w _ hw198_1)).trans hw198_1), ((HB.out.cell (World.block_lt_of_cell? w _ hw198_2)).trans hw198_2), ((HB.out.cell (World.block_lt_of_cell? w _ hw198_3)).trans hw198_3), ((HB.out.cell (World.block_lt_of_cell? w _ hw198_4)).trans hw198_4), ((HB.out.cell (World.block_lt_of_cell? w _ hw198_5)).trans hw198_5), ((HB.out.cell (World.block_lt_of_cell? w _ hw198_6)).trans hw198_6), ((HB.out.cell (World.block_lt_of_cell? w _ hw198_7)).trans hw198_7)⟩ (fun hHeld => ?_); refine with_tabW storagebarterref26_Room.tab6 storagebarterref26_Room.bits6 (fun HT_ HW_ => ?_)
      generalize wc.drew = w20 at BK194 BK195 HB hx198_0 hx198_1 hx198_2 hx198_3 hx198_4 hx198_5 hx198_6 hx198_7 hHeld ⊢
      refine pure_ (i := 0) (N := some 31) (v := ?_) (a' := ?_) #[true, false, false, false, false, false, false, false, false, false] rfl rfl (any_of HT_.out (by kernel_rfl)) (fun _ _ _ h => h) (Or.inl ⟨by rfl, ?_⟩) ?_ ?_
      rotate_left
      ·intro w'
       go_simp
       with_reducible rfl
      rotate_left
      ·simp only [Act.put, List.setIfInBounds_toArray, List.set_cons_zero, List.set_cons_succ, i64_w, i32_w]
       rfl
      refine pure_ (i := 2) (N := some 33) (v := ?_) (a' := ?_) #[true, false, true, false, false, false, false, false, false, false] rfl rfl (any_of HT_.out (by kernel_rfl)) (fun _ _ _ h => h) (Or.inl ⟨by rfl, ?_⟩) ?_ ?_
      rotate_left
      ·intro w'
       go_simp
       with_reducible rfl
      rotate_left
      ·simp only [Act.put, List.setIfInBounds_toArray, List.set_cons_zero, List.set_cons_succ, i64_w, i32_w]
       rfl
      refine pure_ (i := 3) (N := some 34) (v := ?_) (a' := ?_) #[true, false, true, true, false, false, false, false, false, false] rfl rfl (any_of HT_.out (by kernel_rfl)) (fun _ _ _ h => h) (Or.inl ⟨by rfl, ?_⟩) ?_ ?_
      rotate_left
      ·intro w'
       go_simp
       with_reducible rfl
      rotate_left
      ·simp only [Act.put, List.setIfInBounds_toArray, List.set_cons_zero, List.set_cons_succ, i64_w, i32_w]
       rfl
      refine pure_ (i := 4) (N := some 35) (v := ?_) (a' := ?_) #[true, false, true, true, true, false, false, false, false, false] rfl rfl (any_of HT_.out (by kernel_rfl)) (fun _ _ _ h => h) (Or.inl ⟨by rfl, ?_⟩) ?_ ?_
      rotate_left
      ·intro w'
       go_simp
       with_reducible rfl
      rotate_left
      ·simp only [Act.put, List.setIfInBounds_toArray, List.set_cons_zero, List.set_cons_succ, i64_w, i32_w]
       rfl
      refine pure_ (i := 5) (N := some 36) (v := ?_) (a' := ?_) #[true, false, true, true, true, true, false, false, false, false] rfl rfl (any_of HT_.out (by kernel_rfl)) (fun _ _ _ h => h) (Or.inl ⟨by rfl, ?_⟩) ?_ ?_
      rotate_left
      ·intro w'
       go_simp
       with_reducible rfl
      rotate_left
      ·simp only [Act.put, List.setIfInBounds_toArray, List.set_cons_zero, List.set_cons_succ, i64_w, i32_w]
       rfl
      refine take_ (i := 1) (N := some 32) (v := ?_) (a' := ?_) #[true, true, true, true, true, true, false, false, false, false] rfl rfl (take_ofW HT_.out HW_.out (by kernel_rfl)) (fun _ _ _ h => h) (Or.inl ⟨by rfl, ?_⟩) hHeld ?_ ?_
      rotate_left
      ·rintro w' ⟨s0, s1, s2, s3, s4, s5, s6, s7, s8, s9⟩
       go_simp
       with_reducible rfl
      rotate_left
      ·simp only [Act.put, List.setIfInBounds_toArray, List.set_cons_zero, List.set_cons_succ, i64_w, i32_w]
       rfl
      refine take_ (i := 6) (N := some 37) (v := ?_) (a' := ?_) #[true, true, true, true, true, true, true, false, false, false] rfl rfl (take_ofW HT_.out HW_.out (by kernel_rfl)) (fun _ _ _ h => h) (Or.inl ⟨by rfl, ?_⟩) hHeld ?_ ?_
      rotate_left
      ·rintro w' ⟨s0, s1, s2, s3, s4, s5, s6, s7, s8, s9⟩
       go_simp
       with_reducible rfl
      rotate_left
      ·simp only [Act.put, List.setIfInBounds_toArray, List.set_cons_zero, List.set_cons_succ, i64_w, i32_w]
       rfl
      refine pure_ (i := 7) (N := some 38) (v := ?_) (a' := ?_) #[true, true, true, true, true, true, true, true, false, false] rfl rfl (any_of HT_.out (by kernel_rfl)) (fun _ _ _ h => h) (Or.inl ⟨by rfl, ?_⟩) ?_ ?_
      rotate_left
      ·intro w'
       go_simp
       with_reducible rfl
      rotate_left
      ·simp only [Act.put, List.setIfInBounds_toArray, List.set_cons_zero, List.set_cons_succ, i64_w, i32_w]
       rfl
      refine pure_ (i := 8) (N := some 39) (v := ?_) (a' := ?_) #[true, true, true, true, true, true, true, true, true, false] rfl rfl (any_of HT_.out (by kernel_rfl)) (fun _ _ _ h => h) (Or.inl ⟨by rfl, ?_⟩) ?_ ?_
      rotate_left
      ·intro w'
       go_simp
       with_reducible rfl
      rotate_left
      ·simp only [Act.put, List.setIfInBounds_toArray, List.set_cons_zero, List.set_cons_succ, i64_w, i32_w]
       rfl
      refine last_ (i := 9) (N := none) #[true, true, true, true, true, true, true, true, true, true] rfl rfl (one_of HT_.out (by kernel_rfl)) (by decide) (fun K hK => ?_)
      have hs21 : w20.cell? ⟨gb195, 0, none⟩ = some (.int .i64 ba0) := (blk_cell BK195.out 0).trans rfl
      have hfs21 := blk_frozen BK195.out 0
      have hns21_0 := NB194_195.out
      have hms21_0 := NB195_194.out
      refine skip_ (w1 := ?_) (by rfl) rfl ?_ ?_
      rotate_left
      ·go_simp
       rfl
      refine hK.out _ _ ?_
      clear hK K
      refine done_ (done_of HT_.out (by kernel_rfl)) ?_
      have p199 : 0 ≤ (x8_1 : Int) := of_decide_eq_true (by first | (with_reducible assumption) | assumption)
      have q199 : x8_1 < (l0.length : Int) := of_decide_eq_true (by first | (with_reducible assumption) | assumption)
      obtain ⟨ad199, e199, hx199_0, hx199_1, hx199_2, hx199_3, hx199_4, hx199_5, hx199_6, hx199_7⟩ := at_T44 HR0.out x8_1 p199 q199
      obtain rfl : ad198 = ad199 := (by injection e199)
      have hn199_0 : ad198.block ≠ gb195 := Nat.ne_of_lt (Nat.lt_of_lt_of_le (by have := World.block_lt_of_cell? _ _ hx199_0; first | rwa [add_block] at this | exact this) GW195.out)
      replace hx199_0 := (HB.out.cell (World.block_lt_of_cell? w _ hx199_0)).trans hx199_0
      replace hx199_1 := (HB.out.cell (World.block_lt_of_cell? w _ hx199_1)).trans hx199_1
      replace hx199_2 := (HB.out.cell (World.block_lt_of_cell? w _ hx199_2)).trans hx199_2
      replace hx199_3 := (HB.out.cell (World.block_lt_of_cell? w _ hx199_3)).trans hx199_3
      replace hx199_4 := (HB.out.cell (World.block_lt_of_cell? w _ hx199_4)).trans hx199_4
      replace hx199_5 := (HB.out.cell (World.block_lt_of_cell? w _ hx199_5)).trans hx199_5
      replace hx199_6 := (HB.out.cell (World.block_lt_of_cell? w _ hx199_6)).trans hx199_6
      replace hx199_7 := (HB.out.cell (World.block_lt_of_cell? w _ hx199_7)).trans hx199_7
      replace hx199_0 := (cell_far (p := ⟨gb195, 0, none⟩) (by first | (rw [add_block]; exact hn199_0) | (show (Addr.add _ _).block ≠ _; rw [add_block]; exact hn199_0) | exact hn199_0) (.int .i64 (wrap64 (ba0 + ((rd_T44 l0 x8_1).f4))))).trans hx199_0
      replace hx199_1 := (cell_far (p := ⟨gb195, 0, none⟩) (by first | (rw [add_block]; exact hn199_0) | (show (Addr.add _ _).block ≠ _; rw [add_block]; exact hn199_0) | exact hn199_0) (.int .i64 (wrap64 (ba0 + ((rd_T44 l0 x8_1).f4))))).trans hx199_1
      replace hx199_2 := (cell_far (p := ⟨gb195, 0, none⟩) (by first | (rw [add_block]; exact hn199_0) | (show (Addr.add _ _).block ≠ _; rw [add_block]; exact hn199_0) | exact hn199_0) (.int .i64 (wrap64 (ba0 + ((rd_T44 l0 x8_1).f4))))).trans hx199_2
      replace hx199_3 := (cell_far (p := ⟨gb195, 0, none⟩) (by first | (rw [add_block]; exact hn199_0) | (show (Addr.add _ _).block ≠ _; rw [add_block]; exact hn199_0) | exact hn199_0) (.int .i64 (wrap64 (ba0 + ((rd_T44 l0 x8_1).f4))))).trans hx199_3
      replace hx199_4 := (cell_far (p := ⟨gb195, 0, none⟩) (by first | (rw [add_block]; exact hn199_0) | (show (Addr.add _ _).block ≠ _; rw [add_block]; exact hn199_0) | exact hn199_0) (.int .i64 (wrap64 (ba0 + ((rd_T44 l0 x8_1).f4))))).trans hx199_4
      replace hx199_5 := (cell_far (p := ⟨gb195, 0, none⟩) (by first | (rw [add_block]; exact hn199_0) | (show (Addr.add _ _).block ≠ _; rw [add_block]; exact hn199_0) | exact hn199_0) (.int .i64 (wrap64 (ba0 + ((rd_T44 l0 x8_1).f4))))).trans hx199_5
      replace hx199_6 := (cell_far (p := ⟨gb195, 0, none⟩) (by first | (rw [add_block]; exact hn199_0) | (show (Addr.add _ _).block ≠ _; rw [add_block]; exact hn199_0) | exact hn199_0) (.int .i64 (wrap64 (ba0 + ((rd_T44 l0 x8_1).f4))))).trans hx199_6
      replace hx199_7 := (cell_far (p := ⟨gb195, 0, none⟩) (by first | (rw [add_block]; exact hn199_0) | (show (Addr.add _ _).block ≠ _; rw [add_block]; exact hn199_0) | exact hn199_0) (.int .i64 (wrap64 (ba0 + ((rd_T44 l0 x8_1).f4))))).trans hx199_7
      clear hn199_0
      replace p199 := eq_true p199
      replace q199 := eq_true q199
      have p200 : 0 ≤ (x8_1 : Int) := of_decide_eq_true (by first | (with_reducible assumption) | assumption)
      have q200 : x8_1 < (l0.length : Int) := of_decide_eq_true (by first | (with_reducible assumption) | assumption)
      obtain ⟨ad200, e200, hx200_0, hx200_1, hx200_2, hx200_3, hx200_4, hx200_5, hx200_6, hx200_7⟩ := at_T44 HR0.out x8_1 p200 q200
      obtain rfl : ad198 = ad200 := (by injection e200)
      have hn200_0 : ad198.block ≠ gb195 := Nat.ne_of_lt (Nat.lt_of_lt_of_le (by have := World.block_lt_of_cell? _ _ hx200_0; first | rwa [add_block] at this | exact this) GW195.out)
      replace hx200_0 := (HB.out.cell (World.block_lt_of_cell? w _ hx200_0)).trans hx200_0
      replace hx200_1 := (HB.out.cell (World.block_lt_of_cell? w _ hx200_1)).trans hx200_1
      replace hx200_2 := (HB.out.cell (World.block_lt_of_cell? w _ hx200_2)).trans hx200_2
      replace hx200_3 := (HB.out.cell (World.block_lt_of_cell? w _ hx200_3)).trans hx200_3
      replace hx200_4 := (HB.out.cell (World.block_lt_of_cell? w _ hx200_4)).trans hx200_4
      replace hx200_5 := (HB.out.cell (World.block_lt_of_cell? w _ hx200_5)).trans hx200_5
      replace hx200_6 := (HB.out.cell (World.block_lt_of_cell? w _ hx200_6)).trans hx200_6
      replace hx200_7 := (HB.out.cell (World.block_lt_of_cell? w _ hx200_7)).trans hx200_7
      replace hx200_0 := (cell_far (p := ⟨gb195, 0, none⟩) (by first | (rw [add_block]; exact hn200_0) | (show (Addr.add _ _).block ≠ _; rw [add_block]; exact hn200_0) | exact hn200_0) (.int .i64 (wrap64 (ba0 + ((rd_T44 l0 x8_1).f4))))).trans hx200_0
      replace hx200_1 := (cell_far (p := ⟨gb195, 0, none⟩) (by first | (rw [add_block]; exact hn200_0) | (show (Addr.add _ _).block ≠ _; rw [add_block]; exact hn200_0) | exact hn200_0) (.int .i64 (wrap64 (ba0 + ((rd_T44 l0 x8_1).f4))))).trans hx200_1
      replace hx200_2 := (cell_far (p := ⟨gb195, 0, none⟩) (by first | (rw [add_block]; exact hn200_0) | (show (Addr.add _ _).block ≠ _; rw [add_block]; exact hn200_0) | exact hn200_0) (.int .i64 (wrap64 (ba0 + ((rd_T44 l0 x8_1).f4))))).trans hx200_2
      replace hx200_3 := (cell_far (p := ⟨gb195, 0, none⟩) (by first | (rw [add_block]; exact hn200_0) | (show (Addr.add _ _).block ≠ _; rw [add_block]; exact hn200_0) | exact hn200_0) (.int .i64 (wrap64 (ba0 + ((rd_T44 l0 x8_1).f4))))).trans hx200_3
      replace hx200_4 := (cell_far (p := ⟨gb195, 0, none⟩) (by first | (rw [add_block]; exact hn200_0) | (show (Addr.add _ _).block ≠ _; rw [add_block]; exact hn200_0) | exact hn200_0) (.int .i64 (wrap64 (ba0 + ((rd_T44 l0 x8_1).f4))))).trans hx200_4
      replace hx200_5 := (cell_far (p := ⟨gb195, 0, none⟩) (by first | (rw [add_block]; exact hn200_0) | (show (Addr.add _ _).block ≠ _; rw [add_block]; exact hn200_0) | exact hn200_0) (.int .i64 (wrap64 (ba0 + ((rd_T44 l0 x8_1).f4))))).trans hx200_5
      replace hx200_6 := (cell_far (p := ⟨gb195, 0, none⟩) (by first | (rw [add_block]; exact hn200_0) | (show (Addr.add _ _).block ≠ _; rw [add_block]; exact hn200_0) | exact hn200_0) (.int .i64 (wrap64 (ba0 + ((rd_T44 l0 x8_1).f4))))).trans hx200_6
      replace hx200_7 := (cell_far (p := ⟨gb195, 0, none⟩) (by first | (rw [add_block]; exact hn200_0) | (show (Addr.add _ _).block ≠ _; rw [add_block]; exact hn200_0) | exact hn200_0) (.int .i64 (wrap64 (ba0 + ((rd_T44 l0 x8_1).f4))))).trans hx200_7
      clear hn200_0
      replace p200 := eq_true p200
      replace q200 := eq_true q200
      try go_wp2
      go_roundg kj6
      case measure => have := HK1.out; have := HJ6.out; omega
      case rel => exact ⟨(wrap64 (x8_1 + 1)), (wrap64 (ba0 + ((rd_T44 l0 x8_1).f4))), (ba1), (by first | rfl | (simp; done) | (simp [*]; done)), H', ⟨by have := HK1.out; have := HJ6.out; omega⟩, ⟨by (with_reducible repeat (first | refine blk_drewN ?_ _ | refine blk_drew ?_ | refine blk_alloc ?_ _)); refine blk_far ?_ NB194_195.out _; exact bU30 BK194.out⟩, ⟨by (with_reducible repeat (first | refine blk_drewN ?_ _ | refine blk_drew ?_ | refine blk_alloc ?_ _)); refine blk_put (cs := #[.int .i64 ba0, .int .i64 ba1]) ?_ 0 _ rfl; exact bU30 BK195.out⟩, ⟨by repeat (first | (with_reducible first | exact HB.out | apply below_alloc | apply pw_below_drewN | apply below_drew1 | refine below_set ?_ (Aside0.out (by assumption))) | exact HB.out)⟩⟩
     rw [if_pos c14] at H
     have c14b0 : (((rd_T44 l0 x8_1).f0) == a1) = true := beq_iff_eq.mpr c14
     have c14b1 : (((rd_T44 l0 x8_1).f0) != a1) = false := bne_eq_false_iff_eq.mpr c14
     clear c14
     have H' := Aside0.mk H
     clear H
     try go_wp2
     have n0_ := Aside0.mk (blk_drew BK194.out)
     have n1_ := Aside0.mk (blk_drew BK195.out)
     have n2_ := Aside0.mk (below_drew1 HB.out)
     clear BK194
     clear BK195
     clear HB
     have BK194 := n0_
     have BK195 := n1_
     have HB := n2_
     clear n0_ n1_ n2_
     have p198 : 0 ≤ (x8_1 : Int) := of_decide_eq_true (by first | (with_reducible assumption) | assumption)
     have q198 : x8_1 < (l0.length : Int) := of_decide_eq_true (by first | (with_reducible assumption) | assumption)
     obtain ⟨ad198, e198, hx198_0, hx198_1, hx198_2, hx198_3, hx198_4, hx198_5, hx198_6, hx198_7⟩ := at_T44 HR0.out x8_1 p198 q198
     have hw198_7 := hx198_7
     have hw198_6 := hx198_6
     have hw198_5 := hx198_5
     have hw198_4 := hx198_4
     have hw198_3 := hx198_3
     have hw198_2 := hx198_2
     have hw198_1 := hx198_1
     have hw198_0 := hx198_0
     cases e198
     replace hx198_0 := (HB.out.cell (World.block_lt_of_cell? w _ hx198_0)).trans hx198_0
     replace hx198_1 := (HB.out.cell (World.block_lt_of_cell? w _ hx198_1)).trans hx198_1
     replace hx198_2 := (HB.out.cell (World.block_lt_of_cell? w _ hx198_2)).trans hx198_2
     replace hx198_3 := (HB.out.cell (World.block_lt_of_cell? w _ hx198_3)).trans hx198_3
     replace hx198_4 := (HB.out.cell (World.block_lt_of_cell? w _ hx198_4)).trans hx198_4
     replace hx198_5 := (HB.out.cell (World.block_lt_of_cell? w _ hx198_5)).trans hx198_5
     replace hx198_6 := (HB.out.cell (World.block_lt_of_cell? w _ hx198_6)).trans hx198_6
     replace hx198_7 := (HB.out.cell (World.block_lt_of_cell? w _ hx198_7)).trans hx198_7
     replace p198 := eq_true p198
     replace q198 := eq_true q198
     refine start_ (n := 10) (S := fun w' => w'.cell? ⟨gb195, 0, none⟩ = some (.int .i64 ba0) ∧ w'.cell? ⟨gb195, 1, none⟩ = some (.int .i64 ba1) ∧ w'.cell? (ad198.add ((x8_1).toNat * 8)) = some (.int .i64 ((rd_T44 l0 x8_1).f0)) ∧ w'.cell? ⟨(ad198.add ((x8_1).toNat * 8)).block, (ad198.add ((x8_1).toNat * 8)).off + 1, none⟩ = some (.int .i64 ((rd_T44 l0 x8_1).f1)) ∧ w'.cell? ⟨(ad198.add ((x8_1).toNat * 8)).block, (ad198.add ((x8_1).toNat * 8)).off + 2, none⟩ = some (.int .i64 ((rd_T44 l0 x8_1).f2)) ∧ w'.cell? ⟨(ad198.add ((x8_1).toNat * 8)).block, (ad198.add ((x8_1).toNat * 8)).off + 3, none⟩ = some (.int .i64 ((rd_T44 l0 x8_1).f3)) ∧ w'.cell? ⟨(ad198.add ((x8_1).toNat * 8)).block, (ad198.add ((x8_1).toNat * 8)).off + 4, none⟩ = some (.int .i64 ((rd_T44 l0 x8_1).f4)) ∧ w'.cell? ⟨(ad198.add ((x8_1).toNat * 8)).block, (ad198.add ((x8_1).toNat * 8)).off + 5, none⟩ = some (.int .i64 ((rd_T44 l0 x8_1).f5)) ∧ w'.cell? ⟨(ad198.add ((x8_1).toNat * 8)).block, (ad198.add ((x8_1).toNat * 8)).off + 6, none⟩ = some (.int .i64 ((rd_T44 l0 x8_1).f6)) ∧ w'.cell? ⟨(ad198.add ((x8_1).toNat * 8)).block, (ad198.add ((x8_1).toNat * 8)).off + 7, none⟩ = some (.bool ((rd_T44 l0 x8_1).f7))) (ds := [9]) #[false, false, false, false, false, false, false, false, false, false] (by kernel_rfl) rfl rfl ⟨(blk_cell BK195.out 0).trans rfl, (blk_cell BK195.out 1).trans rfl, ((HB.out.cell (World.block_lt_of_cell? w _ hw198_0)).trans hw198_0), ((HB.out.cell (World.block_lt_of_cell? w _ hw198_1)).trans hw198_1), ((HB.out.cell (World.block_lt_of_cell? w _ hw198_2)).trans hw198_2), ((HB.out.cell (World.block_lt_of_cell? w _ hw198_3)).trans hw198_3), ((HB.out.cell (World.block_lt_of_cell? w _ hw198_4)).trans hw198_4), ((HB.out.cell (World.block_lt_of_cell? w _ hw198_5)).trans hw198_5), ((HB.out.cell (World.block_lt_of_cell? w _ hw198_6)).trans hw198_6), ((HB.out.cell (World.block_lt_of_cell? w _ hw198_7)).trans hw198_7)⟩ (fun hHeld => ?_); refine with_tabW storagebarterref26_Room.tab6 storagebarterref26_Room.bits6 (fun HT_ HW_ => ?_)
     generalize wc.drew = w15 at BK194 BK195 HB hx198_0 hx198_1 hx198_2 hx198_3 hx198_4 hx198_5 hx198_6 hx198_7 hHeld ⊢
     refine pure_ (i := 0) (N := some 31) (v := ?_) (a' := ?_) #[true, false, false, false, false, false, false, false, false, false] rfl rfl (any_of HT_.out (by kernel_rfl)) (fun _ _ _ h => h) (Or.inl ⟨by rfl, ?_⟩) ?_ ?_
     rotate_left
     ·intro w'
      go_simp
      with_reducible rfl
     rotate_left
     ·simp only [Act.put, List.setIfInBounds_toArray, List.set_cons_zero, List.set_cons_succ, i64_w, i32_w]
      rfl
     refine pure_ (i := 2) (N := some 33) (v := ?_) (a' := ?_) #[true, false, true, false, false, false, false, false, false, false] rfl rfl (any_of HT_.out (by kernel_rfl)) (fun _ _ _ h => h) (Or.inl ⟨by rfl, ?_⟩) ?_ ?_
     rotate_left
     ·intro w'
      go_simp
      with_reducible rfl
     rotate_left
     ·simp only [Act.put, List.setIfInBounds_toArray, List.set_cons_zero, List.set_cons_succ, i64_w, i32_w]
      rfl
     refine pure_ (i := 3) (N := some 34) (v := ?_) (a' := ?_) #[true, false, true, true, false, false, false, false, false, false] rfl rfl (any_of HT_.out (by kernel_rfl)) (fun _ _ _ h => h) (Or.inl ⟨by rfl, ?_⟩) ?_ ?_
     rotate_left
     ·intro w'
      go_simp
      with_reducible rfl
     rotate_left
     ·simp only [Act.put, List.setIfInBounds_toArray, List.set_cons_zero, List.set_cons_succ, i64_w, i32_w]
      rfl
     refine pure_ (i := 4) (N := some 35) (v := ?_) (a' := ?_) #[true, false, true, true, true, false, false, false, false, false] rfl rfl (any_of HT_.out (by kernel_rfl)) (fun _ _ _ h => h) (Or.inl ⟨by rfl, ?_⟩) ?_ ?_
     rotate_left
     ·intro w'
      go_simp
      with_reducible rfl
     rotate_left
     ·simp only [Act.put, List.setIfInBounds_toArray, List.set_cons_zero, List.set_cons_succ, i64_w, i32_w]
      rfl
     refine pure_ (i := 5) (N := some 36) (v := ?_) (a' := ?_) #[true, false, true, true, true, true, false, false, false, false] rfl rfl (any_of HT_.out (by kernel_rfl)) (fun _ _ _ h => h) (Or.inl ⟨by rfl, ?_⟩) ?_ ?_
     rotate_left
     ·intro w'
      go_simp
      with_reducible rfl
     rotate_left
     ·simp only [Act.put, List.setIfInBounds_toArray, List.set_cons_zero, List.set_cons_succ, i64_w, i32_w]
      rfl
     refine take_ (i := 1) (N := some 32) (v := ?_) (a' := ?_) #[true, true, true, true, true, true, false, false, false, false] rfl rfl (take_ofW HT_.out HW_.out (by kernel_rfl)) (fun _ _ _ h => h) (Or.inl ⟨by rfl, ?_⟩) hHeld ?_ ?_
     rotate_left
     ·rintro w' ⟨s0, s1, s2, s3, s4, s5, s6, s7, s8, s9⟩
      go_simp
      with_reducible rfl
     rotate_left
     ·simp only [Act.put, List.setIfInBounds_toArray, List.set_cons_zero, List.set_cons_succ, i64_w, i32_w]
      rfl
     refine take_ (i := 6) (N := some 37) (v := ?_) (a' := ?_) #[true, true, true, true, true, true, true, false, false, false] rfl rfl (take_ofW HT_.out HW_.out (by kernel_rfl)) (fun _ _ _ h => h) (Or.inl ⟨by rfl, ?_⟩) hHeld ?_ ?_
     rotate_left
     ·rintro w' ⟨s0, s1, s2, s3, s4, s5, s6, s7, s8, s9⟩
      go_simp
      with_reducible rfl
     rotate_left
     ·simp only [Act.put, List.setIfInBounds_toArray, List.set_cons_zero, List.set_cons_succ, i64_w, i32_w]
      rfl
     refine pure_ (i := 7) (N := some 38) (v := ?_) (a' := ?_) #[true, true, true, true, true, true, true, true, false, false] rfl rfl (any_of HT_.out (by kernel_rfl)) (fun _ _ _ h => h) (Or.inl ⟨by rfl, ?_⟩) ?_ ?_
     rotate_left
     ·intro w'
      go_simp
      with_reducible rfl
     rotate_left
     ·simp only [Act.put, List.setIfInBounds_toArray, List.set_cons_zero, List.set_cons_succ, i64_w, i32_w]
      rfl
     refine pure_ (i := 8) (N := some 39) (v := ?_) (a' := ?_) #[true, true, true, true, true, true, true, true, true, false] rfl rfl (any_of HT_.out (by kernel_rfl)) (fun _ _ _ h => h) (Or.inl ⟨by rfl, ?_⟩) ?_ ?_
     rotate_left
     ·intro w'
      go_simp
      with_reducible rfl
     rotate_left
     ·simp only [Act.put, List.setIfInBounds_toArray, List.set_cons_zero, List.set_cons_succ, i64_w, i32_w]
      rfl
     refine last_ (i := 9) (N := none) #[true, true, true, true, true, true, true, true, true, true] rfl rfl (one_of HT_.out (by kernel_rfl)) (by decide) (fun K hK => ?_)
     have hs16 : w15.cell? ⟨gb195, 0, none⟩ = some (.int .i64 ba0) := (blk_cell BK195.out 0).trans rfl
     have hfs16 := blk_frozen BK195.out 0
     have hns16_0 := NB194_195.out
     have hms16_0 := NB195_194.out
     refine skip_ (w1 := ?_) (by rfl) rfl ?_ ?_
     rotate_left
     ·go_simp
      rfl
     refine hK.out _ _ ?_
     clear hK K
     refine done_ (done_of HT_.out (by kernel_rfl)) ?_
     have p199 : 0 ≤ (x8_1 : Int) := of_decide_eq_true (by first | (with_reducible assumption) | assumption)
     have q199 : x8_1 < (l0.length : Int) := of_decide_eq_true (by first | (with_reducible assumption) | assumption)
     obtain ⟨ad199, e199, hx199_0, hx199_1, hx199_2, hx199_3, hx199_4, hx199_5, hx199_6, hx199_7⟩ := at_T44 HR0.out x8_1 p199 q199
     obtain rfl : ad198 = ad199 := (by injection e199)
     have hn199_0 : ad198.block ≠ gb195 := Nat.ne_of_lt (Nat.lt_of_lt_of_le (by have := World.block_lt_of_cell? _ _ hx199_0; first | rwa [add_block] at this | exact this) GW195.out)
     replace hx199_0 := (HB.out.cell (World.block_lt_of_cell? w _ hx199_0)).trans hx199_0
     replace hx199_1 := (HB.out.cell (World.block_lt_of_cell? w _ hx199_1)).trans hx199_1
     replace hx199_2 := (HB.out.cell (World.block_lt_of_cell? w _ hx199_2)).trans hx199_2
     replace hx199_3 := (HB.out.cell (World.block_lt_of_cell? w _ hx199_3)).trans hx199_3
     replace hx199_4 := (HB.out.cell (World.block_lt_of_cell? w _ hx199_4)).trans hx199_4
     replace hx199_5 := (HB.out.cell (World.block_lt_of_cell? w _ hx199_5)).trans hx199_5
     replace hx199_6 := (HB.out.cell (World.block_lt_of_cell? w _ hx199_6)).trans hx199_6
     replace hx199_7 := (HB.out.cell (World.block_lt_of_cell? w _ hx199_7)).trans hx199_7
     replace hx199_0 := (cell_far (p := ⟨gb195, 0, none⟩) (by first | (rw [add_block]; exact hn199_0) | (show (Addr.add _ _).block ≠ _; rw [add_block]; exact hn199_0) | exact hn199_0) (.int .i64 (wrap64 (ba0 + ((rd_T44 l0 x8_1).f4))))).trans hx199_0
     replace hx199_1 := (cell_far (p := ⟨gb195, 0, none⟩) (by first | (rw [add_block]; exact hn199_0) | (show (Addr.add _ _).block ≠ _; rw [add_block]; exact hn199_0) | exact hn199_0) (.int .i64 (wrap64 (ba0 + ((rd_T44 l0 x8_1).f4))))).trans hx199_1
     replace hx199_2 := (cell_far (p := ⟨gb195, 0, none⟩) (by first | (rw [add_block]; exact hn199_0) | (show (Addr.add _ _).block ≠ _; rw [add_block]; exact hn199_0) | exact hn199_0) (.int .i64 (wrap64 (ba0 + ((rd_T44 l0 x8_1).f4))))).trans hx199_2
     replace hx199_3 := (cell_far (p := ⟨gb195, 0, none⟩) (by first | (rw [add_block]; exact hn199_0) | (show (Addr.add _ _).block ≠ _; rw [add_block]; exact hn199_0) | exact hn199_0) (.int .i64 (wrap64 (ba0 + ((rd_T44 l0 x8_1).f4))))).trans hx199_3
     replace hx199_4 := (cell_far (p := ⟨gb195, 0, none⟩) (by first | (rw [add_block]; exact hn199_0) | (show (Addr.add _ _).block ≠ _; rw [add_block]; exact hn199_0) | exact hn199_0) (.int .i64 (wrap64 (ba0 + ((rd_T44 l0 x8_1).f4))))).trans hx199_4
     replace hx199_5 := (cell_far (p := ⟨gb195, 0, none⟩) (by first | (rw [add_block]; exact hn199_0) | (show (Addr.add _ _).block ≠ _; rw [add_block]; exact hn199_0) | exact hn199_0) (.int .i64 (wrap64 (ba0 + ((rd_T44 l0 x8_1).f4))))).trans hx199_5
     replace hx199_6 := (cell_far (p := ⟨gb195, 0, none⟩) (by first | (rw [add_block]; exact hn199_0) | (show (Addr.add _ _).block ≠ _; rw [add_block]; exact hn199_0) | exact hn199_0) (.int .i64 (wrap64 (ba0 + ((rd_T44 l0 x8_1).f4))))).trans hx199_6
     replace hx199_7 := (cell_far (p := ⟨gb195, 0, none⟩) (by first | (rw [add_block]; exact hn199_0) | (show (Addr.add _ _).block ≠ _; rw [add_block]; exact hn199_0) | exact hn199_0) (.int .i64 (wrap64 (ba0 + ((rd_T44 l0 x8_1).f4))))).trans hx199_7
     clear hn199_0
     replace p199 := eq_true p199
     replace q199 := eq_true q199
     have p200 : 0 ≤ (x8_1 : Int) := of_decide_eq_true (by first | (with_reducible assumption) | assumption)
     have q200 : x8_1 < (l0.length : Int) := of_decide_eq_true (by first | (with_reducible assumption) | assumption)
     obtain ⟨ad200, e200, hx200_0, hx200_1, hx200_2, hx200_3, hx200_4, hx200_5, hx200_6, hx200_7⟩ := at_T44 HR0.out x8_1 p200 q200
     obtain rfl : ad198 = ad200 := (by injection e200)
     have hn200_0 : ad198.block ≠ gb195 := Nat.ne_of_lt (Nat.lt_of_lt_of_le (by have := World.block_lt_of_cell? _ _ hx200_0; first | rwa [add_block] at this | exact this) GW195.out)
     replace hx200_0 := (HB.out.cell (World.block_lt_of_cell? w _ hx200_0)).trans hx200_0
     replace hx200_1 := (HB.out.cell (World.block_lt_of_cell? w _ hx200_1)).trans hx200_1
     replace hx200_2 := (HB.out.cell (World.block_lt_of_cell? w _ hx200_2)).trans hx200_2
     replace hx200_3 := (HB.out.cell (World.block_lt_of_cell? w _ hx200_3)).trans hx200_3
     replace hx200_4 := (HB.out.cell (World.block_lt_of_cell? w _ hx200_4)).trans hx200_4
     replace hx200_5 := (HB.out.cell (World.block_lt_of_cell? w _ hx200_5)).trans hx200_5
     replace hx200_6 := (HB.out.cell (World.block_lt_of_cell? w _ hx200_6)).trans hx200_6
     replace hx200_7 := (HB.out.cell (World.block_lt_of_cell? w _ hx200_7)).trans hx200_7
     replace hx200_0 := (cell_far (p := ⟨gb195, 0, none⟩) (by first | (rw [add_block]; exact hn200_0) | (show (Addr.add _ _).block ≠ _; rw [add_block]; exact hn200_0) | exact hn200_0) (.int .i64 (wrap64 (ba0 + ((rd_T44 l0 x8_1).f4))))).trans hx200_0
     replace hx200_1 := (cell_far (p := ⟨gb195, 0, none⟩) (by first | (rw [add_block]; exact hn200_0) | (show (Addr.add _ _).block ≠ _; rw [add_block]; exact hn200_0) | exact hn200_0) (.int .i64 (wrap64 (ba0 + ((rd_T44 l0 x8_1).f4))))).trans hx200_1
     replace hx200_2 := (cell_far (p := ⟨gb195, 0, none⟩) (by first | (rw [add_block]; exact hn200_0) | (show (Addr.add _ _).block ≠ _; rw [add_block]; exact hn200_0) | exact hn200_0) (.int .i64 (wrap64 (ba0 + ((rd_T44 l0 x8_1).f4))))).trans hx200_2
     replace hx200_3 := (cell_far (p := ⟨gb195, 0, none⟩) (by first | (rw [add_block]; exact hn200_0) | (show (Addr.add _ _).block ≠ _; rw [add_block]; exact hn200_0) | exact hn200_0) (.int .i64 (wrap64 (ba0 + ((rd_T44 l0 x8_1).f4))))).trans hx200_3
     replace hx200_4 := (cell_far (p := ⟨gb195, 0, none⟩) (by first | (rw [add_block]; exact hn200_0) | (show (Addr.add _ _).block ≠ _; rw [add_block]; exact hn200_0) | exact hn200_0) (.int .i64 (wrap64 (ba0 + ((rd_T44 l0 x8_1).f4))))).trans hx200_4
     replace hx200_5 := (cell_far (p := ⟨gb195, 0, none⟩) (by first | (rw [add_block]; exact hn200_0) | (show (Addr.add _ _).block ≠ _; rw [add_block]; exact hn200_0) | exact hn200_0) (.int .i64 (wrap64 (ba0 + ((rd_T44 l0 x8_1).f4))))).trans hx200_5
     replace hx200_6 := (cell_far (p := ⟨gb195, 0, none⟩) (by first | (rw [add_block]; exact hn200_0) | (show (Addr.add _ _).block ≠ _; rw [add_block]; exact hn200_0) | exact hn200_0) (.int .i64 (wrap64 (ba0 + ((rd_T44 l0 x8_1).f4))))).trans hx200_6
     replace hx200_7 := (cell_far (p := ⟨gb195, 0, none⟩) (by first | (rw [add_block]; exact hn200_0) | (show (Addr.add _ _).block ≠ _; rw [add_block]; exact hn200_0) | exact hn200_0) (.int .i64 (wrap64 (ba0 + ((rd_T44 l0 x8_1).f4))))).trans hx200_7
     clear hn200_0
     replace p200 := eq_true p200
     replace q200 := eq_true q200
     try go_wp2
     have n0_ : Aside0 ((w15.setCell ⟨gb195, 0, none⟩ (.int .i64 (wrap64 (ba0 + ((rd_T44 l0 x8_1).f4))))).heap[gb194]? = some (.cells #[.int .i64 0, .int .i64 0] 39 (0, 0))) := ⟨by (with_reducible repeat (first | refine blk_drewN ?_ _ | refine blk_drew ?_ | refine blk_alloc ?_ _)); refine blk_far ?_ NB194_195.out _; exact bU30 BK194.out⟩
     have n1_ : Aside0 ((w15.setCell ⟨gb195, 0, none⟩ (.int .i64 (wrap64 (ba0 + ((rd_T44 l0 x8_1).f4))))).heap[gb195]? = some (.cells #[.int .i64 (wrap64 (ba0 + ((rd_T44 l0 x8_1).f4))), .int .i64 ba1] 39 (0, 0))) := ⟨by (with_reducible repeat (first | refine blk_drewN ?_ _ | refine blk_drew ?_ | refine blk_alloc ?_ _)); refine blk_put (cs := #[.int .i64 ba0, .int .i64 ba1]) ?_ 0 _ rfl; exact bU30 BK195.out⟩
     have n2_ : Aside0 (Below w.heap.size w (w15.setCell ⟨gb195, 0, none⟩ (.int .i64 (wrap64 (ba0 + ((rd_T44 l0 x8_1).f4)))))) := ⟨by repeat (first | (with_reducible first | exact HB.out | apply below_alloc | apply pw_below_drewN | apply below_drew1 | refine below_set ?_ (Aside0.out (by assumption))) | exact HB.out)⟩
     (try clear BK194)
     (try clear BK195)
     (try clear HB)
     generalize (w15.setCell ⟨gb195, 0, none⟩ (.int .i64 (wrap64 (ba0 + ((rd_T44 l0 x8_1).f4))))) = w17 at n0_ n1_ n2_ ⊢
     have BK194 := n0_
     have BK195 := n1_
     have HB := n2_
     clear n0_ n1_ n2_
     have n0_ := Aside0.mk (blk_drew BK194.out)
     have n1_ := Aside0.mk (blk_drew BK195.out)
     have n2_ := Aside0.mk (below_drew1 HB.out)
     clear BK194
     clear BK195
     clear HB
     have BK194 := n0_
     have BK195 := n1_
     have HB := n2_
     clear n0_ n1_ n2_
     have p201 : 0 ≤ (x8_1 : Int) := of_decide_eq_true (by first | (with_reducible assumption) | assumption)
     have q201 : x8_1 < (l0.length : Int) := of_decide_eq_true (by first | (with_reducible assumption) | assumption)
     obtain ⟨ad201, e201, hx201_0, hx201_1, hx201_2, hx201_3, hx201_4, hx201_5, hx201_6, hx201_7⟩ := at_T44 HR0.out x8_1 p201 q201
     have hw201_7 := hx201_7
     have hw201_6 := hx201_6
     have hw201_5 := hx201_5
     have hw201_4 := hx201_4
     have hw201_3 := hx201_3
     have hw201_2 := hx201_2
     have hw201_1 := hx201_1
     have hw201_0 := hx201_0
     obtain rfl : ad198 = ad201 := (by injection e201)
     replace hx201_0 := (HB.out.cell (World.block_lt_of_cell? w _ hx201_0)).trans hx201_0
     replace hx201_1 := (HB.out.cell (World.block_lt_of_cell? w _ hx201_1)).trans hx201_1
     replace hx201_2 := (HB.out.cell (World.block_lt_of_cell? w _ hx201_2)).trans hx201_2
     replace hx201_3 := (HB.out.cell (World.block_lt_of_cell? w _ hx201_3)).trans hx201_3
     replace hx201_4 := (HB.out.cell (World.block_lt_of_cell? w _ hx201_4)).trans hx201_4
     replace hx201_5 := (HB.out.cell (World.block_lt_of_cell? w _ hx201_5)).trans hx201_5
     replace hx201_6 := (HB.out.cell (World.block_lt_of_cell? w _ hx201_6)).trans hx201_6
     replace hx201_7 := (HB.out.cell (World.block_lt_of_cell? w _ hx201_7)).trans hx201_7
     replace p201 := eq_true p201
     replace q201 := eq_true q201
     refine start_ (n := 10) (S := fun w' => w'.cell? ⟨gb195, 0, none⟩ = some (.int .i64 (wrap64 (ba0 + ((rd_T44 l0 x8_1).f4)))) ∧ w'.cell? ⟨gb195, 1, none⟩ = some (.int .i64 ba1) ∧ w'.cell? (ad198.add ((x8_1).toNat * 8)) = some (.int .i64 ((rd_T44 l0 x8_1).f0)) ∧ w'.cell? ⟨(ad198.add ((x8_1).toNat * 8)).block, (ad198.add ((x8_1).toNat * 8)).off + 1, none⟩ = some (.int .i64 ((rd_T44 l0 x8_1).f1)) ∧ w'.cell? ⟨(ad198.add ((x8_1).toNat * 8)).block, (ad198.add ((x8_1).toNat * 8)).off + 2, none⟩ = some (.int .i64 ((rd_T44 l0 x8_1).f2)) ∧ w'.cell? ⟨(ad198.add ((x8_1).toNat * 8)).block, (ad198.add ((x8_1).toNat * 8)).off + 3, none⟩ = some (.int .i64 ((rd_T44 l0 x8_1).f3)) ∧ w'.cell? ⟨(ad198.add ((x8_1).toNat * 8)).block, (ad198.add ((x8_1).toNat * 8)).off + 4, none⟩ = some (.int .i64 ((rd_T44 l0 x8_1).f4)) ∧ w'.cell? ⟨(ad198.add ((x8_1).toNat * 8)).block, (ad198.add ((x8_1).toNat * 8)).off + 5, none⟩ = some (.int .i64 ((rd_T44 l0 x8_1).f5)) ∧ w'.cell? ⟨(ad198.add ((x8_1).toNat * 8)).block, (ad198.add ((x8_1).toNat * 8)).off + 6, none⟩ = some (.int .i64 ((rd_T44 l0 x8_1).f6)) ∧ w'.cell? ⟨(ad198.add ((x8_1).toNat * 8)).block, (ad198.add ((x8_1).toNat * 8)).off + 7, none⟩ = some (.bool ((rd_T44 l0 x8_1).f7))) (ds := [9]) #[false, false, false, false, false, false, false, false, false, false] (by kernel_rfl) rfl rfl ⟨(blk_cell BK195.out 0).trans rfl, (blk_cell BK195.out 1).trans rfl, ((HB.out.cell (World.block_lt_of_cell? w _ hw201_0)).trans hw201_0), ((HB.out.cell (World.block_lt_of_cell? w _ hw201_1)).trans hw201_1), ((HB.out.cell (World.block_lt_of_cell? w _ hw201_2)).trans hw201_2), ((HB.out.cell (World.block_lt_of_cell? w _ hw201_3)).trans hw201_3), ((HB.out.cell (World.block_lt_of_cell? w _ hw201_4)).trans hw201_4), ((HB.out.cell (World.block_lt_of_cell? w _ hw201_5)).trans hw201_5), ((HB.out.cell (World.block_lt_of_cell? w _ hw201_6)).trans hw201_6), ((HB.out.cell (World.block_lt_of_cell? w _ hw201_7)).trans hw201_7)⟩ (fun hHeld => ?_); refine with_tabW storagebarterref26_Room.tab8 storagebarterref26_Room.bits8 (fun HT_ HW_ => ?_)
     generalize w17.drew = w18 at BK194 BK195 HB hx201_0 hx201_1 hx201_2 hx201_3 hx201_4 hx201_5 hx201_6 hx201_7 hHeld ⊢
     refine pure_ (i := 0) (N := some 56) (v := ?_) (a' := ?_) #[true, false, false, false, false, false, false, false, false, false] rfl rfl (any_of HT_.out (by kernel_rfl)) (fun _ _ _ h => h) (Or.inl ⟨by rfl, ?_⟩) ?_ ?_
     rotate_left
     ·intro w'
      go_simp
      with_reducible rfl
     rotate_left
     ·simp only [Act.put, List.setIfInBounds_toArray, List.set_cons_zero, List.set_cons_succ, i64_w, i32_w]
      rfl
     refine pure_ (i := 2) (N := some 58) (v := ?_) (a' := ?_) #[true, false, true, false, false, false, false, false, false, false] rfl rfl (any_of HT_.out (by kernel_rfl)) (fun _ _ _ h => h) (Or.inl ⟨by rfl, ?_⟩) ?_ ?_
     rotate_left
     ·intro w'
      go_simp
      with_reducible rfl
     rotate_left
     ·simp only [Act.put, List.setIfInBounds_toArray, List.set_cons_zero, List.set_cons_succ, i64_w, i32_w]
      rfl
     refine pure_ (i := 3) (N := some 59) (v := ?_) (a' := ?_) #[true, false, true, true, false, false, false, false, false, false] rfl rfl (any_of HT_.out (by kernel_rfl)) (fun _ _ _ h => h) (Or.inl ⟨by rfl, ?_⟩) ?_ ?_
     rotate_left
     ·intro w'
      go_simp
      with_reducible rfl
     rotate_left
     ·simp only [Act.put, List.setIfInBounds_toArray, List.set_cons_zero, List.set_cons_succ, i64_w, i32_w]
      rfl
     refine pure_ (i := 4) (N := some 60) (v := ?_) (a' := ?_) #[true, false, true, true, true, false, false, false, false, false] rfl rfl (any_of HT_.out (by kernel_rfl)) (fun _ _ _ h => h) (Or.inl ⟨by rfl, ?_⟩) ?_ ?_
     rotate_left
     ·intro w'
      go_simp
      with_reducible rfl
     rotate_left
     ·simp only [Act.put, List.setIfInBounds_toArray, List.set_cons_zero, List.set_cons_succ, i64_w, i32_w]
      rfl
     refine pure_ (i := 5) (N := some 61) (v := ?_) (a' := ?_) #[true, false, true, true, true, true, false, false, false, false] rfl rfl (any_of HT_.out (by kernel_rfl)) (fun _ _ _ h => h) (Or.inl ⟨by rfl, ?_⟩) ?_ ?_
     rotate_left
     ·intro w'
      go_simp
      with_reducible rfl
     rotate_left
     ·simp only [Act.put, List.setIfInBounds_toArray, List.set_cons_zero, List.set_cons_succ, i64_w, i32_w]
      rfl
     refine take_ (i := 1) (N := some 57) (v := ?_) (a' := ?_) #[true, true, true, true, true, true, false, false, false, false] rfl rfl (take_ofW HT_.out HW_.out (by kernel_rfl)) (fun _ _ _ h => h) (Or.inl ⟨by rfl, ?_⟩) hHeld ?_ ?_
     rotate_left
     ·rintro w' ⟨s0, s1, s2, s3, s4, s5, s6, s7, s8, s9⟩
      go_simp
      with_reducible rfl
     rotate_left
     ·simp only [Act.put, List.setIfInBounds_toArray, List.set_cons_zero, List.set_cons_succ, i64_w, i32_w]
      rfl
     refine take_ (i := 6) (N := some 62) (v := ?_) (a' := ?_) #[true, true, true, true, true, true, true, false, false, false] rfl rfl (take_ofW HT_.out HW_.out (by kernel_rfl)) (fun _ _ _ h => h) (Or.inl ⟨by rfl, ?_⟩) hHeld ?_ ?_
     rotate_left
     ·rintro w' ⟨s0, s1, s2, s3, s4, s5, s6, s7, s8, s9⟩
      go_simp
      with_reducible rfl
     rotate_left
     ·simp only [Act.put, List.setIfInBounds_toArray, List.set_cons_zero, List.set_cons_succ, i64_w, i32_w]
      rfl
     refine pure_ (i := 7) (N := some 63) (v := ?_) (a' := ?_) #[true, true, true, true, true, true, true, true, false, false] rfl rfl (any_of HT_.out (by kernel_rfl)) (fun _ _ _ h => h) (Or.inl ⟨by rfl, ?_⟩) ?_ ?_
     rotate_left
     ·intro w'
      go_simp
      with_reducible rfl
     rotate_left
     ·simp only [Act.put, List.setIfInBounds_toArray, List.set_cons_zero, List.set_cons_succ, i64_w, i32_w]
      rfl
     refine pure_ (i := 8) (N := some 64) (v := ?_) (a' := ?_) #[true, true, true, true, true, true, true, true, true, false] rfl rfl (any_of HT_.out (by kernel_rfl)) (fun _ _ _ h => h) (Or.inl ⟨by rfl, ?_⟩) ?_ ?_
     rotate_left
     ·intro w'
      go_simp
      with_reducible rfl
     rotate_left
     ·simp only [Act.put, List.setIfInBounds_toArray, List.set_cons_zero, List.set_cons_succ, i64_w, i32_w]
      rfl
     refine last_ (i := 9) (N := none) #[true, true, true, true, true, true, true, true, true, true] rfl rfl (one_of HT_.out (by kernel_rfl)) (by decide) (fun K hK => ?_)
     have hs19 : w18.cell? ⟨gb195, 1, none⟩ = some (.int .i64 ba1) := (blk_cell BK195.out 1).trans rfl
     have hfs19 := blk_frozen BK195.out 1
     have hns19_0 := NB194_195.out
     have hms19_0 := NB195_194.out
     refine skip_ (w1 := ?_) (by rfl) rfl ?_ ?_
     rotate_left
     ·go_simp
      rfl
     refine hK.out _ _ ?_
     clear hK K
     refine done_ (done_of HT_.out (by kernel_rfl)) ?_
     try go_wp2
     go_roundg kj6
     case measure => have := HK1.out; have := HJ6.out; omega
     case rel => exact ⟨(wrap64 (x8_1 + 1)), (wrap64 (ba0 + ((rd_T44 l0 x8_1).f4))), (wrap64 (ba1 + ((rd_T44 l0 x8_1).f4))), (by first | rfl | (simp; done) | (simp [*]; done)), H', ⟨by have := HK1.out; have := HJ6.out; omega⟩, ⟨by (with_reducible repeat (first | refine blk_drewN ?_ _ | refine blk_drew ?_ | refine blk_alloc ?_ _)); refine blk_far ?_ NB194_195.out _; exact bU30 BK194.out⟩, ⟨by (with_reducible repeat (first | refine blk_drewN ?_ _ | refine blk_drew ?_ | refine blk_alloc ?_ _)); refine blk_put (cs := #[.int .i64 (wrap64 (ba0 + ((rd_T44 l0 x8_1).f4))), .int .i64 ba1]) ?_ 1 _ rfl; exact bU30 BK195.out⟩, ⟨by repeat (first | (with_reducible first | exact HB.out | apply below_alloc | apply pw_below_drewN | apply below_drew1 | refine below_set ?_ (Aside0.out (by assumption))) | exact HB.out)⟩⟩end Go.Proofs.Ytepffabkcbfejaa.PEndingSteps
