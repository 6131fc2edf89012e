-- Written by a program of this repository (wip/tools/myprint.py over the print of the kit): contracts and rows.
import Derived.Test.YtdflpnfceajomaaDoorPDeviationStepsx0
import Derived.Test.YtdflpnfceajomaaDoorPDeviationStepsx2
import Derived.Test.YtdflpnfceajomaaDoorPDeviationStepsx3
import Derived.Test.YtdflpnfceajomaaDoorPDeviationStepsx7
namespace Go.Proofs.YtdflpnfceajomaaDoor.PDeviationSteps
open Go.RowKit Go.Proofs.YtdflpnfceajomaaDoorW.PrintWords Go.Proofs.YtdflpnfceajomaaDoorW.PrintLast Go.Proofs.YtdflpnfceajomaaDoorW.PrintMore
attribute [local go_sem] max2_int min2_int max_two min_two max_three min_three max_four min_four   -- for this text's walks alone
set_option linter.unusedVariables false
set_option linter.unusedSimpArgs false

/-! ### storagebarterplay_Dice_Deviation: function 17 -/
mutual
def storagebarterplay_Dice_Deviation.l0 : Nat → List Int → Int → Int → List Int → Int → Int → List (S51) → Option (Int × (List (S51)) × Int)
  | 0, _, _, _, _, _, _, _ => none
  | k + 1, x10, x11, x12, x1000, x1001, x271000, x271001 => if x12 > 0 then (storagebarterplay_Dice_Deviation.j1 k x10 x11 x12 (decide (x11 < (x10.length : Int))) x1000 x1001 x271000 x271001) else (storagebarterplay_Dice_Deviation.j1 k x10 x11 x12 false x1000 x1001 x271000 x271001)
def storagebarterplay_Dice_Deviation.j1 : Nat → List Int → Int → Int → Bool → List Int → Int → Int → List (S51) → Option (Int × (List (S51)) × Int)
  | 0, _, _, _, _, _, _, _, _ => none
  | k + 1, x10, x11, x12, x29, x1000, x1001, x271000, x271001 => if x29 = true then ((storagebarterplay_Dice_Pick.f x1000 x1001 (wrap64 ((x10.length : Int) - x11))).bind fun bt276 => (if 0 ≤ (wrap64 (x11 + bt276.1)) then (if (wrap64 (x11 + bt276.1)) < (x10.length : Int) then ((storagebarterplay_Dice_Pick.f x1000 bt276.2 3).bind fun bt279 => (if x271001.length < 8796093022208 then (storagebarterplay_Dice_Deviation.l0 k x10 (wrap64 ((wrap64 (x11 + bt276.1)) + 1)) (wrap64 (x12 - 1)) x1000 bt279.2 x271000 (x271001 ++ [(⟨rd x10 (wrap64 (x11 + bt276.1)), wrap64 (1 + bt279.1)⟩ : S51)])) else (none))) else (none)) else (none))) else (some (x271000, x271001, x1001))
end
def storagebarterplay_Dice_Deviation.f (k : Nat) (s0_0 : List Int) (s0_1 : Int) (l1 : List (S56)) (a2 : Int) (a3 : Int) : Option (Int × (List (S51)) × Int) := (storagebarterref28_Of.f k l1 a2).bind fun t271 => ((storagebarterplay_Dice_Pick.f s0_0 s0_1 (wrap64 (a3 + 1))).bind fun bt274 => (storagebarterplay_Dice_Deviation.l0 k t271 0 bt274.1 s0_0 bt274.2 a2 ([] : List (S51))))
theorem storagebarterplay_Dice_Deviation.mono_l : ∀ k, (∀ y0 y1 y2 y3 y4 y5 y6, LeO (storagebarterplay_Dice_Deviation.l0 k y0 y1 y2 y3 y4 y5 y6) (storagebarterplay_Dice_Deviation.l0 (k + 1) y0 y1 y2 y3 y4 y5 y6)) ∧ (∀ y0 y1 y2 y3 y4 y5 y6 y7, LeO (storagebarterplay_Dice_Deviation.j1 k y0 y1 y2 y3 y4 y5 y6 y7) (storagebarterplay_Dice_Deviation.j1 (k + 1) y0 y1 y2 y3 y4 y5 y6 y7))
  | 0 => ⟨fun _ _ _ _ _ _ _ r h => by simp [storagebarterplay_Dice_Deviation.l0] at h, fun _ _ _ _ _ _ _ _ r h => by simp [storagebarterplay_Dice_Deviation.j1] at h⟩
  | k + 1 => by
    obtain ⟨ih0, ih1⟩ := storagebarterplay_Dice_Deviation.mono_l k
    refine ⟨?_, ?_⟩
    · intro y0 y1 y2 y3 y4 y5 y6
      unfold storagebarterplay_Dice_Deviation.l0
      repeat' first
      | (with_reducible exact ih0 _ _ _ _ _ _ _)
      | (with_reducible exact ih1 _ _ _ _ _ _ _ _)
      | (with_reducible exact storagebarterref28_Of.mono _ _ _)
      | (with_reducible exact LeO.refl _)
      | (with_reducible exact LeO.none _)
      | (with_reducible refine LeO.ite ?_ ?_)
      | (with_reducible refine LeO.bind ?_ (fun _ => ?_))
      | exact ih0 _ _ _ _ _ _ _
      | exact ih1 _ _ _ _ _ _ _ _
      | exact storagebarterref28_Of.mono _ _ _
      | exact LeO.none _
      | refine LeO.ite ?_ ?_
      | refine LeO.bind ?_ (fun _ => ?_)
    · intro y0 y1 y2 y3 y4 y5 y6 y7
      unfold storagebarterplay_Dice_Deviation.j1
      repeat' first
      | (with_reducible exact ih0 _ _ _ _ _ _ _)
      | (with_reducible exact ih1 _ _ _ _ _ _ _ _)
      | (with_reducible exact storagebarterref28_Of.mono _ _ _)
      | (with_reducible exact LeO.refl _)
      | (with_reducible exact LeO.none _)
      | (with_reducible refine LeO.ite ?_ ?_)
      | (with_reducible refine LeO.bind ?_ (fun _ => ?_))
      | exact ih0 _ _ _ _ _ _ _
      | exact ih1 _ _ _ _ _ _ _ _
      | exact storagebarterref28_Of.mono _ _ _
      | exact LeO.none _
      | refine LeO.ite ?_ ?_
      | refine LeO.bind ?_ (fun _ => ?_)
theorem storagebarterplay_Dice_Deviation.mono : ∀ a0 a1 a2 a3 a4 k, LeO (storagebarterplay_Dice_Deviation.f k a0 a1 a2 a3 a4) (storagebarterplay_Dice_Deviation.f (k + 1) a0 a1 a2 a3 a4) := by
  intro a0 a1 a2 a3 a4 k
  obtain ⟨ih0, ih1⟩ := storagebarterplay_Dice_Deviation.mono_l k
  unfold storagebarterplay_Dice_Deviation.f
  repeat' first
      | (with_reducible exact ih0 _ _ _ _ _ _ _)
      | (with_reducible exact ih1 _ _ _ _ _ _ _ _)
      | (with_reducible exact storagebarterref28_Of.mono _ _ _)
      | (with_reducible exact LeO.refl _)
      | (with_reducible exact LeO.none _)
      | (with_reducible refine LeO.ite ?_ ?_)
      | (with_reducible refine LeO.bind ?_ (fun _ => ?_))
      | exact ih0 _ _ _ _ _ _ _
      | exact ih1 _ _ _ _ _ _ _ _
      | exact storagebarterref28_Of.mono _ _ _
      | exact LeO.none _
      | refine LeO.ite ?_ ?_
      | refine LeO.bind ?_ (fun _ => ?_)
def storagebarterplay_Dice_Deviation.T8 : Bool × List (List Nat × List Nat) := (true, [([], []), ([0], [0]), ([], []), ([], []), ([2, 3], [2, 3]), ([4], [4]), ([], []), ([6], [6]), ([7], [7]), ([5, 8], [5, 8]), ([9], [9]), ([1, 10, 7], [1, 10]), ([0, 1, 2, 3, 4, 5, 6, 7, 8, 9, 10, 11], []), ([12, 11, 11, 0, 1, 2, 3, 4, 5, 6, 7, 8, 9, 10, 11], [11, 12])])
def storagebarterplay_Dice_Deviation.B8 : List Nat := [0, 1, 0, 0, 12, 28, 0, 64, 192, 508, 1020, 2047, 4095, 8191]
theorem storagebarterplay_Dice_Deviation.tab8 : rtab .any (opsOf Tryd.f17 8) = storagebarterplay_Dice_Deviation.T8 := by kernel_rfl
theorem storagebarterplay_Dice_Deviation.bits8 : waitsOk storagebarterplay_Dice_Deviation.T8.2 storagebarterplay_Dice_Deviation.B8 = true := by kernel_rfl
set_option maxHeartbeats 60000000 in
set_option maxRecDepth 100000 in
theorem storagebarterplay_Dice_Deviation.calls (k : Nat) (g : Nat) (s0_0 : List Int) (s0_1 : Int) (A1 : Option Addr) (c1 : Nat) (l1 : List (S56)) (a2 : Int) (a3 : Int) (r1 : Int) (r2 : List (S51)) (r3 : Int) (w0 w : World) (hI : IsS58 w0 w g s0_0 s0_1) (hB : Below w0.heap.size w0 w) (hr1 : ∀ W_, KeepBut w W_ g none → Kd.C k56 W_ A1 l1.length l1) (hc1 : l1.length ≤ c1) (h : storagebarterplay_Dice_Deviation.f k s0_0 s0_1 l1 a2 a3 = some (r1, r2, r3)) :
    Calls Tryd.prog 17 #[.pointer (some ⟨g, 0, none⟩), .slice A1 l1.length c1, .int .i64 a2, .int .i64 a3] w fun e w' => ∃ v1_ : Value, e = .returned (.agg #[.int .i64 r1, v1_]) ∧ Kd.R k51 51 w' w.heap.size (fun _ => True) v1_ r2 ∧ IsS58 w0 w' g s0_0 r3 ∧ Below w0.heap.size w0 w' ∧ KeepBut w w' g none := by
  have hu39 := Tryd.underlying39
  have hu51 := Tryd.underlying51
  have HR1 := Aside0.mk hr1
  have HC1 := Aside0.mk hc1
  clear hr1 hc1
  have HI0 := Aside0.mk hI
  have HK := Aside0.mk (KeepBut.refl w g none)
  have HL := Aside0.mk hB.size
  clear hI
  have HW0 := Aside0.mk hB.size
  have HB := Aside0.mk hB
  clear hB
  have H : ((storagebarterref28_Of.f k l1 a2).bind fun t271 => ((storagebarterplay_Dice_Pick.f s0_0 s0_1 (wrap64 (a3 + 1))).bind fun bt274 => (storagebarterplay_Dice_Deviation.l0 k t271 0 bt274.1 s0_0 bt274.2 a2 ([] : List (S51))))) = some (r1, r2, r3) := h
  clear h
  replace H := Option.bind_eq_some_iff.mp H
  obtain ⟨t271, A50, H⟩ := H
  replace H : ((storagebarterplay_Dice_Pick.f s0_0 s0_1 (wrap64 (a3 + 1))).bind fun bt274 => (storagebarterplay_Dice_Deviation.l0 k t271 0 bt274.1 s0_0 bt274.2 a2 ([] : List (S51)))) = some (r1, r2, r3) := H
  have A5 := Aside0.mk A50
  clear A50
  replace H := Option.bind_eq_some_iff.mp H
  obtain ⟨⟨t274, t275⟩, A60, H⟩ := H
  replace H : (storagebarterplay_Dice_Deviation.l0 k t271 0 t274 s0_0 t275 a2 ([] : List (S51))) = some (r1, r2, r3) := H
  have A6 := Aside0.mk A60
  clear A60
  have H' := Aside0.mk H
  clear H
  go_enter Tryd.func17, Tryd.ntmps17
  go_wp2_with (first | ((with_reducible refine gate_dst (N := 8) rfl ?_); (try (refine gate_guard (by rfl) ?_; dsimp only)); refine box_event ?hg (N := 8) ?hd (cs := #[.int .i64 0, .slice none 0 0]) (t := 39) ?hr ?_; (case hd => rfl); (case hg => rfl); (case hr => first | (go_simp; done) | (go_simp; rfl)); intro gb269 hg w7 hbox hb; have n0_ := Aside0.mk (IsS58.below (by repeat (first | (with_reducible first | exact HI0.out | apply IsS58.alloc | apply IsS58.drewN | apply IsS58.drew | apply IsS58.set_1) | exact HI0.out)) hb); have n1_ := Aside0.mk (KeepBut.trans (by repeat (first | (with_reducible first | exact HK.out | apply KeepBut.set_ | apply keep_drewN | apply keep_drew | apply keep_alloc) | exact HK.out)) (KeepBut.of_below hb g none) (.inl rfl)); have n2_ := Aside0.mk (below_step (by repeat (first | (with_reducible first | exact HB.out | apply below_alloc | apply pw_below_drewN | apply below_drew1 | refine below_set ?_ (IsS58.ge HI0.out)) | exact HB.out)) hb); have n3_ := Aside0.mk (hbox); have n4_ := Aside0.mk ((by rw [hg]; exact (keep_size (w := w) (g := g) (row := none) (by repeat (first | (with_reducible first | exact HK.out | apply KeepBut.set_ | apply keep_drewN | apply keep_drew | apply keep_alloc) | exact HK.out))) : w.heap.size ≤ gb269)); have n5_ := Aside0.mk ((Nat.le_trans HW0.out (by rw [hg]; exact (keep_size (w := w) (g := g) (row := none) (by repeat (first | (with_reducible first | exact HK.out | apply KeepBut.set_ | apply keep_drewN | apply keep_drew | apply keep_alloc) | exact HK.out))) : w.heap.size ≤ gb269) : w0.heap.size ≤ gb269)); have n6_ := Aside0.mk ((by rw [hg]; exact Nat.ne_of_lt (IsS58.lt (show IsS58 w0 _ g s0_0 s0_1 from by repeat (first | (with_reducible first | exact HI0.out | apply IsS58.alloc | apply IsS58.drewN | apply IsS58.drew | apply IsS58.set_1) | exact HI0.out))) : g ≠ gb269)); have n7_ := Aside0.mk ((by rw [hg]; exact Nat.ne_of_gt (IsS58.lt (show IsS58 w0 _ g s0_0 s0_1 from by repeat (first | (with_reducible first | exact HI0.out | apply IsS58.alloc | apply IsS58.drewN | apply IsS58.drew | apply IsS58.set_1) | exact HI0.out))) : gb269 ≠ g)); clear HI0; clear HK; clear HB; have HI0 := n0_; have HK := n1_; have HB := n2_; have BK269 := n3_; have GW269 := n4_; have GE269 := n5_; have NB0_269 := n6_; have NB269_0 := n7_; clear n0_ n1_ n2_ n3_ n4_ n5_ n6_ n7_; clear hb hbox hg) | ((with_reducible refine gate_dst (N := 9) rfl ?_); (try (refine gate_guard (by rfl) ?_; dsimp only)); refine box_event ?hg (N := 9) ?hd (cs := #[.int .i64 0, .slice none 0 0]) (t := 39) ?hr ?_; (case hd => rfl); (case hg => rfl); (case hr => first | (go_simp; done) | (go_simp; rfl)); intro gb270 hg w8 hbox hb; have n0_ := Aside0.mk (IsS58.below (by repeat (first | (with_reducible first | exact HI0.out | apply IsS58.alloc | apply IsS58.drewN | apply IsS58.drew | apply IsS58.set_1 | refine IsS58.far ?_ NB0_269.out _) | exact HI0.out)) hb); have n1_ := Aside0.mk (blk_below (g := gb269) (o := .cells #[.int .i64 0, .slice none 0 0] 39 (0, 0)) (by (with_reducible repeat (first | refine blk_drewN ?_ _ | refine blk_drew ?_ | refine blk_alloc ?_ _)); exact BK269.out) hb); have n2_ := Aside0.mk (KeepBut.trans (by repeat (first | (with_reducible first | exact HK.out | apply KeepBut.set_ | apply keep_drewN | apply keep_drew | apply keep_alloc | refine keep_far ?_ GW269.out _) | exact HK.out)) (KeepBut.of_below hb g none) (.inl rfl)); have n3_ := Aside0.mk (below_step (by repeat (first | (with_reducible first | exact HB.out | apply below_alloc | apply pw_below_drewN | apply below_drew1 | refine below_set ?_ (IsS58.ge HI0.out) | refine below_set ?_ GE269.out) | exact HB.out)) hb); have n4_ := Aside0.mk (hbox); have n5_ := Aside0.mk ((by rw [hg]; exact (keep_size (w := w) (g := g) (row := none) (by repeat (first | (with_reducible first | exact HK.out | apply KeepBut.set_ | apply keep_drewN | apply keep_drew | apply keep_alloc | refine keep_far ?_ GW269.out _) | exact HK.out))) : w.heap.size ≤ gb270)); have n6_ := Aside0.mk ((Nat.le_trans HW0.out (by rw [hg]; exact (keep_size (w := w) (g := g) (row := none) (by repeat (first | (with_reducible first | exact HK.out | apply KeepBut.set_ | apply keep_drewN | apply keep_drew | apply keep_alloc | refine keep_far ?_ GW269.out _) | exact HK.out))) : w.heap.size ≤ gb270) : w0.heap.size ≤ gb270)); have n7_ := Aside0.mk ((by rw [hg]; exact Nat.ne_of_lt (blk_lt (g := gb269) (o := .cells #[.int .i64 0, .slice none 0 0] 39 (0, 0)) (by (with_reducible repeat (first | refine blk_drewN ?_ _ | refine blk_drew ?_ | refine blk_alloc ?_ _)); exact BK269.out)) : gb269 ≠ gb270)); have n8_ := Aside0.mk ((by rw [hg]; exact Nat.ne_of_gt (blk_lt (g := gb269) (o := .cells #[.int .i64 0, .slice none 0 0] 39 (0, 0)) (by (with_reducible repeat (first | refine blk_drewN ?_ _ | refine blk_drew ?_ | refine blk_alloc ?_ _)); exact BK269.out)) : gb270 ≠ gb269)); have n9_ := Aside0.mk ((by rw [hg]; exact Nat.ne_of_lt (IsS58.lt (show IsS58 w0 _ g s0_0 s0_1 from by repeat (first | (with_reducible first | exact HI0.out | apply IsS58.alloc | apply IsS58.drewN | apply IsS58.drew | apply IsS58.set_1 | refine IsS58.far ?_ NB0_269.out _) | exact HI0.out))) : g ≠ gb270)); have n10_ := Aside0.mk ((by rw [hg]; exact Nat.ne_of_gt (IsS58.lt (show IsS58 w0 _ g s0_0 s0_1 from by repeat (first | (with_reducible first | exact HI0.out | apply IsS58.alloc | apply IsS58.drewN | apply IsS58.drew | apply IsS58.set_1 | refine IsS58.far ?_ NB0_269.out _) | exact HI0.out))) : gb270 ≠ g)); clear HI0; clear BK269; clear HK; clear HB; have HI0 := n0_; have BK269 := n1_; have HK := n2_; have HB := n3_; have BK270 := n4_; have GW270 := n5_; have GE270 := n6_; have NB269_270 := n7_; have NB270_269 := n8_; have NB0_270 := n9_; have NB270_0 := n10_; clear n0_ n1_ n2_ n3_ n4_ n5_ n6_ n7_ n8_ n9_ n10_; clear hb hbox hg; have hnb9 := NB270_269.out; have hnc9 := NB269_270.out; have hnb10 := NB270_0.out; have hnc10 := NB0_270.out; have hcz11_0 : w8.cell? ⟨gb270, 0, none⟩ = some (.int .i64 0) := (blk_cell BK270.out 0).trans rfl; have hcz11_1 : w8.cell? ⟨gb270, 1, none⟩ = some (.slice none 0 0) := (blk_cell BK270.out 1).trans rfl; have hfz11_0 := blk_frozen BK270.out 0; have hfz11_1 := blk_frozen BK270.out 1) | ((with_reducible refine gate_callee (f := 16) rfl ?_); refine goesL_ (some 17) rfl rfl Tryd.func16 (by kernel_rfl) rfl #[.slice A1 l1.length c1, .int .i64 a2] rfl (by (try simp only [List.map_toArray, List.map_cons, List.map_nil]); first | done | rfl | (simp only [List.length_drop, List.length_take]; rfl)) ?_; (with_reducible refine (storagebarterref28_Of.calls k _ _ l1 a2 t271 _ ?side1 ?side2 A5.out).mono ?_); (case side1 => exact Kd.C_foot_now HR1.out (by repeat (first | (with_reducible first | exact HK.out | apply KeepBut.set_ | apply keep_drewN | apply keep_drew | apply keep_alloc | refine keep_far ?_ GW269.out _ | refine keep_far ?_ GW270.out _) | exact HK.out))); (case side2 => exact HC1.out); rintro e w12 ⟨v272, rfl, ho0, hb⟩; refine ⟨_, rfl, ?_⟩; have n0_ := Aside0.mk (Kd.R_lower ho0 (keep_size (w := w) (g := g) (row := none) (by repeat (first | (with_reducible first | exact HK.out | apply KeepBut.set_ | apply keep_drewN | apply keep_drew | apply keep_alloc | refine keep_far ?_ GW269.out _ | refine keep_far ?_ GW270.out _) | exact HK.out)))); have n1_ := Aside0.mk (IsS58.below (show IsS58 w0 ((w8.setCell ⟨gb270, 0, none⟩ (.int .i64 a2)).setCell ⟨gb270, 1, none⟩ (.slice none 0 0)) g s0_0 s0_1 from by repeat (first | (with_reducible first | exact HI0.out | apply IsS58.alloc | apply IsS58.drewN | apply IsS58.drew | apply IsS58.set_1 | refine IsS58.far ?_ NB0_269.out _ | refine IsS58.far ?_ NB0_270.out _) | exact HI0.out)) hb); have n2_ := Aside0.mk (blk_below (g := gb269) (o := .cells #[.int .i64 0, .slice none 0 0] 39 (0, 0)) (by (with_reducible repeat (first | refine blk_drewN ?_ _ | refine blk_drew ?_ | refine blk_alloc ?_ _)); refine blk_far ?_ NB269_270.out _; (with_reducible repeat (first | refine blk_drewN ?_ _ | refine blk_drew ?_ | refine blk_alloc ?_ _)); refine blk_far ?_ NB269_270.out _; (with_reducible repeat (first | refine blk_drewN ?_ _ | refine blk_drew ?_ | refine blk_alloc ?_ _)); exact BK269.out) hb); have n3_ := Aside0.mk (blk_below (g := gb270) (o := .cells #[.int .i64 a2, .slice none 0 0] 39 (0, 0)) (by (with_reducible repeat (first | refine blk_drewN ?_ _ | refine blk_drew ?_ | refine blk_alloc ?_ _)); refine blk_put (cs := #[.int .i64 a2, .slice none 0 0]) ?_ 1 _ rfl; (with_reducible repeat (first | refine blk_drewN ?_ _ | refine blk_drew ?_ | refine blk_alloc ?_ _)); refine blk_put (cs := #[.int .i64 0, .slice none 0 0]) ?_ 0 _ rfl; (with_reducible repeat (first | refine blk_drewN ?_ _ | refine blk_drew ?_ | refine blk_alloc ?_ _)); exact BK270.out) hb); have n4_ := Aside0.mk (KeepBut.trans (by repeat (first | (with_reducible first | exact HK.out | apply KeepBut.set_ | apply keep_drewN | apply keep_drew | apply keep_alloc | refine keep_far ?_ GW269.out _ | refine keep_far ?_ GW270.out _) | exact HK.out)) (KeepBut.of_below hb g none) (.inl rfl)); have n5_ := Aside0.mk (below_step (by repeat (first | (with_reducible first | exact HB.out | apply below_alloc | apply pw_below_drewN | apply below_drew1 | refine below_set ?_ (IsS58.ge HI0.out) | refine below_set ?_ GE269.out | refine below_set ?_ GE270.out) | exact HB.out)) hb); clear HI0; clear BK269; clear BK270; clear HK; clear HB; have HO273 := n0_; have HI0 := n1_; have BK269 := n2_; have BK270 := n3_; have HK := n4_; have HB := n5_; clear n0_ n1_ n2_ n3_ n4_ n5_; (try clear hb); (try clear hb2); (try clear hk); (try clear hi); (try clear hgw); (try clear ho0)) | ((with_reducible refine gate_callee (f := 11) rfl ?_); refine goesL_ (some 21) rfl rfl Tryd.func11 (by kernel_rfl) rfl #[.pointer (some ⟨g, 0, none⟩), .int .i64 (wrap64 (a3 + 1))] rfl (by (try simp only [List.map_toArray, List.map_cons, List.map_nil]); first | done | rfl | (simp only [List.length_drop, List.length_take]; rfl)) ?_; (with_reducible refine (storagebarterplay_Dice_Pick.calls g s0_0 s0_1 (wrap64 (a3 + 1)) t274 t275 w0 _ ?side1 ?side2 A6.out).mono ?_); (case side1 => repeat (first | (with_reducible first | exact HI0.out | apply IsS58.alloc | apply IsS58.drewN | apply IsS58.drew | apply IsS58.set_1 | refine IsS58.far ?_ NB0_269.out _ | refine IsS58.far ?_ NB0_270.out _) | exact HI0.out)); (case side2 => repeat (first | (with_reducible first | exact HB.out | apply below_alloc | apply pw_below_drewN | apply below_drew1 | refine below_set ?_ (IsS58.ge HI0.out) | refine below_set ?_ GE269.out | refine below_set ?_ GE270.out) | exact HB.out)); rintro e w13 ⟨rfl, hi, hb, hk⟩; refine ⟨_, rfl, ?_⟩; have n0_ := Aside0.mk (KeepBut.blk hk (g' := gb269) (o := .cells #[.int .i64 0, .slice none 0 0] 39 (0, 0)) (by (with_reducible repeat (first | refine blk_drewN ?_ _ | refine blk_drew ?_ | refine blk_alloc ?_ _)); exact BK269.out) NB269_0.out (by simp)); have n1_ := Aside0.mk (KeepBut.blk hk (g' := gb270) (o := .cells #[.int .i64 a2, .slice none 0 0] 39 (0, 0)) (by (with_reducible repeat (first | refine blk_drewN ?_ _ | refine blk_drew ?_ | refine blk_alloc ?_ _)); exact BK270.out) NB270_0.out (by simp)); have n2_ := Aside0.mk (Kd.R_mono (Kd.R_keep (IsS58.apart (show IsS58 w0 _ g s0_0 s0_1 from by repeat (first | (with_reducible first | exact HI0.out | apply IsS58.alloc | apply IsS58.drewN | apply IsS58.drew | apply IsS58.set_1 | refine IsS58.far ?_ NB0_269.out _ | refine IsS58.far ?_ NB0_270.out _) | exact HI0.out)) (by (with_reducible repeat (first | apply Kd.R_alloc | apply Kd.R_drewN | apply Kd.R_drew)); exact HO273.out) (by decide)) hk (fun _ h => h.2)) (fun _ h => h.1)); have n3_ := Aside0.mk (KeepBut.trans (by repeat (first | (with_reducible first | exact HK.out | apply KeepBut.set_ | apply keep_drewN | apply keep_drew | apply keep_alloc | refine keep_far ?_ GW269.out _ | refine keep_far ?_ GW270.out _) | exact HK.out)) hk (.inl rfl)); have n4_ := Aside0.mk (hb); have n5_ := Aside0.mk (hi); clear BK269; clear BK270; clear HO273; clear HK; clear HB; clear HI0; have BK269 := n0_; have BK270 := n1_; have HO273 := n2_; have HK := n3_; have HB := n4_; have HI0 := n5_; clear n0_ n1_ n2_ n3_ n4_ n5_; (try clear hb); (try clear hb2); (try clear hk); (try clear hi); (try clear hgw)))
  go_loopg [11, 12] k (fun kq v11 v12 w' => ∃ (x11_1 : Int) (x12_1 : Int) (x1001_1 : Int) (x271001_1 : List (S51)) (u271001 : Value), v11 = .int .i64 x11_1 ∧ v12 = .int .i64 x12_1 ∧ Aside0 (storagebarterplay_Dice_Deviation.l0 kq t271 x11_1 x12_1 s0_0 x1001_1 a2 x271001_1 = some (r1, r2, r3)) ∧ Aside0 (kq ≤ k) ∧ Aside0 (Kd.R (Kd.int .i64) 3 w' w.heap.size (fun _ => True) v272 t271) ∧ Aside0 (Kd.R k51 51 w' w.heap.size (fun _ => True) u271001 x271001_1) ∧ Aside0 (w'.heap[gb269]? = some (.cells #[.int .i64 0, (.slice none 0 0)] 39 (0, 0))) ∧ Aside0 (w'.heap[gb270]? = some (.cells #[.int .i64 a2, u271001] 39 (0, 0))) ∧ Aside0 (IsS58 w0 w' g s0_0 x1001_1) ∧ Aside0 (KeepBut w w' g none) ∧ Aside0 (Below w0.heap.size w0 w'))
  case atStart => exact ⟨(0), (t274), (t275), (([] : List (S51))), (.slice none 0 0), (by first | rfl | (simp; done) | (simp [*]; done)), (by first | rfl | (simp; done) | (simp [*]; done)), H', ⟨Nat.le_refl _⟩, ⟨by (with_reducible repeat (first | apply Kd.R_alloc | apply Kd.R_drewN | apply Kd.R_drew)); exact HO273.out⟩, ⟨by first | exact Kd.R_nil _ _ _ _ _ | exact Kd.N_nil _ _ _ _ _ | exact Kd.V_nil _ _ _ _ _ | exact Kd.Q_nil _ _ _ _ _ | exact Kd.S_nil _ _ _ _ _⟩, ⟨by (with_reducible repeat (first | refine blk_drewN ?_ _ | refine blk_drew ?_ | refine blk_alloc ?_ _)); exact BK269.out⟩, ⟨by (with_reducible repeat (first | refine blk_drewN ?_ _ | refine blk_drew ?_ | refine blk_alloc ?_ _)); exact BK270.out⟩, ⟨by repeat (first | (with_reducible first | exact HI0.out | apply IsS58.alloc | apply IsS58.drewN | apply IsS58.drew | apply IsS58.set_1 | refine IsS58.far ?_ NB0_269.out _ | refine IsS58.far ?_ NB0_270.out _) | exact HI0.out)⟩, ⟨by repeat (first | (with_reducible first | exact HK.out | apply KeepBut.set_ | apply keep_drewN | apply keep_drew | apply keep_alloc | refine keep_far ?_ GW269.out _ | refine keep_far ?_ GW270.out _) | exact HK.out)⟩, ⟨by repeat (first | (with_reducible first | exact HB.out | apply below_alloc | apply pw_below_drewN | apply below_drew1 | refine below_set ?_ (IsS58.ge HI0.out) | refine below_set ?_ GE269.out | refine below_set ?_ GE270.out) | exact HB.out)⟩⟩
  case round =>
    clear H'
    try clear c1
    try clear p2
    try clear p6
    try clear c9
    try clear c10
    try clear c11
    try clear hcz11_0
    try clear hcz11_1
    try clear hfz11_0
    try clear hfz11_1
    obtain ⟨x11_1, x12_1, x1001_1, x271001_1, u271001, rfl, rfl, HA, HK1, HO_10, HO_271001, BK269, BK270, HI0, HK, HB⟩ := hrel
    cases gk with
    | zero => exact absurd HA.out (by simp [storagebarterplay_Dice_Deviation.l0])
    | succ k1 =>
      have H := HA.out
      clear HA
      simp only [storagebarterplay_Dice_Deviation.l0] at H
      have HC14 := Aside0.mk H
      clear H
      go_upto_region 5 with (fail)
      go_cut [29] (fun v29 wc => ∃ (kq : Nat) (x29_13 : Bool), v29 = .bool x29_13 ∧ Aside0 (storagebarterplay_Dice_Deviation.j1 kq t271 x11_1 x12_1 x29_13 s0_0 x1001_1 a2 x271001_1 = some (r1, r2, r3)) ∧ Aside0 (kq ≤ k1) ∧ Aside0 (Kd.R (Kd.int .i64) 3 wc w.heap.size (fun _ => True) v272 t271) ∧ Aside0 (Kd.R k51 51 wc w.heap.size (fun _ => True) u271001 x271001_1) ∧ Aside0 (wc.heap[gb269]? = some (.cells #[.int .i64 0, (.slice none 0 0)] 39 (0, 0))) ∧ Aside0 (wc.heap[gb270]? = some (.cells #[.int .i64 a2, u271001] 39 (0, 0))) ∧ Aside0 (IsS58 w0 wc g s0_0 x1001_1) ∧ Aside0 (KeepBut w wc g none) ∧ Aside0 (Below w0.heap.size w0 wc))
      case first =>
        have H := HC14.out
        clear HC14
        by_cases c15 : x12_1 > 0
        · rw [if_pos c15] at H
          have c15b0 : decide (0 < x12_1) = true := decide_eq_true c15
          clear c15
          (first | rw [c15b0] | (simp only [i64_w, i32_w]; rw [c15b0]) | skip)
          have H' := Aside0.mk H
          clear H
          obtain ⟨Ao16, co16, eo16⟩ := Kd.R_slice HO_10.out
          subst eo16
          go_wp2
          go_meet
          case rel => exact ⟨_, (decide (x11_1 < (t271.length : Int))), (by first | rfl | (simp; done) | (simp [*]; done)), H', ⟨by have := HK1.out; first | omega | exact Nat.le_refl _⟩, ⟨by (with_reducible repeat (first | apply Kd.R_alloc | apply Kd.R_drewN | apply Kd.R_drew)); exact HO_10.out⟩, ⟨by (with_reducible repeat (first | apply Kd.R_alloc | apply Kd.R_drewN | apply Kd.R_drew)); exact HO_271001.out⟩, ⟨by (with_reducible repeat (first | refine blk_drewN ?_ _ | refine blk_drew ?_ | refine blk_alloc ?_ _)); exact BK269.out⟩, ⟨by (with_reducible repeat (first | refine blk_drewN ?_ _ | refine blk_drew ?_ | refine blk_alloc ?_ _)); exact BK270.out⟩, ⟨by repeat (first | (with_reducible first | exact HI0.out | apply IsS58.alloc | apply IsS58.drewN | apply IsS58.drew | apply IsS58.set_1 | refine IsS58.far ?_ NB0_269.out _ | refine IsS58.far ?_ NB0_270.out _) | exact HI0.out)⟩, ⟨by repeat (first | (with_reducible first | exact HK.out | apply KeepBut.set_ | apply keep_drewN | apply keep_drew | apply keep_alloc | refine keep_far ?_ GW269.out _ | refine keep_far ?_ GW270.out _) | exact HK.out)⟩, ⟨by repeat (first | (with_reducible first | exact HB.out | apply below_alloc | apply pw_below_drewN | apply below_drew1 | refine below_set ?_ (IsS58.ge HI0.out) | refine below_set ?_ GE269.out | refine below_set ?_ GE270.out) | exact HB.out)⟩⟩
        · rw [if_neg c15] at H
          have c15b0 : decide (0 < x12_1) = false := decide_eq_false c15
          clear c15
          (first | rw [c15b0] | (simp only [i64_w, i32_w]; rw [c15b0]) | skip)
          have H' := Aside0.mk H
          clear H
          go_wp2
          go_meet
          case rel => exact ⟨_, (false), (by first | rfl | (simp; done) | (simp [*]; done)), H', ⟨by have := HK1.out; first | omega | exact Nat.le_refl _⟩, ⟨by (with_reducible repeat (first | apply Kd.R_alloc | apply Kd.R_drewN | apply Kd.R_drew)); exact HO_10.out⟩, ⟨by (with_reducible repeat (first | apply Kd.R_alloc | apply Kd.R_drewN | apply Kd.R_drew)); exact HO_271001.out⟩, ⟨by (with_reducible repeat (first | refine blk_drewN ?_ _ | refine blk_drew ?_ | refine blk_alloc ?_ _)); exact BK269.out⟩, ⟨by (with_reducible repeat (first | refine blk_drewN ?_ _ | refine blk_drew ?_ | refine blk_alloc ?_ _)); exact BK270.out⟩, ⟨by repeat (first | (with_reducible first | exact HI0.out | apply IsS58.alloc | apply IsS58.drewN | apply IsS58.drew | apply IsS58.set_1 | refine IsS58.far ?_ NB0_269.out _ | refine IsS58.far ?_ NB0_270.out _) | exact HI0.out)⟩, ⟨by repeat (first | (with_reducible first | exact HK.out | apply KeepBut.set_ | apply keep_drewN | apply keep_drew | apply keep_alloc | refine keep_far ?_ GW269.out _ | refine keep_far ?_ GW270.out _) | exact HK.out)⟩, ⟨by repeat (first | (with_reducible first | exact HB.out | apply below_alloc | apply pw_below_drewN | apply below_drew1 | refine below_set ?_ (IsS58.ge HI0.out) | refine below_set ?_ GE269.out | refine below_set ?_ GE270.out) | exact HB.out)⟩⟩
      case rest =>
        clear HC14
        try clear c1
        try clear p2
        try clear p6
        try clear c9
        try clear c10
        try clear c11
        try clear c15
        try clear c15b0
        try clear c16
        try clear hcz11_0
        try clear hcz11_1
        try clear hfz11_0
        try clear hfz11_1
        try clear p2
        try clear p6
        obtain ⟨kq, x29_13, rfl, HA, HJ13, HO_10, HO_271001, BK269, BK270, HI0, HK, HB⟩ := hcut
        cases kq with
        | zero => exact absurd HA.out (by simp [storagebarterplay_Dice_Deviation.j1])
        | succ kj13 =>
          have H := HA.out
          clear HA
          simp only [storagebarterplay_Dice_Deviation.j1] at H
          by_cases c17 : x29_13 = true
          · subst c17
            have H1 : ((storagebarterplay_Dice_Pick.f s0_0 x1001_1 (wrap64 ((t271.length : Int) - x11_1))).bind fun bt276 => (if 0 ≤ (wrap64 (x11_1 + bt276.1)) then (if (wrap64 (x11_1 + bt276.1)) < (t271.length : Int) then ((storagebarterplay_Dice_Pick.f s0_0 bt276.2 3).bind fun bt279 => (if x271001_1.length < 8796093022208 then (storagebarterplay_Dice_Deviation.l0 kj13 t271 (wrap64 ((wrap64 (x11_1 + bt276.1)) + 1)) (wrap64 (x12_1 - 1)) s0_0 bt279.2 a2 (x271001_1 ++ [(⟨rd t271 (wrap64 (x11_1 + bt276.1)), wrap64 (1 + bt279.1)⟩ : S51)])) else (none))) else (none)) else (none))) = some (r1, r2, r3) := by rw [if_pos rfl] at H; exact H
            clear H
            have H := H1
            clear H1
            replace H := Option.bind_eq_some_iff.mp H
            obtain ⟨⟨t276, t277⟩, A180, H⟩ := H
            replace H : (if 0 ≤ (wrap64 (x11_1 + t276)) then (if (wrap64 (x11_1 + t276)) < (t271.length : Int) then ((storagebarterplay_Dice_Pick.f s0_0 t277 3).bind fun bt279 => (if x271001_1.length < 8796093022208 then (storagebarterplay_Dice_Deviation.l0 kj13 t271 (wrap64 ((wrap64 (x11_1 + t276)) + 1)) (wrap64 (x12_1 - 1)) s0_0 bt279.2 a2 (x271001_1 ++ [(⟨rd t271 (wrap64 (x11_1 + t276)), wrap64 (1 + bt279.1)⟩ : S51)])) else (none))) else (none)) else (none)) = some (r1, r2, r3) := H
            have A18 := Aside0.mk A180
            clear A180
            obtain ⟨ji19, hji19⟩ : ∃ j_ : Int, (wrap64 (x11_1 + t276)) = j_ := ⟨_, rfl⟩
            replace H : (if 0 ≤ (ji19) then (if (ji19) < (t271.length : Int) then ((storagebarterplay_Dice_Pick.f s0_0 t277 3).bind fun bt279 => (if x271001_1.length < 8796093022208 then (storagebarterplay_Dice_Deviation.l0 kj13 t271 (wrap64 ((ji19) + 1)) (wrap64 (x12_1 - 1)) s0_0 bt279.2 a2 (x271001_1 ++ [(⟨rd t271 (ji19), wrap64 (1 + bt279.1)⟩ : S51)])) else (none))) else (none)) else (none)) = some (r1, r2, r3) := by first | (rw [hji19] at H; exact H) | (simp only [hji19] at H ⊢; exact H)
            (try rw [hji19] at A18)
            have hji19w : (IntKind.i64.wrap (x11_1 + t276)) = ji19 := (i64_w _).trans hji19
            by_cases c20 : 0 ≤ (ji19)
            · rw [if_pos c20] at H
              have c20b0 : decide (0 ≤ (ji19)) = true := decide_eq_true c20
              clear c20
              by_cases c21 : (ji19) < (t271.length : Int)
              · rw [if_pos c21] at H
                have c21b0 : decide ((ji19) < (t271.length : Int)) = true := decide_eq_true c21
                clear c21
                replace H := Option.bind_eq_some_iff.mp H
                obtain ⟨⟨t279, t280⟩, A220, H⟩ := H
                replace H : (if x271001_1.length < 8796093022208 then (storagebarterplay_Dice_Deviation.l0 kj13 t271 (wrap64 ((ji19) + 1)) (wrap64 (x12_1 - 1)) s0_0 t280 a2 (x271001_1 ++ [(⟨rd t271 (ji19), wrap64 (1 + t279)⟩ : S51)])) else (none)) = some (r1, r2, r3) := H
                have A22 := Aside0.mk A220
                clear A220
                by_cases c23 : x271001_1.length < 8796093022208
                · rw [if_pos c23] at H
                  have LMc23 := Aside0.mk c23
                  clear c23
                  obtain ⟨y281, hy281⟩ : ∃ y_ : List (S51), y_ = (x271001_1 ++ [(⟨rd t271 (ji19), wrap64 (1 + t279)⟩ : S51)]) := ⟨_, rfl⟩
                  replace H : (storagebarterplay_Dice_Deviation.l0 kj13 t271 (wrap64 ((ji19) + 1)) (wrap64 (x12_1 - 1)) s0_0 t280 a2 y281) = some (r1, r2, r3) := by first | (rw [hy281]; with_reducible exact H) | (have H2_ := (Option.bind_some _ _).symm.trans H; rw [hy281]; with_reducible exact H2_) | (have H2_ := (Option.bind_some _ _).symm.trans H; with_reducible exact H2_) | with_reducible exact H | (rw [hy281]; exact H) | exact H
                  have Ny281 := Aside0.mk hy281
                  clear hy281
                  have H' := Aside0.mk H
                  clear H
                  obtain ⟨Ao24, co24, eo24⟩ := Kd.R_slice HO_10.out
                  subst eo24
                  try go_wp2_with (first | ((with_reducible refine gate_callee (f := 11) rfl ?_); refine goesL_ (some 38) rfl rfl Tryd.func11 (by kernel_rfl) rfl #[.pointer (some ⟨g, 0, none⟩), .int .i64 (wrap64 ((t271.length : Int) - x11_1))] rfl (by (try simp only [List.map_toArray, List.map_cons, List.map_nil]); first | done | rfl | (simp only [List.length_drop, List.length_take]; rfl)) ?_; (with_reducible refine (storagebarterplay_Dice_Pick.calls g s0_0 x1001_1 (wrap64 ((t271.length : Int) - x11_1)) t276 t277 w0 _ ?side1 ?side2 A18.out).mono ?_); (case side1 => repeat (first | (with_reducible first | exact HI0.out | apply IsS58.alloc | apply IsS58.drewN | apply IsS58.drew | apply IsS58.set_1 | refine IsS58.far ?_ NB0_269.out _ | refine IsS58.far ?_ NB0_270.out _) | exact HI0.out)); (case side2 => repeat (first | (with_reducible first | exact HB.out | apply below_alloc | apply pw_below_drewN | apply below_drew1 | refine below_set ?_ (IsS58.ge HI0.out) | refine below_set ?_ GE269.out | refine below_set ?_ GE270.out) | exact HB.out)); rintro e w25 ⟨rfl, hi, hb, hk⟩; refine ⟨_, rfl, ?_⟩; have n0_ := Aside0.mk (Kd.R_mono (Kd.R_keep (IsS58.apart (show IsS58 w0 _ g s0_0 x1001_1 from by repeat (first | (with_reducible first | exact HI0.out | apply IsS58.alloc | apply IsS58.drewN | apply IsS58.drew | apply IsS58.set_1 | refine IsS58.far ?_ NB0_269.out _ | refine IsS58.far ?_ NB0_270.out _) | exact HI0.out)) (by (with_reducible repeat (first | apply Kd.R_alloc | apply Kd.R_drewN | apply Kd.R_drew)); exact HO_10.out) (by decide)) hk (fun _ h => h.2)) (fun _ h => h.1)); have n1_ := Aside0.mk (Kd.R_mono (Kd.R_keep (IsS58.apart (show IsS58 w0 _ g s0_0 x1001_1 from by repeat (first | (with_reducible first | exact HI0.out | apply IsS58.alloc | apply IsS58.drewN | apply IsS58.drew | apply IsS58.set_1 | refine IsS58.far ?_ NB0_269.out _ | refine IsS58.far ?_ NB0_270.out _) | exact HI0.out)) (by (with_reducible repeat (first | apply Kd.R_alloc | apply Kd.R_drewN | apply Kd.R_drew)); exact HO_271001.out) (by decide)) hk (fun _ h => h.2)) (fun _ h => h.1)); have n2_ := Aside0.mk (KeepBut.blk hk (g' := gb269) (o := .cells #[.int .i64 0, .slice none 0 0] 39 (0, 0)) (by (with_reducible repeat (first | refine blk_drewN ?_ _ | refine blk_drew ?_ | refine blk_alloc ?_ _)); exact BK269.out) NB269_0.out (by simp)); have n3_ := Aside0.mk (KeepBut.blk hk (g' := gb270) (o := .cells #[.int .i64 a2, u271001] 39 (0, 0)) (by (with_reducible repeat (first | refine blk_drewN ?_ _ | refine blk_drew ?_ | refine blk_alloc ?_ _)); exact BK270.out) NB270_0.out (by simp)); have n4_ := Aside0.mk (KeepBut.trans (by repeat (first | (with_reducible first | exact HK.out | apply KeepBut.set_ | apply keep_drewN | apply keep_drew | apply keep_alloc | refine keep_far ?_ GW269.out _ | refine keep_far ?_ GW270.out _) | exact HK.out)) hk (.inl rfl)); have n5_ := Aside0.mk (hb); have n6_ := Aside0.mk (hi); clear HO_10; clear HO_271001; clear BK269; clear BK270; clear HK; clear HB; clear HI0; have HO_10 := n0_; have HO_271001 := n1_; have BK269 := n2_; have BK270 := n3_; have HK := n4_; have HB := n5_; have HI0 := n6_; clear n0_ n1_ n2_ n3_ n4_ n5_ n6_; (try clear hb); (try clear hb2); (try clear hk); (try clear hi); (try clear hgw)))
                  have n0_ := Aside0.mk (Kd.R_drew HO_10.out)
                  have n1_ := Aside0.mk (Kd.R_drew HO_271001.out)
                  have n2_ := Aside0.mk (blk_drew BK269.out)
                  have n3_ := Aside0.mk (blk_drew BK270.out)
                  have n4_ := Aside0.mk (IsS58.drew HI0.out)
                  have n5_ := Aside0.mk (keep_drew HK.out)
                  have n6_ := Aside0.mk (below_drew1 HB.out)
                  clear HO_10
                  clear HO_271001
                  clear BK269
                  clear BK270
                  clear HI0
                  clear HK
                  clear HB
                  have HO_10 := n0_
                  have HO_271001 := n1_
                  have BK269 := n2_
                  have BK270 := n3_
                  have HI0 := n4_
                  have HK := n5_
                  have HB := n6_
                  clear n0_ n1_ n2_ n3_ n4_ n5_ n6_
                  have p278 : 0 ≤ ((ji19) : Int) := of_decide_eq_true (by first | (with_reducible assumption) | assumption)
                  have q278 : (ji19) < (t271.length : Int) := of_decide_eq_true (by first | (with_reducible assumption) | assumption)
                  obtain ⟨ad278, e278, hx278_0⟩ := Kd.at_int (Kd.R_reads' HO_10.out).2.2 (ji19) p278 q278
                  cases e278
                  replace p278 := eq_true p278
                  replace q278 := eq_true q278
                  refine start_ (n := 14) (S := fun w' => w'.cell? ⟨gb270, 0, none⟩ = some (.int .i64 a2) ∧ w'.cell? ⟨gb270, 1, none⟩ = some (u271001) ∧ w'.cell? (ad278.add ((ji19)).toNat) = some (.int .i64 (rd t271 (ji19)))) (ds := [11, 13]) #[false, false, false, false, false, false, false, false, false, false, false, false, false, false] (by kernel_rfl) rfl rfl ⟨(blk_cell BK270.out 0).trans rfl, (blk_cell BK270.out 1).trans rfl, hx278_0⟩ (fun hHeld => ?_); refine with_tabW storagebarterplay_Dice_Deviation.tab8 storagebarterplay_Dice_Deviation.bits8 (fun HT_ HW_ => ?_)
                  generalize w25.drew = w26 at HO_10 HO_271001 BK269 BK270 HI0 HK HB hx278_0 hHeld ⊢
                  refine pure_ (i := 0) (N := some 40) (v := ?_) (a' := ?_) #[true, false, false, false, false, false, false, false, false, false, false, false, false, false] rfl rfl (any_of HT_.out (by kernel_rfl)) (fun _ _ _ h => h) (Or.inl ⟨by rfl, ?_⟩) ?_ ?_
                  rotate_left
                  · intro w'
                    go_simp
                    with_reducible rfl
                  rotate_left
                  · simp only [Act.put, List.setIfInBounds_toArray, List.set_cons_zero, List.set_cons_succ, i64_w, i32_w]
                    rfl
                  refine pure_ (i := 2) (N := some 42) (v := ?_) (a' := ?_) #[true, false, true, false, false, false, false, false, false, false, false, false, false, false] rfl rfl (any_of HT_.out (by kernel_rfl)) (fun _ _ _ h => h) (Or.inl ⟨by rfl, ?_⟩) ?_ ?_
                  rotate_left
                  · intro w'
                    go_simp
                    with_reducible rfl
                  rotate_left
                  · simp only [Act.put, List.setIfInBounds_toArray, List.set_cons_zero, List.set_cons_succ, i64_w, i32_w]
                    rfl
                  refine pure_ (i := 3) (N := some 43) (v := ?_) (a' := ?_) #[true, false, true, true, false, false, false, false, false, false, false, false, false, false] rfl rfl (any_of HT_.out (by kernel_rfl)) (fun _ _ _ h => h) (Or.inl ⟨by rfl, ?_⟩) ?_ ?_
                  rotate_left
                  · intro w'
                    go_simp
                    with_reducible rfl
                  rotate_left
                  · simp only [Act.put, List.setIfInBounds_toArray, List.set_cons_zero, List.set_cons_succ, i64_w, i32_w]
                    rfl
                  refine pure_ (i := 4) (N := some 44) (v := ?_) (a' := ?_) #[true, false, true, true, true, false, false, false, false, false, false, false, false, false] rfl rfl (any_of HT_.out (by kernel_rfl)) (fun _ _ _ h => h) (Or.inl ⟨by rfl, ?_⟩) ?_ ?_
                  rotate_left
                  · intro w'
                    go_simp
                    with_reducible rfl
                  rotate_left
                  · simp only [Act.put, List.setIfInBounds_toArray, List.set_cons_zero, List.set_cons_succ, i64_w, i32_w]
                    rfl
                  refine pure_ (i := 6) (N := some 46) (v := ?_) (a' := ?_) #[true, false, true, true, true, false, true, false, false, false, false, false, false, false] rfl rfl (any_of HT_.out (by kernel_rfl)) (fun _ _ _ h => h) (Or.inl ⟨by rfl, ?_⟩) ?_ ?_
                  rotate_left
                  · intro w'
                    go_simp
                    with_reducible rfl
                  rotate_left
                  · simp only [Act.put, List.setIfInBounds_toArray, List.set_cons_zero, List.set_cons_succ, i64_w, i32_w]
                    rfl
                  refine take_ (i := 1) (N := some 41) (v := ?_) (a' := ?_) #[true, true, true, true, true, false, true, false, false, false, false, false, false, false] rfl rfl (take_ofW HT_.out HW_.out (by kernel_rfl)) (fun _ _ _ h => h) (Or.inl ⟨by rfl, ?_⟩) hHeld ?_ ?_
                  rotate_left
                  · rintro w' ⟨s0, s1, s2⟩
                    go_simp
                    with_reducible rfl
                  rotate_left
                  · simp only [Act.put, List.setIfInBounds_toArray, List.set_cons_zero, List.set_cons_succ, i64_w, i32_w]
                    rfl
                  refine take_ (i := 5) (N := some 45) (v := ?_) (a' := ?_) #[true, true, true, true, true, true, true, false, false, false, false, false, false, false] rfl rfl (take_ofW HT_.out HW_.out (by kernel_rfl)) (fun _ _ _ h => h) (Or.inl ⟨by rfl, ?_⟩) hHeld ?_ ?_
                  rotate_left
                  · rintro w' ⟨s0, s1, s2⟩
                    go_simp
                    with_reducible rfl
                  rotate_left
                  · simp only [Act.put, List.setIfInBounds_toArray, List.set_cons_zero, List.set_cons_succ, i64_w, i32_w]
                    rfl
                  refine one_ (i := 7) (N := some 47) #[true, true, true, true, true, true, true, true, false, false, false, false, false, false] rfl rfl (one_of HT_.out (by kernel_rfl)) (by decide) (fun K hK => ?_)
                  refine goes_ Tryd.func11 (by kernel_rfl) rfl #[.pointer (some ⟨g, 0, none⟩), .int .i64 3] (by rfl) rfl rfl (by (try simp only [List.map_toArray, List.map_cons, List.map_nil]); first | done | rfl | (simp only [List.length_drop, List.length_take]; rfl)) ?_
                  with_reducible refine (storagebarterplay_Dice_Pick.calls g s0_0 t277 3 t279 t280 w0 _ ?side1 ?side2 A22.out).mono ?_
                  (case side1 => repeat (first | (with_reducible first | exact HI0.out | apply IsS58.alloc | apply IsS58.drewN | apply IsS58.drew | apply IsS58.set_1 | refine IsS58.far ?_ NB0_269.out _ | refine IsS58.far ?_ NB0_270.out _) | exact HI0.out))
                  (case side2 => repeat (first | (with_reducible first | exact HB.out | apply below_alloc | apply pw_below_drewN | apply below_drew1 | refine below_set ?_ (IsS58.ge HI0.out) | refine below_set ?_ GE269.out | refine below_set ?_ GE270.out) | exact HB.out))
                  rintro e w27 ⟨rfl, hi, hb, hk⟩
                  have HS2_ := keep_cell hk (hHeld.2.2) (by first | (rw [add_block]; exact Kd.own_blk (IsS58.own_ne HI0.out HO_10.out (by decide))) | (show (Addr.add _ _).block ≠ _; rw [add_block]; exact Kd.own_blk (IsS58.own_ne HI0.out HO_10.out (by decide))) | exact Kd.own_blk (IsS58.own_ne HI0.out HO_10.out (by decide)))
                  refine ⟨_, rfl, ?_⟩
                  have n0_ := Aside0.mk (Kd.R_mono (Kd.R_keep (IsS58.apart (show IsS58 w0 _ g s0_0 t277 from by repeat (first | (with_reducible first | exact HI0.out | apply IsS58.alloc | apply IsS58.drewN | apply IsS58.drew | apply IsS58.set_1 | refine IsS58.far ?_ NB0_269.out _ | refine IsS58.far ?_ NB0_270.out _) | exact HI0.out)) (by (with_reducible repeat (first | apply Kd.R_alloc | apply Kd.R_drewN | apply Kd.R_drew)); exact HO_10.out) (by decide)) hk (fun _ h => h.2)) (fun _ h => h.1))
                  have n1_ := Aside0.mk (Kd.R_mono (Kd.R_keep (IsS58.apart (show IsS58 w0 _ g s0_0 t277 from by repeat (first | (with_reducible first | exact HI0.out | apply IsS58.alloc | apply IsS58.drewN | apply IsS58.drew | apply IsS58.set_1 | refine IsS58.far ?_ NB0_269.out _ | refine IsS58.far ?_ NB0_270.out _) | exact HI0.out)) (by (with_reducible repeat (first | apply Kd.R_alloc | apply Kd.R_drewN | apply Kd.R_drew)); exact HO_271001.out) (by decide)) hk (fun _ h => h.2)) (fun _ h => h.1))
                  have n2_ := Aside0.mk (KeepBut.blk hk (g' := gb269) (o := .cells #[.int .i64 0, .slice none 0 0] 39 (0, 0)) (by (with_reducible repeat (first | refine blk_drewN ?_ _ | refine blk_drew ?_ | refine blk_alloc ?_ _)); exact BK269.out) NB269_0.out (by simp))
                  have n3_ := Aside0.mk (KeepBut.blk hk (g' := gb270) (o := .cells #[.int .i64 a2, u271001] 39 (0, 0)) (by (with_reducible repeat (first | refine blk_drewN ?_ _ | refine blk_drew ?_ | refine blk_alloc ?_ _)); exact BK270.out) NB270_0.out (by simp))
                  have n4_ := Aside0.mk (KeepBut.trans (by repeat (first | (with_reducible first | exact HK.out | apply KeepBut.set_ | apply keep_drewN | apply keep_drew | apply keep_alloc | refine keep_far ?_ GW269.out _ | refine keep_far ?_ GW270.out _) | exact HK.out)) hk (.inl rfl))
                  have n5_ := Aside0.mk (hb)
                  have n6_ := Aside0.mk (hi)
                  clear HO_10
                  clear HO_271001
                  clear BK269
                  clear BK270
                  clear HK
                  clear HB
                  clear HI0
                  have HO_10 := n0_
                  have HO_271001 := n1_
                  have BK269 := n2_
                  have BK270 := n3_
                  have HK := n4_
                  have HB := n5_
                  have HI0 := n6_
                  clear n0_ n1_ n2_ n3_ n4_ n5_ n6_
                  (try clear hb)
                  (try clear hb2)
                  (try clear hk)
                  (try clear hi)
                  (try clear hgw)
                  refine hK.out _ _ ⟨(blk_cell BK270.out 0).trans rfl, (blk_cell BK270.out 1).trans rfl, HS2_⟩ (fun hHeld => ?_)
                  clear hK K
                  refine norm_ (a' := ?_) ?_ ?_
                  rotate_left
                  · show Act.put _ (some 47) _ = _
                    simp only [Act.put, List.setIfInBounds_toArray, List.set_cons_zero, List.set_cons_succ, i64_w, i32_w]
                    rfl
                  refine pure_ (i := 8) (N := some 48) (v := ?_) (a' := ?_) #[true, true, true, true, true, true, true, true, true, false, false, false, false, false] rfl rfl (any_of HT_.out (by kernel_rfl)) (fun _ _ _ h => h) (Or.inl ⟨by rfl, ?_⟩) ?_ ?_
                  rotate_left
                  · intro w'
                    go_simp
                    with_reducible rfl
                  rotate_left
                  · simp only [Act.put, List.setIfInBounds_toArray, List.set_cons_zero, List.set_cons_succ, i64_w, i32_w]
                    rfl
                  refine pure_ (i := 9) (N := some 49) (v := ?_) (a' := ?_) #[true, true, true, true, true, true, true, true, true, true, false, false, false, false] rfl rfl (any_of HT_.out (by kernel_rfl)) (fun _ _ _ h => h) (Or.inl ⟨by rfl, ?_⟩) ?_ ?_
                  rotate_left
                  · intro w'
                    go_simp
                    with_reducible rfl
                  rotate_left
                  · simp only [Act.put, List.setIfInBounds_toArray, List.set_cons_zero, List.set_cons_succ, i64_w, i32_w]
                    rfl
                  refine one_ (i := 10) (N := some 50) #[true, true, true, true, true, true, true, true, true, true, true, false, false, false] rfl rfl (one_of HT_.out (by kernel_rfl)) (by decide) (fun K hK => ?_)
                  refine value_ (w1 := ?_) (v := ?_) (by rfl) rfl ?_ ?_
                  rotate_left 2
                  · go_simp
                    constructor
                    · rfl
                    · rfl
                  refine hK.out _ _ ⟨(blk_cell (blk_alloc BK270.out _) 0).trans rfl, (blk_cell (blk_alloc BK270.out _) 1).trans rfl, (World.cell?_alloc_lt _ _ _ (World.block_lt_of_cell? _ _ (hHeld.2.2))).trans (hHeld.2.2)⟩ (fun hHeld => ?_)
                  clear hK K
                  refine norm_ (a' := ?_) ?_ ?_
                  rotate_left
                  · show Act.put _ (some 50) _ = _
                    simp only [Act.put, List.setIfInBounds_toArray, List.set_cons_zero, List.set_cons_succ, i64_w, i32_w]
                    rfl
                  refine last_ (i := 11) (N := some 51) #[true, true, true, true, true, true, true, true, true, true, true, true, false, false] rfl rfl (one_of HT_.out (by kernel_rfl)) (by decide) (fun K hK => ?_)
                  refine Kd.R_append_step k51 w.heap.size (by rfl) (.tmp 41) (.tmp 50) 37 51 (.agg #[(.int .i64 0), (.int .i64 0)]) 16 rfl Tryd.underlying37 info51 rfl (by decide) (by omega) u271001 x271001_1 (⟨rd t271 (ji19), wrap64 (1 + t279)⟩ : S51) [.int .i64 (rd t271 (ji19)), .int .i64 (wrap64 (1 + t279))] (fun _ => True) (fun _ => False) rfl rfl ?aP (fun _ hk => hk.elim) ?aF ?aO (Below.refl _ _) ?aS ?aL ?_
                  (case aP => exact k51_mkM _ _ _ (⟨rd t271 (ji19), wrap64 (1 + t279)⟩ : S51))
                  (case aF => exact (fun _ _ => trivial))
                  (case aO => exact (by (with_reducible repeat (first | apply Kd.R_alloc | apply Kd.R_drewN | apply Kd.R_drew)); exact HO_271001.out))
                  (case aS => exact (keep_size (w := w) (g := g) (row := none) (by repeat (first | (with_reducible first | exact HK.out | apply KeepBut.set_ | apply keep_drewN | apply keep_drew | apply keep_alloc | refine keep_far ?_ GW269.out _ | refine keep_far ?_ GW270.out _) | exact HK.out))))
                  (case aL => have := LMc23.out; omega)
                  intro v282 w28 ho hb hg hat
                  rw [← Ny281.out] at ho
                  have n0_ := Aside0.mk (Kd.R_over' (by (with_reducible repeat (first | apply Kd.R_alloc | apply Kd.R_drewN | apply Kd.R_drew)); exact HO_10.out) (Kd.R_typed (by (with_reducible repeat (first | apply Kd.R_alloc | apply Kd.R_drewN | apply Kd.R_drew)); exact HO_271001.out)) (by decide) hg)
                  have n1_ := Aside0.mk (blk_grown (g := gb269) (o := .cells #[.int .i64 0, .slice none 0 0] 39 (0, 0)) (by (with_reducible repeat (first | refine blk_drewN ?_ _ | refine blk_drew ?_ | refine blk_alloc ?_ _)); exact BK269.out) hg (Kd.R_ne HO_271001.out BK269.out (by decide)))
                  have n2_ := Aside0.mk (blk_grown (g := gb270) (o := .cells #[.int .i64 a2, u271001] 39 (0, 0)) (by (with_reducible repeat (first | refine blk_drewN ?_ _ | refine blk_drew ?_ | refine blk_alloc ?_ _)); exact BK270.out) hg (Kd.R_ne HO_271001.out BK270.out (by decide)))
                  have n3_ := Aside0.mk (IsS58.grown (by repeat (first | (with_reducible first | exact HI0.out | apply IsS58.alloc | apply IsS58.drewN | apply IsS58.drew | apply IsS58.set_1 | refine IsS58.far ?_ NB0_269.out _ | refine IsS58.far ?_ NB0_270.out _) | exact HI0.out)) hg (IsS58.own_ne HI0.out HO_271001.out (by decide)))
                  have n4_ := Aside0.mk (below_weaken (by repeat (first | (with_reducible first | exact HB.out | apply below_alloc | apply pw_below_drewN | apply below_drew1 | refine below_set ?_ (IsS58.ge HI0.out) | refine below_set ?_ GE269.out | refine below_set ?_ GE270.out) | exact HB.out)) HL.out hb)
                  have n5_ := Aside0.mk (KeepBut.trans (by repeat (first | (with_reducible first | exact HK.out | apply KeepBut.set_ | apply keep_drewN | apply keep_drew | apply keep_alloc | refine keep_far ?_ GW269.out _ | refine keep_far ?_ GW270.out _) | exact HK.out)) (KeepBut.of_grown hg g) (Kd.R_base2 HO_271001.out))
                  have n6_ := Aside0.mk (ho)
                  clear HO_10
                  clear BK269
                  clear BK270
                  clear HI0
                  clear HB
                  clear HK
                  clear HO_271001
                  have HO_10 := n0_
                  have BK269 := n1_
                  have BK270 := n2_
                  have HI0 := n3_
                  have HB := n4_
                  have HK := n5_
                  have HO283 := n6_
                  clear n0_ n1_ n2_ n3_ n4_ n5_ n6_
                  clear ho hb hg hat
                  obtain ⟨Ao29, co29, eo29⟩ := Kd.R_slice HO283.out
                  (first | subst eo29 | (injection eo29 with f1_ f2_ f3_; have f4_ := f1_.symm; have f5_ := f3_.symm; clear f1_ f2_ f3_; subst f4_; subst f5_))
                  refine hK.out _ _ ?_
                  clear hK K
                  refine norm_ (a' := ?_) ?_ ?_
                  rotate_left
                  · show Act.put _ (some 51) _ = _
                    simp only [Act.put, List.setIfInBounds_toArray, List.set_cons_zero, List.set_cons_succ, i64_w, i32_w]
                    rfl
                  refine pure_ (i := 12) (N := some 52) (v := ?_) (a' := ?_) #[true, true, true, true, true, true, true, true, true, true, true, true, true, false] rfl rfl (any_of HT_.out (by kernel_rfl)) (fun _ _ _ h => h) (Or.inl ⟨by rfl, ?_⟩) ?_ ?_
                  rotate_left
                  · intro w'
                    go_simp
                    with_reducible rfl
                  rotate_left
                  · simp only [Act.put, List.setIfInBounds_toArray, List.set_cons_zero, List.set_cons_succ, i64_w, i32_w]
                    rfl
                  refine last_ (i := 13) (N := none) #[true, true, true, true, true, true, true, true, true, true, true, true, true, true] rfl rfl (one_of HT_.out (by kernel_rfl)) (by decide) (fun K hK => ?_)
                  have hs30 : w28.cell? ⟨gb270, 1, none⟩ = some (u271001) := (blk_cell BK270.out 1).trans rfl
                  have hfs30 := blk_frozen BK270.out 1
                  have hns30_0 := NB269_270.out
                  have hms30_0 := NB270_269.out
                  refine skip_ (w1 := ?_) (by rfl) rfl ?_ ?_
                  rotate_left
                  · go_simp
                    rfl
                  refine hK.out _ _ ?_
                  clear hK K
                  refine done_ (done_of HT_.out (by kernel_rfl)) ?_
                  try go_wp2
                  go_roundg kj13
                  case measure => have := HK1.out; have := HJ13.out; omega
                  case rel => exact ⟨(wrap64 ((ji19) + 1)), (wrap64 (x12_1 - 1)), (t280), (y281), (.slice Ao29 y281.length co29), (by first | rfl | (simp; done) | (simp only [← hji19] <;> (first | rfl | simp)) | (simp [*]; done)), (by first | rfl | (simp; done) | (simp [*]; done)), H', ⟨by have := HK1.out; have := HJ13.out; omega⟩, ⟨by (with_reducible repeat (first | apply Kd.R_alloc | apply Kd.R_drewN | apply Kd.R_drew)); exact Kd.R_mono (Kd.R_far (p := ⟨gb270, 1, none⟩) (Kd.R_types HO_10.out BK270.out (by decide)) (fun _ hk => hk.2) (.slice Ao29 y281.length co29)) (fun _ hk => trivial)⟩, ⟨by (with_reducible repeat (first | apply Kd.R_alloc | apply Kd.R_drewN | apply Kd.R_drew)); exact Kd.R_mono (Kd.R_far (p := ⟨gb270, 1, none⟩) (Kd.R_types HO283.out BK270.out (by decide)) (fun _ hk => hk.2) (.slice Ao29 y281.length co29)) (fun _ hk => trivial)⟩, ⟨by (with_reducible repeat (first | refine blk_drewN ?_ _ | refine blk_drew ?_ | refine blk_alloc ?_ _)); refine blk_far ?_ NB269_270.out _; (with_reducible repeat (first | refine blk_drewN ?_ _ | refine blk_drew ?_ | refine blk_alloc ?_ _)); exact BK269.out⟩, ⟨by (with_reducible repeat (first | refine blk_drewN ?_ _ | refine blk_drew ?_ | refine blk_alloc ?_ _)); refine blk_put (cs := #[.int .i64 a2, u271001]) ?_ 1 _ rfl; (with_reducible repeat (first | refine blk_drewN ?_ _ | refine blk_drew ?_ | refine blk_alloc ?_ _)); exact BK270.out⟩, ⟨by repeat (first | (with_reducible first | exact HI0.out | apply IsS58.alloc | apply IsS58.drewN | apply IsS58.drew | apply IsS58.set_1 | refine IsS58.far ?_ NB0_269.out _ | refine IsS58.far ?_ NB0_270.out _) | exact HI0.out)⟩, ⟨by repeat (first | (with_reducible first | exact HK.out | apply KeepBut.set_ | apply keep_drewN | apply keep_drew | apply keep_alloc | refine keep_far ?_ GW269.out _ | refine keep_far ?_ GW270.out _) | exact HK.out)⟩, ⟨by repeat (first | (with_reducible first | exact HB.out | apply below_alloc | apply pw_below_drewN | apply below_drew1 | refine below_set ?_ (IsS58.ge HI0.out) | refine below_set ?_ GE269.out | refine below_set ?_ GE270.out) | exact HB.out)⟩⟩
                · rw [if_neg c23] at H
                  exact absurd H (by simp)
              · rw [if_neg c21] at H
                exact absurd H (by simp)
            · rw [if_neg c20] at H
              exact absurd H (by simp)
          · replace c17 := Bool.eq_false_iff.mpr c17
            subst c17
            have H1 : (some (a2, x271001_1, x1001_1)) = some (r1, r2, r3) := by rw [if_neg (show ¬ (false = true) by decide)] at H; exact H
            clear H
            have H := H1
            clear H1
            simp only [Option.some.injEq, Prod.mk.injEq] at H
            obtain ⟨rfl, rfl, rfl⟩ := H
            have hnb31 := NB270_269.out
            have hnc31 := NB269_270.out
            have hnb32 := NB270_0.out
            have hnc32 := NB0_270.out
            have hcz33_0 : wc.cell? ⟨gb270, 0, none⟩ = some (.int .i64 a2) := (blk_cell BK270.out 0).trans rfl
            have hcz33_1 : wc.cell? ⟨gb270, 1, none⟩ = some (u271001) := (blk_cell BK270.out 1).trans rfl
            have hfz33_0 := blk_frozen BK270.out 0
            have hfz33_1 := blk_frozen BK270.out 1
            have hnb34 := NB269_0.out
            have hnc34 := NB0_269.out
            have hcz35_0 : wc.cell? ⟨gb269, 0, none⟩ = some (.int .i64 0) := (blk_cell BK269.out 0).trans rfl
            have hcz35_1 : wc.cell? ⟨gb269, 1, none⟩ = some (.slice none 0 0) := (blk_cell BK269.out 1).trans rfl
            have hfz35_0 := blk_frozen BK269.out 0
            have hfz35_1 := blk_frozen BK269.out 1
            obtain ⟨Ao36, co36, eo36⟩ := Kd.R_slice HO_271001.out
            subst eo36
            go_wp2
            refine bodyPost_ret (results_cell_row rfl _ _ gb269 39 #[.int .i64 a2, .slice Ao36 x271001_1.length co36] (0, 0) _ rfl (by (with_reducible repeat (first | refine blk_drewN ?_ _ | refine blk_drew ?_ | refine blk_alloc ?_ _)); refine blk_put (cs := #[.int .i64 a2, .slice none 0 0]) ?_ 1 _ rfl; (with_reducible repeat (first | refine blk_drewN ?_ _ | refine blk_drew ?_ | refine blk_alloc ?_ _)); refine blk_put (cs := #[.int .i64 0, .slice none 0 0]) ?_ 0 _ rfl; (with_reducible repeat (first | refine blk_drewN ?_ _ | refine blk_drew ?_ | refine blk_alloc ?_ _)); exact BK269.out) Tryd.underlying39 rfl (by kernel_rfl)) rfl ?_
            exact ⟨_, by first | rfl | (simp [errW_none, errW_some] <;> rfl) | (simp [*, errW_none, errW_some] <;> rfl), by (with_reducible repeat (first | apply Kd.R_alloc | apply Kd.R_drewN | apply Kd.R_drew)); exact Kd.R_mono (Kd.R_far (p := ⟨gb269, 1, none⟩) (Kd.R_far (p := ⟨gb269, 0, none⟩) (Kd.R_types HO_271001.out BK269.out (by decide)) (fun _ hk => hk.2) (.int .i64 a2)) (fun _ hk => hk.2) (.slice Ao36 x271001_1.length co36)) (fun _ hk => trivial), by repeat (first | (with_reducible first | exact HI0.out | apply IsS58.alloc | apply IsS58.drewN | apply IsS58.drew | apply IsS58.set_1 | refine IsS58.far ?_ NB0_269.out _ | refine IsS58.far ?_ NB0_270.out _) | exact HI0.out), by repeat (first | (with_reducible first | exact HB.out | apply below_alloc | apply pw_below_drewN | apply below_drew1 | refine below_set ?_ (IsS58.ge HI0.out) | refine below_set ?_ GE269.out | refine below_set ?_ GE270.out) | exact HB.out), by repeat (first | (with_reducible first | exact HK.out | apply KeepBut.set_ | apply keep_drewN | apply keep_drew | apply keep_alloc | refine keep_far ?_ GW269.out _ | refine keep_far ?_ GW270.out _) | exact HK.out)⟩

/-! ### slices_Index_int_int: function 41 -/
def slices_Index_int_int.l0 : Nat → List Int → Int → Int → Int → Option (Int)
  | 0, _, _, _, _ => none
  | k + 1, x0, x1, x7, x8 => if x8 < x7 then (if 0 ≤ x8 then (if x8 < (x0.length : Int) then (if x1 = (rd x0 x8) then (some x8) else (slices_Index_int_int.l0 k x0 x1 x7 (wrap64 (x8 + 1)))) else (none)) else (none)) else (some (-1))
def slices_Index_int_int.f (k : Nat) (l0 : List Int) (a1 : Int) : Option (Int) := slices_Index_int_int.l0 k l0 a1 (l0.length : Int) 0
theorem slices_Index_int_int.mono_l : ∀ k, (∀ y0 y1 y2 y3, LeO (slices_Index_int_int.l0 k y0 y1 y2 y3) (slices_Index_int_int.l0 (k + 1) y0 y1 y2 y3))
  | 0 => fun _ _ _ _ r h => by simp [slices_Index_int_int.l0] at h
  | k + 1 => by
    have ih0 := slices_Index_int_int.mono_l k
    · intro y0 y1 y2 y3
      unfold slices_Index_int_int.l0
      repeat' first
      | (with_reducible exact ih0 _ _ _ _)
      | (with_reducible exact LeO.refl _)
      | (with_reducible exact LeO.none _)
      | (with_reducible refine LeO.ite ?_ ?_)
      | (with_reducible refine LeO.bind ?_ (fun _ => ?_))
      | exact ih0 _ _ _ _
      | exact LeO.none _
      | refine LeO.ite ?_ ?_
      | refine LeO.bind ?_ (fun _ => ?_)
theorem slices_Index_int_int.mono : ∀ a0 a1 k, LeO (slices_Index_int_int.f k a0 a1) (slices_Index_int_int.f (k + 1) a0 a1) := by
  intro a0 a1 k
  have ih0 := slices_Index_int_int.mono_l k
  unfold slices_Index_int_int.f
  repeat' first
      | (with_reducible exact ih0 _ _ _ _)
      | (with_reducible exact LeO.refl _)
      | (with_reducible exact LeO.none _)
      | (with_reducible refine LeO.ite ?_ ?_)
      | (with_reducible refine LeO.bind ?_ (fun _ => ?_))
      | exact ih0 _ _ _ _
      | exact LeO.none _
      | refine LeO.ite ?_ ?_
      | refine LeO.bind ?_ (fun _ => ?_)
set_option maxHeartbeats 8000000 in
set_option maxRecDepth 100000 in
theorem slices_Index_int_int.calls (k : Nat) (A0 : Option Addr) (c0 : Nat) (l0 : List Int) (a1 : Int) (r : Int) (w : World) (hr0 : Kd.C (Kd.int .i64) w A0 l0.length l0) (hc0 : l0.length ≤ c0) (h : slices_Index_int_int.f k l0 a1 = some r) :
    Calls Tryd.prog 41 #[.slice A0 l0.length c0, .int .i64 a1] w fun e w' => e = .returned (.int .i64 r) ∧ Drawn0 w w' := by
  have HR0 := Aside0.mk hr0
  have HC0 := Aside0.mk hc0
  clear hr0 hc0
  have H : (slices_Index_int_int.l0 k l0 a1 (l0.length : Int) 0) = some r := h
  clear h
  have H' := Aside0.mk H
  clear H
  go_enter Tryd.func41, Tryd.ntmps41
  go_wp2
  go_loopg [8] k (fun kq v8 w' => ∃ (x8_1 : Int), v8 = .int .i64 x8_1 ∧ Aside0 (slices_Index_int_int.l0 kq l0 a1 (l0.length : Int) x8_1 = some r) ∧ Aside0 (kq ≤ k) ∧ Drawn0 w w')
  case atStart => exact ⟨(0), (by first | rfl | (simp; done) | (simp [*]; done)), H', ⟨Nat.le_refl _⟩, by repeat (first | exact Drawn0.refl _ | apply Drawn0.step)⟩
  case round =>
    clear H'
    try clear p2
    obtain ⟨x8_1, rfl, HA, HK1, ⟨m1, rfl⟩⟩ := hrel
    cases gk with
    | zero => exact absurd HA.out (by simp [slices_Index_int_int.l0])
    | succ k1 =>
      have H := HA.out
      clear HA
      simp only [slices_Index_int_int.l0] at H
      by_cases c3 : x8_1 < (l0.length : Int)
      · rw [if_pos c3] at H
        have c3b0 : decide (x8_1 < (l0.length : Int)) = true := decide_eq_true c3
        clear c3
        by_cases c4 : 0 ≤ x8_1
        · rw [if_pos c4] at H
          have c4b0 : decide (0 ≤ x8_1) = true := decide_eq_true c4
          clear c4
          by_cases c5 : x8_1 < (l0.length : Int)
          · rw [if_pos c5] at H
            have c5b0 : decide (x8_1 < (l0.length : Int)) = true := decide_eq_true c5
            clear c5
            by_cases c6 : a1 = (rd l0 x8_1)
            · rw [if_pos c6] at H
              have c6b0 : (a1 == (rd l0 x8_1)) = true := beq_iff_eq.mpr c6
              have c6b1 : (a1 != (rd l0 x8_1)) = false := bne_eq_false_iff_eq.mpr c6
              clear c6
              obtain rfl := Option.some.inj H
              have p284 : 0 ≤ (x8_1 : Int) := of_decide_eq_true (by first | (with_reducible assumption) | assumption)
              have q284 : x8_1 < (l0.length : Int) := of_decide_eq_true (by first | (with_reducible assumption) | assumption)
              obtain ⟨ad284, e284, hx284_0⟩ := Kd.at_int HR0.out x8_1 p284 q284
              cases e284
              replace p284 := eq_true p284
              replace q284 := eq_true q284
              go_wp2
              go_ret
              exact ⟨by first | rfl | (simp; done) | (simp [*]; done), by repeat (first | exact Drawn0.refl _ | apply Drawn0.step)⟩
            · rw [if_neg c6] at H
              have c6b0 : (a1 == (rd l0 x8_1)) = false := beq_eq_false_iff_ne.mpr c6
              have c6b1 : (a1 != (rd l0 x8_1)) = true := bne_iff_ne.mpr c6
              have H' := Aside0.mk H
              clear H
              have p284 : 0 ≤ (x8_1 : Int) := of_decide_eq_true (by first | (with_reducible assumption) | assumption)
              have q284 : x8_1 < (l0.length : Int) := of_decide_eq_true (by first | (with_reducible assumption) | assumption)
              obtain ⟨ad284, e284, hx284_0⟩ := Kd.at_int HR0.out x8_1 p284 q284
              cases e284
              replace p284 := eq_true p284
              replace q284 := eq_true q284
              go_wp2
              go_roundg k1
              case measure => have := HK1.out; omega
              case rel => exact ⟨(wrap64 (x8_1 + 1)), (by first | rfl | (simp; done) | (simp [*]; done)), H', ⟨by have := HK1.out; omega⟩, by repeat (first | exact Drawn0.refl _ | apply Drawn0.step)⟩
          · rw [if_neg c5] at H
            exact absurd H (by simp)
        · rw [if_neg c4] at H
          exact absurd H (by simp)
      · rw [if_neg c3] at H
        have c3b0 : decide (x8_1 < (l0.length : Int)) = false := decide_eq_false c3
        clear c3
        obtain rfl := Option.some.inj H
        go_wp2
        go_ret
        exact ⟨by first | rfl | (simp; done) | (simp [*]; done), by repeat (first | exact Drawn0.refl _ | apply Drawn0.step)⟩

/-! ### slices_Contains_int_int: function 33 -/
def slices_Contains_int_int.f (k : Nat) (l0 : List Int) (a1 : Int) : Option (Bool) := (slices_Index_int_int.f k l0 a1).bind fun t285 => (some (decide (t285 ≥ 0)))
theorem slices_Contains_int_int.mono : ∀ a0 a1 k, LeO (slices_Contains_int_int.f k a0 a1) (slices_Contains_int_int.f (k + 1) a0 a1) := by
  intro a0 a1 k
  unfold slices_Contains_int_int.f
  repeat' first
      | (with_reducible exact slices_Index_int_int.mono _ _ _)
      | (with_reducible exact LeO.refl _)
      | (with_reducible exact LeO.none _)
      | (with_reducible refine LeO.ite ?_ ?_)
      | (with_reducible refine LeO.bind ?_ (fun _ => ?_))
      | exact slices_Index_int_int.mono _ _ _
      | exact LeO.none _
      | refine LeO.ite ?_ ?_
      | refine LeO.bind ?_ (fun _ => ?_)
set_option maxHeartbeats 8000000 in
set_option maxRecDepth 100000 in
theorem slices_Contains_int_int.calls (k : Nat) (A0 : Option Addr) (c0 : Nat) (l0 : List Int) (a1 : Int) (r : Bool) (w : World) (hr0 : Kd.C (Kd.int .i64) w A0 l0.length l0) (hc0 : l0.length ≤ c0) (h : slices_Contains_int_int.f k l0 a1 = some r) :
    Calls Tryd.prog 33 #[.slice A0 l0.length c0, .int .i64 a1] w fun e w' => e = .returned (.bool r) ∧ Drawn0 w w' := by
  have HR0 := Aside0.mk hr0
  have HC0 := Aside0.mk hc0
  clear hr0 hc0
  have H : ((slices_Index_int_int.f k l0 a1).bind fun t285 => (some (decide (t285 ≥ 0)))) = some r := h
  clear h
  replace H := Option.bind_eq_some_iff.mp H
  obtain ⟨t285, A30, H⟩ := H
  replace H : (some (decide (t285 ≥ 0))) = some r := H
  have A3 := Aside0.mk A30
  clear A30
  obtain rfl := Option.some.inj H
  go_enter Tryd.func33, Tryd.ntmps33
  go_wp2_with (first | ((with_reducible refine gate_callee (f := 41) rfl ?_); refine goesL_ (some 7) rfl rfl Tryd.func41 (by kernel_rfl) rfl #[.slice A0 l0.length c0, .int .i64 a1] rfl (by (try simp only [List.map_toArray, List.map_cons, List.map_nil]); first | done | rfl | (simp only [List.length_drop, List.length_take]; rfl)) ?_; (with_reducible refine (slices_Index_int_int.calls k _ _ l0 a1 t285 _ ?side1 ?side2 A3.out).mono ?_); (case side1 => repeat (first | exact HR0.out | (with_reducible refine Kd.C_alloc ?_ _) | (with_reducible refine Kd.C_drewN ?_ _) | (with_reducible refine Kd.C_drew ?_))); (case side2 => exact HC0.out); rintro e w' ⟨rfl, ⟨nd, rfl⟩⟩; refine ⟨_, rfl, ?_⟩))
  go_ret
  exact ⟨by first | rfl | (simp; done) | (simp [*]; done), by repeat (first | exact Drawn0.refl _ | apply Drawn0.step)⟩

/-! ### deviation_Valid: function 18 -/
def deviation_ok (l : List S56) (p : Int) (acts : List S51) (i : Int) : Bool :=
  decide (0 ≤ (rd_T51 acts i).f0) && (decide ((rd_T51 acts i).f0 < (l.length : Int)) && ((rd_T56 l (rd_T51 acts i).f0).f2 == p && (((rd_T51 acts i).f1 == 1 || ((rd_T51 acts i).f1 == 2 || (rd_T51 acts i).f1 == 3)) && (decide (i ≤ 0) || decide ((rd_T51 acts (i - 1)).f0 < (rd_T51 acts i).f0)))))
def deviation_Valid.f (l0 : List S56) (a1_0 : Int) (l1_1 : List S51) : Option Bool := if l1_1.length < 1099511627776 then some ((List.range l1_1.length).all (fun k => deviation_ok l0 a1_0 l1_1 (k : Int))) else none
theorem deviation_hows (k : Nat) (h : Int) : slices_Contains_int_int.f (k + 4) [1, 2, 3] h = some (h == 1 || (h == 2 || h == 3)) := by
  have w1 : wrap64 1 = 1 := by unfold wrap64; omega
  have w2 : wrap64 2 = 2 := by unfold wrap64; omega
  have w3 : wrap64 3 = 3 := by unfold wrap64; omega
  have g1 : rd [1, 2, 3] 0 = 1 := rfl
  have g2 : rd [1, 2, 3] 1 = 2 := rfl
  have g3 : rd [1, 2, 3] 2 = 3 := rfl
  have hn : ((([1, 2, 3] : List Int).length : Nat) : Int) = 3 := rfl
  unfold slices_Contains_int_int.f slices_Index_int_int.f
  rw [hn]
  by_cases h1 : h = 1
  · subst h1
    simp [slices_Index_int_int.l0, g1]
  · by_cases h2 : h = 2
    · subst h2
      simp [slices_Index_int_int.l0, g1, g2, w1]
    · by_cases h3 : h = 3
      · subst h3
        simp [slices_Index_int_int.l0, g1, g2, g3, w1, w2]
      · simp [slices_Index_int_int.l0, g1, g2, g3, w1, w2, w3, h1, h2, h3]
theorem deviation_reads {w : World} (h : Laid w) : Kd.C (Kd.int .i64) w (some ⟨0, 0, none⟩) ([1, 2, 3] : List Int).length [1, 2, 3] :=
  Kd.C_of_reads (enc := Value.int .i64) (d := (0 : Int)) (h1 := fun _ => rfl) ⟨rfl, by decide, fun _ => ⟨_, rfl, fun j hj => by rw [add_plain]; exact h j hj⟩⟩
theorem deviation_quiet {f : FuncId} {args : Array Value} {w : World} {n : Nat} {v : Value} (h : Calls Tryd.prog f args (w.drewN n) fun e w' => e = .returned v ∧ Drawn0 (w.drewN n) w') :
    Calls Tryd.prog f args (w.drewN n) fun e w'' => e = .returned v ∧ ∃ m, w'' = w.drewN m := Calls.quiet_of (h.mono fun _ _ ⟨he, hd⟩ => ⟨he, hd.out⟩)
theorem deviation_all_false {l : List S56} {p : Int} {acts : List S51} {i : Int} (h0 : 0 ≤ i) (h1 : i < acts.length) (h : deviation_ok l p acts i = false) : (List.range acts.length).all (fun k => deviation_ok l p acts (k : Int)) = false := by
  rw [List.all_eq_false]
  exact ⟨i.toNat, by rw [List.mem_range]; omega, by rw [show ((i.toNat : Nat) : Int) = i by omega, h]; decide⟩
theorem deviation_all_next {l : List S56} {p : Int} {acts : List S51} {i : Int} (h0 : 0 ≤ i) (h : deviation_ok l p acts i = true) (ha : (List.range i.toNat).all (fun k => deviation_ok l p acts (k : Int)) = true) : (List.range (i + 1).toNat).all (fun k => deviation_ok l p acts (k : Int)) = true := by
  rw [show (i + 1).toNat = i.toNat + 1 by omega, List.range_succ, List.all_append, ha]
  simp [show ((i.toNat : Nat) : Int) = i by omega, h]
set_option maxHeartbeats 4000000 in
set_option maxRecDepth 100000 in
theorem deviation_Valid.calls (A0 : Option Addr) (c0 : Nat) (l0 : List S56) (a1_0 : Int) (A1_1 : Option Addr) (c1_1 : Nat) (l1_1 : List S51) (r : Bool) (w : World) (hr0 : Kd.C k56 w A0 l0.length l0) (hc0 : l0.length ≤ c0) (hr1_1 : Kd.C k51 w A1_1 l1_1.length l1_1) (hc1_1 : l1_1.length ≤ c1_1) (h : deviation_Valid.f l0 a1_0 l1_1 = some r) (hL_ : Laid w) :
    Calls Tryd.prog 18 #[.slice A0 l0.length c0, .agg #[.int .i64 a1_0, .slice A1_1 l1_1.length c1_1]] w fun e w' => e = .returned (.bool r) ∧ Below w.heap.size w w' := by
  unfold deviation_Valid.f at h
  split at h
  · rename_i hl
    obtain rfl := Option.some.inj h
    have HB := Aside0.mk (below_alloc (Below.refl w.heap.size w) (.cells #[.int .i64 a1_0, .slice A1_1 l1_1.length c1_1] 39))
    have HG := Aside0.mk (heap_alloc_new w (.cells #[.int .i64 a1_0, .slice A1_1 l1_1.length c1_1] 39))
    have HR0 := Aside0.mk hr0
    have HR1 := Aside0.mk hr1_1
    have HL := Aside0.mk hl
    have HLL := Aside0.mk hL_
    have hu := Tryd.underlying51
    obtain ⟨g, hg⟩ : ∃ g, g = w.heap.size := ⟨_, rfl⟩
    have HGE := Aside0.mk (Nat.le_of_eq hg.symm)
    clear hr0 hc0 hr1_1 hc1_1 h hl hL_
    go_enter Tryd.func18, Tryd.ntmps18
    go_wp2
    rw [← hg] at HG ⊢
    clear hg
    go_loopw [10] (fun v10 w' => ∃ i : Int, 0 ≤ i ∧ i ≤ l1_1.length ∧ v10 = .int .i64 i ∧ Aside0 ((List.range i.toNat).all (fun k => deviation_ok l0 a1_0 l1_1 (k : Int)) = true) ∧ Aside0 (w'.heap[g]? = some (.cells #[.int .i64 a1_0, .slice A1_1 l1_1.length c1_1] 39 (0, 0))) ∧ Aside0 (Below w.heap.size w w')) (fun v10 _ => l1_1.length - (intOf v10).toNat)
    case atStart => exact ⟨0, by omega, by omega, rfl, ⟨rfl⟩, HG, HB⟩
    case round =>
      clear HG HB
      obtain ⟨i, hi0, hi, rfl, HA, HG, HB⟩ := hrel
      by_cases hlt : i < (l1_1.length : Int)
      · obtain ⟨ad, e0, q0, q1⟩ := at_T51 (Kd.C_below HR1.out HB.out) i hi0 hlt
        subst e0
        obtain ⟨x0, hx0⟩ : ∃ x0, x0 = (rd_T51 l1_1 i).f0 := ⟨_, rfl⟩
        obtain ⟨x1, hx1⟩ : ∃ x1, x1 = (rd_T51 l1_1 i).f1 := ⟨_, rfl⟩
        have HX0 := Aside0.mk hx0
        have HX1 := Aside0.mk hx1
        rw [← hx0] at q0
        rw [← hx1] at q1
        clear hx0 hx1
        have i0 : (0 ≤ i) = True := eq_true (by omega)
        have i1 : (i < (l1_1.length : Int)) = True := eq_true (by omega)
        have i2 : decide (i < (l1_1.length : Int)) = true := decide_eq_true hlt
        have hm : wr.cell? ⟨g, 1, none⟩ = some (.slice (some ad) l1_1.length c1_1) := blk_cell HG.out 1
        go_upto_region 4 with (fail)
        have HB2 := Aside0.mk (HB.out.alloc HB.out.size (.cells #[.int .i64 x0, .int .i64 x1] 51))
        have HG2 := Aside0.mk (((below_alloc (Below.refl wr.heap.size wr) (.cells #[.int .i64 x0, .int .i64 x1] 51)).block g (blk_lt HG.out)).trans HG.out)
        have hn := heap_alloc_new wr (.cells #[.int .i64 x0, .int .i64 x1] 51)
        have HN := Aside0.mk hn
        clear hn hm q0 q1 HB HG
        generalize wr.alloc (.cells #[.int .i64 x0, .int .i64 x1] 51) = W at *
        obtain ⟨gn, hgn⟩ : ∃ gn, gn = wr.heap.size := ⟨_, rfl⟩
        rw [← hgn] at HN ⊢
        clear hgn
        have m0 : W.cell? ⟨g, 0, none⟩ = some (.int .i64 a1_0) := blk_cell HG2.out 0
        have m1 : W.cell? ⟨g, 1, none⟩ = some (.slice (some ad) l1_1.length c1_1) := blk_cell HG2.out 1
        have n0 : W.cell? ⟨gn, 0, none⟩ = some (.int .i64 x0) := blk_cell HN.out 0
        have n1 : W.cell? ⟨gn, 1, none⟩ = some (.int .i64 x1) := blk_cell HN.out 1
        have HLW := Aside0.mk (laid_below HLL.out HB2.out)
        by_cases d0 : x0 < 0
        · have f0 : deviation_ok l0 a1_0 l1_1 i = false := by unfold deviation_ok; rw [← HX0.out, decide_eq_false (by omega : ¬ 0 ≤ x0)]; rfl
          have HF := Aside0.mk (deviation_all_false hi0 hlt f0)
          clear f0
          have d0b : decide (x0 < 0) = true := decide_eq_true d0
          go_quiet (fail)
          go_wp2
          go_ret
          exact ⟨by rw [HF.out]; rfl, pw_below_drewN HB2.out _⟩
        · have d0b : decide (x0 < 0) = false := decide_eq_false d0
          by_cases d1 : (l0.length : Int) ≤ x0
          · have f0 : deviation_ok l0 a1_0 l1_1 i = false := by unfold deviation_ok; rw [← HX0.out, decide_eq_false (by omega : ¬ x0 < (l0.length : Int))]; simp
            have HF := Aside0.mk (deviation_all_false hi0 hlt f0)
            clear f0
            have d1b : decide ((l0.length : Int) ≤ x0) = true := decide_eq_true d1
            go_quiet (fail)
            go_wp2
            go_ret
            exact ⟨by rw [HF.out]; rfl, pw_below_drewN HB2.out _⟩
          · have d1b : decide ((l0.length : Int) ≤ x0) = false := decide_eq_false d1
            obtain ⟨ad2, ea, _, _, q2, _⟩ := at_T56 (Kd.C_below HR0.out HB2.out) x0 (by omega) (by omega)
            subst ea
            have j0 : (0 ≤ x0) = True := eq_true (by omega)
            have j1 : (x0 < (l0.length : Int)) = True := eq_true (by omega)
            obtain ⟨pr, hpr⟩ : ∃ pr, pr = (rd_T56 l0 x0).f2 := ⟨_, rfl⟩
            have HPR := Aside0.mk hpr
            rw [← hpr] at q2
            clear hpr
            cases d2 : pr == a1_0
            · have f0 : deviation_ok l0 a1_0 l1_1 i = false := by unfold deviation_ok; rw [← HX0.out, ← HPR.out, d2]; simp
              have HF := Aside0.mk (deviation_all_false hi0 hlt f0)
              clear f0
              have d2b : (pr != a1_0) = true := by simp only [bne, d2]; rfl
              go_quiet (fail)
              go_wp2
              go_ret
              exact ⟨by rw [HF.out]; rfl, pw_below_drewN HB2.out _⟩
            · have d2b : (pr != a1_0) = false := by simp only [bne, d2]; rfl
              have HC := Aside0.mk (deviation_hows 0 x1)
              cases d3 : (x1 == 1 || (x1 == 2 || x1 == 3))
              · have f0 : deviation_ok l0 a1_0 l1_1 i = false := by unfold deviation_ok; rw [← HX1.out, d3]; simp
                have HF := Aside0.mk (deviation_all_false hi0 hlt f0)
                clear f0
                rw [d3] at HC
                go_quiet ((go_at_call 33; exact deviation_quiet (slices_Contains_int_int.calls 4 _ 3 [1, 2, 3] x1 false _ (deviation_reads (laid_drawn HLW.out ⟨_, rfl⟩)) (by decide) HC.out)))
                go_wp2
                go_ret
                exact ⟨by rw [HF.out]; rfl, pw_below_drewN HB2.out _⟩
              · rw [d3] at HC
                have wi : wrap64 (i + 1) = i + 1 := by have := HL.out; unfold wrap64; omega
                by_cases d4 : i ≤ 0
                · have f0 : deviation_ok l0 a1_0 l1_1 i = true := by unfold deviation_ok; rw [← HX0.out, ← HX1.out, ← HPR.out, d2, d3, decide_eq_true (by omega : 0 ≤ x0), decide_eq_true (by omega : x0 < (l0.length : Int)), decide_eq_true d4]; rfl
                  have HF := Aside0.mk (deviation_all_next hi0 f0 HA.out)
                  clear f0
                  have d4b : decide (0 < i) = false := decide_eq_false (by omega)
                  go_quiet ((go_at_call 33; exact deviation_quiet (slices_Contains_int_int.calls 4 _ 3 [1, 2, 3] x1 true _ (deviation_reads (laid_drawn HLW.out ⟨_, rfl⟩)) (by decide) HC.out)))
                  go_wp2
                  go_roundw
                  case rel => exact ⟨i + 1, by omega, by omega, by first | rfl | go_num, HF, ⟨HG2.out⟩, ⟨pw_below_drewN HB2.out _⟩⟩
                  case measure => simp [intOf] <;> omega
                · have d4b : decide (0 < i) = true := decide_eq_true (by omega)
                  obtain ⟨im, him⟩ : ∃ im, im = i - 1 := ⟨_, rfl⟩
                  obtain ⟨ad3, ec, q3, _⟩ := at_T51 (Kd.C_below HR1.out HB2.out) im (by omega) (by omega)
                  cases ec
                  have w1 : wrap64 (i - 1) = im := by have := HL.out; unfold wrap64; omega
                  have w2 : IntKind.i64.wrap (i - 1) = im := by rw [IntWalk.i64_in _ (by have := HL.out; omega), him]
                  have k0 : (0 ≤ im) = True := eq_true (by omega)
                  have k1 : (im < (l1_1.length : Int)) = True := eq_true (by omega)
                  obtain ⟨y0, hy0⟩ : ∃ y0, y0 = (rd_T51 l1_1 (i - 1)).f0 := ⟨_, rfl⟩
                  have HY0 := Aside0.mk hy0
                  rw [show rd_T51 l1_1 im = rd_T51 l1_1 (i - 1) by rw [him], ← hy0] at q3
                  clear hy0 him
                  by_cases d5 : x0 ≤ y0
                  · have f0 : deviation_ok l0 a1_0 l1_1 i = false := by unfold deviation_ok; rw [← HX0.out, ← HX1.out, ← HPR.out, ← HY0.out, d2, d3, decide_eq_false d4, decide_eq_false (by omega : ¬ y0 < x0)]; simp
                    have HF := Aside0.mk (deviation_all_false hi0 hlt f0)
                    clear f0
                    have d5b : decide (x0 ≤ y0) = true := decide_eq_true d5
                    go_quiet ((go_at_call 33; exact deviation_quiet (slices_Contains_int_int.calls 4 _ 3 [1, 2, 3] x1 true _ (deviation_reads (laid_drawn HLW.out ⟨_, rfl⟩)) (by decide) HC.out)))
                    go_wp2
                    go_ret
                    exact ⟨by rw [HF.out]; rfl, pw_below_drewN HB2.out _⟩
                  · have f0 : deviation_ok l0 a1_0 l1_1 i = true := by unfold deviation_ok; rw [← HX0.out, ← HX1.out, ← HPR.out, ← HY0.out, d2, d3, decide_eq_true (by omega : 0 ≤ x0), decide_eq_true (by omega : x0 < (l0.length : Int)), decide_eq_false d4, decide_eq_true (by omega : y0 < x0)]; rfl
                    have HF := Aside0.mk (deviation_all_next hi0 f0 HA.out)
                    clear f0
                    have d5b : decide (x0 ≤ y0) = false := decide_eq_false d5
                    go_quiet ((go_at_call 33; exact deviation_quiet (slices_Contains_int_int.calls 4 _ 3 [1, 2, 3] x1 true _ (deviation_reads (laid_drawn HLW.out ⟨_, rfl⟩)) (by decide) HC.out)))
                    go_wp2
                    go_roundw
                    case rel => exact ⟨i + 1, by omega, by omega, by first | rfl | go_num, HF, ⟨HG2.out⟩, ⟨pw_below_drewN HB2.out _⟩⟩
                    case measure => simp [intOf] <;> omega
      · have i2 : decide (i < (l1_1.length : Int)) = false := decide_eq_false hlt
        go_wp2
        go_ret
        refine ⟨?_, HB.out⟩
        have h1 := HA.out
        rw [show i.toNat = l1_1.length by omega] at h1
        rw [h1]
        rfl
  · cases h

end Go.Proofs.YtdflpnfceajomaaDoor.PDeviationSteps
