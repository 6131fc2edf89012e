-- Written by a program of this repository (wip/tools/myprint.py over the print of the kit): contracts and rows.
import Derived.Test.YtgckkjgemkabnaaDoorPSlotDropsx0
import Derived.Test.YtgckkjgemkabnaaDoorPSlotDropsx1
import Derived.Test.YtgckkjgemkabnaaDoorPSlotDropsx3
import Derived.Test.YtgckkjgemkabnaaDoorPSlotDropsx4
import Derived.Test.YtgckkjgemkabnaaDoorPSlotDropsx5
import Derived.Test.YtgckkjgemkabnaaDoorPSlotDropsx6
import Derived.Test.YtgckkjgemkabnaaDoorPSlotDropsx7
namespace Go.Proofs.YtgckkjgemkabnaaDoor.PSlotDrops
open Go.RowKit Go.Proofs.YtgckkjgemkabnaaDoorW.PrintWords Go.Proofs.YtgckkjgemkabnaaDoorW.PrintLast Go.Proofs.YtgckkjgemkabnaaDoorW.PrintMore
attribute [local go_sem] max2_int min2_int max_two min_two max_three min_three max_four min_four   -- for this text's walks alone
set_option linter.unusedVariables false
set_option linter.unusedSimpArgs false
/-- Fourteen stores into another block. -/
theorem blk_far14 {w : World} {g g' : Nat} {o : Obj} (h : w.heap[g]? = some o) (hn : g ≠ g') (u0 u1 u2 u3 u4 u5 u6 u7 u8 u9 u10 u11 u12 u13 : Value) : ((((((((((((((w.setCell ⟨g', 0, none⟩ u0).setCell ⟨g', 1, none⟩ u1).setCell ⟨g', 2, none⟩ u2).setCell ⟨g', 3, none⟩ u3).setCell ⟨g', 4, none⟩ u4).setCell ⟨g', 5, none⟩ u5).setCell ⟨g', 6, none⟩ u6).setCell ⟨g', 7, none⟩ u7).setCell ⟨g', 8, none⟩ u8).setCell ⟨g', 9, none⟩ u9).setCell ⟨g', 10, none⟩ u10).setCell ⟨g', 11, none⟩ u11).setCell ⟨g', 12, none⟩ u12).setCell ⟨g', 13, none⟩ u13).heap[g]? = some o := by
  repeat' refine Eq.trans (Below.heap_setCell _ _ _ _ hn) ?_
  exact h

/-! ### storagebarterlaw29_SlotDrops: function 11 -/
mutual
def storagebarterlaw29_SlotDrops.l0 : Nat → Int → Int → Bool → List (S36) → Int → Int → Int → Int → Int → Int → List Int → Int → Int → Int → Int → List Int → Int → Int → Int → Bool → Bool → Bool → Bool → Bool → Int → Option (Bool)
 | 0, _, _, _, _, _, _, _, _, _, _, _, _, _, _, _, _, _, _, _, _, _, _, _, _, _ => none
 | k + 1, x9, x10, x11, x49, x50, x51, bah, baj, bak, bam, ban, x195000, x195001, x195002, x195003, x195004, x195005, x195006, x195007, x195008, x195009, x195010, x195011, bb4, x195013 => if x51 < x50 then (if 0 ≤ x51 then (if x51 < (x49.length : Int) then (if x51 = x9 then (storagebarterlaw29_SlotDrops.j1 k x9 x10 x11 0 x49 x50 x51 (((rd_T36 x49 x51).f3) == 5) bah baj bak bam ban x195000 x195001 x195002 x195003 x195004 x195005 x195006 x195007 x195008 x195009 x195010 x195011 bb4 x195013 ((rd_T36 x49 x51).f0) ((rd_T36 x49 x51).f1) ((rd_T36 x49 x51).f2) ((rd_T36 x49 x51).f3)) else (storagebarterlaw29_SlotDrops.j1 k x9 x10 x11 0 x49 x50 x51 false bah baj bak bam ban x195000 x195001 x195002 x195003 x195004 x195005 x195006 x195007 x195008 x195009 x195010 x195011 bb4 x195013 ((rd_T36 x49 x51).f0) ((rd_T36 x49 x51).f1) ((rd_T36 x49 x51).f2) ((rd_T36 x49 x51).f3))) else (none)) else (none)) else (some (bb4 == x11))
def storagebarterlaw29_SlotDrops.j1 : Nat → Int → Int → Bool → Int → List (S36) → Int → Int → Bool → Int → Int → Int → Int → List Int → Int → Int → Int → Int → List Int → Int → Int → Int → Bool → Bool → Bool → Bool → Bool → Int → Int → Int → Int → Int → Option (Bool)
 | 0, _, _, _, _, _, _, _, _, _, _, _, _, _, _, _, _, _, _, _, _, _, _, _, _, _, _, _, _, _, _, _ => none
 | k + 1, x9, x10, x11, x14, x49, x50, x51, x63, bah, baj, bak, bam, ban, x195000, x195001, x195002, x195003, x195004, x195005, x195006, x195007, x195008, x195009, x195010, x195011, bb4, x195013, x204000, x204001, x204002, x204003 => if x63 = true then (storagebarterlaw29_SlotDrops.j2 k x9 x10 true 1 x49 x50 x51 bah baj bak bam ban x195000 x195001 x195002 x195003 x195004 x195005 x195006 x195007 x195008 x195009 x195010 x195011 bb4 x195013 x204000 x204001 x204002 x204003) else (storagebarterlaw29_SlotDrops.j2 k x9 x10 x11 x14 x49 x50 x51 bah baj bak bam ban x195000 x195001 x195002 x195003 x195004 x195005 x195006 x195007 x195008 x195009 x195010 x195011 bb4 x195013 x204000 x204001 x204002 x204003)
def storagebarterlaw29_SlotDrops.j2 : Nat → Int → Int → Bool → Int → List (S36) → Int → Int → Int → Int → Int → Int → List Int → Int → Int → Int → Int → List Int → Int → Int → Int → Bool → Bool → Bool → Bool → Bool → Int → Int → Int → Int → Int → Option (Bool)
 | 0, _, _, _, _, _, _, _, _, _, _, _, _, _, _, _, _, _, _, _, _, _, _, _, _, _, _, _, _, _, _ => none
 | k + 1, x9, x10, x11, x14, x49, x50, x51, bah, baj, bak, bam, ban, x195000, x195001, x195002, x195003, x195004, x195005, x195006, x195007, x195008, x195009, x195010, x195011, bb4, x195013, x204000, x204001, x204002, x204003 => (slot_Step.f k x195000 x195001 x195002 x195003 x195004 x195005 x195006 x195007 x195008 x195009 x195010 x195011 bb4 x195013 x14).bind fun bt204 => (if bt204.2.2.2.2.2.2.2.2.2.2.2.2.2.2 = 0 then (if x11 = true then (if x204002 = x10 then (if x204003 = 6 then (storagebarterlaw29_SlotDrops.j3 k x9 x10 x11 bb4 true x49 x50 x51 bah baj bak bam ban bt204.1 bt204.2.1 bt204.2.2.1 bt204.2.2.2.1 bt204.2.2.2.2.1 bt204.2.2.2.2.2.1 bt204.2.2.2.2.2.2.1 bt204.2.2.2.2.2.2.2.1 bt204.2.2.2.2.2.2.2.2.1 bt204.2.2.2.2.2.2.2.2.2.1 bt204.2.2.2.2.2.2.2.2.2.2.1 bt204.2.2.2.2.2.2.2.2.2.2.2.1 bt204.2.2.2.2.2.2.2.2.2.2.2.2.1 bt204.2.2.2.2.2.2.2.2.2.2.2.2.2.1) else (storagebarterlaw29_SlotDrops.j3 k x9 x10 x11 bb4 (x204003 == 7) x49 x50 x51 bah baj bak bam ban bt204.1 bt204.2.1 bt204.2.2.1 bt204.2.2.2.1 bt204.2.2.2.2.1 bt204.2.2.2.2.2.1 bt204.2.2.2.2.2.2.1 bt204.2.2.2.2.2.2.2.1 bt204.2.2.2.2.2.2.2.2.1 bt204.2.2.2.2.2.2.2.2.2.1 bt204.2.2.2.2.2.2.2.2.2.2.1 bt204.2.2.2.2.2.2.2.2.2.2.2.1 bt204.2.2.2.2.2.2.2.2.2.2.2.2.1 bt204.2.2.2.2.2.2.2.2.2.2.2.2.2.1)) else (storagebarterlaw29_SlotDrops.j3 k x9 x10 x11 bb4 false x49 x50 x51 bah baj bak bam ban bt204.1 bt204.2.1 bt204.2.2.1 bt204.2.2.2.1 bt204.2.2.2.2.1 bt204.2.2.2.2.2.1 bt204.2.2.2.2.2.2.1 bt204.2.2.2.2.2.2.2.1 bt204.2.2.2.2.2.2.2.2.1 bt204.2.2.2.2.2.2.2.2.2.1 bt204.2.2.2.2.2.2.2.2.2.2.1 bt204.2.2.2.2.2.2.2.2.2.2.2.1 bt204.2.2.2.2.2.2.2.2.2.2.2.2.1 bt204.2.2.2.2.2.2.2.2.2.2.2.2.2.1)) else (storagebarterlaw29_SlotDrops.j3 k x9 x10 x11 bb4 false x49 x50 x51 bah baj bak bam ban bt204.1 bt204.2.1 bt204.2.2.1 bt204.2.2.2.1 bt204.2.2.2.2.1 bt204.2.2.2.2.2.1 bt204.2.2.2.2.2.2.1 bt204.2.2.2.2.2.2.2.1 bt204.2.2.2.2.2.2.2.2.1 bt204.2.2.2.2.2.2.2.2.2.1 bt204.2.2.2.2.2.2.2.2.2.2.1 bt204.2.2.2.2.2.2.2.2.2.2.2.1 bt204.2.2.2.2.2.2.2.2.2.2.2.2.1 bt204.2.2.2.2.2.2.2.2.2.2.2.2.2.1)) else (some false))
def storagebarterlaw29_SlotDrops.j3 : Nat → Int → Int → Bool → Bool → Bool → List (S36) → Int → Int → Int → Int → Int → Int → List Int → Int → Int → Int → Int → List Int → Int → Int → Int → Bool → Bool → Bool → Bool → Bool → Int → Option (Bool)
 | 0, _, _, _, _, _, _, _, _, _, _, _, _, _, _, _, _, _, _, _, _, _, _, _, _, _, _, _ => none
 | k + 1, x9, x10, x11, x15, x18, x49, x50, x51, bah, baj, bak, bam, ban, bas, bat, bau, bav, baw, bax, bay, baz, bb0, bb1, bb2, bb3, bap, baq => if x15 = true then (if (bap != true) = true then (storagebarterlaw29_SlotDrops.j4 k x9 x10 x11 x49 x50 x51 true bah baj bak bam ban bas bat bau bav baw bax bay baz bb0 bb1 bb2 bb3 bap baq) else (if bap = true then (storagebarterlaw29_SlotDrops.j4 k x9 x10 x11 x49 x50 x51 (baq != x10) bah baj bak bam ban bas bat bau bav baw bax bay baz bb0 bb1 bb2 bb3 bap baq) else (storagebarterlaw29_SlotDrops.j4 k x9 x10 x11 x49 x50 x51 false bah baj bak bam ban bas bat bau bav baw bax bay baz bb0 bb1 bb2 bb3 bap baq))) else (if (bap != x18) = true then (storagebarterlaw29_SlotDrops.j4 k x9 x10 x11 x49 x50 x51 true bah baj bak bam ban bas bat bau bav baw bax bay baz bb0 bb1 bb2 bb3 bap baq) else (if bap = true then (storagebarterlaw29_SlotDrops.j4 k x9 x10 x11 x49 x50 x51 (baq != x10) bah baj bak bam ban bas bat bau bav baw bax bay baz bb0 bb1 bb2 bb3 bap baq) else (storagebarterlaw29_SlotDrops.j4 k x9 x10 x11 x49 x50 x51 false bah baj bak bam ban bas bat bau bav baw bax bay baz bb0 bb1 bb2 bb3 bap baq)))
def storagebarterlaw29_SlotDrops.j4 : Nat → Int → Int → Bool → List (S36) → Int → Int → Bool → Int → Int → Int → Int → List Int → Int → Int → Int → Int → List Int → Int → Int → Int → Bool → Bool → Bool → Bool → Bool → Int → Option (Bool)
 | 0, _, _, _, _, _, _, _, _, _, _, _, _, _, _, _, _, _, _, _, _, _, _, _, _, _, _ => none
 | k + 1, x9, x10, x11, x49, x50, x51, x107, bah, baj, bak, bam, ban, bas, bat, bau, bav, baw, bax, bay, baz, bb0, bb1, bb2, bb3, bap, baq => if x107 = true then (some false) else (if x10 = bah then (if x11 = true then ((slot_Kept.f bas bat bau bav baw bax bay baz bb0 bb1 bb2 bb3 bap baq baj).bind fun t222 => (if t222 = true then (some false) else (storagebarterlaw29_SlotDrops.l0 k x9 x10 x11 x49 x50 (wrap64 (x51 + 1)) bah baj bak bam ban bas bat bau bav baw bax bay baz bb0 bb1 bb2 bb3 bap baq))) else (storagebarterlaw29_SlotDrops.l0 k x9 x10 x11 x49 x50 (wrap64 (x51 + 1)) bah baj bak bam ban bas bat bau bav baw bax bay baz bb0 bb1 bb2 bb3 bap baq)) else (if x11 = true then ((slot_Kept.f bas bat bau bav baw bax bay baz bb0 bb1 bb2 bb3 bap baq bah).bind fun t223 => (if t223 = true then (some false) else (storagebarterlaw29_SlotDrops.l0 k x9 x10 x11 x49 x50 (wrap64 (x51 + 1)) bah baj bak bam ban bas bat bau bav baw bax bay baz bb0 bb1 bb2 bb3 bap baq))) else (storagebarterlaw29_SlotDrops.l0 k x9 x10 x11 x49 x50 (wrap64 (x51 + 1)) bah baj bak bam ban bas bat bau bav baw bax bay baz bb0 bb1 bb2 bb3 bap baq)))
end
def storagebarterlaw29_SlotDrops.f (k : Nat) (l0 : List Int) : Option (Bool) := (storagebarterlaw29_sane.f).bind fun t164 => (if t164 = true then ((storagebarterplay_New.f l0).bind fun bt165 => ((storagebarterplay_Dice_Arrangement.f k bt165.1 bt165.2 4).bind fun bt168 => ((slot_New.f k bt168.1 bt168.2.1 bt168.2.2.1 bt168.2.2.2.1 bt168.2.2.2.2.1).bind fun bt177 => ((storagebarterref28_Plan.f k bt168.1 bt168.2.1 bt168.2.2.1 bt168.2.2.2.1 bt168.2.2.2.2.1 0 true).bind fun bt195 => (if bt177.2.2.2.2.2.2.2.2.2.2.2.2.2.2 = 0 then ((storagebarterplay_Dice_Pick.f bt165.1 bt168.2.2.2.2.2 (wrap64 ((bt195.1.length : Int) - 8))).bind fun bt199 => (if 0 ≤ (wrap64 (8 + bt199.1)) then (if (wrap64 (8 + bt199.1)) < (bt195.1.length : Int) then (storagebarterlaw29_SlotDrops.l0 k (wrap64 (8 + bt199.1)) ((rd_T36 bt195.1 (wrap64 (8 + bt199.1))).f2) false bt195.1 (bt195.1.length : Int) 0 bt168.1 bt168.2.1 bt168.2.2.1 bt168.2.2.2.1 bt168.2.2.2.2.1 bt177.1 bt177.2.1 bt177.2.2.1 bt177.2.2.2.1 bt177.2.2.2.2.1 bt177.2.2.2.2.2.1 bt177.2.2.2.2.2.2.1 bt177.2.2.2.2.2.2.2.1 bt177.2.2.2.2.2.2.2.2.1 bt177.2.2.2.2.2.2.2.2.2.1 bt177.2.2.2.2.2.2.2.2.2.2.1 bt177.2.2.2.2.2.2.2.2.2.2.2.1 bt177.2.2.2.2.2.2.2.2.2.2.2.2.1 bt177.2.2.2.2.2.2.2.2.2.2.2.2.2.1) else (none)) else (none))) else (some false)))))) else (some false))
theorem storagebarterlaw29_SlotDrops.mono_l : ∀ k, (∀ y0 y1 y2 y3 y4 y5 y6 y7 y8 y9 y10 y11 y12 y13 y14 y15 y16 y17 y18 y19 y20 y21 y22 y23 y24, LeO (storagebarterlaw29_SlotDrops.l0 k y0 y1 y2 y3 y4 y5 y6 y7 y8 y9 y10 y11 y12 y13 y14 y15 y16 y17 y18 y19 y20 y21 y22 y23 y24) (storagebarterlaw29_SlotDrops.l0 (k + 1) y0 y1 y2 y3 y4 y5 y6 y7 y8 y9 y10 y11 y12 y13 y14 y15 y16 y17 y18 y19 y20 y21 y22 y23 y24)) ∧ (∀ y0 y1 y2 y3 y4 y5 y6 y7 y8 y9 y10 y11 y12 y13 y14 y15 y16 y17 y18 y19 y20 y21 y22 y23 y24 y25 y26 y27 y28 y29 y30, LeO (storagebarterlaw29_SlotDrops.j1 k y0 y1 y2 y3 y4 y5 y6 y7 y8 y9 y10 y11 y12 y13 y14 y15 y16 y17 y18 y19 y20 y21 y22 y23 y24 y25 y26 y27 y28 y29 y30) (storagebarterlaw29_SlotDrops.j1 (k + 1) y0 y1 y2 y3 y4 y5 y6 y7 y8 y9 y10 y11 y12 y13 y14 y15 y16 y17 y18 y19 y20 y21 y22 y23 y24 y25 y26 y27 y28 y29 y30)) ∧ (∀ y0 y1 y2 y3 y4 y5 y6 y7 y8 y9 y10 y11 y12 y13 y14 y15 y16 y17 y18 y19 y20 y21 y22 y23 y24 y25 y26 y27 y28 y29, LeO (storagebarterlaw29_SlotDrops.j2 k y0 y1 y2 y3 y4 y5 y6 y7 y8 y9 y10 y11 y12 y13 y14 y15 y16 y17 y18 y19 y20 y21 y22 y23 y24 y25 y26 y27 y28 y29) (storagebarterlaw29_SlotDrops.j2 (k + 1) y0 y1 y2 y3 y4 y5 y6 y7 y8 y9 y10 y11 y12 y13 y14 y15 y16 y17 y18 y19 y20 y21 y22 y23 y24 y25 y26 y27 y28 y29)) ∧ (∀ y0 y1 y2 y3 y4 y5 y6 y7 y8 y9 y10 y11 y12 y13 y14 y15 y16 y17 y18 y19 y20 y21 y22 y23 y24 y25 y26, LeO (storagebarterlaw29_SlotDrops.j3 k y0 y1 y2 y3 y4 y5 y6 y7 y8 y9 y10 y11 y12 y13 y14 y15 y16 y17 y18 y19 y20 y21 y22 y23 y24 y25 y26) (storagebarterlaw29_SlotDrops.j3 (k + 1) y0 y1 y2 y3 y4 y5 y6 y7 y8 y9 y10 y11 y12 y13 y14 y15 y16 y17 y18 y19 y20 y21 y22 y23 y24 y25 y26)) ∧ (∀ y0 y1 y2 y3 y4 y5 y6 y7 y8 y9 y10 y11 y12 y13 y14 y15 y16 y17 y18 y19 y20 y21 y22 y23 y24 y25, LeO (storagebarterlaw29_SlotDrops.j4 k y0 y1 y2 y3 y4 y5 y6 y7 y8 y9 y10 y11 y12 y13 y14 y15 y16 y17 y18 y19 y20 y21 y22 y23 y24 y25) (storagebarterlaw29_SlotDrops.j4 (k + 1) y0 y1 y2 y3 y4 y5 y6 y7 y8 y9 y10 y11 y12 y13 y14 y15 y16 y17 y18 y19 y20 y21 y22 y23 y24 y25))
 | 0 => ⟨fun _ _ _ _ _ _ _ _ _ _ _ _ _ _ _ _ _ _ _ _ _ _ _ _ _ r h => by simp [storagebarterlaw29_SlotDrops.l0] at h, fun _ _ _ _ _ _ _ _ _ _ _ _ _ _ _ _ _ _ _ _ _ _ _ _ _ _ _ _ _ _ _ r h => by simp [storagebarterlaw29_SlotDrops.j1] at h, fun _ _ _ _ _ _ _ _ _ _ _ _ _ _ _ _ _ _ _ _ _ _ _ _ _ _ _ _ _ _ r h => by simp [storagebarterlaw29_SlotDrops.j2] at h, fun _ _ _ _ _ _ _ _ _ _ _ _ _ _ _ _ _ _ _ _ _ _ _ _ _ _ _ r h => by simp [storagebarterlaw29_SlotDrops.j3] at h, fun _ _ _ _ _ _ _ _ _ _ _ _ _ _ _ _ _ _ _ _ _ _ _ _ _ _ r h => by simp [storagebarterlaw29_SlotDrops.j4] at h⟩
 | k + 1 => by
  obtain ⟨ih0, ih1, ih2, ih3, ih4⟩ := storagebarterlaw29_SlotDrops.mono_l k
  refine ⟨?_, ?_, ?_, ?_, ?_⟩
  ·intro y0 y1 y2 y3 y4 y5 y6 y7 y8 y9 y10 y11 y12 y13 y14 y15 y16 y17 y18 y19 y20 y21 y22 y23 y24
   unfold storagebarterlaw29_SlotDrops.l0
   repeat' first
   | (with_reducible exact ih0 _ _ _ _ _ _ _ _ _ _ _ _ _ _ _ _ _ _ _ _ _ _ _ _ _)
   | (with_reducible exact ih1 _ _ _ _ _ _ _ _ _ _ _ _ _ _ _ _ _ _ _ _ _ _ _ _ _ _ _ _ _ _ _)
   | (with_reducible exact ih2 _ _ _ _ _ _ _ _ _ _ _ _ _ _ _ _ _ _ _ _ _ _ _ _ _ _ _ _ _ _)
   | (with_reducible exact ih3 _ _ _ _ _ _ _ _ _ _ _ _ _ _ _ _ _ _ _ _ _ _ _ _ _ _ _)
   | (with_reducible exact ih4 _ _ _ _ _ _ _ _ _ _ _ _ _ _ _ _ _ _ _ _ _ _ _ _ _ _)
   | (with_reducible exact slot_New.mono _ _ _ _ _ _)
   | (with_reducible exact slot_Step.mono _ _ _ _ _ _ _ _ _ _ _ _ _ _ _ _)
   | (with_reducible exact storagebarterplay_Dice_Arrangement.mono _ _ _ _)
   | (with_reducible exact storagebarterref28_Plan.mono _ _ _ _ _ _ _ _)
   | (with_reducible exact LeO.refl _)
   | (with_reducible exact LeO.none _)
   | (with_reducible refine LeO.ite ?_ ?_)
   | (with_reducible refine LeO.bind ?_ (fun _ => ?_))
   | exact ih0 _ _ _ _ _ _ _ _ _ _ _ _ _ _ _ _ _ _ _ _ _ _ _ _ _
   | exact ih1 _ _ _ _ _ _ _ _ _ _ _ _ _ _ _ _ _ _ _ _ _ _ _ _ _ _ _ _ _ _ _
   | exact ih2 _ _ _ _ _ _ _ _ _ _ _ _ _ _ _ _ _ _ _ _ _ _ _ _ _ _ _ _ _ _
   | exact ih3 _ _ _ _ _ _ _ _ _ _ _ _ _ _ _ _ _ _ _ _ _ _ _ _ _ _ _
   | exact ih4 _ _ _ _ _ _ _ _ _ _ _ _ _ _ _ _ _ _ _ _ _ _ _ _ _ _
   | exact slot_New.mono _ _ _ _ _ _
   | exact slot_Step.mono _ _ _ _ _ _ _ _ _ _ _ _ _ _ _ _
   | exact storagebarterplay_Dice_Arrangement.mono _ _ _ _
   | exact storagebarterref28_Plan.mono _ _ _ _ _ _ _ _
   | exact LeO.none _
   | refine LeO.ite ?_ ?_
   | refine LeO.bind ?_ (fun _ => ?_)
  ·intro y0 y1 y2 y3 y4 y5 y6 y7 y8 y9 y10 y11 y12 y13 y14 y15 y16 y17 y18 y19 y20 y21 y22 y23 y24 y25 y26 y27 y28 y29 y30
   unfold storagebarterlaw29_SlotDrops.j1
   repeat' first
   | (with_reducible exact ih0 _ _ _ _ _ _ _ _ _ _ _ _ _ _ _ _ _ _ _ _ _ _ _ _ _)
   | (with_reducible exact ih1 _ _ _ _ _ _ _ _ _ _ _ _ _ _ _ _ _ _ _ _ _ _ _ _ _ _ _ _ _ _ _)
   | (with_reducible exact ih2 _ _ _ _ _ _ _ _ _ _ _ _ _ _ _ _ _ _ _ _ _ _ _ _ _ _ _ _ _ _)
   | (with_reducible exact ih3 _ _ _ _ _ _ _ _ _ _ _ _ _ _ _ _ _ _ _ _ _ _ _ _ _ _ _)
   | (with_reducible exact ih4 _ _ _ _ _ _ _ _ _ _ _ _ _ _ _ _ _ _ _ _ _ _ _ _ _ _)
   | (with_reducible exact slot_New.mono _ _ _ _ _ _)
   | (with_reducible exact slot_Step.mono _ _ _ _ _ _ _ _ _ _ _ _ _ _ _ _)
   | (with_reducible exact storagebarterplay_Dice_Arrangement.mono _ _ _ _)
   | (with_reducible exact storagebarterref28_Plan.mono _ _ _ _ _ _ _ _)
   | (with_reducible exact LeO.refl _)
   | (with_reducible exact LeO.none _)
   | (with_reducible refine LeO.ite ?_ ?_)
   | (with_reducible refine LeO.bind ?_ (fun _ => ?_))
   | exact ih0 _ _ _ _ _ _ _ _ _ _ _ _ _ _ _ _ _ _ _ _ _ _ _ _ _
   | exact ih1 _ _ _ _ _ _ _ _ _ _ _ _ _ _ _ _ _ _ _ _ _ _ _ _ _ _ _ _ _ _ _
   | exact ih2 _ _ _ _ _ _ _ _ _ _ _ _ _ _ _ _ _ _ _ _ _ _ _ _ _ _ _ _ _ _
   | exact ih3 _ _ _ _ _ _ _ _ _ _ _ _ _ _ _ _ _ _ _ _ _ _ _ _ _ _ _
   | exact ih4 _ _ _ _ _ _ _ _ _ _ _ _ _ _ _ _ _ _ _ _ _ _ _ _ _ _
   | exact slot_New.mono _ _ _ _ _ _
   | exact slot_Step.mono _ _ _ _ _ _ _ _ _ _ _ _ _ _ _ _
   | exact storagebarterplay_Dice_Arrangement.mono _ _ _ _
   | exact storagebarterref28_Plan.mono _ _ _ _ _ _ _ _
   | exact LeO.none _
   | refine LeO.ite ?_ ?_
   | refine LeO.bind ?_ (fun _ => ?_)
  ·intro y0 y1 y2 y3 y4 y5 y6 y7 y8 y9 y10 y11 y12 y13 y14 y15 y16 y17 y18 y19 y20 y21 y22 y23 y24 y25 y26 y27 y28 y29
   unfold storagebarterlaw29_SlotDrops.j2
   repeat' first
   | (with_reducible exact ih0 _ _ _ _ _ _ _ _ _ _ _ _ _ _ _ _ _ _ _ _ _ _ _ _ _)
   | (with_reducible exact ih1 _ _ _ _ _ _ _ _ _ _ _ _ _ _ _ _ _ _ _ _ _ _ _ _ _ _ _ _ _ _ _)
   | (with_reducible exact ih2 _ _ _ _ _ _ _ _ _ _ _ _ _ _ _ _ _ _ _ _ _ _ _ _ _ _ _ _ _ _)
   | (with_reducible exact ih3 _ _ _ _ _ _ _ _ _ _ _ _ _ _ _ _ _ _ _ _ _ _ _ _ _ _ _)
   | (with_reducible exact ih4 _ _ _ _ _ _ _ _ _ _ _ _ _ _ _ _ _ _ _ _ _ _ _ _ _ _)
   | (with_reducible exact slot_New.mono _ _ _ _ _ _)
   | (with_reducible exact slot_Step.mono _ _ _ _ _ _ _ _ _ _ _ _ _ _ _ _)
   | (with_reducible exact storagebarterplay_Dice_Arrangement.mono _ _ _ _)
   | (with_reducible exact storagebarterref28_Plan.mono _ _ _ _ _ _ _ _)
   | (with_reducible exact LeO.refl _)
   | (with_reducible exact LeO.none _)
   | (with_reducible refine LeO.ite ?_ ?_)
   | (with_reducible refine LeO.bind ?_ (fun _ => ?_))
   | exact ih0 _ _ _ _ _ _ _ _ _ _ _ _ _ _ _ _ _ _ _ _ _ _ _ _ _
   | exact ih1 _ _ _ _ _ _ _ _ _ _ _ _ _ _ _ _ _ _ _ _ _ _ _ _ _ _ _ _ _ _ _
   | exact ih2 _ _ _ _ _ _ _ _ _ _ _ _ _ _ _ _ _ _ _ _ _ _ _ _ _ _ _ _ _ _
   | exact ih3 _ _ _ _ _ _ _ _ _ _ _ _ _ _ _ _ _ _ _ _ _ _ _ _ _ _ _
   | exact ih4 _ _ _ _ _ _ _ _ _ _ _ _ _ _ _ _ _ _ _ _ _ _ _ _ _ _
   | exact slot_New.mono _ _ _ _ _ _
   | exact slot_Step.mono _ _ _ _ _ _ _ _ _ _ _ _ _ _ _ _
   | exact storagebarterplay_Dice_Arrangement.mono _ _ _ _
   | exact storagebarterref28_Plan.mono _ _ _ _ _ _ _ _
   | exact LeO.none _
   | refine LeO.ite ?_ ?_
   | refine LeO.bind ?_ (fun _ => ?_)
  ·intro y0 y1 y2 y3 y4 y5 y6 y7 y8 y9 y10 y11 y12 y13 y14 y15 y16 y17 y18 y19 y20 y21 y22 y23 y24 y25 y26
   unfold storagebarterlaw29_SlotDrops.j3
   repeat' first
   | (with_reducible exact ih0 _ _ _ _ _ _ _ _ _ _ _ _ _ _ _ _ _ _ _ _ _ _ _ _ _)
   | (with_reducible exact ih1 _ _ _ _ _ _ _ _ _ _ _ _ _ _ _ _ _ _ _ _ _ _ _ _ _ _ _ _ _ _ _)
   | (with_reducible exact ih2 _ _ _ _ _ _ _ _ _ _ _ _ _ _ _ _ _ _ _ _ _ _ _ _ _ _ _ _ _ _)
   | (with_reducible exact ih3 _ _ _ _ _ _ _ _ _ _ _ _ _ _ _ _ _ _ _ _ _ _ _ _ _ _ _)
   | (with_reducible exact ih4 _ _ _ _ _ _ _ _ _ _ _ _ _ _ _ _ _ _ _ _ _ _ _ _ _ _)
   | (with_reducible exact slot_New.mono _ _ _ _ _ _)
   | (with_reducible exact slot_Step.mono _ _ _ _ _ _ _ _ _ _ _ _ _ _ _ _)
   | (with_reducible exact storagebarterplay_Dice_Arrangement.mono _ _ _ _)
   | (with_reducible exact storagebarterref28_Plan.mono _ _ _ _ _ _ _ _)
   | (with_reducible exact LeO.refl _)
   | (with_reducible exact LeO.none _)
   | (with_reducible refine LeO.ite ?_ ?_)
   | (with_reducible refine LeO.bind ?_ (fun _ => ?_))
   | exact ih0 _ _ _ _ _ _ _ _ _ _ _ _ _ _ _ _ _ _ _ _ _ _ _ _ _
   | exact ih1 _ _ _ _ _ _ _ _ _ _ _ _ _ _ _ _ _ _ _ _ _ _ _ _ _ _ _ _ _ _ _
   | exact ih2 _ _ _ _ _ _ _ _ _ _ _ _ _ _ _ _ _ _ _ _ _ _ _ _ _ _ _ _ _ _
   | exact ih3 _ _ _ _ _ _ _ _ _ _ _ _ _ _ _ _ _ _ _ _ _ _ _ _ _ _ _
   | exact ih4 _ _ _ _ _ _ _ _ _ _ _ _ _ _ _ _ _ _ _ _ _ _ _ _ _ _
   | exact slot_New.mono _ _ _ _ _ _
   | exact slot_Step.mono _ _ _ _ _ _ _ _ _ _ _ _ _ _ _ _
   | exact storagebarterplay_Dice_Arrangement.mono _ _ _ _
   | exact storagebarterref28_Plan.mono _ _ _ _ _ _ _ _
   | exact LeO.none _
   | refine LeO.ite ?_ ?_
   | refine LeO.bind ?_ (fun _ => ?_)
  ·intro y0 y1 y2 y3 y4 y5 y6 y7 y8 y9 y10 y11 y12 y13 y14 y15 y16 y17 y18 y19 y20 y21 y22 y23 y24 y25
   unfold storagebarterlaw29_SlotDrops.j4
   repeat' first
   | (with_reducible exact ih0 _ _ _ _ _ _ _ _ _ _ _ _ _ _ _ _ _ _ _ _ _ _ _ _ _)
   | (with_reducible exact ih1 _ _ _ _ _ _ _ _ _ _ _ _ _ _ _ _ _ _ _ _ _ _ _ _ _ _ _ _ _ _ _)
   | (with_reducible exact ih2 _ _ _ _ _ _ _ _ _ _ _ _ _ _ _ _ _ _ _ _ _ _ _ _ _ _ _ _ _ _)
   | (with_reducible exact ih3 _ _ _ _ _ _ _ _ _ _ _ _ _ _ _ _ _ _ _ _ _ _ _ _ _ _ _)
   | (with_reducible exact ih4 _ _ _ _ _ _ _ _ _ _ _ _ _ _ _ _ _ _ _ _ _ _ _ _ _ _)
   | (with_reducible exact slot_New.mono _ _ _ _ _ _)
   | (with_reducible exact slot_Step.mono _ _ _ _ _ _ _ _ _ _ _ _ _ _ _ _)
   | (with_reducible exact storagebarterplay_Dice_Arrangement.mono _ _ _ _)
   | (with_reducible exact storagebarterref28_Plan.mono _ _ _ _ _ _ _ _)
   | (with_reducible exact LeO.refl _)
   | (with_reducible exact LeO.none _)
   | (with_reducible refine LeO.ite ?_ ?_)
   | (with_reducible refine LeO.bind ?_ (fun _ => ?_))
   | exact ih0 _ _ _ _ _ _ _ _ _ _ _ _ _ _ _ _ _ _ _ _ _ _ _ _ _
   | exact ih1 _ _ _ _ _ _ _ _ _ _ _ _ _ _ _ _ _ _ _ _ _ _ _ _ _ _ _ _ _ _ _
   | exact ih2 _ _ _ _ _ _ _ _ _ _ _ _ _ _ _ _ _ _ _ _ _ _ _ _ _ _ _ _ _ _
   | exact ih3 _ _ _ _ _ _ _ _ _ _ _ _ _ _ _ _ _ _ _ _ _ _ _ _ _ _ _
   | exact ih4 _ _ _ _ _ _ _ _ _ _ _ _ _ _ _ _ _ _ _ _ _ _ _ _ _ _
   | exact slot_New.mono _ _ _ _ _ _
   | exact slot_Step.mono _ _ _ _ _ _ _ _ _ _ _ _ _ _ _ _
   | exact storagebarterplay_Dice_Arrangement.mono _ _ _ _
   | exact storagebarterref28_Plan.mono _ _ _ _ _ _ _ _
   | exact LeO.none _
   | refine LeO.ite ?_ ?_
   | refine LeO.bind ?_ (fun _ => ?_)
theorem storagebarterlaw29_SlotDrops.mono : ∀ a0 k, LeO (storagebarterlaw29_SlotDrops.f k a0) (storagebarterlaw29_SlotDrops.f (k + 1) a0) := by
 intro a0 k
 obtain ⟨ih0, ih1, ih2, ih3, ih4⟩ := storagebarterlaw29_SlotDrops.mono_l k
 unfold storagebarterlaw29_SlotDrops.f
 repeat' first
   | (with_reducible exact ih0 _ _ _ _ _ _ _ _ _ _ _ _ _ _ _ _ _ _ _ _ _ _ _ _ _)
   | (with_reducible exact ih1 _ _ _ _ _ _ _ _ _ _ _ _ _ _ _ _ _ _ _ _ _ _ _ _ _ _ _ _ _ _ _)
   | (with_reducible exact ih2 _ _ _ _ _ _ _ _ _ _ _ _ _ _ _ _ _ _ _ _ _ _ _ _ _ _ _ _ _ _)
   | (with_reducible exact ih3 _ _ _ _ _ _ _ _ _ _ _ _ _ _ _ _ _ _ _ _ _ _ _ _ _ _ _)
   | (with_reducible exact ih4 _ _ _ _ _ _ _ _ _ _ _ _ _ _ _ _ _ _ _ _ _ _ _ _ _ _)
   | (with_reducible exact slot_New.mono _ _ _ _ _ _)
   | (with_reducible exact slot_Step.mono _ _ _ _ _ _ _ _ _ _ _ _ _ _ _ _)
   | (with_reducible exact storagebarterplay_Dice_Arrangement.mono _ _ _ _)
   | (with_reducible exact storagebarterref28_Plan.mono _ _ _ _ _ _ _ _)
   | (with_reducible exact LeO.refl _)
   | (with_reducible exact LeO.none _)
   | (with_reducible refine LeO.ite ?_ ?_)
   | (with_reducible refine LeO.bind ?_ (fun _ => ?_))
   | exact ih0 _ _ _ _ _ _ _ _ _ _ _ _ _ _ _ _ _ _ _ _ _ _ _ _ _
   | exact ih1 _ _ _ _ _ _ _ _ _ _ _ _ _ _ _ _ _ _ _ _ _ _ _ _ _ _ _ _ _ _ _
   | exact ih2 _ _ _ _ _ _ _ _ _ _ _ _ _ _ _ _ _ _ _ _ _ _ _ _ _ _ _ _ _ _
   | exact ih3 _ _ _ _ _ _ _ _ _ _ _ _ _ _ _ _ _ _ _ _ _ _ _ _ _ _ _
   | exact ih4 _ _ _ _ _ _ _ _ _ _ _ _ _ _ _ _ _ _ _ _ _ _ _ _ _ _
   | exact slot_New.mono _ _ _ _ _ _
   | exact slot_Step.mono _ _ _ _ _ _ _ _ _ _ _ _ _ _ _ _
   | exact storagebarterplay_Dice_Arrangement.mono _ _ _ _
   | exact storagebarterref28_Plan.mono _ _ _ _ _ _ _ _
   | exact LeO.none _
   | refine LeO.ite ?_ ?_
   | refine LeO.bind ?_ (fun _ => ?_)
set_option maxHeartbeats 60000000 in
set_option maxRecDepth 100000 in
theorem storagebarterlaw29_SlotDrops.calls (k : Nat) (A0 : Option Addr) (c0 : Nat) (l0 : List Int) (r : Bool) (w : World) (hr0 : Kd.C (Kd.int .u8) w A0 l0.length l0) (hc0 : l0.length ≤ c0) (h : storagebarterlaw29_SlotDrops.f k l0 = some r) (hrt_ : r = true) (hL_ : Laid w) :
  Calls Tryd.prog 11 #[.slice A0 l0.length c0] w fun e w' => e = .returned (.bool r) ∧ Below w.heap.size w w' := by
 have HL_ := Aside0.mk hL_
 clear hL_
 have HRT_ := Aside0.mk hrt_
 clear hrt_
 have hu26 := Tryd.underlying26
 have hu54 := Tryd.underlying54
 have hu36 := Tryd.underlying36
 have HR0 := Aside0.mk hr0
 have HC0 := Aside0.mk hc0
 clear hr0 hc0
 have HB := Aside0.mk (Below.refl w.heap.size w)
 have H : ((storagebarterlaw29_sane.f).bind fun t164 => (if t164 = true then ((storagebarterplay_New.f l0).bind fun bt165 => ((storagebarterplay_Dice_Arrangement.f k bt165.1 bt165.2 4).bind fun bt168 => ((slot_New.f k bt168.1 bt168.2.1 bt168.2.2.1 bt168.2.2.2.1 bt168.2.2.2.2.1).bind fun bt177 => ((storagebarterref28_Plan.f k bt168.1 bt168.2.1 bt168.2.2.1 bt168.2.2.2.1 bt168.2.2.2.2.1 0 true).bind fun bt195 => (if bt177.2.2.2.2.2.2.2.2.2.2.2.2.2.2 = 0 then ((storagebarterplay_Dice_Pick.f bt165.1 bt168.2.2.2.2.2 (wrap64 ((bt195.1.length : Int) - 8))).bind fun bt199 => (if 0 ≤ (wrap64 (8 + bt199.1)) then (if (wrap64 (8 + bt199.1)) < (bt195.1.length : Int) then (storagebarterlaw29_SlotDrops.l0 k (wrap64 (8 + bt199.1)) ((rd_T36 bt195.1 (wrap64 (8 + bt199.1))).f2) false bt195.1 (bt195.1.length : Int) 0 bt168.1 bt168.2.1 bt168.2.2.1 bt168.2.2.2.1 bt168.2.2.2.2.1 bt177.1 bt177.2.1 bt177.2.2.1 bt177.2.2.2.1 bt177.2.2.2.2.1 bt177.2.2.2.2.2.1 bt177.2.2.2.2.2.2.1 bt177.2.2.2.2.2.2.2.1 bt177.2.2.2.2.2.2.2.2.1 bt177.2.2.2.2.2.2.2.2.2.1 bt177.2.2.2.2.2.2.2.2.2.2.1 bt177.2.2.2.2.2.2.2.2.2.2.2.1 bt177.2.2.2.2.2.2.2.2.2.2.2.2.1 bt177.2.2.2.2.2.2.2.2.2.2.2.2.2.1) else (none)) else (none))) else (some false)))))) else (some false))) = some r := h
 clear h
 replace H := Option.bind_eq_some_iff.mp H
 obtain ⟨t164, A20, H⟩ := H
 replace H : (if t164 = true then ((storagebarterplay_New.f l0).bind fun bt165 => ((storagebarterplay_Dice_Arrangement.f k bt165.1 bt165.2 4).bind fun bt168 => ((slot_New.f k bt168.1 bt168.2.1 bt168.2.2.1 bt168.2.2.2.1 bt168.2.2.2.2.1).bind fun bt177 => ((storagebarterref28_Plan.f k bt168.1 bt168.2.1 bt168.2.2.1 bt168.2.2.2.1 bt168.2.2.2.2.1 0 true).bind fun bt195 => (if bt177.2.2.2.2.2.2.2.2.2.2.2.2.2.2 = 0 then ((storagebarterplay_Dice_Pick.f bt165.1 bt168.2.2.2.2.2 (wrap64 ((bt195.1.length : Int) - 8))).bind fun bt199 => (if 0 ≤ (wrap64 (8 + bt199.1)) then (if (wrap64 (8 + bt199.1)) < (bt195.1.length : Int) then (storagebarterlaw29_SlotDrops.l0 k (wrap64 (8 + bt199.1)) ((rd_T36 bt195.1 (wrap64 (8 + bt199.1))).f2) false bt195.1 (bt195.1.length : Int) 0 bt168.1 bt168.2.1 bt168.2.2.1 bt168.2.2.2.1 bt168.2.2.2.2.1 bt177.1 bt177.2.1 bt177.2.2.1 bt177.2.2.2.1 bt177.2.2.2.2.1 bt177.2.2.2.2.2.1 bt177.2.2.2.2.2.2.1 bt177.2.2.2.2.2.2.2.1 bt177.2.2.2.2.2.2.2.2.1 bt177.2.2.2.2.2.2.2.2.2.1 bt177.2.2.2.2.2.2.2.2.2.2.1 bt177.2.2.2.2.2.2.2.2.2.2.2.1 bt177.2.2.2.2.2.2.2.2.2.2.2.2.1 bt177.2.2.2.2.2.2.2.2.2.2.2.2.2.1) else (none)) else (none))) else (some false)))))) else (some false)) = some r := H
 have A2 := Aside0.mk A20
 clear A20
 by_cases c3 : t164 = true
 case neg =>
  replace c3 := Bool.eq_false_iff.mpr c3
  subst c3
  have H1 : (some false) = some r := by rw [if_neg (show ¬ (false = true) by decide)] at H; exact H
  clear H
  have H := H1
  clear H1
  exact absurd (Option.some.inj H) (by rw [HRT_.out]; decide)

 subst c3
 have H1 : ((storagebarterplay_New.f l0).bind fun bt165 => ((storagebarterplay_Dice_Arrangement.f k bt165.1 bt165.2 4).bind fun bt168 => ((slot_New.f k bt168.1 bt168.2.1 bt168.2.2.1 bt168.2.2.2.1 bt168.2.2.2.2.1).bind fun bt177 => ((storagebarterref28_Plan.f k bt168.1 bt168.2.1 bt168.2.2.1 bt168.2.2.2.1 bt168.2.2.2.2.1 0 true).bind fun bt195 => (if bt177.2.2.2.2.2.2.2.2.2.2.2.2.2.2 = 0 then ((storagebarterplay_Dice_Pick.f bt165.1 bt168.2.2.2.2.2 (wrap64 ((bt195.1.length : Int) - 8))).bind fun bt199 => (if 0 ≤ (wrap64 (8 + bt199.1)) then (if (wrap64 (8 + bt199.1)) < (bt195.1.length : Int) then (storagebarterlaw29_SlotDrops.l0 k (wrap64 (8 + bt199.1)) ((rd_T36 bt195.1 (wrap64 (8 + bt199.1))).f2) false bt195.1 (bt195.1.length : Int) 0 bt168.1 bt168.2.1 bt168.2.2.1 bt168.2.2.2.1 bt168.2.2.2.2.1 bt177.1 bt177.2.1 bt177.2.2.1 bt177.2.2.2.1 bt177.2.2.2.2.1 bt177.2.2.2.2.2.1 bt177.2.2.2.2.2.2.1 bt177.2.2.2.2.2.2.2.1 bt177.2.2.2.2.2.2.2.2.1 bt177.2.2.2.2.2.2.2.2.2.1 bt177.2.2.2.2.2.2.2.2.2.2.1 bt177.2.2.2.2.2.2.2.2.2.2.2.1 bt177.2.2.2.2.2.2.2.2.2.2.2.2.1 bt177.2.2.2.2.2.2.2.2.2.2.2.2.2.1) else (none)) else (none))) else (some false)))))) = some r := by rw [if_pos rfl] at H; exact H
 clear H
 have H := H1
 clear H1
 replace H := Option.bind_eq_some_iff.mp H
 obtain ⟨⟨t165, t166⟩, A40, H⟩ := H
 replace H : ((storagebarterplay_Dice_Arrangement.f k t165 t166 4).bind fun bt168 => ((slot_New.f k bt168.1 bt168.2.1 bt168.2.2.1 bt168.2.2.2.1 bt168.2.2.2.2.1).bind fun bt177 => ((storagebarterref28_Plan.f k bt168.1 bt168.2.1 bt168.2.2.1 bt168.2.2.2.1 bt168.2.2.2.2.1 0 true).bind fun bt195 => (if bt177.2.2.2.2.2.2.2.2.2.2.2.2.2.2 = 0 then ((storagebarterplay_Dice_Pick.f t165 bt168.2.2.2.2.2 (wrap64 ((bt195.1.length : Int) - 8))).bind fun bt199 => (if 0 ≤ (wrap64 (8 + bt199.1)) then (if (wrap64 (8 + bt199.1)) < (bt195.1.length : Int) then (storagebarterlaw29_SlotDrops.l0 k (wrap64 (8 + bt199.1)) ((rd_T36 bt195.1 (wrap64 (8 + bt199.1))).f2) false bt195.1 (bt195.1.length : Int) 0 bt168.1 bt168.2.1 bt168.2.2.1 bt168.2.2.2.1 bt168.2.2.2.2.1 bt177.1 bt177.2.1 bt177.2.2.1 bt177.2.2.2.1 bt177.2.2.2.2.1 bt177.2.2.2.2.2.1 bt177.2.2.2.2.2.2.1 bt177.2.2.2.2.2.2.2.1 bt177.2.2.2.2.2.2.2.2.1 bt177.2.2.2.2.2.2.2.2.2.1 bt177.2.2.2.2.2.2.2.2.2.2.1 bt177.2.2.2.2.2.2.2.2.2.2.2.1 bt177.2.2.2.2.2.2.2.2.2.2.2.2.1 bt177.2.2.2.2.2.2.2.2.2.2.2.2.2.1) else (none)) else (none))) else (some false))))) = some r := H
 have A4 := Aside0.mk A40
 clear A40
 replace H := Option.bind_eq_some_iff.mp H
 obtain ⟨⟨t168, t169, t170, t171, t172, t175⟩, A50, H⟩ := H
 replace H : ((slot_New.f k t168 t169 t170 t171 t172).bind fun bt177 => ((storagebarterref28_Plan.f k t168 t169 t170 t171 t172 0 true).bind fun bt195 => (if bt177.2.2.2.2.2.2.2.2.2.2.2.2.2.2 = 0 then ((storagebarterplay_Dice_Pick.f t165 t175 (wrap64 ((bt195.1.length : Int) - 8))).bind fun bt199 => (if 0 ≤ (wrap64 (8 + bt199.1)) then (if (wrap64 (8 + bt199.1)) < (bt195.1.length : Int) then (storagebarterlaw29_SlotDrops.l0 k (wrap64 (8 + bt199.1)) ((rd_T36 bt195.1 (wrap64 (8 + bt199.1))).f2) false bt195.1 (bt195.1.length : Int) 0 t168 t169 t170 t171 t172 bt177.1 bt177.2.1 bt177.2.2.1 bt177.2.2.2.1 bt177.2.2.2.2.1 bt177.2.2.2.2.2.1 bt177.2.2.2.2.2.2.1 bt177.2.2.2.2.2.2.2.1 bt177.2.2.2.2.2.2.2.2.1 bt177.2.2.2.2.2.2.2.2.2.1 bt177.2.2.2.2.2.2.2.2.2.2.1 bt177.2.2.2.2.2.2.2.2.2.2.2.1 bt177.2.2.2.2.2.2.2.2.2.2.2.2.1 bt177.2.2.2.2.2.2.2.2.2.2.2.2.2.1) else (none)) else (none))) else (some false)))) = some r := H
 have A5 := Aside0.mk A50
 clear A50
 replace H := Option.bind_eq_some_iff.mp H
 obtain ⟨⟨t177, t178, t179, t180, t181, t184, t185, t186, t187, t188, t189, t190, t191, t192, t193⟩, A60, H⟩ := H
 replace H : ((storagebarterref28_Plan.f k t168 t169 t170 t171 t172 0 true).bind fun bt195 => (if t193 = 0 then ((storagebarterplay_Dice_Pick.f t165 t175 (wrap64 ((bt195.1.length : Int) - 8))).bind fun bt199 => (if 0 ≤ (wrap64 (8 + bt199.1)) then (if (wrap64 (8 + bt199.1)) < (bt195.1.length : Int) then (storagebarterlaw29_SlotDrops.l0 k (wrap64 (8 + bt199.1)) ((rd_T36 bt195.1 (wrap64 (8 + bt199.1))).f2) false bt195.1 (bt195.1.length : Int) 0 t168 t169 t170 t171 t172 t177 t178 t179 t180 t181 t184 t185 t186 t187 t188 t189 t190 t191 t192) else (none)) else (none))) else (some false))) = some r := H
 have A6 := Aside0.mk A60
 clear A60
 replace H := Option.bind_eq_some_iff.mp H
 obtain ⟨⟨t195, t198⟩, A70, H⟩ := H
 replace H : (if t193 = 0 then ((storagebarterplay_Dice_Pick.f t165 t175 (wrap64 ((t195.length : Int) - 8))).bind fun bt199 => (if 0 ≤ (wrap64 (8 + bt199.1)) then (if (wrap64 (8 + bt199.1)) < (t195.length : Int) then (storagebarterlaw29_SlotDrops.l0 k (wrap64 (8 + bt199.1)) ((rd_T36 t195 (wrap64 (8 + bt199.1))).f2) false t195 (t195.length : Int) 0 t168 t169 t170 t171 t172 t177 t178 t179 t180 t181 t184 t185 t186 t187 t188 t189 t190 t191 t192) else (none)) else (none))) else (some false)) = some r := H
 have A7 := Aside0.mk A70
 clear A70
 by_cases c8 : t193 = 0
 case neg =>
  rw [if_neg c8] at H
  have c8b0 : (t193 == 0) = false := beq_eq_false_iff_ne.mpr c8
  have c8b1 : (t193 != 0) = true := bne_iff_ne.mpr c8
  exact absurd (Option.some.inj H) (by rw [HRT_.out]; decide)
 rw [if_pos c8] at H
 have c8b0 : (t193 == 0) = true := beq_iff_eq.mpr c8
 have c8b1 : (t193 != 0) = false := bne_eq_false_iff_eq.mpr c8
 clear c8
 replace H := Option.bind_eq_some_iff.mp H
 obtain ⟨⟨t199, t200⟩, A90, H⟩ := H
 replace H : (if 0 ≤ (wrap64 (8 + t199)) then (if (wrap64 (8 + t199)) < (t195.length : Int) then (storagebarterlaw29_SlotDrops.l0 k (wrap64 (8 + t199)) ((rd_T36 t195 (wrap64 (8 + t199))).f2) false t195 (t195.length : Int) 0 t168 t169 t170 t171 t172 t177 t178 t179 t180 t181 t184 t185 t186 t187 t188 t189 t190 t191 t192) else (none)) else (none)) = some r := H
 have A9 := Aside0.mk A90
 clear A90
 obtain ⟨ji10, hji10⟩ : ∃ j_ : Int, (wrap64 (8 + t199)) = j_ := ⟨_, rfl⟩
 replace H : (if 0 ≤ (ji10) then (if (ji10) < (t195.length : Int) then (storagebarterlaw29_SlotDrops.l0 k ji10 ((rd_T36 t195 (ji10)).f2) false t195 (t195.length : Int) 0 t168 t169 t170 t171 t172 t177 t178 t179 t180 t181 t184 t185 t186 t187 t188 t189 t190 t191 t192) else (none)) else (none)) = some r := by first | (rw [hji10] at H; exact H) | (simp only [hji10] at H ⊢; exact H)
 (try rw [hji10] at A2)
 (try rw [hji10] at A4)
 (try rw [hji10] at A5)
 (try rw [hji10] at A6)
 (try rw [hji10] at A7)
 (try rw [hji10] at A9)
 have hji10w : (IntKind.i64.wrap (8 + t199)) = ji10 := (i64_w _).trans hji10
 by_cases c11 : 0 ≤ (ji10)
 case neg =>
  rw [if_neg c11] at H
  exact absurd H (by simp)
 rw [if_pos c11] at H
 have c11b0 : decide (0 ≤ (ji10)) = true := decide_eq_true c11
 clear c11
 by_cases c12 : (ji10) < (t195.length : Int)
 case neg =>
  rw [if_neg c12] at H
  exact absurd H (by simp)
 rw [if_pos c12] at H
 have c12b0 : decide ((ji10) < (t195.length : Int)) = true := decide_eq_true c12
 clear c12
 have H' := Aside0.mk H
 clear H
 go_enter Tryd.func11, Tryd.ntmps11
 go_wp2_with (first | ((with_reducible refine gate_callee (f := 35) rfl ?_); refine goesL_ (some 20) rfl rfl Tryd.func35 (by kernel_rfl) rfl #[] rfl (by (try simp only [List.map_toArray, List.map_cons, List.map_nil]); first | done | rfl | (simp only [List.length_drop, List.length_take]; rfl)) ?_; (with_reducible refine (storagebarterlaw29_sane.calls  true _ A2.out (by first | exact HL_.out | exact laid_below HL_.out (by repeat (first | (with_reducible first | exact HB.out | apply below_alloc | apply pw_below_drewN | apply below_drew1) | refine below_set ?_ (Aside0.out (by assumption)) | exact HB.out)) | exact laid_drawn HL_.out HD.out | exact laid_drawn HL_.out (HD.out.step _))).mono ?_); rintro e w13 ⟨rfl, hb⟩; refine ⟨_, rfl, ?_⟩; have n0_ := Aside0.mk (below_step (by repeat (first | (with_reducible first | exact HB.out | apply below_alloc | apply pw_below_drewN | apply below_drew1) | exact HB.out)) hb); clear HB; have HB := n0_; clear n0_; (try clear hb); (try clear hb2); (try clear hk); (try clear hi); (try clear hgw)) | ((with_reducible refine gate_callee (f := 17) rfl ?_); refine goesL_ (some 23) rfl rfl Tryd.func17 (by kernel_rfl) rfl #[.slice A0 l0.length c0] rfl (by (try simp only [List.map_toArray, List.map_cons, List.map_nil]); first | done | rfl | (simp only [List.length_drop, List.length_take]; rfl)) ?_; (with_reducible refine (storagebarterplay_New.calls _ _ l0 t165 t166 w _ ?side1 ?side2 ?side3 A4.out).mono ?_); (case side1 => repeat (first | (with_reducible first | exact HB.out | apply below_alloc | apply pw_below_drewN | apply below_drew1) | exact HB.out)); (case side2 => exact HR0.out); (case side3 => exact HC0.out); rintro e w14 ⟨g167, rfl, hi, hb, hb2, hgw⟩; refine ⟨_, rfl, ?_⟩; have n0_ := Aside0.mk (hb); have n1_ := Aside0.mk (hi); clear HB; have HB := n0_; have HI167 := n1_; clear n0_ n1_; (try clear hb); (try clear hb2); (try clear hk); (try clear hi); (try clear hgw)) | ((with_reducible refine gate_callee (f := 18) rfl ?_); refine goesL_ (some 25) rfl rfl Tryd.func18 (by kernel_rfl) rfl #[.pointer (some ⟨g167, 0, none⟩), .int .i64 4] rfl (by (try simp only [List.map_toArray, List.map_cons, List.map_nil]); first | done | rfl | (simp only [List.length_drop, List.length_take]; rfl)) ?_; (with_reducible refine (storagebarterplay_Dice_Arrangement.calls k g167 t165 t166 4 t168 t169 t170 t171 t172 t175 w _ ?side1 ?side2 A5.out).mono ?_); (case side1 => repeat (first | (with_reducible first | exact HI167.out | apply IsS88.alloc | apply IsS88.drewN | apply IsS88.drew | apply IsS88.set_1) | exact HI167.out)); (case side2 => repeat (first | (with_reducible first | exact HB.out | apply below_alloc | apply pw_below_drewN | apply below_drew1 | refine below_set ?_ (IsS88.ge HI167.out)) | exact HB.out)); rintro e w15 ⟨v173, rfl, ho0, hi, hb, hk⟩; refine ⟨_, rfl, ?_⟩; have n0_ := Aside0.mk (Kd.R_lower ho0 (below_size (by repeat (first | (with_reducible first | exact HB.out | apply below_alloc | apply pw_below_drewN | apply below_drew1 | refine below_set ?_ (IsS88.ge HI167.out)) | exact HB.out)))); have n1_ := Aside0.mk (hb); have n2_ := Aside0.mk (hi); clear HB; clear HI167; have HO174 := n0_; have HB := n1_; have HI167 := n2_; clear n0_ n1_ n2_; (try clear hb); (try clear hb2); (try clear hk); (try clear hi); (try clear hgw); (try clear ho0)) | ((with_reducible refine gate_dst (N := 4) rfl ?_); refine box_event ?hg (N := 4) ?hd (cs := #[.int .i64 0, .int .i64 0, .int .i64 0, .int .i64 0, .slice none 0 0]) (t := 26) ?hr ?_; (case hd => rfl); (case hg => rfl); (case hr => first | (go_simp; done) | (go_simp; rfl)); intro gb176 hg w16 hbox hb; have n0_ := Aside0.mk (Kd.R_below (R_up HO174.out) hb); have n1_ := Aside0.mk (IsS88.below (by repeat (first | (with_reducible first | exact HI167.out | apply IsS88.alloc | apply IsS88.drewN | apply IsS88.drew | apply IsS88.set_1) | exact HI167.out)) hb); have n2_ := Aside0.mk (below_step (by repeat (first | (with_reducible first | exact HB.out | apply below_alloc | apply pw_below_drewN | apply below_drew1 | refine below_set ?_ (IsS88.ge HI167.out)) | exact HB.out)) hb); have n3_ := Aside0.mk (hbox); have n4_ := Aside0.mk ((by rw [hg]; exact (below_size (by repeat (first | (with_reducible first | exact HB.out | apply below_alloc | apply pw_below_drewN | apply below_drew1 | refine below_set ?_ (IsS88.ge HI167.out)) | exact HB.out))) : w.heap.size ≤ gb176)); have n5_ := Aside0.mk ((by rw [hg]; exact (below_size (by repeat (first | (with_reducible first | exact HB.out | apply below_alloc | apply pw_below_drewN | apply below_drew1 | refine below_set ?_ (IsS88.ge HI167.out)) | exact HB.out))) : w.heap.size ≤ gb176)); have n6_ := Aside0.mk ((by rw [hg]; exact Nat.ne_of_lt (IsS88.lt (show IsS88 w _ g167 t165 t175 from by repeat (first | (with_reducible first | exact HI167.out | apply IsS88.alloc | apply IsS88.drewN | apply IsS88.drew | apply IsS88.set_1) | exact HI167.out))) : g167 ≠ gb176)); have n7_ := Aside0.mk ((by rw [hg]; exact Nat.ne_of_gt (IsS88.lt (show IsS88 w _ g167 t165 t175 from by repeat (first | (with_reducible first | exact HI167.out | apply IsS88.alloc | apply IsS88.drewN | apply IsS88.drew | apply IsS88.set_1) | exact HI167.out))) : gb176 ≠ g167)); clear HO174; clear HI167; clear HB; have HO174 := n0_; have HI167 := n1_; have HB := n2_; have BK176 := n3_; have GW176 := n4_; have GE176 := n5_; have NB167_176 := n6_; have NB176_167 := n7_; clear n0_ n1_ n2_ n3_ n4_ n5_ n6_ n7_; clear hb hbox hg; have hnb17 := NB176_167.out; have hnc17 := NB167_176.out; have hcz18_0 : w16.cell? ⟨gb176, 0, none⟩ = some (.int .i64 0) := (blk_cell BK176.out 0).trans rfl; have hcz18_1 : w16.cell? ⟨gb176, 1, none⟩ = some (.int .i64 0) := (blk_cell BK176.out 1).trans rfl; have hcz18_2 : w16.cell? ⟨gb176, 2, none⟩ = some (.int .i64 0) := (blk_cell BK176.out 2).trans rfl; have hcz18_3 : w16.cell? ⟨gb176, 3, none⟩ = some (.int .i64 0) := (blk_cell BK176.out 3).trans rfl; have hcz18_4 : w16.cell? ⟨gb176, 4, none⟩ = some (.slice none 0 0) := (blk_cell BK176.out 4).trans rfl; have hfz18_0 := blk_frozen BK176.out 0; have hfz18_1 := blk_frozen BK176.out 1; have hfz18_2 := blk_frozen BK176.out 2; have hfz18_3 := blk_frozen BK176.out 3; have hfz18_4 := blk_frozen BK176.out 4; obtain ⟨Ao19, co19, eo19⟩ := Kd.R_slice HO174.out; subst eo19) | ((with_reducible refine gate_callee (f := 36) rfl ?_); refine goesL_ (some 28) rfl rfl Tryd.func36 (by kernel_rfl) rfl #[.agg #[.int .i64 t168, .int .i64 t169, .int .i64 t170, .int .i64 t171, .slice Ao19 t172.length co19]] rfl (by (try simp only [List.map_toArray, List.map_cons, List.map_nil]); first | done | rfl | (simp only [List.length_drop, List.length_take]; rfl)) ?_; (with_reducible refine (slot_New.calls k t168 t169 t170 t171 _ _ t172 t177 t178 t179 t180 t181 t184 t185 t186 t187 t188 t189 t190 t191 t192 t193 _ ?side1 ?side2 A6.out).mono ?_); (case side1 => refine (Kd.R_reads' (e := 3) (base := w.heap.size) (ok := fun k_ => True) (n := t172.length) (c := co19) ?_).2.2; exact (by (with_reducible repeat (first | apply Kd.R_alloc | apply Kd.R_drewN | apply Kd.R_drew)); exact (Kd.R_mono (Kd.R_far (p := ⟨gb176, 4, none⟩) (Kd.R_far (p := ⟨gb176, 3, none⟩) (Kd.R_far (p := ⟨gb176, 2, none⟩) (Kd.R_far (p := ⟨gb176, 1, none⟩) (Kd.R_far (p := ⟨gb176, 0, none⟩) (Kd.R_types HO174.out BK176.out (by decide)) (fun _ hk => hk.2) (.int .i64 t168)) (fun _ hk => hk.2) (.int .i64 t169)) (fun _ hk => hk.2) (.int .i64 t170)) (fun _ hk => hk.2) (.int .i64 t171)) (fun _ hk => hk.2) (.slice Ao19 t172.length co19)) (fun _ h_ => h_.1)))); (case side2 => exact (Kd.R_reads' HO174.out).2.1); rintro e w20 ⟨v182, rfl, ho0, hb⟩; refine ⟨_, rfl, ?_⟩; have n0_ := Aside0.mk (Kd.R_elder' (by (with_reducible repeat (first | apply Kd.R_alloc | apply Kd.R_drewN | apply Kd.R_drew)); exact (Kd.R_mono (Kd.R_far (p := ⟨gb176, 4, none⟩) (Kd.R_far (p := ⟨gb176, 3, none⟩) (Kd.R_far (p := ⟨gb176, 2, none⟩) (Kd.R_far (p := ⟨gb176, 1, none⟩) (Kd.R_far (p := ⟨gb176, 0, none⟩) (Kd.R_types HO174.out BK176.out (by decide)) (fun _ hk => hk.2) (.int .i64 t168)) (fun _ hk => hk.2) (.int .i64 t169)) (fun _ hk => hk.2) (.int .i64 t170)) (fun _ hk => hk.2) (.int .i64 t171)) (fun _ hk => hk.2) (.slice Ao19 t172.length co19)) (fun _ h_ => h_.1))) (Kd.R_base ho0) hb); have n1_ := Aside0.mk (Kd.R_lower (Kd.R_new' ho0 (Kd.R_lt (by (with_reducible repeat (first | apply Kd.R_alloc | apply Kd.R_drewN | apply Kd.R_drew)); exact (Kd.R_mono (Kd.R_far (p := ⟨gb176, 4, none⟩) (Kd.R_far (p := ⟨gb176, 3, none⟩) (Kd.R_far (p := ⟨gb176, 2, none⟩) (Kd.R_far (p := ⟨gb176, 1, none⟩) (Kd.R_far (p := ⟨gb176, 0, none⟩) (Kd.R_types HO174.out BK176.out (by decide)) (fun _ hk => hk.2) (.int .i64 t168)) (fun _ hk => hk.2) (.int .i64 t169)) (fun _ hk => hk.2) (.int .i64 t170)) (fun _ hk => hk.2) (.int .i64 t171)) (fun _ hk => hk.2) (.slice Ao19 t172.length co19)) (fun _ h_ => h_.1))))) (below_size (by repeat (first | (with_reducible first | exact HB.out | apply below_alloc | apply pw_below_drewN | apply below_drew1 | refine below_set ?_ (IsS88.ge HI167.out) | refine below_set ?_ GE176.out) | exact HB.out)))); have n2_ := Aside0.mk (IsS88.below (show IsS88 w (((((w16.setCell ⟨gb176, 0, none⟩ (.int .i64 t168)).setCell ⟨gb176, 1, none⟩ (.int .i64 t169)).setCell ⟨gb176, 2, none⟩ (.int .i64 t170)).setCell ⟨gb176, 3, none⟩ (.int .i64 t171)).setCell ⟨gb176, 4, none⟩ (.slice Ao19 t172.length co19)) g167 t165 t175 from by repeat (first | (with_reducible first | exact HI167.out | apply IsS88.alloc | apply IsS88.drewN | apply IsS88.drew | apply IsS88.set_1 | refine IsS88.far ?_ NB167_176.out _) | exact HI167.out)) hb); have n3_ := Aside0.mk (blk_below (g := gb176) (o := .cells #[.int .i64 t168, .int .i64 t169, .int .i64 t170, .int .i64 t171, .slice Ao19 t172.length co19] 26 (0, 0)) (by (with_reducible repeat (first | refine blk_drewN ?_ _ | refine blk_drew ?_ | refine blk_alloc ?_ _)); refine blk_put (cs := #[.int .i64 t168, .int .i64 t169, .int .i64 t170, .int .i64 t171, .slice none 0 0]) ?_ 4 _ rfl; (with_reducible repeat (first | refine blk_drewN ?_ _ | refine blk_drew ?_ | refine blk_alloc ?_ _)); refine blk_put (cs := #[.int .i64 t168, .int .i64 t169, .int .i64 t170, .int .i64 0, .slice none 0 0]) ?_ 3 _ rfl; (with_reducible repeat (first | refine blk_drewN ?_ _ | refine blk_drew ?_ | refine blk_alloc ?_ _)); refine blk_put (cs := #[.int .i64 t168, .int .i64 t169, .int .i64 0, .int .i64 0, .slice none 0 0]) ?_ 2 _ rfl; (with_reducible repeat (first | refine blk_drewN ?_ _ | refine blk_drew ?_ | refine blk_alloc ?_ _)); refine blk_put (cs := #[.int .i64 t168, .int .i64 0, .int .i64 0, .int .i64 0, .slice none 0 0]) ?_ 1 _ rfl; (with_reducible repeat (first | refine blk_drewN ?_ _ | refine blk_drew ?_ | refine blk_alloc ?_ _)); refine blk_put (cs := #[.int .i64 0, .int .i64 0, .int .i64 0, .int .i64 0, .slice none 0 0]) ?_ 0 _ rfl; (with_reducible repeat (first | refine blk_drewN ?_ _ | refine blk_drew ?_ | refine blk_alloc ?_ _)); exact BK176.out) hb); have n4_ := Aside0.mk (below_step (by repeat (first | (with_reducible first | exact HB.out | apply below_alloc | apply pw_below_drewN | apply below_drew1 | refine below_set ?_ (IsS88.ge HI167.out) | refine below_set ?_ GE176.out) | exact HB.out)) hb); clear HO174; clear HI167; clear BK176; clear HB; have HO174 := n0_; have HO183 := n1_; have HI167 := n2_; have BK176 := n3_; have HB := n4_; clear n0_ n1_ n2_ n3_ n4_; (try clear hb); (try clear hb2); (try clear hk); (try clear hi); (try clear hgw); (try clear ho0)) | ((with_reducible refine gate_dst (N := 5) rfl ?_); refine box_event ?hg (N := 5) ?hd (cs := #[.int .i64 0, .int .i64 0, .int .i64 0, .int .i64 0, .slice none 0 0, .int .i64 0, .int .i64 0, .int .i64 0, .bool false, .bool false, .bool false, .bool false, .bool false, .int .i64 0]) (t := 54) ?hr ?_; (case hd => rfl); (case hg => rfl); (case hr => first | (go_simp; done) | (go_simp; rfl)); intro gb194 hg w21 hbox hb; have n0_ := Aside0.mk (Kd.R_below (R_up HO174.out) hb); have n1_ := Aside0.mk (Kd.R_below (R_up HO183.out) hb); have n2_ := Aside0.mk (IsS88.below (by repeat (first | (with_reducible first | exact HI167.out | apply IsS88.alloc | apply IsS88.drewN | apply IsS88.drew | apply IsS88.set_1 | refine IsS88.far ?_ NB167_176.out _) | exact HI167.out)) hb); have n3_ := Aside0.mk (blk_below (g := gb176) (blk_up BK176.out) hb); have n4_ := Aside0.mk (below_step (by repeat (first | (with_reducible first | exact HB.out | apply below_alloc | apply pw_below_drewN | apply below_drew1 | refine below_set ?_ (IsS88.ge HI167.out) | refine below_set ?_ GE176.out) | exact HB.out)) hb); have n5_ := Aside0.mk (hbox); have n6_ := Aside0.mk ((by rw [hg]; exact (below_size (by repeat (first | (with_reducible first | exact HB.out | apply below_alloc | apply pw_below_drewN | apply below_drew1 | refine below_set ?_ (IsS88.ge HI167.out) | refine below_set ?_ GE176.out) | exact HB.out))) : w.heap.size ≤ gb194)); have n7_ := Aside0.mk ((by rw [hg]; exact (below_size (by repeat (first | (with_reducible first | exact HB.out | apply below_alloc | apply pw_below_drewN | apply below_drew1 | refine below_set ?_ (IsS88.ge HI167.out) | refine below_set ?_ GE176.out) | exact HB.out))) : w.heap.size ≤ gb194)); have n8_ := Aside0.mk ((by rw [hg]; exact Nat.ne_of_lt (blk_lt (g := gb176) (o := .cells #[.int .i64 t168, .int .i64 t169, .int .i64 t170, .int .i64 t171, .slice Ao19 t172.length co19] 26 (0, 0)) (blk_up BK176.out)) : gb176 ≠ gb194)); have n9_ := Aside0.mk ((by rw [hg]; exact Nat.ne_of_gt (blk_lt (g := gb176) (o := .cells #[.int .i64 t168, .int .i64 t169, .int .i64 t170, .int .i64 t171, .slice Ao19 t172.length co19] 26 (0, 0)) (blk_up BK176.out)) : gb194 ≠ gb176)); have n10_ := Aside0.mk ((by rw [hg]; exact Nat.ne_of_lt (IsS88.lt (show IsS88 w _ g167 t165 t175 from by repeat (first | (with_reducible first | exact HI167.out | apply IsS88.alloc | apply IsS88.drewN | apply IsS88.drew | apply IsS88.set_1 | refine IsS88.far ?_ NB167_176.out _) | exact HI167.out))) : g167 ≠ gb194)); have n11_ := Aside0.mk ((by rw [hg]; exact Nat.ne_of_gt (IsS88.lt (show IsS88 w _ g167 t165 t175 from by repeat (first | (with_reducible first | exact HI167.out | apply IsS88.alloc | apply IsS88.drewN | apply IsS88.drew | apply IsS88.set_1 | refine IsS88.far ?_ NB167_176.out _) | exact HI167.out))) : gb194 ≠ g167)); clear HO174; clear HO183; clear HI167; clear BK176; clear HB; have HO174 := n0_; have HO183 := n1_; have HI167 := n2_; have BK176 := n3_; have HB := n4_; have BK194 := n5_; have GW194 := n6_; have GE194 := n7_; have NB176_194 := n8_; have NB194_176 := n9_; have NB167_194 := n10_; have NB194_167 := n11_; clear n0_ n1_ n2_ n3_ n4_ n5_ n6_ n7_ n8_ n9_ n10_ n11_; clear hb hbox hg; have hnb22 := NB194_176.out; have hnc22 := NB176_194.out; have hnb23 := NB194_167.out; have hnc23 := NB167_194.out; have hcz24_0 : w21.cell? ⟨gb194, 0, none⟩ = some (.int .i64 0) := (blk_cell BK194.out 0).trans rfl; have hcz24_1 : w21.cell? ⟨gb194, 1, none⟩ = some (.int .i64 0) := (blk_cell BK194.out 1).trans rfl; have hcz24_2 : w21.cell? ⟨gb194, 2, none⟩ = some (.int .i64 0) := (blk_cell BK194.out 2).trans rfl; have hcz24_3 : w21.cell? ⟨gb194, 3, none⟩ = some (.int .i64 0) := (blk_cell BK194.out 3).trans rfl; have hcz24_4 : w21.cell? ⟨gb194, 4, none⟩ = some (.slice none 0 0) := (blk_cell BK194.out 4).trans rfl; have hcz24_5 : w21.cell? ⟨gb194, 5, none⟩ = some (.int .i64 0) := (blk_cell BK194.out 5).trans rfl; have hcz24_6 : w21.cell? ⟨gb194, 6, none⟩ = some (.int .i64 0) := (blk_cell BK194.out 6).trans rfl; have hcz24_7 : w21.cell? ⟨gb194, 7, none⟩ = some (.int .i64 0) := (blk_cell BK194.out 7).trans rfl; have hcz24_8 : w21.cell? ⟨gb194, 8, none⟩ = some (.bool false) := (blk_cell BK194.out 8).trans rfl; have hcz24_9 : w21.cell? ⟨gb194, 9, none⟩ = some (.bool false) := (blk_cell BK194.out 9).trans rfl; have hcz24_10 : w21.cell? ⟨gb194, 10, none⟩ = some (.bool false) := (blk_cell BK194.out 10).trans rfl; have hcz24_11 : w21.cell? ⟨gb194, 11, none⟩ = some (.bool false) := (blk_cell BK194.out 11).trans rfl; have hcz24_12 : w21.cell? ⟨gb194, 12, none⟩ = some (.bool false) := (blk_cell BK194.out 12).trans rfl; have hcz24_13 : w21.cell? ⟨gb194, 13, none⟩ = some (.int .i64 0) := (blk_cell BK194.out 13).trans rfl; have hfz24_0 := blk_frozen BK194.out 0; have hfz24_1 := blk_frozen BK194.out 1; have hfz24_2 := blk_frozen BK194.out 2; have hfz24_3 := blk_frozen BK194.out 3; have hfz24_4 := blk_frozen BK194.out 4; have hfz24_5 := blk_frozen BK194.out 5; have hfz24_6 := blk_frozen BK194.out 6; have hfz24_7 := blk_frozen BK194.out 7; have hfz24_8 := blk_frozen BK194.out 8; have hfz24_9 := blk_frozen BK194.out 9; have hfz24_10 := blk_frozen BK194.out 10; have hfz24_11 := blk_frozen BK194.out 11; have hfz24_12 := blk_frozen BK194.out 12; have hfz24_13 := blk_frozen BK194.out 13; obtain ⟨Ao25, co25, eo25⟩ := Kd.R_slice HO183.out; subst eo25; have hcz26_0 : w21.cell? ⟨gb176, 0, none⟩ = some (.int .i64 t168) := (blk_cell BK176.out 0).trans rfl; have hcz26_1 : w21.cell? ⟨gb176, 1, none⟩ = some (.int .i64 t169) := (blk_cell BK176.out 1).trans rfl; have hcz26_2 : w21.cell? ⟨gb176, 2, none⟩ = some (.int .i64 t170) := (blk_cell BK176.out 2).trans rfl; have hcz26_3 : w21.cell? ⟨gb176, 3, none⟩ = some (.int .i64 t171) := (blk_cell BK176.out 3).trans rfl; have hcz26_4 : w21.cell? ⟨gb176, 4, none⟩ = some (.slice Ao19 t172.length co19) := (blk_cell BK176.out 4).trans rfl; have hfz26_0 := blk_frozen BK176.out 0; have hfz26_1 := blk_frozen BK176.out 1; have hfz26_2 := blk_frozen BK176.out 2; have hfz26_3 := blk_frozen BK176.out 3; have hfz26_4 := blk_frozen BK176.out 4) | ((with_reducible refine gate_callee (f := 24) rfl ?_); refine goesL_ (some 33) rfl rfl Tryd.func24 (by kernel_rfl) rfl #[.agg #[.int .i64 t168, .int .i64 t169, .int .i64 t170, .int .i64 t171, .slice Ao19 t172.length co19], .int .i64 0, .bool true] rfl (by (try simp only [List.map_toArray, List.map_cons, List.map_nil]); first | done | rfl | (simp only [List.length_drop, List.length_take]; rfl)) ?_; (with_reducible refine (storagebarterref28_Plan.calls k t168 t169 t170 t171 _ _ t172 0 true t195 t198 _ ?side1 ?side2 A7.out).mono ?_); (case side1 => refine (Kd.R_reads' (e := 3) (base := w.heap.size) (ok := fun k_ => (True ∧ some k_ ≠ (.slice Ao25 t181.length co25 : Value).ownBlock)) (n := t172.length) (c := co19) ?_).2.2; exact (by (with_reducible repeat (first | apply Kd.R_alloc | apply Kd.R_drewN | apply Kd.R_drew)); exact (Kd.R_mono (Kd.R_far (p := ⟨gb194, 13, none⟩) (Kd.R_far (p := ⟨gb194, 12, none⟩) (Kd.R_far (p := ⟨gb194, 11, none⟩) (Kd.R_far (p := ⟨gb194, 10, none⟩) (Kd.R_far (p := ⟨gb194, 9, none⟩) (Kd.R_far (p := ⟨gb194, 8, none⟩) (Kd.R_far (p := ⟨gb194, 7, none⟩) (Kd.R_far (p := ⟨gb194, 6, none⟩) (Kd.R_far (p := ⟨gb194, 5, none⟩) (Kd.R_far (p := ⟨gb194, 4, none⟩) (Kd.R_far (p := ⟨gb194, 3, none⟩) (Kd.R_far (p := ⟨gb194, 2, none⟩) (Kd.R_far (p := ⟨gb194, 1, none⟩) (Kd.R_far (p := ⟨gb194, 0, none⟩) (Kd.R_types HO174.out BK194.out (by decide)) (fun _ hk => hk.2) (.int .i64 t177)) (fun _ hk => hk.2) (.int .i64 t178)) (fun _ hk => hk.2) (.int .i64 t179)) (fun _ hk => hk.2) (.int .i64 t180)) (fun _ hk => hk.2) (.slice Ao25 t181.length co25)) (fun _ hk => hk.2) (.int .i64 t184)) (fun _ hk => hk.2) (.int .i64 t185)) (fun _ hk => hk.2) (.int .i64 t186)) (fun _ hk => hk.2) (.bool t187)) (fun _ hk => hk.2) (.bool t188)) (fun _ hk => hk.2) (.bool t189)) (fun _ hk => hk.2) (.bool t190)) (fun _ hk => hk.2) (.bool t191)) (fun _ hk => hk.2) (.int .i64 t192)) (fun _ h_ => h_.1)))); (case side2 => exact (Kd.R_reads' HO174.out).2.1); rintro e w27 ⟨v196, rfl, ho0, hb⟩; refine ⟨_, rfl, ?_⟩; have n0_ := Aside0.mk (Kd.R_below (by (with_reducible repeat (first | apply Kd.R_alloc | apply Kd.R_drewN | apply Kd.R_drew)); exact (Kd.R_mono (Kd.R_far (p := ⟨gb194, 13, none⟩) (Kd.R_far (p := ⟨gb194, 12, none⟩) (Kd.R_far (p := ⟨gb194, 11, none⟩) (Kd.R_far (p := ⟨gb194, 10, none⟩) (Kd.R_far (p := ⟨gb194, 9, none⟩) (Kd.R_far (p := ⟨gb194, 8, none⟩) (Kd.R_far (p := ⟨gb194, 7, none⟩) (Kd.R_far (p := ⟨gb194, 6, none⟩) (Kd.R_far (p := ⟨gb194, 5, none⟩) (Kd.R_far (p := ⟨gb194, 4, none⟩) (Kd.R_far (p := ⟨gb194, 3, none⟩) (Kd.R_far (p := ⟨gb194, 2, none⟩) (Kd.R_far (p := ⟨gb194, 1, none⟩) (Kd.R_far (p := ⟨gb194, 0, none⟩) (Kd.R_types HO174.out BK194.out (by decide)) (fun _ hk => hk.2) (.int .i64 t177)) (fun _ hk => hk.2) (.int .i64 t178)) (fun _ hk => hk.2) (.int .i64 t179)) (fun _ hk => hk.2) (.int .i64 t180)) (fun _ hk => hk.2) (.slice Ao25 t181.length co25)) (fun _ hk => hk.2) (.int .i64 t184)) (fun _ hk => hk.2) (.int .i64 t185)) (fun _ hk => hk.2) (.int .i64 t186)) (fun _ hk => hk.2) (.bool t187)) (fun _ hk => hk.2) (.bool t188)) (fun _ hk => hk.2) (.bool t189)) (fun _ hk => hk.2) (.bool t190)) (fun _ hk => hk.2) (.bool t191)) (fun _ hk => hk.2) (.int .i64 t192)) (fun _ h_ => h_.1))) hb); have n1_ := Aside0.mk (Kd.R_below (by (with_reducible repeat (first | apply Kd.R_alloc | apply Kd.R_drewN | apply Kd.R_drew)); exact (Kd.R_mono (Kd.R_far (p := ⟨gb194, 13, none⟩) (Kd.R_far (p := ⟨gb194, 12, none⟩) (Kd.R_far (p := ⟨gb194, 11, none⟩) (Kd.R_far (p := ⟨gb194, 10, none⟩) (Kd.R_far (p := ⟨gb194, 9, none⟩) (Kd.R_far (p := ⟨gb194, 8, none⟩) (Kd.R_far (p := ⟨gb194, 7, none⟩) (Kd.R_far (p := ⟨gb194, 6, none⟩) (Kd.R_far (p := ⟨gb194, 5, none⟩) (Kd.R_far (p := ⟨gb194, 4, none⟩) (Kd.R_far (p := ⟨gb194, 3, none⟩) (Kd.R_far (p := ⟨gb194, 2, none⟩) (Kd.R_far (p := ⟨gb194, 1, none⟩) (Kd.R_far (p := ⟨gb194, 0, none⟩) (Kd.R_types HO183.out BK194.out (by decide)) (fun _ hk => hk.2) (.int .i64 t177)) (fun _ hk => hk.2) (.int .i64 t178)) (fun _ hk => hk.2) (.int .i64 t179)) (fun _ hk => hk.2) (.int .i64 t180)) (fun _ hk => hk.2) (.slice Ao25 t181.length co25)) (fun _ hk => hk.2) (.int .i64 t184)) (fun _ hk => hk.2) (.int .i64 t185)) (fun _ hk => hk.2) (.int .i64 t186)) (fun _ hk => hk.2) (.bool t187)) (fun _ hk => hk.2) (.bool t188)) (fun _ hk => hk.2) (.bool t189)) (fun _ hk => hk.2) (.bool t190)) (fun _ hk => hk.2) (.bool t191)) (fun _ hk => hk.2) (.int .i64 t192)) (fun _ h_ => h_.1))) hb); have n2_ := Aside0.mk (Kd.R_lower ho0 (below_size (by repeat (first | (with_reducible first | exact HB.out | apply below_alloc | apply pw_below_drewN | apply below_drew1 | refine below_set ?_ (IsS88.ge HI167.out) | refine below_set ?_ GE176.out | refine below_set ?_ GE194.out) | exact HB.out)))); have n3_ := Aside0.mk (IsS88.below (show IsS88 w ((((((((((((((w21.setCell ⟨gb194, 0, none⟩ (.int .i64 t177)).setCell ⟨gb194, 1, none⟩ (.int .i64 t178)).setCell ⟨gb194, 2, none⟩ (.int .i64 t179)).setCell ⟨gb194, 3, none⟩ (.int .i64 t180)).setCell ⟨gb194, 4, none⟩ (.slice Ao25 t181.length co25)).setCell ⟨gb194, 5, none⟩ (.int .i64 t184)).setCell ⟨gb194, 6, none⟩ (.int .i64 t185)).setCell ⟨gb194, 7, none⟩ (.int .i64 t186)).setCell ⟨gb194, 8, none⟩ (.bool t187)).setCell ⟨gb194, 9, none⟩ (.bool t188)).setCell ⟨gb194, 10, none⟩ (.bool t189)).setCell ⟨gb194, 11, none⟩ (.bool t190)).setCell ⟨gb194, 12, none⟩ (.bool t191)).setCell ⟨gb194, 13, none⟩ (.int .i64 t192)) g167 t165 t175 from by repeat (first | (with_reducible first | exact HI167.out | apply IsS88.alloc | apply IsS88.drewN | apply IsS88.drew | apply IsS88.set_1 | refine IsS88.far ?_ NB167_176.out _ | refine IsS88.far ?_ NB167_194.out _) | exact HI167.out)) hb); have n4_ := Aside0.mk (blk_below (g := gb176) (o := .cells #[.int .i64 t168, .int .i64 t169, .int .i64 t170, .int .i64 t171, .slice Ao19 t172.length co19] 26 (0, 0)) (by (with_reducible repeat (first | refine blk_drewN ?_ _ | refine blk_drew ?_ | refine blk_alloc ?_ _)); refine blk_far14 ?_ NB176_194.out _ _ _ _ _ _ _ _ _ _ _ _ _ _; (with_reducible repeat (first | refine blk_drewN ?_ _ | refine blk_drew ?_ | refine blk_alloc ?_ _)); exact BK176.out) hb); have n5_ := Aside0.mk (blk_below (g := gb194) (o := .cells #[.int .i64 t177, .int .i64 t178, .int .i64 t179, .int .i64 t180, .slice Ao25 t181.length co25, .int .i64 t184, .int .i64 t185, .int .i64 t186, .bool t187, .bool t188, .bool t189, .bool t190, .bool t191, .int .i64 t192] 54 (0, 0)) (by (with_reducible repeat (first | refine blk_drewN ?_ _ | refine blk_drew ?_ | refine blk_alloc ?_ _)); first | exact blk_all14 BK194.out _ _ _ _ _ _ _ _ _ _ _ _ _ _ | exact blk_all14 (blk_up BK194.out) _ _ _ _ _ _ _ _ _ _ _ _ _ _) hb); have n6_ := Aside0.mk (below_step (by repeat (first | (with_reducible first | exact HB.out | apply below_alloc | apply pw_below_drewN | apply below_drew1 | refine below_set ?_ (IsS88.ge HI167.out) | refine below_set ?_ GE176.out | refine below_set ?_ GE194.out) | exact HB.out)) hb); clear HO174; clear HO183; clear HI167; clear BK176; clear BK194; clear HB; have HO174 := n0_; have HO183 := n1_; have HO197 := n2_; have HI167 := n3_; have BK176 := n4_; have BK194 := n5_; have HB := n6_; clear n0_ n1_ n2_ n3_ n4_ n5_ n6_; (try clear hb); (try clear hb2); (try clear hk); (try clear hi); (try clear hgw); (try clear ho0); obtain ⟨Ao28, co28, eo28⟩ := Kd.R_slice HO197.out; subst eo28) | ((with_reducible refine gate_callee (f := 32) rfl ?_); refine goesL_ (some 42) rfl rfl Tryd.func32 (by kernel_rfl) rfl #[.pointer (some ⟨g167, 0, none⟩), .int .i64 (wrap64 ((t195.length : Int) - 8))] rfl (by (try simp only [List.map_toArray, List.map_cons, List.map_nil]); first | done | rfl | (simp only [List.length_drop, List.length_take]; rfl)) ?_; (with_reducible refine (storagebarterplay_Dice_Pick.calls g167 t165 t175 (wrap64 ((t195.length : Int) - 8)) t199 t200 w _ ?side1 ?side2 A9.out).mono ?_); (case side1 => repeat (first | (with_reducible first | exact HI167.out | apply IsS88.alloc | apply IsS88.drewN | apply IsS88.drew | apply IsS88.set_1 | refine IsS88.far ?_ NB167_176.out _ | refine IsS88.far ?_ NB167_194.out _) | exact HI167.out)); (case side2 => repeat (first | (with_reducible first | exact HB.out | apply below_alloc | apply pw_below_drewN | apply below_drew1 | refine below_set ?_ (IsS88.ge HI167.out) | refine below_set ?_ GE176.out | refine below_set ?_ GE194.out) | exact HB.out)); rintro e w29 ⟨rfl, hi, hb, hk⟩; refine ⟨_, rfl, ?_⟩; have n0_ := Aside0.mk (Kd.R_mono (Kd.R_keep (IsS88.apart (show IsS88 w _ g167 t165 t175 from by repeat (first | (with_reducible first | exact HI167.out | apply IsS88.alloc | apply IsS88.drewN | apply IsS88.drew | apply IsS88.set_1 | refine IsS88.far ?_ NB167_176.out _ | refine IsS88.far ?_ NB167_194.out _) | exact HI167.out)) (R_up HO174.out) (by decide)) hk (fun _ h => h.2)) (fun _ h => h.1)); have n1_ := Aside0.mk (KeepBut.blk hk (g' := gb176) (o := .cells #[.int .i64 t168, .int .i64 t169, .int .i64 t170, .int .i64 t171, .slice Ao19 t172.length co19] 26 (0, 0)) (blk_up BK176.out) NB176_167.out (by simp)); have n2_ := Aside0.mk (Kd.R_mono (Kd.R_keep (IsS88.apart (show IsS88 w _ g167 t165 t175 from by repeat (first | (with_reducible first | exact HI167.out | apply IsS88.alloc | apply IsS88.drewN | apply IsS88.drew | apply IsS88.set_1 | refine IsS88.far ?_ NB167_176.out _ | refine IsS88.far ?_ NB167_194.out _) | exact HI167.out)) (R_up HO183.out) (by decide)) hk (fun _ h => h.2)) (fun _ h => h.1)); have n3_ := Aside0.mk (KeepBut.blk hk (g' := gb194) (o := .cells #[.int .i64 t177, .int .i64 t178, .int .i64 t179, .int .i64 t180, .slice Ao25 t181.length co25, .int .i64 t184, .int .i64 t185, .int .i64 t186, .bool t187, .bool t188, .bool t189, .bool t190, .bool t191, .int .i64 t192] 54 (0, 0)) (blk_up BK194.out) NB194_167.out (by simp)); have n4_ := Aside0.mk (Kd.R_mono (Kd.R_keep (IsS88.apart (show IsS88 w _ g167 t165 t175 from by repeat (first | (with_reducible first | exact HI167.out | apply IsS88.alloc | apply IsS88.drewN | apply IsS88.drew | apply IsS88.set_1 | refine IsS88.far ?_ NB167_176.out _ | refine IsS88.far ?_ NB167_194.out _) | exact HI167.out)) (R_up HO197.out) (by decide)) hk (fun _ h => h.2)) (fun _ h => h.1)); have n5_ := Aside0.mk (hb); have n6_ := Aside0.mk (hi); clear HO174; clear BK176; clear HO183; clear BK194; clear HO197; clear HB; clear HI167; have HO174 := n0_; have BK176 := n1_; have HO183 := n2_; have BK194 := n3_; have HO197 := n4_; have HB := n5_; have HI167 := n6_; clear n0_ n1_ n2_ n3_ n4_ n5_ n6_; (try clear hb); (try clear hb2); (try clear hk); (try clear hi); (try clear hgw); have p201 : 0 ≤ ((ji10) : Int) := of_decide_eq_true (by first | (with_reducible assumption) | assumption); have q201 : (ji10) < (t195.length : Int) := of_decide_eq_true (by first | (with_reducible assumption) | assumption); obtain ⟨ad201, e201, hx201_0, hx201_1, hx201_2, hx201_3⟩ := at_T36 (Kd.R_reads' HO197.out).2.2 (ji10) p201 q201; cases e201; replace p201 := eq_true p201; replace q201 := eq_true q201))
 go_loopg [11, 51] k (fun kq v11 v51 w' => ∃ (x11_1 : Bool) (x51_1 : Int) (ba4 : Int) (ba5 : Int) (ba6 : Int) (ba7 : Int) (ba3 : List Int) (ba8 : Int) (ba9 : Int) (baa : Int) (bab : Bool) (bac : Bool) (bad : Bool) (bae : Bool) (ba2 : Bool) (baf : Int) (bar : Value), v11 = .bool x11_1 ∧ v51 = .int .i64 x51_1 ∧ Aside0 (storagebarterlaw29_SlotDrops.l0 kq ji10 ((rd_T36 t195 (ji10)).f2) x11_1 t195 (t195.length : Int) x51_1 t168 t169 t170 t171 t172 ba4 ba5 ba6 ba7 ba3 ba8 ba9 baa bab bac bad bae ba2 baf = some r) ∧ Aside0 (kq ≤ k) ∧ Aside0 (Kd.R k36 36 w' w.heap.size (fun _ => True) (.slice (some ad201) t195.length co28) t195) ∧ Aside0 (Kd.R (Kd.int .i64) 3 w' w.heap.size (fun k_ => some k_ ≠ (bar : Value).ownBlock) (.slice Ao19 t172.length co19) t172) ∧ Aside0 (Kd.R (Kd.int .i64) 3 w' w.heap.size (fun k_ => some k_ ≠ ((.slice Ao19 t172.length co19) : Value).ownBlock) bar ba3) ∧ Aside0 (w'.heap[gb176]? = some (.cells #[.int .i64 t168, .int .i64 t169, .int .i64 t170, .int .i64 t171, (.slice Ao19 t172.length co19)] 26 (0, 0))) ∧ Aside0 (w'.heap[gb194]? = some (.cells #[.int .i64 ba4, .int .i64 ba5, .int .i64 ba6, .int .i64 ba7, bar, .int .i64 ba8, .int .i64 ba9, .int .i64 baa, .bool bab, .bool bac, .bool bad, .bool bae, .bool ba2, .int .i64 baf] 54 (0, 0))) ∧ Aside0 (Below w.heap.size w w'))
 case atStart => exact ⟨(false), (0), (t177), (t178), (t179), (t180), (t181), (t184), (t185), (t186), (t187), (t188), (t189), (t190), (t191), (t192), (.slice Ao25 t181.length co25), (by first | rfl | (simp; done) | (simp [*]; done)), (by first | rfl | (simp; done) | (simp [*]; done)), H', ⟨Nat.le_refl _⟩, ⟨by (with_reducible repeat (first | apply Kd.R_alloc | apply Kd.R_drewN | apply Kd.R_drew)); exact HO197.out⟩, ⟨by (with_reducible repeat (first | apply Kd.R_alloc | apply Kd.R_drewN | apply Kd.R_drew)); exact Kd.R_mono HO174.out (fun _ hk => hk.2)⟩, ⟨by (with_reducible repeat (first | apply Kd.R_alloc | apply Kd.R_drewN | apply Kd.R_drew)); exact Kd.R_mono HO183.out (fun _ hk => hk.2)⟩, ⟨by (with_reducible repeat (first | refine blk_drewN ?_ _ | refine blk_drew ?_ | refine blk_alloc ?_ _)); exact BK176.out⟩, ⟨by (with_reducible repeat (first | refine blk_drewN ?_ _ | refine blk_drew ?_ | refine blk_alloc ?_ _)); exact BK194.out⟩, ⟨by repeat (first | (with_reducible first | exact HB.out | apply below_alloc | apply pw_below_drewN | apply below_drew1 | refine below_set ?_ (IsS88.ge HI167.out) | refine below_set ?_ GE176.out | refine below_set ?_ GE194.out) | exact HB.out)⟩⟩
 case round =>
  clear H'
  try clear c1
  try clear c2
  try clear p2
  try clear q2
  try clear hx2
  try clear c3
  try clear p6
  try clear c8
  try clear c8b0
  try clear c8b1
  try clear c11
  try clear c11b0
  try clear c12
  try clear c12b0
  try clear c17
  try clear c18
  try clear p20
  try clear q20
  try clear hx20
  try clear c22
  try clear c23
  try clear c24
  try clear hcz18_0
  try clear hcz18_1
  try clear hcz18_2
  try clear hcz18_3
  try clear hcz18_4
  try clear hcz24_0
  try clear hcz24_1
  try clear hcz24_10
  try clear hcz24_11
  try clear hcz24_12
  try clear hcz24_13
  try clear hcz24_2
  try clear hcz24_3
  try clear hcz24_4
  try clear hcz24_5
  try clear hcz24_6
  try clear hcz24_7
  try clear hcz24_8
  try clear hcz24_9
  try clear hcz26_0
  try clear hcz26_1
  try clear hcz26_2
  try clear hcz26_3
  try clear hcz26_4
  try clear hfz18_0
  try clear hfz18_1
  try clear hfz18_2
  try clear hfz18_3
  try clear hfz18_4
  try clear hfz24_0
  try clear hfz24_1
  try clear hfz24_10
  try clear hfz24_11
  try clear hfz24_12
  try clear hfz24_13
  try clear hfz24_2
  try clear hfz24_3
  try clear hfz24_4
  try clear hfz24_5
  try clear hfz24_6
  try clear hfz24_7
  try clear hfz24_8
  try clear hfz24_9
  try clear hfz26_0
  try clear hfz26_1
  try clear hfz26_2
  try clear hfz26_3
  try clear hfz26_4
  try clear hx201_0
  try clear hx201_1
  try clear hx201_2
  try clear hx201_3
  try clear p201
  try clear q201
  obtain ⟨x11_1, x51_1, ba4, ba5, ba6, ba7, ba3, ba8, ba9, baa, bab, bac, bad, bae, ba2, baf, bar, rfl, rfl, HA, HK1, HO_49, ba0, ba1, BK176, BK194, HB⟩ := hrel
  cases gk with
  | zero => exact absurd HA.out (by simp [storagebarterlaw29_SlotDrops.l0])
  | succ k1 =>
   have H := HA.out
   clear HA
   simp only [storagebarterlaw29_SlotDrops.l0] at H
   by_cases c30 : x51_1 < (t195.length : Int)
   case neg =>
    rw [if_neg c30] at H
    have c30b0 : decide (x51_1 < (t195.length : Int)) = false := decide_eq_false c30
    clear c30
    obtain rfl := Option.some.inj H
    have hnb151 := NB194_176.out
    have hnc151 := NB176_194.out
    have hcz152_0 : wr.cell? ⟨gb194, 0, none⟩ = some (.int .i64 ba4) := (blk_cell BK194.out 0).trans rfl
    have hcz152_1 : wr.cell? ⟨gb194, 1, none⟩ = some (.int .i64 ba5) := (blk_cell BK194.out 1).trans rfl
    have hcz152_2 : wr.cell? ⟨gb194, 2, none⟩ = some (.int .i64 ba6) := (blk_cell BK194.out 2).trans rfl
    have hcz152_3 : wr.cell? ⟨gb194, 3, none⟩ = some (.int .i64 ba7) := (blk_cell BK194.out 3).trans rfl
    have hcz152_4 : wr.cell? ⟨gb194, 4, none⟩ = some (bar) := (blk_cell BK194.out 4).trans rfl
    have hcz152_5 : wr.cell? ⟨gb194, 5, none⟩ = some (.int .i64 ba8) := (blk_cell BK194.out 5).trans rfl
    have hcz152_6 : wr.cell? ⟨gb194, 6, none⟩ = some (.int .i64 ba9) := (blk_cell BK194.out 6).trans rfl
    have hcz152_7 : wr.cell? ⟨gb194, 7, none⟩ = some (.int .i64 baa) := (blk_cell BK194.out 7).trans rfl
    have hcz152_8 : wr.cell? ⟨gb194, 8, none⟩ = some (.bool bab) := (blk_cell BK194.out 8).trans rfl
    have hcz152_9 : wr.cell? ⟨gb194, 9, none⟩ = some (.bool bac) := (blk_cell BK194.out 9).trans rfl
    have hcz152_10 : wr.cell? ⟨gb194, 10, none⟩ = some (.bool bad) := (blk_cell BK194.out 10).trans rfl
    have hcz152_11 : wr.cell? ⟨gb194, 11, none⟩ = some (.bool bae) := (blk_cell BK194.out 11).trans rfl
    have hcz152_12 : wr.cell? ⟨gb194, 12, none⟩ = some (.bool ba2) := (blk_cell BK194.out 12).trans rfl
    have hcz152_13 : wr.cell? ⟨gb194, 13, none⟩ = some (.int .i64 baf) := (blk_cell BK194.out 13).trans rfl
    have hfz152_0 := blk_frozen BK194.out 0
    have hfz152_1 := blk_frozen BK194.out 1
    have hfz152_2 := blk_frozen BK194.out 2
    have hfz152_3 := blk_frozen BK194.out 3
    have hfz152_4 := blk_frozen BK194.out 4
    have hfz152_5 := blk_frozen BK194.out 5
    have hfz152_6 := blk_frozen BK194.out 6
    have hfz152_7 := blk_frozen BK194.out 7
    have hfz152_8 := blk_frozen BK194.out 8
    have hfz152_9 := blk_frozen BK194.out 9
    have hfz152_10 := blk_frozen BK194.out 10
    have hfz152_11 := blk_frozen BK194.out 11
    have hfz152_12 := blk_frozen BK194.out 12
    have hfz152_13 := blk_frozen BK194.out 13
    go_wp2
    go_ret
    exact ⟨by first | rfl | (simp [errW_none, errW_some] <;> rfl) | (simp only [← hji10]; first | rfl | (simp [errW_none, errW_some] <;> rfl)) | (simp [*, errW_none, errW_some] <;> rfl), by repeat (first | (with_reducible first | exact HB.out | apply below_alloc | apply pw_below_drewN | apply below_drew1 | refine below_set ?_ GE176.out | refine below_set ?_ GE194.out) | exact HB.out)⟩
   rw [if_pos c30] at H
   have c30b0 : decide (x51_1 < (t195.length : Int)) = true := decide_eq_true c30
   clear c30
   by_cases c31 : 0 ≤ x51_1
   case neg =>
    rw [if_neg c31] at H
    exact absurd H (by simp)
   rw [if_pos c31] at H
   have c31b0 : decide (0 ≤ x51_1) = true := decide_eq_true c31
   clear c31
   by_cases c32 : x51_1 < (t195.length : Int)
   case neg =>
    rw [if_neg c32] at H
    exact absurd H (by simp)
   rw [if_pos c32] at H
   have c32b0 : decide (x51_1 < (t195.length : Int)) = true := decide_eq_true c32
   clear c32
   have HC33 := Aside0.mk H
   clear H
   have p202 : 0 ≤ (x51_1 : Int) := of_decide_eq_true (by first | (with_reducible assumption) | assumption)
   have q202 : x51_1 < (t195.length : Int) := of_decide_eq_true (by first | (with_reducible assumption) | assumption)
   obtain ⟨ad202, e202, hx202_0, hx202_1, hx202_2, hx202_3⟩ := at_T36 (Kd.R_reads' HO_49.out).2.2 x51_1 p202 q202
   obtain rfl : ad201 = ad202 := (by injection e202)
   replace p202 := eq_true p202
   replace q202 := eq_true q202
   go_upto_region 16 with (first | ((with_reducible refine gate_dst (N := 13) rfl ?_); refine box_event ?hg (N := 13) ?hd (cs := #[.int .i64 0, .int .i64 0, .int .i64 0, .int .i64 0]) (t := 36) ?hr ?_; (case hd => rfl); (case hg => rfl); (case hr => first | (go_simp; done) | (go_simp; rfl)); intro gb203 hg w34 hbox hb; have n0_ := Aside0.mk (Kd.R_below (Kd.R_elderB (R_up HO_49.out) gb203 (Nat.le_of_eq hg.symm)) hb); have n1_ := Aside0.mk (Kd.R_below (R_up ba0.out) hb); have n2_ := Aside0.mk (Kd.R_below (R_up ba1.out) hb); have n3_ := Aside0.mk (blk_below (g := gb176) (blk_up BK176.out) hb); have n4_ := Aside0.mk (blk_below (g := gb194) (blk_up BK194.out) hb); have n5_ := Aside0.mk (below_step (by repeat (first | (with_reducible first | exact HB.out | apply below_alloc | apply pw_below_drewN | apply below_drew1 | refine below_set ?_ GE176.out | refine below_set ?_ GE194.out) | exact HB.out)) hb); have n6_ := Aside0.mk (hbox); have n7_ := Aside0.mk ((by rw [hg]; exact (below_size (by repeat (first | (with_reducible first | exact HB.out | apply below_alloc | apply pw_below_drewN | apply below_drew1 | refine below_set ?_ GE176.out | refine below_set ?_ GE194.out) | exact HB.out))) : w.heap.size ≤ gb203)); have n8_ := Aside0.mk ((by rw [hg]; exact (below_size (by repeat (first | (with_reducible first | exact HB.out | apply below_alloc | apply pw_below_drewN | apply below_drew1 | refine below_set ?_ GE176.out | refine below_set ?_ GE194.out) | exact HB.out))) : w.heap.size ≤ gb203)); have n9_ := Aside0.mk ((by rw [hg]; exact Nat.ne_of_lt (blk_lt (g := gb176) (o := .cells #[.int .i64 t168, .int .i64 t169, .int .i64 t170, .int .i64 t171, .slice Ao19 t172.length co19] 26 (0, 0)) (blk_up BK176.out)) : gb176 ≠ gb203)); have n10_ := Aside0.mk ((by rw [hg]; exact Nat.ne_of_gt (blk_lt (g := gb176) (o := .cells #[.int .i64 t168, .int .i64 t169, .int .i64 t170, .int .i64 t171, .slice Ao19 t172.length co19] 26 (0, 0)) (blk_up BK176.out)) : gb203 ≠ gb176)); have n11_ := Aside0.mk ((by rw [hg]; exact Nat.ne_of_lt (blk_lt (g := gb194) (o := .cells #[.int .i64 ba4, .int .i64 ba5, .int .i64 ba6, .int .i64 ba7, bar, .int .i64 ba8, .int .i64 ba9, .int .i64 baa, .bool bab, .bool bac, .bool bad, .bool bae, .bool ba2, .int .i64 baf] 54 (0, 0)) (blk_up BK194.out)) : gb194 ≠ gb203)); have n12_ := Aside0.mk ((by rw [hg]; exact Nat.ne_of_gt (blk_lt (g := gb194) (o := .cells #[.int .i64 ba4, .int .i64 ba5, .int .i64 ba6, .int .i64 ba7, bar, .int .i64 ba8, .int .i64 ba9, .int .i64 baa, .bool bab, .bool bac, .bool bad, .bool bae, .bool ba2, .int .i64 baf] 54 (0, 0)) (blk_up BK194.out)) : gb203 ≠ gb194)); clear HO_49; clear ba0; clear ba1; clear BK176; clear BK194; clear HB; have HO_49 := n0_; have ba0 := n1_; have ba1 := n2_; have BK176 := n3_; have BK194 := n4_; have HB := n5_; have BK203 := n6_; have GW203 := n7_; have GE203 := n8_; have NB176_203 := n9_; have NB203_176 := n10_; have NB194_203 := n11_; have NB203_194 := n12_; clear n0_ n1_ n2_ n3_ n4_ n5_ n6_ n7_ n8_ n9_ n10_ n11_ n12_; clear hb hbox hg; have hnb35 := NB203_176.out; have hnc35 := NB176_203.out; have hnb36 := NB203_194.out; have hnc36 := NB194_203.out; have hcz37_0 : w34.cell? ⟨gb203, 0, none⟩ = some (.int .i64 0) := (blk_cell BK203.out 0).trans rfl; have hcz37_1 : w34.cell? ⟨gb203, 1, none⟩ = some (.int .i64 0) := (blk_cell BK203.out 1).trans rfl; have hcz37_2 : w34.cell? ⟨gb203, 2, none⟩ = some (.int .i64 0) := (blk_cell BK203.out 2).trans rfl; have hcz37_3 : w34.cell? ⟨gb203, 3, none⟩ = some (.int .i64 0) := (blk_cell BK203.out 3).trans rfl; have hfz37_0 := blk_frozen BK203.out 0; have hfz37_1 := blk_frozen BK203.out 1; have hfz37_2 := blk_frozen BK203.out 2; have hfz37_3 := blk_frozen BK203.out 3))
   (try simp only [Act.put, List.setIfInBounds_toArray, List.set_cons_zero, List.set_cons_succ])
   go_cut [63] (fun v63 wc => ∃ (kq : Nat) (x63_32 : Bool), v63 = .bool x63_32 ∧ Aside0 (storagebarterlaw29_SlotDrops.j1 kq ji10 ((rd_T36 t195 (ji10)).f2) x11_1 0 t195 (t195.length : Int) x51_1 x63_32 t168 t169 t170 t171 t172 ba4 ba5 ba6 ba7 ba3 ba8 ba9 baa bab bac bad bae ba2 baf ((rd_T36 t195 x51_1).f0) ((rd_T36 t195 x51_1).f1) ((rd_T36 t195 x51_1).f2) ((rd_T36 t195 x51_1).f3) = some r) ∧ Aside0 (kq ≤ k1) ∧ Aside0 (Kd.R k36 36 wc w.heap.size (fun k_ => k_ ≠ gb203) (.slice (some ad201) t195.length co28) t195) ∧ Aside0 (Kd.R (Kd.int .i64) 3 wc w.heap.size (fun k_ => some k_ ≠ (bar : Value).ownBlock) (.slice Ao19 t172.length co19) t172) ∧ Aside0 (Kd.R (Kd.int .i64) 3 wc w.heap.size (fun k_ => some k_ ≠ ((.slice Ao19 t172.length co19) : Value).ownBlock) bar ba3) ∧ Aside0 (wc.heap[gb176]? = some (.cells #[.int .i64 t168, .int .i64 t169, .int .i64 t170, .int .i64 t171, (.slice Ao19 t172.length co19)] 26 (0, 0))) ∧ Aside0 (wc.heap[gb194]? = some (.cells #[.int .i64 ba4, .int .i64 ba5, .int .i64 ba6, .int .i64 ba7, bar, .int .i64 ba8, .int .i64 ba9, .int .i64 baa, .bool bab, .bool bac, .bool bad, .bool bae, .bool ba2, .int .i64 baf] 54 (0, 0))) ∧ Aside0 (wc.heap[gb203]? = some (.cells #[.int .i64 ((rd_T36 t195 x51_1).f0), .int .i64 ((rd_T36 t195 x51_1).f1), .int .i64 ((rd_T36 t195 x51_1).f2), .int .i64 ((rd_T36 t195 x51_1).f3)] 36 (0, 0))) ∧ Aside0 (Below w.heap.size w wc))
   case first =>
    have H := HC33.out
    clear HC33
    by_cases c38 : x51_1 = ji10
    case neg =>
     rw [if_neg c38] at H
     have c38b0 : (x51_1 == ji10) = false := beq_eq_false_iff_ne.mpr c38
     have c38b1 : (x51_1 != ji10) = true := bne_iff_ne.mpr c38
     (first | rw [c38b0] | (simp only [i64_w, i32_w]; rw [c38b0]) | skip)
     have H' := Aside0.mk H
     clear H
     go_wp2
     go_meet
     case rel => exact ⟨_, (false), (by first | rfl | (simp; done) | (simp [*]; done)), H', ⟨by have := HK1.out; first | omega | exact Nat.le_refl _⟩, ⟨by (with_reducible repeat (first | apply Kd.R_alloc | apply Kd.R_drewN | apply Kd.R_drew)); exact Kd.R_mono (Kd.R_far (p := ⟨gb203, 3, none⟩) (Kd.R_far (p := ⟨gb203, 2, none⟩) (Kd.R_far (p := ⟨gb203, 1, none⟩) (Kd.R_far (p := ⟨gb203, 0, none⟩) (Kd.R_mono HO_49.out (fun k_ hk => (⟨hk, hk.2⟩ : _ ∧ k_ ≠ gb203))) (fun _ hk => hk.2) (.int .i64 ((rd_T36 t195 x51_1).f0))) (fun _ hk => hk.2) (.int .i64 ((rd_T36 t195 x51_1).f1))) (fun _ hk => hk.2) (.int .i64 ((rd_T36 t195 x51_1).f2))) (fun _ hk => hk.2) (.int .i64 ((rd_T36 t195 x51_1).f3))) (fun _ hk => hk.1.2)⟩, ⟨by (with_reducible repeat (first | apply Kd.R_alloc | apply Kd.R_drewN | apply Kd.R_drew)); exact Kd.R_mono (Kd.R_far (p := ⟨gb203, 3, none⟩) (Kd.R_far (p := ⟨gb203, 2, none⟩) (Kd.R_far (p := ⟨gb203, 1, none⟩) (Kd.R_far (p := ⟨gb203, 0, none⟩) (Kd.R_types ba0.out BK203.out (by decide)) (fun _ hk => hk.2) (.int .i64 ((rd_T36 t195 x51_1).f0))) (fun _ hk => hk.2) (.int .i64 ((rd_T36 t195 x51_1).f1))) (fun _ hk => hk.2) (.int .i64 ((rd_T36 t195 x51_1).f2))) (fun _ hk => hk.2) (.int .i64 ((rd_T36 t195 x51_1).f3))) (fun _ hk => hk.1)⟩, ⟨by (with_reducible repeat (first | apply Kd.R_alloc | apply Kd.R_drewN | apply Kd.R_drew)); exact Kd.R_mono (Kd.R_far (p := ⟨gb203, 3, none⟩) (Kd.R_far (p := ⟨gb203, 2, none⟩) (Kd.R_far (p := ⟨gb203, 1, none⟩) (Kd.R_far (p := ⟨gb203, 0, none⟩) (Kd.R_types ba1.out BK203.out (by decide)) (fun _ hk => hk.2) (.int .i64 ((rd_T36 t195 x51_1).f0))) (fun _ hk => hk.2) (.int .i64 ((rd_T36 t195 x51_1).f1))) (fun _ hk => hk.2) (.int .i64 ((rd_T36 t195 x51_1).f2))) (fun _ hk => hk.2) (.int .i64 ((rd_T36 t195 x51_1).f3))) (fun _ hk => hk.1)⟩, ⟨by (with_reducible repeat (first | refine blk_drewN ?_ _ | refine blk_drew ?_ | refine blk_alloc ?_ _)); refine blk_far ?_ NB176_203.out _; (with_reducible repeat (first | refine blk_drewN ?_ _ | refine blk_drew ?_ | refine blk_alloc ?_ _)); refine blk_far ?_ NB176_203.out _; (with_reducible repeat (first | refine blk_drewN ?_ _ | refine blk_drew ?_ | refine blk_alloc ?_ _)); refine blk_far ?_ NB176_203.out _; (with_reducible repeat (first | refine blk_drewN ?_ _ | refine blk_drew ?_ | refine blk_alloc ?_ _)); refine blk_far ?_ NB176_203.out _; (with_reducible repeat (first | refine blk_drewN ?_ _ | refine blk_drew ?_ | refine blk_alloc ?_ _)); exact BK176.out⟩, ⟨by (with_reducible repeat (first | refine blk_drewN ?_ _ | refine blk_drew ?_ | refine blk_alloc ?_ _)); refine blk_far ?_ NB194_203.out _; (with_reducible repeat (first | refine blk_drewN ?_ _ | refine blk_drew ?_ | refine blk_alloc ?_ _)); refine blk_far ?_ NB194_203.out _; (with_reducible repeat (first | refine blk_drewN ?_ _ | refine blk_drew ?_ | refine blk_alloc ?_ _)); refine blk_far ?_ NB194_203.out _; (with_reducible repeat (first | refine blk_drewN ?_ _ | refine blk_drew ?_ | refine blk_alloc ?_ _)); refine blk_far ?_ NB194_203.out _; (with_reducible repeat (first | refine blk_drewN ?_ _ | refine blk_drew ?_ | refine blk_alloc ?_ _)); exact BK194.out⟩, ⟨by (with_reducible repeat (first | refine blk_drewN ?_ _ | refine blk_drew ?_ | refine blk_alloc ?_ _)); refine blk_put (cs := #[.int .i64 ((rd_T36 t195 x51_1).f0), .int .i64 ((rd_T36 t195 x51_1).f1), .int .i64 ((rd_T36 t195 x51_1).f2), .int .i64 0]) ?_ 3 _ rfl; (with_reducible repeat (first | refine blk_drewN ?_ _ | refine blk_drew ?_ | refine blk_alloc ?_ _)); refine blk_put (cs := #[.int .i64 ((rd_T36 t195 x51_1).f0), .int .i64 ((rd_T36 t195 x51_1).f1), .int .i64 0, .int .i64 0]) ?_ 2 _ rfl; (with_reducible repeat (first | refine blk_drewN ?_ _ | refine blk_drew ?_ | refine blk_alloc ?_ _)); refine blk_put (cs := #[.int .i64 ((rd_T36 t195 x51_1).f0), .int .i64 0, .int .i64 0, .int .i64 0]) ?_ 1 _ rfl; (with_reducible repeat (first | refine blk_drewN ?_ _ | refine blk_drew ?_ | refine blk_alloc ?_ _)); refine blk_put (cs := #[.int .i64 0, .int .i64 0, .int .i64 0, .int .i64 0]) ?_ 0 _ rfl; (with_reducible repeat (first | refine blk_drewN ?_ _ | refine blk_drew ?_ | refine blk_alloc ?_ _)); exact BK203.out⟩, ⟨by repeat (first | (with_reducible first | exact HB.out | apply below_alloc | apply pw_below_drewN | apply below_drew1 | refine below_set ?_ GE176.out | refine below_set ?_ GE194.out | refine below_set ?_ GE203.out) | exact HB.out)⟩⟩
    rw [if_pos c38] at H
    have c38b0 : (x51_1 == ji10) = true := beq_iff_eq.mpr c38
    have c38b1 : (x51_1 != ji10) = false := bne_eq_false_iff_eq.mpr c38
    clear c38
    (first | rw [c38b0] | (simp only [i64_w, i32_w]; rw [c38b0]) | skip)
    have H' := Aside0.mk H
    clear H
    have hnb39 := NB203_176.out
    have hnc39 := NB176_203.out
    have hnb40 := NB203_194.out
    have hnc40 := NB194_203.out
    have hcz41_0 : w34.cell? ⟨gb203, 0, none⟩ = some (.int .i64 0) := (blk_cell BK203.out 0).trans rfl
    have hcz41_1 : w34.cell? ⟨gb203, 1, none⟩ = some (.int .i64 0) := (blk_cell BK203.out 1).trans rfl
    have hcz41_2 : w34.cell? ⟨gb203, 2, none⟩ = some (.int .i64 0) := (blk_cell BK203.out 2).trans rfl
    have hcz41_3 : w34.cell? ⟨gb203, 3, none⟩ = some (.int .i64 0) := (blk_cell BK203.out 3).trans rfl
    have hfz41_0 := blk_frozen BK203.out 0
    have hfz41_1 := blk_frozen BK203.out 1
    have hfz41_2 := blk_frozen BK203.out 2
    have hfz41_3 := blk_frozen BK203.out 3
    go_wp2
    go_meet
    case rel => exact ⟨_, ((((rd_T36 t195 x51_1).f3) == 5)), (by first | rfl | (simp; done) | (simp [*]; done)), H', ⟨by have := HK1.out; first | omega | exact Nat.le_refl _⟩, ⟨by (with_reducible repeat (first | apply Kd.R_alloc | apply Kd.R_drewN | apply Kd.R_drew)); exact Kd.R_mono (Kd.R_far (p := ⟨gb203, 3, none⟩) (Kd.R_far (p := ⟨gb203, 2, none⟩) (Kd.R_far (p := ⟨gb203, 1, none⟩) (Kd.R_far (p := ⟨gb203, 0, none⟩) (Kd.R_mono HO_49.out (fun k_ hk => (⟨hk, hk.2⟩ : _ ∧ k_ ≠ gb203))) (fun _ hk => hk.2) (.int .i64 ((rd_T36 t195 x51_1).f0))) (fun _ hk => hk.2) (.int .i64 ((rd_T36 t195 x51_1).f1))) (fun _ hk => hk.2) (.int .i64 ((rd_T36 t195 x51_1).f2))) (fun _ hk => hk.2) (.int .i64 ((rd_T36 t195 x51_1).f3))) (fun _ hk => hk.1.2)⟩, ⟨by (with_reducible repeat (first | apply Kd.R_alloc | apply Kd.R_drewN | apply Kd.R_drew)); exact Kd.R_mono (Kd.R_far (p := ⟨gb203, 3, none⟩) (Kd.R_far (p := ⟨gb203, 2, none⟩) (Kd.R_far (p := ⟨gb203, 1, none⟩) (Kd.R_far (p := ⟨gb203, 0, none⟩) (Kd.R_types ba0.out BK203.out (by decide)) (fun _ hk => hk.2) (.int .i64 ((rd_T36 t195 x51_1).f0))) (fun _ hk => hk.2) (.int .i64 ((rd_T36 t195 x51_1).f1))) (fun _ hk => hk.2) (.int .i64 ((rd_T36 t195 x51_1).f2))) (fun _ hk => hk.2) (.int .i64 ((rd_T36 t195 x51_1).f3))) (fun _ hk => hk.1)⟩, ⟨by (with_reducible repeat (first | apply Kd.R_alloc | apply Kd.R_drewN | apply Kd.R_drew)); exact Kd.R_mono (Kd.R_far (p := ⟨gb203, 3, none⟩) (Kd.R_far (p := ⟨gb203, 2, none⟩) (Kd.R_far (p := ⟨gb203, 1, none⟩) (Kd.R_far (p := ⟨gb203, 0, none⟩) (Kd.R_types ba1.out BK203.out (by decide)) (fun _ hk => hk.2) (.int .i64 ((rd_T36 t195 x51_1).f0))) (fun _ hk => hk.2) (.int .i64 ((rd_T36 t195 x51_1).f1))) (fun _ hk => hk.2) (.int .i64 ((rd_T36 t195 x51_1).f2))) (fun _ hk => hk.2) (.int .i64 ((rd_T36 t195 x51_1).f3))) (fun _ hk => hk.1)⟩, ⟨by (with_reducible repeat (first | refine blk_drewN ?_ _ | refine blk_drew ?_ | refine blk_alloc ?_ _)); refine blk_far ?_ NB176_203.out _; (with_reducible repeat (first | refine blk_drewN ?_ _ | refine blk_drew ?_ | refine blk_alloc ?_ _)); refine blk_far ?_ NB176_203.out _; (with_reducible repeat (first | refine blk_drewN ?_ _ | refine blk_drew ?_ | refine blk_alloc ?_ _)); refine blk_far ?_ NB176_203.out _; (with_reducible repeat (first | refine blk_drewN ?_ _ | refine blk_drew ?_ | refine blk_alloc ?_ _)); refine blk_far ?_ NB176_203.out _; (with_reducible repeat (first | refine blk_drewN ?_ _ | refine blk_drew ?_ | refine blk_alloc ?_ _)); exact BK176.out⟩, ⟨by (with_reducible repeat (first | refine blk_drewN ?_ _ | refine blk_drew ?_ | refine blk_alloc ?_ _)); refine blk_far ?_ NB194_203.out _; (with_reducible repeat (first | refine blk_drewN ?_ _ | refine blk_drew ?_ | refine blk_alloc ?_ _)); refine blk_far ?_ NB194_203.out _; (with_reducible repeat (first | refine blk_drewN ?_ _ | refine blk_drew ?_ | refine blk_alloc ?_ _)); refine blk_far ?_ NB194_203.out _; (with_reducible repeat (first | refine blk_drewN ?_ _ | refine blk_drew ?_ | refine blk_alloc ?_ _)); refine blk_far ?_ NB194_203.out _; (with_reducible repeat (first | refine blk_drewN ?_ _ | refine blk_drew ?_ | refine blk_alloc ?_ _)); exact BK194.out⟩, ⟨by (with_reducible repeat (first | refine blk_drewN ?_ _ | refine blk_drew ?_ | refine blk_alloc ?_ _)); refine blk_put (cs := #[.int .i64 ((rd_T36 t195 x51_1).f0), .int .i64 ((rd_T36 t195 x51_1).f1), .int .i64 ((rd_T36 t195 x51_1).f2), .int .i64 0]) ?_ 3 _ rfl; (with_reducible repeat (first | refine blk_drewN ?_ _ | refine blk_drew ?_ | refine blk_alloc ?_ _)); refine blk_put (cs := #[.int .i64 ((rd_T36 t195 x51_1).f0), .int .i64 ((rd_T36 t195 x51_1).f1), .int .i64 0, .int .i64 0]) ?_ 2 _ rfl; (with_reducible repeat (first | refine blk_drewN ?_ _ | refine blk_drew ?_ | refine blk_alloc ?_ _)); refine blk_put (cs := #[.int .i64 ((rd_T36 t195 x51_1).f0), .int .i64 0, .int .i64 0, .int .i64 0]) ?_ 1 _ rfl; (with_reducible repeat (first | refine blk_drewN ?_ _ | refine blk_drew ?_ | refine blk_alloc ?_ _)); refine blk_put (cs := #[.int .i64 0, .int .i64 0, .int .i64 0, .int .i64 0]) ?_ 0 _ rfl; (with_reducible repeat (first | refine blk_drewN ?_ _ | refine blk_drew ?_ | refine blk_alloc ?_ _)); exact BK203.out⟩, ⟨by repeat (first | (with_reducible first | exact HB.out | apply below_alloc | apply pw_below_drewN | apply below_drew1 | refine below_set ?_ GE176.out | refine below_set ?_ GE194.out | refine below_set ?_ GE203.out) | exact HB.out)⟩⟩
   case rest =>
    clear HC33
    try clear c1
    try clear c2
    try clear p2
    try clear q2
    try clear hx2
    try clear c3
    try clear c4
    try clear p6
    try clear c8
    try clear c8b0
    try clear c8b1
    try clear c11
    try clear c11b0
    try clear c12
    try clear c12b0
    try clear c17
    try clear c18
    try clear p20
    try clear q20
    try clear hx20
    try clear c22
    try clear c23
    try clear c24
    try clear c30
    try clear c30b0
    try clear c31
    try clear c31b0
    try clear c32
    try clear c32b0
    try clear c35
    try clear c36
    try clear c38
    try clear c38b0
    try clear c38b1
    try clear c39
    try clear c40
    try clear hcz18_0
    try clear hcz18_1
    try clear hcz18_2
    try clear hcz18_3
    try clear hcz18_4
    try clear hcz24_0
    try clear hcz24_1
    try clear hcz24_10
    try clear hcz24_11
    try clear hcz24_12
    try clear hcz24_13
    try clear hcz24_2
    try clear hcz24_3
    try clear hcz24_4
    try clear hcz24_5
    try clear hcz24_6
    try clear hcz24_7
    try clear hcz24_8
    try clear hcz24_9
    try clear hcz26_0
    try clear hcz26_1
    try clear hcz26_2
    try clear hcz26_3
    try clear hcz26_4
    try clear hcz37_0
    try clear hcz37_1
    try clear hcz37_2
    try clear hcz37_3
    try clear hcz41_0
    try clear hcz41_1
    try clear hcz41_2
    try clear hcz41_3
    try clear hfz18_0
    try clear hfz18_1
    try clear hfz18_2
    try clear hfz18_3
    try clear hfz18_4
    try clear hfz24_0
    try clear hfz24_1
    try clear hfz24_10
    try clear hfz24_11
    try clear hfz24_12
    try clear hfz24_13
    try clear hfz24_2
    try clear hfz24_3
    try clear hfz24_4
    try clear hfz24_5
    try clear hfz24_6
    try clear hfz24_7
    try clear hfz24_8
    try clear hfz24_9
    try clear hfz26_0
    try clear hfz26_1
    try clear hfz26_2
    try clear hfz26_3
    try clear hfz26_4
    try clear hfz37_0
    try clear hfz37_1
    try clear hfz37_2
    try clear hfz37_3
    try clear hfz41_0
    try clear hfz41_1
    try clear hfz41_2
    try clear hfz41_3
    try clear hx201_0
    try clear hx201_1
    try clear hx201_2
    try clear hx201_3
    try clear hx202_0
    try clear hx202_1
    try clear hx202_2
    try clear hx202_3
    try clear p2
    try clear p20
    try clear p201
    try clear p202
    try clear p6
    try clear q2
    try clear q20
    try clear q201
    try clear q202
    obtain ⟨kq, x63_32, rfl, HA, HJ32, HO_49, ba0, ba1, BK176, BK194, BK203, HB⟩ := hcut
    cases kq with
    | zero => exact absurd HA.out (by simp [storagebarterlaw29_SlotDrops.j1])
    | succ kj32 =>
     have H := HA.out
     clear HA
     simp only [storagebarterlaw29_SlotDrops.j1] at H
     have HC42 := Aside0.mk H
     clear H
     go_upto_if 63 with (fail)
     go_cut [11, 14] (fun v11 v14 wc => ∃ (kq : Nat) (x11_41 : Bool) (x14_41 : Int), v11 = .bool x11_41 ∧ v14 = .int .i64 x14_41 ∧ Aside0 (storagebarterlaw29_SlotDrops.j2 kq ji10 ((rd_T36 t195 (ji10)).f2) x11_41 x14_41 t195 (t195.length : Int) x51_1 t168 t169 t170 t171 t172 ba4 ba5 ba6 ba7 ba3 ba8 ba9 baa bab bac bad bae ba2 baf ((rd_T36 t195 x51_1).f0) ((rd_T36 t195 x51_1).f1) ((rd_T36 t195 x51_1).f2) ((rd_T36 t195 x51_1).f3) = some r) ∧ Aside0 (kq ≤ kj32) ∧ Aside0 (Kd.R k36 36 wc w.heap.size (fun k_ => k_ ≠ gb203) (.slice (some ad201) t195.length co28) t195) ∧ Aside0 (Kd.R (Kd.int .i64) 3 wc w.heap.size (fun k_ => some k_ ≠ (bar : Value).ownBlock) (.slice Ao19 t172.length co19) t172) ∧ Aside0 (Kd.R (Kd.int .i64) 3 wc w.heap.size (fun k_ => some k_ ≠ ((.slice Ao19 t172.length co19) : Value).ownBlock) bar ba3) ∧ Aside0 (wc.heap[gb176]? = some (.cells #[.int .i64 t168, .int .i64 t169, .int .i64 t170, .int .i64 t171, (.slice Ao19 t172.length co19)] 26 (0, 0))) ∧ Aside0 (wc.heap[gb194]? = some (.cells #[.int .i64 ba4, .int .i64 ba5, .int .i64 ba6, .int .i64 ba7, bar, .int .i64 ba8, .int .i64 ba9, .int .i64 baa, .bool bab, .bool bac, .bool bad, .bool bae, .bool ba2, .int .i64 baf] 54 (0, 0))) ∧ Aside0 (wc.heap[gb203]? = some (.cells #[.int .i64 ((rd_T36 t195 x51_1).f0), .int .i64 ((rd_T36 t195 x51_1).f1), .int .i64 ((rd_T36 t195 x51_1).f2), .int .i64 ((rd_T36 t195 x51_1).f3)] 36 (0, 0))) ∧ Aside0 (Below w.heap.size w wc))
     case first =>
      have H := HC42.out
      clear HC42
      by_cases c43 : x63_32 = true
      case pos =>
       subst c43
       have H1 : (storagebarterlaw29_SlotDrops.j2 kj32 ji10 ((rd_T36 t195 (ji10)).f2) true 1 t195 (t195.length : Int) x51_1 t168 t169 t170 t171 t172 ba4 ba5 ba6 ba7 ba3 ba8 ba9 baa bab bac bad bae ba2 baf ((rd_T36 t195 x51_1).f0) ((rd_T36 t195 x51_1).f1) ((rd_T36 t195 x51_1).f2) ((rd_T36 t195 x51_1).f3)) = some r := by rw [if_pos rfl] at H; exact H
       clear H
       have H := H1
       clear H1
       have H' := Aside0.mk H
       clear H
       go_wp2
       go_meet
       case rel => exact ⟨_, (true), (1), (by first | rfl | (simp; done) | (simp [*]; done)), (by first | rfl | (simp; done) | (simp [*]; done)), H', ⟨by have := HK1.out; have := HJ32.out; first | omega | exact Nat.le_refl _⟩, ⟨by (with_reducible repeat (first | apply Kd.R_alloc | apply Kd.R_drewN | apply Kd.R_drew)); exact HO_49.out⟩, ⟨by (with_reducible repeat (first | apply Kd.R_alloc | apply Kd.R_drewN | apply Kd.R_drew)); exact ba0.out⟩, ⟨by (with_reducible repeat (first | apply Kd.R_alloc | apply Kd.R_drewN | apply Kd.R_drew)); exact ba1.out⟩, ⟨by (with_reducible repeat (first | refine blk_drewN ?_ _ | refine blk_drew ?_ | refine blk_alloc ?_ _)); exact BK176.out⟩, ⟨by (with_reducible repeat (first | refine blk_drewN ?_ _ | refine blk_drew ?_ | refine blk_alloc ?_ _)); exact BK194.out⟩, ⟨by (with_reducible repeat (first | refine blk_drewN ?_ _ | refine blk_drew ?_ | refine blk_alloc ?_ _)); exact BK203.out⟩, ⟨by repeat (first | (with_reducible first | exact HB.out | apply below_alloc | apply pw_below_drewN | apply below_drew1 | refine below_set ?_ GE176.out | refine below_set ?_ GE194.out | refine below_set ?_ GE203.out) | exact HB.out)⟩⟩
      replace c43 := Bool.eq_false_iff.mpr c43
      subst c43
      have H1 : (storagebarterlaw29_SlotDrops.j2 kj32 ji10 ((rd_T36 t195 (ji10)).f2) x11_1 0 t195 (t195.length : Int) x51_1 t168 t169 t170 t171 t172 ba4 ba5 ba6 ba7 ba3 ba8 ba9 baa bab bac bad bae ba2 baf ((rd_T36 t195 x51_1).f0) ((rd_T36 t195 x51_1).f1) ((rd_T36 t195 x51_1).f2) ((rd_T36 t195 x51_1).f3)) = some r := by rw [if_neg (show ¬ (false = true) by decide)] at H; exact H
      clear H
      have H := H1
      clear H1
      have H' := Aside0.mk H
      clear H
      go_wp2
      go_meet
      case rel => exact ⟨_, (x11_1), (0), (by first | rfl | (simp; done) | (simp [*]; done)), (by first | rfl | (simp; done) | (simp [*]; done)), H', ⟨by have := HK1.out; have := HJ32.out; first | omega | exact Nat.le_refl _⟩, ⟨by (with_reducible repeat (first | apply Kd.R_alloc | apply Kd.R_drewN | apply Kd.R_drew)); exact HO_49.out⟩, ⟨by (with_reducible repeat (first | apply Kd.R_alloc | apply Kd.R_drewN | apply Kd.R_drew)); exact ba0.out⟩, ⟨by (with_reducible repeat (first | apply Kd.R_alloc | apply Kd.R_drewN | apply Kd.R_drew)); exact ba1.out⟩, ⟨by (with_reducible repeat (first | refine blk_drewN ?_ _ | refine blk_drew ?_ | refine blk_alloc ?_ _)); exact BK176.out⟩, ⟨by (with_reducible repeat (first | refine blk_drewN ?_ _ | refine blk_drew ?_ | refine blk_alloc ?_ _)); exact BK194.out⟩, ⟨by (with_reducible repeat (first | refine blk_drewN ?_ _ | refine blk_drew ?_ | refine blk_alloc ?_ _)); exact BK203.out⟩, ⟨by repeat (first | (with_reducible first | exact HB.out | apply below_alloc | apply pw_below_drewN | apply below_drew1 | refine below_set ?_ GE176.out | refine below_set ?_ GE194.out | refine below_set ?_ GE203.out) | exact HB.out)⟩⟩
     case rest =>
      clear HC42
      try clear c1
      try clear c2
      try clear p2
      try clear q2
      try clear hx2
      try clear c3
      try clear c4
      try clear p6
      try clear c8
      try clear c8b0
      try clear c8b1
      try clear c11
      try clear c11b0
      try clear c12
      try clear c12b0
      try clear c17
      try clear c18
      try clear p20
      try clear q20
      try clear hx20
      try clear c22
      try clear c23
      try clear c24
      try clear c30
      try clear c30b0
      try clear c31
      try clear c31b0
      try clear c32
      try clear c32b0
      try clear c35
      try clear c36
      try clear c38
      try clear c38b0
      try clear c38b1
      try clear c39
      try clear c40
      try clear c43
      try clear hcz18_0
      try clear hcz18_1
      try clear hcz18_2
      try clear hcz18_3
      try clear hcz18_4
      try clear hcz24_0
      try clear hcz24_1
      try clear hcz24_10
      try clear hcz24_11
      try clear hcz24_12
      try clear hcz24_13
      try clear hcz24_2
      try clear hcz24_3
      try clear hcz24_4
      try clear hcz24_5
      try clear hcz24_6
      try clear hcz24_7
      try clear hcz24_8
      try clear hcz24_9
      try clear hcz26_0
      try clear hcz26_1
      try clear hcz26_2
      try clear hcz26_3
      try clear hcz26_4
      try clear hcz37_0
      try clear hcz37_1
      try clear hcz37_2
      try clear hcz37_3
      try clear hcz41_0
      try clear hcz41_1
      try clear hcz41_2
      try clear hcz41_3
      try clear hfz18_0
      try clear hfz18_1
      try clear hfz18_2
      try clear hfz18_3
      try clear hfz18_4
      try clear hfz24_0
      try clear hfz24_1
      try clear hfz24_10
      try clear hfz24_11
      try clear hfz24_12
      try clear hfz24_13
      try clear hfz24_2
      try clear hfz24_3
      try clear hfz24_4
      try clear hfz24_5
      try clear hfz24_6
      try clear hfz24_7
      try clear hfz24_8
      try clear hfz24_9
      try clear hfz26_0
      try clear hfz26_1
      try clear hfz26_2
      try clear hfz26_3
      try clear hfz26_4
      try clear hfz37_0
      try clear hfz37_1
      try clear hfz37_2
      try clear hfz37_3
      try clear hfz41_0
      try clear hfz41_1
      try clear hfz41_2
      try clear hfz41_3
      try clear hx201_0
      try clear hx201_1
      try clear hx201_2
      try clear hx201_3
      try clear hx202_0
      try clear hx202_1
      try clear hx202_2
      try clear hx202_3
      try clear p2
      try clear p20
      try clear p201
      try clear p202
      try clear p6
      try clear q2
      try clear q20
      try clear q201
      try clear q202
      obtain ⟨kq, x11_41, x14_41, rfl, rfl, HA, HJ41, HO_49, ba0, ba1, BK176, BK194, BK203, HB⟩ := hcut
      cases kq with
      | zero => exact absurd HA.out (by simp [storagebarterlaw29_SlotDrops.j2])
      | succ kj41 =>
       have H := HA.out
       clear HA
       simp only [storagebarterlaw29_SlotDrops.j2] at H
       replace H := Option.bind_eq_some_iff.mp H
       obtain ⟨⟨t204, t205, t206, t207, t208, t211, t212, t213, t214, t215, t216, t217, t218, t219, t220⟩, A440, H⟩ := H
       replace H : (if t220 = 0 then (if x11_41 = true then (if ((rd_T36 t195 x51_1).f2) = ((rd_T36 t195 (ji10)).f2) then (if ((rd_T36 t195 x51_1).f3) = 6 then (storagebarterlaw29_SlotDrops.j3 kj41 ji10 ((rd_T36 t195 (ji10)).f2) x11_41 ba2 true t195 (t195.length : Int) x51_1 t168 t169 t170 t171 t172 t204 t205 t206 t207 t208 t211 t212 t213 t214 t215 t216 t217 t218 t219) else (storagebarterlaw29_SlotDrops.j3 kj41 ji10 ((rd_T36 t195 (ji10)).f2) x11_41 ba2 (((rd_T36 t195 x51_1).f3) == 7) t195 (t195.length : Int) x51_1 t168 t169 t170 t171 t172 t204 t205 t206 t207 t208 t211 t212 t213 t214 t215 t216 t217 t218 t219)) else (storagebarterlaw29_SlotDrops.j3 kj41 ji10 ((rd_T36 t195 (ji10)).f2) x11_41 ba2 false t195 (t195.length : Int) x51_1 t168 t169 t170 t171 t172 t204 t205 t206 t207 t208 t211 t212 t213 t214 t215 t216 t217 t218 t219)) else (storagebarterlaw29_SlotDrops.j3 kj41 ji10 ((rd_T36 t195 (ji10)).f2) x11_41 ba2 false t195 (t195.length : Int) x51_1 t168 t169 t170 t171 t172 t204 t205 t206 t207 t208 t211 t212 t213 t214 t215 t216 t217 t218 t219)) else (some false)) = some r := H
       have A44 := Aside0.mk A440
       clear A440
       by_cases c45 : t220 = 0
       case neg =>
        rw [if_neg c45] at H
        have c45b0 : (t220 == 0) = false := beq_eq_false_iff_ne.mpr c45
        have c45b1 : (t220 != 0) = true := bne_iff_ne.mpr c45
        exact absurd (Option.some.inj H) (by rw [HRT_.out]; decide)
       rw [if_pos c45] at H
       have c45b0 : (t220 == 0) = true := beq_iff_eq.mpr c45
       have c45b1 : (t220 != 0) = false := bne_eq_false_iff_eq.mpr c45
       clear c45
       have HC46 := Aside0.mk H
       clear H
       have hnb47 := NB194_176.out
       have hnc47 := NB176_194.out
       have hnb48 := NB194_203.out
       have hnc48 := NB203_194.out
       have hcz49_0 : wc.cell? ⟨gb194, 0, none⟩ = some (.int .i64 ba4) := (blk_cell BK194.out 0).trans rfl
       have hcz49_1 : wc.cell? ⟨gb194, 1, none⟩ = some (.int .i64 ba5) := (blk_cell BK194.out 1).trans rfl
       have hcz49_2 : wc.cell? ⟨gb194, 2, none⟩ = some (.int .i64 ba6) := (blk_cell BK194.out 2).trans rfl
       have hcz49_3 : wc.cell? ⟨gb194, 3, none⟩ = some (.int .i64 ba7) := (blk_cell BK194.out 3).trans rfl
       have hcz49_4 : wc.cell? ⟨gb194, 4, none⟩ = some (bar) := (blk_cell BK194.out 4).trans rfl
       have hcz49_5 : wc.cell? ⟨gb194, 5, none⟩ = some (.int .i64 ba8) := (blk_cell BK194.out 5).trans rfl
       have hcz49_6 : wc.cell? ⟨gb194, 6, none⟩ = some (.int .i64 ba9) := (blk_cell BK194.out 6).trans rfl
       have hcz49_7 : wc.cell? ⟨gb194, 7, none⟩ = some (.int .i64 baa) := (blk_cell BK194.out 7).trans rfl
       have hcz49_8 : wc.cell? ⟨gb194, 8, none⟩ = some (.bool bab) := (blk_cell BK194.out 8).trans rfl
       have hcz49_9 : wc.cell? ⟨gb194, 9, none⟩ = some (.bool bac) := (blk_cell BK194.out 9).trans rfl
       have hcz49_10 : wc.cell? ⟨gb194, 10, none⟩ = some (.bool bad) := (blk_cell BK194.out 10).trans rfl
       have hcz49_11 : wc.cell? ⟨gb194, 11, none⟩ = some (.bool bae) := (blk_cell BK194.out 11).trans rfl
       have hcz49_12 : wc.cell? ⟨gb194, 12, none⟩ = some (.bool ba2) := (blk_cell BK194.out 12).trans rfl
       have hcz49_13 : wc.cell? ⟨gb194, 13, none⟩ = some (.int .i64 baf) := (blk_cell BK194.out 13).trans rfl
       have hfz49_0 := blk_frozen BK194.out 0
       have hfz49_1 := blk_frozen BK194.out 1
       have hfz49_2 := blk_frozen BK194.out 2
       have hfz49_3 := blk_frozen BK194.out 3
       have hfz49_4 := blk_frozen BK194.out 4
       have hfz49_5 := blk_frozen BK194.out 5
       have hfz49_6 := blk_frozen BK194.out 6
       have hfz49_7 := blk_frozen BK194.out 7
       have hfz49_8 := blk_frozen BK194.out 8
       have hfz49_9 := blk_frozen BK194.out 9
       have hfz49_10 := blk_frozen BK194.out 10
       have hfz49_11 := blk_frozen BK194.out 11
       have hfz49_12 := blk_frozen BK194.out 12
       have hfz49_13 := blk_frozen BK194.out 13
       obtain ⟨Ao50, co50, eo50⟩ := Kd.R_slice ba1.out
       subst eo50
       go_upto_region 22 with (first | ((with_reducible refine gate_callee (f := 37) rfl ?_); refine goesL_ (some 69) rfl rfl Tryd.func37 (by kernel_rfl) rfl #[.agg #[.int .i64 ba4, .int .i64 ba5, .int .i64 ba6, .int .i64 ba7, .slice Ao50 ba3.length co50, .int .i64 ba8, .int .i64 ba9, .int .i64 baa, .bool bab, .bool bac, .bool bad, .bool bae, .bool ba2, .int .i64 baf], .int .i64 x14_41] rfl (by (try simp only [List.map_toArray, List.map_cons, List.map_nil]); first | done | rfl | (simp only [List.length_drop, List.length_take]; rfl)) ?_; (with_reducible refine (slot_Step.calls kj41 ba4 ba5 ba6 ba7 _ _ ba3 ba8 ba9 baa bab bac bad bae ba2 baf x14_41 t204 t205 t206 t207 t208 t211 t212 t213 t214 t215 t216 t217 t218 t219 t220 _ ?side1 ?side2 A44.out (by first | exact HL_.out | exact laid_below HL_.out (by repeat (first | (with_reducible first | exact HB.out | apply below_alloc | apply pw_below_drewN | apply below_drew1) | refine below_set ?_ (Aside0.out (by assumption)) | exact HB.out)) | exact laid_drawn HL_.out HD.out | exact laid_drawn HL_.out (HD.out.step _))).mono ?_); (case side1 => repeat (first | exact (Kd.R_reads' ba1.out).2.2 | (with_reducible refine Kd.C_alloc ?_ _) | (with_reducible refine Kd.C_drewN ?_ _) | (with_reducible refine Kd.C_drew ?_))); (case side2 => exact (Kd.R_reads' ba1.out).2.1); rintro e w51 ⟨v209, rfl, ho0, hb⟩; refine ⟨_, rfl, ?_⟩; have n0_ := Aside0.mk (Kd.R_below (R_up HO_49.out) hb); have n1_ := Aside0.mk (Kd.R_elder' (R_up ba0.out) (Kd.R_base ho0) hb); have n2_ := Aside0.mk (Kd.R_elder' (R_up ba1.out) (Kd.R_base ho0) hb); have n3_ := Aside0.mk (Kd.R_lower (Kd.R_new' (Kd.R_new' ho0 (Kd.R_lt (R_up ba0.out))) (Kd.R_lt (R_up ba1.out))) (below_size (by repeat (first | (with_reducible first | exact HB.out | apply below_alloc | apply pw_below_drewN | apply below_drew1 | refine below_set ?_ GE176.out | refine below_set ?_ GE194.out | refine below_set ?_ GE203.out) | exact HB.out)))); have n4_ := Aside0.mk (blk_below (g := gb176) (blk_up BK176.out) hb); have n5_ := Aside0.mk (blk_below (g := gb194) (blk_up BK194.out) hb); have n6_ := Aside0.mk (blk_below (g := gb203) (blk_up BK203.out) hb); have n7_ := Aside0.mk (below_step (by repeat (first | (with_reducible first | exact HB.out | apply below_alloc | apply pw_below_drewN | apply below_drew1 | refine below_set ?_ GE176.out | refine below_set ?_ GE194.out | refine below_set ?_ GE203.out) | exact HB.out)) hb); clear HO_49; clear ba0; clear ba1; clear BK176; clear BK194; clear BK203; clear HB; have HO_49 := n0_; have ba0 := n1_; have ba1 := n2_; have HO210 := n3_; have BK176 := n4_; have BK194 := n5_; have BK203 := n6_; have HB := n7_; clear n0_ n1_ n2_ n3_ n4_ n5_ n6_ n7_; (try clear hb); (try clear hb2); (try clear hk); (try clear hi); (try clear hgw); (try clear ho0)) | ((with_reducible refine gate_dst (N := 16) rfl ?_); refine box_event ?hg (N := 16) ?hd (cs := #[.int .i64 0, .int .i64 0, .int .i64 0, .int .i64 0, .slice none 0 0, .int .i64 0, .int .i64 0, .int .i64 0, .bool false, .bool false, .bool false, .bool false, .bool false, .int .i64 0]) (t := 54) ?hr ?_; (case hd => rfl); (case hg => rfl); (case hr => first | (go_simp; done) | (go_simp; rfl)); intro gb221 hg w52 hbox hb; have n0_ := Aside0.mk (Kd.R_below (R_up HO_49.out) hb); have n1_ := Aside0.mk (Kd.R_below (R_up ba0.out) hb); have n2_ := Aside0.mk (Kd.R_below (R_up ba1.out) hb); have n3_ := Aside0.mk (Kd.R_below (R_up HO210.out) hb); have n4_ := Aside0.mk (blk_below (g := gb176) (blk_up BK176.out) hb); have n5_ := Aside0.mk (blk_below (g := gb194) (blk_up BK194.out) hb); have n6_ := Aside0.mk (blk_below (g := gb203) (blk_up BK203.out) hb); have n7_ := Aside0.mk (below_step (by repeat (first | (with_reducible first | exact HB.out | apply below_alloc | apply pw_below_drewN | apply below_drew1 | refine below_set ?_ GE176.out | refine below_set ?_ GE194.out | refine below_set ?_ GE203.out) | exact HB.out)) hb); have n8_ := Aside0.mk (hbox); have n9_ := Aside0.mk ((by rw [hg]; exact (below_size (by repeat (first | (with_reducible first | exact HB.out | apply below_alloc | apply pw_below_drewN | apply below_drew1 | refine below_set ?_ GE176.out | refine below_set ?_ GE194.out | refine below_set ?_ GE203.out) | exact HB.out))) : w.heap.size ≤ gb221)); have n10_ := Aside0.mk ((by rw [hg]; exact (below_size (by repeat (first | (with_reducible first | exact HB.out | apply below_alloc | apply pw_below_drewN | apply below_drew1 | refine below_set ?_ GE176.out | refine below_set ?_ GE194.out | refine below_set ?_ GE203.out) | exact HB.out))) : w.heap.size ≤ gb221)); have n11_ := Aside0.mk ((by rw [hg]; exact Nat.ne_of_lt (blk_lt (g := gb176) (o := .cells #[.int .i64 t168, .int .i64 t169, .int .i64 t170, .int .i64 t171, .slice Ao19 t172.length co19] 26 (0, 0)) (blk_up BK176.out)) : gb176 ≠ gb221)); have n12_ := Aside0.mk ((by rw [hg]; exact Nat.ne_of_gt (blk_lt (g := gb176) (o := .cells #[.int .i64 t168, .int .i64 t169, .int .i64 t170, .int .i64 t171, .slice Ao19 t172.length co19] 26 (0, 0)) (blk_up BK176.out)) : gb221 ≠ gb176)); have n13_ := Aside0.mk ((by rw [hg]; exact Nat.ne_of_lt (blk_lt (g := gb194) (o := .cells #[.int .i64 ba4, .int .i64 ba5, .int .i64 ba6, .int .i64 ba7, .slice Ao50 ba3.length co50, .int .i64 ba8, .int .i64 ba9, .int .i64 baa, .bool bab, .bool bac, .bool bad, .bool bae, .bool ba2, .int .i64 baf] 54 (0, 0)) (blk_up BK194.out)) : gb194 ≠ gb221)); have n14_ := Aside0.mk ((by rw [hg]; exact Nat.ne_of_gt (blk_lt (g := gb194) (o := .cells #[.int .i64 ba4, .int .i64 ba5, .int .i64 ba6, .int .i64 ba7, .slice Ao50 ba3.length co50, .int .i64 ba8, .int .i64 ba9, .int .i64 baa, .bool bab, .bool bac, .bool bad, .bool bae, .bool ba2, .int .i64 baf] 54 (0, 0)) (blk_up BK194.out)) : gb221 ≠ gb194)); have n15_ := Aside0.mk ((by rw [hg]; exact Nat.ne_of_lt (blk_lt (g := gb203) (o := .cells #[.int .i64 ((rd_T36 t195 x51_1).f0), .int .i64 ((rd_T36 t195 x51_1).f1), .int .i64 ((rd_T36 t195 x51_1).f2), .int .i64 ((rd_T36 t195 x51_1).f3)] 36 (0, 0)) (blk_up BK203.out)) : gb203 ≠ gb221)); have n16_ := Aside0.mk ((by rw [hg]; exact Nat.ne_of_gt (blk_lt (g := gb203) (o := .cells #[.int .i64 ((rd_T36 t195 x51_1).f0), .int .i64 ((rd_T36 t195 x51_1).f1), .int .i64 ((rd_T36 t195 x51_1).f2), .int .i64 ((rd_T36 t195 x51_1).f3)] 36 (0, 0)) (blk_up BK203.out)) : gb221 ≠ gb203)); clear HO_49; clear ba0; clear ba1; clear HO210; clear BK176; clear BK194; clear BK203; clear HB; have HO_49 := n0_; have ba0 := n1_; have ba1 := n2_; have HO210 := n3_; have BK176 := n4_; have BK194 := n5_; have BK203 := n6_; have HB := n7_; have BK221 := n8_; have GW221 := n9_; have GE221 := n10_; have NB176_221 := n11_; have NB221_176 := n12_; have NB194_221 := n13_; have NB221_194 := n14_; have NB203_221 := n15_; have NB221_203 := n16_; clear n0_ n1_ n2_ n3_ n4_ n5_ n6_ n7_ n8_ n9_ n10_ n11_ n12_ n13_ n14_ n15_ n16_; clear hb hbox hg; have hnb53 := NB221_176.out; have hnc53 := NB176_221.out; have hnb54 := NB221_194.out; have hnc54 := NB194_221.out; have hnb55 := NB221_203.out; have hnc55 := NB203_221.out; have hcz56_0 : w52.cell? ⟨gb221, 0, none⟩ = some (.int .i64 0) := (blk_cell BK221.out 0).trans rfl; have hcz56_1 : w52.cell? ⟨gb221, 1, none⟩ = some (.int .i64 0) := (blk_cell BK221.out 1).trans rfl; have hcz56_2 : w52.cell? ⟨gb221, 2, none⟩ = some (.int .i64 0) := (blk_cell BK221.out 2).trans rfl; have hcz56_3 : w52.cell? ⟨gb221, 3, none⟩ = some (.int .i64 0) := (blk_cell BK221.out 3).trans rfl; have hcz56_4 : w52.cell? ⟨gb221, 4, none⟩ = some (.slice none 0 0) := (blk_cell BK221.out 4).trans rfl; have hcz56_5 : w52.cell? ⟨gb221, 5, none⟩ = some (.int .i64 0) := (blk_cell BK221.out 5).trans rfl; have hcz56_6 : w52.cell? ⟨gb221, 6, none⟩ = some (.int .i64 0) := (blk_cell BK221.out 6).trans rfl; have hcz56_7 : w52.cell? ⟨gb221, 7, none⟩ = some (.int .i64 0) := (blk_cell BK221.out 7).trans rfl; have hcz56_8 : w52.cell? ⟨gb221, 8, none⟩ = some (.bool false) := (blk_cell BK221.out 8).trans rfl; have hcz56_9 : w52.cell? ⟨gb221, 9, none⟩ = some (.bool false) := (blk_cell BK221.out 9).trans rfl; have hcz56_10 : w52.cell? ⟨gb221, 10, none⟩ = some (.bool false) := (blk_cell BK221.out 10).trans rfl; have hcz56_11 : w52.cell? ⟨gb221, 11, none⟩ = some (.bool false) := (blk_cell BK221.out 11).trans rfl; have hcz56_12 : w52.cell? ⟨gb221, 12, none⟩ = some (.bool false) := (blk_cell BK221.out 12).trans rfl; have hcz56_13 : w52.cell? ⟨gb221, 13, none⟩ = some (.int .i64 0) := (blk_cell BK221.out 13).trans rfl; have hfz56_0 := blk_frozen BK221.out 0; have hfz56_1 := blk_frozen BK221.out 1; have hfz56_2 := blk_frozen BK221.out 2; have hfz56_3 := blk_frozen BK221.out 3; have hfz56_4 := blk_frozen BK221.out 4; have hfz56_5 := blk_frozen BK221.out 5; have hfz56_6 := blk_frozen BK221.out 6; have hfz56_7 := blk_frozen BK221.out 7; have hfz56_8 := blk_frozen BK221.out 8; have hfz56_9 := blk_frozen BK221.out 9; have hfz56_10 := blk_frozen BK221.out 10; have hfz56_11 := blk_frozen BK221.out 11; have hfz56_12 := blk_frozen BK221.out 12; have hfz56_13 := blk_frozen BK221.out 13; obtain ⟨Ao57, co57, eo57⟩ := Kd.R_slice HO210.out; subst eo57))
       (try simp only [Act.put, List.setIfInBounds_toArray, List.set_cons_zero, List.set_cons_succ])
       go_cut [18] (fun v18 wc => ∃ (kq : Nat) (x18_45 : Bool), v18 = .bool x18_45 ∧ Aside0 (storagebarterlaw29_SlotDrops.j3 kq ji10 ((rd_T36 t195 (ji10)).f2) x11_41 ba2 x18_45 t195 (t195.length : Int) x51_1 t168 t169 t170 t171 t172 t204 t205 t206 t207 t208 t211 t212 t213 t214 t215 t216 t217 t218 t219 = some r) ∧ Aside0 (kq ≤ kj41) ∧ Aside0 (Kd.R k36 36 wc w.heap.size (fun k_ => k_ ≠ gb203) (.slice (some ad201) t195.length co28) t195) ∧ Aside0 (Kd.R (Kd.int .i64) 3 wc w.heap.size (fun k_ => some k_ ≠ ((.slice Ao50 ba3.length co50) : Value).ownBlock ∧ some k_ ≠ ((.slice Ao57 t208.length co57) : Value).ownBlock) (.slice Ao19 t172.length co19) t172) ∧ Aside0 (Kd.R (Kd.int .i64) 3 wc w.heap.size (fun k_ => some k_ ≠ ((.slice Ao19 t172.length co19) : Value).ownBlock ∧ some k_ ≠ ((.slice Ao57 t208.length co57) : Value).ownBlock) (.slice Ao50 ba3.length co50) ba3) ∧ Aside0 (Kd.R (Kd.int .i64) 3 wc w.heap.size (fun k_ => some k_ ≠ ((.slice Ao19 t172.length co19) : Value).ownBlock ∧ some k_ ≠ ((.slice Ao50 ba3.length co50) : Value).ownBlock) (.slice Ao57 t208.length co57) t208) ∧ Aside0 (wc.heap[gb176]? = some (.cells #[.int .i64 t168, .int .i64 t169, .int .i64 t170, .int .i64 t171, (.slice Ao19 t172.length co19)] 26 (0, 0))) ∧ Aside0 (wc.heap[gb194]? = some (.cells #[.int .i64 ba4, .int .i64 ba5, .int .i64 ba6, .int .i64 ba7, (.slice Ao50 ba3.length co50), .int .i64 ba8, .int .i64 ba9, .int .i64 baa, .bool bab, .bool bac, .bool bad, .bool bae, .bool ba2, .int .i64 baf] 54 (0, 0))) ∧ Aside0 (wc.heap[gb203]? = some (.cells #[.int .i64 ((rd_T36 t195 x51_1).f0), .int .i64 ((rd_T36 t195 x51_1).f1), .int .i64 ((rd_T36 t195 x51_1).f2), .int .i64 ((rd_T36 t195 x51_1).f3)] 36 (0, 0))) ∧ Aside0 (wc.heap[gb221]? = some (.cells #[.int .i64 t204, .int .i64 t205, .int .i64 t206, .int .i64 t207, (.slice Ao57 t208.length co57), .int .i64 t211, .int .i64 t212, .int .i64 t213, .bool t214, .bool t215, .bool t216, .bool t217, .bool t218, .int .i64 t219] 54 (0, 0))) ∧ Aside0 (Below w.heap.size w wc))
       case first =>
        have H := HC46.out
        clear HC46
        by_cases c58 : x11_41 = true
        case neg =>
         replace c58 := Bool.eq_false_iff.mpr c58
         subst c58
         have H1 : (storagebarterlaw29_SlotDrops.j3 kj41 ji10 ((rd_T36 t195 (ji10)).f2) false ba2 false t195 (t195.length : Int) x51_1 t168 t169 t170 t171 t172 t204 t205 t206 t207 t208 t211 t212 t213 t214 t215 t216 t217 t218 t219) = some r := by rw [if_neg (show ¬ (false = true) by decide)] at H; exact H
         clear H
         have H := H1
         clear H1
         have H' := Aside0.mk H
         clear H
         go_wp2
         go_meet
         case rel => exact ⟨_, (false), (by first | rfl | (simp; done) | (simp [*]; done)), H', ⟨by have := HK1.out; have := HJ32.out; have := HJ41.out; first | omega | exact Nat.le_refl _⟩, ⟨by (with_reducible repeat (first | apply Kd.R_alloc | apply Kd.R_drewN | apply Kd.R_drew)); exact Kd.R_mono (Kd.R_far (p := ⟨gb221, 13, none⟩) (Kd.R_far (p := ⟨gb221, 12, none⟩) (Kd.R_far (p := ⟨gb221, 11, none⟩) (Kd.R_far (p := ⟨gb221, 10, none⟩) (Kd.R_far (p := ⟨gb221, 9, none⟩) (Kd.R_far (p := ⟨gb221, 8, none⟩) (Kd.R_far (p := ⟨gb221, 7, none⟩) (Kd.R_far (p := ⟨gb221, 6, none⟩) (Kd.R_far (p := ⟨gb221, 5, none⟩) (Kd.R_far (p := ⟨gb221, 4, none⟩) (Kd.R_far (p := ⟨gb221, 3, none⟩) (Kd.R_far (p := ⟨gb221, 2, none⟩) (Kd.R_far (p := ⟨gb221, 1, none⟩) (Kd.R_far (p := ⟨gb221, 0, none⟩) (Kd.R_types HO_49.out BK221.out (by decide)) (fun _ hk => hk.2) (.int .i64 t204)) (fun _ hk => hk.2) (.int .i64 t205)) (fun _ hk => hk.2) (.int .i64 t206)) (fun _ hk => hk.2) (.int .i64 t207)) (fun _ hk => hk.2) (.slice Ao57 t208.length co57)) (fun _ hk => hk.2) (.int .i64 t211)) (fun _ hk => hk.2) (.int .i64 t212)) (fun _ hk => hk.2) (.int .i64 t213)) (fun _ hk => hk.2) (.bool t214)) (fun _ hk => hk.2) (.bool t215)) (fun _ hk => hk.2) (.bool t216)) (fun _ hk => hk.2) (.bool t217)) (fun _ hk => hk.2) (.bool t218)) (fun _ hk => hk.2) (.int .i64 t219)) (fun _ hk => hk.1)⟩, ⟨by (with_reducible repeat (first | apply Kd.R_alloc | apply Kd.R_drewN | apply Kd.R_drew)); exact Kd.R_mono (Kd.R_far (p := ⟨gb221, 13, none⟩) (Kd.R_far (p := ⟨gb221, 12, none⟩) (Kd.R_far (p := ⟨gb221, 11, none⟩) (Kd.R_far (p := ⟨gb221, 10, none⟩) (Kd.R_far (p := ⟨gb221, 9, none⟩) (Kd.R_far (p := ⟨gb221, 8, none⟩) (Kd.R_far (p := ⟨gb221, 7, none⟩) (Kd.R_far (p := ⟨gb221, 6, none⟩) (Kd.R_far (p := ⟨gb221, 5, none⟩) (Kd.R_far (p := ⟨gb221, 4, none⟩) (Kd.R_far (p := ⟨gb221, 3, none⟩) (Kd.R_far (p := ⟨gb221, 2, none⟩) (Kd.R_far (p := ⟨gb221, 1, none⟩) (Kd.R_far (p := ⟨gb221, 0, none⟩) (Kd.R_types ba0.out BK221.out (by decide)) (fun _ hk => hk.2) (.int .i64 t204)) (fun _ hk => hk.2) (.int .i64 t205)) (fun _ hk => hk.2) (.int .i64 t206)) (fun _ hk => hk.2) (.int .i64 t207)) (fun _ hk => hk.2) (.slice Ao57 t208.length co57)) (fun _ hk => hk.2) (.int .i64 t211)) (fun _ hk => hk.2) (.int .i64 t212)) (fun _ hk => hk.2) (.int .i64 t213)) (fun _ hk => hk.2) (.bool t214)) (fun _ hk => hk.2) (.bool t215)) (fun _ hk => hk.2) (.bool t216)) (fun _ hk => hk.2) (.bool t217)) (fun _ hk => hk.2) (.bool t218)) (fun _ hk => hk.2) (.int .i64 t219)) (fun _ hk => ⟨hk.1.1, hk.1.2⟩)⟩, ⟨by (with_reducible repeat (first | apply Kd.R_alloc | apply Kd.R_drewN | apply Kd.R_drew)); exact Kd.R_mono (Kd.R_far (p := ⟨gb221, 13, none⟩) (Kd.R_far (p := ⟨gb221, 12, none⟩) (Kd.R_far (p := ⟨gb221, 11, none⟩) (Kd.R_far (p := ⟨gb221, 10, none⟩) (Kd.R_far (p := ⟨gb221, 9, none⟩) (Kd.R_far (p := ⟨gb221, 8, none⟩) (Kd.R_far (p := ⟨gb221, 7, none⟩) (Kd.R_far (p := ⟨gb221, 6, none⟩) (Kd.R_far (p := ⟨gb221, 5, none⟩) (Kd.R_far (p := ⟨gb221, 4, none⟩) (Kd.R_far (p := ⟨gb221, 3, none⟩) (Kd.R_far (p := ⟨gb221, 2, none⟩) (Kd.R_far (p := ⟨gb221, 1, none⟩) (Kd.R_far (p := ⟨gb221, 0, none⟩) (Kd.R_types ba1.out BK221.out (by decide)) (fun _ hk => hk.2) (.int .i64 t204)) (fun _ hk => hk.2) (.int .i64 t205)) (fun _ hk => hk.2) (.int .i64 t206)) (fun _ hk => hk.2) (.int .i64 t207)) (fun _ hk => hk.2) (.slice Ao57 t208.length co57)) (fun _ hk => hk.2) (.int .i64 t211)) (fun _ hk => hk.2) (.int .i64 t212)) (fun _ hk => hk.2) (.int .i64 t213)) (fun _ hk => hk.2) (.bool t214)) (fun _ hk => hk.2) (.bool t215)) (fun _ hk => hk.2) (.bool t216)) (fun _ hk => hk.2) (.bool t217)) (fun _ hk => hk.2) (.bool t218)) (fun _ hk => hk.2) (.int .i64 t219)) (fun _ hk => ⟨hk.1.1, hk.1.2⟩)⟩, ⟨by (with_reducible repeat (first | apply Kd.R_alloc | apply Kd.R_drewN | apply Kd.R_drew)); exact Kd.R_mono (Kd.R_far (p := ⟨gb221, 13, none⟩) (Kd.R_far (p := ⟨gb221, 12, none⟩) (Kd.R_far (p := ⟨gb221, 11, none⟩) (Kd.R_far (p := ⟨gb221, 10, none⟩) (Kd.R_far (p := ⟨gb221, 9, none⟩) (Kd.R_far (p := ⟨gb221, 8, none⟩) (Kd.R_far (p := ⟨gb221, 7, none⟩) (Kd.R_far (p := ⟨gb221, 6, none⟩) (Kd.R_far (p := ⟨gb221, 5, none⟩) (Kd.R_far (p := ⟨gb221, 4, none⟩) (Kd.R_far (p := ⟨gb221, 3, none⟩) (Kd.R_far (p := ⟨gb221, 2, none⟩) (Kd.R_far (p := ⟨gb221, 1, none⟩) (Kd.R_far (p := ⟨gb221, 0, none⟩) (Kd.R_types HO210.out BK221.out (by decide)) (fun _ hk => hk.2) (.int .i64 t204)) (fun _ hk => hk.2) (.int .i64 t205)) (fun _ hk => hk.2) (.int .i64 t206)) (fun _ hk => hk.2) (.int .i64 t207)) (fun _ hk => hk.2) (.slice Ao57 t208.length co57)) (fun _ hk => hk.2) (.int .i64 t211)) (fun _ hk => hk.2) (.int .i64 t212)) (fun _ hk => hk.2) (.int .i64 t213)) (fun _ hk => hk.2) (.bool t214)) (fun _ hk => hk.2) (.bool t215)) (fun _ hk => hk.2) (.bool t216)) (fun _ hk => hk.2) (.bool t217)) (fun _ hk => hk.2) (.bool t218)) (fun _ hk => hk.2) (.int .i64 t219)) (fun _ hk => ⟨hk.1.1.2, hk.1.2⟩)⟩, ⟨by (with_reducible repeat (first | refine blk_drewN ?_ _ | refine blk_drew ?_ | refine blk_alloc ?_ _)); refine blk_far14 ?_ NB176_221.out _ _ _ _ _ _ _ _ _ _ _ _ _ _; (with_reducible repeat (first | refine blk_drewN ?_ _ | refine blk_drew ?_ | refine blk_alloc ?_ _)); exact BK176.out⟩, ⟨by (with_reducible repeat (first | refine blk_drewN ?_ _ | refine blk_drew ?_ | refine blk_alloc ?_ _)); refine blk_far14 ?_ NB194_221.out _ _ _ _ _ _ _ _ _ _ _ _ _ _; (with_reducible repeat (first | refine blk_drewN ?_ _ | refine blk_drew ?_ | refine blk_alloc ?_ _)); exact BK194.out⟩, ⟨by (with_reducible repeat (first | refine blk_drewN ?_ _ | refine blk_drew ?_ | refine blk_alloc ?_ _)); refine blk_far14 ?_ NB203_221.out _ _ _ _ _ _ _ _ _ _ _ _ _ _; (with_reducible repeat (first | refine blk_drewN ?_ _ | refine blk_drew ?_ | refine blk_alloc ?_ _)); exact BK203.out⟩, ⟨by (with_reducible repeat (first | refine blk_drewN ?_ _ | refine blk_drew ?_ | refine blk_alloc ?_ _)); first | exact blk_all14 BK221.out _ _ _ _ _ _ _ _ _ _ _ _ _ _ | exact blk_all14 (blk_up BK221.out) _ _ _ _ _ _ _ _ _ _ _ _ _ _⟩, ⟨by repeat (first | (with_reducible first | exact HB.out | apply below_alloc | apply pw_below_drewN | apply below_drew1 | refine below_set ?_ GE176.out | refine below_set ?_ GE194.out | refine below_set ?_ GE203.out | refine below_set ?_ GE221.out) | exact HB.out)⟩⟩
        subst c58
        have H1 : (if ((rd_T36 t195 x51_1).f2) = ((rd_T36 t195 (ji10)).f2) then (if ((rd_T36 t195 x51_1).f3) = 6 then (storagebarterlaw29_SlotDrops.j3 kj41 ji10 ((rd_T36 t195 (ji10)).f2) true ba2 true t195 (t195.length : Int) x51_1 t168 t169 t170 t171 t172 t204 t205 t206 t207 t208 t211 t212 t213 t214 t215 t216 t217 t218 t219) else (storagebarterlaw29_SlotDrops.j3 kj41 ji10 ((rd_T36 t195 (ji10)).f2) true ba2 (((rd_T36 t195 x51_1).f3) == 7) t195 (t195.length : Int) x51_1 t168 t169 t170 t171 t172 t204 t205 t206 t207 t208 t211 t212 t213 t214 t215 t216 t217 t218 t219)) else (storagebarterlaw29_SlotDrops.j3 kj41 ji10 ((rd_T36 t195 (ji10)).f2) true ba2 false t195 (t195.length : Int) x51_1 t168 t169 t170 t171 t172 t204 t205 t206 t207 t208 t211 t212 t213 t214 t215 t216 t217 t218 t219)) = some r := by rw [if_pos rfl] at H; exact H
        clear H
        have H := H1
        clear H1
        by_cases c59 : ((rd_T36 t195 x51_1).f2) = ((rd_T36 t195 (ji10)).f2)
        case neg =>
         rw [if_neg c59] at H
         have c59b0 : (((rd_T36 t195 x51_1).f2) == ((rd_T36 t195 (ji10)).f2)) = false := beq_eq_false_iff_ne.mpr c59
         have c59b1 : (((rd_T36 t195 x51_1).f2) != ((rd_T36 t195 (ji10)).f2)) = true := bne_iff_ne.mpr c59
         (first | rw [c59b0] | (simp only [i64_w, i32_w]; rw [c59b0]) | skip)
         have H' := Aside0.mk H
         clear H
         have hnb69 := NB203_176.out
         have hnc69 := NB176_203.out
         have hnb70 := NB203_194.out
         have hnc70 := NB194_203.out
         have hnb71 := NB203_221.out
         have hnc71 := NB221_203.out
         have hcz72_0 : w52.cell? ⟨gb203, 0, none⟩ = some (.int .i64 ((rd_T36 t195 x51_1).f0)) := (blk_cell BK203.out 0).trans rfl
         have hcz72_1 : w52.cell? ⟨gb203, 1, none⟩ = some (.int .i64 ((rd_T36 t195 x51_1).f1)) := (blk_cell BK203.out 1).trans rfl
         have hcz72_2 : w52.cell? ⟨gb203, 2, none⟩ = some (.int .i64 ((rd_T36 t195 x51_1).f2)) := (blk_cell BK203.out 2).trans rfl
         have hcz72_3 : w52.cell? ⟨gb203, 3, none⟩ = some (.int .i64 ((rd_T36 t195 x51_1).f3)) := (blk_cell BK203.out 3).trans rfl
         have hfz72_0 := blk_frozen BK203.out 0
         have hfz72_1 := blk_frozen BK203.out 1
         have hfz72_2 := blk_frozen BK203.out 2
         have hfz72_3 := blk_frozen BK203.out 3
         go_wp2
         go_meet
         case rel => exact ⟨_, (false), (by first | rfl | (simp; done) | (simp [*]; done)), H', ⟨by have := HK1.out; have := HJ32.out; have := HJ41.out; first | omega | exact Nat.le_refl _⟩, ⟨by (with_reducible repeat (first | apply Kd.R_alloc | apply Kd.R_drewN | apply Kd.R_drew)); exact Kd.R_mono (Kd.R_far (p := ⟨gb221, 13, none⟩) (Kd.R_far (p := ⟨gb221, 12, none⟩) (Kd.R_far (p := ⟨gb221, 11, none⟩) (Kd.R_far (p := ⟨gb221, 10, none⟩) (Kd.R_far (p := ⟨gb221, 9, none⟩) (Kd.R_far (p := ⟨gb221, 8, none⟩) (Kd.R_far (p := ⟨gb221, 7, none⟩) (Kd.R_far (p := ⟨gb221, 6, none⟩) (Kd.R_far (p := ⟨gb221, 5, none⟩) (Kd.R_far (p := ⟨gb221, 4, none⟩) (Kd.R_far (p := ⟨gb221, 3, none⟩) (Kd.R_far (p := ⟨gb221, 2, none⟩) (Kd.R_far (p := ⟨gb221, 1, none⟩) (Kd.R_far (p := ⟨gb221, 0, none⟩) (Kd.R_types HO_49.out BK221.out (by decide)) (fun _ hk => hk.2) (.int .i64 t204)) (fun _ hk => hk.2) (.int .i64 t205)) (fun _ hk => hk.2) (.int .i64 t206)) (fun _ hk => hk.2) (.int .i64 t207)) (fun _ hk => hk.2) (.slice Ao57 t208.length co57)) (fun _ hk => hk.2) (.int .i64 t211)) (fun _ hk => hk.2) (.int .i64 t212)) (fun _ hk => hk.2) (.int .i64 t213)) (fun _ hk => hk.2) (.bool t214)) (fun _ hk => hk.2) (.bool t215)) (fun _ hk => hk.2) (.bool t216)) (fun _ hk => hk.2) (.bool t217)) (fun _ hk => hk.2) (.bool t218)) (fun _ hk => hk.2) (.int .i64 t219)) (fun _ hk => hk.1)⟩, ⟨by (with_reducible repeat (first | apply Kd.R_alloc | apply Kd.R_drewN | apply Kd.R_drew)); exact Kd.R_mono (Kd.R_far (p := ⟨gb221, 13, none⟩) (Kd.R_far (p := ⟨gb221, 12, none⟩) (Kd.R_far (p := ⟨gb221, 11, none⟩) (Kd.R_far (p := ⟨gb221, 10, none⟩) (Kd.R_far (p := ⟨gb221, 9, none⟩) (Kd.R_far (p := ⟨gb221, 8, none⟩) (Kd.R_far (p := ⟨gb221, 7, none⟩) (Kd.R_far (p := ⟨gb221, 6, none⟩) (Kd.R_far (p := ⟨gb221, 5, none⟩) (Kd.R_far (p := ⟨gb221, 4, none⟩) (Kd.R_far (p := ⟨gb221, 3, none⟩) (Kd.R_far (p := ⟨gb221, 2, none⟩) (Kd.R_far (p := ⟨gb221, 1, none⟩) (Kd.R_far (p := ⟨gb221, 0, none⟩) (Kd.R_types ba0.out BK221.out (by decide)) (fun _ hk => hk.2) (.int .i64 t204)) (fun _ hk => hk.2) (.int .i64 t205)) (fun _ hk => hk.2) (.int .i64 t206)) (fun _ hk => hk.2) (.int .i64 t207)) (fun _ hk => hk.2) (.slice Ao57 t208.length co57)) (fun _ hk => hk.2) (.int .i64 t211)) (fun _ hk => hk.2) (.int .i64 t212)) (fun _ hk => hk.2) (.int .i64 t213)) (fun _ hk => hk.2) (.bool t214)) (fun _ hk => hk.2) (.bool t215)) (fun _ hk => hk.2) (.bool t216)) (fun _ hk => hk.2) (.bool t217)) (fun _ hk => hk.2) (.bool t218)) (fun _ hk => hk.2) (.int .i64 t219)) (fun _ hk => ⟨hk.1.1, hk.1.2⟩)⟩, ⟨by (with_reducible repeat (first | apply Kd.R_alloc | apply Kd.R_drewN | apply Kd.R_drew)); exact Kd.R_mono (Kd.R_far (p := ⟨gb221, 13, none⟩) (Kd.R_far (p := ⟨gb221, 12, none⟩) (Kd.R_far (p := ⟨gb221, 11, none⟩) (Kd.R_far (p := ⟨gb221, 10, none⟩) (Kd.R_far (p := ⟨gb221, 9, none⟩) (Kd.R_far (p := ⟨gb221, 8, none⟩) (Kd.R_far (p := ⟨gb221, 7, none⟩) (Kd.R_far (p := ⟨gb221, 6, none⟩) (Kd.R_far (p := ⟨gb221, 5, none⟩) (Kd.R_far (p := ⟨gb221, 4, none⟩) (Kd.R_far (p := ⟨gb221, 3, none⟩) (Kd.R_far (p := ⟨gb221, 2, none⟩) (Kd.R_far (p := ⟨gb221, 1, none⟩) (Kd.R_far (p := ⟨gb221, 0, none⟩) (Kd.R_types ba1.out BK221.out (by decide)) (fun _ hk => hk.2) (.int .i64 t204)) (fun _ hk => hk.2) (.int .i64 t205)) (fun _ hk => hk.2) (.int .i64 t206)) (fun _ hk => hk.2) (.int .i64 t207)) (fun _ hk => hk.2) (.slice Ao57 t208.length co57)) (fun _ hk => hk.2) (.int .i64 t211)) (fun _ hk => hk.2) (.int .i64 t212)) (fun _ hk => hk.2) (.int .i64 t213)) (fun _ hk => hk.2) (.bool t214)) (fun _ hk => hk.2) (.bool t215)) (fun _ hk => hk.2) (.bool t216)) (fun _ hk => hk.2) (.bool t217)) (fun _ hk => hk.2) (.bool t218)) (fun _ hk => hk.2) (.int .i64 t219)) (fun _ hk => ⟨hk.1.1, hk.1.2⟩)⟩, ⟨by (with_reducible repeat (first | apply Kd.R_alloc | apply Kd.R_drewN | apply Kd.R_drew)); exact Kd.R_mono (Kd.R_far (p := ⟨gb221, 13, none⟩) (Kd.R_far (p := ⟨gb221, 12, none⟩) (Kd.R_far (p := ⟨gb221, 11, none⟩) (Kd.R_far (p := ⟨gb221, 10, none⟩) (Kd.R_far (p := ⟨gb221, 9, none⟩) (Kd.R_far (p := ⟨gb221, 8, none⟩) (Kd.R_far (p := ⟨gb221, 7, none⟩) (Kd.R_far (p := ⟨gb221, 6, none⟩) (Kd.R_far (p := ⟨gb221, 5, none⟩) (Kd.R_far (p := ⟨gb221, 4, none⟩) (Kd.R_far (p := ⟨gb221, 3, none⟩) (Kd.R_far (p := ⟨gb221, 2, none⟩) (Kd.R_far (p := ⟨gb221, 1, none⟩) (Kd.R_far (p := ⟨gb221, 0, none⟩) (Kd.R_types HO210.out BK221.out (by decide)) (fun _ hk => hk.2) (.int .i64 t204)) (fun _ hk => hk.2) (.int .i64 t205)) (fun _ hk => hk.2) (.int .i64 t206)) (fun _ hk => hk.2) (.int .i64 t207)) (fun _ hk => hk.2) (.slice Ao57 t208.length co57)) (fun _ hk => hk.2) (.int .i64 t211)) (fun _ hk => hk.2) (.int .i64 t212)) (fun _ hk => hk.2) (.int .i64 t213)) (fun _ hk => hk.2) (.bool t214)) (fun _ hk => hk.2) (.bool t215)) (fun _ hk => hk.2) (.bool t216)) (fun _ hk => hk.2) (.bool t217)) (fun _ hk => hk.2) (.bool t218)) (fun _ hk => hk.2) (.int .i64 t219)) (fun _ hk => ⟨hk.1.1.2, hk.1.2⟩)⟩, ⟨by (with_reducible repeat (first | refine blk_drewN ?_ _ | refine blk_drew ?_ | refine blk_alloc ?_ _)); refine blk_far14 ?_ NB176_221.out _ _ _ _ _ _ _ _ _ _ _ _ _ _; (with_reducible repeat (first | refine blk_drewN ?_ _ | refine blk_drew ?_ | refine blk_alloc ?_ _)); exact BK176.out⟩, ⟨by (with_reducible repeat (first | refine blk_drewN ?_ _ | refine blk_drew ?_ | refine blk_alloc ?_ _)); refine blk_far14 ?_ NB194_221.out _ _ _ _ _ _ _ _ _ _ _ _ _ _; (with_reducible repeat (first | refine blk_drewN ?_ _ | refine blk_drew ?_ | refine blk_alloc ?_ _)); exact BK194.out⟩, ⟨by (with_reducible repeat (first | refine blk_drewN ?_ _ | refine blk_drew ?_ | refine blk_alloc ?_ _)); refine blk_far14 ?_ NB203_221.out _ _ _ _ _ _ _ _ _ _ _ _ _ _; (with_reducible repeat (first | refine blk_drewN ?_ _ | refine blk_drew ?_ | refine blk_alloc ?_ _)); exact BK203.out⟩, ⟨by (with_reducible repeat (first | refine blk_drewN ?_ _ | refine blk_drew ?_ | refine blk_alloc ?_ _)); first | exact blk_all14 BK221.out _ _ _ _ _ _ _ _ _ _ _ _ _ _ | exact blk_all14 (blk_up BK221.out) _ _ _ _ _ _ _ _ _ _ _ _ _ _⟩, ⟨by repeat (first | (with_reducible first | exact HB.out | apply below_alloc | apply pw_below_drewN | apply below_drew1 | refine below_set ?_ GE176.out | refine below_set ?_ GE194.out | refine below_set ?_ GE203.out | refine below_set ?_ GE221.out) | exact HB.out)⟩⟩
        rw [if_pos c59] at H
        have c59b0 : (((rd_T36 t195 x51_1).f2) == ((rd_T36 t195 (ji10)).f2)) = true := beq_iff_eq.mpr c59
        have c59b1 : (((rd_T36 t195 x51_1).f2) != ((rd_T36 t195 (ji10)).f2)) = false := bne_eq_false_iff_eq.mpr c59
        clear c59
        (first | rw [c59b0] | (simp only [i64_w, i32_w]; rw [c59b0]) | skip)
        by_cases c60 : ((rd_T36 t195 x51_1).f3) = 6
        case neg =>
         rw [if_neg c60] at H
         have c60b0 : (((rd_T36 t195 x51_1).f3) == 6) = false := beq_eq_false_iff_ne.mpr c60
         have c60b1 : (((rd_T36 t195 x51_1).f3) != 6) = true := bne_iff_ne.mpr c60
         have H' := Aside0.mk H
         clear H
         have hnb65 := NB203_176.out
         have hnc65 := NB176_203.out
         have hnb66 := NB203_194.out
         have hnc66 := NB194_203.out
         have hnb67 := NB203_221.out
         have hnc67 := NB221_203.out
         have hcz68_0 : w52.cell? ⟨gb203, 0, none⟩ = some (.int .i64 ((rd_T36 t195 x51_1).f0)) := (blk_cell BK203.out 0).trans rfl
         have hcz68_1 : w52.cell? ⟨gb203, 1, none⟩ = some (.int .i64 ((rd_T36 t195 x51_1).f1)) := (blk_cell BK203.out 1).trans rfl
         have hcz68_2 : w52.cell? ⟨gb203, 2, none⟩ = some (.int .i64 ((rd_T36 t195 x51_1).f2)) := (blk_cell BK203.out 2).trans rfl
         have hcz68_3 : w52.cell? ⟨gb203, 3, none⟩ = some (.int .i64 ((rd_T36 t195 x51_1).f3)) := (blk_cell BK203.out 3).trans rfl
         have hfz68_0 := blk_frozen BK203.out 0
         have hfz68_1 := blk_frozen BK203.out 1
         have hfz68_2 := blk_frozen BK203.out 2
         have hfz68_3 := blk_frozen BK203.out 3
         go_wp2
         go_meet
         case rel => exact ⟨_, ((((rd_T36 t195 x51_1).f3) == 7)), (by first | rfl | (simp; done) | (simp [*]; done)), H', ⟨by have := HK1.out; have := HJ32.out; have := HJ41.out; first | omega | exact Nat.le_refl _⟩, ⟨by (with_reducible repeat (first | apply Kd.R_alloc | apply Kd.R_drewN | apply Kd.R_drew)); exact Kd.R_mono (Kd.R_far (p := ⟨gb221, 13, none⟩) (Kd.R_far (p := ⟨gb221, 12, none⟩) (Kd.R_far (p := ⟨gb221, 11, none⟩) (Kd.R_far (p := ⟨gb221, 10, none⟩) (Kd.R_far (p := ⟨gb221, 9, none⟩) (Kd.R_far (p := ⟨gb221, 8, none⟩) (Kd.R_far (p := ⟨gb221, 7, none⟩) (Kd.R_far (p := ⟨gb221, 6, none⟩) (Kd.R_far (p := ⟨gb221, 5, none⟩) (Kd.R_far (p := ⟨gb221, 4, none⟩) (Kd.R_far (p := ⟨gb221, 3, none⟩) (Kd.R_far (p := ⟨gb221, 2, none⟩) (Kd.R_far (p := ⟨gb221, 1, none⟩) (Kd.R_far (p := ⟨gb221, 0, none⟩) (Kd.R_types HO_49.out BK221.out (by decide)) (fun _ hk => hk.2) (.int .i64 t204)) (fun _ hk => hk.2) (.int .i64 t205)) (fun _ hk => hk.2) (.int .i64 t206)) (fun _ hk => hk.2) (.int .i64 t207)) (fun _ hk => hk.2) (.slice Ao57 t208.length co57)) (fun _ hk => hk.2) (.int .i64 t211)) (fun _ hk => hk.2) (.int .i64 t212)) (fun _ hk => hk.2) (.int .i64 t213)) (fun _ hk => hk.2) (.bool t214)) (fun _ hk => hk.2) (.bool t215)) (fun _ hk => hk.2) (.bool t216)) (fun _ hk => hk.2) (.bool t217)) (fun _ hk => hk.2) (.bool t218)) (fun _ hk => hk.2) (.int .i64 t219)) (fun _ hk => hk.1)⟩, ⟨by (with_reducible repeat (first | apply Kd.R_alloc | apply Kd.R_drewN | apply Kd.R_drew)); exact Kd.R_mono (Kd.R_far (p := ⟨gb221, 13, none⟩) (Kd.R_far (p := ⟨gb221, 12, none⟩) (Kd.R_far (p := ⟨gb221, 11, none⟩) (Kd.R_far (p := ⟨gb221, 10, none⟩) (Kd.R_far (p := ⟨gb221, 9, none⟩) (Kd.R_far (p := ⟨gb221, 8, none⟩) (Kd.R_far (p := ⟨gb221, 7, none⟩) (Kd.R_far (p := ⟨gb221, 6, none⟩) (Kd.R_far (p := ⟨gb221, 5, none⟩) (Kd.R_far (p := ⟨gb221, 4, none⟩) (Kd.R_far (p := ⟨gb221, 3, none⟩) (Kd.R_far (p := ⟨gb221, 2, none⟩) (Kd.R_far (p := ⟨gb221, 1, none⟩) (Kd.R_far (p := ⟨gb221, 0, none⟩) (Kd.R_types ba0.out BK221.out (by decide)) (fun _ hk => hk.2) (.int .i64 t204)) (fun _ hk => hk.2) (.int .i64 t205)) (fun _ hk => hk.2) (.int .i64 t206)) (fun _ hk => hk.2) (.int .i64 t207)) (fun _ hk => hk.2) (.slice Ao57 t208.length co57)) (fun _ hk => hk.2) (.int .i64 t211)) (fun _ hk => hk.2) (.int .i64 t212)) (fun _ hk => hk.2) (.int .i64 t213)) (fun _ hk => hk.2) (.bool t214)) (fun _ hk => hk.2) (.bool t215)) (fun _ hk => hk.2) (.bool t216)) (fun _ hk => hk.2) (.bool t217)) (fun _ hk => hk.2) (.bool t218)) (fun _ hk => hk.2) (.int .i64 t219)) (fun _ hk => ⟨hk.1.1, hk.1.2⟩)⟩, ⟨by (with_reducible repeat (first | apply Kd.R_alloc | apply Kd.R_drewN | apply Kd.R_drew)); exact Kd.R_mono (Kd.R_far (p := ⟨gb221, 13, none⟩) (Kd.R_far (p := ⟨gb221, 12, none⟩) (Kd.R_far (p := ⟨gb221, 11, none⟩) (Kd.R_far (p := ⟨gb221, 10, none⟩) (Kd.R_far (p := ⟨gb221, 9, none⟩) (Kd.R_far (p := ⟨gb221, 8, none⟩) (Kd.R_far (p := ⟨gb221, 7, none⟩) (Kd.R_far (p := ⟨gb221, 6, none⟩) (Kd.R_far (p := ⟨gb221, 5, none⟩) (Kd.R_far (p := ⟨gb221, 4, none⟩) (Kd.R_far (p := ⟨gb221, 3, none⟩) (Kd.R_far (p := ⟨gb221, 2, none⟩) (Kd.R_far (p := ⟨gb221, 1, none⟩) (Kd.R_far (p := ⟨gb221, 0, none⟩) (Kd.R_types ba1.out BK221.out (by decide)) (fun _ hk => hk.2) (.int .i64 t204)) (fun _ hk => hk.2) (.int .i64 t205)) (fun _ hk => hk.2) (.int .i64 t206)) (fun _ hk => hk.2) (.int .i64 t207)) (fun _ hk => hk.2) (.slice Ao57 t208.length co57)) (fun _ hk => hk.2) (.int .i64 t211)) (fun _ hk => hk.2) (.int .i64 t212)) (fun _ hk => hk.2) (.int .i64 t213)) (fun _ hk => hk.2) (.bool t214)) (fun _ hk => hk.2) (.bool t215)) (fun _ hk => hk.2) (.bool t216)) (fun _ hk => hk.2) (.bool t217)) (fun _ hk => hk.2) (.bool t218)) (fun _ hk => hk.2) (.int .i64 t219)) (fun _ hk => ⟨hk.1.1, hk.1.2⟩)⟩, ⟨by (with_reducible repeat (first | apply Kd.R_alloc | apply Kd.R_drewN | apply Kd.R_drew)); exact Kd.R_mono (Kd.R_far (p := ⟨gb221, 13, none⟩) (Kd.R_far (p := ⟨gb221, 12, none⟩) (Kd.R_far (p := ⟨gb221, 11, none⟩) (Kd.R_far (p := ⟨gb221, 10, none⟩) (Kd.R_far (p := ⟨gb221, 9, none⟩) (Kd.R_far (p := ⟨gb221, 8, none⟩) (Kd.R_far (p := ⟨gb221, 7, none⟩) (Kd.R_far (p := ⟨gb221, 6, none⟩) (Kd.R_far (p := ⟨gb221, 5, none⟩) (Kd.R_far (p := ⟨gb221, 4, none⟩) (Kd.R_far (p := ⟨gb221, 3, none⟩) (Kd.R_far (p := ⟨gb221, 2, none⟩) (Kd.R_far (p := ⟨gb221, 1, none⟩) (Kd.R_far (p := ⟨gb221, 0, none⟩) (Kd.R_types HO210.out BK221.out (by decide)) (fun _ hk => hk.2) (.int .i64 t204)) (fun _ hk => hk.2) (.int .i64 t205)) (fun _ hk => hk.2) (.int .i64 t206)) (fun _ hk => hk.2) (.int .i64 t207)) (fun _ hk => hk.2) (.slice Ao57 t208.length co57)) (fun _ hk => hk.2) (.int .i64 t211)) (fun _ hk => hk.2) (.int .i64 t212)) (fun _ hk => hk.2) (.int .i64 t213)) (fun _ hk => hk.2) (.bool t214)) (fun _ hk => hk.2) (.bool t215)) (fun _ hk => hk.2) (.bool t216)) (fun _ hk => hk.2) (.bool t217)) (fun _ hk => hk.2) (.bool t218)) (fun _ hk => hk.2) (.int .i64 t219)) (fun _ hk => ⟨hk.1.1.2, hk.1.2⟩)⟩, ⟨by (with_reducible repeat (first | refine blk_drewN ?_ _ | refine blk_drew ?_ | refine blk_alloc ?_ _)); refine blk_far14 ?_ NB176_221.out _ _ _ _ _ _ _ _ _ _ _ _ _ _; (with_reducible repeat (first | refine blk_drewN ?_ _ | refine blk_drew ?_ | refine blk_alloc ?_ _)); exact BK176.out⟩, ⟨by (with_reducible repeat (first | refine blk_drewN ?_ _ | refine blk_drew ?_ | refine blk_alloc ?_ _)); refine blk_far14 ?_ NB194_221.out _ _ _ _ _ _ _ _ _ _ _ _ _ _; (with_reducible repeat (first | refine blk_drewN ?_ _ | refine blk_drew ?_ | refine blk_alloc ?_ _)); exact BK194.out⟩, ⟨by (with_reducible repeat (first | refine blk_drewN ?_ _ | refine blk_drew ?_ | refine blk_alloc ?_ _)); refine blk_far14 ?_ NB203_221.out _ _ _ _ _ _ _ _ _ _ _ _ _ _; (with_reducible repeat (first | refine blk_drewN ?_ _ | refine blk_drew ?_ | refine blk_alloc ?_ _)); exact BK203.out⟩, ⟨by (with_reducible repeat (first | refine blk_drewN ?_ _ | refine blk_drew ?_ | refine blk_alloc ?_ _)); first | exact blk_all14 BK221.out _ _ _ _ _ _ _ _ _ _ _ _ _ _ | exact blk_all14 (blk_up BK221.out) _ _ _ _ _ _ _ _ _ _ _ _ _ _⟩, ⟨by repeat (first | (with_reducible first | exact HB.out | apply below_alloc | apply pw_below_drewN | apply below_drew1 | refine below_set ?_ GE176.out | refine below_set ?_ GE194.out | refine below_set ?_ GE203.out | refine below_set ?_ GE221.out) | exact HB.out)⟩⟩
        rw [if_pos c60] at H
        have c60b0 : (((rd_T36 t195 x51_1).f3) == 6) = true := beq_iff_eq.mpr c60
        have c60b1 : (((rd_T36 t195 x51_1).f3) != 6) = false := bne_eq_false_iff_eq.mpr c60
        clear c60
        have H' := Aside0.mk H
        clear H
        have hnb61 := NB203_176.out
        have hnc61 := NB176_203.out
        have hnb62 := NB203_194.out
        have hnc62 := NB194_203.out
        have hnb63 := NB203_221.out
        have hnc63 := NB221_203.out
        have hcz64_0 : w52.cell? ⟨gb203, 0, none⟩ = some (.int .i64 ((rd_T36 t195 x51_1).f0)) := (blk_cell BK203.out 0).trans rfl
        have hcz64_1 : w52.cell? ⟨gb203, 1, none⟩ = some (.int .i64 ((rd_T36 t195 x51_1).f1)) := (blk_cell BK203.out 1).trans rfl
        have hcz64_2 : w52.cell? ⟨gb203, 2, none⟩ = some (.int .i64 ((rd_T36 t195 x51_1).f2)) := (blk_cell BK203.out 2).trans rfl
        have hcz64_3 : w52.cell? ⟨gb203, 3, none⟩ = some (.int .i64 ((rd_T36 t195 x51_1).f3)) := (blk_cell BK203.out 3).trans rfl
        have hfz64_0 := blk_frozen BK203.out 0
        have hfz64_1 := blk_frozen BK203.out 1
        have hfz64_2 := blk_frozen BK203.out 2
        have hfz64_3 := blk_frozen BK203.out 3
        go_wp2
        go_meet
        case rel => exact ⟨_, (true), (by first | rfl | (simp; done) | (simp [*]; done)), H', ⟨by have := HK1.out; have := HJ32.out; have := HJ41.out; first | omega | exact Nat.le_refl _⟩, ⟨by (with_reducible repeat (first | apply Kd.R_alloc | apply Kd.R_drewN | apply Kd.R_drew)); exact Kd.R_mono (Kd.R_far (p := ⟨gb221, 13, none⟩) (Kd.R_far (p := ⟨gb221, 12, none⟩) (Kd.R_far (p := ⟨gb221, 11, none⟩) (Kd.R_far (p := ⟨gb221, 10, none⟩) (Kd.R_far (p := ⟨gb221, 9, none⟩) (Kd.R_far (p := ⟨gb221, 8, none⟩) (Kd.R_far (p := ⟨gb221, 7, none⟩) (Kd.R_far (p := ⟨gb221, 6, none⟩) (Kd.R_far (p := ⟨gb221, 5, none⟩) (Kd.R_far (p := ⟨gb221, 4, none⟩) (Kd.R_far (p := ⟨gb221, 3, none⟩) (Kd.R_far (p := ⟨gb221, 2, none⟩) (Kd.R_far (p := ⟨gb221, 1, none⟩) (Kd.R_far (p := ⟨gb221, 0, none⟩) (Kd.R_types HO_49.out BK221.out (by decide)) (fun _ hk => hk.2) (.int .i64 t204)) (fun _ hk => hk.2) (.int .i64 t205)) (fun _ hk => hk.2) (.int .i64 t206)) (fun _ hk => hk.2) (.int .i64 t207)) (fun _ hk => hk.2) (.slice Ao57 t208.length co57)) (fun _ hk => hk.2) (.int .i64 t211)) (fun _ hk => hk.2) (.int .i64 t212)) (fun _ hk => hk.2) (.int .i64 t213)) (fun _ hk => hk.2) (.bool t214)) (fun _ hk => hk.2) (.bool t215)) (fun _ hk => hk.2) (.bool t216)) (fun _ hk => hk.2) (.bool t217)) (fun _ hk => hk.2) (.bool t218)) (fun _ hk => hk.2) (.int .i64 t219)) (fun _ hk => hk.1)⟩, ⟨by (with_reducible repeat (first | apply Kd.R_alloc | apply Kd.R_drewN | apply Kd.R_drew)); exact Kd.R_mono (Kd.R_far (p := ⟨gb221, 13, none⟩) (Kd.R_far (p := ⟨gb221, 12, none⟩) (Kd.R_far (p := ⟨gb221, 11, none⟩) (Kd.R_far (p := ⟨gb221, 10, none⟩) (Kd.R_far (p := ⟨gb221, 9, none⟩) (Kd.R_far (p := ⟨gb221, 8, none⟩) (Kd.R_far (p := ⟨gb221, 7, none⟩) (Kd.R_far (p := ⟨gb221, 6, none⟩) (Kd.R_far (p := ⟨gb221, 5, none⟩) (Kd.R_far (p := ⟨gb221, 4, none⟩) (Kd.R_far (p := ⟨gb221, 3, none⟩) (Kd.R_far (p := ⟨gb221, 2, none⟩) (Kd.R_far (p := ⟨gb221, 1, none⟩) (Kd.R_far (p := ⟨gb221, 0, none⟩) (Kd.R_types ba0.out BK221.out (by decide)) (fun _ hk => hk.2) (.int .i64 t204)) (fun _ hk => hk.2) (.int .i64 t205)) (fun _ hk => hk.2) (.int .i64 t206)) (fun _ hk => hk.2) (.int .i64 t207)) (fun _ hk => hk.2) (.slice Ao57 t208.length co57)) (fun _ hk => hk.2) (.int .i64 t211)) (fun _ hk => hk.2) (.int .i64 t212)) (fun _ hk => hk.2) (.int .i64 t213)) (fun _ hk => hk.2) (.bool t214)) (fun _ hk => hk.2) (.bool t215)) (fun _ hk => hk.2) (.bool t216)) (fun _ hk => hk.2) (.bool t217)) (fun _ hk => hk.2) (.bool t218)) (fun _ hk => hk.2) (.int .i64 t219)) (fun _ hk => ⟨hk.1.1, hk.1.2⟩)⟩, ⟨by (with_reducible repeat (first | apply Kd.R_alloc | apply Kd.R_drewN | apply Kd.R_drew)); exact Kd.R_mono (Kd.R_far (p := ⟨gb221, 13, none⟩) (Kd.R_far (p := ⟨gb221, 12, none⟩) (Kd.R_far (p := ⟨gb221, 11, none⟩) (Kd.R_far (p := ⟨gb221, 10, none⟩) (Kd.R_far (p := ⟨gb221, 9, none⟩) (Kd.R_far (p := ⟨gb221, 8, none⟩) (Kd.R_far (p := ⟨gb221, 7, none⟩) (Kd.R_far (p := ⟨gb221, 6, none⟩) (Kd.R_far (p := ⟨gb221, 5, none⟩) (Kd.R_far (p := ⟨gb221, 4, none⟩) (Kd.R_far (p := ⟨gb221, 3, none⟩) (Kd.R_far (p := ⟨gb221, 2, none⟩) (Kd.R_far (p := ⟨gb221, 1, none⟩) (Kd.R_far (p := ⟨gb221, 0, none⟩) (Kd.R_types ba1.out BK221.out (by decide)) (fun _ hk => hk.2) (.int .i64 t204)) (fun _ hk => hk.2) (.int .i64 t205)) (fun _ hk => hk.2) (.int .i64 t206)) (fun _ hk => hk.2) (.int .i64 t207)) (fun _ hk => hk.2) (.slice Ao57 t208.length co57)) (fun _ hk => hk.2) (.int .i64 t211)) (fun _ hk => hk.2) (.int .i64 t212)) (fun _ hk => hk.2) (.int .i64 t213)) (fun _ hk => hk.2) (.bool t214)) (fun _ hk => hk.2) (.bool t215)) (fun _ hk => hk.2) (.bool t216)) (fun _ hk => hk.2) (.bool t217)) (fun _ hk => hk.2) (.bool t218)) (fun _ hk => hk.2) (.int .i64 t219)) (fun _ hk => ⟨hk.1.1, hk.1.2⟩)⟩, ⟨by (with_reducible repeat (first | apply Kd.R_alloc | apply Kd.R_drewN | apply Kd.R_drew)); exact Kd.R_mono (Kd.R_far (p := ⟨gb221, 13, none⟩) (Kd.R_far (p := ⟨gb221, 12, none⟩) (Kd.R_far (p := ⟨gb221, 11, none⟩) (Kd.R_far (p := ⟨gb221, 10, none⟩) (Kd.R_far (p := ⟨gb221, 9, none⟩) (Kd.R_far (p := ⟨gb221, 8, none⟩) (Kd.R_far (p := ⟨gb221, 7, none⟩) (Kd.R_far (p := ⟨gb221, 6, none⟩) (Kd.R_far (p := ⟨gb221, 5, none⟩) (Kd.R_far (p := ⟨gb221, 4, none⟩) (Kd.R_far (p := ⟨gb221, 3, none⟩) (Kd.R_far (p := ⟨gb221, 2, none⟩) (Kd.R_far (p := ⟨gb221, 1, none⟩) (Kd.R_far (p := ⟨gb221, 0, none⟩) (Kd.R_types HO210.out BK221.out (by decide)) (fun _ hk => hk.2) (.int .i64 t204)) (fun _ hk => hk.2) (.int .i64 t205)) (fun _ hk => hk.2) (.int .i64 t206)) (fun _ hk => hk.2) (.int .i64 t207)) (fun _ hk => hk.2) (.slice Ao57 t208.length co57)) (fun _ hk => hk.2) (.int .i64 t211)) (fun _ hk => hk.2) (.int .i64 t212)) (fun _ hk => hk.2) (.int .i64 t213)) (fun _ hk => hk.2) (.bool t214)) (fun _ hk => hk.2) (.bool t215)) (fun _ hk => hk.2) (.bool t216)) (fun _ hk => hk.2) (.bool t217)) (fun _ hk => hk.2) (.bool t218)) (fun _ hk => hk.2) (.int .i64 t219)) (fun _ hk => ⟨hk.1.1.2, hk.1.2⟩)⟩, ⟨by (with_reducible repeat (first | refine blk_drewN ?_ _ | refine blk_drew ?_ | refine blk_alloc ?_ _)); refine blk_far14 ?_ NB176_221.out _ _ _ _ _ _ _ _ _ _ _ _ _ _; (with_reducible repeat (first | refine blk_drewN ?_ _ | refine blk_drew ?_ | refine blk_alloc ?_ _)); exact BK176.out⟩, ⟨by (with_reducible repeat (first | refine blk_drewN ?_ _ | refine blk_drew ?_ | refine blk_alloc ?_ _)); refine blk_far14 ?_ NB194_221.out _ _ _ _ _ _ _ _ _ _ _ _ _ _; (with_reducible repeat (first | refine blk_drewN ?_ _ | refine blk_drew ?_ | refine blk_alloc ?_ _)); exact BK194.out⟩, ⟨by (with_reducible repeat (first | refine blk_drewN ?_ _ | refine blk_drew ?_ | refine blk_alloc ?_ _)); refine blk_far14 ?_ NB203_221.out _ _ _ _ _ _ _ _ _ _ _ _ _ _; (with_reducible repeat (first | refine blk_drewN ?_ _ | refine blk_drew ?_ | refine blk_alloc ?_ _)); exact BK203.out⟩, ⟨by (with_reducible repeat (first | refine blk_drewN ?_ _ | refine blk_drew ?_ | refine blk_alloc ?_ _)); first | exact blk_all14 BK221.out _ _ _ _ _ _ _ _ _ _ _ _ _ _ | exact blk_all14 (blk_up BK221.out) _ _ _ _ _ _ _ _ _ _ _ _ _ _⟩, ⟨by repeat (first | (with_reducible first | exact HB.out | apply below_alloc | apply pw_below_drewN | apply below_drew1 | refine below_set ?_ GE176.out | refine below_set ?_ GE194.out | refine below_set ?_ GE203.out | refine below_set ?_ GE221.out) | exact HB.out)⟩⟩
       case rest =>
        clear HC46
        try clear c1
        try clear c2
        try clear p2
        try clear q2
        try clear hx2
        try clear c3
        try clear c4
        try clear c5
        try clear c6
        try clear p6
        try clear c7
        try clear c8
        try clear c8b0
        try clear c8b1
        try clear c11
        try clear c11b0
        try clear c12
        try clear c12b0
        try clear c17
        try clear c18
        try clear p20
        try clear q20
        try clear hx20
        try clear c22
        try clear c23
        try clear c24
        try clear c30
        try clear c30b0
        try clear c31
        try clear c31b0
        try clear c32
        try clear c32b0
        try clear c35
        try clear c36
        try clear c37
        try clear c38
        try clear c38b0
        try clear c38b1
        try clear c39
        try clear c40
        try clear c43
        try clear c45
        try clear c45b0
        try clear c45b1
        try clear c47
        try clear c48
        try clear c53
        try clear c54
        try clear c55
        try clear c58
        try clear c59
        try clear c59b0
        try clear c59b1
        try clear c60
        try clear c60b0
        try clear c60b1
        try clear c61
        try clear c62
        try clear c63
        try clear p64
        try clear c65
        try clear c66
        try clear c67
        try clear c69
        try clear c70
        try clear c71
        try clear hcz18_0
        try clear hcz18_1
        try clear hcz18_2
        try clear hcz18_3
        try clear hcz18_4
        try clear hcz24_0
        try clear hcz24_1
        try clear hcz24_10
        try clear hcz24_11
        try clear hcz24_12
        try clear hcz24_13
        try clear hcz24_2
        try clear hcz24_3
        try clear hcz24_4
        try clear hcz24_5
        try clear hcz24_6
        try clear hcz24_7
        try clear hcz24_8
        try clear hcz24_9
        try clear hcz26_0
        try clear hcz26_1
        try clear hcz26_2
        try clear hcz26_3
        try clear hcz26_4
        try clear hcz37_0
        try clear hcz37_1
        try clear hcz37_2
        try clear hcz37_3
        try clear hcz41_0
        try clear hcz41_1
        try clear hcz41_2
        try clear hcz41_3
        try clear hcz49_0
        try clear hcz49_1
        try clear hcz49_10
        try clear hcz49_11
        try clear hcz49_12
        try clear hcz49_13
        try clear hcz49_2
        try clear hcz49_3
        try clear hcz49_4
        try clear hcz49_5
        try clear hcz49_6
        try clear hcz49_7
        try clear hcz49_8
        try clear hcz49_9
        try clear hcz56_0
        try clear hcz56_1
        try clear hcz56_10
        try clear hcz56_11
        try clear hcz56_12
        try clear hcz56_13
        try clear hcz56_2
        try clear hcz56_3
        try clear hcz56_4
        try clear hcz56_5
        try clear hcz56_6
        try clear hcz56_7
        try clear hcz56_8
        try clear hcz56_9
        try clear hcz64_0
        try clear hcz64_1
        try clear hcz64_2
        try clear hcz64_3
        try clear hcz68_0
        try clear hcz68_1
        try clear hcz68_2
        try clear hcz68_3
        try clear hcz72_0
        try clear hcz72_1
        try clear hcz72_2
        try clear hcz72_3
        try clear hfz18_0
        try clear hfz18_1
        try clear hfz18_2
        try clear hfz18_3
        try clear hfz18_4
        try clear hfz24_0
        try clear hfz24_1
        try clear hfz24_10
        try clear hfz24_11
        try clear hfz24_12
        try clear hfz24_13
        try clear hfz24_2
        try clear hfz24_3
        try clear hfz24_4
        try clear hfz24_5
        try clear hfz24_6
        try clear hfz24_7
        try clear hfz24_8
        try clear hfz24_9
        try clear hfz26_0
        try clear hfz26_1
        try clear hfz26_2
        try clear hfz26_3
        try clear hfz26_4
        try clear hfz37_0
        try clear hfz37_1
        try clear hfz37_2
        try clear hfz37_3
        try clear hfz41_0
        try clear hfz41_1
        try clear hfz41_2
        try clear hfz41_3
        try clear hfz49_0
        try clear hfz49_1
        try clear hfz49_10
        try clear hfz49_11
        try clear hfz49_12
        try clear hfz49_13
        try clear hfz49_2
        try clear hfz49_3
        try clear hfz49_4
        try clear hfz49_5
        try clear hfz49_6
        try clear hfz49_7
        try clear hfz49_8
        try clear hfz49_9
        try clear hfz56_0
        try clear hfz56_1
        try clear hfz56_10
        try clear hfz56_11
        try clear hfz56_12
        try clear hfz56_13
        try clear hfz56_2
        try clear hfz56_3
        try clear hfz56_4
        try clear hfz56_5
        try clear hfz56_6
        try clear hfz56_7
        try clear hfz56_8
        try clear hfz56_9
        try clear hfz64_0
        try clear hfz64_1
        try clear hfz64_2
        try clear hfz64_3
        try clear hfz68_0
        try clear hfz68_1
        try clear hfz68_2
        try clear hfz68_3
        try clear hfz72_0
        try clear hfz72_1
        try clear hfz72_2
        try clear hfz72_3
        try clear hx201_0
        try clear hx201_1
        try clear hx201_2
        try clear hx201_3
        try clear hx202_0
        try clear hx202_1
        try clear hx202_2
        try clear hx202_3
        try clear p2
        try clear p20
        try clear p201
        try clear p202
        try clear p6
        try clear q2
        try clear q20
        try clear q201
        try clear q202
        obtain ⟨kq, x18_45, rfl, HA, HJ45, HO_49, ba0, ba1, bag, BK176, BK194, BK203, BK221, HB⟩ := hcut
        cases kq with
        | zero => exact absurd HA.out (by simp [storagebarterlaw29_SlotDrops.j3])
        | succ kj45 =>
         have H := HA.out
         clear HA
         simp only [storagebarterlaw29_SlotDrops.j3] at H
         have HC73 := Aside0.mk H
         clear H
         go_upto_region 23 with (fail)
         go_cut [107] (fun v107 wc => ∃ (kq : Nat) (x107_72 : Bool), v107 = .bool x107_72 ∧ Aside0 (storagebarterlaw29_SlotDrops.j4 kq ji10 ((rd_T36 t195 (ji10)).f2) x11_41 t195 (t195.length : Int) x51_1 x107_72 t168 t169 t170 t171 t172 t204 t205 t206 t207 t208 t211 t212 t213 t214 t215 t216 t217 t218 t219 = some r) ∧ Aside0 (kq ≤ kj45) ∧ Aside0 (Kd.R k36 36 wc w.heap.size (fun k_ => k_ ≠ gb203) (.slice (some ad201) t195.length co28) t195) ∧ Aside0 (Kd.R (Kd.int .i64) 3 wc w.heap.size (fun k_ => some k_ ≠ ((.slice Ao50 ba3.length co50) : Value).ownBlock ∧ some k_ ≠ ((.slice Ao57 t208.length co57) : Value).ownBlock) (.slice Ao19 t172.length co19) t172) ∧ Aside0 (Kd.R (Kd.int .i64) 3 wc w.heap.size (fun k_ => some k_ ≠ ((.slice Ao19 t172.length co19) : Value).ownBlock ∧ some k_ ≠ ((.slice Ao57 t208.length co57) : Value).ownBlock) (.slice Ao50 ba3.length co50) ba3) ∧ Aside0 (Kd.R (Kd.int .i64) 3 wc w.heap.size (fun k_ => some k_ ≠ ((.slice Ao19 t172.length co19) : Value).ownBlock ∧ some k_ ≠ ((.slice Ao50 ba3.length co50) : Value).ownBlock) (.slice Ao57 t208.length co57) t208) ∧ Aside0 (wc.heap[gb176]? = some (.cells #[.int .i64 t168, .int .i64 t169, .int .i64 t170, .int .i64 t171, (.slice Ao19 t172.length co19)] 26 (0, 0))) ∧ Aside0 (wc.heap[gb194]? = some (.cells #[.int .i64 ba4, .int .i64 ba5, .int .i64 ba6, .int .i64 ba7, (.slice Ao50 ba3.length co50), .int .i64 ba8, .int .i64 ba9, .int .i64 baa, .bool bab, .bool bac, .bool bad, .bool bae, .bool ba2, .int .i64 baf] 54 (0, 0))) ∧ Aside0 (wc.heap[gb203]? = some (.cells #[.int .i64 ((rd_T36 t195 x51_1).f0), .int .i64 ((rd_T36 t195 x51_1).f1), .int .i64 ((rd_T36 t195 x51_1).f2), .int .i64 ((rd_T36 t195 x51_1).f3)] 36 (0, 0))) ∧ Aside0 (wc.heap[gb221]? = some (.cells #[.int .i64 t204, .int .i64 t205, .int .i64 t206, .int .i64 t207, (.slice Ao57 t208.length co57), .int .i64 t211, .int .i64 t212, .int .i64 t213, .bool t214, .bool t215, .bool t216, .bool t217, .bool t218, .int .i64 t219] 54 (0, 0))) ∧ Aside0 (Below w.heap.size w wc))
         case first =>
          have H := HC73.out
          clear HC73
          by_cases c74 : ba2 = true
          case neg =>
           replace c74 := Bool.eq_false_iff.mpr c74
           subst c74
           have H1 : (if (t218 != x18_45) = true then (storagebarterlaw29_SlotDrops.j4 kj45 ji10 ((rd_T36 t195 (ji10)).f2) x11_41 t195 (t195.length : Int) x51_1 true t168 t169 t170 t171 t172 t204 t205 t206 t207 t208 t211 t212 t213 t214 t215 t216 t217 t218 t219) else (if t218 = true then (storagebarterlaw29_SlotDrops.j4 kj45 ji10 ((rd_T36 t195 (ji10)).f2) x11_41 t195 (t195.length : Int) x51_1 (t219 != ((rd_T36 t195 (ji10)).f2)) t168 t169 t170 t171 t172 t204 t205 t206 t207 t208 t211 t212 t213 t214 t215 t216 t217 t218 t219) else (storagebarterlaw29_SlotDrops.j4 kj45 ji10 ((rd_T36 t195 (ji10)).f2) x11_41 t195 (t195.length : Int) x51_1 false t168 t169 t170 t171 t172 t204 t205 t206 t207 t208 t211 t212 t213 t214 t215 t216 t217 t218 t219))) = some r := by rw [if_neg (show ¬ (false = true) by decide)] at H; exact H
           clear H
           have H := H1
           clear H1
           by_cases c89 : (t218 != x18_45) = true
           case pos =>
            rw [if_pos c89] at H
            have c89b0 : (t218 != x18_45) = true := c89
            (try (have c89b1 : decide (t218 = x18_45) = false := by simpa using c89))
            (try (have c89b2 : (t218 == x18_45) = false := by simpa using c89))
            (try (have c89b3 : ¬ (t218 = x18_45) := by simpa using c89))
            clear c89
            have H' := Aside0.mk H
            clear H
            have hnb90 := NB221_176.out
            have hnc90 := NB176_221.out
            have hnb91 := NB221_194.out
            have hnc91 := NB194_221.out
            have hnb92 := NB221_203.out
            have hnc92 := NB203_221.out
            have hcz93_0 : wc.cell? ⟨gb221, 0, none⟩ = some (.int .i64 t204) := (blk_cell BK221.out 0).trans rfl
            have hcz93_1 : wc.cell? ⟨gb221, 1, none⟩ = some (.int .i64 t205) := (blk_cell BK221.out 1).trans rfl
            have hcz93_2 : wc.cell? ⟨gb221, 2, none⟩ = some (.int .i64 t206) := (blk_cell BK221.out 2).trans rfl
            have hcz93_3 : wc.cell? ⟨gb221, 3, none⟩ = some (.int .i64 t207) := (blk_cell BK221.out 3).trans rfl
            have hcz93_4 : wc.cell? ⟨gb221, 4, none⟩ = some (.slice Ao57 t208.length co57) := (blk_cell BK221.out 4).trans rfl
            have hcz93_5 : wc.cell? ⟨gb221, 5, none⟩ = some (.int .i64 t211) := (blk_cell BK221.out 5).trans rfl
            have hcz93_6 : wc.cell? ⟨gb221, 6, none⟩ = some (.int .i64 t212) := (blk_cell BK221.out 6).trans rfl
            have hcz93_7 : wc.cell? ⟨gb221, 7, none⟩ = some (.int .i64 t213) := (blk_cell BK221.out 7).trans rfl
            have hcz93_8 : wc.cell? ⟨gb221, 8, none⟩ = some (.bool t214) := (blk_cell BK221.out 8).trans rfl
            have hcz93_9 : wc.cell? ⟨gb221, 9, none⟩ = some (.bool t215) := (blk_cell BK221.out 9).trans rfl
            have hcz93_10 : wc.cell? ⟨gb221, 10, none⟩ = some (.bool t216) := (blk_cell BK221.out 10).trans rfl
            have hcz93_11 : wc.cell? ⟨gb221, 11, none⟩ = some (.bool t217) := (blk_cell BK221.out 11).trans rfl
            have hcz93_12 : wc.cell? ⟨gb221, 12, none⟩ = some (.bool t218) := (blk_cell BK221.out 12).trans rfl
            have hcz93_13 : wc.cell? ⟨gb221, 13, none⟩ = some (.int .i64 t219) := (blk_cell BK221.out 13).trans rfl
            have hfz93_0 := blk_frozen BK221.out 0
            have hfz93_1 := blk_frozen BK221.out 1
            have hfz93_2 := blk_frozen BK221.out 2
            have hfz93_3 := blk_frozen BK221.out 3
            have hfz93_4 := blk_frozen BK221.out 4
            have hfz93_5 := blk_frozen BK221.out 5
            have hfz93_6 := blk_frozen BK221.out 6
            have hfz93_7 := blk_frozen BK221.out 7
            have hfz93_8 := blk_frozen BK221.out 8
            have hfz93_9 := blk_frozen BK221.out 9
            have hfz93_10 := blk_frozen BK221.out 10
            have hfz93_11 := blk_frozen BK221.out 11
            have hfz93_12 := blk_frozen BK221.out 12
            have hfz93_13 := blk_frozen BK221.out 13
            go_wp2
            go_meet
            case rel => exact ⟨_, (true), (by first | rfl | (simp; done) | (simp [*]; done)), H', ⟨by have := HK1.out; have := HJ32.out; have := HJ41.out; have := HJ45.out; first | omega | exact Nat.le_refl _⟩, ⟨by (with_reducible repeat (first | apply Kd.R_alloc | apply Kd.R_drewN | apply Kd.R_drew)); exact HO_49.out⟩, ⟨by (with_reducible repeat (first | apply Kd.R_alloc | apply Kd.R_drewN | apply Kd.R_drew)); exact ba0.out⟩, ⟨by (with_reducible repeat (first | apply Kd.R_alloc | apply Kd.R_drewN | apply Kd.R_drew)); exact ba1.out⟩, ⟨by (with_reducible repeat (first | apply Kd.R_alloc | apply Kd.R_drewN | apply Kd.R_drew)); exact bag.out⟩, ⟨by (with_reducible repeat (first | refine blk_drewN ?_ _ | refine blk_drew ?_ | refine blk_alloc ?_ _)); exact BK176.out⟩, ⟨by (with_reducible repeat (first | refine blk_drewN ?_ _ | refine blk_drew ?_ | refine blk_alloc ?_ _)); exact BK194.out⟩, ⟨by (with_reducible repeat (first | refine blk_drewN ?_ _ | refine blk_drew ?_ | refine blk_alloc ?_ _)); exact BK203.out⟩, ⟨by (with_reducible repeat (first | refine blk_drewN ?_ _ | refine blk_drew ?_ | refine blk_alloc ?_ _)); exact BK221.out⟩, ⟨by repeat (first | (with_reducible first | exact HB.out | apply below_alloc | apply pw_below_drewN | apply below_drew1 | refine below_set ?_ GE176.out | refine below_set ?_ GE194.out | refine below_set ?_ GE203.out | refine below_set ?_ GE221.out) | exact HB.out)⟩⟩
           rw [if_neg c89] at H
           have c89b0 : (t218 != x18_45) = false := by simpa using c89
           (try (have c89b1 : decide (t218 = x18_45) = true := by simpa using c89))
           (try (have c89b2 : (t218 == x18_45) = true := by simpa using c89))
           clear c89
           by_cases c94 : t218 = true
           case pos =>
            subst c94
            have H1 : (storagebarterlaw29_SlotDrops.j4 kj45 ji10 ((rd_T36 t195 (ji10)).f2) x11_41 t195 (t195.length : Int) x51_1 (t219 != ((rd_T36 t195 (ji10)).f2)) t168 t169 t170 t171 t172 t204 t205 t206 t207 t208 t211 t212 t213 t214 t215 t216 t217 true t219) = some r := by rw [if_pos rfl] at H; exact H
            clear H
            have H := H1
            clear H1
            have H' := Aside0.mk H
            clear H
            have hnb95 := NB221_176.out
            have hnc95 := NB176_221.out
            have hnb96 := NB221_194.out
            have hnc96 := NB194_221.out
            have hnb97 := NB221_203.out
            have hnc97 := NB203_221.out
            have hcz98_0 : wc.cell? ⟨gb221, 0, none⟩ = some (.int .i64 t204) := (blk_cell BK221.out 0).trans rfl
            have hcz98_1 : wc.cell? ⟨gb221, 1, none⟩ = some (.int .i64 t205) := (blk_cell BK221.out 1).trans rfl
            have hcz98_2 : wc.cell? ⟨gb221, 2, none⟩ = some (.int .i64 t206) := (blk_cell BK221.out 2).trans rfl
            have hcz98_3 : wc.cell? ⟨gb221, 3, none⟩ = some (.int .i64 t207) := (blk_cell BK221.out 3).trans rfl
            have hcz98_4 : wc.cell? ⟨gb221, 4, none⟩ = some (.slice Ao57 t208.length co57) := (blk_cell BK221.out 4).trans rfl
            have hcz98_5 : wc.cell? ⟨gb221, 5, none⟩ = some (.int .i64 t211) := (blk_cell BK221.out 5).trans rfl
            have hcz98_6 : wc.cell? ⟨gb221, 6, none⟩ = some (.int .i64 t212) := (blk_cell BK221.out 6).trans rfl
            have hcz98_7 : wc.cell? ⟨gb221, 7, none⟩ = some (.int .i64 t213) := (blk_cell BK221.out 7).trans rfl
            have hcz98_8 : wc.cell? ⟨gb221, 8, none⟩ = some (.bool t214) := (blk_cell BK221.out 8).trans rfl
            have hcz98_9 : wc.cell? ⟨gb221, 9, none⟩ = some (.bool t215) := (blk_cell BK221.out 9).trans rfl
            have hcz98_10 : wc.cell? ⟨gb221, 10, none⟩ = some (.bool t216) := (blk_cell BK221.out 10).trans rfl
            have hcz98_11 : wc.cell? ⟨gb221, 11, none⟩ = some (.bool t217) := (blk_cell BK221.out 11).trans rfl
            have hcz98_12 : wc.cell? ⟨gb221, 12, none⟩ = some (.bool true) := (blk_cell BK221.out 12).trans rfl
            have hcz98_13 : wc.cell? ⟨gb221, 13, none⟩ = some (.int .i64 t219) := (blk_cell BK221.out 13).trans rfl
            have hfz98_0 := blk_frozen BK221.out 0
            have hfz98_1 := blk_frozen BK221.out 1
            have hfz98_2 := blk_frozen BK221.out 2
            have hfz98_3 := blk_frozen BK221.out 3
            have hfz98_4 := blk_frozen BK221.out 4
            have hfz98_5 := blk_frozen BK221.out 5
            have hfz98_6 := blk_frozen BK221.out 6
            have hfz98_7 := blk_frozen BK221.out 7
            have hfz98_8 := blk_frozen BK221.out 8
            have hfz98_9 := blk_frozen BK221.out 9
            have hfz98_10 := blk_frozen BK221.out 10
            have hfz98_11 := blk_frozen BK221.out 11
            have hfz98_12 := blk_frozen BK221.out 12
            have hfz98_13 := blk_frozen BK221.out 13
            go_wp2
            go_meet
            case rel => exact ⟨_, ((t219 != ((rd_T36 t195 (ji10)).f2))), (by first | rfl | (simp; done) | (simp only [← hji10] <;> (first | rfl | simp)) | (simp [*]; done)), H', ⟨by have := HK1.out; have := HJ32.out; have := HJ41.out; have := HJ45.out; first | omega | exact Nat.le_refl _⟩, ⟨by (with_reducible repeat (first | apply Kd.R_alloc | apply Kd.R_drewN | apply Kd.R_drew)); exact HO_49.out⟩, ⟨by (with_reducible repeat (first | apply Kd.R_alloc | apply Kd.R_drewN | apply Kd.R_drew)); exact ba0.out⟩, ⟨by (with_reducible repeat (first | apply Kd.R_alloc | apply Kd.R_drewN | apply Kd.R_drew)); exact ba1.out⟩, ⟨by (with_reducible repeat (first | apply Kd.R_alloc | apply Kd.R_drewN | apply Kd.R_drew)); exact bag.out⟩, ⟨by (with_reducible repeat (first | refine blk_drewN ?_ _ | refine blk_drew ?_ | refine blk_alloc ?_ _)); exact BK176.out⟩, ⟨by (with_reducible repeat (first | refine blk_drewN ?_ _ | refine blk_drew ?_ | refine blk_alloc ?_ _)); exact BK194.out⟩, ⟨by (with_reducible repeat (first | refine blk_drewN ?_ _ | refine blk_drew ?_ | refine blk_alloc ?_ _)); exact BK203.out⟩, ⟨by (with_reducible repeat (first | refine blk_drewN ?_ _ | refine blk_drew ?_ | refine blk_alloc ?_ _)); exact BK221.out⟩, ⟨by repeat (first | (with_reducible first | exact HB.out | apply below_alloc | apply pw_below_drewN | apply below_drew1 | refine below_set ?_ GE176.out | refine below_set ?_ GE194.out | refine below_set ?_ GE203.out | refine below_set ?_ GE221.out) | exact HB.out)⟩⟩
           replace c94 := Bool.eq_false_iff.mpr c94
           subst c94
           have H1 : (storagebarterlaw29_SlotDrops.j4 kj45 ji10 ((rd_T36 t195 (ji10)).f2) x11_41 t195 (t195.length : Int) x51_1 false t168 t169 t170 t171 t172 t204 t205 t206 t207 t208 t211 t212 t213 t214 t215 t216 t217 false t219) = some r := by rw [if_neg (show ¬ (false = true) by decide)] at H; exact H
           clear H
           have H := H1
           clear H1
           have H' := Aside0.mk H
           clear H
           have hnb99 := NB221_176.out
           have hnc99 := NB176_221.out
           have hnb100 := NB221_194.out
           have hnc100 := NB194_221.out
           have hnb101 := NB221_203.out
           have hnc101 := NB203_221.out
           have hcz102_0 : wc.cell? ⟨gb221, 0, none⟩ = some (.int .i64 t204) := (blk_cell BK221.out 0).trans rfl
           have hcz102_1 : wc.cell? ⟨gb221, 1, none⟩ = some (.int .i64 t205) := (blk_cell BK221.out 1).trans rfl
           have hcz102_2 : wc.cell? ⟨gb221, 2, none⟩ = some (.int .i64 t206) := (blk_cell BK221.out 2).trans rfl
           have hcz102_3 : wc.cell? ⟨gb221, 3, none⟩ = some (.int .i64 t207) := (blk_cell BK221.out 3).trans rfl
           have hcz102_4 : wc.cell? ⟨gb221, 4, none⟩ = some (.slice Ao57 t208.length co57) := (blk_cell BK221.out 4).trans rfl
           have hcz102_5 : wc.cell? ⟨gb221, 5, none⟩ = some (.int .i64 t211) := (blk_cell BK221.out 5).trans rfl
           have hcz102_6 : wc.cell? ⟨gb221, 6, none⟩ = some (.int .i64 t212) := (blk_cell BK221.out 6).trans rfl
           have hcz102_7 : wc.cell? ⟨gb221, 7, none⟩ = some (.int .i64 t213) := (blk_cell BK221.out 7).trans rfl
           have hcz102_8 : wc.cell? ⟨gb221, 8, none⟩ = some (.bool t214) := (blk_cell BK221.out 8).trans rfl
           have hcz102_9 : wc.cell? ⟨gb221, 9, none⟩ = some (.bool t215) := (blk_cell BK221.out 9).trans rfl
           have hcz102_10 : wc.cell? ⟨gb221, 10, none⟩ = some (.bool t216) := (blk_cell BK221.out 10).trans rfl
           have hcz102_11 : wc.cell? ⟨gb221, 11, none⟩ = some (.bool t217) := (blk_cell BK221.out 11).trans rfl
           have hcz102_12 : wc.cell? ⟨gb221, 12, none⟩ = some (.bool false) := (blk_cell BK221.out 12).trans rfl
           have hcz102_13 : wc.cell? ⟨gb221, 13, none⟩ = some (.int .i64 t219) := (blk_cell BK221.out 13).trans rfl
           have hfz102_0 := blk_frozen BK221.out 0
           have hfz102_1 := blk_frozen BK221.out 1
           have hfz102_2 := blk_frozen BK221.out 2
           have hfz102_3 := blk_frozen BK221.out 3
           have hfz102_4 := blk_frozen BK221.out 4
           have hfz102_5 := blk_frozen BK221.out 5
           have hfz102_6 := blk_frozen BK221.out 6
           have hfz102_7 := blk_frozen BK221.out 7
           have hfz102_8 := blk_frozen BK221.out 8
           have hfz102_9 := blk_frozen BK221.out 9
           have hfz102_10 := blk_frozen BK221.out 10
           have hfz102_11 := blk_frozen BK221.out 11
           have hfz102_12 := blk_frozen BK221.out 12
           have hfz102_13 := blk_frozen BK221.out 13
           go_wp2
           go_meet
           case rel => exact ⟨_, (false), (by first | rfl | (simp; done) | (simp [*]; done)), H', ⟨by have := HK1.out; have := HJ32.out; have := HJ41.out; have := HJ45.out; first | omega | exact Nat.le_refl _⟩, ⟨by (with_reducible repeat (first | apply Kd.R_alloc | apply Kd.R_drewN | apply Kd.R_drew)); exact HO_49.out⟩, ⟨by (with_reducible repeat (first | apply Kd.R_alloc | apply Kd.R_drewN | apply Kd.R_drew)); exact ba0.out⟩, ⟨by (with_reducible repeat (first | apply Kd.R_alloc | apply Kd.R_drewN | apply Kd.R_drew)); exact ba1.out⟩, ⟨by (with_reducible repeat (first | apply Kd.R_alloc | apply Kd.R_drewN | apply Kd.R_drew)); exact bag.out⟩, ⟨by (with_reducible repeat (first | refine blk_drewN ?_ _ | refine blk_drew ?_ | refine blk_alloc ?_ _)); exact BK176.out⟩, ⟨by (with_reducible repeat (first | refine blk_drewN ?_ _ | refine blk_drew ?_ | refine blk_alloc ?_ _)); exact BK194.out⟩, ⟨by (with_reducible repeat (first | refine blk_drewN ?_ _ | refine blk_drew ?_ | refine blk_alloc ?_ _)); exact BK203.out⟩, ⟨by (with_reducible repeat (first | refine blk_drewN ?_ _ | refine blk_drew ?_ | refine blk_alloc ?_ _)); exact BK221.out⟩, ⟨by repeat (first | (with_reducible first | exact HB.out | apply below_alloc | apply pw_below_drewN | apply below_drew1 | refine below_set ?_ GE176.out | refine below_set ?_ GE194.out | refine below_set ?_ GE203.out | refine below_set ?_ GE221.out) | exact HB.out)⟩⟩
          subst c74
          have H1 : (if (t218 != true) = true then (storagebarterlaw29_SlotDrops.j4 kj45 ji10 ((rd_T36 t195 (ji10)).f2) x11_41 t195 (t195.length : Int) x51_1 true t168 t169 t170 t171 t172 t204 t205 t206 t207 t208 t211 t212 t213 t214 t215 t216 t217 t218 t219) else (if t218 = true then (storagebarterlaw29_SlotDrops.j4 kj45 ji10 ((rd_T36 t195 (ji10)).f2) x11_41 t195 (t195.length : Int) x51_1 (t219 != ((rd_T36 t195 (ji10)).f2)) t168 t169 t170 t171 t172 t204 t205 t206 t207 t208 t211 t212 t213 t214 t215 t216 t217 t218 t219) else (storagebarterlaw29_SlotDrops.j4 kj45 ji10 ((rd_T36 t195 (ji10)).f2) x11_41 t195 (t195.length : Int) x51_1 false t168 t169 t170 t171 t172 t204 t205 t206 t207 t208 t211 t212 t213 t214 t215 t216 t217 t218 t219))) = some r := by rw [if_pos rfl] at H; exact H
          clear H
          have H := H1
          clear H1
          by_cases c75 : (t218 != true) = true
          case pos =>
           rw [if_pos c75] at H
           have c75b0 : (t218 != true) = true := c75
           (try (have c75b1 : decide (t218 = true) = false := by simpa using c75))
           (try (have c75b2 : (t218 == true) = false := by simpa using c75))
           (try (have c75b3 : ¬ (t218 = true) := by simpa using c75))
           clear c75
           (first | rw [c75b0] | (simp only [i64_w, i32_w]; rw [c75b0]) | skip)
           have H' := Aside0.mk H
           clear H
           have hnb76 := NB221_176.out
           have hnc76 := NB176_221.out
           have hnb77 := NB221_194.out
           have hnc77 := NB194_221.out
           have hnb78 := NB221_203.out
           have hnc78 := NB203_221.out
           have hcz79_0 : wc.cell? ⟨gb221, 0, none⟩ = some (.int .i64 t204) := (blk_cell BK221.out 0).trans rfl
           have hcz79_1 : wc.cell? ⟨gb221, 1, none⟩ = some (.int .i64 t205) := (blk_cell BK221.out 1).trans rfl
           have hcz79_2 : wc.cell? ⟨gb221, 2, none⟩ = some (.int .i64 t206) := (blk_cell BK221.out 2).trans rfl
           have hcz79_3 : wc.cell? ⟨gb221, 3, none⟩ = some (.int .i64 t207) := (blk_cell BK221.out 3).trans rfl
           have hcz79_4 : wc.cell? ⟨gb221, 4, none⟩ = some (.slice Ao57 t208.length co57) := (blk_cell BK221.out 4).trans rfl
           have hcz79_5 : wc.cell? ⟨gb221, 5, none⟩ = some (.int .i64 t211) := (blk_cell BK221.out 5).trans rfl
           have hcz79_6 : wc.cell? ⟨gb221, 6, none⟩ = some (.int .i64 t212) := (blk_cell BK221.out 6).trans rfl
           have hcz79_7 : wc.cell? ⟨gb221, 7, none⟩ = some (.int .i64 t213) := (blk_cell BK221.out 7).trans rfl
           have hcz79_8 : wc.cell? ⟨gb221, 8, none⟩ = some (.bool t214) := (blk_cell BK221.out 8).trans rfl
           have hcz79_9 : wc.cell? ⟨gb221, 9, none⟩ = some (.bool t215) := (blk_cell BK221.out 9).trans rfl
           have hcz79_10 : wc.cell? ⟨gb221, 10, none⟩ = some (.bool t216) := (blk_cell BK221.out 10).trans rfl
           have hcz79_11 : wc.cell? ⟨gb221, 11, none⟩ = some (.bool t217) := (blk_cell BK221.out 11).trans rfl
           have hcz79_12 : wc.cell? ⟨gb221, 12, none⟩ = some (.bool t218) := (blk_cell BK221.out 12).trans rfl
           have hcz79_13 : wc.cell? ⟨gb221, 13, none⟩ = some (.int .i64 t219) := (blk_cell BK221.out 13).trans rfl
           have hfz79_0 := blk_frozen BK221.out 0
           have hfz79_1 := blk_frozen BK221.out 1
           have hfz79_2 := blk_frozen BK221.out 2
           have hfz79_3 := blk_frozen BK221.out 3
           have hfz79_4 := blk_frozen BK221.out 4
           have hfz79_5 := blk_frozen BK221.out 5
           have hfz79_6 := blk_frozen BK221.out 6
           have hfz79_7 := blk_frozen BK221.out 7
           have hfz79_8 := blk_frozen BK221.out 8
           have hfz79_9 := blk_frozen BK221.out 9
           have hfz79_10 := blk_frozen BK221.out 10
           have hfz79_11 := blk_frozen BK221.out 11
           have hfz79_12 := blk_frozen BK221.out 12
           have hfz79_13 := blk_frozen BK221.out 13
           go_wp2
           go_meet
           case rel => exact ⟨_, (true), (by first | rfl | (simp; done) | (simp [*]; done)), H', ⟨by have := HK1.out; have := HJ32.out; have := HJ41.out; have := HJ45.out; first | omega | exact Nat.le_refl _⟩, ⟨by (with_reducible repeat (first | apply Kd.R_alloc | apply Kd.R_drewN | apply Kd.R_drew)); exact HO_49.out⟩, ⟨by (with_reducible repeat (first | apply Kd.R_alloc | apply Kd.R_drewN | apply Kd.R_drew)); exact ba0.out⟩, ⟨by (with_reducible repeat (first | apply Kd.R_alloc | apply Kd.R_drewN | apply Kd.R_drew)); exact ba1.out⟩, ⟨by (with_reducible repeat (first | apply Kd.R_alloc | apply Kd.R_drewN | apply Kd.R_drew)); exact bag.out⟩, ⟨by (with_reducible repeat (first | refine blk_drewN ?_ _ | refine blk_drew ?_ | refine blk_alloc ?_ _)); exact BK176.out⟩, ⟨by (with_reducible repeat (first | refine blk_drewN ?_ _ | refine blk_drew ?_ | refine blk_alloc ?_ _)); exact BK194.out⟩, ⟨by (with_reducible repeat (first | refine blk_drewN ?_ _ | refine blk_drew ?_ | refine blk_alloc ?_ _)); exact BK203.out⟩, ⟨by (with_reducible repeat (first | refine blk_drewN ?_ _ | refine blk_drew ?_ | refine blk_alloc ?_ _)); exact BK221.out⟩, ⟨by repeat (first | (with_reducible first | exact HB.out | apply below_alloc | apply pw_below_drewN | apply below_drew1 | refine below_set ?_ GE176.out | refine below_set ?_ GE194.out | refine below_set ?_ GE203.out | refine below_set ?_ GE221.out) | exact HB.out)⟩⟩
          rw [if_neg c75] at H
          have c75b0 : (t218 != true) = false := by simpa using c75
          (try (have c75b1 : decide (t218 = true) = true := by simpa using c75))
          (try (have c75b2 : (t218 == true) = true := by simpa using c75))
          clear c75
          (first | rw [c75b0] | (simp only [i64_w, i32_w]; rw [c75b0]) | skip)
          by_cases c80 : t218 = true
          case pos =>
           subst c80
           have H1 : (storagebarterlaw29_SlotDrops.j4 kj45 ji10 ((rd_T36 t195 (ji10)).f2) x11_41 t195 (t195.length : Int) x51_1 (t219 != ((rd_T36 t195 (ji10)).f2)) t168 t169 t170 t171 t172 t204 t205 t206 t207 t208 t211 t212 t213 t214 t215 t216 t217 true t219) = some r := by rw [if_pos rfl] at H; exact H
           clear H
           have H := H1
           clear H1
           have H' := Aside0.mk H
           clear H
           have hnb81 := NB221_176.out
           have hnc81 := NB176_221.out
           have hnb82 := NB221_194.out
           have hnc82 := NB194_221.out
           have hnb83 := NB221_203.out
           have hnc83 := NB203_221.out
           have hcz84_0 : wc.cell? ⟨gb221, 0, none⟩ = some (.int .i64 t204) := (blk_cell BK221.out 0).trans rfl
           have hcz84_1 : wc.cell? ⟨gb221, 1, none⟩ = some (.int .i64 t205) := (blk_cell BK221.out 1).trans rfl
           have hcz84_2 : wc.cell? ⟨gb221, 2, none⟩ = some (.int .i64 t206) := (blk_cell BK221.out 2).trans rfl
           have hcz84_3 : wc.cell? ⟨gb221, 3, none⟩ = some (.int .i64 t207) := (blk_cell BK221.out 3).trans rfl
           have hcz84_4 : wc.cell? ⟨gb221, 4, none⟩ = some (.slice Ao57 t208.length co57) := (blk_cell BK221.out 4).trans rfl
           have hcz84_5 : wc.cell? ⟨gb221, 5, none⟩ = some (.int .i64 t211) := (blk_cell BK221.out 5).trans rfl
           have hcz84_6 : wc.cell? ⟨gb221, 6, none⟩ = some (.int .i64 t212) := (blk_cell BK221.out 6).trans rfl
           have hcz84_7 : wc.cell? ⟨gb221, 7, none⟩ = some (.int .i64 t213) := (blk_cell BK221.out 7).trans rfl
           have hcz84_8 : wc.cell? ⟨gb221, 8, none⟩ = some (.bool t214) := (blk_cell BK221.out 8).trans rfl
           have hcz84_9 : wc.cell? ⟨gb221, 9, none⟩ = some (.bool t215) := (blk_cell BK221.out 9).trans rfl
           have hcz84_10 : wc.cell? ⟨gb221, 10, none⟩ = some (.bool t216) := (blk_cell BK221.out 10).trans rfl
           have hcz84_11 : wc.cell? ⟨gb221, 11, none⟩ = some (.bool t217) := (blk_cell BK221.out 11).trans rfl
           have hcz84_12 : wc.cell? ⟨gb221, 12, none⟩ = some (.bool true) := (blk_cell BK221.out 12).trans rfl
           have hcz84_13 : wc.cell? ⟨gb221, 13, none⟩ = some (.int .i64 t219) := (blk_cell BK221.out 13).trans rfl
           have hfz84_0 := blk_frozen BK221.out 0
           have hfz84_1 := blk_frozen BK221.out 1
           have hfz84_2 := blk_frozen BK221.out 2
           have hfz84_3 := blk_frozen BK221.out 3
           have hfz84_4 := blk_frozen BK221.out 4
           have hfz84_5 := blk_frozen BK221.out 5
           have hfz84_6 := blk_frozen BK221.out 6
           have hfz84_7 := blk_frozen BK221.out 7
           have hfz84_8 := blk_frozen BK221.out 8
           have hfz84_9 := blk_frozen BK221.out 9
           have hfz84_10 := blk_frozen BK221.out 10
           have hfz84_11 := blk_frozen BK221.out 11
           have hfz84_12 := blk_frozen BK221.out 12
           have hfz84_13 := blk_frozen BK221.out 13
           go_wp2
           go_meet
           case rel => exact ⟨_, ((t219 != ((rd_T36 t195 (ji10)).f2))), (by first | rfl | (simp; done) | (simp only [← hji10] <;> (first | rfl | simp)) | (simp [*]; done)), H', ⟨by have := HK1.out; have := HJ32.out; have := HJ41.out; have := HJ45.out; first | omega | exact Nat.le_refl _⟩, ⟨by (with_reducible repeat (first | apply Kd.R_alloc | apply Kd.R_drewN | apply Kd.R_drew)); exact HO_49.out⟩, ⟨by (with_reducible repeat (first | apply Kd.R_alloc | apply Kd.R_drewN | apply Kd.R_drew)); exact ba0.out⟩, ⟨by (with_reducible repeat (first | apply Kd.R_alloc | apply Kd.R_drewN | apply Kd.R_drew)); exact ba1.out⟩, ⟨by (with_reducible repeat (first | apply Kd.R_alloc | apply Kd.R_drewN | apply Kd.R_drew)); exact bag.out⟩, ⟨by (with_reducible repeat (first | refine blk_drewN ?_ _ | refine blk_drew ?_ | refine blk_alloc ?_ _)); exact BK176.out⟩, ⟨by (with_reducible repeat (first | refine blk_drewN ?_ _ | refine blk_drew ?_ | refine blk_alloc ?_ _)); exact BK194.out⟩, ⟨by (with_reducible repeat (first | refine blk_drewN ?_ _ | refine blk_drew ?_ | refine blk_alloc ?_ _)); exact BK203.out⟩, ⟨by (with_reducible repeat (first | refine blk_drewN ?_ _ | refine blk_drew ?_ | refine blk_alloc ?_ _)); exact BK221.out⟩, ⟨by repeat (first | (with_reducible first | exact HB.out | apply below_alloc | apply pw_below_drewN | apply below_drew1 | refine below_set ?_ GE176.out | refine below_set ?_ GE194.out | refine below_set ?_ GE203.out | refine below_set ?_ GE221.out) | exact HB.out)⟩⟩
          replace c80 := Bool.eq_false_iff.mpr c80
          subst c80
          have H1 : (storagebarterlaw29_SlotDrops.j4 kj45 ji10 ((rd_T36 t195 (ji10)).f2) x11_41 t195 (t195.length : Int) x51_1 false t168 t169 t170 t171 t172 t204 t205 t206 t207 t208 t211 t212 t213 t214 t215 t216 t217 false t219) = some r := by rw [if_neg (show ¬ (false = true) by decide)] at H; exact H
          clear H
          have H := H1
          clear H1
          have H' := Aside0.mk H
          clear H
          have hnb85 := NB221_176.out
          have hnc85 := NB176_221.out
          have hnb86 := NB221_194.out
          have hnc86 := NB194_221.out
          have hnb87 := NB221_203.out
          have hnc87 := NB203_221.out
          have hcz88_0 : wc.cell? ⟨gb221, 0, none⟩ = some (.int .i64 t204) := (blk_cell BK221.out 0).trans rfl
          have hcz88_1 : wc.cell? ⟨gb221, 1, none⟩ = some (.int .i64 t205) := (blk_cell BK221.out 1).trans rfl
          have hcz88_2 : wc.cell? ⟨gb221, 2, none⟩ = some (.int .i64 t206) := (blk_cell BK221.out 2).trans rfl
          have hcz88_3 : wc.cell? ⟨gb221, 3, none⟩ = some (.int .i64 t207) := (blk_cell BK221.out 3).trans rfl
          have hcz88_4 : wc.cell? ⟨gb221, 4, none⟩ = some (.slice Ao57 t208.length co57) := (blk_cell BK221.out 4).trans rfl
          have hcz88_5 : wc.cell? ⟨gb221, 5, none⟩ = some (.int .i64 t211) := (blk_cell BK221.out 5).trans rfl
          have hcz88_6 : wc.cell? ⟨gb221, 6, none⟩ = some (.int .i64 t212) := (blk_cell BK221.out 6).trans rfl
          have hcz88_7 : wc.cell? ⟨gb221, 7, none⟩ = some (.int .i64 t213) := (blk_cell BK221.out 7).trans rfl
          have hcz88_8 : wc.cell? ⟨gb221, 8, none⟩ = some (.bool t214) := (blk_cell BK221.out 8).trans rfl
          have hcz88_9 : wc.cell? ⟨gb221, 9, none⟩ = some (.bool t215) := (blk_cell BK221.out 9).trans rfl
          have hcz88_10 : wc.cell? ⟨gb221, 10, none⟩ = some (.bool t216) := (blk_cell BK221.out 10).trans rfl
          have hcz88_11 : wc.cell? ⟨gb221, 11, none⟩ = some (.bool t217) := (blk_cell BK221.out 11).trans rfl
          have hcz88_12 : wc.cell? ⟨gb221, 12, none⟩ = some (.bool false) := (blk_cell BK221.out 12).trans rfl
          have hcz88_13 : wc.cell? ⟨gb221, 13, none⟩ = some (.int .i64 t219) := (blk_cell BK221.out 13).trans rfl
          have hfz88_0 := blk_frozen BK221.out 0
          have hfz88_1 := blk_frozen BK221.out 1
          have hfz88_2 := blk_frozen BK221.out 2
          have hfz88_3 := blk_frozen BK221.out 3
          have hfz88_4 := blk_frozen BK221.out 4
          have hfz88_5 := blk_frozen BK221.out 5
          have hfz88_6 := blk_frozen BK221.out 6
          have hfz88_7 := blk_frozen BK221.out 7
          have hfz88_8 := blk_frozen BK221.out 8
          have hfz88_9 := blk_frozen BK221.out 9
          have hfz88_10 := blk_frozen BK221.out 10
          have hfz88_11 := blk_frozen BK221.out 11
          have hfz88_12 := blk_frozen BK221.out 12
          have hfz88_13 := blk_frozen BK221.out 13
          go_wp2
          go_meet
          case rel => exact ⟨_, (false), (by first | rfl | (simp; done) | (simp [*]; done)), H', ⟨by have := HK1.out; have := HJ32.out; have := HJ41.out; have := HJ45.out; first | omega | exact Nat.le_refl _⟩, ⟨by (with_reducible repeat (first | apply Kd.R_alloc | apply Kd.R_drewN | apply Kd.R_drew)); exact HO_49.out⟩, ⟨by (with_reducible repeat (first | apply Kd.R_alloc | apply Kd.R_drewN | apply Kd.R_drew)); exact ba0.out⟩, ⟨by (with_reducible repeat (first | apply Kd.R_alloc | apply Kd.R_drewN | apply Kd.R_drew)); exact ba1.out⟩, ⟨by (with_reducible repeat (first | apply Kd.R_alloc | apply Kd.R_drewN | apply Kd.R_drew)); exact bag.out⟩, ⟨by (with_reducible repeat (first | refine blk_drewN ?_ _ | refine blk_drew ?_ | refine blk_alloc ?_ _)); exact BK176.out⟩, ⟨by (with_reducible repeat (first | refine blk_drewN ?_ _ | refine blk_drew ?_ | refine blk_alloc ?_ _)); exact BK194.out⟩, ⟨by (with_reducible repeat (first | refine blk_drewN ?_ _ | refine blk_drew ?_ | refine blk_alloc ?_ _)); exact BK203.out⟩, ⟨by (with_reducible repeat (first | refine blk_drewN ?_ _ | refine blk_drew ?_ | refine blk_alloc ?_ _)); exact BK221.out⟩, ⟨by repeat (first | (with_reducible first | exact HB.out | apply below_alloc | apply pw_below_drewN | apply below_drew1 | refine below_set ?_ GE176.out | refine below_set ?_ GE194.out | refine below_set ?_ GE203.out | refine below_set ?_ GE221.out) | exact HB.out)⟩⟩
         case rest =>
          clear HC73
          try clear c1
          try clear c2
          try clear p2
          try clear q2
          try clear hx2
          try clear c3
          try clear c4
          try clear c5
          try clear c6
          try clear p6
          try clear c7
          try clear c8
          try clear c8b0
          try clear c8b1
          try clear c9
          try clear c10
          try clear c11
          try clear c11b0
          try clear c12
          try clear c12b0
          try clear c17
          try clear c18
          try clear p20
          try clear q20
          try clear hx20
          try clear c22
          try clear c23
          try clear c24
          try clear c30
          try clear c30b0
          try clear c31
          try clear c31b0
          try clear c32
          try clear c32b0
          try clear c35
          try clear c36
          try clear c37
          try clear c38
          try clear c38b0
          try clear c38b1
          try clear c39
          try clear c40
          try clear c43
          try clear c45
          try clear c45b0
          try clear c45b1
          try clear c47
          try clear c48
          try clear c53
          try clear c54
          try clear c55
          try clear c58
          try clear c59
          try clear c59b0
          try clear c59b1
          try clear c60
          try clear c60b0
          try clear c60b1
          try clear c61
          try clear c62
          try clear c63
          try clear p64
          try clear c65
          try clear c66
          try clear c67
          try clear c69
          try clear c70
          try clear c71
          try clear c74
          try clear c75
          try clear c75b0
          try clear c75b1
          try clear c75b2
          try clear c76
          try clear c77
          try clear c78
          try clear c80
          try clear c81
          try clear c82
          try clear c83
          try clear c85
          try clear c86
          try clear c87
          try clear c89
          try clear c89b0
          try clear c89b1
          try clear c89b2
          try clear c90
          try clear c91
          try clear c92
          try clear c94
          try clear c95
          try clear c96
          try clear c97
          try clear c99
          try clear c100
          try clear c101
          try clear hcz102_0
          try clear hcz102_1
          try clear hcz102_10
          try clear hcz102_11
          try clear hcz102_12
          try clear hcz102_13
          try clear hcz102_2
          try clear hcz102_3
          try clear hcz102_4
          try clear hcz102_5
          try clear hcz102_6
          try clear hcz102_7
          try clear hcz102_8
          try clear hcz102_9
          try clear hcz18_0
          try clear hcz18_1
          try clear hcz18_2
          try clear hcz18_3
          try clear hcz18_4
          try clear hcz24_0
          try clear hcz24_1
          try clear hcz24_10
          try clear hcz24_11
          try clear hcz24_12
          try clear hcz24_13
          try clear hcz24_2
          try clear hcz24_3
          try clear hcz24_4
          try clear hcz24_5
          try clear hcz24_6
          try clear hcz24_7
          try clear hcz24_8
          try clear hcz24_9
          try clear hcz26_0
          try clear hcz26_1
          try clear hcz26_2
          try clear hcz26_3
          try clear hcz26_4
          try clear hcz37_0
          try clear hcz37_1
          try clear hcz37_2
          try clear hcz37_3
          try clear hcz41_0
          try clear hcz41_1
          try clear hcz41_2
          try clear hcz41_3
          try clear hcz49_0
          try clear hcz49_1
          try clear hcz49_10
          try clear hcz49_11
          try clear hcz49_12
          try clear hcz49_13
          try clear hcz49_2
          try clear hcz49_3
          try clear hcz49_4
          try clear hcz49_5
          try clear hcz49_6
          try clear hcz49_7
          try clear hcz49_8
          try clear hcz49_9
          try clear hcz56_0
          try clear hcz56_1
          try clear hcz56_10
          try clear hcz56_11
          try clear hcz56_12
          try clear hcz56_13
          try clear hcz56_2
          try clear hcz56_3
          try clear hcz56_4
          try clear hcz56_5
          try clear hcz56_6
          try clear hcz56_7
          try clear hcz56_8
          try clear hcz56_9
          try clear hcz64_0
          try clear hcz64_1
          try clear hcz64_2
          try clear hcz64_3
          try clear hcz68_0
          try clear hcz68_1
          try clear hcz68_2
          try clear hcz68_3
          try clear hcz72_0
          try clear hcz72_1
          try clear hcz72_2
          try clear hcz72_3
          try clear hcz79_0
          try clear hcz79_1
          try clear hcz79_10
          try clear hcz79_11
          try clear hcz79_12
          try clear hcz79_13
          try clear hcz79_2
          try clear hcz79_3
          try clear hcz79_4
          try clear hcz79_5
          try clear hcz79_6
          try clear hcz79_7
          try clear hcz79_8
          try clear hcz79_9
          try clear hcz84_0
          try clear hcz84_1
          try clear hcz84_10
          try clear hcz84_11
          try clear hcz84_12
          try clear hcz84_13
          try clear hcz84_2
          try clear hcz84_3
          try clear hcz84_4
          try clear hcz84_5
          try clear hcz84_6
          try clear hcz84_7
          try clear hcz84_8
          try clear hcz84_9
          try clear hcz88_0
          try clear hcz88_1
          try clear hcz88_10
          try clear hcz88_11
          try clear hcz88_12
          try clear hcz88_13
          try clear hcz88_2
          try clear hcz88_3
          try clear hcz88_4
          try clear hcz88_5
          try clear hcz88_6
          try clear hcz88_7
          try clear hcz88_8
          try clear hcz88_9
          try clear hcz93_0
          try clear hcz93_1
          try clear hcz93_10
          try clear hcz93_11
          try clear hcz93_12
          try clear hcz93_13
          try clear hcz93_2
          try clear hcz93_3
          try clear hcz93_4
          try clear hcz93_5
          try clear hcz93_6
          try clear hcz93_7
          try clear hcz93_8
          try clear hcz93_9
          try clear hcz98_0
          try clear hcz98_1
          try clear hcz98_10
          try clear hcz98_11
          try clear hcz98_12
          try clear hcz98_13
          try clear hcz98_2
          try clear hcz98_3
          try clear hcz98_4
          try clear hcz98_5
          try clear hcz98_6
          try clear hcz98_7
          try clear hcz98_8
          try clear hcz98_9
          try clear hfz102_0
          try clear hfz102_1
          try clear hfz102_10
          try clear hfz102_11
          try clear hfz102_12
          try clear hfz102_13
          try clear hfz102_2
          try clear hfz102_3
          try clear hfz102_4
          try clear hfz102_5
          try clear hfz102_6
          try clear hfz102_7
          try clear hfz102_8
          try clear hfz102_9
          try clear hfz18_0
          try clear hfz18_1
          try clear hfz18_2
          try clear hfz18_3
          try clear hfz18_4
          try clear hfz24_0
          try clear hfz24_1
          try clear hfz24_10
          try clear hfz24_11
          try clear hfz24_12
          try clear hfz24_13
          try clear hfz24_2
          try clear hfz24_3
          try clear hfz24_4
          try clear hfz24_5
          try clear hfz24_6
          try clear hfz24_7
          try clear hfz24_8
          try clear hfz24_9
          try clear hfz26_0
          try clear hfz26_1
          try clear hfz26_2
          try clear hfz26_3
          try clear hfz26_4
          try clear hfz37_0
          try clear hfz37_1
          try clear hfz37_2
          try clear hfz37_3
          try clear hfz41_0
          try clear hfz41_1
          try clear hfz41_2
          try clear hfz41_3
          try clear hfz49_0
          try clear hfz49_1
          try clear hfz49_10
          try clear hfz49_11
          try clear hfz49_12
          try clear hfz49_13
          try clear hfz49_2
          try clear hfz49_3
          try clear hfz49_4
          try clear hfz49_5
          try clear hfz49_6
          try clear hfz49_7
          try clear hfz49_8
          try clear hfz49_9
          try clear hfz56_0
          try clear hfz56_1
          try clear hfz56_10
          try clear hfz56_11
          try clear hfz56_12
          try clear hfz56_13
          try clear hfz56_2
          try clear hfz56_3
          try clear hfz56_4
          try clear hfz56_5
          try clear hfz56_6
          try clear hfz56_7
          try clear hfz56_8
          try clear hfz56_9
          try clear hfz64_0
          try clear hfz64_1
          try clear hfz64_2
          try clear hfz64_3
          try clear hfz68_0
          try clear hfz68_1
          try clear hfz68_2
          try clear hfz68_3
          try clear hfz72_0
          try clear hfz72_1
          try clear hfz72_2
          try clear hfz72_3
          try clear hfz79_0
          try clear hfz79_1
          try clear hfz79_10
          try clear hfz79_11
          try clear hfz79_12
          try clear hfz79_13
          try clear hfz79_2
          try clear hfz79_3
          try clear hfz79_4
          try clear hfz79_5
          try clear hfz79_6
          try clear hfz79_7
          try clear hfz79_8
          try clear hfz79_9
          try clear hfz84_0
          try clear hfz84_1
          try clear hfz84_10
          try clear hfz84_11
          try clear hfz84_12
          try clear hfz84_13
          try clear hfz84_2
          try clear hfz84_3
          try clear hfz84_4
          try clear hfz84_5
          try clear hfz84_6
          try clear hfz84_7
          try clear hfz84_8
          try clear hfz84_9
          try clear hfz88_0
          try clear hfz88_1
          try clear hfz88_10
          try clear hfz88_11
          try clear hfz88_12
          try clear hfz88_13
          try clear hfz88_2
          try clear hfz88_3
          try clear hfz88_4
          try clear hfz88_5
          try clear hfz88_6
          try clear hfz88_7
          try clear hfz88_8
          try clear hfz88_9
          try clear hfz93_0
          try clear hfz93_1
          try clear hfz93_10
          try clear hfz93_11
          try clear hfz93_12
          try clear hfz93_13
          try clear hfz93_2
          try clear hfz93_3
          try clear hfz93_4
          try clear hfz93_5
          try clear hfz93_6
          try clear hfz93_7
          try clear hfz93_8
          try clear hfz93_9
          try clear hfz98_0
          try clear hfz98_1
          try clear hfz98_10
          try clear hfz98_11
          try clear hfz98_12
          try clear hfz98_13
          try clear hfz98_2
          try clear hfz98_3
          try clear hfz98_4
          try clear hfz98_5
          try clear hfz98_6
          try clear hfz98_7
          try clear hfz98_8
          try clear hfz98_9
          try clear hx201_0
          try clear hx201_1
          try clear hx201_2
          try clear hx201_3
          try clear hx202_0
          try clear hx202_1
          try clear hx202_2
          try clear hx202_3
          try clear p2
          try clear p20
          try clear p201
          try clear p202
          try clear p6
          try clear p64
          try clear q2
          try clear q20
          try clear q201
          try clear q202
          obtain ⟨kq, x107_72, rfl, HA, HJ72, HO_49, ba0, ba1, bag, BK176, BK194, BK203, BK221, HB⟩ := hcut
          cases kq with
          | zero => exact absurd HA.out (by simp [storagebarterlaw29_SlotDrops.j4])
          | succ kj72 =>
           have H := HA.out
           clear HA
           simp only [storagebarterlaw29_SlotDrops.j4] at H
           by_cases c103 : x107_72 = true
           case pos =>
            subst c103
            have H1 : (some false) = some r := by rw [if_pos rfl] at H; exact H
            clear H
            have H := H1
            clear H1
            exact absurd (Option.some.inj H) (by rw [HRT_.out]; decide)
           replace c103 := Bool.eq_false_iff.mpr c103
           subst c103
           have H1 : (if ((rd_T36 t195 (ji10)).f2) = t168 then (if x11_41 = true then ((slot_Kept.f t204 t205 t206 t207 t208 t211 t212 t213 t214 t215 t216 t217 t218 t219 t169).bind fun t222 => (if t222 = true then (some false) else (storagebarterlaw29_SlotDrops.l0 kj72 ji10 ((rd_T36 t195 (ji10)).f2) x11_41 t195 (t195.length : Int) (wrap64 (x51_1 + 1)) t168 t169 t170 t171 t172 t204 t205 t206 t207 t208 t211 t212 t213 t214 t215 t216 t217 t218 t219))) else (storagebarterlaw29_SlotDrops.l0 kj72 ji10 ((rd_T36 t195 (ji10)).f2) x11_41 t195 (t195.length : Int) (wrap64 (x51_1 + 1)) t168 t169 t170 t171 t172 t204 t205 t206 t207 t208 t211 t212 t213 t214 t215 t216 t217 t218 t219)) else (if x11_41 = true then ((slot_Kept.f t204 t205 t206 t207 t208 t211 t212 t213 t214 t215 t216 t217 t218 t219 t168).bind fun t223 => (if t223 = true then (some false) else (storagebarterlaw29_SlotDrops.l0 kj72 ji10 ((rd_T36 t195 (ji10)).f2) x11_41 t195 (t195.length : Int) (wrap64 (x51_1 + 1)) t168 t169 t170 t171 t172 t204 t205 t206 t207 t208 t211 t212 t213 t214 t215 t216 t217 t218 t219))) else (storagebarterlaw29_SlotDrops.l0 kj72 ji10 ((rd_T36 t195 (ji10)).f2) x11_41 t195 (t195.length : Int) (wrap64 (x51_1 + 1)) t168 t169 t170 t171 t172 t204 t205 t206 t207 t208 t211 t212 t213 t214 t215 t216 t217 t218 t219))) = some r := by rw [if_neg (show ¬ (false = true) by decide)] at H; exact H
           clear H
           have H := H1
           clear H1
           by_cases c104 : ((rd_T36 t195 (ji10)).f2) = t168
           case neg =>
            rw [if_neg c104] at H
            have c104b0 : (((rd_T36 t195 (ji10)).f2) == t168) = false := beq_eq_false_iff_ne.mpr c104
            have c104b1 : (((rd_T36 t195 (ji10)).f2) != t168) = true := bne_iff_ne.mpr c104
            by_cases c128 : x11_41 = true
            case pos =>
             subst c128
             have H1 : ((slot_Kept.f t204 t205 t206 t207 t208 t211 t212 t213 t214 t215 t216 t217 t218 t219 t168).bind fun t223 => (if t223 = true then (some false) else (storagebarterlaw29_SlotDrops.l0 kj72 ji10 ((rd_T36 t195 (ji10)).f2) true t195 (t195.length : Int) (wrap64 (x51_1 + 1)) t168 t169 t170 t171 t172 t204 t205 t206 t207 t208 t211 t212 t213 t214 t215 t216 t217 t218 t219))) = some r := by rw [if_pos rfl] at H; exact H
             clear H
             have H := H1
             clear H1
             replace H := Option.bind_eq_some_iff.mp H
             obtain ⟨t223, A1290, H⟩ := H
             replace H : (if t223 = true then (some false) else (storagebarterlaw29_SlotDrops.l0 kj72 ji10 ((rd_T36 t195 (ji10)).f2) true t195 (t195.length : Int) (wrap64 (x51_1 + 1)) t168 t169 t170 t171 t172 t204 t205 t206 t207 t208 t211 t212 t213 t214 t215 t216 t217 t218 t219)) = some r := H
             have A129 := Aside0.mk A1290
             clear A1290
             by_cases c130 : t223 = true
             case pos =>
              subst c130
              have H1 : (some false) = some r := by rw [if_pos rfl] at H; exact H
              clear H
              have H := H1
              clear H1
              exact absurd (Option.some.inj H) (by rw [HRT_.out]; decide)
             replace c130 := Bool.eq_false_iff.mpr c130
             subst c130
             have H1 : (storagebarterlaw29_SlotDrops.l0 kj72 ji10 ((rd_T36 t195 (ji10)).f2) true t195 (t195.length : Int) (wrap64 (x51_1 + 1)) t168 t169 t170 t171 t172 t204 t205 t206 t207 t208 t211 t212 t213 t214 t215 t216 t217 t218 t219) = some r := by rw [if_neg (show ¬ (false = true) by decide)] at H; exact H
             clear H
             have H := H1
             clear H1
             have H' := Aside0.mk H
             clear H
             have hnb131 := NB176_194.out
             have hnc131 := NB194_176.out
             have hnb132 := NB176_203.out
             have hnc132 := NB203_176.out
             have hnb133 := NB176_221.out
             have hnc133 := NB221_176.out
             have hcz134_0 : wc.cell? ⟨gb176, 0, none⟩ = some (.int .i64 t168) := (blk_cell BK176.out 0).trans rfl
             have hcz134_1 : wc.cell? ⟨gb176, 1, none⟩ = some (.int .i64 t169) := (blk_cell BK176.out 1).trans rfl
             have hcz134_2 : wc.cell? ⟨gb176, 2, none⟩ = some (.int .i64 t170) := (blk_cell BK176.out 2).trans rfl
             have hcz134_3 : wc.cell? ⟨gb176, 3, none⟩ = some (.int .i64 t171) := (blk_cell BK176.out 3).trans rfl
             have hcz134_4 : wc.cell? ⟨gb176, 4, none⟩ = some (.slice Ao19 t172.length co19) := (blk_cell BK176.out 4).trans rfl
             have hfz134_0 := blk_frozen BK176.out 0
             have hfz134_1 := blk_frozen BK176.out 1
             have hfz134_2 := blk_frozen BK176.out 2
             have hfz134_3 := blk_frozen BK176.out 3
             have hfz134_4 := blk_frozen BK176.out 4
             have hnb135 := NB221_194.out
             have hnc135 := NB194_221.out
             have hnb136 := NB221_203.out
             have hnc136 := NB203_221.out
             have hcz137_0 : wc.cell? ⟨gb221, 0, none⟩ = some (.int .i64 t204) := (blk_cell BK221.out 0).trans rfl
             have hcz137_1 : wc.cell? ⟨gb221, 1, none⟩ = some (.int .i64 t205) := (blk_cell BK221.out 1).trans rfl
             have hcz137_2 : wc.cell? ⟨gb221, 2, none⟩ = some (.int .i64 t206) := (blk_cell BK221.out 2).trans rfl
             have hcz137_3 : wc.cell? ⟨gb221, 3, none⟩ = some (.int .i64 t207) := (blk_cell BK221.out 3).trans rfl
             have hcz137_4 : wc.cell? ⟨gb221, 4, none⟩ = some (.slice Ao57 t208.length co57) := (blk_cell BK221.out 4).trans rfl
             have hcz137_5 : wc.cell? ⟨gb221, 5, none⟩ = some (.int .i64 t211) := (blk_cell BK221.out 5).trans rfl
             have hcz137_6 : wc.cell? ⟨gb221, 6, none⟩ = some (.int .i64 t212) := (blk_cell BK221.out 6).trans rfl
             have hcz137_7 : wc.cell? ⟨gb221, 7, none⟩ = some (.int .i64 t213) := (blk_cell BK221.out 7).trans rfl
             have hcz137_8 : wc.cell? ⟨gb221, 8, none⟩ = some (.bool t214) := (blk_cell BK221.out 8).trans rfl
             have hcz137_9 : wc.cell? ⟨gb221, 9, none⟩ = some (.bool t215) := (blk_cell BK221.out 9).trans rfl
             have hcz137_10 : wc.cell? ⟨gb221, 10, none⟩ = some (.bool t216) := (blk_cell BK221.out 10).trans rfl
             have hcz137_11 : wc.cell? ⟨gb221, 11, none⟩ = some (.bool t217) := (blk_cell BK221.out 11).trans rfl
             have hcz137_12 : wc.cell? ⟨gb221, 12, none⟩ = some (.bool t218) := (blk_cell BK221.out 12).trans rfl
             have hcz137_13 : wc.cell? ⟨gb221, 13, none⟩ = some (.int .i64 t219) := (blk_cell BK221.out 13).trans rfl
             have hfz137_0 := blk_frozen BK221.out 0
             have hfz137_1 := blk_frozen BK221.out 1
             have hfz137_2 := blk_frozen BK221.out 2
             have hfz137_3 := blk_frozen BK221.out 3
             have hfz137_4 := blk_frozen BK221.out 4
             have hfz137_5 := blk_frozen BK221.out 5
             have hfz137_6 := blk_frozen BK221.out 6
             have hfz137_7 := blk_frozen BK221.out 7
             have hfz137_8 := blk_frozen BK221.out 8
             have hfz137_9 := blk_frozen BK221.out 9
             have hfz137_10 := blk_frozen BK221.out 10
             have hfz137_11 := blk_frozen BK221.out 11
             have hfz137_12 := blk_frozen BK221.out 12
             have hfz137_13 := blk_frozen BK221.out 13
             go_wp2_with (first | (go_at_call 42; (with_reducible refine (slot_Kept.calls t204 t205 t206 t207 _ _ t208 t211 t212 t213 t214 t215 t216 t217 t218 t219 t168 false _ ?side1 ?side2 A129.out).mono ?_); (case side1 => repeat (first | exact (Kd.R_reads' bag.out).2.2 | (with_reducible refine Kd.C_alloc ?_ _) | (with_reducible refine Kd.C_drewN ?_ _) | (with_reducible refine Kd.C_drew ?_))); (case side2 => exact (Kd.R_reads' bag.out).2.1); rintro e w138 ⟨rfl, hb⟩; have n0_ := Aside0.mk (Kd.R_below (R_up HO_49.out) hb); have n1_ := Aside0.mk (Kd.R_below (R_up ba0.out) hb); have n2_ := Aside0.mk (Kd.R_below (R_up ba1.out) hb); have n3_ := Aside0.mk (Kd.R_below (R_up bag.out) hb); have n4_ := Aside0.mk (blk_below (g := gb176) (blk_up BK176.out) hb); have n5_ := Aside0.mk (blk_below (g := gb194) (blk_up BK194.out) hb); have n6_ := Aside0.mk (blk_below (g := gb203) (blk_up BK203.out) hb); have n7_ := Aside0.mk (blk_below (g := gb221) (blk_up BK221.out) hb); have n8_ := Aside0.mk (below_step (by repeat (first | (with_reducible first | exact HB.out | apply below_alloc | apply pw_below_drewN | apply below_drew1 | refine below_set ?_ GE176.out | refine below_set ?_ GE194.out | refine below_set ?_ GE203.out | refine below_set ?_ GE221.out) | exact HB.out)) hb); clear HO_49; clear ba0; clear ba1; clear bag; clear BK176; clear BK194; clear BK203; clear BK221; clear HB; have HO_49 := n0_; have ba0 := n1_; have ba1 := n2_; have bag := n3_; have BK176 := n4_; have BK194 := n5_; have BK203 := n6_; have BK221 := n7_; have HB := n8_; clear n0_ n1_ n2_ n3_ n4_ n5_ n6_ n7_ n8_; (try clear hb); (try clear hb2); (try clear hk); (try clear hi); (try clear hgw); have hcz139_0 : w138.cell? ⟨gb221, 0, none⟩ = some (.int .i64 t204) := (blk_cell BK221.out 0).trans rfl; have hcz139_1 : w138.cell? ⟨gb221, 1, none⟩ = some (.int .i64 t205) := (blk_cell BK221.out 1).trans rfl; have hcz139_2 : w138.cell? ⟨gb221, 2, none⟩ = some (.int .i64 t206) := (blk_cell BK221.out 2).trans rfl; have hcz139_3 : w138.cell? ⟨gb221, 3, none⟩ = some (.int .i64 t207) := (blk_cell BK221.out 3).trans rfl; have hcz139_4 : w138.cell? ⟨gb221, 4, none⟩ = some (.slice Ao57 t208.length co57) := (blk_cell BK221.out 4).trans rfl; have hcz139_5 : w138.cell? ⟨gb221, 5, none⟩ = some (.int .i64 t211) := (blk_cell BK221.out 5).trans rfl; have hcz139_6 : w138.cell? ⟨gb221, 6, none⟩ = some (.int .i64 t212) := (blk_cell BK221.out 6).trans rfl; have hcz139_7 : w138.cell? ⟨gb221, 7, none⟩ = some (.int .i64 t213) := (blk_cell BK221.out 7).trans rfl; have hcz139_8 : w138.cell? ⟨gb221, 8, none⟩ = some (.bool t214) := (blk_cell BK221.out 8).trans rfl; have hcz139_9 : w138.cell? ⟨gb221, 9, none⟩ = some (.bool t215) := (blk_cell BK221.out 9).trans rfl; have hcz139_10 : w138.cell? ⟨gb221, 10, none⟩ = some (.bool t216) := (blk_cell BK221.out 10).trans rfl; have hcz139_11 : w138.cell? ⟨gb221, 11, none⟩ = some (.bool t217) := (blk_cell BK221.out 11).trans rfl; have hcz139_12 : w138.cell? ⟨gb221, 12, none⟩ = some (.bool t218) := (blk_cell BK221.out 12).trans rfl; have hcz139_13 : w138.cell? ⟨gb221, 13, none⟩ = some (.int .i64 t219) := (blk_cell BK221.out 13).trans rfl; have hfz139_0 := blk_frozen BK221.out 0; have hfz139_1 := blk_frozen BK221.out 1; have hfz139_2 := blk_frozen BK221.out 2; have hfz139_3 := blk_frozen BK221.out 3; have hfz139_4 := blk_frozen BK221.out 4; have hfz139_5 := blk_frozen BK221.out 5; have hfz139_6 := blk_frozen BK221.out 6; have hfz139_7 := blk_frozen BK221.out 7; have hfz139_8 := blk_frozen BK221.out 8; have hfz139_9 := blk_frozen BK221.out 9; have hfz139_10 := blk_frozen BK221.out 10; have hfz139_11 := blk_frozen BK221.out 11; have hfz139_12 := blk_frozen BK221.out 12; have hfz139_13 := blk_frozen BK221.out 13; have hnb140 := NB194_203.out; have hnc140 := NB203_194.out; have hcz141_0 : w138.cell? ⟨gb194, 0, none⟩ = some (.int .i64 ba4) := (blk_cell BK194.out 0).trans rfl; have hcz141_1 : w138.cell? ⟨gb194, 1, none⟩ = some (.int .i64 ba5) := (blk_cell BK194.out 1).trans rfl; have hcz141_2 : w138.cell? ⟨gb194, 2, none⟩ = some (.int .i64 ba6) := (blk_cell BK194.out 2).trans rfl; have hcz141_3 : w138.cell? ⟨gb194, 3, none⟩ = some (.int .i64 ba7) := (blk_cell BK194.out 3).trans rfl; have hcz141_4 : w138.cell? ⟨gb194, 4, none⟩ = some (.slice Ao50 ba3.length co50) := (blk_cell BK194.out 4).trans rfl; have hcz141_5 : w138.cell? ⟨gb194, 5, none⟩ = some (.int .i64 ba8) := (blk_cell BK194.out 5).trans rfl; have hcz141_6 : w138.cell? ⟨gb194, 6, none⟩ = some (.int .i64 ba9) := (blk_cell BK194.out 6).trans rfl; have hcz141_7 : w138.cell? ⟨gb194, 7, none⟩ = some (.int .i64 baa) := (blk_cell BK194.out 7).trans rfl; have hcz141_8 : w138.cell? ⟨gb194, 8, none⟩ = some (.bool bab) := (blk_cell BK194.out 8).trans rfl; have hcz141_9 : w138.cell? ⟨gb194, 9, none⟩ = some (.bool bac) := (blk_cell BK194.out 9).trans rfl; have hcz141_10 : w138.cell? ⟨gb194, 10, none⟩ = some (.bool bad) := (blk_cell BK194.out 10).trans rfl; have hcz141_11 : w138.cell? ⟨gb194, 11, none⟩ = some (.bool bae) := (blk_cell BK194.out 11).trans rfl; have hcz141_12 : w138.cell? ⟨gb194, 12, none⟩ = some (.bool ba2) := (blk_cell BK194.out 12).trans rfl; have hcz141_13 : w138.cell? ⟨gb194, 13, none⟩ = some (.int .i64 baf) := (blk_cell BK194.out 13).trans rfl; have hfz141_0 := blk_frozen BK194.out 0; have hfz141_1 := blk_frozen BK194.out 1; have hfz141_2 := blk_frozen BK194.out 2; have hfz141_3 := blk_frozen BK194.out 3; have hfz141_4 := blk_frozen BK194.out 4; have hfz141_5 := blk_frozen BK194.out 5; have hfz141_6 := blk_frozen BK194.out 6; have hfz141_7 := blk_frozen BK194.out 7; have hfz141_8 := blk_frozen BK194.out 8; have hfz141_9 := blk_frozen BK194.out 9; have hfz141_10 := blk_frozen BK194.out 10; have hfz141_11 := blk_frozen BK194.out 11; have hfz141_12 := blk_frozen BK194.out 12; have hfz141_13 := blk_frozen BK194.out 13))
             go_roundg kj72
             case measure => have := HK1.out; have := HJ32.out; have := HJ41.out; have := HJ45.out; have := HJ72.out; omega
             case rel => exact ⟨(true), (wrap64 (x51_1 + 1)), (t204), (t205), (t206), (t207), (t208), (t211), (t212), (t213), (t214), (t215), (t216), (t217), (t218), (t219), (.slice Ao57 t208.length co57), (by first | rfl | (simp; done) | (simp [*]; done)), (by first | rfl | (simp; done) | (simp [*]; done)), H', ⟨by have := HK1.out; have := HJ32.out; have := HJ41.out; have := HJ45.out; have := HJ72.out; omega⟩, ⟨by (with_reducible repeat (first | apply Kd.R_alloc | apply Kd.R_drewN | apply Kd.R_drew)); exact Kd.R_mono (Kd.R_far (p := ⟨gb194, 13, none⟩) (Kd.R_far (p := ⟨gb194, 12, none⟩) (Kd.R_far (p := ⟨gb194, 11, none⟩) (Kd.R_far (p := ⟨gb194, 10, none⟩) (Kd.R_far (p := ⟨gb194, 9, none⟩) (Kd.R_far (p := ⟨gb194, 8, none⟩) (Kd.R_far (p := ⟨gb194, 7, none⟩) (Kd.R_far (p := ⟨gb194, 6, none⟩) (Kd.R_far (p := ⟨gb194, 5, none⟩) (Kd.R_far (p := ⟨gb194, 4, none⟩) (Kd.R_far (p := ⟨gb194, 3, none⟩) (Kd.R_far (p := ⟨gb194, 2, none⟩) (Kd.R_far (p := ⟨gb194, 1, none⟩) (Kd.R_far (p := ⟨gb194, 0, none⟩) (Kd.R_types HO_49.out BK194.out (by decide)) (fun _ hk => hk.2) (.int .i64 t204)) (fun _ hk => hk.2) (.int .i64 t205)) (fun _ hk => hk.2) (.int .i64 t206)) (fun _ hk => hk.2) (.int .i64 t207)) (fun _ hk => hk.2) (.slice Ao57 t208.length co57)) (fun _ hk => hk.2) (.int .i64 t211)) (fun _ hk => hk.2) (.int .i64 t212)) (fun _ hk => hk.2) (.int .i64 t213)) (fun _ hk => hk.2) (.bool t214)) (fun _ hk => hk.2) (.bool t215)) (fun _ hk => hk.2) (.bool t216)) (fun _ hk => hk.2) (.bool t217)) (fun _ hk => hk.2) (.bool t218)) (fun _ hk => hk.2) (.int .i64 t219)) (fun _ hk => trivial)⟩, ⟨by (with_reducible repeat (first | apply Kd.R_alloc | apply Kd.R_drewN | apply Kd.R_drew)); exact Kd.R_mono (Kd.R_far (p := ⟨gb194, 13, none⟩) (Kd.R_far (p := ⟨gb194, 12, none⟩) (Kd.R_far (p := ⟨gb194, 11, none⟩) (Kd.R_far (p := ⟨gb194, 10, none⟩) (Kd.R_far (p := ⟨gb194, 9, none⟩) (Kd.R_far (p := ⟨gb194, 8, none⟩) (Kd.R_far (p := ⟨gb194, 7, none⟩) (Kd.R_far (p := ⟨gb194, 6, none⟩) (Kd.R_far (p := ⟨gb194, 5, none⟩) (Kd.R_far (p := ⟨gb194, 4, none⟩) (Kd.R_far (p := ⟨gb194, 3, none⟩) (Kd.R_far (p := ⟨gb194, 2, none⟩) (Kd.R_far (p := ⟨gb194, 1, none⟩) (Kd.R_far (p := ⟨gb194, 0, none⟩) (Kd.R_types ba0.out BK194.out (by decide)) (fun _ hk => hk.2) (.int .i64 t204)) (fun _ hk => hk.2) (.int .i64 t205)) (fun _ hk => hk.2) (.int .i64 t206)) (fun _ hk => hk.2) (.int .i64 t207)) (fun _ hk => hk.2) (.slice Ao57 t208.length co57)) (fun _ hk => hk.2) (.int .i64 t211)) (fun _ hk => hk.2) (.int .i64 t212)) (fun _ hk => hk.2) (.int .i64 t213)) (fun _ hk => hk.2) (.bool t214)) (fun _ hk => hk.2) (.bool t215)) (fun _ hk => hk.2) (.bool t216)) (fun _ hk => hk.2) (.bool t217)) (fun _ hk => hk.2) (.bool t218)) (fun _ hk => hk.2) (.int .i64 t219)) (fun _ hk => hk.1.2)⟩, ⟨by (with_reducible repeat (first | apply Kd.R_alloc | apply Kd.R_drewN | apply Kd.R_drew)); exact Kd.R_mono (Kd.R_far (p := ⟨gb194, 13, none⟩) (Kd.R_far (p := ⟨gb194, 12, none⟩) (Kd.R_far (p := ⟨gb194, 11, none⟩) (Kd.R_far (p := ⟨gb194, 10, none⟩) (Kd.R_far (p := ⟨gb194, 9, none⟩) (Kd.R_far (p := ⟨gb194, 8, none⟩) (Kd.R_far (p := ⟨gb194, 7, none⟩) (Kd.R_far (p := ⟨gb194, 6, none⟩) (Kd.R_far (p := ⟨gb194, 5, none⟩) (Kd.R_far (p := ⟨gb194, 4, none⟩) (Kd.R_far (p := ⟨gb194, 3, none⟩) (Kd.R_far (p := ⟨gb194, 2, none⟩) (Kd.R_far (p := ⟨gb194, 1, none⟩) (Kd.R_far (p := ⟨gb194, 0, none⟩) (Kd.R_types bag.out BK194.out (by decide)) (fun _ hk => hk.2) (.int .i64 t204)) (fun _ hk => hk.2) (.int .i64 t205)) (fun _ hk => hk.2) (.int .i64 t206)) (fun _ hk => hk.2) (.int .i64 t207)) (fun _ hk => hk.2) (.slice Ao57 t208.length co57)) (fun _ hk => hk.2) (.int .i64 t211)) (fun _ hk => hk.2) (.int .i64 t212)) (fun _ hk => hk.2) (.int .i64 t213)) (fun _ hk => hk.2) (.bool t214)) (fun _ hk => hk.2) (.bool t215)) (fun _ hk => hk.2) (.bool t216)) (fun _ hk => hk.2) (.bool t217)) (fun _ hk => hk.2) (.bool t218)) (fun _ hk => hk.2) (.int .i64 t219)) (fun _ hk => hk.1.1)⟩, ⟨by (with_reducible repeat (first | refine blk_drewN ?_ _ | refine blk_drew ?_ | refine blk_alloc ?_ _)); refine blk_far14 ?_ NB176_194.out _ _ _ _ _ _ _ _ _ _ _ _ _ _; (with_reducible repeat (first | refine blk_drewN ?_ _ | refine blk_drew ?_ | refine blk_alloc ?_ _)); exact BK176.out⟩, ⟨by (with_reducible repeat (first | refine blk_drewN ?_ _ | refine blk_drew ?_ | refine blk_alloc ?_ _)); first | exact blk_all14 BK194.out _ _ _ _ _ _ _ _ _ _ _ _ _ _ | exact blk_all14 (blk_up BK194.out) _ _ _ _ _ _ _ _ _ _ _ _ _ _⟩, ⟨by repeat (first | (with_reducible first | exact HB.out | apply below_alloc | apply pw_below_drewN | apply below_drew1 | refine below_set ?_ GE176.out | refine below_set ?_ GE194.out | refine below_set ?_ GE203.out | refine below_set ?_ GE221.out) | exact HB.out)⟩⟩
            replace c128 := Bool.eq_false_iff.mpr c128
            subst c128
            have H1 : (storagebarterlaw29_SlotDrops.l0 kj72 ji10 ((rd_T36 t195 (ji10)).f2) false t195 (t195.length : Int) (wrap64 (x51_1 + 1)) t168 t169 t170 t171 t172 t204 t205 t206 t207 t208 t211 t212 t213 t214 t215 t216 t217 t218 t219) = some r := by rw [if_neg (show ¬ (false = true) by decide)] at H; exact H
            clear H
            have H := H1
            clear H1
            have H' := Aside0.mk H
            clear H
            have hnb142 := NB176_194.out
            have hnc142 := NB194_176.out
            have hnb143 := NB176_203.out
            have hnc143 := NB203_176.out
            have hnb144 := NB176_221.out
            have hnc144 := NB221_176.out
            have hcz145_0 : wc.cell? ⟨gb176, 0, none⟩ = some (.int .i64 t168) := (blk_cell BK176.out 0).trans rfl
            have hcz145_1 : wc.cell? ⟨gb176, 1, none⟩ = some (.int .i64 t169) := (blk_cell BK176.out 1).trans rfl
            have hcz145_2 : wc.cell? ⟨gb176, 2, none⟩ = some (.int .i64 t170) := (blk_cell BK176.out 2).trans rfl
            have hcz145_3 : wc.cell? ⟨gb176, 3, none⟩ = some (.int .i64 t171) := (blk_cell BK176.out 3).trans rfl
            have hcz145_4 : wc.cell? ⟨gb176, 4, none⟩ = some (.slice Ao19 t172.length co19) := (blk_cell BK176.out 4).trans rfl
            have hfz145_0 := blk_frozen BK176.out 0
            have hfz145_1 := blk_frozen BK176.out 1
            have hfz145_2 := blk_frozen BK176.out 2
            have hfz145_3 := blk_frozen BK176.out 3
            have hfz145_4 := blk_frozen BK176.out 4
            have hnb146 := NB221_194.out
            have hnc146 := NB194_221.out
            have hnb147 := NB221_203.out
            have hnc147 := NB203_221.out
            have hcz148_0 : wc.cell? ⟨gb221, 0, none⟩ = some (.int .i64 t204) := (blk_cell BK221.out 0).trans rfl
            have hcz148_1 : wc.cell? ⟨gb221, 1, none⟩ = some (.int .i64 t205) := (blk_cell BK221.out 1).trans rfl
            have hcz148_2 : wc.cell? ⟨gb221, 2, none⟩ = some (.int .i64 t206) := (blk_cell BK221.out 2).trans rfl
            have hcz148_3 : wc.cell? ⟨gb221, 3, none⟩ = some (.int .i64 t207) := (blk_cell BK221.out 3).trans rfl
            have hcz148_4 : wc.cell? ⟨gb221, 4, none⟩ = some (.slice Ao57 t208.length co57) := (blk_cell BK221.out 4).trans rfl
            have hcz148_5 : wc.cell? ⟨gb221, 5, none⟩ = some (.int .i64 t211) := (blk_cell BK221.out 5).trans rfl
            have hcz148_6 : wc.cell? ⟨gb221, 6, none⟩ = some (.int .i64 t212) := (blk_cell BK221.out 6).trans rfl
            have hcz148_7 : wc.cell? ⟨gb221, 7, none⟩ = some (.int .i64 t213) := (blk_cell BK221.out 7).trans rfl
            have hcz148_8 : wc.cell? ⟨gb221, 8, none⟩ = some (.bool t214) := (blk_cell BK221.out 8).trans rfl
            have hcz148_9 : wc.cell? ⟨gb221, 9, none⟩ = some (.bool t215) := (blk_cell BK221.out 9).trans rfl
            have hcz148_10 : wc.cell? ⟨gb221, 10, none⟩ = some (.bool t216) := (blk_cell BK221.out 10).trans rfl
            have hcz148_11 : wc.cell? ⟨gb221, 11, none⟩ = some (.bool t217) := (blk_cell BK221.out 11).trans rfl
            have hcz148_12 : wc.cell? ⟨gb221, 12, none⟩ = some (.bool t218) := (blk_cell BK221.out 12).trans rfl
            have hcz148_13 : wc.cell? ⟨gb221, 13, none⟩ = some (.int .i64 t219) := (blk_cell BK221.out 13).trans rfl
            have hfz148_0 := blk_frozen BK221.out 0
            have hfz148_1 := blk_frozen BK221.out 1
            have hfz148_2 := blk_frozen BK221.out 2
            have hfz148_3 := blk_frozen BK221.out 3
            have hfz148_4 := blk_frozen BK221.out 4
            have hfz148_5 := blk_frozen BK221.out 5
            have hfz148_6 := blk_frozen BK221.out 6
            have hfz148_7 := blk_frozen BK221.out 7
            have hfz148_8 := blk_frozen BK221.out 8
            have hfz148_9 := blk_frozen BK221.out 9
            have hfz148_10 := blk_frozen BK221.out 10
            have hfz148_11 := blk_frozen BK221.out 11
            have hfz148_12 := blk_frozen BK221.out 12
            have hfz148_13 := blk_frozen BK221.out 13
            have hnb149 := NB194_203.out
            have hnc149 := NB203_194.out
            have hcz150_0 : wc.cell? ⟨gb194, 0, none⟩ = some (.int .i64 ba4) := (blk_cell BK194.out 0).trans rfl
            have hcz150_1 : wc.cell? ⟨gb194, 1, none⟩ = some (.int .i64 ba5) := (blk_cell BK194.out 1).trans rfl
            have hcz150_2 : wc.cell? ⟨gb194, 2, none⟩ = some (.int .i64 ba6) := (blk_cell BK194.out 2).trans rfl
            have hcz150_3 : wc.cell? ⟨gb194, 3, none⟩ = some (.int .i64 ba7) := (blk_cell BK194.out 3).trans rfl
            have hcz150_4 : wc.cell? ⟨gb194, 4, none⟩ = some (.slice Ao50 ba3.length co50) := (blk_cell BK194.out 4).trans rfl
            have hcz150_5 : wc.cell? ⟨gb194, 5, none⟩ = some (.int .i64 ba8) := (blk_cell BK194.out 5).trans rfl
            have hcz150_6 : wc.cell? ⟨gb194, 6, none⟩ = some (.int .i64 ba9) := (blk_cell BK194.out 6).trans rfl
            have hcz150_7 : wc.cell? ⟨gb194, 7, none⟩ = some (.int .i64 baa) := (blk_cell BK194.out 7).trans rfl
            have hcz150_8 : wc.cell? ⟨gb194, 8, none⟩ = some (.bool bab) := (blk_cell BK194.out 8).trans rfl
            have hcz150_9 : wc.cell? ⟨gb194, 9, none⟩ = some (.bool bac) := (blk_cell BK194.out 9).trans rfl
            have hcz150_10 : wc.cell? ⟨gb194, 10, none⟩ = some (.bool bad) := (blk_cell BK194.out 10).trans rfl
            have hcz150_11 : wc.cell? ⟨gb194, 11, none⟩ = some (.bool bae) := (blk_cell BK194.out 11).trans rfl
            have hcz150_12 : wc.cell? ⟨gb194, 12, none⟩ = some (.bool ba2) := (blk_cell BK194.out 12).trans rfl
            have hcz150_13 : wc.cell? ⟨gb194, 13, none⟩ = some (.int .i64 baf) := (blk_cell BK194.out 13).trans rfl
            have hfz150_0 := blk_frozen BK194.out 0
            have hfz150_1 := blk_frozen BK194.out 1
            have hfz150_2 := blk_frozen BK194.out 2
            have hfz150_3 := blk_frozen BK194.out 3
            have hfz150_4 := blk_frozen BK194.out 4
            have hfz150_5 := blk_frozen BK194.out 5
            have hfz150_6 := blk_frozen BK194.out 6
            have hfz150_7 := blk_frozen BK194.out 7
            have hfz150_8 := blk_frozen BK194.out 8
            have hfz150_9 := blk_frozen BK194.out 9
            have hfz150_10 := blk_frozen BK194.out 10
            have hfz150_11 := blk_frozen BK194.out 11
            have hfz150_12 := blk_frozen BK194.out 12
            have hfz150_13 := blk_frozen BK194.out 13
            go_wp2
            go_roundg kj72
            case measure => have := HK1.out; have := HJ32.out; have := HJ41.out; have := HJ45.out; have := HJ72.out; omega
            case rel => exact ⟨(false), (wrap64 (x51_1 + 1)), (t204), (t205), (t206), (t207), (t208), (t211), (t212), (t213), (t214), (t215), (t216), (t217), (t218), (t219), (.slice Ao57 t208.length co57), (by first | rfl | (simp; done) | (simp [*]; done)), (by first | rfl | (simp; done) | (simp [*]; done)), H', ⟨by have := HK1.out; have := HJ32.out; have := HJ41.out; have := HJ45.out; have := HJ72.out; omega⟩, ⟨by (with_reducible repeat (first | apply Kd.R_alloc | apply Kd.R_drewN | apply Kd.R_drew)); exact Kd.R_mono (Kd.R_far (p := ⟨gb194, 13, none⟩) (Kd.R_far (p := ⟨gb194, 12, none⟩) (Kd.R_far (p := ⟨gb194, 11, none⟩) (Kd.R_far (p := ⟨gb194, 10, none⟩) (Kd.R_far (p := ⟨gb194, 9, none⟩) (Kd.R_far (p := ⟨gb194, 8, none⟩) (Kd.R_far (p := ⟨gb194, 7, none⟩) (Kd.R_far (p := ⟨gb194, 6, none⟩) (Kd.R_far (p := ⟨gb194, 5, none⟩) (Kd.R_far (p := ⟨gb194, 4, none⟩) (Kd.R_far (p := ⟨gb194, 3, none⟩) (Kd.R_far (p := ⟨gb194, 2, none⟩) (Kd.R_far (p := ⟨gb194, 1, none⟩) (Kd.R_far (p := ⟨gb194, 0, none⟩) (Kd.R_types HO_49.out BK194.out (by decide)) (fun _ hk => hk.2) (.int .i64 t204)) (fun _ hk => hk.2) (.int .i64 t205)) (fun _ hk => hk.2) (.int .i64 t206)) (fun _ hk => hk.2) (.int .i64 t207)) (fun _ hk => hk.2) (.slice Ao57 t208.length co57)) (fun _ hk => hk.2) (.int .i64 t211)) (fun _ hk => hk.2) (.int .i64 t212)) (fun _ hk => hk.2) (.int .i64 t213)) (fun _ hk => hk.2) (.bool t214)) (fun _ hk => hk.2) (.bool t215)) (fun _ hk => hk.2) (.bool t216)) (fun _ hk => hk.2) (.bool t217)) (fun _ hk => hk.2) (.bool t218)) (fun _ hk => hk.2) (.int .i64 t219)) (fun _ hk => trivial)⟩, ⟨by (with_reducible repeat (first | apply Kd.R_alloc | apply Kd.R_drewN | apply Kd.R_drew)); exact Kd.R_mono (Kd.R_far (p := ⟨gb194, 13, none⟩) (Kd.R_far (p := ⟨gb194, 12, none⟩) (Kd.R_far (p := ⟨gb194, 11, none⟩) (Kd.R_far (p := ⟨gb194, 10, none⟩) (Kd.R_far (p := ⟨gb194, 9, none⟩) (Kd.R_far (p := ⟨gb194, 8, none⟩) (Kd.R_far (p := ⟨gb194, 7, none⟩) (Kd.R_far (p := ⟨gb194, 6, none⟩) (Kd.R_far (p := ⟨gb194, 5, none⟩) (Kd.R_far (p := ⟨gb194, 4, none⟩) (Kd.R_far (p := ⟨gb194, 3, none⟩) (Kd.R_far (p := ⟨gb194, 2, none⟩) (Kd.R_far (p := ⟨gb194, 1, none⟩) (Kd.R_far (p := ⟨gb194, 0, none⟩) (Kd.R_types ba0.out BK194.out (by decide)) (fun _ hk => hk.2) (.int .i64 t204)) (fun _ hk => hk.2) (.int .i64 t205)) (fun _ hk => hk.2) (.int .i64 t206)) (fun _ hk => hk.2) (.int .i64 t207)) (fun _ hk => hk.2) (.slice Ao57 t208.length co57)) (fun _ hk => hk.2) (.int .i64 t211)) (fun _ hk => hk.2) (.int .i64 t212)) (fun _ hk => hk.2) (.int .i64 t213)) (fun _ hk => hk.2) (.bool t214)) (fun _ hk => hk.2) (.bool t215)) (fun _ hk => hk.2) (.bool t216)) (fun _ hk => hk.2) (.bool t217)) (fun _ hk => hk.2) (.bool t218)) (fun _ hk => hk.2) (.int .i64 t219)) (fun _ hk => hk.1.2)⟩, ⟨by (with_reducible repeat (first | apply Kd.R_alloc | apply Kd.R_drewN | apply Kd.R_drew)); exact Kd.R_mono (Kd.R_far (p := ⟨gb194, 13, none⟩) (Kd.R_far (p := ⟨gb194, 12, none⟩) (Kd.R_far (p := ⟨gb194, 11, none⟩) (Kd.R_far (p := ⟨gb194, 10, none⟩) (Kd.R_far (p := ⟨gb194, 9, none⟩) (Kd.R_far (p := ⟨gb194, 8, none⟩) (Kd.R_far (p := ⟨gb194, 7, none⟩) (Kd.R_far (p := ⟨gb194, 6, none⟩) (Kd.R_far (p := ⟨gb194, 5, none⟩) (Kd.R_far (p := ⟨gb194, 4, none⟩) (Kd.R_far (p := ⟨gb194, 3, none⟩) (Kd.R_far (p := ⟨gb194, 2, none⟩) (Kd.R_far (p := ⟨gb194, 1, none⟩) (Kd.R_far (p := ⟨gb194, 0, none⟩) (Kd.R_types bag.out BK194.out (by decide)) (fun _ hk => hk.2) (.int .i64 t204)) (fun _ hk => hk.2) (.int .i64 t205)) (fun _ hk => hk.2) (.int .i64 t206)) (fun _ hk => hk.2) (.int .i64 t207)) (fun _ hk => hk.2) (.slice Ao57 t208.length co57)) (fun _ hk => hk.2) (.int .i64 t211)) (fun _ hk => hk.2) (.int .i64 t212)) (fun _ hk => hk.2) (.int .i64 t213)) (fun _ hk => hk.2) (.bool t214)) (fun _ hk => hk.2) (.bool t215)) (fun _ hk => hk.2) (.bool t216)) (fun _ hk => hk.2) (.bool t217)) (fun _ hk => hk.2) (.bool t218)) (fun _ hk => hk.2) (.int .i64 t219)) (fun _ hk => hk.1.1)⟩, ⟨by (with_reducible repeat (first | refine blk_drewN ?_ _ | refine blk_drew ?_ | refine blk_alloc ?_ _)); refine blk_far14 ?_ NB176_194.out _ _ _ _ _ _ _ _ _ _ _ _ _ _; (with_reducible repeat (first | refine blk_drewN ?_ _ | refine blk_drew ?_ | refine blk_alloc ?_ _)); exact BK176.out⟩, ⟨by (with_reducible repeat (first | refine blk_drewN ?_ _ | refine blk_drew ?_ | refine blk_alloc ?_ _)); first | exact blk_all14 BK194.out _ _ _ _ _ _ _ _ _ _ _ _ _ _ | exact blk_all14 (blk_up BK194.out) _ _ _ _ _ _ _ _ _ _ _ _ _ _⟩, ⟨by repeat (first | (with_reducible first | exact HB.out | apply below_alloc | apply pw_below_drewN | apply below_drew1 | refine below_set ?_ GE176.out | refine below_set ?_ GE194.out | refine below_set ?_ GE203.out | refine below_set ?_ GE221.out) | exact HB.out)⟩⟩
           rw [if_pos c104] at H
           have c104b0 : (((rd_T36 t195 (ji10)).f2) == t168) = true := beq_iff_eq.mpr c104
           have c104b1 : (((rd_T36 t195 (ji10)).f2) != t168) = false := bne_eq_false_iff_eq.mpr c104
           clear c104
           by_cases c105 : x11_41 = true
           case pos =>
            subst c105
            have H1 : ((slot_Kept.f t204 t205 t206 t207 t208 t211 t212 t213 t214 t215 t216 t217 t218 t219 t169).bind fun t222 => (if t222 = true then (some false) else (storagebarterlaw29_SlotDrops.l0 kj72 ji10 ((rd_T36 t195 (ji10)).f2) true t195 (t195.length : Int) (wrap64 (x51_1 + 1)) t168 t169 t170 t171 t172 t204 t205 t206 t207 t208 t211 t212 t213 t214 t215 t216 t217 t218 t219))) = some r := by rw [if_pos rfl] at H; exact H
            clear H
            have H := H1
            clear H1
            replace H := Option.bind_eq_some_iff.mp H
            obtain ⟨t222, A1060, H⟩ := H
            replace H : (if t222 = true then (some false) else (storagebarterlaw29_SlotDrops.l0 kj72 ji10 ((rd_T36 t195 (ji10)).f2) true t195 (t195.length : Int) (wrap64 (x51_1 + 1)) t168 t169 t170 t171 t172 t204 t205 t206 t207 t208 t211 t212 t213 t214 t215 t216 t217 t218 t219)) = some r := H
            have A106 := Aside0.mk A1060
            clear A1060
            by_cases c107 : t222 = true
            case pos =>
             subst c107
             have H1 : (some false) = some r := by rw [if_pos rfl] at H; exact H
             clear H
             have H := H1
             clear H1
             exact absurd (Option.some.inj H) (by rw [HRT_.out]; decide)
            replace c107 := Bool.eq_false_iff.mpr c107
            subst c107
            have H1 : (storagebarterlaw29_SlotDrops.l0 kj72 ji10 ((rd_T36 t195 (ji10)).f2) true t195 (t195.length : Int) (wrap64 (x51_1 + 1)) t168 t169 t170 t171 t172 t204 t205 t206 t207 t208 t211 t212 t213 t214 t215 t216 t217 t218 t219) = some r := by rw [if_neg (show ¬ (false = true) by decide)] at H; exact H
            clear H
            have H := H1
            clear H1
            have H' := Aside0.mk H
            clear H
            have hnb108 := NB176_194.out
            have hnc108 := NB194_176.out
            have hnb109 := NB176_203.out
            have hnc109 := NB203_176.out
            have hnb110 := NB176_221.out
            have hnc110 := NB221_176.out
            have hcz111_0 : wc.cell? ⟨gb176, 0, none⟩ = some (.int .i64 t168) := (blk_cell BK176.out 0).trans rfl
            have hcz111_1 : wc.cell? ⟨gb176, 1, none⟩ = some (.int .i64 t169) := (blk_cell BK176.out 1).trans rfl
            have hcz111_2 : wc.cell? ⟨gb176, 2, none⟩ = some (.int .i64 t170) := (blk_cell BK176.out 2).trans rfl
            have hcz111_3 : wc.cell? ⟨gb176, 3, none⟩ = some (.int .i64 t171) := (blk_cell BK176.out 3).trans rfl
            have hcz111_4 : wc.cell? ⟨gb176, 4, none⟩ = some (.slice Ao19 t172.length co19) := (blk_cell BK176.out 4).trans rfl
            have hfz111_0 := blk_frozen BK176.out 0
            have hfz111_1 := blk_frozen BK176.out 1
            have hfz111_2 := blk_frozen BK176.out 2
            have hfz111_3 := blk_frozen BK176.out 3
            have hfz111_4 := blk_frozen BK176.out 4
            have hnb112 := NB221_194.out
            have hnc112 := NB194_221.out
            have hnb113 := NB221_203.out
            have hnc113 := NB203_221.out
            have hcz114_0 : wc.cell? ⟨gb221, 0, none⟩ = some (.int .i64 t204) := (blk_cell BK221.out 0).trans rfl
            have hcz114_1 : wc.cell? ⟨gb221, 1, none⟩ = some (.int .i64 t205) := (blk_cell BK221.out 1).trans rfl
            have hcz114_2 : wc.cell? ⟨gb221, 2, none⟩ = some (.int .i64 t206) := (blk_cell BK221.out 2).trans rfl
            have hcz114_3 : wc.cell? ⟨gb221, 3, none⟩ = some (.int .i64 t207) := (blk_cell BK221.out 3).trans rfl
            have hcz114_4 : wc.cell? ⟨gb221, 4, none⟩ = some (.slice Ao57 t208.length co57) := (blk_cell BK221.out 4).trans rfl
            have hcz114_5 : wc.cell? ⟨gb221, 5, none⟩ = some (.int .i64 t211) := (blk_cell BK221.out 5).trans rfl
            have hcz114_6 : wc.cell? ⟨gb221, 6, none⟩ = some (.int .i64 t212) := (blk_cell BK221.out 6).trans rfl
            have hcz114_7 : wc.cell? ⟨gb221, 7, none⟩ = some (.int .i64 t213) := (blk_cell BK221.out 7).trans rfl
            have hcz114_8 : wc.cell? ⟨gb221, 8, none⟩ = some (.bool t214) := (blk_cell BK221.out 8).trans rfl
            have hcz114_9 : wc.cell? ⟨gb221, 9, none⟩ = some (.bool t215) := (blk_cell BK221.out 9).trans rfl
            have hcz114_10 : wc.cell? ⟨gb221, 10, none⟩ = some (.bool t216) := (blk_cell BK221.out 10).trans rfl
            have hcz114_11 : wc.cell? ⟨gb221, 11, none⟩ = some (.bool t217) := (blk_cell BK221.out 11).trans rfl
            have hcz114_12 : wc.cell? ⟨gb221, 12, none⟩ = some (.bool t218) := (blk_cell BK221.out 12).trans rfl
            have hcz114_13 : wc.cell? ⟨gb221, 13, none⟩ = some (.int .i64 t219) := (blk_cell BK221.out 13).trans rfl
            have hfz114_0 := blk_frozen BK221.out 0
            have hfz114_1 := blk_frozen BK221.out 1
            have hfz114_2 := blk_frozen BK221.out 2
            have hfz114_3 := blk_frozen BK221.out 3
            have hfz114_4 := blk_frozen BK221.out 4
            have hfz114_5 := blk_frozen BK221.out 5
            have hfz114_6 := blk_frozen BK221.out 6
            have hfz114_7 := blk_frozen BK221.out 7
            have hfz114_8 := blk_frozen BK221.out 8
            have hfz114_9 := blk_frozen BK221.out 9
            have hfz114_10 := blk_frozen BK221.out 10
            have hfz114_11 := blk_frozen BK221.out 11
            have hfz114_12 := blk_frozen BK221.out 12
            have hfz114_13 := blk_frozen BK221.out 13
            go_wp2_with (first | (go_at_call 42; (with_reducible refine (slot_Kept.calls t204 t205 t206 t207 _ _ t208 t211 t212 t213 t214 t215 t216 t217 t218 t219 t169 false _ ?side1 ?side2 A106.out).mono ?_); (case side1 => repeat (first | exact (Kd.R_reads' bag.out).2.2 | (with_reducible refine Kd.C_alloc ?_ _) | (with_reducible refine Kd.C_drewN ?_ _) | (with_reducible refine Kd.C_drew ?_))); (case side2 => exact (Kd.R_reads' bag.out).2.1); rintro e w115 ⟨rfl, hb⟩; have n0_ := Aside0.mk (Kd.R_below (R_up HO_49.out) hb); have n1_ := Aside0.mk (Kd.R_below (R_up ba0.out) hb); have n2_ := Aside0.mk (Kd.R_below (R_up ba1.out) hb); have n3_ := Aside0.mk (Kd.R_below (R_up bag.out) hb); have n4_ := Aside0.mk (blk_below (g := gb176) (blk_up BK176.out) hb); have n5_ := Aside0.mk (blk_below (g := gb194) (blk_up BK194.out) hb); have n6_ := Aside0.mk (blk_below (g := gb203) (blk_up BK203.out) hb); have n7_ := Aside0.mk (blk_below (g := gb221) (blk_up BK221.out) hb); have n8_ := Aside0.mk (below_step (by repeat (first | (with_reducible first | exact HB.out | apply below_alloc | apply pw_below_drewN | apply below_drew1 | refine below_set ?_ GE176.out | refine below_set ?_ GE194.out | refine below_set ?_ GE203.out | refine below_set ?_ GE221.out) | exact HB.out)) hb); clear HO_49; clear ba0; clear ba1; clear bag; clear BK176; clear BK194; clear BK203; clear BK221; clear HB; have HO_49 := n0_; have ba0 := n1_; have ba1 := n2_; have bag := n3_; have BK176 := n4_; have BK194 := n5_; have BK203 := n6_; have BK221 := n7_; have HB := n8_; clear n0_ n1_ n2_ n3_ n4_ n5_ n6_ n7_ n8_; (try clear hb); (try clear hb2); (try clear hk); (try clear hi); (try clear hgw); have hcz116_0 : w115.cell? ⟨gb221, 0, none⟩ = some (.int .i64 t204) := (blk_cell BK221.out 0).trans rfl; have hcz116_1 : w115.cell? ⟨gb221, 1, none⟩ = some (.int .i64 t205) := (blk_cell BK221.out 1).trans rfl; have hcz116_2 : w115.cell? ⟨gb221, 2, none⟩ = some (.int .i64 t206) := (blk_cell BK221.out 2).trans rfl; have hcz116_3 : w115.cell? ⟨gb221, 3, none⟩ = some (.int .i64 t207) := (blk_cell BK221.out 3).trans rfl; have hcz116_4 : w115.cell? ⟨gb221, 4, none⟩ = some (.slice Ao57 t208.length co57) := (blk_cell BK221.out 4).trans rfl; have hcz116_5 : w115.cell? ⟨gb221, 5, none⟩ = some (.int .i64 t211) := (blk_cell BK221.out 5).trans rfl; have hcz116_6 : w115.cell? ⟨gb221, 6, none⟩ = some (.int .i64 t212) := (blk_cell BK221.out 6).trans rfl; have hcz116_7 : w115.cell? ⟨gb221, 7, none⟩ = some (.int .i64 t213) := (blk_cell BK221.out 7).trans rfl; have hcz116_8 : w115.cell? ⟨gb221, 8, none⟩ = some (.bool t214) := (blk_cell BK221.out 8).trans rfl; have hcz116_9 : w115.cell? ⟨gb221, 9, none⟩ = some (.bool t215) := (blk_cell BK221.out 9).trans rfl; have hcz116_10 : w115.cell? ⟨gb221, 10, none⟩ = some (.bool t216) := (blk_cell BK221.out 10).trans rfl; have hcz116_11 : w115.cell? ⟨gb221, 11, none⟩ = some (.bool t217) := (blk_cell BK221.out 11).trans rfl; have hcz116_12 : w115.cell? ⟨gb221, 12, none⟩ = some (.bool t218) := (blk_cell BK221.out 12).trans rfl; have hcz116_13 : w115.cell? ⟨gb221, 13, none⟩ = some (.int .i64 t219) := (blk_cell BK221.out 13).trans rfl; have hfz116_0 := blk_frozen BK221.out 0; have hfz116_1 := blk_frozen BK221.out 1; have hfz116_2 := blk_frozen BK221.out 2; have hfz116_3 := blk_frozen BK221.out 3; have hfz116_4 := blk_frozen BK221.out 4; have hfz116_5 := blk_frozen BK221.out 5; have hfz116_6 := blk_frozen BK221.out 6; have hfz116_7 := blk_frozen BK221.out 7; have hfz116_8 := blk_frozen BK221.out 8; have hfz116_9 := blk_frozen BK221.out 9; have hfz116_10 := blk_frozen BK221.out 10; have hfz116_11 := blk_frozen BK221.out 11; have hfz116_12 := blk_frozen BK221.out 12; have hfz116_13 := blk_frozen BK221.out 13; have hnb117 := NB194_203.out; have hnc117 := NB203_194.out; have hcz118_0 : w115.cell? ⟨gb194, 0, none⟩ = some (.int .i64 ba4) := (blk_cell BK194.out 0).trans rfl; have hcz118_1 : w115.cell? ⟨gb194, 1, none⟩ = some (.int .i64 ba5) := (blk_cell BK194.out 1).trans rfl; have hcz118_2 : w115.cell? ⟨gb194, 2, none⟩ = some (.int .i64 ba6) := (blk_cell BK194.out 2).trans rfl; have hcz118_3 : w115.cell? ⟨gb194, 3, none⟩ = some (.int .i64 ba7) := (blk_cell BK194.out 3).trans rfl; have hcz118_4 : w115.cell? ⟨gb194, 4, none⟩ = some (.slice Ao50 ba3.length co50) := (blk_cell BK194.out 4).trans rfl; have hcz118_5 : w115.cell? ⟨gb194, 5, none⟩ = some (.int .i64 ba8) := (blk_cell BK194.out 5).trans rfl; have hcz118_6 : w115.cell? ⟨gb194, 6, none⟩ = some (.int .i64 ba9) := (blk_cell BK194.out 6).trans rfl; have hcz118_7 : w115.cell? ⟨gb194, 7, none⟩ = some (.int .i64 baa) := (blk_cell BK194.out 7).trans rfl; have hcz118_8 : w115.cell? ⟨gb194, 8, none⟩ = some (.bool bab) := (blk_cell BK194.out 8).trans rfl; have hcz118_9 : w115.cell? ⟨gb194, 9, none⟩ = some (.bool bac) := (blk_cell BK194.out 9).trans rfl; have hcz118_10 : w115.cell? ⟨gb194, 10, none⟩ = some (.bool bad) := (blk_cell BK194.out 10).trans rfl; have hcz118_11 : w115.cell? ⟨gb194, 11, none⟩ = some (.bool bae) := (blk_cell BK194.out 11).trans rfl; have hcz118_12 : w115.cell? ⟨gb194, 12, none⟩ = some (.bool ba2) := (blk_cell BK194.out 12).trans rfl; have hcz118_13 : w115.cell? ⟨gb194, 13, none⟩ = some (.int .i64 baf) := (blk_cell BK194.out 13).trans rfl; have hfz118_0 := blk_frozen BK194.out 0; have hfz118_1 := blk_frozen BK194.out 1; have hfz118_2 := blk_frozen BK194.out 2; have hfz118_3 := blk_frozen BK194.out 3; have hfz118_4 := blk_frozen BK194.out 4; have hfz118_5 := blk_frozen BK194.out 5; have hfz118_6 := blk_frozen BK194.out 6; have hfz118_7 := blk_frozen BK194.out 7; have hfz118_8 := blk_frozen BK194.out 8; have hfz118_9 := blk_frozen BK194.out 9; have hfz118_10 := blk_frozen BK194.out 10; have hfz118_11 := blk_frozen BK194.out 11; have hfz118_12 := blk_frozen BK194.out 12; have hfz118_13 := blk_frozen BK194.out 13))
            go_roundg kj72
            case measure => have := HK1.out; have := HJ32.out; have := HJ41.out; have := HJ45.out; have := HJ72.out; omega
            case rel => exact ⟨(true), (wrap64 (x51_1 + 1)), (t204), (t205), (t206), (t207), (t208), (t211), (t212), (t213), (t214), (t215), (t216), (t217), (t218), (t219), (.slice Ao57 t208.length co57), (by first | rfl | (simp; done) | (simp [*]; done)), (by first | rfl | (simp; done) | (simp [*]; done)), H', ⟨by have := HK1.out; have := HJ32.out; have := HJ41.out; have := HJ45.out; have := HJ72.out; omega⟩, ⟨by (with_reducible repeat (first | apply Kd.R_alloc | apply Kd.R_drewN | apply Kd.R_drew)); exact Kd.R_mono (Kd.R_far (p := ⟨gb194, 13, none⟩) (Kd.R_far (p := ⟨gb194, 12, none⟩) (Kd.R_far (p := ⟨gb194, 11, none⟩) (Kd.R_far (p := ⟨gb194, 10, none⟩) (Kd.R_far (p := ⟨gb194, 9, none⟩) (Kd.R_far (p := ⟨gb194, 8, none⟩) (Kd.R_far (p := ⟨gb194, 7, none⟩) (Kd.R_far (p := ⟨gb194, 6, none⟩) (Kd.R_far (p := ⟨gb194, 5, none⟩) (Kd.R_far (p := ⟨gb194, 4, none⟩) (Kd.R_far (p := ⟨gb194, 3, none⟩) (Kd.R_far (p := ⟨gb194, 2, none⟩) (Kd.R_far (p := ⟨gb194, 1, none⟩) (Kd.R_far (p := ⟨gb194, 0, none⟩) (Kd.R_types HO_49.out BK194.out (by decide)) (fun _ hk => hk.2) (.int .i64 t204)) (fun _ hk => hk.2) (.int .i64 t205)) (fun _ hk => hk.2) (.int .i64 t206)) (fun _ hk => hk.2) (.int .i64 t207)) (fun _ hk => hk.2) (.slice Ao57 t208.length co57)) (fun _ hk => hk.2) (.int .i64 t211)) (fun _ hk => hk.2) (.int .i64 t212)) (fun _ hk => hk.2) (.int .i64 t213)) (fun _ hk => hk.2) (.bool t214)) (fun _ hk => hk.2) (.bool t215)) (fun _ hk => hk.2) (.bool t216)) (fun _ hk => hk.2) (.bool t217)) (fun _ hk => hk.2) (.bool t218)) (fun _ hk => hk.2) (.int .i64 t219)) (fun _ hk => trivial)⟩, ⟨by (with_reducible repeat (first | apply Kd.R_alloc | apply Kd.R_drewN | apply Kd.R_drew)); exact Kd.R_mono (Kd.R_far (p := ⟨gb194, 13, none⟩) (Kd.R_far (p := ⟨gb194, 12, none⟩) (Kd.R_far (p := ⟨gb194, 11, none⟩) (Kd.R_far (p := ⟨gb194, 10, none⟩) (Kd.R_far (p := ⟨gb194, 9, none⟩) (Kd.R_far (p := ⟨gb194, 8, none⟩) (Kd.R_far (p := ⟨gb194, 7, none⟩) (Kd.R_far (p := ⟨gb194, 6, none⟩) (Kd.R_far (p := ⟨gb194, 5, none⟩) (Kd.R_far (p := ⟨gb194, 4, none⟩) (Kd.R_far (p := ⟨gb194, 3, none⟩) (Kd.R_far (p := ⟨gb194, 2, none⟩) (Kd.R_far (p := ⟨gb194, 1, none⟩) (Kd.R_far (p := ⟨gb194, 0, none⟩) (Kd.R_types ba0.out BK194.out (by decide)) (fun _ hk => hk.2) (.int .i64 t204)) (fun _ hk => hk.2) (.int .i64 t205)) (fun _ hk => hk.2) (.int .i64 t206)) (fun _ hk => hk.2) (.int .i64 t207)) (fun _ hk => hk.2) (.slice Ao57 t208.length co57)) (fun _ hk => hk.2) (.int .i64 t211)) (fun _ hk => hk.2) (.int .i64 t212)) (fun _ hk => hk.2) (.int .i64 t213)) (fun _ hk => hk.2) (.bool t214)) (fun _ hk => hk.2) (.bool t215)) (fun _ hk => hk.2) (.bool t216)) (fun _ hk => hk.2) (.bool t217)) (fun _ hk => hk.2) (.bool t218)) (fun _ hk => hk.2) (.int .i64 t219)) (fun _ hk => hk.1.2)⟩, ⟨by (with_reducible repeat (first | apply Kd.R_alloc | apply Kd.R_drewN | apply Kd.R_drew)); exact Kd.R_mono (Kd.R_far (p := ⟨gb194, 13, none⟩) (Kd.R_far (p := ⟨gb194, 12, none⟩) (Kd.R_far (p := ⟨gb194, 11, none⟩) (Kd.R_far (p := ⟨gb194, 10, none⟩) (Kd.R_far (p := ⟨gb194, 9, none⟩) (Kd.R_far (p := ⟨gb194, 8, none⟩) (Kd.R_far (p := ⟨gb194, 7, none⟩) (Kd.R_far (p := ⟨gb194, 6, none⟩) (Kd.R_far (p := ⟨gb194, 5, none⟩) (Kd.R_far (p := ⟨gb194, 4, none⟩) (Kd.R_far (p := ⟨gb194, 3, none⟩) (Kd.R_far (p := ⟨gb194, 2, none⟩) (Kd.R_far (p := ⟨gb194, 1, none⟩) (Kd.R_far (p := ⟨gb194, 0, none⟩) (Kd.R_types bag.out BK194.out (by decide)) (fun _ hk => hk.2) (.int .i64 t204)) (fun _ hk => hk.2) (.int .i64 t205)) (fun _ hk => hk.2) (.int .i64 t206)) (fun _ hk => hk.2) (.int .i64 t207)) (fun _ hk => hk.2) (.slice Ao57 t208.length co57)) (fun _ hk => hk.2) (.int .i64 t211)) (fun _ hk => hk.2) (.int .i64 t212)) (fun _ hk => hk.2) (.int .i64 t213)) (fun _ hk => hk.2) (.bool t214)) (fun _ hk => hk.2) (.bool t215)) (fun _ hk => hk.2) (.bool t216)) (fun _ hk => hk.2) (.bool t217)) (fun _ hk => hk.2) (.bool t218)) (fun _ hk => hk.2) (.int .i64 t219)) (fun _ hk => hk.1.1)⟩, ⟨by (with_reducible repeat (first | refine blk_drewN ?_ _ | refine blk_drew ?_ | refine blk_alloc ?_ _)); refine blk_far14 ?_ NB176_194.out _ _ _ _ _ _ _ _ _ _ _ _ _ _; (with_reducible repeat (first | refine blk_drewN ?_ _ | refine blk_drew ?_ | refine blk_alloc ?_ _)); exact BK176.out⟩, ⟨by (with_reducible repeat (first | refine blk_drewN ?_ _ | refine blk_drew ?_ | refine blk_alloc ?_ _)); first | exact blk_all14 BK194.out _ _ _ _ _ _ _ _ _ _ _ _ _ _ | exact blk_all14 (blk_up BK194.out) _ _ _ _ _ _ _ _ _ _ _ _ _ _⟩, ⟨by repeat (first | (with_reducible first | exact HB.out | apply below_alloc | apply pw_below_drewN | apply below_drew1 | refine below_set ?_ GE176.out | refine below_set ?_ GE194.out | refine below_set ?_ GE203.out | refine below_set ?_ GE221.out) | exact HB.out)⟩⟩
           replace c105 := Bool.eq_false_iff.mpr c105
           subst c105
           have H1 : (storagebarterlaw29_SlotDrops.l0 kj72 ji10 ((rd_T36 t195 (ji10)).f2) false t195 (t195.length : Int) (wrap64 (x51_1 + 1)) t168 t169 t170 t171 t172 t204 t205 t206 t207 t208 t211 t212 t213 t214 t215 t216 t217 t218 t219) = some r := by rw [if_neg (show ¬ (false = true) by decide)] at H; exact H
           clear H
           have H := H1
           clear H1
           have H' := Aside0.mk H
           clear H
           have hnb119 := NB176_194.out
           have hnc119 := NB194_176.out
           have hnb120 := NB176_203.out
           have hnc120 := NB203_176.out
           have hnb121 := NB176_221.out
           have hnc121 := NB221_176.out
           have hcz122_0 : wc.cell? ⟨gb176, 0, none⟩ = some (.int .i64 t168) := (blk_cell BK176.out 0).trans rfl
           have hcz122_1 : wc.cell? ⟨gb176, 1, none⟩ = some (.int .i64 t169) := (blk_cell BK176.out 1).trans rfl
           have hcz122_2 : wc.cell? ⟨gb176, 2, none⟩ = some (.int .i64 t170) := (blk_cell BK176.out 2).trans rfl
           have hcz122_3 : wc.cell? ⟨gb176, 3, none⟩ = some (.int .i64 t171) := (blk_cell BK176.out 3).trans rfl
           have hcz122_4 : wc.cell? ⟨gb176, 4, none⟩ = some (.slice Ao19 t172.length co19) := (blk_cell BK176.out 4).trans rfl
           have hfz122_0 := blk_frozen BK176.out 0
           have hfz122_1 := blk_frozen BK176.out 1
           have hfz122_2 := blk_frozen BK176.out 2
           have hfz122_3 := blk_frozen BK176.out 3
           have hfz122_4 := blk_frozen BK176.out 4
           have hnb123 := NB221_194.out
           have hnc123 := NB194_221.out
           have hnb124 := NB221_203.out
           have hnc124 := NB203_221.out
           have hcz125_0 : wc.cell? ⟨gb221, 0, none⟩ = some (.int .i64 t204) := (blk_cell BK221.out 0).trans rfl
           have hcz125_1 : wc.cell? ⟨gb221, 1, none⟩ = some (.int .i64 t205) := (blk_cell BK221.out 1).trans rfl
           have hcz125_2 : wc.cell? ⟨gb221, 2, none⟩ = some (.int .i64 t206) := (blk_cell BK221.out 2).trans rfl
           have hcz125_3 : wc.cell? ⟨gb221, 3, none⟩ = some (.int .i64 t207) := (blk_cell BK221.out 3).trans rfl
           have hcz125_4 : wc.cell? ⟨gb221, 4, none⟩ = some (.slice Ao57 t208.length co57) := (blk_cell BK221.out 4).trans rfl
           have hcz125_5 : wc.cell? ⟨gb221, 5, none⟩ = some (.int .i64 t211) := (blk_cell BK221.out 5).trans rfl
           have hcz125_6 : wc.cell? ⟨gb221, 6, none⟩ = some (.int .i64 t212) := (blk_cell BK221.out 6).trans rfl
           have hcz125_7 : wc.cell? ⟨gb221, 7, none⟩ = some (.int .i64 t213) := (blk_cell BK221.out 7).trans rfl
           have hcz125_8 : wc.cell? ⟨gb221, 8, none⟩ = some (.bool t214) := (blk_cell BK221.out 8).trans rfl
           have hcz125_9 : wc.cell? ⟨gb221, 9, none⟩ = some (.bool t215) := (blk_cell BK221.out 9).trans rfl
           have hcz125_10 : wc.cell? ⟨gb221, 10, none⟩ = some (.bool t216) := (blk_cell BK221.out 10).trans rfl
           have hcz125_11 : wc.cell? ⟨gb221, 11, none⟩ = some (.bool t217) := (blk_cell BK221.out 11).trans rfl
           have hcz125_12 : wc.cell? ⟨gb221, 12, none⟩ = some (.bool t218) := (blk_cell BK221.out 12).trans rfl
           have hcz125_13 : wc.cell? ⟨gb221, 13, none⟩ = some (.int .i64 t219) := (blk_cell BK221.out 13).trans rfl
           have hfz125_0 := blk_frozen BK221.out 0
           have hfz125_1 := blk_frozen BK221.out 1
           have hfz125_2 := blk_frozen BK221.out 2
           have hfz125_3 := blk_frozen BK221.out 3
           have hfz125_4 := blk_frozen BK221.out 4
           have hfz125_5 := blk_frozen BK221.out 5
           have hfz125_6 := blk_frozen BK221.out 6
           have hfz125_7 := blk_frozen BK221.out 7
           have hfz125_8 := blk_frozen BK221.out 8
           have hfz125_9 := blk_frozen BK221.out 9
           have hfz125_10 := blk_frozen BK221.out 10
           have hfz125_11 := blk_frozen BK221.out 11
           have hfz125_12 := blk_frozen BK221.out 12
           have hfz125_13 := blk_frozen BK221.out 13
           have hnb126 := NB194_203.out
           have hnc126 := NB203_194.out
           have hcz127_0 : wc.cell? ⟨gb194, 0, none⟩ = some (.int .i64 ba4) := (blk_cell BK194.out 0).trans rfl
           have hcz127_1 : wc.cell? ⟨gb194, 1, none⟩ = some (.int .i64 ba5) := (blk_cell BK194.out 1).trans rfl
           have hcz127_2 : wc.cell? ⟨gb194, 2, none⟩ = some (.int .i64 ba6) := (blk_cell BK194.out 2).trans rfl
           have hcz127_3 : wc.cell? ⟨gb194, 3, none⟩ = some (.int .i64 ba7) := (blk_cell BK194.out 3).trans rfl
           have hcz127_4 : wc.cell? ⟨gb194, 4, none⟩ = some (.slice Ao50 ba3.length co50) := (blk_cell BK194.out 4).trans rfl
           have hcz127_5 : wc.cell? ⟨gb194, 5, none⟩ = some (.int .i64 ba8) := (blk_cell BK194.out 5).trans rfl
           have hcz127_6 : wc.cell? ⟨gb194, 6, none⟩ = some (.int .i64 ba9) := (blk_cell BK194.out 6).trans rfl
           have hcz127_7 : wc.cell? ⟨gb194, 7, none⟩ = some (.int .i64 baa) := (blk_cell BK194.out 7).trans rfl
           have hcz127_8 : wc.cell? ⟨gb194, 8, none⟩ = some (.bool bab) := (blk_cell BK194.out 8).trans rfl
           have hcz127_9 : wc.cell? ⟨gb194, 9, none⟩ = some (.bool bac) := (blk_cell BK194.out 9).trans rfl
           have hcz127_10 : wc.cell? ⟨gb194, 10, none⟩ = some (.bool bad) := (blk_cell BK194.out 10).trans rfl
           have hcz127_11 : wc.cell? ⟨gb194, 11, none⟩ = some (.bool bae) := (blk_cell BK194.out 11).trans rfl
           have hcz127_12 : wc.cell? ⟨gb194, 12, none⟩ = some (.bool ba2) := (blk_cell BK194.out 12).trans rfl
           have hcz127_13 : wc.cell? ⟨gb194, 13, none⟩ = some (.int .i64 baf) := (blk_cell BK194.out 13).trans rfl
           have hfz127_0 := blk_frozen BK194.out 0
           have hfz127_1 := blk_frozen BK194.out 1
           have hfz127_2 := blk_frozen BK194.out 2
           have hfz127_3 := blk_frozen BK194.out 3
           have hfz127_4 := blk_frozen BK194.out 4
           have hfz127_5 := blk_frozen BK194.out 5
           have hfz127_6 := blk_frozen BK194.out 6
           have hfz127_7 := blk_frozen BK194.out 7
           have hfz127_8 := blk_frozen BK194.out 8
           have hfz127_9 := blk_frozen BK194.out 9
           have hfz127_10 := blk_frozen BK194.out 10
           have hfz127_11 := blk_frozen BK194.out 11
           have hfz127_12 := blk_frozen BK194.out 12
           have hfz127_13 := blk_frozen BK194.out 13
           go_wp2
           go_roundg kj72
           case measure => have := HK1.out; have := HJ32.out; have := HJ41.out; have := HJ45.out; have := HJ72.out; omega
           case rel => exact ⟨(false), (wrap64 (x51_1 + 1)), (t204), (t205), (t206), (t207), (t208), (t211), (t212), (t213), (t214), (t215), (t216), (t217), (t218), (t219), (.slice Ao57 t208.length co57), (by first | rfl | (simp; done) | (simp [*]; done)), (by first | rfl | (simp; done) | (simp [*]; done)), H', ⟨by have := HK1.out; have := HJ32.out; have := HJ41.out; have := HJ45.out; have := HJ72.out; omega⟩, ⟨by (with_reducible repeat (first | apply Kd.R_alloc | apply Kd.R_drewN | apply Kd.R_drew)); exact Kd.R_mono (Kd.R_far (p := ⟨gb194, 13, none⟩) (Kd.R_far (p := ⟨gb194, 12, none⟩) (Kd.R_far (p := ⟨gb194, 11, none⟩) (Kd.R_far (p := ⟨gb194, 10, none⟩) (Kd.R_far (p := ⟨gb194, 9, none⟩) (Kd.R_far (p := ⟨gb194, 8, none⟩) (Kd.R_far (p := ⟨gb194, 7, none⟩) (Kd.R_far (p := ⟨gb194, 6, none⟩) (Kd.R_far (p := ⟨gb194, 5, none⟩) (Kd.R_far (p := ⟨gb194, 4, none⟩) (Kd.R_far (p := ⟨gb194, 3, none⟩) (Kd.R_far (p := ⟨gb194, 2, none⟩) (Kd.R_far (p := ⟨gb194, 1, none⟩) (Kd.R_far (p := ⟨gb194, 0, none⟩) (Kd.R_types HO_49.out BK194.out (by decide)) (fun _ hk => hk.2) (.int .i64 t204)) (fun _ hk => hk.2) (.int .i64 t205)) (fun _ hk => hk.2) (.int .i64 t206)) (fun _ hk => hk.2) (.int .i64 t207)) (fun _ hk => hk.2) (.slice Ao57 t208.length co57)) (fun _ hk => hk.2) (.int .i64 t211)) (fun _ hk => hk.2) (.int .i64 t212)) (fun _ hk => hk.2) (.int .i64 t213)) (fun _ hk => hk.2) (.bool t214)) (fun _ hk => hk.2) (.bool t215)) (fun _ hk => hk.2) (.bool t216)) (fun _ hk => hk.2) (.bool t217)) (fun _ hk => hk.2) (.bool t218)) (fun _ hk => hk.2) (.int .i64 t219)) (fun _ hk => trivial)⟩, ⟨by (with_reducible repeat (first | apply Kd.R_alloc | apply Kd.R_drewN | apply Kd.R_drew)); exact Kd.R_mono (Kd.R_far (p := ⟨gb194, 13, none⟩) (Kd.R_far (p := ⟨gb194, 12, none⟩) (Kd.R_far (p := ⟨gb194, 11, none⟩) (Kd.R_far (p := ⟨gb194, 10, none⟩) (Kd.R_far (p := ⟨gb194, 9, none⟩) (Kd.R_far (p := ⟨gb194, 8, none⟩) (Kd.R_far (p := ⟨gb194, 7, none⟩) (Kd.R_far (p := ⟨gb194, 6, none⟩) (Kd.R_far (p := ⟨gb194, 5, none⟩) (Kd.R_far (p := ⟨gb194, 4, none⟩) (Kd.R_far (p := ⟨gb194, 3, none⟩) (Kd.R_far (p := ⟨gb194, 2, none⟩) (Kd.R_far (p := ⟨gb194, 1, none⟩) (Kd.R_far (p := ⟨gb194, 0, none⟩) (Kd.R_types ba0.out BK194.out (by decide)) (fun _ hk => hk.2) (.int .i64 t204)) (fun _ hk => hk.2) (.int .i64 t205)) (fun _ hk => hk.2) (.int .i64 t206)) (fun _ hk => hk.2) (.int .i64 t207)) (fun _ hk => hk.2) (.slice Ao57 t208.length co57)) (fun _ hk => hk.2) (.int .i64 t211)) (fun _ hk => hk.2) (.int .i64 t212)) (fun _ hk => hk.2) (.int .i64 t213)) (fun _ hk => hk.2) (.bool t214)) (fun _ hk => hk.2) (.bool t215)) (fun _ hk => hk.2) (.bool t216)) (fun _ hk => hk.2) (.bool t217)) (fun _ hk => hk.2) (.bool t218)) (fun _ hk => hk.2) (.int .i64 t219)) (fun _ hk => hk.1.2)⟩, ⟨by (with_reducible repeat (first | apply Kd.R_alloc | apply Kd.R_drewN | apply Kd.R_drew)); exact Kd.R_mono (Kd.R_far (p := ⟨gb194, 13, none⟩) (Kd.R_far (p := ⟨gb194, 12, none⟩) (Kd.R_far (p := ⟨gb194, 11, none⟩) (Kd.R_far (p := ⟨gb194, 10, none⟩) (Kd.R_far (p := ⟨gb194, 9, none⟩) (Kd.R_far (p := ⟨gb194, 8, none⟩) (Kd.R_far (p := ⟨gb194, 7, none⟩) (Kd.R_far (p := ⟨gb194, 6, none⟩) (Kd.R_far (p := ⟨gb194, 5, none⟩) (Kd.R_far (p := ⟨gb194, 4, none⟩) (Kd.R_far (p := ⟨gb194, 3, none⟩) (Kd.R_far (p := ⟨gb194, 2, none⟩) (Kd.R_far (p := ⟨gb194, 1, none⟩) (Kd.R_far (p := ⟨gb194, 0, none⟩) (Kd.R_types bag.out BK194.out (by decide)) (fun _ hk => hk.2) (.int .i64 t204)) (fun _ hk => hk.2) (.int .i64 t205)) (fun _ hk => hk.2) (.int .i64 t206)) (fun _ hk => hk.2) (.int .i64 t207)) (fun _ hk => hk.2) (.slice Ao57 t208.length co57)) (fun _ hk => hk.2) (.int .i64 t211)) (fun _ hk => hk.2) (.int .i64 t212)) (fun _ hk => hk.2) (.int .i64 t213)) (fun _ hk => hk.2) (.bool t214)) (fun _ hk => hk.2) (.bool t215)) (fun _ hk => hk.2) (.bool t216)) (fun _ hk => hk.2) (.bool t217)) (fun _ hk => hk.2) (.bool t218)) (fun _ hk => hk.2) (.int .i64 t219)) (fun _ hk => hk.1.1)⟩, ⟨by (with_reducible repeat (first | refine blk_drewN ?_ _ | refine blk_drew ?_ | refine blk_alloc ?_ _)); refine blk_far14 ?_ NB176_194.out _ _ _ _ _ _ _ _ _ _ _ _ _ _; (with_reducible repeat (first | refine blk_drewN ?_ _ | refine blk_drew ?_ | refine blk_alloc ?_ _)); exact BK176.out⟩, ⟨by (with_reducible repeat (first | refine blk_drewN ?_ _ | refine blk_drew ?_ | refine blk_alloc ?_ _)); first | exact blk_all14 BK194.out _ _ _ _ _ _ _ _ _ _ _ _ _ _ | exact blk_all14 (blk_up BK194.out) _ _ _ _ _ _ _ _ _ _ _ _ _ _⟩, ⟨by repeat (first | (with_reducible first | exact HB.out | apply below_alloc | apply pw_below_drewN | apply below_drew1 | refine below_set ?_ GE176.out | refine below_set ?_ GE194.out | refine below_set ?_ GE203.out | refine below_set ?_ GE221.out) | exact HB.out)⟩⟩
/-- THE ONE PURE STATEMENT of storagebarterlaw29_SlotDrops: yours. -/
def storagebarterlaw29_SlotDrops.Pure : Prop := ∀ (l0 : List Int), l0.length ≤ maxLen → l0.length * 1 ≤ 140737488351232 → (∀ x ∈ l0, (Lit.int .u8 x).wf = true) → ∃ k, storagebarterlaw29_SlotDrops.f k l0 = some true
theorem storagebarterlaw29_SlotDrops.walk (P : storagebarterlaw29_SlotDrops.Pure) (a0 : Option Addr) (len0 cap0 : Nat) (z0 : List Int) (w : World) (w0 : (a0 = none ∧ len0 = 0 ∧ cap0 = 0 ∧ z0 = []) ∨ ∃ x, a0 = some x ∧ len0 ≤ cap0 ∧ cap0 ≤ maxLen ∧ z0.length = cap0 ∧ (∀ i, i < z0.length → w.cell? (x.add i) = some (.int .u8 (z0.getD i 0))) ∧ ∀ n ∈ z0, (Lit.int .u8 n).wf = true) (y0 : len0 * 1 ≤ 140737488351232) (hL_ : Laid w) :
  Calls Tryd.prog 11 #[.slice a0 len0 cap0] w fun e w' => e = .returned (.bool true) ∧ Below w.heap.size w w' := by
 obtain ⟨l0, rfl, hr0, hm0, hw0, hc0⟩ := ReadsInt.ofRowC w0
 obtain ⟨k, h⟩ := P l0 hm0 y0 hw0
 refine (storagebarterlaw29_SlotDrops.calls k _ _ l0 true w (Kd.C_of_reads (d := (0 : Int)) (h1 := fun _ => rfl) hr0) hc0 h rfl hL_).mono ?_
 rintro e w' ⟨rfl, hd⟩
 exact ⟨rfl, hd⟩

end Go.Proofs.YtgckkjgemkabnaaDoor.PSlotDrops
