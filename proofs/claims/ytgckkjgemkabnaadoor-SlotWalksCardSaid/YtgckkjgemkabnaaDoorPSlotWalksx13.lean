-- Written by a program of this repository (wip/tools/myprint.py over the print of the kit): contracts and rows.
import Derived.Test.YtgckkjgemkabnaaDoorPSlotWalksx0
import Derived.Test.YtgckkjgemkabnaaDoorPSlotWalksx3
import Derived.Test.YtgckkjgemkabnaaDoorPSlotWalksx4
import Derived.Test.YtgckkjgemkabnaaDoorPSlotWalksx5
import Derived.Test.YtgckkjgemkabnaaDoorPSlotWalksx6
import Derived.Test.YtgckkjgemkabnaaDoorPSlotWalksx7
import Derived.Test.YtgckkjgemkabnaaDoorPSlotWalksx11
import Derived.Test.YtgckkjgemkabnaaDoorPSlotWalksx12
namespace Go.Proofs.YtgckkjgemkabnaaDoor.PSlotWalks
open Go.RowKit Go.Proofs.YtgckkjgemkabnaaDoorW.PrintWords Go.Proofs.YtgckkjgemkabnaaDoorW.PrintLast Go.Proofs.YtgckkjgemkabnaaDoorW.PrintMore
attribute [local go_sem] max2_int min2_int max_two min_two max_three min_three max_four min_four   -- for this text's walks alone
set_option linter.unusedVariables false
set_option linter.unusedSimpArgs false
theorem cf14 {W : World} {g : Nat} {a : Addr} {c : Option Value} {o0 o1 o2 o3 o4 o5 o6 o7 o8 o9 o10 o11 o12 o13 : Nat} {u0 u1 u2 u3 u4 u5 u6 u7 u8 u9 u10 u11 u12 u13 : Value} (n : a.block ≠ g) (h : W.cell? a = c) : ((((((((((((((W.setCell ⟨g, o0, none⟩ u0).setCell ⟨g, o1, none⟩ u1).setCell ⟨g, o2, none⟩ u2).setCell ⟨g, o3, none⟩ u3).setCell ⟨g, o4, none⟩ u4).setCell ⟨g, o5, none⟩ u5).setCell ⟨g, o6, none⟩ u6).setCell ⟨g, o7, none⟩ u7).setCell ⟨g, o8, none⟩ u8).setCell ⟨g, o9, none⟩ u9).setCell ⟨g, o10, none⟩ u10).setCell ⟨g, o11, none⟩ u11).setCell ⟨g, o12, none⟩ u12).setCell ⟨g, o13, none⟩ u13).cell? a = c := by
  repeat' refine (cell_far (p := ⟨g, _, none⟩) n _).trans ?_
  exact h
/-- Fourteen stores into another block. -/
theorem blk_far14 {w : World} {g g' : Nat} {o : Obj} (h : w.heap[g]? = some o) (hn : g ≠ g') (u0 u1 u2 u3 u4 u5 u6 u7 u8 u9 u10 u11 u12 u13 : Value) : ((((((((((((((w.setCell ⟨g', 0, none⟩ u0).setCell ⟨g', 1, none⟩ u1).setCell ⟨g', 2, none⟩ u2).setCell ⟨g', 3, none⟩ u3).setCell ⟨g', 4, none⟩ u4).setCell ⟨g', 5, none⟩ u5).setCell ⟨g', 6, none⟩ u6).setCell ⟨g', 7, none⟩ u7).setCell ⟨g', 8, none⟩ u8).setCell ⟨g', 9, none⟩ u9).setCell ⟨g', 10, none⟩ u10).setCell ⟨g', 11, none⟩ u11).setCell ⟨g', 12, none⟩ u12).setCell ⟨g', 13, none⟩ u13).heap[g]? = some o := by
  repeat' refine Eq.trans (Below.heap_setCell _ _ _ _ hn) ?_
  exact h

/-! ### storagebarterlaw29_SlotWalks: function 8 -/
mutual
def storagebarterlaw29_SlotWalks.l0 : Nat → Int → List Int → Int → Int → Int → Int → Int → List Int → Int → Int → Int → Bool → Bool → Bool → Bool → Bool → Int → Int → Int → Int → Int → List Int → Int → Int → Int → Bool → Bool → Bool → Bool → Bool → Int → Option (Bool)
 | 0, _, _, _, _, _, _, _, _, _, _, _, _, _, _, _, _, _, _, _, _, _, _, _, _, _, _, _, _, _, _, _ => none
 | k + 1, x7, baz, x282001, x308000, x308001, x308002, x308003, x308004, x308005, x308006, x308007, x308008, x308009, x308010, x308011, x308012, x308013, x309000, x309001, x309002, x309003, x309004, x309005, x309006, x309007, x309008, x309009, x309010, x309011, x309012, x309013 => if x7 < 60 then ((storagebarterplay_Dice_Pick.f baz x282001 6).bind fun bt309 => (if bt309.1 = 0 then ((storagebarterplay_Dice_Pick.f baz bt309.2 4).bind fun bt311 => (storagebarterlaw29_SlotWalks.j1 k x7 bt311.1 baz bt311.2 x308000 x308001 x308002 x308003 x308004 x308005 x308006 x308007 x308008 x308009 x308010 x308011 x308012 x308013 x309000 x309001 x309002 x309003 x309004 x309005 x309006 x309007 x309008 x309009 x309010 x309011 x309012 x309013)) else (storagebarterlaw29_SlotWalks.j1 k x7 0 baz bt309.2 x308000 x308001 x308002 x308003 x308004 x308005 x308006 x308007 x308008 x308009 x308010 x308011 x308012 x308013 x309000 x309001 x309002 x309003 x309004 x309005 x309006 x309007 x309008 x309009 x309010 x309011 x309012 x309013))) else (some false)
def storagebarterlaw29_SlotWalks.j1 : Nat → Int → Int → List Int → Int → Int → Int → Int → Int → List Int → Int → Int → Int → Bool → Bool → Bool → Bool → Bool → Int → Int → Int → Int → Int → List Int → Int → Int → Int → Bool → Bool → Bool → Bool → Bool → Int → Option (Bool)
 | 0, _, _, _, _, _, _, _, _, _, _, _, _, _, _, _, _, _, _, _, _, _, _, _, _, _, _, _, _, _, _, _, _ => none
 | k + 1, x7, x8, baz, x282001, x308000, x308001, x308002, x308003, x308004, x308005, x308006, x308007, x308008, x308009, x308010, x308011, x308012, x308013, x309000, x309001, x309002, x309003, x309004, x309005, x309006, x309007, x309008, x309009, x309010, x309011, x309012, x309013 => (slot_Step.f k x308000 x308001 x308002 x308003 x308004 x308005 x308006 x308007 x308008 x308009 x308010 x308011 x308012 x308013 x8).bind fun bt313 => ((storagebarterref29_Step.f k x309000 x309001 x309002 x309003 x309004 x309005 x309006 x309007 x309008 x309009 x309010 x309011 x309012 x309013 x8).bind fun bt331 => (if bt313.2.2.2.2.2.2.2.2.2.2.2.2.2.2 = bt331.2.2.2.2.2.2.2.2.2.2.2.2.2.2 then ((storagebarterref29_Same.f k bt313.1 bt313.2.1 bt313.2.2.1 bt313.2.2.2.1 bt313.2.2.2.2.1 bt313.2.2.2.2.2.1 bt313.2.2.2.2.2.2.1 bt313.2.2.2.2.2.2.2.1 bt313.2.2.2.2.2.2.2.2.1 bt313.2.2.2.2.2.2.2.2.2.1 bt313.2.2.2.2.2.2.2.2.2.2.1 bt313.2.2.2.2.2.2.2.2.2.2.2.1 bt313.2.2.2.2.2.2.2.2.2.2.2.2.1 bt313.2.2.2.2.2.2.2.2.2.2.2.2.2.1 bt331.1 bt331.2.1 bt331.2.2.1 bt331.2.2.2.1 bt331.2.2.2.2.1 bt331.2.2.2.2.2.1 bt331.2.2.2.2.2.2.1 bt331.2.2.2.2.2.2.2.1 bt331.2.2.2.2.2.2.2.2.1 bt331.2.2.2.2.2.2.2.2.2.1 bt331.2.2.2.2.2.2.2.2.2.2.1 bt331.2.2.2.2.2.2.2.2.2.2.2.1 bt331.2.2.2.2.2.2.2.2.2.2.2.2.1 bt331.2.2.2.2.2.2.2.2.2.2.2.2.2.1).bind fun t349 => (storagebarterlaw29_SlotWalks.j2 k x7 bt313.2.2.2.2.2.2.2.2.2.2.2.2.2.2 (!t349) baz x282001 bt313.1 bt313.2.1 bt313.2.2.1 bt313.2.2.2.1 bt313.2.2.2.2.1 bt313.2.2.2.2.2.1 bt313.2.2.2.2.2.2.1 bt313.2.2.2.2.2.2.2.1 bt313.2.2.2.2.2.2.2.2.1 bt313.2.2.2.2.2.2.2.2.2.1 bt313.2.2.2.2.2.2.2.2.2.2.1 bt313.2.2.2.2.2.2.2.2.2.2.2.1 bt313.2.2.2.2.2.2.2.2.2.2.2.2.1 bt313.2.2.2.2.2.2.2.2.2.2.2.2.2.1 bt331.1 bt331.2.1 bt331.2.2.1 bt331.2.2.2.1 bt331.2.2.2.2.1 bt331.2.2.2.2.2.1 bt331.2.2.2.2.2.2.1 bt331.2.2.2.2.2.2.2.1 bt331.2.2.2.2.2.2.2.2.1 bt331.2.2.2.2.2.2.2.2.2.1 bt331.2.2.2.2.2.2.2.2.2.2.1 bt331.2.2.2.2.2.2.2.2.2.2.2.1 bt331.2.2.2.2.2.2.2.2.2.2.2.2.1 bt331.2.2.2.2.2.2.2.2.2.2.2.2.2.1)) else (storagebarterlaw29_SlotWalks.j2 k x7 bt313.2.2.2.2.2.2.2.2.2.2.2.2.2.2 true baz x282001 bt313.1 bt313.2.1 bt313.2.2.1 bt313.2.2.2.1 bt313.2.2.2.2.1 bt313.2.2.2.2.2.1 bt313.2.2.2.2.2.2.1 bt313.2.2.2.2.2.2.2.1 bt313.2.2.2.2.2.2.2.2.1 bt313.2.2.2.2.2.2.2.2.2.1 bt313.2.2.2.2.2.2.2.2.2.2.1 bt313.2.2.2.2.2.2.2.2.2.2.2.1 bt313.2.2.2.2.2.2.2.2.2.2.2.2.1 bt313.2.2.2.2.2.2.2.2.2.2.2.2.2.1 bt331.1 bt331.2.1 bt331.2.2.1 bt331.2.2.2.1 bt331.2.2.2.2.1 bt331.2.2.2.2.2.1 bt331.2.2.2.2.2.2.1 bt331.2.2.2.2.2.2.2.1 bt331.2.2.2.2.2.2.2.2.1 bt331.2.2.2.2.2.2.2.2.2.1 bt331.2.2.2.2.2.2.2.2.2.2.1 bt331.2.2.2.2.2.2.2.2.2.2.2.1 bt331.2.2.2.2.2.2.2.2.2.2.2.2.1 bt331.2.2.2.2.2.2.2.2.2.2.2.2.2.1)))
def storagebarterlaw29_SlotWalks.j2 : Nat → Int → Int → Bool → List Int → Int → Int → Int → Int → Int → List Int → Int → Int → Int → Bool → Bool → Bool → Bool → Bool → Int → Int → Int → Int → Int → List Int → Int → Int → Int → Bool → Bool → Bool → Bool → Bool → Int → Option (Bool)
 | 0, _, _, _, _, _, _, _, _, _, _, _, _, _, _, _, _, _, _, _, _, _, _, _, _, _, _, _, _, _, _, _, _, _ => none
 | k + 1, x7, x10, x55, baz, x282001, x331000, x331001, x331002, x331003, x331004, x331005, x331006, x331007, x331008, x331009, x331010, x331011, x331012, x331013, x349000, x349001, x349002, x349003, x349004, x349005, x349006, x349007, x349008, x349009, x349010, x349011, x349012, x349013 => if x55 = true then (some false) else (if x10 = 0 then (storagebarterlaw29_SlotWalks.l0 k (wrap64 (x7 + 1)) baz x282001 x331000 x331001 x331002 x331003 x331004 x331005 x331006 x331007 x331008 x331009 x331010 x331011 x331012 x331013 x349000 x349001 x349002 x349003 x349004 x349005 x349006 x349007 x349008 x349009 x349010 x349011 x349012 x349013) else (some true))
end
def storagebarterlaw29_SlotWalks.f (k : Nat) (l0 : List Int) : Option (Bool) := (storagebarterlaw29_sane.f).bind fun t278 => (if t278 = true then ((storagebarterplay_New.f l0).bind fun bt279 => ((storagebarterplay_Dice_Arrangement.f k bt279.1 bt279.2 4).bind fun bt282 => ((slot_New.f k bt282.1 bt282.2.1 bt282.2.2.1 bt282.2.2.2.1 bt282.2.2.2.2.1).bind fun bt290 => (if bt290.2.2.2.2.2.2.2.2.2.2.2.2.2.2 = 0 then (storagebarterlaw29_SlotWalks.l0 k 0 bt279.1 bt282.2.2.2.2.2 bt290.1 bt290.2.1 bt290.2.2.1 bt290.2.2.2.1 bt290.2.2.2.2.1 bt290.2.2.2.2.2.1 bt290.2.2.2.2.2.2.1 bt290.2.2.2.2.2.2.2.1 bt290.2.2.2.2.2.2.2.2.1 bt290.2.2.2.2.2.2.2.2.2.1 bt290.2.2.2.2.2.2.2.2.2.2.1 bt290.2.2.2.2.2.2.2.2.2.2.2.1 bt290.2.2.2.2.2.2.2.2.2.2.2.2.1 bt290.2.2.2.2.2.2.2.2.2.2.2.2.2.1 bt290.1 bt290.2.1 bt290.2.2.1 bt290.2.2.2.1 bt290.2.2.2.2.1 bt290.2.2.2.2.2.1 bt290.2.2.2.2.2.2.1 bt290.2.2.2.2.2.2.2.1 bt290.2.2.2.2.2.2.2.2.1 bt290.2.2.2.2.2.2.2.2.2.1 bt290.2.2.2.2.2.2.2.2.2.2.1 bt290.2.2.2.2.2.2.2.2.2.2.2.1 bt290.2.2.2.2.2.2.2.2.2.2.2.2.1 bt290.2.2.2.2.2.2.2.2.2.2.2.2.2.1) else (some false))))) else (some false))
theorem storagebarterlaw29_SlotWalks.mono_l : ∀ k, (∀ y0 y1 y2 y3 y4 y5 y6 y7 y8 y9 y10 y11 y12 y13 y14 y15 y16 y17 y18 y19 y20 y21 y22 y23 y24 y25 y26 y27 y28 y29 y30, LeO (storagebarterlaw29_SlotWalks.l0 k y0 y1 y2 y3 y4 y5 y6 y7 y8 y9 y10 y11 y12 y13 y14 y15 y16 y17 y18 y19 y20 y21 y22 y23 y24 y25 y26 y27 y28 y29 y30) (storagebarterlaw29_SlotWalks.l0 (k + 1) y0 y1 y2 y3 y4 y5 y6 y7 y8 y9 y10 y11 y12 y13 y14 y15 y16 y17 y18 y19 y20 y21 y22 y23 y24 y25 y26 y27 y28 y29 y30)) ∧ (∀ y0 y1 y2 y3 y4 y5 y6 y7 y8 y9 y10 y11 y12 y13 y14 y15 y16 y17 y18 y19 y20 y21 y22 y23 y24 y25 y26 y27 y28 y29 y30 y31, LeO (storagebarterlaw29_SlotWalks.j1 k y0 y1 y2 y3 y4 y5 y6 y7 y8 y9 y10 y11 y12 y13 y14 y15 y16 y17 y18 y19 y20 y21 y22 y23 y24 y25 y26 y27 y28 y29 y30 y31) (storagebarterlaw29_SlotWalks.j1 (k + 1) y0 y1 y2 y3 y4 y5 y6 y7 y8 y9 y10 y11 y12 y13 y14 y15 y16 y17 y18 y19 y20 y21 y22 y23 y24 y25 y26 y27 y28 y29 y30 y31)) ∧ (∀ y0 y1 y2 y3 y4 y5 y6 y7 y8 y9 y10 y11 y12 y13 y14 y15 y16 y17 y18 y19 y20 y21 y22 y23 y24 y25 y26 y27 y28 y29 y30 y31 y32, LeO (storagebarterlaw29_SlotWalks.j2 k y0 y1 y2 y3 y4 y5 y6 y7 y8 y9 y10 y11 y12 y13 y14 y15 y16 y17 y18 y19 y20 y21 y22 y23 y24 y25 y26 y27 y28 y29 y30 y31 y32) (storagebarterlaw29_SlotWalks.j2 (k + 1) y0 y1 y2 y3 y4 y5 y6 y7 y8 y9 y10 y11 y12 y13 y14 y15 y16 y17 y18 y19 y20 y21 y22 y23 y24 y25 y26 y27 y28 y29 y30 y31 y32))
 | 0 => ⟨fun _ _ _ _ _ _ _ _ _ _ _ _ _ _ _ _ _ _ _ _ _ _ _ _ _ _ _ _ _ _ _ r h => by simp [storagebarterlaw29_SlotWalks.l0] at h, fun _ _ _ _ _ _ _ _ _ _ _ _ _ _ _ _ _ _ _ _ _ _ _ _ _ _ _ _ _ _ _ _ r h => by simp [storagebarterlaw29_SlotWalks.j1] at h, fun _ _ _ _ _ _ _ _ _ _ _ _ _ _ _ _ _ _ _ _ _ _ _ _ _ _ _ _ _ _ _ _ _ r h => by simp [storagebarterlaw29_SlotWalks.j2] at h⟩
 | k + 1 => by
  obtain ⟨ih0, ih1, ih2⟩ := storagebarterlaw29_SlotWalks.mono_l k
  refine ⟨?_, ?_, ?_⟩
  ·intro y0 y1 y2 y3 y4 y5 y6 y7 y8 y9 y10 y11 y12 y13 y14 y15 y16 y17 y18 y19 y20 y21 y22 y23 y24 y25 y26 y27 y28 y29 y30
   unfold storagebarterlaw29_SlotWalks.l0
   repeat' first
   | (with_reducible exact ih0 _ _ _ _ _ _ _ _ _ _ _ _ _ _ _ _ _ _ _ _ _ _ _ _ _ _ _ _ _ _ _)
   | (with_reducible exact ih1 _ _ _ _ _ _ _ _ _ _ _ _ _ _ _ _ _ _ _ _ _ _ _ _ _ _ _ _ _ _ _ _)
   | (with_reducible exact ih2 _ _ _ _ _ _ _ _ _ _ _ _ _ _ _ _ _ _ _ _ _ _ _ _ _ _ _ _ _ _ _ _ _)
   | (with_reducible exact slot_New.mono _ _ _ _ _ _)
   | (with_reducible exact slot_Step.mono _ _ _ _ _ _ _ _ _ _ _ _ _ _ _ _)
   | (with_reducible exact storagebarterplay_Dice_Arrangement.mono _ _ _ _)
   | (with_reducible exact storagebarterref29_Same.mono _ _ _ _ _ _ _ _ _ _ _ _ _ _ _ _ _ _ _ _ _ _ _ _ _ _ _ _ _)
   | (with_reducible exact storagebarterref29_Step.mono _ _ _ _ _ _ _ _ _ _ _ _ _ _ _ _)
   | (with_reducible exact LeO.refl _)
   | (with_reducible exact LeO.none _)
   | (with_reducible refine LeO.ite ?_ ?_)
   | (with_reducible refine LeO.bind ?_ (fun _ => ?_))
   | exact ih0 _ _ _ _ _ _ _ _ _ _ _ _ _ _ _ _ _ _ _ _ _ _ _ _ _ _ _ _ _ _ _
   | exact ih1 _ _ _ _ _ _ _ _ _ _ _ _ _ _ _ _ _ _ _ _ _ _ _ _ _ _ _ _ _ _ _ _
   | exact ih2 _ _ _ _ _ _ _ _ _ _ _ _ _ _ _ _ _ _ _ _ _ _ _ _ _ _ _ _ _ _ _ _ _
   | exact slot_New.mono _ _ _ _ _ _
   | exact slot_Step.mono _ _ _ _ _ _ _ _ _ _ _ _ _ _ _ _
   | exact storagebarterplay_Dice_Arrangement.mono _ _ _ _
   | exact storagebarterref29_Same.mono _ _ _ _ _ _ _ _ _ _ _ _ _ _ _ _ _ _ _ _ _ _ _ _ _ _ _ _ _
   | exact storagebarterref29_Step.mono _ _ _ _ _ _ _ _ _ _ _ _ _ _ _ _
   | exact LeO.none _
   | refine LeO.ite ?_ ?_
   | refine LeO.bind ?_ (fun _ => ?_)
  ·intro y0 y1 y2 y3 y4 y5 y6 y7 y8 y9 y10 y11 y12 y13 y14 y15 y16 y17 y18 y19 y20 y21 y22 y23 y24 y25 y26 y27 y28 y29 y30 y31
   unfold storagebarterlaw29_SlotWalks.j1
   repeat' first
   | (with_reducible exact ih0 _ _ _ _ _ _ _ _ _ _ _ _ _ _ _ _ _ _ _ _ _ _ _ _ _ _ _ _ _ _ _)
   | (with_reducible exact ih1 _ _ _ _ _ _ _ _ _ _ _ _ _ _ _ _ _ _ _ _ _ _ _ _ _ _ _ _ _ _ _ _)
   | (with_reducible exact ih2 _ _ _ _ _ _ _ _ _ _ _ _ _ _ _ _ _ _ _ _ _ _ _ _ _ _ _ _ _ _ _ _ _)
   | (with_reducible exact slot_New.mono _ _ _ _ _ _)
   | (with_reducible exact slot_Step.mono _ _ _ _ _ _ _ _ _ _ _ _ _ _ _ _)
   | (with_reducible exact storagebarterplay_Dice_Arrangement.mono _ _ _ _)
   | (with_reducible exact storagebarterref29_Same.mono _ _ _ _ _ _ _ _ _ _ _ _ _ _ _ _ _ _ _ _ _ _ _ _ _ _ _ _ _)
   | (with_reducible exact storagebarterref29_Step.mono _ _ _ _ _ _ _ _ _ _ _ _ _ _ _ _)
   | (with_reducible exact LeO.refl _)
   | (with_reducible exact LeO.none _)
   | (with_reducible refine LeO.ite ?_ ?_)
   | (with_reducible refine LeO.bind ?_ (fun _ => ?_))
   | exact ih0 _ _ _ _ _ _ _ _ _ _ _ _ _ _ _ _ _ _ _ _ _ _ _ _ _ _ _ _ _ _ _
   | exact ih1 _ _ _ _ _ _ _ _ _ _ _ _ _ _ _ _ _ _ _ _ _ _ _ _ _ _ _ _ _ _ _ _
   | exact ih2 _ _ _ _ _ _ _ _ _ _ _ _ _ _ _ _ _ _ _ _ _ _ _ _ _ _ _ _ _ _ _ _ _
   | exact slot_New.mono _ _ _ _ _ _
   | exact slot_Step.mono _ _ _ _ _ _ _ _ _ _ _ _ _ _ _ _
   | exact storagebarterplay_Dice_Arrangement.mono _ _ _ _
   | exact storagebarterref29_Same.mono _ _ _ _ _ _ _ _ _ _ _ _ _ _ _ _ _ _ _ _ _ _ _ _ _ _ _ _ _
   | exact storagebarterref29_Step.mono _ _ _ _ _ _ _ _ _ _ _ _ _ _ _ _
   | exact LeO.none _
   | refine LeO.ite ?_ ?_
   | refine LeO.bind ?_ (fun _ => ?_)
  ·intro y0 y1 y2 y3 y4 y5 y6 y7 y8 y9 y10 y11 y12 y13 y14 y15 y16 y17 y18 y19 y20 y21 y22 y23 y24 y25 y26 y27 y28 y29 y30 y31 y32
   unfold storagebarterlaw29_SlotWalks.j2
   repeat' first
   | (with_reducible exact ih0 _ _ _ _ _ _ _ _ _ _ _ _ _ _ _ _ _ _ _ _ _ _ _ _ _ _ _ _ _ _ _)
   | (with_reducible exact ih1 _ _ _ _ _ _ _ _ _ _ _ _ _ _ _ _ _ _ _ _ _ _ _ _ _ _ _ _ _ _ _ _)
   | (with_reducible exact ih2 _ _ _ _ _ _ _ _ _ _ _ _ _ _ _ _ _ _ _ _ _ _ _ _ _ _ _ _ _ _ _ _ _)
   | (with_reducible exact slot_New.mono _ _ _ _ _ _)
   | (with_reducible exact slot_Step.mono _ _ _ _ _ _ _ _ _ _ _ _ _ _ _ _)
   | (with_reducible exact storagebarterplay_Dice_Arrangement.mono _ _ _ _)
   | (with_reducible exact storagebarterref29_Same.mono _ _ _ _ _ _ _ _ _ _ _ _ _ _ _ _ _ _ _ _ _ _ _ _ _ _ _ _ _)
   | (with_reducible exact storagebarterref29_Step.mono _ _ _ _ _ _ _ _ _ _ _ _ _ _ _ _)
   | (with_reducible exact LeO.refl _)
   | (with_reducible exact LeO.none _)
   | (with_reducible refine LeO.ite ?_ ?_)
   | (with_reducible refine LeO.bind ?_ (fun _ => ?_))
   | exact ih0 _ _ _ _ _ _ _ _ _ _ _ _ _ _ _ _ _ _ _ _ _ _ _ _ _ _ _ _ _ _ _
   | exact ih1 _ _ _ _ _ _ _ _ _ _ _ _ _ _ _ _ _ _ _ _ _ _ _ _ _ _ _ _ _ _ _ _
   | exact ih2 _ _ _ _ _ _ _ _ _ _ _ _ _ _ _ _ _ _ _ _ _ _ _ _ _ _ _ _ _ _ _ _ _
   | exact slot_New.mono _ _ _ _ _ _
   | exact slot_Step.mono _ _ _ _ _ _ _ _ _ _ _ _ _ _ _ _
   | exact storagebarterplay_Dice_Arrangement.mono _ _ _ _
   | exact storagebarterref29_Same.mono _ _ _ _ _ _ _ _ _ _ _ _ _ _ _ _ _ _ _ _ _ _ _ _ _ _ _ _ _
   | exact storagebarterref29_Step.mono _ _ _ _ _ _ _ _ _ _ _ _ _ _ _ _
   | exact LeO.none _
   | refine LeO.ite ?_ ?_
   | refine LeO.bind ?_ (fun _ => ?_)
theorem storagebarterlaw29_SlotWalks.mono : ∀ a0 k, LeO (storagebarterlaw29_SlotWalks.f k a0) (storagebarterlaw29_SlotWalks.f (k + 1) a0) := by
 intro a0 k
 obtain ⟨ih0, ih1, ih2⟩ := storagebarterlaw29_SlotWalks.mono_l k
 unfold storagebarterlaw29_SlotWalks.f
 repeat' first
   | (with_reducible exact ih0 _ _ _ _ _ _ _ _ _ _ _ _ _ _ _ _ _ _ _ _ _ _ _ _ _ _ _ _ _ _ _)
   | (with_reducible exact ih1 _ _ _ _ _ _ _ _ _ _ _ _ _ _ _ _ _ _ _ _ _ _ _ _ _ _ _ _ _ _ _ _)
   | (with_reducible exact ih2 _ _ _ _ _ _ _ _ _ _ _ _ _ _ _ _ _ _ _ _ _ _ _ _ _ _ _ _ _ _ _ _ _)
   | (with_reducible exact slot_New.mono _ _ _ _ _ _)
   | (with_reducible exact slot_Step.mono _ _ _ _ _ _ _ _ _ _ _ _ _ _ _ _)
   | (with_reducible exact storagebarterplay_Dice_Arrangement.mono _ _ _ _)
   | (with_reducible exact storagebarterref29_Same.mono _ _ _ _ _ _ _ _ _ _ _ _ _ _ _ _ _ _ _ _ _ _ _ _ _ _ _ _ _)
   | (with_reducible exact storagebarterref29_Step.mono _ _ _ _ _ _ _ _ _ _ _ _ _ _ _ _)
   | (with_reducible exact LeO.refl _)
   | (with_reducible exact LeO.none _)
   | (with_reducible refine LeO.ite ?_ ?_)
   | (with_reducible refine LeO.bind ?_ (fun _ => ?_))
   | exact ih0 _ _ _ _ _ _ _ _ _ _ _ _ _ _ _ _ _ _ _ _ _ _ _ _ _ _ _ _ _ _ _
   | exact ih1 _ _ _ _ _ _ _ _ _ _ _ _ _ _ _ _ _ _ _ _ _ _ _ _ _ _ _ _ _ _ _ _
   | exact ih2 _ _ _ _ _ _ _ _ _ _ _ _ _ _ _ _ _ _ _ _ _ _ _ _ _ _ _ _ _ _ _ _ _
   | exact slot_New.mono _ _ _ _ _ _
   | exact slot_Step.mono _ _ _ _ _ _ _ _ _ _ _ _ _ _ _ _
   | exact storagebarterplay_Dice_Arrangement.mono _ _ _ _
   | exact storagebarterref29_Same.mono _ _ _ _ _ _ _ _ _ _ _ _ _ _ _ _ _ _ _ _ _ _ _ _ _ _ _ _ _
   | exact storagebarterref29_Step.mono _ _ _ _ _ _ _ _ _ _ _ _ _ _ _ _
   | exact LeO.none _
   | refine LeO.ite ?_ ?_
   | refine LeO.bind ?_ (fun _ => ?_)
class Up8 (W W1 : World) : Prop where
 below : Below W.heap.size W W1
instance (W : World) : Up8 W W := ⟨Below.refl _ _⟩
instance (W W1 : World) [h : Up8 W W1] (o : Obj) : Up8 W (W1.alloc o) := ⟨below_alloc h.below o⟩
instance (W W1 : World) [h : Up8 W W1] : Up8 W W1.drew := ⟨h.below.trans (below_drew (Below.refl _ _))⟩
instance (W W1 : World) [h : Up8 W W1] (n : Nat) : Up8 W (W1.drewN n) := ⟨pw_below_drewN h.below n⟩
theorem bU8 {W W1 : World} {g : Nat} {o : Obj} [u : Up8 W W1] (h : W.heap[g]? = some o) : W1.heap[g]? = some o := (u.below.block g (blk_lt h)).trans h
theorem hU8 {w W W1 : World} [u : Up8 W W1] (h : Below w.heap.size w W) : Below w.heap.size w W1 := below_step h u.below
theorem cU8 {α : Type} {d : Kd α} {A : Option Addr} {n : Nat} {xs : List α} {W W1 : World} [u : Up8 W W1] (h : d.C W A n xs) : d.C W1 A n xs := Kd.C_below h u.below
theorem rU8 {α : Type} {d : Kd α} {e base : Nat} {ok : Nat → Prop} {v : Value} {xs : List α} {W W1 : World} [u : Up8 W W1] (h : d.R e W base ok v xs) : d.R e W1 base ok v xs := Kd.R_below h u.below
theorem vU8 {α : Type} {d : Kd α} {e base : Nat} {ok : Nat → Prop} {v : Value} {xs : List α} {W W1 : World} [u : Up8 W W1] (h : d.V e W base ok v xs) : d.V e W1 base ok v xs := Kd.V_below h u.below
set_option maxHeartbeats 60000000 in
set_option maxRecDepth 100000 in
theorem storagebarterlaw29_SlotWalks.calls (k : Nat) (A0 : Option Addr) (c0 : Nat) (l0 : List Int) (r : Bool) (w : World) (hr0 : Kd.C (Kd.int .u8) w A0 l0.length l0) (hc0 : l0.length ≤ c0) (h : storagebarterlaw29_SlotWalks.f k l0 = some r) (hrt_ : r = true) (hL_ : Laid w) :
  Calls Tryd.prog 8 #[.slice A0 l0.length c0] w fun e w' => e = .returned (.bool r) ∧ Below w.heap.size w w' := by
 have HL_ := Aside0.mk hL_
 clear hL_
 have HRT_ := Aside0.mk hrt_
 clear hrt_
 have hu54 := Tryd.underlying54
 have HR0 := Aside0.mk hr0
 have HC0 := Aside0.mk hc0
 clear hr0 hc0
 have HB := Aside0.mk (Below.refl w.heap.size w)
 have H : ((storagebarterlaw29_sane.f).bind fun t278 => (if t278 = true then ((storagebarterplay_New.f l0).bind fun bt279 => ((storagebarterplay_Dice_Arrangement.f k bt279.1 bt279.2 4).bind fun bt282 => ((slot_New.f k bt282.1 bt282.2.1 bt282.2.2.1 bt282.2.2.2.1 bt282.2.2.2.2.1).bind fun bt290 => (if bt290.2.2.2.2.2.2.2.2.2.2.2.2.2.2 = 0 then (storagebarterlaw29_SlotWalks.l0 k 0 bt279.1 bt282.2.2.2.2.2 bt290.1 bt290.2.1 bt290.2.2.1 bt290.2.2.2.1 bt290.2.2.2.2.1 bt290.2.2.2.2.2.1 bt290.2.2.2.2.2.2.1 bt290.2.2.2.2.2.2.2.1 bt290.2.2.2.2.2.2.2.2.1 bt290.2.2.2.2.2.2.2.2.2.1 bt290.2.2.2.2.2.2.2.2.2.2.1 bt290.2.2.2.2.2.2.2.2.2.2.2.1 bt290.2.2.2.2.2.2.2.2.2.2.2.2.1 bt290.2.2.2.2.2.2.2.2.2.2.2.2.2.1 bt290.1 bt290.2.1 bt290.2.2.1 bt290.2.2.2.1 bt290.2.2.2.2.1 bt290.2.2.2.2.2.1 bt290.2.2.2.2.2.2.1 bt290.2.2.2.2.2.2.2.1 bt290.2.2.2.2.2.2.2.2.1 bt290.2.2.2.2.2.2.2.2.2.1 bt290.2.2.2.2.2.2.2.2.2.2.1 bt290.2.2.2.2.2.2.2.2.2.2.2.1 bt290.2.2.2.2.2.2.2.2.2.2.2.2.1 bt290.2.2.2.2.2.2.2.2.2.2.2.2.2.1) else (some false))))) else (some false))) = some r := h
 clear h
 replace H := Option.bind_eq_some_iff.mp H
 obtain ⟨t278, A20, H⟩ := H
 replace H : (if t278 = true then ((storagebarterplay_New.f l0).bind fun bt279 => ((storagebarterplay_Dice_Arrangement.f k bt279.1 bt279.2 4).bind fun bt282 => ((slot_New.f k bt282.1 bt282.2.1 bt282.2.2.1 bt282.2.2.2.1 bt282.2.2.2.2.1).bind fun bt290 => (if bt290.2.2.2.2.2.2.2.2.2.2.2.2.2.2 = 0 then (storagebarterlaw29_SlotWalks.l0 k 0 bt279.1 bt282.2.2.2.2.2 bt290.1 bt290.2.1 bt290.2.2.1 bt290.2.2.2.1 bt290.2.2.2.2.1 bt290.2.2.2.2.2.1 bt290.2.2.2.2.2.2.1 bt290.2.2.2.2.2.2.2.1 bt290.2.2.2.2.2.2.2.2.1 bt290.2.2.2.2.2.2.2.2.2.1 bt290.2.2.2.2.2.2.2.2.2.2.1 bt290.2.2.2.2.2.2.2.2.2.2.2.1 bt290.2.2.2.2.2.2.2.2.2.2.2.2.1 bt290.2.2.2.2.2.2.2.2.2.2.2.2.2.1 bt290.1 bt290.2.1 bt290.2.2.1 bt290.2.2.2.1 bt290.2.2.2.2.1 bt290.2.2.2.2.2.1 bt290.2.2.2.2.2.2.1 bt290.2.2.2.2.2.2.2.1 bt290.2.2.2.2.2.2.2.2.1 bt290.2.2.2.2.2.2.2.2.2.1 bt290.2.2.2.2.2.2.2.2.2.2.1 bt290.2.2.2.2.2.2.2.2.2.2.2.1 bt290.2.2.2.2.2.2.2.2.2.2.2.2.1 bt290.2.2.2.2.2.2.2.2.2.2.2.2.2.1) else (some false))))) else (some false)) = some r := H
 have A2 := Aside0.mk A20
 clear A20
 by_cases c3 : t278 = true
 case neg =>
  replace c3 := Bool.eq_false_iff.mpr c3
  subst c3
  have H1 : (some false) = some r := by rw [if_neg (show ¬ (false = true) by decide)] at H; exact H
  clear H
  have H := H1
  clear H1
  exact absurd (Option.some.inj H) (by rw [HRT_.out]; decide)

 subst c3
 have H1 : ((storagebarterplay_New.f l0).bind fun bt279 => ((storagebarterplay_Dice_Arrangement.f k bt279.1 bt279.2 4).bind fun bt282 => ((slot_New.f k bt282.1 bt282.2.1 bt282.2.2.1 bt282.2.2.2.1 bt282.2.2.2.2.1).bind fun bt290 => (if bt290.2.2.2.2.2.2.2.2.2.2.2.2.2.2 = 0 then (storagebarterlaw29_SlotWalks.l0 k 0 bt279.1 bt282.2.2.2.2.2 bt290.1 bt290.2.1 bt290.2.2.1 bt290.2.2.2.1 bt290.2.2.2.2.1 bt290.2.2.2.2.2.1 bt290.2.2.2.2.2.2.1 bt290.2.2.2.2.2.2.2.1 bt290.2.2.2.2.2.2.2.2.1 bt290.2.2.2.2.2.2.2.2.2.1 bt290.2.2.2.2.2.2.2.2.2.2.1 bt290.2.2.2.2.2.2.2.2.2.2.2.1 bt290.2.2.2.2.2.2.2.2.2.2.2.2.1 bt290.2.2.2.2.2.2.2.2.2.2.2.2.2.1 bt290.1 bt290.2.1 bt290.2.2.1 bt290.2.2.2.1 bt290.2.2.2.2.1 bt290.2.2.2.2.2.1 bt290.2.2.2.2.2.2.1 bt290.2.2.2.2.2.2.2.1 bt290.2.2.2.2.2.2.2.2.1 bt290.2.2.2.2.2.2.2.2.2.1 bt290.2.2.2.2.2.2.2.2.2.2.1 bt290.2.2.2.2.2.2.2.2.2.2.2.1 bt290.2.2.2.2.2.2.2.2.2.2.2.2.1 bt290.2.2.2.2.2.2.2.2.2.2.2.2.2.1) else (some false))))) = some r := by rw [if_pos rfl] at H; exact H
 clear H
 have H := H1
 clear H1
 replace H := Option.bind_eq_some_iff.mp H
 obtain ⟨⟨t279, t280⟩, A40, H⟩ := H
 replace H : ((storagebarterplay_Dice_Arrangement.f k t279 t280 4).bind fun bt282 => ((slot_New.f k bt282.1 bt282.2.1 bt282.2.2.1 bt282.2.2.2.1 bt282.2.2.2.2.1).bind fun bt290 => (if bt290.2.2.2.2.2.2.2.2.2.2.2.2.2.2 = 0 then (storagebarterlaw29_SlotWalks.l0 k 0 t279 bt282.2.2.2.2.2 bt290.1 bt290.2.1 bt290.2.2.1 bt290.2.2.2.1 bt290.2.2.2.2.1 bt290.2.2.2.2.2.1 bt290.2.2.2.2.2.2.1 bt290.2.2.2.2.2.2.2.1 bt290.2.2.2.2.2.2.2.2.1 bt290.2.2.2.2.2.2.2.2.2.1 bt290.2.2.2.2.2.2.2.2.2.2.1 bt290.2.2.2.2.2.2.2.2.2.2.2.1 bt290.2.2.2.2.2.2.2.2.2.2.2.2.1 bt290.2.2.2.2.2.2.2.2.2.2.2.2.2.1 bt290.1 bt290.2.1 bt290.2.2.1 bt290.2.2.2.1 bt290.2.2.2.2.1 bt290.2.2.2.2.2.1 bt290.2.2.2.2.2.2.1 bt290.2.2.2.2.2.2.2.1 bt290.2.2.2.2.2.2.2.2.1 bt290.2.2.2.2.2.2.2.2.2.1 bt290.2.2.2.2.2.2.2.2.2.2.1 bt290.2.2.2.2.2.2.2.2.2.2.2.1 bt290.2.2.2.2.2.2.2.2.2.2.2.2.1 bt290.2.2.2.2.2.2.2.2.2.2.2.2.2.1) else (some false)))) = some r := H
 have A4 := Aside0.mk A40
 clear A40
 replace H := Option.bind_eq_some_iff.mp H
 obtain ⟨⟨t282, t283, t284, t285, t286, t289⟩, A50, H⟩ := H
 replace H : ((slot_New.f k t282 t283 t284 t285 t286).bind fun bt290 => (if bt290.2.2.2.2.2.2.2.2.2.2.2.2.2.2 = 0 then (storagebarterlaw29_SlotWalks.l0 k 0 t279 t289 bt290.1 bt290.2.1 bt290.2.2.1 bt290.2.2.2.1 bt290.2.2.2.2.1 bt290.2.2.2.2.2.1 bt290.2.2.2.2.2.2.1 bt290.2.2.2.2.2.2.2.1 bt290.2.2.2.2.2.2.2.2.1 bt290.2.2.2.2.2.2.2.2.2.1 bt290.2.2.2.2.2.2.2.2.2.2.1 bt290.2.2.2.2.2.2.2.2.2.2.2.1 bt290.2.2.2.2.2.2.2.2.2.2.2.2.1 bt290.2.2.2.2.2.2.2.2.2.2.2.2.2.1 bt290.1 bt290.2.1 bt290.2.2.1 bt290.2.2.2.1 bt290.2.2.2.2.1 bt290.2.2.2.2.2.1 bt290.2.2.2.2.2.2.1 bt290.2.2.2.2.2.2.2.1 bt290.2.2.2.2.2.2.2.2.1 bt290.2.2.2.2.2.2.2.2.2.1 bt290.2.2.2.2.2.2.2.2.2.2.1 bt290.2.2.2.2.2.2.2.2.2.2.2.1 bt290.2.2.2.2.2.2.2.2.2.2.2.2.1 bt290.2.2.2.2.2.2.2.2.2.2.2.2.2.1) else (some false))) = some r := H
 have A5 := Aside0.mk A50
 clear A50
 replace H := Option.bind_eq_some_iff.mp H
 obtain ⟨⟨t290, t291, t292, t293, t294, t297, t298, t299, t300, t301, t302, t303, t304, t305, t306⟩, A60, H⟩ := H
 replace H : (if t306 = 0 then (storagebarterlaw29_SlotWalks.l0 k 0 t279 t289 t290 t291 t292 t293 t294 t297 t298 t299 t300 t301 t302 t303 t304 t305 t290 t291 t292 t293 t294 t297 t298 t299 t300 t301 t302 t303 t304 t305) else (some false)) = some r := H
 have A6 := Aside0.mk A60
 clear A60
 by_cases c7 : t306 = 0
 case neg =>
  rw [if_neg c7] at H
  have c7b0 : (t306 == 0) = false := beq_eq_false_iff_ne.mpr c7
  have c7b1 : (t306 != 0) = true := bne_iff_ne.mpr c7
  exact absurd (Option.some.inj H) (by rw [HRT_.out]; decide)
 rw [if_pos c7] at H
 have c7b0 : (t306 == 0) = true := beq_iff_eq.mpr c7
 have c7b1 : (t306 != 0) = false := bne_eq_false_iff_eq.mpr c7
 clear c7
 have H' := Aside0.mk H
 clear H
 go_enter Tryd.func8, Tryd.ntmps8
 go_wp2_with (first | ((with_reducible refine gate_callee (f := 35) rfl ?_); refine goesL_ (some 13) rfl rfl Tryd.func35 (by kernel_rfl) rfl #[] rfl (by (try simp only [List.map_toArray, List.map_cons, List.map_nil]); first | done | rfl | (simp only [List.length_drop, List.length_take]; rfl)) ?_; (with_reducible refine (storagebarterlaw29_sane.calls  true _ A2.out (by first | exact HL_.out | exact laid_below HL_.out (by repeat (first | (with_reducible first | exact HB.out | apply below_alloc | apply pw_below_drewN | apply below_drew1) | refine below_set ?_ (Aside0.out (by assumption)) | exact HB.out)) | exact laid_drawn HL_.out HD.out | exact laid_drawn HL_.out (HD.out.step _))).mono ?_); rintro e w8 ⟨rfl, hb⟩; refine ⟨_, rfl, ?_⟩; have n0_ := Aside0.mk (below_step (hU8 HB.out) hb); clear HB; have HB := n0_; clear n0_; (try clear hb); (try clear hb2); (try clear hk); (try clear hi); (try clear hgw)) | ((with_reducible refine gate_callee (f := 17) rfl ?_); refine goesL_ (some 16) rfl rfl Tryd.func17 (by kernel_rfl) rfl #[.slice A0 l0.length c0] rfl (by (try simp only [List.map_toArray, List.map_cons, List.map_nil]); first | done | rfl | (simp only [List.length_drop, List.length_take]; rfl)) ?_; (with_reducible refine (storagebarterplay_New.calls _ _ l0 t279 t280 w _ ?side1 ?side2 ?side3 A4.out).mono ?_); (case side1 => repeat (first | (with_reducible first | exact HB.out | apply below_alloc | apply pw_below_drewN | apply below_drew1) | exact HB.out)); (case side2 => exact HR0.out); (case side3 => exact HC0.out); rintro e w9 ⟨g281, rfl, hi, hb, hb2, hgw⟩; refine ⟨_, rfl, ?_⟩; have n0_ := Aside0.mk (hb); have n1_ := Aside0.mk (hi); clear HB; have HB := n0_; have HI281 := n1_; clear n0_ n1_; (try clear hb); (try clear hb2); (try clear hk); (try clear hi); (try clear hgw)) | ((with_reducible refine gate_callee (f := 18) rfl ?_); refine goesL_ (some 19) rfl rfl Tryd.func18 (by kernel_rfl) rfl #[.pointer (some ⟨g281, 0, none⟩), .int .i64 4] rfl (by (try simp only [List.map_toArray, List.map_cons, List.map_nil]); first | done | rfl | (simp only [List.length_drop, List.length_take]; rfl)) ?_; (with_reducible refine (storagebarterplay_Dice_Arrangement.calls k g281 t279 t280 4 t282 t283 t284 t285 t286 t289 w _ ?side1 ?side2 A5.out).mono ?_); (case side1 => repeat (first | (with_reducible first | exact HI281.out | apply IsS88.alloc | apply IsS88.drewN | apply IsS88.drew | apply IsS88.set_1) | exact HI281.out)); (case side2 => repeat (first | (with_reducible first | exact HB.out | apply below_alloc | apply pw_below_drewN | apply below_drew1 | refine below_set ?_ (IsS88.ge HI281.out)) | exact HB.out)); rintro e w10 ⟨v287, rfl, ho0, hi, hb, hk⟩; refine ⟨_, rfl, ?_⟩; have n0_ := Aside0.mk (Kd.R_lower ho0 (below_size (by repeat (first | (with_reducible first | exact HB.out | apply below_alloc | apply pw_below_drewN | apply below_drew1 | refine below_set ?_ (IsS88.ge HI281.out)) | exact HB.out)))); have n1_ := Aside0.mk (hb); have n2_ := Aside0.mk (hi); clear HB; clear HI281; have HO288 := n0_; have HB := n1_; have HI281 := n2_; clear n0_ n1_ n2_; (try clear hb); (try clear hb2); (try clear hk); (try clear hi); (try clear hgw); (try clear ho0); obtain ⟨Ao11, co11, eo11⟩ := Kd.R_slice HO288.out; subst eo11) | ((with_reducible refine gate_callee (f := 36) rfl ?_); refine goesL_ (some 20) rfl rfl Tryd.func36 (by kernel_rfl) rfl #[.agg #[.int .i64 t282, .int .i64 t283, .int .i64 t284, .int .i64 t285, .slice Ao11 t286.length co11]] rfl (by (try simp only [List.map_toArray, List.map_cons, List.map_nil]); first | done | rfl | (simp only [List.length_drop, List.length_take]; rfl)) ?_; (with_reducible refine (slot_New.calls k t282 t283 t284 t285 _ _ t286 t290 t291 t292 t293 t294 t297 t298 t299 t300 t301 t302 t303 t304 t305 t306 _ ?side1 ?side2 A6.out).mono ?_); (case side1 => first | exact (Kd.R_reads' HO288.out).2.2 | exact cU8 (Kd.R_reads' HO288.out).2.2); (case side2 => exact (Kd.R_reads' HO288.out).2.1); rintro e w12 ⟨v295, rfl, ho0, hb⟩; refine ⟨_, rfl, ?_⟩; have n0_ := Aside0.mk (Kd.R_elder' (rU8 HO288.out) (Kd.R_base ho0) hb); have n1_ := Aside0.mk (Kd.R_lower (Kd.R_new' ho0 (Kd.R_lt (rU8 HO288.out))) (below_size (by repeat (first | (with_reducible first | exact HB.out | apply below_alloc | apply pw_below_drewN | apply below_drew1 | refine below_set ?_ (IsS88.ge HI281.out)) | exact HB.out)))); have n2_ := Aside0.mk (IsS88.below (by repeat (first | (with_reducible first | exact HI281.out | apply IsS88.alloc | apply IsS88.drewN | apply IsS88.drew | apply IsS88.set_1) | exact HI281.out)) hb); have n3_ := Aside0.mk (below_step (by repeat (first | (with_reducible first | exact HB.out | apply below_alloc | apply pw_below_drewN | apply below_drew1 | refine below_set ?_ (IsS88.ge HI281.out)) | exact HB.out)) hb); clear HO288; clear HI281; clear HB; have HO288 := n0_; have HO296 := n1_; have HI281 := n2_; have HB := n3_; clear n0_ n1_ n2_ n3_; (try clear hb); (try clear hb2); (try clear hk); (try clear hi); (try clear hgw); (try clear ho0)) | ((with_reducible refine gate_dst (N := 4) rfl ?_); refine box_event ?hg (N := 4) ?hd (cs := #[.int .i64 0, .int .i64 0, .int .i64 0, .int .i64 0, .slice none 0 0, .int .i64 0, .int .i64 0, .int .i64 0, .bool false, .bool false, .bool false, .bool false, .bool false, .int .i64 0]) (t := 54) ?hr ?_; (case hd => rfl); (case hg => rfl); (case hr => first | (go_simp; done) | (go_simp; rfl)); intro gb307 hg w13 hbox hb; have n0_ := Aside0.mk (Kd.R_below (rU8 HO288.out) hb); have n1_ := Aside0.mk (Kd.R_below (rU8 HO296.out) hb); have n2_ := Aside0.mk (IsS88.below (by repeat (first | (with_reducible first | exact HI281.out | apply IsS88.alloc | apply IsS88.drewN | apply IsS88.drew | apply IsS88.set_1) | exact HI281.out)) hb); have n3_ := Aside0.mk (below_step (by repeat (first | (with_reducible first | exact HB.out | apply below_alloc | apply pw_below_drewN | apply below_drew1 | refine below_set ?_ (IsS88.ge HI281.out)) | exact HB.out)) hb); have n4_ := Aside0.mk (hbox); have n5_ := Aside0.mk ((by rw [hg]; exact (below_size (by repeat (first | (with_reducible first | exact HB.out | apply below_alloc | apply pw_below_drewN | apply below_drew1 | refine below_set ?_ (IsS88.ge HI281.out)) | exact HB.out))) : w.heap.size ≤ gb307)); have n6_ := Aside0.mk ((by rw [hg]; exact (below_size (by repeat (first | (with_reducible first | exact HB.out | apply below_alloc | apply pw_below_drewN | apply below_drew1 | refine below_set ?_ (IsS88.ge HI281.out)) | exact HB.out))) : w.heap.size ≤ gb307)); have n7_ := Aside0.mk ((by rw [hg]; exact Nat.ne_of_lt (IsS88.lt (show IsS88 w _ g281 t279 t289 from by repeat (first | (with_reducible first | exact HI281.out | apply IsS88.alloc | apply IsS88.drewN | apply IsS88.drew | apply IsS88.set_1) | exact HI281.out))) : g281 ≠ gb307)); have n8_ := Aside0.mk ((by rw [hg]; exact Nat.ne_of_gt (IsS88.lt (show IsS88 w _ g281 t279 t289 from by repeat (first | (with_reducible first | exact HI281.out | apply IsS88.alloc | apply IsS88.drewN | apply IsS88.drew | apply IsS88.set_1) | exact HI281.out))) : gb307 ≠ g281)); clear HO288; clear HO296; clear HI281; clear HB; have HO288 := n0_; have HO296 := n1_; have HI281 := n2_; have HB := n3_; have BK307 := n4_; have GW307 := n5_; have GE307 := n6_; have NB281_307 := n7_; have NB307_281 := n8_; clear n0_ n1_ n2_ n3_ n4_ n5_ n6_ n7_ n8_; clear hb hbox hg; have hnb14 := NB307_281.out; have hnc14 := NB281_307.out; have hcz15 := cz14 BK307.out; have hfz15 := blk_frozen BK307.out; obtain ⟨Ao16, co16, eo16⟩ := Kd.R_slice HO296.out; subst eo16) | ((with_reducible refine gate_dst (N := 6) rfl ?_); refine box_event ?hg (N := 6) ?hd (cs := #[.int .i64 0, .int .i64 0, .int .i64 0, .int .i64 0, .slice none 0 0, .int .i64 0, .int .i64 0, .int .i64 0, .bool false, .bool false, .bool false, .bool false, .bool false, .int .i64 0]) (t := 54) ?hr ?_; (case hd => rfl); (case hg => rfl); (case hr => first | (go_simp; done) | (go_simp; rfl)); intro gb308 hg w17 hbox hb; have n0_ := Aside0.mk (Kd.R_below (rU8 ((Kd.R_mono (Kd.R_far (p := ⟨gb307, 13, none⟩) (Kd.R_far (p := ⟨gb307, 12, none⟩) (Kd.R_far (p := ⟨gb307, 11, none⟩) (Kd.R_far (p := ⟨gb307, 10, none⟩) (Kd.R_far (p := ⟨gb307, 9, none⟩) (Kd.R_far (p := ⟨gb307, 8, none⟩) (Kd.R_far (p := ⟨gb307, 7, none⟩) (Kd.R_far (p := ⟨gb307, 6, none⟩) (Kd.R_far (p := ⟨gb307, 5, none⟩) (Kd.R_far (p := ⟨gb307, 4, none⟩) (Kd.R_far (p := ⟨gb307, 3, none⟩) (Kd.R_far (p := ⟨gb307, 2, none⟩) (Kd.R_far (p := ⟨gb307, 1, none⟩) (Kd.R_far (p := ⟨gb307, 0, none⟩) (Kd.R_types HO288.out BK307.out (by decide)) (fun _ hk => hk.2) (.int .i64 t290)) (fun _ hk => hk.2) (.int .i64 t291)) (fun _ hk => hk.2) (.int .i64 t292)) (fun _ hk => hk.2) (.int .i64 t293)) (fun _ hk => hk.2) (.slice Ao16 t294.length co16)) (fun _ hk => hk.2) (.int .i64 t297)) (fun _ hk => hk.2) (.int .i64 t298)) (fun _ hk => hk.2) (.int .i64 t299)) (fun _ hk => hk.2) (.bool t300)) (fun _ hk => hk.2) (.bool t301)) (fun _ hk => hk.2) (.bool t302)) (fun _ hk => hk.2) (.bool t303)) (fun _ hk => hk.2) (.bool t304)) (fun _ hk => hk.2) (.int .i64 t305)) (fun _ h_ => h_.1)))) hb); have n1_ := Aside0.mk (Kd.R_below (rU8 ((Kd.R_mono (Kd.R_far (p := ⟨gb307, 13, none⟩) (Kd.R_far (p := ⟨gb307, 12, none⟩) (Kd.R_far (p := ⟨gb307, 11, none⟩) (Kd.R_far (p := ⟨gb307, 10, none⟩) (Kd.R_far (p := ⟨gb307, 9, none⟩) (Kd.R_far (p := ⟨gb307, 8, none⟩) (Kd.R_far (p := ⟨gb307, 7, none⟩) (Kd.R_far (p := ⟨gb307, 6, none⟩) (Kd.R_far (p := ⟨gb307, 5, none⟩) (Kd.R_far (p := ⟨gb307, 4, none⟩) (Kd.R_far (p := ⟨gb307, 3, none⟩) (Kd.R_far (p := ⟨gb307, 2, none⟩) (Kd.R_far (p := ⟨gb307, 1, none⟩) (Kd.R_far (p := ⟨gb307, 0, none⟩) (Kd.R_types HO296.out BK307.out (by decide)) (fun _ hk => hk.2) (.int .i64 t290)) (fun _ hk => hk.2) (.int .i64 t291)) (fun _ hk => hk.2) (.int .i64 t292)) (fun _ hk => hk.2) (.int .i64 t293)) (fun _ hk => hk.2) (.slice Ao16 t294.length co16)) (fun _ hk => hk.2) (.int .i64 t297)) (fun _ hk => hk.2) (.int .i64 t298)) (fun _ hk => hk.2) (.int .i64 t299)) (fun _ hk => hk.2) (.bool t300)) (fun _ hk => hk.2) (.bool t301)) (fun _ hk => hk.2) (.bool t302)) (fun _ hk => hk.2) (.bool t303)) (fun _ hk => hk.2) (.bool t304)) (fun _ hk => hk.2) (.int .i64 t305)) (fun _ h_ => h_.1)))) hb); have n2_ := Aside0.mk (IsS88.below (show IsS88 w ((((((((((((((w13.setCell ⟨gb307, 0, none⟩ (.int .i64 t290)).setCell ⟨gb307, 1, none⟩ (.int .i64 t291)).setCell ⟨gb307, 2, none⟩ (.int .i64 t292)).setCell ⟨gb307, 3, none⟩ (.int .i64 t293)).setCell ⟨gb307, 4, none⟩ (.slice Ao16 t294.length co16)).setCell ⟨gb307, 5, none⟩ (.int .i64 t297)).setCell ⟨gb307, 6, none⟩ (.int .i64 t298)).setCell ⟨gb307, 7, none⟩ (.int .i64 t299)).setCell ⟨gb307, 8, none⟩ (.bool t300)).setCell ⟨gb307, 9, none⟩ (.bool t301)).setCell ⟨gb307, 10, none⟩ (.bool t302)).setCell ⟨gb307, 11, none⟩ (.bool t303)).setCell ⟨gb307, 12, none⟩ (.bool t304)).setCell ⟨gb307, 13, none⟩ (.int .i64 t305)) g281 t279 t289 from by repeat (first | (with_reducible first | exact HI281.out | apply IsS88.alloc | apply IsS88.drewN | apply IsS88.drew | apply IsS88.set_1 | refine IsS88.far ?_ NB281_307.out _) | exact HI281.out)) hb); have n3_ := Aside0.mk (blk_below (g := gb307) (o := .cells #[.int .i64 t290, .int .i64 t291, .int .i64 t292, .int .i64 t293, .slice Ao16 t294.length co16, .int .i64 t297, .int .i64 t298, .int .i64 t299, .bool t300, .bool t301, .bool t302, .bool t303, .bool t304, .int .i64 t305] 54 (0, 0)) (by (with_reducible repeat (first | refine blk_drewN ?_ _ | refine blk_drew ?_ | refine blk_alloc ?_ _)); first | exact blk_all14 (blk_drewN BK307.out nd) _ _ _ _ _ _ _ _ _ _ _ _ _ _ | exact blk_all14 BK307.out _ _ _ _ _ _ _ _ _ _ _ _ _ _ | exact blk_all14 (bU8 BK307.out) _ _ _ _ _ _ _ _ _ _ _ _ _ _ | exact blk_all14 (blk_up BK307.out) _ _ _ _ _ _ _ _ _ _ _ _ _ _) hb); have n4_ := Aside0.mk (below_step (by repeat (first | (with_reducible first | exact HB.out | apply below_alloc | apply pw_below_drewN | apply below_drew1 | refine below_set ?_ (IsS88.ge HI281.out) | refine below_set ?_ GE307.out) | exact HB.out)) hb); have n5_ := Aside0.mk (hbox); have n6_ := Aside0.mk ((by rw [hg]; exact (below_size (by repeat (first | (with_reducible first | exact HB.out | apply below_alloc | apply pw_below_drewN | apply below_drew1 | refine below_set ?_ (IsS88.ge HI281.out) | refine below_set ?_ GE307.out) | exact HB.out))) : w.heap.size ≤ gb308)); have n7_ := Aside0.mk ((by rw [hg]; exact (below_size (by repeat (first | (with_reducible first | exact HB.out | apply below_alloc | apply pw_below_drewN | apply below_drew1 | refine below_set ?_ (IsS88.ge HI281.out) | refine below_set ?_ GE307.out) | exact HB.out))) : w.heap.size ≤ gb308)); have n8_ := Aside0.mk ((by rw [hg]; exact Nat.ne_of_lt (blk_lt (g := gb307) (o := .cells #[.int .i64 t290, .int .i64 t291, .int .i64 t292, .int .i64 t293, .slice Ao16 t294.length co16, .int .i64 t297, .int .i64 t298, .int .i64 t299, .bool t300, .bool t301, .bool t302, .bool t303, .bool t304, .int .i64 t305] 54 (0, 0)) (by (with_reducible repeat (first | refine blk_drewN ?_ _ | refine blk_drew ?_ | refine blk_alloc ?_ _)); first | exact blk_all14 (blk_drewN BK307.out nd) _ _ _ _ _ _ _ _ _ _ _ _ _ _ | exact blk_all14 BK307.out _ _ _ _ _ _ _ _ _ _ _ _ _ _ | exact blk_all14 (bU8 BK307.out) _ _ _ _ _ _ _ _ _ _ _ _ _ _ | exact blk_all14 (blk_up BK307.out) _ _ _ _ _ _ _ _ _ _ _ _ _ _)) : gb307 ≠ gb308)); have n9_ := Aside0.mk ((by rw [hg]; exact Nat.ne_of_gt (blk_lt (g := gb307) (o := .cells #[.int .i64 t290, .int .i64 t291, .int .i64 t292, .int .i64 t293, .slice Ao16 t294.length co16, .int .i64 t297, .int .i64 t298, .int .i64 t299, .bool t300, .bool t301, .bool t302, .bool t303, .bool t304, .int .i64 t305] 54 (0, 0)) (by (with_reducible repeat (first | refine blk_drewN ?_ _ | refine blk_drew ?_ | refine blk_alloc ?_ _)); first | exact blk_all14 (blk_drewN BK307.out nd) _ _ _ _ _ _ _ _ _ _ _ _ _ _ | exact blk_all14 BK307.out _ _ _ _ _ _ _ _ _ _ _ _ _ _ | exact blk_all14 (bU8 BK307.out) _ _ _ _ _ _ _ _ _ _ _ _ _ _ | exact blk_all14 (blk_up BK307.out) _ _ _ _ _ _ _ _ _ _ _ _ _ _)) : gb308 ≠ gb307)); have n10_ := Aside0.mk ((by rw [hg]; exact Nat.ne_of_lt (IsS88.lt (show IsS88 w _ g281 t279 t289 from by repeat (first | (with_reducible first | exact HI281.out | apply IsS88.alloc | apply IsS88.drewN | apply IsS88.drew | apply IsS88.set_1 | refine IsS88.far ?_ NB281_307.out _) | exact HI281.out))) : g281 ≠ gb308)); have n11_ := Aside0.mk ((by rw [hg]; exact Nat.ne_of_gt (IsS88.lt (show IsS88 w _ g281 t279 t289 from by repeat (first | (with_reducible first | exact HI281.out | apply IsS88.alloc | apply IsS88.drewN | apply IsS88.drew | apply IsS88.set_1 | refine IsS88.far ?_ NB281_307.out _) | exact HI281.out))) : gb308 ≠ g281)); clear HO288; clear HO296; clear HI281; clear BK307; clear HB; have HO288 := n0_; have HO296 := n1_; have HI281 := n2_; have BK307 := n3_; have HB := n4_; have BK308 := n5_; have GW308 := n6_; have GE308 := n7_; have NB307_308 := n8_; have NB308_307 := n9_; have NB281_308 := n10_; have NB308_281 := n11_; clear n0_ n1_ n2_ n3_ n4_ n5_ n6_ n7_ n8_ n9_ n10_ n11_; clear hb hbox hg; have hnb18 := NB308_307.out; have hnc18 := NB307_308.out; have hnb19 := NB308_281.out; have hnc19 := NB281_308.out; have hcz20 := cz14 BK308.out; have hfz20 := blk_frozen BK308.out))
 go_loopg [7] k (fun kq v7 w' => ∃ (x7_1 : Int) (x282001_1 : Int) (bag : Int) (bah : Int) (baj : Int) (bak : Int) (ba2 : List Int) (bam : Int) (ban : Int) (bap : Int) (baq : Bool) (bar : Bool) (bas : Bool) (bat : Bool) (bau : Bool) (bav : Int) (ba3 : Int) (ba4 : Int) (ba5 : Int) (ba6 : Int) (bax : List Int) (ba7 : Int) (ba8 : Int) (ba9 : Int) (baa : Bool) (bab : Bool) (bac : Bool) (bad : Bool) (bae : Bool) (baf : Int) (u308004 : Value) (bay : Value), v7 = .int .i64 x7_1 ∧ Aside0 (storagebarterlaw29_SlotWalks.l0 kq x7_1 t279 x282001_1 bag bah baj bak ba2 bam ban bap baq bar bas bat bau bav ba3 ba4 ba5 ba6 bax ba7 ba8 ba9 baa bab bac bad bae baf = some r) ∧ Aside0 (kq ≤ k) ∧ Aside0 (Kd.R (Kd.int .i64) 3 w' w.heap.size (fun _ => True) u308004 ba2) ∧ Aside0 (Kd.V (Kd.int .i64) 3 w' w.heap.size (fun k_ => k_ ≠ gb307 ∧ k_ ≠ gb308 ∧ k_ ≠ g281) bay bax) ∧ Aside0 (w'.heap[gb307]? = some (.cells #[.int .i64 bag, .int .i64 bah, .int .i64 baj, .int .i64 bak, u308004, .int .i64 bam, .int .i64 ban, .int .i64 bap, .bool baq, .bool bar, .bool bas, .bool bat, .bool bau, .int .i64 bav] 54 (0, 0))) ∧ Aside0 (w'.heap[gb308]? = some (.cells #[.int .i64 ba3, .int .i64 ba4, .int .i64 ba5, .int .i64 ba6, bay, .int .i64 ba7, .int .i64 ba8, .int .i64 ba9, .bool baa, .bool bab, .bool bac, .bool bad, .bool bae, .int .i64 baf] 54 (0, 0))) ∧ Aside0 (IsS88 w w' g281 t279 x282001_1) ∧ Aside0 (Below w.heap.size w w'))
 case atStart => exact ⟨(0), (t289), (t290), (t291), (t292), (t293), (t294), (t297), (t298), (t299), (t300), (t301), (t302), (t303), (t304), (t305), (t290), (t291), (t292), (t293), (t294), (t297), (t298), (t299), (t300), (t301), (t302), (t303), (t304), (t305), (.slice Ao16 t294.length co16), (.slice Ao16 t294.length co16), (by first | rfl | (simp; done) | (simp [*]; done)), H', ⟨Nat.le_refl _⟩, ⟨by (with_reducible repeat (first | apply Kd.R_alloc | apply Kd.R_drewN | apply Kd.R_drew)); exact Kd.R_mono (Kd.R_far (p := ⟨gb308, 13, none⟩) (Kd.R_far (p := ⟨gb308, 12, none⟩) (Kd.R_far (p := ⟨gb308, 11, none⟩) (Kd.R_far (p := ⟨gb308, 10, none⟩) (Kd.R_far (p := ⟨gb308, 9, none⟩) (Kd.R_far (p := ⟨gb308, 8, none⟩) (Kd.R_far (p := ⟨gb308, 7, none⟩) (Kd.R_far (p := ⟨gb308, 6, none⟩) (Kd.R_far (p := ⟨gb308, 5, none⟩) (Kd.R_far (p := ⟨gb308, 4, none⟩) (Kd.R_far (p := ⟨gb308, 3, none⟩) (Kd.R_far (p := ⟨gb308, 2, none⟩) (Kd.R_far (p := ⟨gb308, 1, none⟩) (Kd.R_far (p := ⟨gb308, 0, none⟩) (Kd.R_types HO296.out BK308.out (by decide)) (fun _ hk => hk.2) (.int .i64 t290)) (fun _ hk => hk.2) (.int .i64 t291)) (fun _ hk => hk.2) (.int .i64 t292)) (fun _ hk => hk.2) (.int .i64 t293)) (fun _ hk => hk.2) (.slice Ao16 t294.length co16)) (fun _ hk => hk.2) (.int .i64 t297)) (fun _ hk => hk.2) (.int .i64 t298)) (fun _ hk => hk.2) (.int .i64 t299)) (fun _ hk => hk.2) (.bool t300)) (fun _ hk => hk.2) (.bool t301)) (fun _ hk => hk.2) (.bool t302)) (fun _ hk => hk.2) (.bool t303)) (fun _ hk => hk.2) (.bool t304)) (fun _ hk => hk.2) (.int .i64 t305)) (fun _ hk => trivial)⟩, ⟨Kd.R_V (rU8 (Kd.R_mono (Kd.R_far (p := ⟨gb308, 13, none⟩) (Kd.R_far (p := ⟨gb308, 12, none⟩) (Kd.R_far (p := ⟨gb308, 11, none⟩) (Kd.R_far (p := ⟨gb308, 10, none⟩) (Kd.R_far (p := ⟨gb308, 9, none⟩) (Kd.R_far (p := ⟨gb308, 8, none⟩) (Kd.R_far (p := ⟨gb308, 7, none⟩) (Kd.R_far (p := ⟨gb308, 6, none⟩) (Kd.R_far (p := ⟨gb308, 5, none⟩) (Kd.R_far (p := ⟨gb308, 4, none⟩) (Kd.R_far (p := ⟨gb308, 3, none⟩) (Kd.R_far (p := ⟨gb308, 2, none⟩) (Kd.R_far (p := ⟨gb308, 1, none⟩) (Kd.R_far (p := ⟨gb308, 0, none⟩) (Kd.R_types (IsS88.apart HI281.out (Kd.R_types (Kd.R_types HO296.out BK307.out (by decide)) BK308.out (by decide)) (by decide)) BK308.out (by decide)) (fun _ hk => hk.2) (.int .i64 t290)) (fun _ hk => hk.2) (.int .i64 t291)) (fun _ hk => hk.2) (.int .i64 t292)) (fun _ hk => hk.2) (.int .i64 t293)) (fun _ hk => hk.2) (.slice Ao16 t294.length co16)) (fun _ hk => hk.2) (.int .i64 t297)) (fun _ hk => hk.2) (.int .i64 t298)) (fun _ hk => hk.2) (.int .i64 t299)) (fun _ hk => hk.2) (.bool t300)) (fun _ hk => hk.2) (.bool t301)) (fun _ hk => hk.2) (.bool t302)) (fun _ hk => hk.2) (.bool t303)) (fun _ hk => hk.2) (.bool t304)) (fun _ hk => hk.2) (.int .i64 t305)) (fun _ hk => ⟨hk.1.1.1.2, ⟨hk.1.1.2, hk.1.2⟩⟩)))⟩, ⟨by (with_reducible repeat (first | refine blk_drewN ?_ _ | refine blk_drew ?_ | refine blk_alloc ?_ _)); refine blk_far14 ?_ NB307_308.out _ _ _ _ _ _ _ _ _ _ _ _ _ _; (with_reducible repeat (first | refine blk_drewN ?_ _ | refine blk_drew ?_ | refine blk_alloc ?_ _)); exact BK307.out⟩, ⟨by (with_reducible repeat (first | refine blk_drewN ?_ _ | refine blk_drew ?_ | refine blk_alloc ?_ _)); first | exact blk_all14 (blk_drewN BK308.out nd) _ _ _ _ _ _ _ _ _ _ _ _ _ _ | exact blk_all14 BK308.out _ _ _ _ _ _ _ _ _ _ _ _ _ _ | exact blk_all14 (bU8 BK308.out) _ _ _ _ _ _ _ _ _ _ _ _ _ _ | exact blk_all14 (blk_up BK308.out) _ _ _ _ _ _ _ _ _ _ _ _ _ _⟩, ⟨by repeat (first | (with_reducible first | exact HI281.out | apply IsS88.alloc | apply IsS88.drewN | apply IsS88.drew | apply IsS88.set_1 | refine IsS88.far ?_ NB281_307.out _ | refine IsS88.far ?_ NB281_308.out _) | exact HI281.out)⟩, ⟨by repeat (first | (with_reducible first | exact HB.out | apply below_alloc | apply pw_below_drewN | apply below_drew1 | refine below_set ?_ (IsS88.ge HI281.out) | refine below_set ?_ (Aside0.out (by assumption))) | exact HB.out)⟩⟩
 case round =>
  clear H'
  try clear c1
  try clear p2
  try clear c3
  try clear c7
  try clear c7b0
  try clear c7b1
  try clear c8
  try clear c14
  try clear c17
  try clear c18
  try clear c19
  try clear hcz15
  try clear hcz20
  try clear hfz15
  try clear hfz20
  obtain ⟨x7_1, x282001_1, bag, bah, baj, bak, ba2, bam, ban, bap, baq, bar, bas, bat, bau, bav, ba3, ba4, ba5, ba6, bax, ba7, ba8, ba9, baa, bab, bac, bad, bae, baf, u308004, bay, rfl, HA, HK1, ba0, ba1, BK307, BK308, HI281, HB⟩ := hrel
  cases gk with
  | zero => exact absurd HA.out (by simp [storagebarterlaw29_SlotWalks.l0])
  | succ k1 =>
   have H := HA.out
   clear HA
   simp only [storagebarterlaw29_SlotWalks.l0] at H
   by_cases c21 : x7_1 < 60
   case neg =>
    rw [if_neg c21] at H
    have c21b0 : decide (x7_1 < 60) = false := decide_eq_false c21
    clear c21
    exact absurd (Option.some.inj H) (by rw [HRT_.out]; decide)
   rw [if_pos c21] at H
   have c21b0 : decide (x7_1 < 60) = true := decide_eq_true c21
   clear c21
   replace H := Option.bind_eq_some_iff.mp H
   obtain ⟨⟨t309, t310⟩, A220, H⟩ := H
   replace H : (if t309 = 0 then ((storagebarterplay_Dice_Pick.f t279 t310 4).bind fun bt311 => (storagebarterlaw29_SlotWalks.j1 k1 x7_1 bt311.1 t279 bt311.2 bag bah baj bak ba2 bam ban bap baq bar bas bat bau bav ba3 ba4 ba5 ba6 bax ba7 ba8 ba9 baa bab bac bad bae baf)) else (storagebarterlaw29_SlotWalks.j1 k1 x7_1 0 t279 t310 bag bah baj bak ba2 bam ban bap baq bar bas bat bau bav ba3 ba4 ba5 ba6 bax ba7 ba8 ba9 baa bab bac bad bae baf)) = some r := H
   have A22 := Aside0.mk A220
   clear A220
   have HC23 := Aside0.mk H
   clear H
   go_upto_if 32 with (first | ((with_reducible refine gate_callee (f := 32) rfl ?_); refine goesL_ (some 31) rfl rfl Tryd.func32 (by kernel_rfl) rfl #[.pointer (some ⟨g281, 0, none⟩), .int .i64 6] rfl (by (try simp only [List.map_toArray, List.map_cons, List.map_nil]); first | done | rfl | (simp only [List.length_drop, List.length_take]; rfl)) ?_; (with_reducible refine (storagebarterplay_Dice_Pick.calls g281 t279 x282001_1 6 t309 t310 w _ ?side1 ?side2 A22.out).mono ?_); (case side1 => repeat (first | (with_reducible first | exact HI281.out | apply IsS88.alloc | apply IsS88.drewN | apply IsS88.drew | apply IsS88.set_1 | refine IsS88.far ?_ NB281_307.out _ | refine IsS88.far ?_ NB281_308.out _) | exact HI281.out)); (case side2 => repeat (first | (with_reducible first | exact HB.out | apply below_alloc | apply pw_below_drewN | apply below_drew1 | refine below_set ?_ (IsS88.ge HI281.out) | refine below_set ?_ (Aside0.out (by assumption))) | exact HB.out)); rintro e w24 ⟨rfl, hi, hb, hk⟩; refine ⟨_, rfl, ?_⟩; have n0_ := Aside0.mk (Kd.R_mono (Kd.R_keep (IsS88.apart (show IsS88 w _ g281 t279 x282001_1 from by repeat (first | (with_reducible first | exact HI281.out | apply IsS88.alloc | apply IsS88.drewN | apply IsS88.drew | apply IsS88.set_1 | refine IsS88.far ?_ NB281_307.out _ | refine IsS88.far ?_ NB281_308.out _) | exact HI281.out)) (rU8 ba0.out) (by decide)) hk (fun _ h => h.2)) (fun _ h => h.1)); have n1_ := Aside0.mk (Kd.V_mono (Kd.V_keep (Kd.V_mono (ok := fun k_ => (k_ ≠ gb307 ∧ (k_ ≠ gb308 ∧ k_ ≠ g281))) (vU8 ba1.out) (fun k_ hk_ => (⟨hk_, hk_.2.2⟩ : _ ∧ k_ ≠ g281))) hk (fun _ h => h.2)) (fun _ h => h.1)); have n2_ := Aside0.mk (KeepBut.blk hk (g' := gb307) (o := .cells #[.int .i64 bag, .int .i64 bah, .int .i64 baj, .int .i64 bak, u308004, .int .i64 bam, .int .i64 ban, .int .i64 bap, .bool baq, .bool bar, .bool bas, .bool bat, .bool bau, .int .i64 bav] 54 (0, 0)) (bU8 BK307.out) NB307_281.out (by simp)); have n3_ := Aside0.mk (KeepBut.blk hk (g' := gb308) (o := .cells #[.int .i64 ba3, .int .i64 ba4, .int .i64 ba5, .int .i64 ba6, bay, .int .i64 ba7, .int .i64 ba8, .int .i64 ba9, .bool baa, .bool bab, .bool bac, .bool bad, .bool bae, .int .i64 baf] 54 (0, 0)) (bU8 BK308.out) NB308_281.out (by simp)); have n4_ := Aside0.mk (hb); have n5_ := Aside0.mk (hi); clear ba0; clear ba1; clear BK307; clear BK308; clear HB; clear HI281; have ba0 := n0_; have ba1 := n1_; have BK307 := n2_; have BK308 := n3_; have HB := n4_; have HI281 := n5_; clear n0_ n1_ n2_ n3_ n4_ n5_; (try clear hb); (try clear hb2); (try clear hk); (try clear hi); (try clear hgw)))
   (try simp only [Act.put, List.setIfInBounds_toArray, List.set_cons_zero, List.set_cons_succ])
   go_cut [8] (fun v8 wc => ∃ (kq : Nat) (x8_22 : Int) (baw : Int), v8 = .int .i64 x8_22 ∧ Aside0 (storagebarterlaw29_SlotWalks.j1 kq x7_1 x8_22 t279 baw bag bah baj bak ba2 bam ban bap baq bar bas bat bau bav ba3 ba4 ba5 ba6 bax ba7 ba8 ba9 baa bab bac bad bae baf = some r) ∧ Aside0 (kq ≤ k1) ∧ Aside0 (Kd.R (Kd.int .i64) 3 wc w.heap.size (fun _ => True) u308004 ba2) ∧ Aside0 (Kd.V (Kd.int .i64) 3 wc w.heap.size (fun k_ => k_ ≠ gb307 ∧ k_ ≠ gb308 ∧ k_ ≠ g281) bay bax) ∧ Aside0 (wc.heap[gb307]? = some (.cells #[.int .i64 bag, .int .i64 bah, .int .i64 baj, .int .i64 bak, u308004, .int .i64 bam, .int .i64 ban, .int .i64 bap, .bool baq, .bool bar, .bool bas, .bool bat, .bool bau, .int .i64 bav] 54 (0, 0))) ∧ Aside0 (wc.heap[gb308]? = some (.cells #[.int .i64 ba3, .int .i64 ba4, .int .i64 ba5, .int .i64 ba6, bay, .int .i64 ba7, .int .i64 ba8, .int .i64 ba9, .bool baa, .bool bab, .bool bac, .bool bad, .bool bae, .int .i64 baf] 54 (0, 0))) ∧ Aside0 (IsS88 w wc g281 t279 baw) ∧ Aside0 (Below w.heap.size w wc))
   case first =>
    have H := HC23.out
    clear HC23
    by_cases c25 : t309 = 0
    case neg =>
     rw [if_neg c25] at H
     have c25b0 : (t309 == 0) = false := beq_eq_false_iff_ne.mpr c25
     have c25b1 : (t309 != 0) = true := bne_iff_ne.mpr c25
     (first | rw [c25b0] | (simp only [i64_w, i32_w]; rw [c25b0]) | skip)
     have H' := Aside0.mk H
     clear H
     go_wp2
     go_meet
     case rel => exact ⟨_, (0), (t310), (by first | rfl | (simp; done) | (simp [*]; done)), H', ⟨by have := HK1.out; first | omega | exact Nat.le_refl _⟩, ⟨by (with_reducible repeat (first | apply Kd.R_alloc | apply Kd.R_drewN | apply Kd.R_drew)); exact ba0.out⟩, ⟨by (with_reducible repeat (first | apply Kd.V_alloc | apply Kd.V_drewN | apply Kd.V_drew)); exact ba1.out⟩, ⟨by exact bU8 BK307.out⟩, ⟨by exact bU8 BK308.out⟩, ⟨by repeat (first | (with_reducible first | exact HI281.out | apply IsS88.alloc | apply IsS88.drewN | apply IsS88.drew | apply IsS88.set_1 | refine IsS88.far ?_ NB281_307.out _ | refine IsS88.far ?_ NB281_308.out _) | exact HI281.out)⟩, ⟨by repeat (first | (with_reducible first | exact HB.out | apply below_alloc | apply pw_below_drewN | apply below_drew1 | refine below_set ?_ (IsS88.ge HI281.out) | refine below_set ?_ (Aside0.out (by assumption))) | exact HB.out)⟩⟩
    rw [if_pos c25] at H
    have c25b0 : (t309 == 0) = true := beq_iff_eq.mpr c25
    have c25b1 : (t309 != 0) = false := bne_eq_false_iff_eq.mpr c25
    clear c25
    (first | rw [c25b0] | (simp only [i64_w, i32_w]; rw [c25b0]) | skip)
    replace H := Option.bind_eq_some_iff.mp H
    obtain ⟨⟨t311, t312⟩, A260, H⟩ := H
    replace H : (storagebarterlaw29_SlotWalks.j1 k1 x7_1 t311 t279 t312 bag bah baj bak ba2 bam ban bap baq bar bas bat bau bav ba3 ba4 ba5 ba6 bax ba7 ba8 ba9 baa bab bac bad bae baf) = some r := H
    have A26 := Aside0.mk A260
    clear A260
    have H' := Aside0.mk H
    clear H
    go_wp2_with (first | ((with_reducible refine gate_callee (f := 32) rfl ?_); refine goesL_ (some 34) rfl rfl Tryd.func32 (by kernel_rfl) rfl #[.pointer (some ⟨g281, 0, none⟩), .int .i64 4] rfl (by (try simp only [List.map_toArray, List.map_cons, List.map_nil]); first | done | rfl | (simp only [List.length_drop, List.length_take]; rfl)) ?_; (with_reducible refine (storagebarterplay_Dice_Pick.calls g281 t279 t310 4 t311 t312 w _ ?side1 ?side2 A26.out).mono ?_); (case side1 => repeat (first | (with_reducible first | exact HI281.out | apply IsS88.alloc | apply IsS88.drewN | apply IsS88.drew | apply IsS88.set_1 | refine IsS88.far ?_ NB281_307.out _ | refine IsS88.far ?_ NB281_308.out _) | exact HI281.out)); (case side2 => repeat (first | (with_reducible first | exact HB.out | apply below_alloc | apply pw_below_drewN | apply below_drew1 | refine below_set ?_ (IsS88.ge HI281.out) | refine below_set ?_ (Aside0.out (by assumption))) | exact HB.out)); rintro e w27 ⟨rfl, hi, hb, hk⟩; refine ⟨_, rfl, ?_⟩; have n0_ := Aside0.mk (Kd.R_mono (Kd.R_keep (IsS88.apart (show IsS88 w _ g281 t279 t310 from by repeat (first | (with_reducible first | exact HI281.out | apply IsS88.alloc | apply IsS88.drewN | apply IsS88.drew | apply IsS88.set_1 | refine IsS88.far ?_ NB281_307.out _ | refine IsS88.far ?_ NB281_308.out _) | exact HI281.out)) (rU8 ba0.out) (by decide)) hk (fun _ h => h.2)) (fun _ h => h.1)); have n1_ := Aside0.mk (Kd.V_mono (Kd.V_keep (Kd.V_mono (ok := fun k_ => (k_ ≠ gb307 ∧ (k_ ≠ gb308 ∧ k_ ≠ g281))) (vU8 ba1.out) (fun k_ hk_ => (⟨hk_, hk_.2.2⟩ : _ ∧ k_ ≠ g281))) hk (fun _ h => h.2)) (fun _ h => h.1)); have n2_ := Aside0.mk (KeepBut.blk hk (g' := gb307) (o := .cells #[.int .i64 bag, .int .i64 bah, .int .i64 baj, .int .i64 bak, u308004, .int .i64 bam, .int .i64 ban, .int .i64 bap, .bool baq, .bool bar, .bool bas, .bool bat, .bool bau, .int .i64 bav] 54 (0, 0)) (bU8 BK307.out) NB307_281.out (by simp)); have n3_ := Aside0.mk (KeepBut.blk hk (g' := gb308) (o := .cells #[.int .i64 ba3, .int .i64 ba4, .int .i64 ba5, .int .i64 ba6, bay, .int .i64 ba7, .int .i64 ba8, .int .i64 ba9, .bool baa, .bool bab, .bool bac, .bool bad, .bool bae, .int .i64 baf] 54 (0, 0)) (bU8 BK308.out) NB308_281.out (by simp)); have n4_ := Aside0.mk (hb); have n5_ := Aside0.mk (hi); clear ba0; clear ba1; clear BK307; clear BK308; clear HB; clear HI281; have ba0 := n0_; have ba1 := n1_; have BK307 := n2_; have BK308 := n3_; have HB := n4_; have HI281 := n5_; clear n0_ n1_ n2_ n3_ n4_ n5_; (try clear hb); (try clear hb2); (try clear hk); (try clear hi); (try clear hgw)))
    go_meet
    case rel => exact ⟨_, (t311), (t312), (by first | rfl | (simp; done) | (simp [*]; done)), H', ⟨by have := HK1.out; first | omega | exact Nat.le_refl _⟩, ⟨by (with_reducible repeat (first | apply Kd.R_alloc | apply Kd.R_drewN | apply Kd.R_drew)); exact ba0.out⟩, ⟨by (with_reducible repeat (first | apply Kd.V_alloc | apply Kd.V_drewN | apply Kd.V_drew)); exact ba1.out⟩, ⟨by exact bU8 BK307.out⟩, ⟨by exact bU8 BK308.out⟩, ⟨by repeat (first | (with_reducible first | exact HI281.out | apply IsS88.alloc | apply IsS88.drewN | apply IsS88.drew | apply IsS88.set_1 | refine IsS88.far ?_ NB281_307.out _ | refine IsS88.far ?_ NB281_308.out _) | exact HI281.out)⟩, ⟨by repeat (first | (with_reducible first | exact HB.out | apply below_alloc | apply pw_below_drewN | apply below_drew1 | refine below_set ?_ (IsS88.ge HI281.out) | refine below_set ?_ (Aside0.out (by assumption))) | exact HB.out)⟩⟩
   case rest =>
    clear HC23
    try clear c1
    try clear c2
    try clear p2
    try clear c3
    try clear c7
    try clear c7b0
    try clear c7b1
    try clear c8
    try clear c14
    try clear c17
    try clear c18
    try clear c19
    try clear c21
    try clear c21b0
    try clear c25
    try clear c25b0
    try clear c25b1
    try clear hcz15
    try clear hcz20
    try clear hfz15
    try clear hfz20
    try clear p2
    obtain ⟨kq, x8_22, baw, rfl, HA, HJ22, ba0, ba1, BK307, BK308, HI281, HB⟩ := hcut
    cases kq with
    | zero => exact absurd HA.out (by simp [storagebarterlaw29_SlotWalks.j1])
    | succ kj22 =>
     have H := HA.out
     clear HA
     simp only [storagebarterlaw29_SlotWalks.j1] at H
     replace H := Option.bind_eq_some_iff.mp H
     obtain ⟨⟨t313, t314, t315, t316, t317, t320, t321, t322, t323, t324, t325, t326, t327, t328, t329⟩, A280, H⟩ := H
     replace H : ((storagebarterref29_Step.f kj22 ba3 ba4 ba5 ba6 bax ba7 ba8 ba9 baa bab bac bad bae baf x8_22).bind fun bt331 => (if t329 = bt331.2.2.2.2.2.2.2.2.2.2.2.2.2.2 then ((storagebarterref29_Same.f kj22 t313 t314 t315 t316 t317 t320 t321 t322 t323 t324 t325 t326 t327 t328 bt331.1 bt331.2.1 bt331.2.2.1 bt331.2.2.2.1 bt331.2.2.2.2.1 bt331.2.2.2.2.2.1 bt331.2.2.2.2.2.2.1 bt331.2.2.2.2.2.2.2.1 bt331.2.2.2.2.2.2.2.2.1 bt331.2.2.2.2.2.2.2.2.2.1 bt331.2.2.2.2.2.2.2.2.2.2.1 bt331.2.2.2.2.2.2.2.2.2.2.2.1 bt331.2.2.2.2.2.2.2.2.2.2.2.2.1 bt331.2.2.2.2.2.2.2.2.2.2.2.2.2.1).bind fun t349 => (storagebarterlaw29_SlotWalks.j2 kj22 x7_1 t329 (!t349) t279 baw t313 t314 t315 t316 t317 t320 t321 t322 t323 t324 t325 t326 t327 t328 bt331.1 bt331.2.1 bt331.2.2.1 bt331.2.2.2.1 bt331.2.2.2.2.1 bt331.2.2.2.2.2.1 bt331.2.2.2.2.2.2.1 bt331.2.2.2.2.2.2.2.1 bt331.2.2.2.2.2.2.2.2.1 bt331.2.2.2.2.2.2.2.2.2.1 bt331.2.2.2.2.2.2.2.2.2.2.1 bt331.2.2.2.2.2.2.2.2.2.2.2.1 bt331.2.2.2.2.2.2.2.2.2.2.2.2.1 bt331.2.2.2.2.2.2.2.2.2.2.2.2.2.1)) else (storagebarterlaw29_SlotWalks.j2 kj22 x7_1 t329 true t279 baw t313 t314 t315 t316 t317 t320 t321 t322 t323 t324 t325 t326 t327 t328 bt331.1 bt331.2.1 bt331.2.2.1 bt331.2.2.2.1 bt331.2.2.2.2.1 bt331.2.2.2.2.2.1 bt331.2.2.2.2.2.2.1 bt331.2.2.2.2.2.2.2.1 bt331.2.2.2.2.2.2.2.2.1 bt331.2.2.2.2.2.2.2.2.2.1 bt331.2.2.2.2.2.2.2.2.2.2.1 bt331.2.2.2.2.2.2.2.2.2.2.2.1 bt331.2.2.2.2.2.2.2.2.2.2.2.2.1 bt331.2.2.2.2.2.2.2.2.2.2.2.2.2.1))) = some r := H
     have A28 := Aside0.mk A280
     clear A280
     replace H := Option.bind_eq_some_iff.mp H
     obtain ⟨⟨t331, t332, t333, t334, t335, t338, t339, t340, t341, t342, t343, t344, t345, t346, t347⟩, A290, H⟩ := H
     replace H : (if t329 = t347 then ((storagebarterref29_Same.f kj22 t313 t314 t315 t316 t317 t320 t321 t322 t323 t324 t325 t326 t327 t328 t331 t332 t333 t334 t335 t338 t339 t340 t341 t342 t343 t344 t345 t346).bind fun t349 => (storagebarterlaw29_SlotWalks.j2 kj22 x7_1 t329 (!t349) t279 baw t313 t314 t315 t316 t317 t320 t321 t322 t323 t324 t325 t326 t327 t328 t331 t332 t333 t334 t335 t338 t339 t340 t341 t342 t343 t344 t345 t346)) else (storagebarterlaw29_SlotWalks.j2 kj22 x7_1 t329 true t279 baw t313 t314 t315 t316 t317 t320 t321 t322 t323 t324 t325 t326 t327 t328 t331 t332 t333 t334 t335 t338 t339 t340 t341 t342 t343 t344 t345 t346)) = some r := H
     have A29 := Aside0.mk A290
     clear A290
     have HC30 := Aside0.mk H
     clear H
     have hnb31 := NB307_308.out
     have hnc31 := NB308_307.out
     have hnb32 := NB307_281.out
     have hnc32 := NB281_307.out
     have hcz33 := cz14 BK307.out
     have hfz33 := blk_frozen BK307.out
     obtain ⟨Ao34, co34, eo34⟩ := Kd.R_slice ba0.out
     subst eo34
     go_upto_region 16 with (first | ((with_reducible refine gate_callee (f := 37) rfl ?_); refine goesL_ (some 38) rfl rfl Tryd.func37 (by kernel_rfl) rfl #[.agg #[.int .i64 bag, .int .i64 bah, .int .i64 baj, .int .i64 bak, .slice Ao34 ba2.length co34, .int .i64 bam, .int .i64 ban, .int .i64 bap, .bool baq, .bool bar, .bool bas, .bool bat, .bool bau, .int .i64 bav], .int .i64 x8_22] rfl (by (try simp only [List.map_toArray, List.map_cons, List.map_nil]); first | done | rfl | (simp only [List.length_drop, List.length_take]; rfl)) ?_; (with_reducible refine (slot_Step.calls kj22 bag bah baj bak _ _ ba2 bam ban bap baq bar bas bat bau bav x8_22 t313 t314 t315 t316 t317 t320 t321 t322 t323 t324 t325 t326 t327 t328 t329 _ ?side1 ?side2 A28.out (by first | exact HL_.out | exact laid_below HL_.out (by repeat (first | (with_reducible first | exact HB.out | apply below_alloc | apply pw_below_drewN | apply below_drew1) | refine below_set ?_ (Aside0.out (by assumption)) | exact HB.out)) | exact laid_drawn HL_.out HD.out | exact laid_drawn HL_.out (HD.out.step _))).mono ?_); (case side1 => first | exact (Kd.R_reads' ba0.out).2.2 | exact cU8 (Kd.R_reads' ba0.out).2.2); (case side2 => exact (Kd.R_reads' ba0.out).2.1); rintro e w35 ⟨v318, rfl, ho0, hb⟩; refine ⟨_, rfl, ?_⟩; have n0_ := Aside0.mk (Kd.R_elder' (rU8 ba0.out) (Kd.R_base ho0) hb); have n1_ := Aside0.mk (Kd.V_elder' (vU8 ba1.out) (Kd.R_base ho0) hb); have n2_ := Aside0.mk (Kd.R_lower (Kd.R_new' ho0 (Kd.R_lt (rU8 ba0.out))) (below_size (by repeat (first | (with_reducible first | exact HB.out | apply below_alloc | apply pw_below_drewN | apply below_drew1 | refine below_set ?_ (IsS88.ge HI281.out) | refine below_set ?_ (Aside0.out (by assumption))) | exact HB.out)))); have n3_ := Aside0.mk (blk_below (g := gb307) (bU8 BK307.out) hb); have n4_ := Aside0.mk (blk_below (g := gb308) (bU8 BK308.out) hb); have n5_ := Aside0.mk (IsS88.below (by repeat (first | (with_reducible first | exact HI281.out | apply IsS88.alloc | apply IsS88.drewN | apply IsS88.drew | apply IsS88.set_1 | refine IsS88.far ?_ NB281_307.out _ | refine IsS88.far ?_ NB281_308.out _) | exact HI281.out)) hb); have n6_ := Aside0.mk (below_step (by repeat (first | (with_reducible first | exact HB.out | apply below_alloc | apply pw_below_drewN | apply below_drew1 | refine below_set ?_ (IsS88.ge HI281.out) | refine below_set ?_ (Aside0.out (by assumption))) | exact HB.out)) hb); clear ba0; clear ba1; clear BK307; clear BK308; clear HI281; clear HB; have ba0 := n0_; have ba1 := n1_; have HO319 := n2_; have BK307 := n3_; have BK308 := n4_; have HI281 := n5_; have HB := n6_; clear n0_ n1_ n2_ n3_ n4_ n5_ n6_; (try clear hb); (try clear hb2); (try clear hk); (try clear hi); (try clear hgw); (try clear ho0)) | ((with_reducible refine gate_dst (N := 9) rfl ?_); refine box_event ?hg (N := 9) ?hd (cs := #[.int .i64 0, .int .i64 0, .int .i64 0, .int .i64 0, .slice none 0 0, .int .i64 0, .int .i64 0, .int .i64 0, .bool false, .bool false, .bool false, .bool false, .bool false, .int .i64 0]) (t := 54) ?hr ?_; (case hd => rfl); (case hg => rfl); (case hr => first | (go_simp; done) | (go_simp; rfl)); intro gb330 hg w36 hbox hb; have n0_ := Aside0.mk (Kd.R_below (rU8 ba0.out) hb); have n1_ := Aside0.mk (Kd.V_below (Kd.V_elderB (vU8 ba1.out) gb330 (Nat.le_of_eq hg.symm)) hb); have n2_ := Aside0.mk (Kd.R_below (rU8 HO319.out) hb); have n3_ := Aside0.mk (blk_below (g := gb307) (bU8 BK307.out) hb); have n4_ := Aside0.mk (blk_below (g := gb308) (bU8 BK308.out) hb); have n5_ := Aside0.mk (IsS88.below (by repeat (first | (with_reducible first | exact HI281.out | apply IsS88.alloc | apply IsS88.drewN | apply IsS88.drew | apply IsS88.set_1 | refine IsS88.far ?_ NB281_307.out _ | refine IsS88.far ?_ NB281_308.out _) | exact HI281.out)) hb); have n6_ := Aside0.mk (below_step (by repeat (first | (with_reducible first | exact HB.out | apply below_alloc | apply pw_below_drewN | apply below_drew1 | refine below_set ?_ (IsS88.ge HI281.out) | refine below_set ?_ (Aside0.out (by assumption))) | exact HB.out)) hb); have n7_ := Aside0.mk (hbox); have n8_ := Aside0.mk ((by rw [hg]; exact (below_size (by repeat (first | (with_reducible first | exact HB.out | apply below_alloc | apply pw_below_drewN | apply below_drew1 | refine below_set ?_ (IsS88.ge HI281.out) | refine below_set ?_ (Aside0.out (by assumption))) | exact HB.out))) : w.heap.size ≤ gb330)); have n9_ := Aside0.mk ((by rw [hg]; exact (below_size (by repeat (first | (with_reducible first | exact HB.out | apply below_alloc | apply pw_below_drewN | apply below_drew1 | refine below_set ?_ (IsS88.ge HI281.out) | refine below_set ?_ (Aside0.out (by assumption))) | exact HB.out))) : w.heap.size ≤ gb330)); have n10_ := Aside0.mk ((by rw [hg]; exact Nat.ne_of_lt (blk_lt (g := gb307) (o := .cells #[.int .i64 bag, .int .i64 bah, .int .i64 baj, .int .i64 bak, .slice Ao34 ba2.length co34, .int .i64 bam, .int .i64 ban, .int .i64 bap, .bool baq, .bool bar, .bool bas, .bool bat, .bool bau, .int .i64 bav] 54 (0, 0)) (bU8 BK307.out)) : gb307 ≠ gb330)); have n11_ := Aside0.mk ((by rw [hg]; exact Nat.ne_of_gt (blk_lt (g := gb307) (o := .cells #[.int .i64 bag, .int .i64 bah, .int .i64 baj, .int .i64 bak, .slice Ao34 ba2.length co34, .int .i64 bam, .int .i64 ban, .int .i64 bap, .bool baq, .bool bar, .bool bas, .bool bat, .bool bau, .int .i64 bav] 54 (0, 0)) (bU8 BK307.out)) : gb330 ≠ gb307)); have n12_ := Aside0.mk ((by rw [hg]; exact Nat.ne_of_lt (blk_lt (g := gb308) (o := .cells #[.int .i64 ba3, .int .i64 ba4, .int .i64 ba5, .int .i64 ba6, bay, .int .i64 ba7, .int .i64 ba8, .int .i64 ba9, .bool baa, .bool bab, .bool bac, .bool bad, .bool bae, .int .i64 baf] 54 (0, 0)) (bU8 BK308.out)) : gb308 ≠ gb330)); have n13_ := Aside0.mk ((by rw [hg]; exact Nat.ne_of_gt (blk_lt (g := gb308) (o := .cells #[.int .i64 ba3, .int .i64 ba4, .int .i64 ba5, .int .i64 ba6, bay, .int .i64 ba7, .int .i64 ba8, .int .i64 ba9, .bool baa, .bool bab, .bool bac, .bool bad, .bool bae, .int .i64 baf] 54 (0, 0)) (bU8 BK308.out)) : gb330 ≠ gb308)); have n14_ := Aside0.mk ((by rw [hg]; exact Nat.ne_of_lt (IsS88.lt (show IsS88 w _ g281 t279 baw from by repeat (first | (with_reducible first | exact HI281.out | apply IsS88.alloc | apply IsS88.drewN | apply IsS88.drew | apply IsS88.set_1 | refine IsS88.far ?_ NB281_307.out _ | refine IsS88.far ?_ NB281_308.out _) | exact HI281.out))) : g281 ≠ gb330)); have n15_ := Aside0.mk ((by rw [hg]; exact Nat.ne_of_gt (IsS88.lt (show IsS88 w _ g281 t279 baw from by repeat (first | (with_reducible first | exact HI281.out | apply IsS88.alloc | apply IsS88.drewN | apply IsS88.drew | apply IsS88.set_1 | refine IsS88.far ?_ NB281_307.out _ | refine IsS88.far ?_ NB281_308.out _) | exact HI281.out))) : gb330 ≠ g281)); clear ba0; clear ba1; clear HO319; clear BK307; clear BK308; clear HI281; clear HB; have ba0 := n0_; have ba1 := n1_; have HO319 := n2_; have BK307 := n3_; have BK308 := n4_; have HI281 := n5_; have HB := n6_; have BK330 := n7_; have GW330 := n8_; have GE330 := n9_; have NB307_330 := n10_; have NB330_307 := n11_; have NB308_330 := n12_; have NB330_308 := n13_; have NB281_330 := n14_; have NB330_281 := n15_; clear n0_ n1_ n2_ n3_ n4_ n5_ n6_ n7_ n8_ n9_ n10_ n11_ n12_ n13_ n14_ n15_; clear hb hbox hg; have hnb37 := NB330_307.out; have hnc37 := NB307_330.out; have hnb38 := NB330_308.out; have hnc38 := NB308_330.out; have hnb39 := NB330_281.out; have hnc39 := NB281_330.out; have hcz40 := cz14 BK330.out; have hfz40 := blk_frozen BK330.out; obtain ⟨Ao41, co41, eo41⟩ := Kd.R_slice HO319.out; subst eo41) | ((with_reducible refine gate_store (t := 54) (p := 9) rfl ?_); refine store_event (t := 54) (p := 9) (v := ?vo_w42) (w1 := ((((((((((((((w36.setCell ⟨gb330, 0, none⟩ (.int .i64 t313)).setCell ⟨gb330, 1, none⟩ (.int .i64 t314)).setCell ⟨gb330, 2, none⟩ (.int .i64 t315)).setCell ⟨gb330, 3, none⟩ (.int .i64 t316)).setCell ⟨gb330, 4, none⟩ (.slice Ao41 t317.length co41)).setCell ⟨gb330, 5, none⟩ (.int .i64 t320)).setCell ⟨gb330, 6, none⟩ (.int .i64 t321)).setCell ⟨gb330, 7, none⟩ (.int .i64 t322)).setCell ⟨gb330, 8, none⟩ (.bool t323)).setCell ⟨gb330, 9, none⟩ (.bool t324)).setCell ⟨gb330, 10, none⟩ (.bool t325)).setCell ⟨gb330, 11, none⟩ (.bool t326)).setCell ⟨gb330, 12, none⟩ (.bool t327)).setCell ⟨gb330, 13, none⟩ (.int .i64 t328))) ?hg ?ho ?hn ?hr ?_; (case ho => rfl); (case hg => rfl); (case hn => rfl); (case hr => first | (go_simp; done) | (go_simp; rfl)); intro w42 hw; have n0_ : Aside0 (Kd.R (Kd.int .i64) 3 w42 w.heap.size (fun k_ => some k_ ≠ (.slice Ao41 t317.length co41 : Value).ownBlock) (.slice Ao34 ba2.length co34) ba2) := ⟨(by rw [hw]; exact (rU8 (Kd.R_mono (Kd.R_far (p := ⟨gb330, 13, none⟩) (Kd.R_far (p := ⟨gb330, 12, none⟩) (Kd.R_far (p := ⟨gb330, 11, none⟩) (Kd.R_far (p := ⟨gb330, 10, none⟩) (Kd.R_far (p := ⟨gb330, 9, none⟩) (Kd.R_far (p := ⟨gb330, 8, none⟩) (Kd.R_far (p := ⟨gb330, 7, none⟩) (Kd.R_far (p := ⟨gb330, 6, none⟩) (Kd.R_far (p := ⟨gb330, 5, none⟩) (Kd.R_far (p := ⟨gb330, 4, none⟩) (Kd.R_far (p := ⟨gb330, 3, none⟩) (Kd.R_far (p := ⟨gb330, 2, none⟩) (Kd.R_far (p := ⟨gb330, 1, none⟩) (Kd.R_far (p := ⟨gb330, 0, none⟩) (Kd.R_types ba0.out BK330.out (by decide)) (fun _ hk => hk.2) (.int .i64 t313)) (fun _ hk => hk.2) (.int .i64 t314)) (fun _ hk => hk.2) (.int .i64 t315)) (fun _ hk => hk.2) (.int .i64 t316)) (fun _ hk => hk.2) (.slice Ao41 t317.length co41)) (fun _ hk => hk.2) (.int .i64 t320)) (fun _ hk => hk.2) (.int .i64 t321)) (fun _ hk => hk.2) (.int .i64 t322)) (fun _ hk => hk.2) (.bool t323)) (fun _ hk => hk.2) (.bool t324)) (fun _ hk => hk.2) (.bool t325)) (fun _ hk => hk.2) (.bool t326)) (fun _ hk => hk.2) (.bool t327)) (fun _ hk => hk.2) (.int .i64 t328)) (fun _ hk => hk.1.2))))⟩; have n1_ : Aside0 (Kd.V (Kd.int .i64) 3 w42 w.heap.size (fun k_ => some k_ ≠ (.slice Ao41 t317.length co41 : Value).ownBlock ∧ k_ ≠ gb307 ∧ k_ ≠ gb308 ∧ k_ ≠ g281 ∧ k_ ≠ gb330) bay bax) := ⟨(by rw [hw]; exact (vU8 (Kd.V_mono (Kd.V_far (p := ⟨gb330, 13, none⟩) (Kd.V_far (p := ⟨gb330, 12, none⟩) (Kd.V_far (p := ⟨gb330, 11, none⟩) (Kd.V_far (p := ⟨gb330, 10, none⟩) (Kd.V_far (p := ⟨gb330, 9, none⟩) (Kd.V_far (p := ⟨gb330, 8, none⟩) (Kd.V_far (p := ⟨gb330, 7, none⟩) (Kd.V_far (p := ⟨gb330, 6, none⟩) (Kd.V_far (p := ⟨gb330, 5, none⟩) (Kd.V_far (p := ⟨gb330, 4, none⟩) (Kd.V_far (p := ⟨gb330, 3, none⟩) (Kd.V_far (p := ⟨gb330, 2, none⟩) (Kd.V_far (p := ⟨gb330, 1, none⟩) (Kd.V_far (p := ⟨gb330, 0, none⟩) (Kd.V_mono ba1.out (fun k_ hk => (⟨hk, hk.2⟩ : _ ∧ k_ ≠ gb330))) (fun _ hk => hk.2) (.int .i64 t313)) (fun _ hk => hk.2) (.int .i64 t314)) (fun _ hk => hk.2) (.int .i64 t315)) (fun _ hk => hk.2) (.int .i64 t316)) (fun _ hk => hk.2) (.slice Ao41 t317.length co41)) (fun _ hk => hk.2) (.int .i64 t320)) (fun _ hk => hk.2) (.int .i64 t321)) (fun _ hk => hk.2) (.int .i64 t322)) (fun _ hk => hk.2) (.bool t323)) (fun _ hk => hk.2) (.bool t324)) (fun _ hk => hk.2) (.bool t325)) (fun _ hk => hk.2) (.bool t326)) (fun _ hk => hk.2) (.bool t327)) (fun _ hk => hk.2) (.int .i64 t328)) (fun _ hk => ⟨hk.1.1.2, ⟨hk.1.1.1.1, ⟨hk.1.1.1.2.1, ⟨hk.1.1.1.2.2, hk.1.2⟩⟩⟩⟩))))⟩; have n2_ : Aside0 (Kd.R (Kd.int .i64) 3 w42 w.heap.size (fun k_ => some k_ ≠ (.slice Ao34 ba2.length co34 : Value).ownBlock) (.slice Ao41 t317.length co41) t317) := ⟨(by rw [hw]; exact (rU8 (Kd.R_mono (Kd.R_far (p := ⟨gb330, 13, none⟩) (Kd.R_far (p := ⟨gb330, 12, none⟩) (Kd.R_far (p := ⟨gb330, 11, none⟩) (Kd.R_far (p := ⟨gb330, 10, none⟩) (Kd.R_far (p := ⟨gb330, 9, none⟩) (Kd.R_far (p := ⟨gb330, 8, none⟩) (Kd.R_far (p := ⟨gb330, 7, none⟩) (Kd.R_far (p := ⟨gb330, 6, none⟩) (Kd.R_far (p := ⟨gb330, 5, none⟩) (Kd.R_far (p := ⟨gb330, 4, none⟩) (Kd.R_far (p := ⟨gb330, 3, none⟩) (Kd.R_far (p := ⟨gb330, 2, none⟩) (Kd.R_far (p := ⟨gb330, 1, none⟩) (Kd.R_far (p := ⟨gb330, 0, none⟩) (Kd.R_types HO319.out BK330.out (by decide)) (fun _ hk => hk.2) (.int .i64 t313)) (fun _ hk => hk.2) (.int .i64 t314)) (fun _ hk => hk.2) (.int .i64 t315)) (fun _ hk => hk.2) (.int .i64 t316)) (fun _ hk => hk.2) (.slice Ao41 t317.length co41)) (fun _ hk => hk.2) (.int .i64 t320)) (fun _ hk => hk.2) (.int .i64 t321)) (fun _ hk => hk.2) (.int .i64 t322)) (fun _ hk => hk.2) (.bool t323)) (fun _ hk => hk.2) (.bool t324)) (fun _ hk => hk.2) (.bool t325)) (fun _ hk => hk.2) (.bool t326)) (fun _ hk => hk.2) (.bool t327)) (fun _ hk => hk.2) (.int .i64 t328)) (fun _ hk => hk.1.2))))⟩; have n3_ : Aside0 (w42.heap[gb307]? = some (.cells #[.int .i64 bag, .int .i64 bah, .int .i64 baj, .int .i64 bak, .slice Ao34 ba2.length co34, .int .i64 bam, .int .i64 ban, .int .i64 bap, .bool baq, .bool bar, .bool bas, .bool bat, .bool bau, .int .i64 bav] 54 (0, 0))) := ⟨(by rw [hw]; exact (by (with_reducible repeat (first | refine blk_drewN ?_ _ | refine blk_drew ?_ | refine blk_alloc ?_ _)); refine blk_far14 ?_ NB307_330.out _ _ _ _ _ _ _ _ _ _ _ _ _ _; (with_reducible repeat (first | refine blk_drewN ?_ _ | refine blk_drew ?_ | refine blk_alloc ?_ _)); exact BK307.out))⟩; have n4_ : Aside0 (w42.heap[gb308]? = some (.cells #[.int .i64 ba3, .int .i64 ba4, .int .i64 ba5, .int .i64 ba6, bay, .int .i64 ba7, .int .i64 ba8, .int .i64 ba9, .bool baa, .bool bab, .bool bac, .bool bad, .bool bae, .int .i64 baf] 54 (0, 0))) := ⟨(by rw [hw]; exact (by (with_reducible repeat (first | refine blk_drewN ?_ _ | refine blk_drew ?_ | refine blk_alloc ?_ _)); refine blk_far14 ?_ NB308_330.out _ _ _ _ _ _ _ _ _ _ _ _ _ _; (with_reducible repeat (first | refine blk_drewN ?_ _ | refine blk_drew ?_ | refine blk_alloc ?_ _)); exact BK308.out))⟩; have n5_ : Aside0 (w42.heap[gb330]? = some (.cells #[.int .i64 t313, .int .i64 t314, .int .i64 t315, .int .i64 t316, .slice Ao41 t317.length co41, .int .i64 t320, .int .i64 t321, .int .i64 t322, .bool t323, .bool t324, .bool t325, .bool t326, .bool t327, .int .i64 t328] 54 (0, 0))) := ⟨(by rw [hw]; exact (by (with_reducible repeat (first | refine blk_drewN ?_ _ | refine blk_drew ?_ | refine blk_alloc ?_ _)); first | exact blk_all14 (blk_drewN BK330.out nd) _ _ _ _ _ _ _ _ _ _ _ _ _ _ | exact blk_all14 BK330.out _ _ _ _ _ _ _ _ _ _ _ _ _ _ | exact blk_all14 (bU8 BK330.out) _ _ _ _ _ _ _ _ _ _ _ _ _ _ | exact blk_all14 (blk_up BK330.out) _ _ _ _ _ _ _ _ _ _ _ _ _ _))⟩; have n6_ : Aside0 (IsS88 w w42 g281 t279 baw) := ⟨(by rw [hw]; exact (by repeat (first | (with_reducible first | exact HI281.out | apply IsS88.alloc | apply IsS88.drewN | apply IsS88.drew | apply IsS88.set_1 | refine IsS88.far ?_ NB281_307.out _ | refine IsS88.far ?_ NB281_308.out _ | refine IsS88.far ?_ NB281_330.out _) | exact HI281.out)))⟩; have n7_ : Aside0 (Below w.heap.size w w42) := ⟨(by rw [hw]; exact (by repeat (first | (with_reducible first | exact HB.out | apply below_alloc | apply pw_below_drewN | apply below_drew1 | refine below_set ?_ (IsS88.ge HI281.out) | refine below_set ?_ (Aside0.out (by assumption))) | exact HB.out)))⟩; clear hw; clear ba0; clear ba1; clear HO319; clear BK307; clear BK308; clear BK330; clear HI281; clear HB; have ba0 := n0_; have ba1 := n1_; have HO319 := n2_; have BK307 := n3_; have BK308 := n4_; have BK330 := n5_; have HI281 := n6_; have HB := n7_; clear n0_ n1_ n2_ n3_ n4_ n5_ n6_ n7_; have hnb43 := NB308_281.out; have hnc43 := NB281_308.out; have hcz44 := cz14 BK308.out; have hfz44 := blk_frozen BK308.out; obtain ⟨Ao45, co45, eo45⟩ := Kd.V_slice ba1.out; subst eo45) | ((with_reducible refine gate_callee (f := 38) rfl ?_); refine goesL_ (some 44) rfl rfl Tryd.func38 (by kernel_rfl) rfl #[.agg #[.int .i64 ba3, .int .i64 ba4, .int .i64 ba5, .int .i64 ba6, .slice Ao45 bax.length co45, .int .i64 ba7, .int .i64 ba8, .int .i64 ba9, .bool baa, .bool bab, .bool bac, .bool bad, .bool bae, .int .i64 baf], .int .i64 x8_22] rfl (by (try simp only [List.map_toArray, List.map_cons, List.map_nil]); first | done | rfl | (simp only [List.length_drop, List.length_take]; rfl)) ?_; (with_reducible refine (storagebarterref29_Step.calls kj22 ba3 ba4 ba5 ba6 (fun k_ => (some k_ ≠ (.slice Ao41 t317.length co41 : Value).ownBlock ∧ (k_ ≠ gb307 ∧ (k_ ≠ gb308 ∧ (k_ ≠ g281 ∧ k_ ≠ gb330))))) _ _ bax ba7 ba8 ba9 baa bab bac bad bae baf x8_22 t331 t332 t333 t334 t335 t338 t339 t340 t341 t342 t343 t344 t345 t346 t347 _ ?side1 A29.out).mono ?_); (case side1 => exact ba1.out); rintro e w46 ⟨v336, rfl, ho0, hb⟩; refine ⟨_, rfl, ?_⟩; have n0_ := Aside0.mk (Kd.R_below (rU8 ba0.out) hb); have n1_ := Aside0.mk (Kd.V_below (vU8 ba1.out) hb); have n2_ := Aside0.mk (Kd.R_below (rU8 HO319.out) hb); have n3_ := Aside0.mk (Kd.V_lower (Kd.V_mono (ok' := fun k_ => some k_ ≠ (.slice Ao41 t317.length co41 : Value).ownBlock ∧ k_ ≠ gb307 ∧ k_ ≠ gb308 ∧ k_ ≠ gb330 ∧ k_ ≠ g281) ho0 (fun k_ hk_ => ⟨Or.elim hk_ (fun hs_ => hs_.1) (fun hn_ => (Kd.fresh' (Kd.R_lt (rU8 HO319.out)) k_ hn_)), Or.elim hk_ (fun hs_ => hs_.2.1) (fun hn_ => (Kd.freshB (g := gb307) (o := .cells #[.int .i64 bag, .int .i64 bah, .int .i64 baj, .int .i64 bak, .slice Ao34 ba2.length co34, .int .i64 bam, .int .i64 ban, .int .i64 bap, .bool baq, .bool bar, .bool bas, .bool bat, .bool bau, .int .i64 bav] 54 (0, 0)) (bU8 BK307.out) k_ hn_)), Or.elim hk_ (fun hs_ => hs_.2.2.1) (fun hn_ => (Kd.freshB (g := gb308) (o := .cells #[.int .i64 ba3, .int .i64 ba4, .int .i64 ba5, .int .i64 ba6, .slice Ao45 bax.length co45, .int .i64 ba7, .int .i64 ba8, .int .i64 ba9, .bool baa, .bool bab, .bool bac, .bool bad, .bool bae, .int .i64 baf] 54 (0, 0)) (bU8 BK308.out) k_ hn_)), Or.elim hk_ (fun hs_ => hs_.2.2.2.2) (fun hn_ => (Kd.freshB (g := gb330) (o := .cells #[.int .i64 t313, .int .i64 t314, .int .i64 t315, .int .i64 t316, .slice Ao41 t317.length co41, .int .i64 t320, .int .i64 t321, .int .i64 t322, .bool t323, .bool t324, .bool t325, .bool t326, .bool t327, .int .i64 t328] 54 (0, 0)) (bU8 BK330.out) k_ hn_)), Or.elim hk_ (fun hs_ => hs_.2.2.2.1) (fun hn_ => (IsS88.fresh (by repeat (first | (with_reducible first | exact HI281.out | apply IsS88.alloc | apply IsS88.drewN | apply IsS88.drew | apply IsS88.set_1 | refine IsS88.far ?_ NB281_307.out _ | refine IsS88.far ?_ NB281_308.out _ | refine IsS88.far ?_ NB281_330.out _) | exact HI281.out)) k_ hn_))⟩)) (below_size (by repeat (first | (with_reducible first | exact HB.out | apply below_alloc | apply pw_below_drewN | apply below_drew1 | refine below_set ?_ (IsS88.ge HI281.out) | refine below_set ?_ (Aside0.out (by assumption))) | exact HB.out)))); have n4_ := Aside0.mk (blk_below (g := gb307) (bU8 BK307.out) hb); have n5_ := Aside0.mk (blk_below (g := gb308) (bU8 BK308.out) hb); have n6_ := Aside0.mk (IsS88.below (by repeat (first | (with_reducible first | exact HI281.out | apply IsS88.alloc | apply IsS88.drewN | apply IsS88.drew | apply IsS88.set_1 | refine IsS88.far ?_ NB281_307.out _ | refine IsS88.far ?_ NB281_308.out _ | refine IsS88.far ?_ NB281_330.out _) | exact HI281.out)) hb); have n7_ := Aside0.mk (blk_below (g := gb330) (bU8 BK330.out) hb); have n8_ := Aside0.mk (below_step (by repeat (first | (with_reducible first | exact HB.out | apply below_alloc | apply pw_below_drewN | apply below_drew1 | refine below_set ?_ (IsS88.ge HI281.out) | refine below_set ?_ (Aside0.out (by assumption))) | exact HB.out)) hb); clear ba0; clear ba1; clear HO319; clear BK307; clear BK308; clear HI281; clear BK330; clear HB; have ba0 := n0_; have ba1 := n1_; have HO319 := n2_; have HO337 := n3_; have BK307 := n4_; have BK308 := n5_; have HI281 := n6_; have BK330 := n7_; have HB := n8_; clear n0_ n1_ n2_ n3_ n4_ n5_ n6_ n7_ n8_; (try clear hb); (try clear hb2); (try clear hk); (try clear hi); (try clear hgw); (try clear ho0)) | ((with_reducible refine gate_dst (N := 11) rfl ?_); refine box_event ?hg (N := 11) ?hd (cs := #[.int .i64 0, .int .i64 0, .int .i64 0, .int .i64 0, .slice none 0 0, .int .i64 0, .int .i64 0, .int .i64 0, .bool false, .bool false, .bool false, .bool false, .bool false, .int .i64 0]) (t := 54) ?hr ?_; (case hd => rfl); (case hg => rfl); (case hr => first | (go_simp; done) | (go_simp; rfl)); intro gb348 hg w47 hbox hb; have n0_ := Aside0.mk (Kd.R_below (rU8 ba0.out) hb); have n1_ := Aside0.mk (Kd.V_below (Kd.V_elderB (vU8 ba1.out) gb348 (Nat.le_of_eq hg.symm)) hb); have n2_ := Aside0.mk (Kd.R_below (rU8 HO319.out) hb); have n3_ := Aside0.mk (Kd.V_below (Kd.V_elderB (vU8 HO337.out) gb348 (Nat.le_of_eq hg.symm)) hb); have n4_ := Aside0.mk (blk_below (g := gb307) (bU8 BK307.out) hb); have n5_ := Aside0.mk (blk_below (g := gb308) (bU8 BK308.out) hb); have n6_ := Aside0.mk (IsS88.below (by repeat (first | (with_reducible first | exact HI281.out | apply IsS88.alloc | apply IsS88.drewN | apply IsS88.drew | apply IsS88.set_1 | refine IsS88.far ?_ NB281_307.out _ | refine IsS88.far ?_ NB281_308.out _ | refine IsS88.far ?_ NB281_330.out _) | exact HI281.out)) hb); have n7_ := Aside0.mk (blk_below (g := gb330) (bU8 BK330.out) hb); have n8_ := Aside0.mk (below_step (by repeat (first | (with_reducible first | exact HB.out | apply below_alloc | apply pw_below_drewN | apply below_drew1 | refine below_set ?_ (IsS88.ge HI281.out) | refine below_set ?_ (Aside0.out (by assumption))) | exact HB.out)) hb); have n9_ := Aside0.mk (hbox); have n10_ := Aside0.mk ((by rw [hg]; exact (below_size (by repeat (first | (with_reducible first | exact HB.out | apply below_alloc | apply pw_below_drewN | apply below_drew1 | refine below_set ?_ (IsS88.ge HI281.out) | refine below_set ?_ (Aside0.out (by assumption))) | exact HB.out))) : w.heap.size ≤ gb348)); have n11_ := Aside0.mk ((by rw [hg]; exact (below_size (by repeat (first | (with_reducible first | exact HB.out | apply below_alloc | apply pw_below_drewN | apply below_drew1 | refine below_set ?_ (IsS88.ge HI281.out) | refine below_set ?_ (Aside0.out (by assumption))) | exact HB.out))) : w.heap.size ≤ gb348)); have n12_ := Aside0.mk ((by rw [hg]; exact Nat.ne_of_lt (blk_lt (g := gb307) (o := .cells #[.int .i64 bag, .int .i64 bah, .int .i64 baj, .int .i64 bak, .slice Ao34 ba2.length co34, .int .i64 bam, .int .i64 ban, .int .i64 bap, .bool baq, .bool bar, .bool bas, .bool bat, .bool bau, .int .i64 bav] 54 (0, 0)) (bU8 BK307.out)) : gb307 ≠ gb348)); have n13_ := Aside0.mk ((by rw [hg]; exact Nat.ne_of_gt (blk_lt (g := gb307) (o := .cells #[.int .i64 bag, .int .i64 bah, .int .i64 baj, .int .i64 bak, .slice Ao34 ba2.length co34, .int .i64 bam, .int .i64 ban, .int .i64 bap, .bool baq, .bool bar, .bool bas, .bool bat, .bool bau, .int .i64 bav] 54 (0, 0)) (bU8 BK307.out)) : gb348 ≠ gb307)); have n14_ := Aside0.mk ((by rw [hg]; exact Nat.ne_of_lt (blk_lt (g := gb308) (o := .cells #[.int .i64 ba3, .int .i64 ba4, .int .i64 ba5, .int .i64 ba6, .slice Ao45 bax.length co45, .int .i64 ba7, .int .i64 ba8, .int .i64 ba9, .bool baa, .bool bab, .bool bac, .bool bad, .bool bae, .int .i64 baf] 54 (0, 0)) (bU8 BK308.out)) : gb308 ≠ gb348)); have n15_ := Aside0.mk ((by rw [hg]; exact Nat.ne_of_gt (blk_lt (g := gb308) (o := .cells #[.int .i64 ba3, .int .i64 ba4, .int .i64 ba5, .int .i64 ba6, .slice Ao45 bax.length co45, .int .i64 ba7, .int .i64 ba8, .int .i64 ba9, .bool baa, .bool bab, .bool bac, .bool bad, .bool bae, .int .i64 baf] 54 (0, 0)) (bU8 BK308.out)) : gb348 ≠ gb308)); have n16_ := Aside0.mk ((by rw [hg]; exact Nat.ne_of_lt (blk_lt (g := gb330) (o := .cells #[.int .i64 t313, .int .i64 t314, .int .i64 t315, .int .i64 t316, .slice Ao41 t317.length co41, .int .i64 t320, .int .i64 t321, .int .i64 t322, .bool t323, .bool t324, .bool t325, .bool t326, .bool t327, .int .i64 t328] 54 (0, 0)) (bU8 BK330.out)) : gb330 ≠ gb348)); have n17_ := Aside0.mk ((by rw [hg]; exact Nat.ne_of_gt (blk_lt (g := gb330) (o := .cells #[.int .i64 t313, .int .i64 t314, .int .i64 t315, .int .i64 t316, .slice Ao41 t317.length co41, .int .i64 t320, .int .i64 t321, .int .i64 t322, .bool t323, .bool t324, .bool t325, .bool t326, .bool t327, .int .i64 t328] 54 (0, 0)) (bU8 BK330.out)) : gb348 ≠ gb330)); have n18_ := Aside0.mk ((by rw [hg]; exact Nat.ne_of_lt (IsS88.lt (show IsS88 w _ g281 t279 baw from by repeat (first | (with_reducible first | exact HI281.out | apply IsS88.alloc | apply IsS88.drewN | apply IsS88.drew | apply IsS88.set_1 | refine IsS88.far ?_ NB281_307.out _ | refine IsS88.far ?_ NB281_308.out _ | refine IsS88.far ?_ NB281_330.out _) | exact HI281.out))) : g281 ≠ gb348)); have n19_ := Aside0.mk ((by rw [hg]; exact Nat.ne_of_gt (IsS88.lt (show IsS88 w _ g281 t279 baw from by repeat (first | (with_reducible first | exact HI281.out | apply IsS88.alloc | apply IsS88.drewN | apply IsS88.drew | apply IsS88.set_1 | refine IsS88.far ?_ NB281_307.out _ | refine IsS88.far ?_ NB281_308.out _ | refine IsS88.far ?_ NB281_330.out _) | exact HI281.out))) : gb348 ≠ g281)); clear ba0; clear ba1; clear HO319; clear HO337; clear BK307; clear BK308; clear HI281; clear BK330; clear HB; have ba0 := n0_; have ba1 := n1_; have HO319 := n2_; have HO337 := n3_; have BK307 := n4_; have BK308 := n5_; have HI281 := n6_; have BK330 := n7_; have HB := n8_; have BK348 := n9_; have GW348 := n10_; have GE348 := n11_; have NB307_348 := n12_; have NB348_307 := n13_; have NB308_348 := n14_; have NB348_308 := n15_; have NB330_348 := n16_; have NB348_330 := n17_; have NB281_348 := n18_; have NB348_281 := n19_; clear n0_ n1_ n2_ n3_ n4_ n5_ n6_ n7_ n8_ n9_ n10_ n11_ n12_ n13_ n14_ n15_ n16_ n17_ n18_ n19_; clear hb hbox hg; have hnb48 := NB348_307.out; have hnc48 := NB307_348.out; have hnb49 := NB348_308.out; have hnc49 := NB308_348.out; have hnb50 := NB348_330.out; have hnc50 := NB330_348.out; have hnb51 := NB348_281.out; have hnc51 := NB281_348.out; have hcz52 := cz14 BK348.out; have hfz52 := blk_frozen BK348.out; obtain ⟨Ao53, co53, eo53⟩ := Kd.V_slice HO337.out; subst eo53))
     (try simp only [Act.put, List.setIfInBounds_toArray, List.set_cons_zero, List.set_cons_succ])
     go_cut [55] (fun v55 wc => ∃ (kq : Nat) (x55_29 : Bool), v55 = .bool x55_29 ∧ Aside0 (storagebarterlaw29_SlotWalks.j2 kq x7_1 t329 x55_29 t279 baw t313 t314 t315 t316 t317 t320 t321 t322 t323 t324 t325 t326 t327 t328 t331 t332 t333 t334 t335 t338 t339 t340 t341 t342 t343 t344 t345 t346 = some r) ∧ Aside0 (kq ≤ kj22) ∧ Aside0 (Kd.R (Kd.int .i64) 3 wc w.heap.size (fun k_ => some k_ ≠ ((.slice Ao41 t317.length co41) : Value).ownBlock) (.slice Ao34 ba2.length co34) ba2) ∧ Aside0 (Kd.V (Kd.int .i64) 3 wc w.heap.size (fun k_ => some k_ ≠ ((.slice Ao41 t317.length co41) : Value).ownBlock ∧ k_ ≠ gb307 ∧ k_ ≠ gb308 ∧ k_ ≠ gb330 ∧ k_ ≠ gb348 ∧ k_ ≠ g281) (.slice Ao45 bax.length co45) bax) ∧ Aside0 (Kd.R (Kd.int .i64) 3 wc w.heap.size (fun k_ => some k_ ≠ ((.slice Ao34 ba2.length co34) : Value).ownBlock) (.slice Ao41 t317.length co41) t317) ∧ Aside0 (Kd.V (Kd.int .i64) 3 wc w.heap.size (fun k_ => some k_ ≠ ((.slice Ao41 t317.length co41) : Value).ownBlock ∧ k_ ≠ gb307 ∧ k_ ≠ gb308 ∧ k_ ≠ gb330 ∧ k_ ≠ gb348 ∧ k_ ≠ g281) (.slice Ao53 t335.length co53) t335) ∧ Aside0 (wc.heap[gb307]? = some (.cells #[.int .i64 bag, .int .i64 bah, .int .i64 baj, .int .i64 bak, (.slice Ao34 ba2.length co34), .int .i64 bam, .int .i64 ban, .int .i64 bap, .bool baq, .bool bar, .bool bas, .bool bat, .bool bau, .int .i64 bav] 54 (0, 0))) ∧ Aside0 (wc.heap[gb308]? = some (.cells #[.int .i64 ba3, .int .i64 ba4, .int .i64 ba5, .int .i64 ba6, (.slice Ao45 bax.length co45), .int .i64 ba7, .int .i64 ba8, .int .i64 ba9, .bool baa, .bool bab, .bool bac, .bool bad, .bool bae, .int .i64 baf] 54 (0, 0))) ∧ Aside0 (wc.heap[gb330]? = some (.cells #[.int .i64 t313, .int .i64 t314, .int .i64 t315, .int .i64 t316, (.slice Ao41 t317.length co41), .int .i64 t320, .int .i64 t321, .int .i64 t322, .bool t323, .bool t324, .bool t325, .bool t326, .bool t327, .int .i64 t328] 54 (0, 0))) ∧ Aside0 (wc.heap[gb348]? = some (.cells #[.int .i64 t331, .int .i64 t332, .int .i64 t333, .int .i64 t334, (.slice Ao53 t335.length co53), .int .i64 t338, .int .i64 t339, .int .i64 t340, .bool t341, .bool t342, .bool t343, .bool t344, .bool t345, .int .i64 t346] 54 (0, 0))) ∧ Aside0 (IsS88 w wc g281 t279 baw) ∧ Aside0 (Below w.heap.size w wc))
     case first =>
      have H := HC30.out
      clear HC30
      by_cases c54 : t329 = t347
      case neg =>
       rw [if_neg c54] at H
       have c54b0 : (t329 == t347) = false := beq_eq_false_iff_ne.mpr c54
       have c54b1 : (t329 != t347) = true := bne_iff_ne.mpr c54
       (first | rw [c54b0] | (simp only [i64_w, i32_w]; rw [c54b0]) | skip)
       have H' := Aside0.mk H
       clear H
       go_wp2
       go_meet
       case rel => exact ⟨_, (true), (by first | rfl | (simp; done) | (simp [*]; done)), H', ⟨by have := HK1.out; have := HJ22.out; first | omega | exact Nat.le_refl _⟩, ⟨by (with_reducible repeat (first | apply Kd.R_alloc | apply Kd.R_drewN | apply Kd.R_drew)); exact Kd.R_mono (Kd.R_far (p := ⟨gb348, 13, none⟩) (Kd.R_far (p := ⟨gb348, 12, none⟩) (Kd.R_far (p := ⟨gb348, 11, none⟩) (Kd.R_far (p := ⟨gb348, 10, none⟩) (Kd.R_far (p := ⟨gb348, 9, none⟩) (Kd.R_far (p := ⟨gb348, 8, none⟩) (Kd.R_far (p := ⟨gb348, 7, none⟩) (Kd.R_far (p := ⟨gb348, 6, none⟩) (Kd.R_far (p := ⟨gb348, 5, none⟩) (Kd.R_far (p := ⟨gb348, 4, none⟩) (Kd.R_far (p := ⟨gb348, 3, none⟩) (Kd.R_far (p := ⟨gb348, 2, none⟩) (Kd.R_far (p := ⟨gb348, 1, none⟩) (Kd.R_far (p := ⟨gb348, 0, none⟩) (Kd.R_types ba0.out BK348.out (by decide)) (fun _ hk => hk.2) (.int .i64 t331)) (fun _ hk => hk.2) (.int .i64 t332)) (fun _ hk => hk.2) (.int .i64 t333)) (fun _ hk => hk.2) (.int .i64 t334)) (fun _ hk => hk.2) (.slice Ao53 t335.length co53)) (fun _ hk => hk.2) (.int .i64 t338)) (fun _ hk => hk.2) (.int .i64 t339)) (fun _ hk => hk.2) (.int .i64 t340)) (fun _ hk => hk.2) (.bool t341)) (fun _ hk => hk.2) (.bool t342)) (fun _ hk => hk.2) (.bool t343)) (fun _ hk => hk.2) (.bool t344)) (fun _ hk => hk.2) (.bool t345)) (fun _ hk => hk.2) (.int .i64 t346)) (fun _ hk => hk.1)⟩, ⟨by (with_reducible repeat (first | apply Kd.V_alloc | apply Kd.V_drewN | apply Kd.V_drew)); exact Kd.V_mono (Kd.V_far (p := ⟨gb348, 13, none⟩) (Kd.V_far (p := ⟨gb348, 12, none⟩) (Kd.V_far (p := ⟨gb348, 11, none⟩) (Kd.V_far (p := ⟨gb348, 10, none⟩) (Kd.V_far (p := ⟨gb348, 9, none⟩) (Kd.V_far (p := ⟨gb348, 8, none⟩) (Kd.V_far (p := ⟨gb348, 7, none⟩) (Kd.V_far (p := ⟨gb348, 6, none⟩) (Kd.V_far (p := ⟨gb348, 5, none⟩) (Kd.V_far (p := ⟨gb348, 4, none⟩) (Kd.V_far (p := ⟨gb348, 3, none⟩) (Kd.V_far (p := ⟨gb348, 2, none⟩) (Kd.V_far (p := ⟨gb348, 1, none⟩) (Kd.V_far (p := ⟨gb348, 0, none⟩) (Kd.V_mono ba1.out (fun k_ hk => (⟨hk, hk.2⟩ : _ ∧ k_ ≠ gb348))) (fun _ hk => hk.2) (.int .i64 t331)) (fun _ hk => hk.2) (.int .i64 t332)) (fun _ hk => hk.2) (.int .i64 t333)) (fun _ hk => hk.2) (.int .i64 t334)) (fun _ hk => hk.2) (.slice Ao53 t335.length co53)) (fun _ hk => hk.2) (.int .i64 t338)) (fun _ hk => hk.2) (.int .i64 t339)) (fun _ hk => hk.2) (.int .i64 t340)) (fun _ hk => hk.2) (.bool t341)) (fun _ hk => hk.2) (.bool t342)) (fun _ hk => hk.2) (.bool t343)) (fun _ hk => hk.2) (.bool t344)) (fun _ hk => hk.2) (.bool t345)) (fun _ hk => hk.2) (.int .i64 t346)) (fun _ hk => ⟨hk.1.1.1, ⟨hk.1.1.2.1, ⟨hk.1.1.2.2.1, ⟨hk.1.1.2.2.2.2, ⟨hk.1.2, hk.1.1.2.2.2.1⟩⟩⟩⟩⟩)⟩, ⟨by (with_reducible repeat (first | apply Kd.R_alloc | apply Kd.R_drewN | apply Kd.R_drew)); exact Kd.R_mono (Kd.R_far (p := ⟨gb348, 13, none⟩) (Kd.R_far (p := ⟨gb348, 12, none⟩) (Kd.R_far (p := ⟨gb348, 11, none⟩) (Kd.R_far (p := ⟨gb348, 10, none⟩) (Kd.R_far (p := ⟨gb348, 9, none⟩) (Kd.R_far (p := ⟨gb348, 8, none⟩) (Kd.R_far (p := ⟨gb348, 7, none⟩) (Kd.R_far (p := ⟨gb348, 6, none⟩) (Kd.R_far (p := ⟨gb348, 5, none⟩) (Kd.R_far (p := ⟨gb348, 4, none⟩) (Kd.R_far (p := ⟨gb348, 3, none⟩) (Kd.R_far (p := ⟨gb348, 2, none⟩) (Kd.R_far (p := ⟨gb348, 1, none⟩) (Kd.R_far (p := ⟨gb348, 0, none⟩) (Kd.R_types HO319.out BK348.out (by decide)) (fun _ hk => hk.2) (.int .i64 t331)) (fun _ hk => hk.2) (.int .i64 t332)) (fun _ hk => hk.2) (.int .i64 t333)) (fun _ hk => hk.2) (.int .i64 t334)) (fun _ hk => hk.2) (.slice Ao53 t335.length co53)) (fun _ hk => hk.2) (.int .i64 t338)) (fun _ hk => hk.2) (.int .i64 t339)) (fun _ hk => hk.2) (.int .i64 t340)) (fun _ hk => hk.2) (.bool t341)) (fun _ hk => hk.2) (.bool t342)) (fun _ hk => hk.2) (.bool t343)) (fun _ hk => hk.2) (.bool t344)) (fun _ hk => hk.2) (.bool t345)) (fun _ hk => hk.2) (.int .i64 t346)) (fun _ hk => hk.1)⟩, ⟨by (with_reducible repeat (first | apply Kd.V_alloc | apply Kd.V_drewN | apply Kd.V_drew)); exact Kd.V_mono (Kd.V_far (p := ⟨gb348, 13, none⟩) (Kd.V_far (p := ⟨gb348, 12, none⟩) (Kd.V_far (p := ⟨gb348, 11, none⟩) (Kd.V_far (p := ⟨gb348, 10, none⟩) (Kd.V_far (p := ⟨gb348, 9, none⟩) (Kd.V_far (p := ⟨gb348, 8, none⟩) (Kd.V_far (p := ⟨gb348, 7, none⟩) (Kd.V_far (p := ⟨gb348, 6, none⟩) (Kd.V_far (p := ⟨gb348, 5, none⟩) (Kd.V_far (p := ⟨gb348, 4, none⟩) (Kd.V_far (p := ⟨gb348, 3, none⟩) (Kd.V_far (p := ⟨gb348, 2, none⟩) (Kd.V_far (p := ⟨gb348, 1, none⟩) (Kd.V_far (p := ⟨gb348, 0, none⟩) (Kd.V_mono HO337.out (fun k_ hk => (⟨hk, hk.2⟩ : _ ∧ k_ ≠ gb348))) (fun _ hk => hk.2) (.int .i64 t331)) (fun _ hk => hk.2) (.int .i64 t332)) (fun _ hk => hk.2) (.int .i64 t333)) (fun _ hk => hk.2) (.int .i64 t334)) (fun _ hk => hk.2) (.slice Ao53 t335.length co53)) (fun _ hk => hk.2) (.int .i64 t338)) (fun _ hk => hk.2) (.int .i64 t339)) (fun _ hk => hk.2) (.int .i64 t340)) (fun _ hk => hk.2) (.bool t341)) (fun _ hk => hk.2) (.bool t342)) (fun _ hk => hk.2) (.bool t343)) (fun _ hk => hk.2) (.bool t344)) (fun _ hk => hk.2) (.bool t345)) (fun _ hk => hk.2) (.int .i64 t346)) (fun _ hk => ⟨hk.1.1.1, ⟨hk.1.1.2.1, ⟨hk.1.1.2.2.1, ⟨hk.1.1.2.2.2.1, ⟨hk.1.2, hk.1.1.2.2.2.2⟩⟩⟩⟩⟩)⟩, ⟨by (with_reducible repeat (first | refine blk_drewN ?_ _ | refine blk_drew ?_ | refine blk_alloc ?_ _)); refine blk_far14 ?_ NB307_348.out _ _ _ _ _ _ _ _ _ _ _ _ _ _; (with_reducible repeat (first | refine blk_drewN ?_ _ | refine blk_drew ?_ | refine blk_alloc ?_ _)); exact BK307.out⟩, ⟨by (with_reducible repeat (first | refine blk_drewN ?_ _ | refine blk_drew ?_ | refine blk_alloc ?_ _)); refine blk_far14 ?_ NB308_348.out _ _ _ _ _ _ _ _ _ _ _ _ _ _; (with_reducible repeat (first | refine blk_drewN ?_ _ | refine blk_drew ?_ | refine blk_alloc ?_ _)); exact BK308.out⟩, ⟨by (with_reducible repeat (first | refine blk_drewN ?_ _ | refine blk_drew ?_ | refine blk_alloc ?_ _)); refine blk_far14 ?_ NB330_348.out _ _ _ _ _ _ _ _ _ _ _ _ _ _; (with_reducible repeat (first | refine blk_drewN ?_ _ | refine blk_drew ?_ | refine blk_alloc ?_ _)); exact BK330.out⟩, ⟨by (with_reducible repeat (first | refine blk_drewN ?_ _ | refine blk_drew ?_ | refine blk_alloc ?_ _)); first | exact blk_all14 (blk_drewN BK348.out nd) _ _ _ _ _ _ _ _ _ _ _ _ _ _ | exact blk_all14 BK348.out _ _ _ _ _ _ _ _ _ _ _ _ _ _ | exact blk_all14 (bU8 BK348.out) _ _ _ _ _ _ _ _ _ _ _ _ _ _ | exact blk_all14 (blk_up BK348.out) _ _ _ _ _ _ _ _ _ _ _ _ _ _⟩, ⟨by repeat (first | (with_reducible first | exact HI281.out | apply IsS88.alloc | apply IsS88.drewN | apply IsS88.drew | apply IsS88.set_1 | refine IsS88.far ?_ NB281_307.out _ | refine IsS88.far ?_ NB281_308.out _ | refine IsS88.far ?_ NB281_330.out _ | refine IsS88.far ?_ NB281_348.out _) | exact HI281.out)⟩, ⟨by repeat (first | (with_reducible first | exact HB.out | apply below_alloc | apply pw_below_drewN | apply below_drew1 | refine below_set ?_ (IsS88.ge HI281.out) | refine below_set ?_ (Aside0.out (by assumption))) | exact HB.out)⟩⟩
      rw [if_pos c54] at H
      have c54b0 : (t329 == t347) = true := beq_iff_eq.mpr c54
      have c54b1 : (t329 != t347) = false := bne_eq_false_iff_eq.mpr c54
      clear c54
      (first | rw [c54b0] | (simp only [i64_w, i32_w]; rw [c54b0]) | skip)
      replace H := Option.bind_eq_some_iff.mp H
      obtain ⟨t349, A550, H⟩ := H
      replace H : (storagebarterlaw29_SlotWalks.j2 kj22 x7_1 t329 (!t349) t279 baw t313 t314 t315 t316 t317 t320 t321 t322 t323 t324 t325 t326 t327 t328 t331 t332 t333 t334 t335 t338 t339 t340 t341 t342 t343 t344 t345 t346) = some r := H
      have A55 := Aside0.mk A550
      clear A550
      have H' := Aside0.mk H
      clear H
      have hnb56 := NB330_307.out
      have hnc56 := NB307_330.out
      have hnb57 := NB330_308.out
      have hnc57 := NB308_330.out
      have hnb58 := NB330_348.out
      have hnc58 := NB348_330.out
      have hnb59 := NB330_281.out
      have hnc59 := NB281_330.out
      have hcz60 := cz14 BK330.out
      have hfz60 := blk_frozen BK330.out
      have hnb61 := NB348_307.out
      have hnc61 := NB307_348.out
      have hnb62 := NB348_308.out
      have hnc62 := NB308_348.out
      have hnb63 := NB348_281.out
      have hnc63 := NB281_348.out
      have hcz64 := cz14 BK348.out
      have hfz64 := blk_frozen BK348.out
      go_wp2_with (first | (go_at_call 39; (with_reducible refine (storagebarterref29_Same.calls kj22 t313 t314 t315 t316 _ _ t317 t320 t321 t322 t323 t324 t325 t326 t327 t328 t331 t332 t333 t334 _ _ t335 t338 t339 t340 t341 t342 t343 t344 t345 t346 t349 _ ?side1 ?side2 ?side3 ?side4 A55.out).mono ?_); (case side1 => refine (Kd.R_reads' (e := 3) (base := w.heap.size) (ok := fun k_ => some k_ ≠ (.slice Ao34 ba2.length co34 : Value).ownBlock) (n := t317.length) (c := co41) ?_).2.2; exact (rU8 ((Kd.R_mono (Kd.R_far (p := ⟨gb348, 13, none⟩) (Kd.R_far (p := ⟨gb348, 12, none⟩) (Kd.R_far (p := ⟨gb348, 11, none⟩) (Kd.R_far (p := ⟨gb348, 10, none⟩) (Kd.R_far (p := ⟨gb348, 9, none⟩) (Kd.R_far (p := ⟨gb348, 8, none⟩) (Kd.R_far (p := ⟨gb348, 7, none⟩) (Kd.R_far (p := ⟨gb348, 6, none⟩) (Kd.R_far (p := ⟨gb348, 5, none⟩) (Kd.R_far (p := ⟨gb348, 4, none⟩) (Kd.R_far (p := ⟨gb348, 3, none⟩) (Kd.R_far (p := ⟨gb348, 2, none⟩) (Kd.R_far (p := ⟨gb348, 1, none⟩) (Kd.R_far (p := ⟨gb348, 0, none⟩) (Kd.R_types HO319.out BK348.out (by decide)) (fun _ hk => hk.2) (.int .i64 t331)) (fun _ hk => hk.2) (.int .i64 t332)) (fun _ hk => hk.2) (.int .i64 t333)) (fun _ hk => hk.2) (.int .i64 t334)) (fun _ hk => hk.2) (.slice Ao53 t335.length co53)) (fun _ hk => hk.2) (.int .i64 t338)) (fun _ hk => hk.2) (.int .i64 t339)) (fun _ hk => hk.2) (.int .i64 t340)) (fun _ hk => hk.2) (.bool t341)) (fun _ hk => hk.2) (.bool t342)) (fun _ hk => hk.2) (.bool t343)) (fun _ hk => hk.2) (.bool t344)) (fun _ hk => hk.2) (.bool t345)) (fun _ hk => hk.2) (.int .i64 t346)) (fun _ h_ => h_.1))))); (case side2 => exact (Kd.R_reads' HO319.out).2.1); (case side3 => refine (Kd.V_reads' (e := 3) (base := w.heap.size) (ok := fun k_ => ((some k_ ≠ (.slice Ao41 t317.length co41 : Value).ownBlock ∧ (k_ ≠ gb307 ∧ (k_ ≠ gb308 ∧ (k_ ≠ gb330 ∧ k_ ≠ g281)))) ∧ k_ ≠ gb348)) (n := t335.length) (c := co53) ?_).2.2; exact (vU8 ((Kd.V_mono (Kd.V_far (p := ⟨gb348, 13, none⟩) (Kd.V_far (p := ⟨gb348, 12, none⟩) (Kd.V_far (p := ⟨gb348, 11, none⟩) (Kd.V_far (p := ⟨gb348, 10, none⟩) (Kd.V_far (p := ⟨gb348, 9, none⟩) (Kd.V_far (p := ⟨gb348, 8, none⟩) (Kd.V_far (p := ⟨gb348, 7, none⟩) (Kd.V_far (p := ⟨gb348, 6, none⟩) (Kd.V_far (p := ⟨gb348, 5, none⟩) (Kd.V_far (p := ⟨gb348, 4, none⟩) (Kd.V_far (p := ⟨gb348, 3, none⟩) (Kd.V_far (p := ⟨gb348, 2, none⟩) (Kd.V_far (p := ⟨gb348, 1, none⟩) (Kd.V_far (p := ⟨gb348, 0, none⟩) (Kd.V_mono HO337.out (fun k_ hk => (⟨hk, hk.2⟩ : _ ∧ k_ ≠ gb348))) (fun _ hk => hk.2) (.int .i64 t331)) (fun _ hk => hk.2) (.int .i64 t332)) (fun _ hk => hk.2) (.int .i64 t333)) (fun _ hk => hk.2) (.int .i64 t334)) (fun _ hk => hk.2) (.slice Ao53 t335.length co53)) (fun _ hk => hk.2) (.int .i64 t338)) (fun _ hk => hk.2) (.int .i64 t339)) (fun _ hk => hk.2) (.int .i64 t340)) (fun _ hk => hk.2) (.bool t341)) (fun _ hk => hk.2) (.bool t342)) (fun _ hk => hk.2) (.bool t343)) (fun _ hk => hk.2) (.bool t344)) (fun _ hk => hk.2) (.bool t345)) (fun _ hk => hk.2) (.int .i64 t346)) (fun _ h_ => h_.1))))); (case side4 => exact (Kd.V_reads' HO337.out).2.1); rintro e w65 ⟨rfl, hb⟩; have n0_ := Aside0.mk (Kd.R_below (rU8 ((Kd.R_mono (Kd.R_far (p := ⟨gb348, 13, none⟩) (Kd.R_far (p := ⟨gb348, 12, none⟩) (Kd.R_far (p := ⟨gb348, 11, none⟩) (Kd.R_far (p := ⟨gb348, 10, none⟩) (Kd.R_far (p := ⟨gb348, 9, none⟩) (Kd.R_far (p := ⟨gb348, 8, none⟩) (Kd.R_far (p := ⟨gb348, 7, none⟩) (Kd.R_far (p := ⟨gb348, 6, none⟩) (Kd.R_far (p := ⟨gb348, 5, none⟩) (Kd.R_far (p := ⟨gb348, 4, none⟩) (Kd.R_far (p := ⟨gb348, 3, none⟩) (Kd.R_far (p := ⟨gb348, 2, none⟩) (Kd.R_far (p := ⟨gb348, 1, none⟩) (Kd.R_far (p := ⟨gb348, 0, none⟩) (Kd.R_types ba0.out BK348.out (by decide)) (fun _ hk => hk.2) (.int .i64 t331)) (fun _ hk => hk.2) (.int .i64 t332)) (fun _ hk => hk.2) (.int .i64 t333)) (fun _ hk => hk.2) (.int .i64 t334)) (fun _ hk => hk.2) (.slice Ao53 t335.length co53)) (fun _ hk => hk.2) (.int .i64 t338)) (fun _ hk => hk.2) (.int .i64 t339)) (fun _ hk => hk.2) (.int .i64 t340)) (fun _ hk => hk.2) (.bool t341)) (fun _ hk => hk.2) (.bool t342)) (fun _ hk => hk.2) (.bool t343)) (fun _ hk => hk.2) (.bool t344)) (fun _ hk => hk.2) (.bool t345)) (fun _ hk => hk.2) (.int .i64 t346)) (fun _ h_ => h_.1)))) hb); have n1_ := Aside0.mk (Kd.V_below (vU8 ((Kd.V_mono (Kd.V_far (p := ⟨gb348, 13, none⟩) (Kd.V_far (p := ⟨gb348, 12, none⟩) (Kd.V_far (p := ⟨gb348, 11, none⟩) (Kd.V_far (p := ⟨gb348, 10, none⟩) (Kd.V_far (p := ⟨gb348, 9, none⟩) (Kd.V_far (p := ⟨gb348, 8, none⟩) (Kd.V_far (p := ⟨gb348, 7, none⟩) (Kd.V_far (p := ⟨gb348, 6, none⟩) (Kd.V_far (p := ⟨gb348, 5, none⟩) (Kd.V_far (p := ⟨gb348, 4, none⟩) (Kd.V_far (p := ⟨gb348, 3, none⟩) (Kd.V_far (p := ⟨gb348, 2, none⟩) (Kd.V_far (p := ⟨gb348, 1, none⟩) (Kd.V_far (p := ⟨gb348, 0, none⟩) (Kd.V_mono ba1.out (fun k_ hk => (⟨hk, hk.2⟩ : _ ∧ k_ ≠ gb348))) (fun _ hk => hk.2) (.int .i64 t331)) (fun _ hk => hk.2) (.int .i64 t332)) (fun _ hk => hk.2) (.int .i64 t333)) (fun _ hk => hk.2) (.int .i64 t334)) (fun _ hk => hk.2) (.slice Ao53 t335.length co53)) (fun _ hk => hk.2) (.int .i64 t338)) (fun _ hk => hk.2) (.int .i64 t339)) (fun _ hk => hk.2) (.int .i64 t340)) (fun _ hk => hk.2) (.bool t341)) (fun _ hk => hk.2) (.bool t342)) (fun _ hk => hk.2) (.bool t343)) (fun _ hk => hk.2) (.bool t344)) (fun _ hk => hk.2) (.bool t345)) (fun _ hk => hk.2) (.int .i64 t346)) (fun _ h_ => h_.1)))) hb); have n2_ := Aside0.mk (Kd.R_below (rU8 ((Kd.R_mono (Kd.R_far (p := ⟨gb348, 13, none⟩) (Kd.R_far (p := ⟨gb348, 12, none⟩) (Kd.R_far (p := ⟨gb348, 11, none⟩) (Kd.R_far (p := ⟨gb348, 10, none⟩) (Kd.R_far (p := ⟨gb348, 9, none⟩) (Kd.R_far (p := ⟨gb348, 8, none⟩) (Kd.R_far (p := ⟨gb348, 7, none⟩) (Kd.R_far (p := ⟨gb348, 6, none⟩) (Kd.R_far (p := ⟨gb348, 5, none⟩) (Kd.R_far (p := ⟨gb348, 4, none⟩) (Kd.R_far (p := ⟨gb348, 3, none⟩) (Kd.R_far (p := ⟨gb348, 2, none⟩) (Kd.R_far (p := ⟨gb348, 1, none⟩) (Kd.R_far (p := ⟨gb348, 0, none⟩) (Kd.R_types HO319.out BK348.out (by decide)) (fun _ hk => hk.2) (.int .i64 t331)) (fun _ hk => hk.2) (.int .i64 t332)) (fun _ hk => hk.2) (.int .i64 t333)) (fun _ hk => hk.2) (.int .i64 t334)) (fun _ hk => hk.2) (.slice Ao53 t335.length co53)) (fun _ hk => hk.2) (.int .i64 t338)) (fun _ hk => hk.2) (.int .i64 t339)) (fun _ hk => hk.2) (.int .i64 t340)) (fun _ hk => hk.2) (.bool t341)) (fun _ hk => hk.2) (.bool t342)) (fun _ hk => hk.2) (.bool t343)) (fun _ hk => hk.2) (.bool t344)) (fun _ hk => hk.2) (.bool t345)) (fun _ hk => hk.2) (.int .i64 t346)) (fun _ h_ => h_.1)))) hb); have n3_ := Aside0.mk (Kd.V_below (vU8 ((Kd.V_mono (Kd.V_far (p := ⟨gb348, 13, none⟩) (Kd.V_far (p := ⟨gb348, 12, none⟩) (Kd.V_far (p := ⟨gb348, 11, none⟩) (Kd.V_far (p := ⟨gb348, 10, none⟩) (Kd.V_far (p := ⟨gb348, 9, none⟩) (Kd.V_far (p := ⟨gb348, 8, none⟩) (Kd.V_far (p := ⟨gb348, 7, none⟩) (Kd.V_far (p := ⟨gb348, 6, none⟩) (Kd.V_far (p := ⟨gb348, 5, none⟩) (Kd.V_far (p := ⟨gb348, 4, none⟩) (Kd.V_far (p := ⟨gb348, 3, none⟩) (Kd.V_far (p := ⟨gb348, 2, none⟩) (Kd.V_far (p := ⟨gb348, 1, none⟩) (Kd.V_far (p := ⟨gb348, 0, none⟩) (Kd.V_mono HO337.out (fun k_ hk => (⟨hk, hk.2⟩ : _ ∧ k_ ≠ gb348))) (fun _ hk => hk.2) (.int .i64 t331)) (fun _ hk => hk.2) (.int .i64 t332)) (fun _ hk => hk.2) (.int .i64 t333)) (fun _ hk => hk.2) (.int .i64 t334)) (fun _ hk => hk.2) (.slice Ao53 t335.length co53)) (fun _ hk => hk.2) (.int .i64 t338)) (fun _ hk => hk.2) (.int .i64 t339)) (fun _ hk => hk.2) (.int .i64 t340)) (fun _ hk => hk.2) (.bool t341)) (fun _ hk => hk.2) (.bool t342)) (fun _ hk => hk.2) (.bool t343)) (fun _ hk => hk.2) (.bool t344)) (fun _ hk => hk.2) (.bool t345)) (fun _ hk => hk.2) (.int .i64 t346)) (fun _ h_ => h_.1)))) hb); have n4_ := Aside0.mk (blk_below (g := gb307) (o := .cells #[.int .i64 bag, .int .i64 bah, .int .i64 baj, .int .i64 bak, .slice Ao34 ba2.length co34, .int .i64 bam, .int .i64 ban, .int .i64 bap, .bool baq, .bool bar, .bool bas, .bool bat, .bool bau, .int .i64 bav] 54 (0, 0)) (by (with_reducible repeat (first | refine blk_drewN ?_ _ | refine blk_drew ?_ | refine blk_alloc ?_ _)); refine blk_far14 ?_ NB307_348.out _ _ _ _ _ _ _ _ _ _ _ _ _ _; (with_reducible repeat (first | refine blk_drewN ?_ _ | refine blk_drew ?_ | refine blk_alloc ?_ _)); exact BK307.out) hb); have n5_ := Aside0.mk (blk_below (g := gb308) (o := .cells #[.int .i64 ba3, .int .i64 ba4, .int .i64 ba5, .int .i64 ba6, .slice Ao45 bax.length co45, .int .i64 ba7, .int .i64 ba8, .int .i64 ba9, .bool baa, .bool bab, .bool bac, .bool bad, .bool bae, .int .i64 baf] 54 (0, 0)) (by (with_reducible repeat (first | refine blk_drewN ?_ _ | refine blk_drew ?_ | refine blk_alloc ?_ _)); refine blk_far14 ?_ NB308_348.out _ _ _ _ _ _ _ _ _ _ _ _ _ _; (with_reducible repeat (first | refine blk_drewN ?_ _ | refine blk_drew ?_ | refine blk_alloc ?_ _)); exact BK308.out) hb); have n6_ := Aside0.mk (IsS88.below (show IsS88 w ((((((((((((((w47.setCell ⟨gb348, 0, none⟩ (.int .i64 t331)).setCell ⟨gb348, 1, none⟩ (.int .i64 t332)).setCell ⟨gb348, 2, none⟩ (.int .i64 t333)).setCell ⟨gb348, 3, none⟩ (.int .i64 t334)).setCell ⟨gb348, 4, none⟩ (.slice Ao53 t335.length co53)).setCell ⟨gb348, 5, none⟩ (.int .i64 t338)).setCell ⟨gb348, 6, none⟩ (.int .i64 t339)).setCell ⟨gb348, 7, none⟩ (.int .i64 t340)).setCell ⟨gb348, 8, none⟩ (.bool t341)).setCell ⟨gb348, 9, none⟩ (.bool t342)).setCell ⟨gb348, 10, none⟩ (.bool t343)).setCell ⟨gb348, 11, none⟩ (.bool t344)).setCell ⟨gb348, 12, none⟩ (.bool t345)).setCell ⟨gb348, 13, none⟩ (.int .i64 t346)) g281 t279 baw from by repeat (first | (with_reducible first | exact HI281.out | apply IsS88.alloc | apply IsS88.drewN | apply IsS88.drew | apply IsS88.set_1 | refine IsS88.far ?_ NB281_307.out _ | refine IsS88.far ?_ NB281_308.out _ | refine IsS88.far ?_ NB281_330.out _ | refine IsS88.far ?_ NB281_348.out _) | exact HI281.out)) hb); have n7_ := Aside0.mk (blk_below (g := gb330) (o := .cells #[.int .i64 t313, .int .i64 t314, .int .i64 t315, .int .i64 t316, .slice Ao41 t317.length co41, .int .i64 t320, .int .i64 t321, .int .i64 t322, .bool t323, .bool t324, .bool t325, .bool t326, .bool t327, .int .i64 t328] 54 (0, 0)) (by (with_reducible repeat (first | refine blk_drewN ?_ _ | refine blk_drew ?_ | refine blk_alloc ?_ _)); refine blk_far14 ?_ NB330_348.out _ _ _ _ _ _ _ _ _ _ _ _ _ _; (with_reducible repeat (first | refine blk_drewN ?_ _ | refine blk_drew ?_ | refine blk_alloc ?_ _)); exact BK330.out) hb); have n8_ := Aside0.mk (blk_below (g := gb348) (o := .cells #[.int .i64 t331, .int .i64 t332, .int .i64 t333, .int .i64 t334, .slice Ao53 t335.length co53, .int .i64 t338, .int .i64 t339, .int .i64 t340, .bool t341, .bool t342, .bool t343, .bool t344, .bool t345, .int .i64 t346] 54 (0, 0)) (by (with_reducible repeat (first | refine blk_drewN ?_ _ | refine blk_drew ?_ | refine blk_alloc ?_ _)); first | exact blk_all14 (blk_drewN BK348.out nd) _ _ _ _ _ _ _ _ _ _ _ _ _ _ | exact blk_all14 BK348.out _ _ _ _ _ _ _ _ _ _ _ _ _ _ | exact blk_all14 (bU8 BK348.out) _ _ _ _ _ _ _ _ _ _ _ _ _ _ | exact blk_all14 (blk_up BK348.out) _ _ _ _ _ _ _ _ _ _ _ _ _ _) hb); have n9_ := Aside0.mk (below_step (by repeat (first | (with_reducible first | exact HB.out | apply below_alloc | apply pw_below_drewN | apply below_drew1 | refine below_set ?_ (IsS88.ge HI281.out) | refine below_set ?_ (Aside0.out (by assumption))) | exact HB.out)) hb); clear ba0; clear ba1; clear HO319; clear HO337; clear BK307; clear BK308; clear HI281; clear BK330; clear BK348; clear HB; have ba0 := n0_; have ba1 := n1_; have HO319 := n2_; have HO337 := n3_; have BK307 := n4_; have BK308 := n5_; have HI281 := n6_; have BK330 := n7_; have BK348 := n8_; have HB := n9_; clear n0_ n1_ n2_ n3_ n4_ n5_ n6_ n7_ n8_ n9_; (try clear hb); (try clear hb2); (try clear hk); (try clear hi); (try clear hgw)))
      go_meet
      case rel => exact ⟨_, (!t349), (by first | rfl | (simp; done) | (simp [*]; done)), H', ⟨by have := HK1.out; have := HJ22.out; first | omega | exact Nat.le_refl _⟩, ⟨by (with_reducible repeat (first | apply Kd.R_alloc | apply Kd.R_drewN | apply Kd.R_drew)); exact ba0.out⟩, ⟨by (with_reducible repeat (first | apply Kd.V_alloc | apply Kd.V_drewN | apply Kd.V_drew)); exact Kd.V_mono ba1.out (fun _ hk => ⟨hk.1.1, ⟨hk.1.2.1, ⟨hk.1.2.2.1, ⟨hk.1.2.2.2.2, ⟨hk.2, hk.1.2.2.2.1⟩⟩⟩⟩⟩)⟩, ⟨by (with_reducible repeat (first | apply Kd.R_alloc | apply Kd.R_drewN | apply Kd.R_drew)); exact HO319.out⟩, ⟨by (with_reducible repeat (first | apply Kd.V_alloc | apply Kd.V_drewN | apply Kd.V_drew)); exact Kd.V_mono HO337.out (fun _ hk => ⟨hk.1.1, ⟨hk.1.2.1, ⟨hk.1.2.2.1, ⟨hk.1.2.2.2.1, ⟨hk.2, hk.1.2.2.2.2⟩⟩⟩⟩⟩)⟩, ⟨by exact bU8 BK307.out⟩, ⟨by exact bU8 BK308.out⟩, ⟨by exact bU8 BK330.out⟩, ⟨by exact bU8 BK348.out⟩, ⟨by repeat (first | (with_reducible first | exact HI281.out | apply IsS88.alloc | apply IsS88.drewN | apply IsS88.drew | apply IsS88.set_1 | refine IsS88.far ?_ NB281_307.out _ | refine IsS88.far ?_ NB281_308.out _ | refine IsS88.far ?_ NB281_330.out _ | refine IsS88.far ?_ NB281_348.out _) | exact HI281.out)⟩, ⟨by repeat (first | (with_reducible first | exact HB.out | apply below_alloc | apply pw_below_drewN | apply below_drew1 | refine below_set ?_ (IsS88.ge HI281.out) | refine below_set ?_ (Aside0.out (by assumption))) | exact HB.out)⟩⟩
     case rest =>
      clear HC30
      try clear c1
      try clear c2
      try clear p2
      try clear c3
      try clear c4
      try clear c5
      try clear c6
      try clear c7
      try clear c7b0
      try clear c7b1
      try clear c8
      try clear c14
      try clear c17
      try clear c18
      try clear c19
      try clear c21
      try clear c21b0
      try clear c25
      try clear c25b0
      try clear c25b1
      try clear c31
      try clear c32
      try clear c35
      try clear c36
      try clear c37
      try clear c38
      try clear c39
      try clear c43
      try clear c48
      try clear c49
      try clear c50
      try clear c51
      try clear c54
      try clear c54b0
      try clear c54b1
      try clear c56
      try clear c57
      try clear c58
      try clear c59
      try clear c61
      try clear c62
      try clear c63
      try clear hcz15
      try clear hcz20
      try clear hcz33
      try clear hcz40
      try clear hcz44
      try clear hcz52
      try clear hcz60
      try clear hcz64
      try clear hfz15
      try clear hfz20
      try clear hfz33
      try clear hfz40
      try clear hfz44
      try clear hfz52
      try clear hfz60
      try clear hfz64
      try clear p2
      obtain ⟨kq, x55_29, rfl, HA, HJ29, ba0, ba1, HO_331004, HO_349004, BK307, BK308, BK330, BK348, HI281, HB⟩ := hcut
      cases kq with
      | zero => exact absurd HA.out (by simp [storagebarterlaw29_SlotWalks.j2])
      | succ kj29 =>
       have H := HA.out
       clear HA
       simp only [storagebarterlaw29_SlotWalks.j2] at H
       by_cases c66 : x55_29 = true
       case pos =>
        subst c66
        have H1 : (some false) = some r := by rw [if_pos rfl] at H; exact H
        clear H
        have H := H1
        clear H1
        exact absurd (Option.some.inj H) (by rw [HRT_.out]; decide)
       replace c66 := Bool.eq_false_iff.mpr c66
       subst c66
       have H1 : (if t329 = 0 then (storagebarterlaw29_SlotWalks.l0 kj29 (wrap64 (x7_1 + 1)) t279 baw t313 t314 t315 t316 t317 t320 t321 t322 t323 t324 t325 t326 t327 t328 t331 t332 t333 t334 t335 t338 t339 t340 t341 t342 t343 t344 t345 t346) else (some true)) = some r := by rw [if_neg (show ¬ (false = true) by decide)] at H; exact H
       clear H
       have H := H1
       clear H1
       by_cases c67 : t329 = 0
       case neg =>
        rw [if_neg c67] at H
        have c67b0 : (t329 == 0) = false := beq_eq_false_iff_ne.mpr c67
        have c67b1 : (t329 != 0) = true := bne_iff_ne.mpr c67
        obtain rfl := Option.some.inj H
        go_wp2
        go_ret
        exact ⟨by first | rfl | (simp [errW_none, errW_some] <;> rfl) | (simp [*, errW_none, errW_some] <;> rfl), by repeat (first | (with_reducible first | exact HB.out | apply below_alloc | apply pw_below_drewN | apply below_drew1 | refine below_set ?_ (IsS88.ge HI281.out) | refine below_set ?_ (Aside0.out (by assumption))) | exact HB.out)⟩
       rw [if_pos c67] at H
       have c67b0 : (t329 == 0) = true := beq_iff_eq.mpr c67
       have c67b1 : (t329 != 0) = false := bne_eq_false_iff_eq.mpr c67
       clear c67
       have H' := Aside0.mk H
       clear H
       try go_wp2
       have n0_ := Aside0.mk (Kd.R_drew ba0.out)
       have n1_ := Aside0.mk (Kd.V_drew ba1.out)
       have n2_ := Aside0.mk (Kd.R_drew HO_331004.out)
       have n3_ := Aside0.mk (Kd.V_drew HO_349004.out)
       have n4_ := Aside0.mk (blk_drew BK307.out)
       have n5_ := Aside0.mk (blk_drew BK308.out)
       have n6_ := Aside0.mk (blk_drew BK330.out)
       have n7_ := Aside0.mk (blk_drew BK348.out)
       have n8_ := Aside0.mk (IsS88.drew HI281.out)
       have n9_ := Aside0.mk (below_drew1 HB.out)
       clear ba0
       clear ba1
       clear HO_331004
       clear HO_349004
       clear BK307
       clear BK308
       clear BK330
       clear BK348
       clear HI281
       clear HB
       have ba0 := n0_
       have ba1 := n1_
       have HO_331004 := n2_
       have HO_349004 := n3_
       have BK307 := n4_
       have BK308 := n5_
       have BK330 := n6_
       have BK348 := n7_
       have HI281 := n8_
       have HB := n9_
       clear n0_ n1_ n2_ n3_ n4_ n5_ n6_ n7_ n8_ n9_
       refine start_ (n := 4) (S := fun w' => w'.cell? ⟨gb330, 0, none⟩ = some (.int .i64 t313) ∧ w'.cell? ⟨gb330, 1, none⟩ = some (.int .i64 t314) ∧ w'.cell? ⟨gb330, 2, none⟩ = some (.int .i64 t315) ∧ w'.cell? ⟨gb330, 3, none⟩ = some (.int .i64 t316) ∧ w'.cell? ⟨gb330, 4, none⟩ = some (.slice Ao41 t317.length co41) ∧ w'.cell? ⟨gb330, 5, none⟩ = some (.int .i64 t320) ∧ w'.cell? ⟨gb330, 6, none⟩ = some (.int .i64 t321) ∧ w'.cell? ⟨gb330, 7, none⟩ = some (.int .i64 t322) ∧ w'.cell? ⟨gb330, 8, none⟩ = some (.bool t323) ∧ w'.cell? ⟨gb330, 9, none⟩ = some (.bool t324) ∧ w'.cell? ⟨gb330, 10, none⟩ = some (.bool t325) ∧ w'.cell? ⟨gb330, 11, none⟩ = some (.bool t326) ∧ w'.cell? ⟨gb330, 12, none⟩ = some (.bool t327) ∧ w'.cell? ⟨gb330, 13, none⟩ = some (.int .i64 t328) ∧ w'.cell? ⟨gb348, 0, none⟩ = some (.int .i64 t331) ∧ w'.cell? ⟨gb348, 1, none⟩ = some (.int .i64 t332) ∧ w'.cell? ⟨gb348, 2, none⟩ = some (.int .i64 t333) ∧ w'.cell? ⟨gb348, 3, none⟩ = some (.int .i64 t334) ∧ w'.cell? ⟨gb348, 4, none⟩ = some (.slice Ao53 t335.length co53) ∧ w'.cell? ⟨gb348, 5, none⟩ = some (.int .i64 t338) ∧ w'.cell? ⟨gb348, 6, none⟩ = some (.int .i64 t339) ∧ w'.cell? ⟨gb348, 7, none⟩ = some (.int .i64 t340) ∧ w'.cell? ⟨gb348, 8, none⟩ = some (.bool t341) ∧ w'.cell? ⟨gb348, 9, none⟩ = some (.bool t342) ∧ w'.cell? ⟨gb348, 10, none⟩ = some (.bool t343) ∧ w'.cell? ⟨gb348, 11, none⟩ = some (.bool t344) ∧ w'.cell? ⟨gb348, 12, none⟩ = some (.bool t345) ∧ w'.cell? ⟨gb348, 13, none⟩ = some (.int .i64 t346)) (ds := []) #[false, false, false, false] (by kernel_rfl) rfl rfl ⟨(blk_cell BK330.out 0).trans rfl, (blk_cell BK330.out 1).trans rfl, (blk_cell BK330.out 2).trans rfl, (blk_cell BK330.out 3).trans rfl, (blk_cell BK330.out 4).trans rfl, (blk_cell BK330.out 5).trans rfl, (blk_cell BK330.out 6).trans rfl, (blk_cell BK330.out 7).trans rfl, (blk_cell BK330.out 8).trans rfl, (blk_cell BK330.out 9).trans rfl, (blk_cell BK330.out 10).trans rfl, (blk_cell BK330.out 11).trans rfl, (blk_cell BK330.out 12).trans rfl, (blk_cell BK330.out 13).trans rfl, (blk_cell BK348.out 0).trans rfl, (blk_cell BK348.out 1).trans rfl, (blk_cell BK348.out 2).trans rfl, (blk_cell BK348.out 3).trans rfl, (blk_cell BK348.out 4).trans rfl, (blk_cell BK348.out 5).trans rfl, (blk_cell BK348.out 6).trans rfl, (blk_cell BK348.out 7).trans rfl, (blk_cell BK348.out 8).trans rfl, (blk_cell BK348.out 9).trans rfl, (blk_cell BK348.out 10).trans rfl, (blk_cell BK348.out 11).trans rfl, (blk_cell BK348.out 12).trans rfl, (blk_cell BK348.out 13).trans rfl⟩ (fun hHeld => ?_)
       generalize wc.drew = w68 at ba0 ba1 HO_331004 HO_349004 BK307 BK308 BK330 BK348 HI281 HB hHeld ⊢
       refine take_ (i := 0) (N := some 58) (v := ?_) (a' := ?_) #[true, false, false, false] rfl rfl (by kernel_rfl) (fun _ _ _ h => h) (Or.inl ⟨by rfl, ?_⟩) hHeld ?_ ?_
       rotate_left
       ·rintro w' ⟨s0, s1, s2, s3, s4, s5, s6, s7, s8, s9, s10, s11, s12, s13, s14, s15, s16, s17, s18, s19, s20, s21, s22, s23, s24, s25, s26, s27⟩
        go_simp
        with_reducible rfl
       rotate_left
       ·simp only [Act.put, List.setIfInBounds_toArray, List.set_cons_zero, List.set_cons_succ, i64_w, i32_w]
        rfl
       refine take_ (i := 1) (N := some 59) (v := ?_) (a' := ?_) #[true, true, false, false] rfl rfl (by kernel_rfl) (fun _ _ _ h => h) (Or.inl ⟨by rfl, ?_⟩) hHeld ?_ ?_
       rotate_left
       ·rintro w' ⟨s0, s1, s2, s3, s4, s5, s6, s7, s8, s9, s10, s11, s12, s13, s14, s15, s16, s17, s18, s19, s20, s21, s22, s23, s24, s25, s26, s27⟩
        go_simp
        with_reducible rfl
       rotate_left
       ·simp only [Act.put, List.setIfInBounds_toArray, List.set_cons_zero, List.set_cons_succ, i64_w, i32_w]
        rfl
       refine one_ (i := 2) (N := none) #[true, true, true, false] rfl rfl (by kernel_rfl) (by decide) (fun K hK => ?_)
       have hs69 : w68.cell? ⟨gb307, 0, none⟩ = some (.int .i64 bag) := (blk_cell BK307.out 0).trans rfl
       have hfs69 := blk_frozen BK307.out 0
       have hns69_1 := NB308_307.out
       have hns69_2 := NB330_307.out
       have hns69_3 := NB348_307.out
       have hms69_1 := NB307_308.out
       have hms69_2 := NB307_330.out
       have hms69_3 := NB307_348.out
       have hs70 : w68.cell? ⟨gb307, 1, none⟩ = some (.int .i64 bah) := (blk_cell BK307.out 1).trans rfl
       have hfs70 := blk_frozen BK307.out 1
       have hns70_1 := NB308_307.out
       have hns70_2 := NB330_307.out
       have hns70_3 := NB348_307.out
       have hms70_1 := NB307_308.out
       have hms70_2 := NB307_330.out
       have hms70_3 := NB307_348.out
       have hs71 : w68.cell? ⟨gb307, 2, none⟩ = some (.int .i64 baj) := (blk_cell BK307.out 2).trans rfl
       have hfs71 := blk_frozen BK307.out 2
       have hns71_1 := NB308_307.out
       have hns71_2 := NB330_307.out
       have hns71_3 := NB348_307.out
       have hms71_1 := NB307_308.out
       have hms71_2 := NB307_330.out
       have hms71_3 := NB307_348.out
       have hs72 : w68.cell? ⟨gb307, 3, none⟩ = some (.int .i64 bak) := (blk_cell BK307.out 3).trans rfl
       have hfs72 := blk_frozen BK307.out 3
       have hns72_1 := NB308_307.out
       have hns72_2 := NB330_307.out
       have hns72_3 := NB348_307.out
       have hms72_1 := NB307_308.out
       have hms72_2 := NB307_330.out
       have hms72_3 := NB307_348.out
       have hs73 : w68.cell? ⟨gb307, 4, none⟩ = some (.slice Ao34 ba2.length co34) := (blk_cell BK307.out 4).trans rfl
       have hfs73 := blk_frozen BK307.out 4
       have hns73_1 := NB308_307.out
       have hns73_2 := NB330_307.out
       have hns73_3 := NB348_307.out
       have hms73_1 := NB307_308.out
       have hms73_2 := NB307_330.out
       have hms73_3 := NB307_348.out
       have hs74 : w68.cell? ⟨gb307, 5, none⟩ = some (.int .i64 bam) := (blk_cell BK307.out 5).trans rfl
       have hfs74 := blk_frozen BK307.out 5
       have hns74_1 := NB308_307.out
       have hns74_2 := NB330_307.out
       have hns74_3 := NB348_307.out
       have hms74_1 := NB307_308.out
       have hms74_2 := NB307_330.out
       have hms74_3 := NB307_348.out
       have hs75 : w68.cell? ⟨gb307, 6, none⟩ = some (.int .i64 ban) := (blk_cell BK307.out 6).trans rfl
       have hfs75 := blk_frozen BK307.out 6
       have hns75_1 := NB308_307.out
       have hns75_2 := NB330_307.out
       have hns75_3 := NB348_307.out
       have hms75_1 := NB307_308.out
       have hms75_2 := NB307_330.out
       have hms75_3 := NB307_348.out
       have hs76 : w68.cell? ⟨gb307, 7, none⟩ = some (.int .i64 bap) := (blk_cell BK307.out 7).trans rfl
       have hfs76 := blk_frozen BK307.out 7
       have hns76_1 := NB308_307.out
       have hns76_2 := NB330_307.out
       have hns76_3 := NB348_307.out
       have hms76_1 := NB307_308.out
       have hms76_2 := NB307_330.out
       have hms76_3 := NB307_348.out
       have hs77 : w68.cell? ⟨gb307, 8, none⟩ = some (.bool baq) := (blk_cell BK307.out 8).trans rfl
       have hfs77 := blk_frozen BK307.out 8
       have hns77_1 := NB308_307.out
       have hns77_2 := NB330_307.out
       have hns77_3 := NB348_307.out
       have hms77_1 := NB307_308.out
       have hms77_2 := NB307_330.out
       have hms77_3 := NB307_348.out
       have hs78 : w68.cell? ⟨gb307, 9, none⟩ = some (.bool bar) := (blk_cell BK307.out 9).trans rfl
       have hfs78 := blk_frozen BK307.out 9
       have hns78_1 := NB308_307.out
       have hns78_2 := NB330_307.out
       have hns78_3 := NB348_307.out
       have hms78_1 := NB307_308.out
       have hms78_2 := NB307_330.out
       have hms78_3 := NB307_348.out
       have hs79 : w68.cell? ⟨gb307, 10, none⟩ = some (.bool bas) := (blk_cell BK307.out 10).trans rfl
       have hfs79 := blk_frozen BK307.out 10
       have hns79_1 := NB308_307.out
       have hns79_2 := NB330_307.out
       have hns79_3 := NB348_307.out
       have hms79_1 := NB307_308.out
       have hms79_2 := NB307_330.out
       have hms79_3 := NB307_348.out
       have hs80 : w68.cell? ⟨gb307, 11, none⟩ = some (.bool bat) := (blk_cell BK307.out 11).trans rfl
       have hfs80 := blk_frozen BK307.out 11
       have hns80_1 := NB308_307.out
       have hns80_2 := NB330_307.out
       have hns80_3 := NB348_307.out
       have hms80_1 := NB307_308.out
       have hms80_2 := NB307_330.out
       have hms80_3 := NB307_348.out
       have hs81 : w68.cell? ⟨gb307, 12, none⟩ = some (.bool bau) := (blk_cell BK307.out 12).trans rfl
       have hfs81 := blk_frozen BK307.out 12
       have hns81_1 := NB308_307.out
       have hns81_2 := NB330_307.out
       have hns81_3 := NB348_307.out
       have hms81_1 := NB307_308.out
       have hms81_2 := NB307_330.out
       have hms81_3 := NB307_348.out
       have hs82 : w68.cell? ⟨gb307, 13, none⟩ = some (.int .i64 bav) := (blk_cell BK307.out 13).trans rfl
       have hfs82 := blk_frozen BK307.out 13
       have hns82_1 := NB308_307.out
       have hns82_2 := NB330_307.out
       have hns82_3 := NB348_307.out
       have hms82_1 := NB307_308.out
       have hms82_2 := NB307_330.out
       have hms82_3 := NB307_348.out
       refine skip_ (w1 := ?w1_0) ?hw_0 ?hN_0 ?hr_0 ?hh_0
       (case hw_0 => rfl)
       (case hN_0 => rfl)
       (case hr_0 => (go_simp; rfl))
       refine hK.out _ _ ⟨(cf14 NB330_307.out hHeld.1), (cf14 NB330_307.out hHeld.2.1), (cf14 NB330_307.out hHeld.2.2.1), (cf14 NB330_307.out hHeld.2.2.2.1), (cf14 NB330_307.out hHeld.2.2.2.2.1), (cf14 NB330_307.out hHeld.2.2.2.2.2.1), (cf14 NB330_307.out hHeld.2.2.2.2.2.2.1), (cf14 NB330_307.out hHeld.2.2.2.2.2.2.2.1), (cf14 NB330_307.out hHeld.2.2.2.2.2.2.2.2.1), (cf14 NB330_307.out hHeld.2.2.2.2.2.2.2.2.2.1), (cf14 NB330_307.out hHeld.2.2.2.2.2.2.2.2.2.2.1), (cf14 NB330_307.out hHeld.2.2.2.2.2.2.2.2.2.2.2.1), (cf14 NB330_307.out hHeld.2.2.2.2.2.2.2.2.2.2.2.2.1), (cf14 NB330_307.out hHeld.2.2.2.2.2.2.2.2.2.2.2.2.2.1), (cf14 NB348_307.out hHeld.2.2.2.2.2.2.2.2.2.2.2.2.2.2.1), (cf14 NB348_307.out hHeld.2.2.2.2.2.2.2.2.2.2.2.2.2.2.2.1), (cf14 NB348_307.out hHeld.2.2.2.2.2.2.2.2.2.2.2.2.2.2.2.2.1), (cf14 NB348_307.out hHeld.2.2.2.2.2.2.2.2.2.2.2.2.2.2.2.2.2.1), (cf14 NB348_307.out hHeld.2.2.2.2.2.2.2.2.2.2.2.2.2.2.2.2.2.2.1), (cf14 NB348_307.out hHeld.2.2.2.2.2.2.2.2.2.2.2.2.2.2.2.2.2.2.2.1), (cf14 NB348_307.out hHeld.2.2.2.2.2.2.2.2.2.2.2.2.2.2.2.2.2.2.2.2.1), (cf14 NB348_307.out hHeld.2.2.2.2.2.2.2.2.2.2.2.2.2.2.2.2.2.2.2.2.2.1), (cf14 NB348_307.out hHeld.2.2.2.2.2.2.2.2.2.2.2.2.2.2.2.2.2.2.2.2.2.2.1), (cf14 NB348_307.out hHeld.2.2.2.2.2.2.2.2.2.2.2.2.2.2.2.2.2.2.2.2.2.2.2.1), (cf14 NB348_307.out hHeld.2.2.2.2.2.2.2.2.2.2.2.2.2.2.2.2.2.2.2.2.2.2.2.2.1), (cf14 NB348_307.out hHeld.2.2.2.2.2.2.2.2.2.2.2.2.2.2.2.2.2.2.2.2.2.2.2.2.2.1), (cf14 NB348_307.out hHeld.2.2.2.2.2.2.2.2.2.2.2.2.2.2.2.2.2.2.2.2.2.2.2.2.2.2.1), (cf14 NB348_307.out hHeld.2.2.2.2.2.2.2.2.2.2.2.2.2.2.2.2.2.2.2.2.2.2.2.2.2.2.2)⟩ (fun hHeld => ?_)
       clear hK K
       refine one_ (i := 3) (N := none) #[true, true, true, true] rfl rfl (by kernel_rfl) (by decide) (fun K hK => ?_)
       have hs83 : w68.cell? ⟨gb308, 0, none⟩ = some (.int .i64 ba3) := (blk_cell BK308.out 0).trans rfl
       have hfs83 := blk_frozen BK308.out 0
       have hns83_0 := NB307_308.out
       have hns83_2 := NB330_308.out
       have hns83_3 := NB348_308.out
       have hms83_0 := NB308_307.out
       have hms83_2 := NB308_330.out
       have hms83_3 := NB308_348.out
       have hs84 : w68.cell? ⟨gb308, 1, none⟩ = some (.int .i64 ba4) := (blk_cell BK308.out 1).trans rfl
       have hfs84 := blk_frozen BK308.out 1
       have hns84_0 := NB307_308.out
       have hns84_2 := NB330_308.out
       have hns84_3 := NB348_308.out
       have hms84_0 := NB308_307.out
       have hms84_2 := NB308_330.out
       have hms84_3 := NB308_348.out
       have hs85 : w68.cell? ⟨gb308, 2, none⟩ = some (.int .i64 ba5) := (blk_cell BK308.out 2).trans rfl
       have hfs85 := blk_frozen BK308.out 2
       have hns85_0 := NB307_308.out
       have hns85_2 := NB330_308.out
       have hns85_3 := NB348_308.out
       have hms85_0 := NB308_307.out
       have hms85_2 := NB308_330.out
       have hms85_3 := NB308_348.out
       have hs86 : w68.cell? ⟨gb308, 3, none⟩ = some (.int .i64 ba6) := (blk_cell BK308.out 3).trans rfl
       have hfs86 := blk_frozen BK308.out 3
       have hns86_0 := NB307_308.out
       have hns86_2 := NB330_308.out
       have hns86_3 := NB348_308.out
       have hms86_0 := NB308_307.out
       have hms86_2 := NB308_330.out
       have hms86_3 := NB308_348.out
       have hs87 : w68.cell? ⟨gb308, 4, none⟩ = some (.slice Ao45 bax.length co45) := (blk_cell BK308.out 4).trans rfl
       have hfs87 := blk_frozen BK308.out 4
       have hns87_0 := NB307_308.out
       have hns87_2 := NB330_308.out
       have hns87_3 := NB348_308.out
       have hms87_0 := NB308_307.out
       have hms87_2 := NB308_330.out
       have hms87_3 := NB308_348.out
       have hs88 : w68.cell? ⟨gb308, 5, none⟩ = some (.int .i64 ba7) := (blk_cell BK308.out 5).trans rfl
       have hfs88 := blk_frozen BK308.out 5
       have hns88_0 := NB307_308.out
       have hns88_2 := NB330_308.out
       have hns88_3 := NB348_308.out
       have hms88_0 := NB308_307.out
       have hms88_2 := NB308_330.out
       have hms88_3 := NB308_348.out
       have hs89 : w68.cell? ⟨gb308, 6, none⟩ = some (.int .i64 ba8) := (blk_cell BK308.out 6).trans rfl
       have hfs89 := blk_frozen BK308.out 6
       have hns89_0 := NB307_308.out
       have hns89_2 := NB330_308.out
       have hns89_3 := NB348_308.out
       have hms89_0 := NB308_307.out
       have hms89_2 := NB308_330.out
       have hms89_3 := NB308_348.out
       have hs90 : w68.cell? ⟨gb308, 7, none⟩ = some (.int .i64 ba9) := (blk_cell BK308.out 7).trans rfl
       have hfs90 := blk_frozen BK308.out 7
       have hns90_0 := NB307_308.out
       have hns90_2 := NB330_308.out
       have hns90_3 := NB348_308.out
       have hms90_0 := NB308_307.out
       have hms90_2 := NB308_330.out
       have hms90_3 := NB308_348.out
       have hs91 : w68.cell? ⟨gb308, 8, none⟩ = some (.bool baa) := (blk_cell BK308.out 8).trans rfl
       have hfs91 := blk_frozen BK308.out 8
       have hns91_0 := NB307_308.out
       have hns91_2 := NB330_308.out
       have hns91_3 := NB348_308.out
       have hms91_0 := NB308_307.out
       have hms91_2 := NB308_330.out
       have hms91_3 := NB308_348.out
       have hs92 : w68.cell? ⟨gb308, 9, none⟩ = some (.bool bab) := (blk_cell BK308.out 9).trans rfl
       have hfs92 := blk_frozen BK308.out 9
       have hns92_0 := NB307_308.out
       have hns92_2 := NB330_308.out
       have hns92_3 := NB348_308.out
       have hms92_0 := NB308_307.out
       have hms92_2 := NB308_330.out
       have hms92_3 := NB308_348.out
       have hs93 : w68.cell? ⟨gb308, 10, none⟩ = some (.bool bac) := (blk_cell BK308.out 10).trans rfl
       have hfs93 := blk_frozen BK308.out 10
       have hns93_0 := NB307_308.out
       have hns93_2 := NB330_308.out
       have hns93_3 := NB348_308.out
       have hms93_0 := NB308_307.out
       have hms93_2 := NB308_330.out
       have hms93_3 := NB308_348.out
       have hs94 : w68.cell? ⟨gb308, 11, none⟩ = some (.bool bad) := (blk_cell BK308.out 11).trans rfl
       have hfs94 := blk_frozen BK308.out 11
       have hns94_0 := NB307_308.out
       have hns94_2 := NB330_308.out
       have hns94_3 := NB348_308.out
       have hms94_0 := NB308_307.out
       have hms94_2 := NB308_330.out
       have hms94_3 := NB308_348.out
       have hs95 : w68.cell? ⟨gb308, 12, none⟩ = some (.bool bae) := (blk_cell BK308.out 12).trans rfl
       have hfs95 := blk_frozen BK308.out 12
       have hns95_0 := NB307_308.out
       have hns95_2 := NB330_308.out
       have hns95_3 := NB348_308.out
       have hms95_0 := NB308_307.out
       have hms95_2 := NB308_330.out
       have hms95_3 := NB308_348.out
       have hs96 : w68.cell? ⟨gb308, 13, none⟩ = some (.int .i64 baf) := (blk_cell BK308.out 13).trans rfl
       have hfs96 := blk_frozen BK308.out 13
       have hns96_0 := NB307_308.out
       have hns96_2 := NB330_308.out
       have hns96_3 := NB348_308.out
       have hms96_0 := NB308_307.out
       have hms96_2 := NB308_330.out
       have hms96_3 := NB308_348.out
       refine skip_ (w1 := ?w1_1) ?hw_1 ?hN_1 ?hr_1 ?hh_1
       (case hw_1 => rfl)
       (case hN_1 => rfl)
       (case hr_1 => (go_simp; rfl))
       refine hK.out _ _ ⟨(cf14 NB330_308.out hHeld.1), (cf14 NB330_308.out hHeld.2.1), (cf14 NB330_308.out hHeld.2.2.1), (cf14 NB330_308.out hHeld.2.2.2.1), (cf14 NB330_308.out hHeld.2.2.2.2.1), (cf14 NB330_308.out hHeld.2.2.2.2.2.1), (cf14 NB330_308.out hHeld.2.2.2.2.2.2.1), (cf14 NB330_308.out hHeld.2.2.2.2.2.2.2.1), (cf14 NB330_308.out hHeld.2.2.2.2.2.2.2.2.1), (cf14 NB330_308.out hHeld.2.2.2.2.2.2.2.2.2.1), (cf14 NB330_308.out hHeld.2.2.2.2.2.2.2.2.2.2.1), (cf14 NB330_308.out hHeld.2.2.2.2.2.2.2.2.2.2.2.1), (cf14 NB330_308.out hHeld.2.2.2.2.2.2.2.2.2.2.2.2.1), (cf14 NB330_308.out hHeld.2.2.2.2.2.2.2.2.2.2.2.2.2.1), (cf14 NB348_308.out hHeld.2.2.2.2.2.2.2.2.2.2.2.2.2.2.1), (cf14 NB348_308.out hHeld.2.2.2.2.2.2.2.2.2.2.2.2.2.2.2.1), (cf14 NB348_308.out hHeld.2.2.2.2.2.2.2.2.2.2.2.2.2.2.2.2.1), (cf14 NB348_308.out hHeld.2.2.2.2.2.2.2.2.2.2.2.2.2.2.2.2.2.1), (cf14 NB348_308.out hHeld.2.2.2.2.2.2.2.2.2.2.2.2.2.2.2.2.2.2.1), (cf14 NB348_308.out hHeld.2.2.2.2.2.2.2.2.2.2.2.2.2.2.2.2.2.2.2.1), (cf14 NB348_308.out hHeld.2.2.2.2.2.2.2.2.2.2.2.2.2.2.2.2.2.2.2.2.1), (cf14 NB348_308.out hHeld.2.2.2.2.2.2.2.2.2.2.2.2.2.2.2.2.2.2.2.2.2.1), (cf14 NB348_308.out hHeld.2.2.2.2.2.2.2.2.2.2.2.2.2.2.2.2.2.2.2.2.2.2.1), (cf14 NB348_308.out hHeld.2.2.2.2.2.2.2.2.2.2.2.2.2.2.2.2.2.2.2.2.2.2.2.1), (cf14 NB348_308.out hHeld.2.2.2.2.2.2.2.2.2.2.2.2.2.2.2.2.2.2.2.2.2.2.2.2.1), (cf14 NB348_308.out hHeld.2.2.2.2.2.2.2.2.2.2.2.2.2.2.2.2.2.2.2.2.2.2.2.2.2.1), (cf14 NB348_308.out hHeld.2.2.2.2.2.2.2.2.2.2.2.2.2.2.2.2.2.2.2.2.2.2.2.2.2.2.1), (cf14 NB348_308.out hHeld.2.2.2.2.2.2.2.2.2.2.2.2.2.2.2.2.2.2.2.2.2.2.2.2.2.2.2)⟩ (fun hHeld => ?_)
       clear hK K
       refine done_ (by kernel_rfl) ?_
       try go_wp2
       go_roundg kj29
       case measure => have := HK1.out; have := HJ22.out; have := HJ29.out; omega
       case rel => exact ⟨(wrap64 (x7_1 + 1)), (baw), (t313), (t314), (t315), (t316), (t317), (t320), (t321), (t322), (t323), (t324), (t325), (t326), (t327), (t328), (t331), (t332), (t333), (t334), (t335), (t338), (t339), (t340), (t341), (t342), (t343), (t344), (t345), (t346), (.slice Ao41 t317.length co41), (.slice Ao53 t335.length co53), (by first | rfl | (simp; done) | (simp [*]; done)), H', ⟨by have := HK1.out; have := HJ22.out; have := HJ29.out; omega⟩, ⟨by (with_reducible repeat (first | apply Kd.R_alloc | apply Kd.R_drewN | apply Kd.R_drew)); exact Kd.R_mono (Kd.R_far (p := ⟨gb308, 13, none⟩) (Kd.R_far (p := ⟨gb308, 12, none⟩) (Kd.R_far (p := ⟨gb308, 11, none⟩) (Kd.R_far (p := ⟨gb308, 10, none⟩) (Kd.R_far (p := ⟨gb308, 9, none⟩) (Kd.R_far (p := ⟨gb308, 8, none⟩) (Kd.R_far (p := ⟨gb308, 7, none⟩) (Kd.R_far (p := ⟨gb308, 6, none⟩) (Kd.R_far (p := ⟨gb308, 5, none⟩) (Kd.R_far (p := ⟨gb308, 4, none⟩) (Kd.R_far (p := ⟨gb308, 3, none⟩) (Kd.R_far (p := ⟨gb308, 2, none⟩) (Kd.R_far (p := ⟨gb308, 1, none⟩) (Kd.R_far (p := ⟨gb308, 0, none⟩) (Kd.R_far (p := ⟨gb307, 13, none⟩) (Kd.R_far (p := ⟨gb307, 12, none⟩) (Kd.R_far (p := ⟨gb307, 11, none⟩) (Kd.R_far (p := ⟨gb307, 10, none⟩) (Kd.R_far (p := ⟨gb307, 9, none⟩) (Kd.R_far (p := ⟨gb307, 8, none⟩) (Kd.R_far (p := ⟨gb307, 7, none⟩) (Kd.R_far (p := ⟨gb307, 6, none⟩) (Kd.R_far (p := ⟨gb307, 5, none⟩) (Kd.R_far (p := ⟨gb307, 4, none⟩) (Kd.R_far (p := ⟨gb307, 3, none⟩) (Kd.R_far (p := ⟨gb307, 2, none⟩) (Kd.R_far (p := ⟨gb307, 1, none⟩) (Kd.R_far (p := ⟨gb307, 0, none⟩) (Kd.R_types (Kd.R_types HO_331004.out BK307.out (by decide)) BK308.out (by decide)) (fun _ hk => hk.1.2) (.int .i64 t313)) (fun _ hk => hk.1.2) (.int .i64 t314)) (fun _ hk => hk.1.2) (.int .i64 t315)) (fun _ hk => hk.1.2) (.int .i64 t316)) (fun _ hk => hk.1.2) (.slice Ao41 t317.length co41)) (fun _ hk => hk.1.2) (.int .i64 t320)) (fun _ hk => hk.1.2) (.int .i64 t321)) (fun _ hk => hk.1.2) (.int .i64 t322)) (fun _ hk => hk.1.2) (.bool t323)) (fun _ hk => hk.1.2) (.bool t324)) (fun _ hk => hk.1.2) (.bool t325)) (fun _ hk => hk.1.2) (.bool t326)) (fun _ hk => hk.1.2) (.bool t327)) (fun _ hk => hk.1.2) (.int .i64 t328)) (fun _ hk => hk.2) (.int .i64 t331)) (fun _ hk => hk.2) (.int .i64 t332)) (fun _ hk => hk.2) (.int .i64 t333)) (fun _ hk => hk.2) (.int .i64 t334)) (fun _ hk => hk.2) (.slice Ao53 t335.length co53)) (fun _ hk => hk.2) (.int .i64 t338)) (fun _ hk => hk.2) (.int .i64 t339)) (fun _ hk => hk.2) (.int .i64 t340)) (fun _ hk => hk.2) (.bool t341)) (fun _ hk => hk.2) (.bool t342)) (fun _ hk => hk.2) (.bool t343)) (fun _ hk => hk.2) (.bool t344)) (fun _ hk => hk.2) (.bool t345)) (fun _ hk => hk.2) (.int .i64 t346)) (fun _ hk => trivial)⟩, ⟨by (with_reducible repeat (first | apply Kd.V_alloc | apply Kd.V_drewN | apply Kd.V_drew)); exact Kd.V_mono (Kd.V_far (p := ⟨gb308, 13, none⟩) (Kd.V_far (p := ⟨gb308, 12, none⟩) (Kd.V_far (p := ⟨gb308, 11, none⟩) (Kd.V_far (p := ⟨gb308, 10, none⟩) (Kd.V_far (p := ⟨gb308, 9, none⟩) (Kd.V_far (p := ⟨gb308, 8, none⟩) (Kd.V_far (p := ⟨gb308, 7, none⟩) (Kd.V_far (p := ⟨gb308, 6, none⟩) (Kd.V_far (p := ⟨gb308, 5, none⟩) (Kd.V_far (p := ⟨gb308, 4, none⟩) (Kd.V_far (p := ⟨gb308, 3, none⟩) (Kd.V_far (p := ⟨gb308, 2, none⟩) (Kd.V_far (p := ⟨gb308, 1, none⟩) (Kd.V_far (p := ⟨gb308, 0, none⟩) (Kd.V_far (p := ⟨gb307, 13, none⟩) (Kd.V_far (p := ⟨gb307, 12, none⟩) (Kd.V_far (p := ⟨gb307, 11, none⟩) (Kd.V_far (p := ⟨gb307, 10, none⟩) (Kd.V_far (p := ⟨gb307, 9, none⟩) (Kd.V_far (p := ⟨gb307, 8, none⟩) (Kd.V_far (p := ⟨gb307, 7, none⟩) (Kd.V_far (p := ⟨gb307, 6, none⟩) (Kd.V_far (p := ⟨gb307, 5, none⟩) (Kd.V_far (p := ⟨gb307, 4, none⟩) (Kd.V_far (p := ⟨gb307, 3, none⟩) (Kd.V_far (p := ⟨gb307, 2, none⟩) (Kd.V_far (p := ⟨gb307, 1, none⟩) (Kd.V_far (p := ⟨gb307, 0, none⟩) (Kd.V_mono (Kd.V_mono HO_349004.out (fun k_ hk => (⟨hk, hk.2.1⟩ : _ ∧ k_ ≠ gb307))) (fun k_ hk => (⟨hk, hk.1.2.2.1⟩ : _ ∧ k_ ≠ gb308))) (fun _ hk => hk.1.2) (.int .i64 t313)) (fun _ hk => hk.1.2) (.int .i64 t314)) (fun _ hk => hk.1.2) (.int .i64 t315)) (fun _ hk => hk.1.2) (.int .i64 t316)) (fun _ hk => hk.1.2) (.slice Ao41 t317.length co41)) (fun _ hk => hk.1.2) (.int .i64 t320)) (fun _ hk => hk.1.2) (.int .i64 t321)) (fun _ hk => hk.1.2) (.int .i64 t322)) (fun _ hk => hk.1.2) (.bool t323)) (fun _ hk => hk.1.2) (.bool t324)) (fun _ hk => hk.1.2) (.bool t325)) (fun _ hk => hk.1.2) (.bool t326)) (fun _ hk => hk.1.2) (.bool t327)) (fun _ hk => hk.1.2) (.int .i64 t328)) (fun _ hk => hk.2) (.int .i64 t331)) (fun _ hk => hk.2) (.int .i64 t332)) (fun _ hk => hk.2) (.int .i64 t333)) (fun _ hk => hk.2) (.int .i64 t334)) (fun _ hk => hk.2) (.slice Ao53 t335.length co53)) (fun _ hk => hk.2) (.int .i64 t338)) (fun _ hk => hk.2) (.int .i64 t339)) (fun _ hk => hk.2) (.int .i64 t340)) (fun _ hk => hk.2) (.bool t341)) (fun _ hk => hk.2) (.bool t342)) (fun _ hk => hk.2) (.bool t343)) (fun _ hk => hk.2) (.bool t344)) (fun _ hk => hk.2) (.bool t345)) (fun _ hk => hk.2) (.int .i64 t346)) (fun _ hk => ⟨hk.1.1.2.1, ⟨hk.1.1.2.2.1, hk.1.1.2.2.2.2.2⟩⟩)⟩, ⟨by (with_reducible repeat (first | refine blk_drewN ?_ _ | refine blk_drew ?_ | refine blk_alloc ?_ _)); refine blk_far14 ?_ NB307_308.out _ _ _ _ _ _ _ _ _ _ _ _ _ _; (with_reducible repeat (first | refine blk_drewN ?_ _ | refine blk_drew ?_ | refine blk_alloc ?_ _)); first | exact blk_all14 (blk_drewN BK307.out nd) _ _ _ _ _ _ _ _ _ _ _ _ _ _ | exact blk_all14 BK307.out _ _ _ _ _ _ _ _ _ _ _ _ _ _ | exact blk_all14 (bU8 BK307.out) _ _ _ _ _ _ _ _ _ _ _ _ _ _ | exact blk_all14 (blk_up BK307.out) _ _ _ _ _ _ _ _ _ _ _ _ _ _⟩, ⟨by (with_reducible repeat (first | refine blk_drewN ?_ _ | refine blk_drew ?_ | refine blk_alloc ?_ _)); first | exact blk_all14 (blk_far14 (blk_drewN BK308.out nd) NB308_307.out _ _ _ _ _ _ _ _ _ _ _ _ _ _) _ _ _ _ _ _ _ _ _ _ _ _ _ _ | exact blk_all14 (blk_far14 BK308.out NB308_307.out _ _ _ _ _ _ _ _ _ _ _ _ _ _) _ _ _ _ _ _ _ _ _ _ _ _ _ _ | exact blk_all14 (blk_far14 (blk_up BK308.out) NB308_307.out _ _ _ _ _ _ _ _ _ _ _ _ _ _) _ _ _ _ _ _ _ _ _ _ _ _ _ _⟩, ⟨by repeat (first | (with_reducible first | exact HI281.out | apply IsS88.alloc | apply IsS88.drewN | apply IsS88.drew | apply IsS88.set_1 | refine IsS88.far ?_ NB281_307.out _ | refine IsS88.far ?_ NB281_308.out _ | refine IsS88.far ?_ NB281_330.out _ | refine IsS88.far ?_ NB281_348.out _) | exact HI281.out)⟩, ⟨by repeat (first | (with_reducible first | exact HB.out | apply below_alloc | apply pw_below_drewN | apply below_drew1 | refine below_set ?_ (IsS88.ge HI281.out) | refine below_set ?_ (Aside0.out (by assumption))) | exact HB.out)⟩⟩
/-- THE ONE PURE STATEMENT of storagebarterlaw29_SlotWalks: yours. -/
def storagebarterlaw29_SlotWalks.Pure : Prop := ∀ (l0 : List Int), l0.length ≤ maxLen → l0.length * 1 ≤ 140737488351232 → (∀ x ∈ l0, (Lit.int .u8 x).wf = true) → ∃ k, storagebarterlaw29_SlotWalks.f k l0 = some true
theorem storagebarterlaw29_SlotWalks.walk (P : storagebarterlaw29_SlotWalks.Pure) (a0 : Option Addr) (len0 cap0 : Nat) (z0 : List Int) (w : World) (w0 : (a0 = none ∧ len0 = 0 ∧ cap0 = 0 ∧ z0 = []) ∨ ∃ x, a0 = some x ∧ len0 ≤ cap0 ∧ cap0 ≤ maxLen ∧ z0.length = cap0 ∧ (∀ i, i < z0.length → w.cell? (x.add i) = some (.int .u8 (z0.getD i 0))) ∧ ∀ n ∈ z0, (Lit.int .u8 n).wf = true) (y0 : len0 * 1 ≤ 140737488351232) (hL_ : Laid w) :
  Calls Tryd.prog 8 #[.slice a0 len0 cap0] w fun e w' => e = .returned (.bool true) ∧ Below w.heap.size w w' := by
 obtain ⟨l0, rfl, hr0, hm0, hw0, hc0⟩ := ReadsInt.ofRowC w0
 obtain ⟨k, h⟩ := P l0 hm0 y0 hw0
 refine (storagebarterlaw29_SlotWalks.calls k _ _ l0 true w (Kd.C_of_reads (d := (0 : Int)) (h1 := fun _ => rfl) hr0) hc0 h rfl hL_).mono ?_
 rintro e w' ⟨rfl, hd⟩
 exact ⟨rfl, hd⟩

end Go.Proofs.YtgckkjgemkabnaaDoor.PSlotWalks
