-- Written by a program of this repository (wip/tools/myprint.py over the print of the kit): contracts and rows.
import Derived.Test.YtgckkjgemkabnaaDoorPSlotWalksx0
import Derived.Test.YtgckkjgemkabnaaDoorPSlotWalksx5
import Derived.Test.YtgckkjgemkabnaaDoorPSlotWalksx7
import Derived.Test.YtgckkjgemkabnaaDoorPSlotWalksx9
import Derived.Test.YtgckkjgemkabnaaDoorPSlotWalksx10
import Derived.Test.YtgckkjgemkabnaaDoorPSlotWalksx11a
namespace Go.Proofs.YtgckkjgemkabnaaDoor.PSlotWalks
open Go.RowKit Go.Proofs.YtgckkjgemkabnaaDoorW.PrintWords Go.Proofs.YtgckkjgemkabnaaDoorW.PrintLast Go.Proofs.YtgckkjgemkabnaaDoorW.PrintMore
attribute [local go_sem] max2_int min2_int max_two min_two max_three min_three max_four min_four   -- for this text's walks alone
set_option linter.unusedVariables false
set_option linter.unusedSimpArgs false

set_option maxHeartbeats 60000000 in
set_option maxRecDepth 100000 in
theorem storagebarterref29_Step.calls0 (k : Nat) (a0_0 : Int) (a0_1 : Int) (a0_2 : Int) (a0_3 : Int) (P0_4_ : Nat → Prop) (A0_4 : Option Addr) (c0_4 : Nat) (l0_4 : List Int) (a0_5 : Int) (a0_6 : Int) (a0_7 : Int) (a0_8 : Bool) (a0_9 : Bool) (a0_10 : Bool) (a0_11 : Bool) (a0_12 : Bool) (a0_13 : Int) (a1 : Int) (r1 : Int) (r2 : Int) (r3 : Int) (r4 : Int) (r5 : List Int) (r6 : Int) (r7 : Int) (r8 : Int) (r9 : Bool) (r10 : Bool) (r11 : Bool) (r12 : Bool) (r13 : Bool) (r14 : Int) (r15 : Int) (w : World) (hs0_4 : Kd.V (Kd.int .i64) 3 w w.heap.size (fun k_ => P0_4_ k_) (.slice A0_4 l0_4.length c0_4) l0_4) (hE : ∀ x, storagebarterref29_Next.f k a0_0 a0_1 a0_2 a0_3 l0_4 a0_5 a0_6 a0_7 a0_8 a0_9 a0_10 a0_11 a0_12 a0_13 = some x → (x.2.2.2.1 ≠ 5 ∧ x.2.2.2.2 = true ∧ a0_12 = false)) (h : storagebarterref29_Step.f k a0_0 a0_1 a0_2 a0_3 l0_4 a0_5 a0_6 a0_7 a0_8 a0_9 a0_10 a0_11 a0_12 a0_13 a1 = some (r1, r2, r3, r4, r5, r6, r7, r8, r9, r10, r11, r12, r13, r14, r15)) :
  Calls Tryd.prog 38 #[.agg #[.int .i64 a0_0, .int .i64 a0_1, .int .i64 a0_2, .int .i64 a0_3, .slice A0_4 l0_4.length c0_4, .int .i64 a0_5, .int .i64 a0_6, .int .i64 a0_7, .bool a0_8, .bool a0_9, .bool a0_10, .bool a0_11, .bool a0_12, .int .i64 a0_13], .int .i64 a1] w fun e w' => ∃ v4_ : Value, e = .returned (.tuple #[.agg #[.int .i64 r1, .int .i64 r2, .int .i64 r3, .int .i64 r4, v4_, .int .i64 r6, .int .i64 r7, .int .i64 r8, .bool r9, .bool r10, .bool r11, .bool r12, .bool r13, .int .i64 r14], .int .i64 r15]) ∧ Kd.V (Kd.int .i64) 3 w' w.heap.size (fun k_ => (P0_4_ k_ ∨ w.heap.size ≤ k_)) v4_ r5 ∧ Below w.heap.size w w' := by
 have hu54 := Tryd.underlying54
 have hu36 := Tryd.underlying36
 have hu26 := Tryd.underlying26
 have HO0_4 := Aside0.mk (show Kd.V (Kd.int .i64) 3 w w.heap.size (fun k_ => (P0_4_ k_ ∨ w.heap.size ≤ k_)) (.slice A0_4 l0_4.length c0_4) l0_4 from Kd.V_mono hs0_4 (fun k_ hk => .inl hk))
 have HB := Aside0.mk (Below.refl w.heap.size w)
 have H : ((storagebarterref29_Next.f k a0_0 a0_1 a0_2 a0_3 l0_4 a0_5 a0_6 a0_7 a0_8 a0_9 a0_10 a0_11 a0_12 a0_13).bind fun bt229 => (if bt229.2.2.2.2 = true then (if a1 < 0 then (storagebarterref29_Step.j0 k a1 true a0_0 a0_1 a0_2 a0_3 l0_4 a0_5 a0_6 a0_7 a0_8 a0_9 a0_10 a0_11 a0_12 a0_13 bt229.1 bt229.2.1 bt229.2.2.1 bt229.2.2.2.1) else (storagebarterref29_Step.j0 k a1 (decide (a1 > 3)) a0_0 a0_1 a0_2 a0_3 l0_4 a0_5 a0_6 a0_7 a0_8 a0_9 a0_10 a0_11 a0_12 a0_13 bt229.1 bt229.2.1 bt229.2.2.1 bt229.2.2.2.1)) else (some (a0_0, a0_1, a0_2, a0_3, l0_4, a0_5, a0_6, a0_7, a0_8, a0_9, a0_10, a0_11, a0_12, a0_13, 5)))) = some (r1, r2, r3, r4, r5, r6, r7, r8, r9, r10, r11, r12, r13, r14, r15) := h
 clear h
 replace H := Option.bind_eq_some_iff.mp H
 obtain ⟨⟨t229, t230, t231, t232, t233⟩, A30, H⟩ := H
 replace H : (if t233 = true then (if a1 < 0 then (storagebarterref29_Step.j0 k a1 true a0_0 a0_1 a0_2 a0_3 l0_4 a0_5 a0_6 a0_7 a0_8 a0_9 a0_10 a0_11 a0_12 a0_13 t229 t230 t231 t232) else (storagebarterref29_Step.j0 k a1 (decide (a1 > 3)) a0_0 a0_1 a0_2 a0_3 l0_4 a0_5 a0_6 a0_7 a0_8 a0_9 a0_10 a0_11 a0_12 a0_13 t229 t230 t231 t232)) else (some (a0_0, a0_1, a0_2, a0_3, l0_4, a0_5, a0_6, a0_7, a0_8, a0_9, a0_10, a0_11, a0_12, a0_13, 5))) = some (r1, r2, r3, r4, r5, r6, r7, r8, r9, r10, r11, r12, r13, r14, r15) := H
 have HE5 := Aside0.mk (hE _ A30)
 clear hE
 dsimp only at HE5
 have A3 := Aside0.mk A30
 clear A30
 by_cases c4 : t233 = true
 case neg => exact absurd HE5.out.2.1 c4
 subst c4
 have H1 : (if a1 < 0 then (storagebarterref29_Step.j0 k a1 true a0_0 a0_1 a0_2 a0_3 l0_4 a0_5 a0_6 a0_7 a0_8 a0_9 a0_10 a0_11 a0_12 a0_13 t229 t230 t231 t232) else (storagebarterref29_Step.j0 k a1 (decide (a1 > 3)) a0_0 a0_1 a0_2 a0_3 l0_4 a0_5 a0_6 a0_7 a0_8 a0_9 a0_10 a0_11 a0_12 a0_13 t229 t230 t231 t232)) = some (r1, r2, r3, r4, r5, r6, r7, r8, r9, r10, r11, r12, r13, r14, r15) := by rw [if_pos rfl] at H; exact H
 clear H
 have H := H1
 clear H1
 have HC5 := Aside0.mk H
 clear H
 go_enter Tryd.func38, Tryd.ntmps38
 go_upto_region 4 with (first | ((with_reducible refine gate_dst (N := 2) rfl ?_); refine box_event ?hg (N := 2) ?hd (cs := #[.int .i64 a0_0, .int .i64 a0_1, .int .i64 a0_2, .int .i64 a0_3, .slice A0_4 l0_4.length c0_4, .int .i64 a0_5, .int .i64 a0_6, .int .i64 a0_7, .bool a0_8, .bool a0_9, .bool a0_10, .bool a0_11, .bool a0_12, .int .i64 a0_13]) (t := 54) ?hr ?_; (case hd => rfl); (case hg => rfl); (case hr => first | (go_simp; done) | (go_simp; rfl)); intro gb227 hg w6 hbox hb; have n0_ := Aside0.mk (Kd.V_below (Kd.V_elderB (vU38 HO0_4.out) gb227 (Nat.le_of_eq hg.symm)) hb); have n1_ := Aside0.mk (below_step (hU38 HB.out) hb); have n2_ := Aside0.mk (hbox); have n3_ := Aside0.mk ((by rw [hg]; exact (below_size (hU38 HB.out)) : w.heap.size ≤ gb227)); have n4_ := Aside0.mk ((by rw [hg]; exact (below_size (hU38 HB.out)) : w.heap.size ≤ gb227)); clear HO0_4; clear HB; have HO0_4 := n0_; have HB := n1_; have BK227 := n2_; have GW227 := n3_; have GE227 := n4_; clear n0_ n1_ n2_ n3_ n4_; clear hb hbox hg) | ((with_reducible refine gate_dst (N := 4) rfl ?_); refine box_event ?hg (N := 4) ?hd (cs := #[.int .i64 0, .int .i64 0, .int .i64 0, .int .i64 0, .slice none 0 0, .int .i64 0, .int .i64 0, .int .i64 0, .bool false, .bool false, .bool false, .bool false, .bool false, .int .i64 0]) (t := 54) ?hr ?_; (case hd => rfl); (case hg => rfl); (case hr => first | (go_simp; done) | (go_simp; rfl)); intro gb228 hg w7 hbox hb; have n0_ := Aside0.mk (Kd.V_below (Kd.V_elderB (vU38 HO0_4.out) gb228 (Nat.le_of_eq hg.symm)) hb); have n1_ := Aside0.mk (blk_below (g := gb227) (bU38 BK227.out) hb); have n2_ := Aside0.mk (below_step (by repeat (first | (with_reducible first | exact HB.out | apply below_alloc | apply pw_below_drewN | apply below_drew1 | refine below_set ?_ GE227.out) | exact HB.out)) hb); have n3_ := Aside0.mk (hbox); have n4_ := Aside0.mk ((by rw [hg]; exact (below_size (by repeat (first | (with_reducible first | exact HB.out | apply below_alloc | apply pw_below_drewN | apply below_drew1 | refine below_set ?_ GE227.out) | exact HB.out))) : w.heap.size ≤ gb228)); have n5_ := Aside0.mk ((by rw [hg]; exact (below_size (by repeat (first | (with_reducible first | exact HB.out | apply below_alloc | apply pw_below_drewN | apply below_drew1 | refine below_set ?_ GE227.out) | exact HB.out))) : w.heap.size ≤ gb228)); have n6_ := Aside0.mk ((by rw [hg]; exact Nat.ne_of_lt (blk_lt (g := gb227) (o := .cells #[.int .i64 a0_0, .int .i64 a0_1, .int .i64 a0_2, .int .i64 a0_3, .slice A0_4 l0_4.length c0_4, .int .i64 a0_5, .int .i64 a0_6, .int .i64 a0_7, .bool a0_8, .bool a0_9, .bool a0_10, .bool a0_11, .bool a0_12, .int .i64 a0_13] 54 (0, 0)) (bU38 BK227.out)) : gb227 ≠ gb228)); have n7_ := Aside0.mk ((by rw [hg]; exact Nat.ne_of_gt (blk_lt (g := gb227) (o := .cells #[.int .i64 a0_0, .int .i64 a0_1, .int .i64 a0_2, .int .i64 a0_3, .slice A0_4 l0_4.length c0_4, .int .i64 a0_5, .int .i64 a0_6, .int .i64 a0_7, .bool a0_8, .bool a0_9, .bool a0_10, .bool a0_11, .bool a0_12, .int .i64 a0_13] 54 (0, 0)) (bU38 BK227.out)) : gb228 ≠ gb227)); clear HO0_4; clear BK227; clear HB; have HO0_4 := n0_; have BK227 := n1_; have HB := n2_; have BK228 := n3_; have GW228 := n4_; have GE228 := n5_; have NB227_228 := n6_; have NB228_227 := n7_; clear n0_ n1_ n2_ n3_ n4_ n5_ n6_ n7_; clear hb hbox hg; have hnb8 := NB227_228.out; have hnc8 := NB228_227.out; have hcz9 := cz14 BK227.out; have hfz9 := blk_frozen BK227.out) | ((with_reducible refine gate_callee (f := 72) rfl ?_); refine goesL_ (some 12) rfl rfl Tryd.func72 (by kernel_rfl) rfl #[.agg #[.int .i64 a0_0, .int .i64 a0_1, .int .i64 a0_2, .int .i64 a0_3, .slice A0_4 l0_4.length c0_4, .int .i64 a0_5, .int .i64 a0_6, .int .i64 a0_7, .bool a0_8, .bool a0_9, .bool a0_10, .bool a0_11, .bool a0_12, .int .i64 a0_13]] rfl (by (try simp only [List.map_toArray, List.map_cons, List.map_nil]); first | done | rfl | (simp only [List.length_drop, List.length_take]; rfl)) ?_; (with_reducible refine (storagebarterref29_Next.calls k a0_0 a0_1 a0_2 a0_3 _ _ l0_4 a0_5 a0_6 a0_7 a0_8 a0_9 a0_10 a0_11 a0_12 a0_13 t229 t230 t231 t232 true _ ?side1 ?side2 A3.out).mono ?_); (case side1 => first | exact (Kd.V_reads' HO0_4.out).2.2 | exact cU38 (Kd.V_reads' HO0_4.out).2.2); (case side2 => exact (Kd.V_reads' HO0_4.out).2.1); rintro e w10 ⟨rfl, hb⟩; refine ⟨_, rfl, ?_⟩; have n0_ := Aside0.mk (Kd.V_below (vU38 HO0_4.out) hb); have n1_ := Aside0.mk (blk_below (g := gb227) (bU38 BK227.out) hb); have n2_ := Aside0.mk (blk_below (g := gb228) (bU38 BK228.out) hb); have n3_ := Aside0.mk (below_step (by repeat (first | (with_reducible first | exact HB.out | apply below_alloc | apply pw_below_drewN | apply below_drew1 | refine below_set ?_ (Aside0.out (by assumption))) | exact HB.out)) hb); clear HO0_4; clear BK227; clear BK228; clear HB; have HO0_4 := n0_; have BK227 := n1_; have BK228 := n2_; have HB := n3_; clear n0_ n1_ n2_ n3_; (try clear hb); (try clear hb2); (try clear hk); (try clear hi); (try clear hgw)) | ((with_reducible refine gate_dst (N := 6) rfl ?_); refine box_event ?hg (N := 6) ?hd (cs := #[.int .i64 0, .int .i64 0, .int .i64 0, .int .i64 0]) (t := 36) ?hr ?_; (case hd => rfl); (case hg => rfl); (case hr => first | (go_simp; done) | (go_simp; rfl)); intro gb234 hg w11 hbox hb; have n0_ := Aside0.mk (Kd.V_below (Kd.V_elderB (vU38 HO0_4.out) gb234 (Nat.le_of_eq hg.symm)) hb); have n1_ := Aside0.mk (blk_below (g := gb227) (bU38 BK227.out) hb); have n2_ := Aside0.mk (blk_below (g := gb228) (bU38 BK228.out) hb); have n3_ := Aside0.mk (below_step (by repeat (first | (with_reducible first | exact HB.out | apply below_alloc | apply pw_below_drewN | apply below_drew1 | refine below_set ?_ (Aside0.out (by assumption))) | exact HB.out)) hb); have n4_ := Aside0.mk (hbox); have n5_ := Aside0.mk ((by rw [hg]; exact (below_size (by repeat (first | (with_reducible first | exact HB.out | apply below_alloc | apply pw_below_drewN | apply below_drew1 | refine below_set ?_ (Aside0.out (by assumption))) | exact HB.out))) : w.heap.size ≤ gb234)); have n6_ := Aside0.mk ((by rw [hg]; exact (below_size (by repeat (first | (with_reducible first | exact HB.out | apply below_alloc | apply pw_below_drewN | apply below_drew1 | refine below_set ?_ (Aside0.out (by assumption))) | exact HB.out))) : w.heap.size ≤ gb234)); have n7_ := Aside0.mk ((by rw [hg]; exact Nat.ne_of_lt (blk_lt (g := gb227) (o := .cells #[.int .i64 a0_0, .int .i64 a0_1, .int .i64 a0_2, .int .i64 a0_3, .slice A0_4 l0_4.length c0_4, .int .i64 a0_5, .int .i64 a0_6, .int .i64 a0_7, .bool a0_8, .bool a0_9, .bool a0_10, .bool a0_11, .bool a0_12, .int .i64 a0_13] 54 (0, 0)) (bU38 BK227.out)) : gb227 ≠ gb234)); have n8_ := Aside0.mk ((by rw [hg]; exact Nat.ne_of_gt (blk_lt (g := gb227) (o := .cells #[.int .i64 a0_0, .int .i64 a0_1, .int .i64 a0_2, .int .i64 a0_3, .slice A0_4 l0_4.length c0_4, .int .i64 a0_5, .int .i64 a0_6, .int .i64 a0_7, .bool a0_8, .bool a0_9, .bool a0_10, .bool a0_11, .bool a0_12, .int .i64 a0_13] 54 (0, 0)) (bU38 BK227.out)) : gb234 ≠ gb227)); have n9_ := Aside0.mk ((by rw [hg]; exact Nat.ne_of_lt (blk_lt (g := gb228) (o := .cells #[.int .i64 0, .int .i64 0, .int .i64 0, .int .i64 0, .slice none 0 0, .int .i64 0, .int .i64 0, .int .i64 0, .bool false, .bool false, .bool false, .bool false, .bool false, .int .i64 0] 54 (0, 0)) (bU38 BK228.out)) : gb228 ≠ gb234)); have n10_ := Aside0.mk ((by rw [hg]; exact Nat.ne_of_gt (blk_lt (g := gb228) (o := .cells #[.int .i64 0, .int .i64 0, .int .i64 0, .int .i64 0, .slice none 0 0, .int .i64 0, .int .i64 0, .int .i64 0, .bool false, .bool false, .bool false, .bool false, .bool false, .int .i64 0] 54 (0, 0)) (bU38 BK228.out)) : gb234 ≠ gb228)); clear HO0_4; clear BK227; clear BK228; clear HB; have HO0_4 := n0_; have BK227 := n1_; have BK228 := n2_; have HB := n3_; have BK234 := n4_; have GW234 := n5_; have GE234 := n6_; have NB227_234 := n7_; have NB234_227 := n8_; have NB228_234 := n9_; have NB234_228 := n10_; clear n0_ n1_ n2_ n3_ n4_ n5_ n6_ n7_ n8_ n9_ n10_; clear hb hbox hg; have hnb12 := NB234_227.out; have hnc12 := NB227_234.out; have hnb13 := NB234_228.out; have hnc13 := NB228_234.out; have hcz14 := cz4 BK234.out; have hfz14 := blk_frozen BK234.out))
 (try simp only [Act.put, List.setIfInBounds_toArray, List.set_cons_zero, List.set_cons_succ])
 go_cut [23] (fun v23 wc => ∃ (kq : Nat) (x23_4 : Bool), v23 = .bool x23_4 ∧ Aside0 (storagebarterref29_Step.j0 kq a1 x23_4 a0_0 a0_1 a0_2 a0_3 l0_4 a0_5 a0_6 a0_7 a0_8 a0_9 a0_10 a0_11 a0_12 a0_13 t229 t230 t231 t232 = some (r1, r2, r3, r4, r5, r6, r7, r8, r9, r10, r11, r12, r13, r14, r15)) ∧ Aside0 (kq ≤ k) ∧ Aside0 (Kd.V (Kd.int .i64) 3 wc w.heap.size (fun k_ => (P0_4_ k_ ∨ w.heap.size ≤ k_) ∧ k_ ≠ gb227 ∧ k_ ≠ gb228 ∧ k_ ≠ gb234) (.slice A0_4 l0_4.length c0_4) l0_4) ∧ Aside0 (wc.heap[gb227]? = some (.cells #[.int .i64 a0_0, .int .i64 a0_1, .int .i64 a0_2, .int .i64 a0_3, (.slice A0_4 l0_4.length c0_4), .int .i64 a0_5, .int .i64 a0_6, .int .i64 a0_7, .bool a0_8, .bool a0_9, .bool a0_10, .bool a0_11, .bool a0_12, .int .i64 a0_13] 54 (0, 0))) ∧ Aside0 (wc.heap[gb228]? = some (.cells #[.int .i64 0, .int .i64 0, .int .i64 0, .int .i64 0, (.slice none 0 0), .int .i64 0, .int .i64 0, .int .i64 0, .bool false, .bool false, .bool false, .bool false, .bool false, .int .i64 0] 54 (0, 0))) ∧ Aside0 (wc.heap[gb234]? = some (.cells #[.int .i64 t229, .int .i64 t230, .int .i64 t231, .int .i64 t232] 36 (0, 0))) ∧ Aside0 (Below w.heap.size w wc))
 case first =>
  have H := HC5.out
  clear HC5
  by_cases c15 : a1 < 0
  case neg =>
   rw [if_neg c15] at H
   have c15b0 : decide (a1 < 0) = false := decide_eq_false c15
   clear c15
   (first | rw [c15b0] | (simp only [i64_w, i32_w]; rw [c15b0]) | skip)
   have H' := Aside0.mk H
   clear H
   go_wp2
   go_meet
   case rel => exact ⟨_, (decide (a1 > 3)), (by first | rfl | (simp; done) | (simp [*]; done)), H', ⟨by first | omega | exact Nat.le_refl _⟩, ⟨by (with_reducible repeat (first | apply Kd.V_alloc | apply Kd.V_drewN | apply Kd.V_drew)); exact Kd.V_mono (Kd.V_far (p := ⟨gb234, 3, none⟩) (Kd.V_far (p := ⟨gb234, 2, none⟩) (Kd.V_far (p := ⟨gb234, 1, none⟩) (Kd.V_far (p := ⟨gb234, 0, none⟩) (Kd.V_mono HO0_4.out (fun k_ hk => (⟨hk, hk.2⟩ : _ ∧ k_ ≠ gb234))) (fun _ hk => hk.2) (.int .i64 t229)) (fun _ hk => hk.2) (.int .i64 t230)) (fun _ hk => hk.2) (.int .i64 t231)) (fun _ hk => hk.2) (.int .i64 t232)) (fun _ hk => ⟨hk.1.1.1.1, ⟨hk.1.1.1.2, ⟨hk.1.1.2, hk.1.2⟩⟩⟩)⟩, ⟨by (with_reducible repeat (first | refine blk_drewN ?_ _ | refine blk_drew ?_ | refine blk_alloc ?_ _)); refine blk_far ?_ NB227_234.out _; (with_reducible repeat (first | refine blk_drewN ?_ _ | refine blk_drew ?_ | refine blk_alloc ?_ _)); refine blk_far ?_ NB227_234.out _; (with_reducible repeat (first | refine blk_drewN ?_ _ | refine blk_drew ?_ | refine blk_alloc ?_ _)); refine blk_far ?_ NB227_234.out _; (with_reducible repeat (first | refine blk_drewN ?_ _ | refine blk_drew ?_ | refine blk_alloc ?_ _)); refine blk_far ?_ NB227_234.out _; (with_reducible repeat (first | refine blk_drewN ?_ _ | refine blk_drew ?_ | refine blk_alloc ?_ _)); exact BK227.out⟩, ⟨by (with_reducible repeat (first | refine blk_drewN ?_ _ | refine blk_drew ?_ | refine blk_alloc ?_ _)); refine blk_far ?_ NB228_234.out _; (with_reducible repeat (first | refine blk_drewN ?_ _ | refine blk_drew ?_ | refine blk_alloc ?_ _)); refine blk_far ?_ NB228_234.out _; (with_reducible repeat (first | refine blk_drewN ?_ _ | refine blk_drew ?_ | refine blk_alloc ?_ _)); refine blk_far ?_ NB228_234.out _; (with_reducible repeat (first | refine blk_drewN ?_ _ | refine blk_drew ?_ | refine blk_alloc ?_ _)); refine blk_far ?_ NB228_234.out _; (with_reducible repeat (first | refine blk_drewN ?_ _ | refine blk_drew ?_ | refine blk_alloc ?_ _)); exact BK228.out⟩, ⟨by (with_reducible repeat (first | refine blk_drewN ?_ _ | refine blk_drew ?_ | refine blk_alloc ?_ _)); refine blk_put (cs := #[.int .i64 t229, .int .i64 t230, .int .i64 t231, .int .i64 0]) ?_ 3 _ rfl; (with_reducible repeat (first | refine blk_drewN ?_ _ | refine blk_drew ?_ | refine blk_alloc ?_ _)); refine blk_put (cs := #[.int .i64 t229, .int .i64 t230, .int .i64 0, .int .i64 0]) ?_ 2 _ rfl; (with_reducible repeat (first | refine blk_drewN ?_ _ | refine blk_drew ?_ | refine blk_alloc ?_ _)); refine blk_put (cs := #[.int .i64 t229, .int .i64 0, .int .i64 0, .int .i64 0]) ?_ 1 _ rfl; (with_reducible repeat (first | refine blk_drewN ?_ _ | refine blk_drew ?_ | refine blk_alloc ?_ _)); refine blk_put (cs := #[.int .i64 0, .int .i64 0, .int .i64 0, .int .i64 0]) ?_ 0 _ rfl; exact bU38 BK234.out⟩, ⟨by repeat (first | (with_reducible first | exact HB.out | apply below_alloc | apply pw_below_drewN | apply below_drew1 | refine below_set ?_ (Aside0.out (by assumption))) | exact HB.out)⟩⟩
  rw [if_pos c15] at H
  have c15b0 : decide (a1 < 0) = true := decide_eq_true c15
  clear c15
  (first | rw [c15b0] | (simp only [i64_w, i32_w]; rw [c15b0]) | skip)
  have H' := Aside0.mk H
  clear H
  go_wp2
  go_meet
  case rel => exact ⟨_, (true), (by first | rfl | (simp; done) | (simp [*]; done)), H', ⟨by first | omega | exact Nat.le_refl _⟩, ⟨by (with_reducible repeat (first | apply Kd.V_alloc | apply Kd.V_drewN | apply Kd.V_drew)); exact Kd.V_mono (Kd.V_far (p := ⟨gb234, 3, none⟩) (Kd.V_far (p := ⟨gb234, 2, none⟩) (Kd.V_far (p := ⟨gb234, 1, none⟩) (Kd.V_far (p := ⟨gb234, 0, none⟩) (Kd.V_mono HO0_4.out (fun k_ hk => (⟨hk, hk.2⟩ : _ ∧ k_ ≠ gb234))) (fun _ hk => hk.2) (.int .i64 t229)) (fun _ hk => hk.2) (.int .i64 t230)) (fun _ hk => hk.2) (.int .i64 t231)) (fun _ hk => hk.2) (.int .i64 t232)) (fun _ hk => ⟨hk.1.1.1.1, ⟨hk.1.1.1.2, ⟨hk.1.1.2, hk.1.2⟩⟩⟩)⟩, ⟨by (with_reducible repeat (first | refine blk_drewN ?_ _ | refine blk_drew ?_ | refine blk_alloc ?_ _)); refine blk_far ?_ NB227_234.out _; (with_reducible repeat (first | refine blk_drewN ?_ _ | refine blk_drew ?_ | refine blk_alloc ?_ _)); refine blk_far ?_ NB227_234.out _; (with_reducible repeat (first | refine blk_drewN ?_ _ | refine blk_drew ?_ | refine blk_alloc ?_ _)); refine blk_far ?_ NB227_234.out _; (with_reducible repeat (first | refine blk_drewN ?_ _ | refine blk_drew ?_ | refine blk_alloc ?_ _)); refine blk_far ?_ NB227_234.out _; (with_reducible repeat (first | refine blk_drewN ?_ _ | refine blk_drew ?_ | refine blk_alloc ?_ _)); exact BK227.out⟩, ⟨by (with_reducible repeat (first | refine blk_drewN ?_ _ | refine blk_drew ?_ | refine blk_alloc ?_ _)); refine blk_far ?_ NB228_234.out _; (with_reducible repeat (first | refine blk_drewN ?_ _ | refine blk_drew ?_ | refine blk_alloc ?_ _)); refine blk_far ?_ NB228_234.out _; (with_reducible repeat (first | refine blk_drewN ?_ _ | refine blk_drew ?_ | refine blk_alloc ?_ _)); refine blk_far ?_ NB228_234.out _; (with_reducible repeat (first | refine blk_drewN ?_ _ | refine blk_drew ?_ | refine blk_alloc ?_ _)); refine blk_far ?_ NB228_234.out _; (with_reducible repeat (first | refine blk_drewN ?_ _ | refine blk_drew ?_ | refine blk_alloc ?_ _)); exact BK228.out⟩, ⟨by (with_reducible repeat (first | refine blk_drewN ?_ _ | refine blk_drew ?_ | refine blk_alloc ?_ _)); refine blk_put (cs := #[.int .i64 t229, .int .i64 t230, .int .i64 t231, .int .i64 0]) ?_ 3 _ rfl; (with_reducible repeat (first | refine blk_drewN ?_ _ | refine blk_drew ?_ | refine blk_alloc ?_ _)); refine blk_put (cs := #[.int .i64 t229, .int .i64 t230, .int .i64 0, .int .i64 0]) ?_ 2 _ rfl; (with_reducible repeat (first | refine blk_drewN ?_ _ | refine blk_drew ?_ | refine blk_alloc ?_ _)); refine blk_put (cs := #[.int .i64 t229, .int .i64 0, .int .i64 0, .int .i64 0]) ?_ 1 _ rfl; (with_reducible repeat (first | refine blk_drewN ?_ _ | refine blk_drew ?_ | refine blk_alloc ?_ _)); refine blk_put (cs := #[.int .i64 0, .int .i64 0, .int .i64 0, .int .i64 0]) ?_ 0 _ rfl; exact bU38 BK234.out⟩, ⟨by repeat (first | (with_reducible first | exact HB.out | apply below_alloc | apply pw_below_drewN | apply below_drew1 | refine below_set ?_ (Aside0.out (by assumption))) | exact HB.out)⟩⟩
 case rest =>
  clear HC5
  try clear c1
  try clear p2
  try clear c3
  try clear c4
  try clear c7
  try clear c8
  try clear c12
  try clear c13
  try clear c15
  try clear c15b0
  try clear hcz14
  try clear hcz9
  try clear hfz14
  try clear hfz9
  obtain ⟨kq, x23_4, rfl, HA, HJ4, ba0, BK227, BK228, BK234, HB⟩ := hcut
  cases kq with
  | zero => exact absurd HA.out (by simp [storagebarterref29_Step.j0])
  | succ kj4 =>
   have H := HA.out
   clear HA
   simp only [storagebarterref29_Step.j0] at H
   by_cases c16 : x23_4 = true
   case pos =>
    subst c16
    have H1 : (some (a0_0, a0_1, a0_2, a0_3, l0_4, a0_5, a0_6, a0_7, a0_8, a0_9, a0_10, a0_11, a0_12, a0_13, 21)) = some (r1, r2, r3, r4, r5, r6, r7, r8, r9, r10, r11, r12, r13, r14, r15) := by rw [if_pos rfl] at H; exact H
    clear H
    have H := H1
    clear H1
    simp only [Option.some.injEq, Prod.mk.injEq] at H
    obtain ⟨rfl, rfl, rfl, rfl, rfl, rfl, rfl, rfl, rfl, rfl, rfl, rfl, rfl, rfl, rfl⟩ := H
    have hnb17 := NB227_228.out
    have hnc17 := NB228_227.out
    have hnb18 := NB227_234.out
    have hnc18 := NB234_227.out
    have hcz19 := cz14 BK227.out
    have hfz19 := blk_frozen BK227.out
    have hnb20 := NB228_234.out
    have hnc20 := NB234_228.out
    have hcz21 := cz14 BK228.out
    have hfz21 := blk_frozen BK228.out
    go_wp2
    refine bodyPost_ret (results_ct rfl _ _ gb228 54 #[.int .i64 a0_0, .int .i64 a0_1, .int .i64 a0_2, .int .i64 a0_3, .slice A0_4 l0_4.length c0_4, .int .i64 a0_5, .int .i64 a0_6, .int .i64 a0_7, .bool a0_8, .bool a0_9, .bool a0_10, .bool a0_11, .bool a0_12, .int .i64 a0_13] (0, 0) _ rfl (by (with_reducible repeat (first | refine blk_drewN ?_ _ | refine blk_drew ?_ | refine blk_alloc ?_ _)); first | exact blk_all14 (blk_drewN BK228.out nd) _ _ _ _ _ _ _ _ _ _ _ _ _ _ | exact blk_all14 BK228.out _ _ _ _ _ _ _ _ _ _ _ _ _ _ | exact blk_all14 (bU38 BK228.out) _ _ _ _ _ _ _ _ _ _ _ _ _ _ | exact blk_all14 (blk_up BK228.out) _ _ _ _ _ _ _ _ _ _ _ _ _ _) Tryd.underlying54 rfl (by kernel_rfl)) rfl ?_
    exact ⟨_, by first | rfl | (simp [errW_none, errW_some] <;> rfl) | (simp [*, errW_none, errW_some] <;> rfl), by (with_reducible repeat (first | apply Kd.V_alloc | apply Kd.V_drewN | apply Kd.V_drew)); exact Kd.V_mono (Kd.V_far (p := ⟨gb228, 13, none⟩) (Kd.V_far (p := ⟨gb228, 12, none⟩) (Kd.V_far (p := ⟨gb228, 11, none⟩) (Kd.V_far (p := ⟨gb228, 10, none⟩) (Kd.V_far (p := ⟨gb228, 9, none⟩) (Kd.V_far (p := ⟨gb228, 8, none⟩) (Kd.V_far (p := ⟨gb228, 7, none⟩) (Kd.V_far (p := ⟨gb228, 6, none⟩) (Kd.V_far (p := ⟨gb228, 5, none⟩) (Kd.V_far (p := ⟨gb228, 4, none⟩) (Kd.V_far (p := ⟨gb228, 3, none⟩) (Kd.V_far (p := ⟨gb228, 2, none⟩) (Kd.V_far (p := ⟨gb228, 1, none⟩) (Kd.V_far (p := ⟨gb228, 0, none⟩) (Kd.V_mono ba0.out (fun k_ hk => (⟨hk, hk.2.2.1⟩ : _ ∧ k_ ≠ gb228))) (fun _ hk => hk.2) (.int .i64 a0_0)) (fun _ hk => hk.2) (.int .i64 a0_1)) (fun _ hk => hk.2) (.int .i64 a0_2)) (fun _ hk => hk.2) (.int .i64 a0_3)) (fun _ hk => hk.2) (.slice A0_4 l0_4.length c0_4)) (fun _ hk => hk.2) (.int .i64 a0_5)) (fun _ hk => hk.2) (.int .i64 a0_6)) (fun _ hk => hk.2) (.int .i64 a0_7)) (fun _ hk => hk.2) (.bool a0_8)) (fun _ hk => hk.2) (.bool a0_9)) (fun _ hk => hk.2) (.bool a0_10)) (fun _ hk => hk.2) (.bool a0_11)) (fun _ hk => hk.2) (.bool a0_12)) (fun _ hk => hk.2) (.int .i64 a0_13)) (fun _ hk => hk.1.1), by repeat (first | (with_reducible first | exact HB.out | apply below_alloc | apply pw_below_drewN | apply below_drew1 | refine below_set ?_ (Aside0.out (by assumption))) | exact HB.out)⟩
   replace c16 := Bool.eq_false_iff.mpr c16
   subst c16
   have H1 : (if a0_12 = true then (some (a0_0, a0_1, a0_2, a0_3, l0_4, wrap64 (a0_5 + 1), a0_6, a0_7, a0_8, a0_9, a0_10, a0_11, a0_12, a0_13, 0)) else ((storagebarterref29_Side.f a0_0 a0_1 a0_2 a0_3 l0_4 t231).bind fun t235 => (if a1 = 0 then (storagebarterref29_Step.j1 kj4 a1 t235 true a0_0 a0_1 a0_2 a0_3 l0_4 (wrap64 (a0_5 + 1)) a0_6 a0_7 a0_8 a0_9 a0_10 a0_11 a0_12 a0_13 t229 t230 t231 t232) else (storagebarterref29_Step.j1 kj4 a1 t235 (a1 == 2) a0_0 a0_1 a0_2 a0_3 l0_4 (wrap64 (a0_5 + 1)) a0_6 a0_7 a0_8 a0_9 a0_10 a0_11 a0_12 a0_13 t229 t230 t231 t232)))) = some (r1, r2, r3, r4, r5, r6, r7, r8, r9, r10, r11, r12, r13, r14, r15) := by rw [if_neg (show ¬ (false = true) by decide)] at H; exact H
   clear H
   have H := H1
   clear H1
   by_cases c22 : a0_12 = true
   case pos => exact absurd c22 (by rw [HE5.out.2.2]; decide)
   replace c22 := Bool.eq_false_iff.mpr c22
   subst c22
   have H1 : ((storagebarterref29_Side.f a0_0 a0_1 a0_2 a0_3 l0_4 t231).bind fun t235 => (if a1 = 0 then (storagebarterref29_Step.j1 kj4 a1 t235 true a0_0 a0_1 a0_2 a0_3 l0_4 (wrap64 (a0_5 + 1)) a0_6 a0_7 a0_8 a0_9 a0_10 a0_11 false a0_13 t229 t230 t231 t232) else (storagebarterref29_Step.j1 kj4 a1 t235 (a1 == 2) a0_0 a0_1 a0_2 a0_3 l0_4 (wrap64 (a0_5 + 1)) a0_6 a0_7 a0_8 a0_9 a0_10 a0_11 false a0_13 t229 t230 t231 t232))) = some (r1, r2, r3, r4, r5, r6, r7, r8, r9, r10, r11, r12, r13, r14, r15) := by rw [if_neg (show ¬ (false = true) by decide)] at H; exact H
   clear H
   have H := H1
   clear H1
   replace H := Option.bind_eq_some_iff.mp H
   obtain ⟨t235, A280, H⟩ := H
   replace H : (if a1 = 0 then (storagebarterref29_Step.j1 kj4 a1 t235 true a0_0 a0_1 a0_2 a0_3 l0_4 (wrap64 (a0_5 + 1)) a0_6 a0_7 a0_8 a0_9 a0_10 a0_11 false a0_13 t229 t230 t231 t232) else (storagebarterref29_Step.j1 kj4 a1 t235 (a1 == 2) a0_0 a0_1 a0_2 a0_3 l0_4 (wrap64 (a0_5 + 1)) a0_6 a0_7 a0_8 a0_9 a0_10 a0_11 false a0_13 t229 t230 t231 t232)) = some (r1, r2, r3, r4, r5, r6, r7, r8, r9, r10, r11, r12, r13, r14, r15) := H
   have A28 := Aside0.mk A280
   clear A280
   have HC29 := Aside0.mk H
   clear H
   have hnb30 := NB227_228.out
   have hnc30 := NB228_227.out
   have hnb31 := NB227_234.out
   have hnc31 := NB234_227.out
   have hcz32 := cz14 BK227.out
   have hfz32 := blk_frozen BK227.out
   have hnb33 := NB234_228.out
   have hnc33 := NB228_234.out
   have hcz34 := cz4 BK234.out
   have hfz34 := blk_frozen BK234.out
   go_upto_region 10 with (first | ((with_reducible refine gate_callee (f := 46) rfl ?_); refine goesL_ (some 36) rfl rfl Tryd.func46 (by kernel_rfl) rfl #[.agg #[.int .i64 a0_0, .int .i64 a0_1, .int .i64 a0_2, .int .i64 a0_3, .slice A0_4 l0_4.length c0_4], .int .i64 t231] rfl (by (try simp only [List.map_toArray, List.map_cons, List.map_nil]); first | done | rfl | (simp only [List.length_drop, List.length_take]; rfl)) ?_; (with_reducible refine (storagebarterref29_Side.calls a0_0 a0_1 a0_2 a0_3 _ _ l0_4 t231 t235 _ ?side1 ?side2 A28.out).mono ?_); (case side1 => refine (Kd.V_reads' (e := 3) (base := w.heap.size) (ok := fun k_ => ((P0_4_ k_ ∨ w.heap.size ≤ k_) ∧ (k_ ≠ gb227 ∧ (k_ ≠ gb228 ∧ k_ ≠ gb234)))) (n := l0_4.length) (c := c0_4) ?_).2.2; exact (vU38 ((Kd.V_mono (Kd.V_far (p := ⟨gb227, 5, none⟩) (Kd.V_mono ba0.out (fun k_ hk => (⟨hk, hk.2.1⟩ : _ ∧ k_ ≠ gb227))) (fun _ hk => hk.2) (.int .i64 (wrap64 (a0_5 + 1)))) (fun _ h_ => h_.1))))); (case side2 => exact (Kd.V_reads' ba0.out).2.1); rintro e w35 ⟨rfl, hb⟩; refine ⟨_, rfl, ?_⟩; have n0_ := Aside0.mk (Kd.V_below (vU38 ((Kd.V_mono (Kd.V_far (p := ⟨gb227, 5, none⟩) (Kd.V_mono ba0.out (fun k_ hk => (⟨hk, hk.2.1⟩ : _ ∧ k_ ≠ gb227))) (fun _ hk => hk.2) (.int .i64 (wrap64 (a0_5 + 1)))) (fun _ h_ => h_.1)))) hb); have n1_ := Aside0.mk (blk_below (g := gb227) (o := .cells #[.int .i64 a0_0, .int .i64 a0_1, .int .i64 a0_2, .int .i64 a0_3, .slice A0_4 l0_4.length c0_4, .int .i64 (wrap64 (a0_5 + 1)), .int .i64 a0_6, .int .i64 a0_7, .bool a0_8, .bool a0_9, .bool a0_10, .bool a0_11, .bool false, .int .i64 a0_13] 54 (0, 0)) (by (with_reducible repeat (first | refine blk_drewN ?_ _ | refine blk_drew ?_ | refine blk_alloc ?_ _)); refine blk_put (cs := #[.int .i64 a0_0, .int .i64 a0_1, .int .i64 a0_2, .int .i64 a0_3, .slice A0_4 l0_4.length c0_4, .int .i64 a0_5, .int .i64 a0_6, .int .i64 a0_7, .bool a0_8, .bool a0_9, .bool a0_10, .bool a0_11, .bool false, .int .i64 a0_13]) ?_ 5 _ rfl; exact bU38 BK227.out) hb); have n2_ := Aside0.mk (blk_below (g := gb228) (o := .cells #[.int .i64 0, .int .i64 0, .int .i64 0, .int .i64 0, .slice none 0 0, .int .i64 0, .int .i64 0, .int .i64 0, .bool false, .bool false, .bool false, .bool false, .bool false, .int .i64 0] 54 (0, 0)) (by (with_reducible repeat (first | refine blk_drewN ?_ _ | refine blk_drew ?_ | refine blk_alloc ?_ _)); refine blk_far ?_ NB228_227.out _; exact bU38 BK228.out) hb); have n3_ := Aside0.mk (blk_below (g := gb234) (o := .cells #[.int .i64 t229, .int .i64 t230, .int .i64 t231, .int .i64 t232] 36 (0, 0)) (by (with_reducible repeat (first | refine blk_drewN ?_ _ | refine blk_drew ?_ | refine blk_alloc ?_ _)); refine blk_far ?_ NB234_227.out _; exact bU38 BK234.out) hb); have n4_ := Aside0.mk (below_step (by repeat (first | (with_reducible first | exact HB.out | apply below_alloc | apply pw_below_drewN | apply below_drew1 | refine below_set ?_ (Aside0.out (by assumption))) | exact HB.out)) hb); clear ba0; clear BK227; clear BK228; clear BK234; clear HB; have ba0 := n0_; have BK227 := n1_; have BK228 := n2_; have BK234 := n3_; have HB := n4_; clear n0_ n1_ n2_ n3_ n4_; (try clear hb); (try clear hb2); (try clear hk); (try clear hi); (try clear hgw)))
   (try simp only [Act.put, List.setIfInBounds_toArray, List.set_cons_zero, List.set_cons_succ])
   go_cut [9] (fun v9 wc => ∃ (kq : Nat) (x9_28 : Bool), v9 = .bool x9_28 ∧ Aside0 (storagebarterref29_Step.j1 kq a1 t235 x9_28 a0_0 a0_1 a0_2 a0_3 l0_4 (wrap64 (a0_5 + 1)) a0_6 a0_7 a0_8 a0_9 a0_10 a0_11 false a0_13 t229 t230 t231 t232 = some (r1, r2, r3, r4, r5, r6, r7, r8, r9, r10, r11, r12, r13, r14, r15)) ∧ Aside0 (kq ≤ kj4) ∧ Aside0 (Kd.V (Kd.int .i64) 3 wc w.heap.size (fun k_ => (P0_4_ k_ ∨ w.heap.size ≤ k_) ∧ k_ ≠ gb227 ∧ k_ ≠ gb228 ∧ k_ ≠ gb234) (.slice A0_4 l0_4.length c0_4) l0_4) ∧ Aside0 (wc.heap[gb227]? = some (.cells #[.int .i64 a0_0, .int .i64 a0_1, .int .i64 a0_2, .int .i64 a0_3, (.slice A0_4 l0_4.length c0_4), .int .i64 (wrap64 (a0_5 + 1)), .int .i64 a0_6, .int .i64 a0_7, .bool a0_8, .bool a0_9, .bool a0_10, .bool a0_11, .bool false, .int .i64 a0_13] 54 (0, 0))) ∧ Aside0 (wc.heap[gb228]? = some (.cells #[.int .i64 0, .int .i64 0, .int .i64 0, .int .i64 0, (.slice none 0 0), .int .i64 0, .int .i64 0, .int .i64 0, .bool false, .bool false, .bool false, .bool false, .bool false, .int .i64 0] 54 (0, 0))) ∧ Aside0 (wc.heap[gb234]? = some (.cells #[.int .i64 t229, .int .i64 t230, .int .i64 t231, .int .i64 t232] 36 (0, 0))) ∧ Aside0 (Below w.heap.size w wc))
   case first =>
    have H := HC29.out
    clear HC29
    by_cases c36 : a1 = 0
    case neg =>
     rw [if_neg c36] at H
     have c36b0 : (a1 == 0) = false := beq_eq_false_iff_ne.mpr c36
     have c36b1 : (a1 != 0) = true := bne_iff_ne.mpr c36
     (first | rw [c36b0] | (simp only [i64_w, i32_w]; rw [c36b0]) | skip)
     have H' := Aside0.mk H
     clear H
     go_wp2
     go_meet
     case rel => exact ⟨_, ((a1 == 2)), (by first | rfl | (simp; done) | (simp [*]; done)), H', ⟨by have := HJ4.out; first | omega | exact Nat.le_refl _⟩, ⟨by (with_reducible repeat (first | apply Kd.V_alloc | apply Kd.V_drewN | apply Kd.V_drew)); exact ba0.out⟩, ⟨by exact bU38 BK227.out⟩, ⟨by exact bU38 BK228.out⟩, ⟨by exact bU38 BK234.out⟩, ⟨by repeat (first | (with_reducible first | exact HB.out | apply below_alloc | apply pw_below_drewN | apply below_drew1 | refine below_set ?_ (Aside0.out (by assumption))) | exact HB.out)⟩⟩
    rw [if_pos c36] at H
    have c36b0 : (a1 == 0) = true := beq_iff_eq.mpr c36
    have c36b1 : (a1 != 0) = false := bne_eq_false_iff_eq.mpr c36
    clear c36
    (first | rw [c36b0] | (simp only [i64_w, i32_w]; rw [c36b0]) | skip)
    have H' := Aside0.mk H
    clear H
    go_wp2
    go_meet
    case rel => exact ⟨_, (true), (by first | rfl | (simp; done) | (simp [*]; done)), H', ⟨by have := HJ4.out; first | omega | exact Nat.le_refl _⟩, ⟨by (with_reducible repeat (first | apply Kd.V_alloc | apply Kd.V_drewN | apply Kd.V_drew)); exact ba0.out⟩, ⟨by exact bU38 BK227.out⟩, ⟨by exact bU38 BK228.out⟩, ⟨by exact bU38 BK234.out⟩, ⟨by repeat (first | (with_reducible first | exact HB.out | apply below_alloc | apply pw_below_drewN | apply below_drew1 | refine below_set ?_ (Aside0.out (by assumption))) | exact HB.out)⟩⟩
   case rest =>
    clear HC29
    try clear c1
    try clear c2
    try clear p2
    try clear c3
    try clear c4
    try clear p6
    try clear c7
    try clear c8
    try clear c12
    try clear c13
    try clear c15
    try clear c15b0
    try clear c16
    try clear c17
    try clear c18
    try clear c20
    try clear c22
    try clear c23
    try clear c24
    try clear c26
    try clear c30
    try clear c31
    try clear c33
    try clear c36
    try clear c36b0
    try clear c36b1
    try clear hcz14
    try clear hcz19
    try clear hcz21
    try clear hcz25
    try clear hcz27
    try clear hcz32
    try clear hcz34
    try clear hcz9
    try clear hfz14
    try clear hfz19
    try clear hfz21
    try clear hfz25
    try clear hfz27
    try clear hfz32
    try clear hfz34
    try clear hfz9
    try clear p2
    obtain ⟨kq, x9_28, rfl, HA, HJ28, ba0, BK227, BK228, BK234, HB⟩ := hcut
    cases kq with
    | zero => exact absurd HA.out (by simp [storagebarterref29_Step.j1])
    | succ kj28 =>
     have H := HA.out
     clear HA
     simp only [storagebarterref29_Step.j1] at H
     by_cases c37 : t232 = 5
     case pos => exact absurd c37 HE5.out.1
     rw [if_neg c37] at H
     have c37b0 : (t232 == 5) = false := beq_eq_false_iff_ne.mpr c37
     have c37b1 : (t232 != 5) = true := bne_iff_ne.mpr c37
     have HC80 := Aside0.mk H
     clear H
     have hnb81 := NB234_227.out
     have hnc81 := NB227_234.out
     have hnb82 := NB234_228.out
     have hnc82 := NB228_234.out
     have hcz83 := cz4 BK234.out
     have hfz83 := blk_frozen BK234.out
     go_upto_if 76 with (fail)
     go_cut [76] (fun v76 wc => ∃ (kq : Nat) (x76_79 : Bool), v76 = .bool x76_79 ∧ Aside0 (storagebarterref29_Step.j2 kq a1 t235 x9_28 x76_79 a0_0 a0_1 a0_2 a0_3 l0_4 (wrap64 (a0_5 + 1)) a0_6 a0_7 a0_8 a0_9 a0_10 a0_11 false a0_13 t229 t230 t231 t232 = some (r1, r2, r3, r4, r5, r6, r7, r8, r9, r10, r11, r12, r13, r14, r15)) ∧ Aside0 (kq ≤ kj28) ∧ Aside0 (Kd.V (Kd.int .i64) 3 wc w.heap.size (fun k_ => (P0_4_ k_ ∨ w.heap.size ≤ k_) ∧ k_ ≠ gb227 ∧ k_ ≠ gb228 ∧ k_ ≠ gb234) (.slice A0_4 l0_4.length c0_4) l0_4) ∧ Aside0 (wc.heap[gb227]? = some (.cells #[.int .i64 a0_0, .int .i64 a0_1, .int .i64 a0_2, .int .i64 a0_3, (.slice A0_4 l0_4.length c0_4), .int .i64 (wrap64 (a0_5 + 1)), .int .i64 a0_6, .int .i64 a0_7, .bool a0_8, .bool a0_9, .bool a0_10, .bool a0_11, .bool false, .int .i64 a0_13] 54 (0, 0))) ∧ Aside0 (wc.heap[gb228]? = some (.cells #[.int .i64 0, .int .i64 0, .int .i64 0, .int .i64 0, (.slice none 0 0), .int .i64 0, .int .i64 0, .int .i64 0, .bool false, .bool false, .bool false, .bool false, .bool false, .int .i64 0] 54 (0, 0))) ∧ Aside0 (wc.heap[gb234]? = some (.cells #[.int .i64 t229, .int .i64 t230, .int .i64 t231, .int .i64 t232] 36 (0, 0))) ∧ Aside0 (Below w.heap.size w wc))
     case first =>
      have H := HC80.out
      clear HC80
      by_cases c84 : t232 = 6
      case neg =>
       rw [if_neg c84] at H
       have c84b0 : (t232 == 6) = false := beq_eq_false_iff_ne.mpr c84
       have c84b1 : (t232 != 6) = true := bne_iff_ne.mpr c84
       (first | rw [c84b0] | (simp only [i64_w, i32_w]; rw [c84b0]) | skip)
       have H' := Aside0.mk H
       clear H
       go_wp2
       go_meet
       case rel => exact ⟨_, ((t232 == 7)), (by first | rfl | (simp; done) | (simp [*]; done)), H', ⟨by have := HJ4.out; have := HJ28.out; first | omega | exact Nat.le_refl _⟩, ⟨by (with_reducible repeat (first | apply Kd.V_alloc | apply Kd.V_drewN | apply Kd.V_drew)); exact ba0.out⟩, ⟨by exact bU38 BK227.out⟩, ⟨by exact bU38 BK228.out⟩, ⟨by exact bU38 BK234.out⟩, ⟨by repeat (first | (with_reducible first | exact HB.out | apply below_alloc | apply pw_below_drewN | apply below_drew1 | refine below_set ?_ (Aside0.out (by assumption))) | exact HB.out)⟩⟩
      rw [if_pos c84] at H
      have c84b0 : (t232 == 6) = true := beq_iff_eq.mpr c84
      have c84b1 : (t232 != 6) = false := bne_eq_false_iff_eq.mpr c84
      clear c84
      (first | rw [c84b0] | (simp only [i64_w, i32_w]; rw [c84b0]) | skip)
      have H' := Aside0.mk H
      clear H
      go_wp2
      go_meet
      case rel => exact ⟨_, ((t232 == 6)), (by first | rfl | (simp; done) | (simp [*]; done)), H', ⟨by have := HJ4.out; have := HJ28.out; first | omega | exact Nat.le_refl _⟩, ⟨by (with_reducible repeat (first | apply Kd.V_alloc | apply Kd.V_drewN | apply Kd.V_drew)); exact ba0.out⟩, ⟨by exact bU38 BK227.out⟩, ⟨by exact bU38 BK228.out⟩, ⟨by exact bU38 BK234.out⟩, ⟨by repeat (first | (with_reducible first | exact HB.out | apply below_alloc | apply pw_below_drewN | apply below_drew1 | refine below_set ?_ (Aside0.out (by assumption))) | exact HB.out)⟩⟩
     case rest =>
      clear HC80
      try clear p2
      try clear c3
      try clear c4
      try clear c5
      try clear c6
      try clear p6
      try clear c7
      try clear c8
      try clear c37
      try clear c37b0
      try clear c37b1
      try clear c38
      try clear c38b0
      try clear c38b1
      try clear c39
      try clear c40
      try clear c41
      try clear c42
      try clear c44
      try clear c47
      try clear c48
      try clear c50
      try clear c53
      try clear c54
      try clear c56
      try clear c59
      try clear c60
      try clear c61
      try clear c62
      try clear c63
      try clear p64
      try clear c65
      try clear c68
      try clear c69
      try clear c71
      try clear c74
      try clear c75
      try clear c77
      try clear c81
      try clear c82
      try clear c84
      try clear c84b0
      try clear c84b1
      try clear hcz43
      try clear hcz45
      try clear hcz46
      try clear hcz49
      try clear hcz51
      try clear hcz52
      try clear hcz55
      try clear hcz57
      try clear hcz58
      try clear hcz64
      try clear hcz66
      try clear hcz67
      try clear hcz70
      try clear hcz72
      try clear hcz73
      try clear hcz76
      try clear hcz78
      try clear hcz79
      try clear hcz83
      try clear hfz32
      try clear hfz34
      try clear hfz43
      try clear hfz45
      try clear hfz46
      try clear hfz49
      try clear hfz51
      try clear hfz52
      try clear hfz55
      try clear hfz57
      try clear hfz58
      try clear hfz64
      try clear hfz66
      try clear hfz67
      try clear hfz70
      try clear hfz72
      try clear hfz73
      try clear hfz76
      try clear hfz78
      try clear hfz79
      try clear hfz83
      try clear hfz9
      try clear p2
      obtain ⟨kq, x76_79, rfl, HA, HJ79, ba0, BK227, BK228, BK234, HB⟩ := hcut
      cases kq with
      | zero => exact absurd HA.out (by simp [storagebarterref29_Step.j2])
      | succ kj79 =>
       have H := HA.out
       clear HA
       simp only [storagebarterref29_Step.j2] at H
       by_cases c85 : x76_79 = true
       case neg =>
        replace c85 := Bool.eq_false_iff.mpr c85
        subst c85
        have H1 : ((storagebarterref29_begin.f kj79 a0_0 a0_1 a0_2 a0_3 l0_4 (wrap64 (a0_5 + 1)) a0_6 a0_7 a0_8 a0_9 a0_10 a0_11 false a0_13 t229 t230 t231 t232 t235 a1).bind fun bt254 => (some (bt254.1, bt254.2.1, bt254.2.2.1, bt254.2.2.2.1, bt254.2.2.2.2.1, bt254.2.2.2.2.2.1, bt254.2.2.2.2.2.2.1, bt254.2.2.2.2.2.2.2.1, bt254.2.2.2.2.2.2.2.2.1, bt254.2.2.2.2.2.2.2.2.2.1, bt254.2.2.2.2.2.2.2.2.2.2.1, bt254.2.2.2.2.2.2.2.2.2.2.2.1, bt254.2.2.2.2.2.2.2.2.2.2.2.2.1, bt254.2.2.2.2.2.2.2.2.2.2.2.2.2, 0))) = some (r1, r2, r3, r4, r5, r6, r7, r8, r9, r10, r11, r12, r13, r14, r15) := by rw [if_neg (show ¬ (false = true) by decide)] at H; exact H
        clear H
        have H := H1
        clear H1
        replace H := Option.bind_eq_some_iff.mp H
        obtain ⟨⟨t254, t255, t256, t257, t258, t261, t262, t263, t264, t265, t266, t267, t268, t269⟩, A1440, H⟩ := H
        replace H : (some (t254, t255, t256, t257, t258, t261, t262, t263, t264, t265, t266, t267, t268, t269, 0)) = some (r1, r2, r3, r4, r5, r6, r7, r8, r9, r10, r11, r12, r13, r14, r15) := H
        have A144 := Aside0.mk A1440
        clear A1440
        simp only [Option.some.injEq, Prod.mk.injEq] at H
        obtain ⟨rfl, rfl, rfl, rfl, rfl, rfl, rfl, rfl, rfl, rfl, rfl, rfl, rfl, rfl, rfl⟩ := H
        have hnb145 := NB227_228.out
        have hnc145 := NB228_227.out
        have hnb146 := NB227_234.out
        have hnc146 := NB234_227.out
        have hcz147 := cz14 BK227.out
        have hfz147 := blk_frozen BK227.out
        have hnb148 := NB234_228.out
        have hnc148 := NB228_234.out
        have hcz149 := cz4 BK234.out
        have hfz149 := blk_frozen BK234.out
        go_wp2_with (first | ((with_reducible refine gate_callee (f := 74) rfl ?_); refine goesL_ (some 49) rfl rfl Tryd.func74 (by kernel_rfl) rfl #[.agg #[.int .i64 a0_0, .int .i64 a0_1, .int .i64 a0_2, .int .i64 a0_3, .slice A0_4 l0_4.length c0_4, .int .i64 (wrap64 (a0_5 + 1)), .int .i64 a0_6, .int .i64 a0_7, .bool a0_8, .bool a0_9, .bool a0_10, .bool a0_11, .bool false, .int .i64 a0_13], .agg #[.int .i64 t229, .int .i64 t230, .int .i64 t231, .int .i64 t232], .int .i64 t235, .int .i64 a1] rfl (by (try simp only [List.map_toArray, List.map_cons, List.map_nil]); first | done | rfl | (simp only [List.length_drop, List.length_take]; rfl)) ?_; (with_reducible refine (storagebarterref29_begin.calls kj79 a0_0 a0_1 a0_2 a0_3 (fun k_ => ((P0_4_ k_ ∨ w.heap.size ≤ k_) ∧ (k_ ≠ gb227 ∧ (k_ ≠ gb228 ∧ k_ ≠ gb234)))) _ _ l0_4 (wrap64 (a0_5 + 1)) a0_6 a0_7 a0_8 a0_9 a0_10 a0_11 false a0_13 t229 t230 t231 t232 t235 a1 t254 t255 t256 t257 t258 t261 t262 t263 t264 t265 t266 t267 t268 t269 _ ?side1 A144.out).mono ?_); (case side1 => exact ba0.out); rintro e w150 ⟨v259, rfl, ho0, hb⟩; refine ⟨_, rfl, ?_⟩; have n0_ := Aside0.mk (Kd.V_below (vU38 ba0.out) hb); have n1_ := Aside0.mk (Kd.V_lower (Kd.V_mono (ok' := fun k_ => (P0_4_ k_ ∨ w.heap.size ≤ k_) ∧ k_ ≠ gb227 ∧ k_ ≠ gb228 ∧ k_ ≠ gb234) ho0 (fun k_ hk_ => ⟨Or.elim hk_ (fun hs_ => hs_.1) (fun hn_ => (.inr (Nat.le_trans (below_size (by repeat (first | (with_reducible first | exact HB.out | apply below_alloc | apply pw_below_drewN | apply below_drew1 | refine below_set ?_ (Aside0.out (by assumption))) | exact HB.out))) hn_))), Or.elim hk_ (fun hs_ => hs_.2.1) (fun hn_ => (Kd.freshB (g := gb227) (o := .cells #[.int .i64 a0_0, .int .i64 a0_1, .int .i64 a0_2, .int .i64 a0_3, .slice A0_4 l0_4.length c0_4, .int .i64 (wrap64 (a0_5 + 1)), .int .i64 a0_6, .int .i64 a0_7, .bool a0_8, .bool a0_9, .bool a0_10, .bool a0_11, .bool false, .int .i64 a0_13] 54 (0, 0)) (bU38 BK227.out) k_ hn_)), Or.elim hk_ (fun hs_ => hs_.2.2.1) (fun hn_ => (Kd.freshB (g := gb228) (o := .cells #[.int .i64 0, .int .i64 0, .int .i64 0, .int .i64 0, .slice none 0 0, .int .i64 0, .int .i64 0, .int .i64 0, .bool false, .bool false, .bool false, .bool false, .bool false, .int .i64 0] 54 (0, 0)) (bU38 BK228.out) k_ hn_)), Or.elim hk_ (fun hs_ => hs_.2.2.2) (fun hn_ => (Kd.freshB (g := gb234) (o := .cells #[.int .i64 t229, .int .i64 t230, .int .i64 t231, .int .i64 t232] 36 (0, 0)) (bU38 BK234.out) k_ hn_))⟩)) (below_size (by repeat (first | (with_reducible first | exact HB.out | apply below_alloc | apply pw_below_drewN | apply below_drew1 | refine below_set ?_ (Aside0.out (by assumption))) | exact HB.out)))); have n2_ := Aside0.mk (blk_below (g := gb227) (bU38 BK227.out) hb); have n3_ := Aside0.mk (blk_below (g := gb228) (bU38 BK228.out) hb); have n4_ := Aside0.mk (blk_below (g := gb234) (bU38 BK234.out) hb); have n5_ := Aside0.mk (below_step (by repeat (first | (with_reducible first | exact HB.out | apply below_alloc | apply pw_below_drewN | apply below_drew1 | refine below_set ?_ (Aside0.out (by assumption))) | exact HB.out)) hb); clear ba0; clear BK227; clear BK228; clear BK234; clear HB; have ba0 := n0_; have HO260 := n1_; have BK227 := n2_; have BK228 := n3_; have BK234 := n4_; have HB := n5_; clear n0_ n1_ n2_ n3_ n4_ n5_; (try clear hb); (try clear hb2); (try clear hk); (try clear hi); (try clear hgw); (try clear ho0); have hcz151 := cz14 BK228.out; have hfz151 := blk_frozen BK228.out; obtain ⟨Ao152, co152, eo152⟩ := Kd.V_slice HO260.out; subst eo152))
        refine bodyPost_ret (results_ct rfl _ _ gb228 54 #[.int .i64 t254, .int .i64 t255, .int .i64 t256, .int .i64 t257, .slice Ao152 t258.length co152, .int .i64 t261, .int .i64 t262, .int .i64 t263, .bool t264, .bool t265, .bool t266, .bool t267, .bool t268, .int .i64 t269] (0, 0) _ rfl (by (with_reducible repeat (first | refine blk_drewN ?_ _ | refine blk_drew ?_ | refine blk_alloc ?_ _)); first | exact blk_all14 (blk_drewN BK228.out nd) _ _ _ _ _ _ _ _ _ _ _ _ _ _ | exact blk_all14 BK228.out _ _ _ _ _ _ _ _ _ _ _ _ _ _ | exact blk_all14 (bU38 BK228.out) _ _ _ _ _ _ _ _ _ _ _ _ _ _ | exact blk_all14 (blk_up BK228.out) _ _ _ _ _ _ _ _ _ _ _ _ _ _) Tryd.underlying54 rfl (by kernel_rfl)) rfl ?_
        exact ⟨_, by first | rfl | (simp [errW_none, errW_some] <;> rfl) | (simp [*, errW_none, errW_some] <;> rfl), by (with_reducible repeat (first | apply Kd.V_alloc | apply Kd.V_drewN | apply Kd.V_drew)); exact Kd.V_mono (Kd.V_far (p := ⟨gb228, 13, none⟩) (Kd.V_far (p := ⟨gb228, 12, none⟩) (Kd.V_far (p := ⟨gb228, 11, none⟩) (Kd.V_far (p := ⟨gb228, 10, none⟩) (Kd.V_far (p := ⟨gb228, 9, none⟩) (Kd.V_far (p := ⟨gb228, 8, none⟩) (Kd.V_far (p := ⟨gb228, 7, none⟩) (Kd.V_far (p := ⟨gb228, 6, none⟩) (Kd.V_far (p := ⟨gb228, 5, none⟩) (Kd.V_far (p := ⟨gb228, 4, none⟩) (Kd.V_far (p := ⟨gb228, 3, none⟩) (Kd.V_far (p := ⟨gb228, 2, none⟩) (Kd.V_far (p := ⟨gb228, 1, none⟩) (Kd.V_far (p := ⟨gb228, 0, none⟩) (Kd.V_mono HO260.out (fun k_ hk => (⟨hk, hk.2.2.1⟩ : _ ∧ k_ ≠ gb228))) (fun _ hk => hk.2) (.int .i64 t254)) (fun _ hk => hk.2) (.int .i64 t255)) (fun _ hk => hk.2) (.int .i64 t256)) (fun _ hk => hk.2) (.int .i64 t257)) (fun _ hk => hk.2) (.slice Ao152 t258.length co152)) (fun _ hk => hk.2) (.int .i64 t261)) (fun _ hk => hk.2) (.int .i64 t262)) (fun _ hk => hk.2) (.int .i64 t263)) (fun _ hk => hk.2) (.bool t264)) (fun _ hk => hk.2) (.bool t265)) (fun _ hk => hk.2) (.bool t266)) (fun _ hk => hk.2) (.bool t267)) (fun _ hk => hk.2) (.bool t268)) (fun _ hk => hk.2) (.int .i64 t269)) (fun _ hk => hk.1.1), by repeat (first | (with_reducible first | exact HB.out | apply below_alloc | apply pw_below_drewN | apply below_drew1 | refine below_set ?_ (Aside0.out (by assumption))) | exact HB.out)⟩
       subst c85
       have H1 : (if t235 = 0 then (if a0_8 = true then (storagebarterref29_Step.j3 kj79 a1 0 (!x9_28) a0_0 a0_1 a0_2 a0_3 l0_4 (wrap64 (a0_5 + 1)) a0_6 a0_7 a0_8 a0_9 a0_10 a0_11 false a0_13 t229 t230 t231 t232) else (storagebarterref29_Step.j3 kj79 a1 0 true a0_0 a0_1 a0_2 a0_3 l0_4 (wrap64 (a0_5 + 1)) a0_6 a0_7 a0_8 a0_9 a0_10 a0_11 false a0_13 t229 t230 t231 t232)) else (if t235 = 1 then (if a0_9 = true then (storagebarterref29_Step.j3 kj79 a1 1 (!x9_28) a0_0 a0_1 a0_2 a0_3 l0_4 (wrap64 (a0_5 + 1)) a0_6 a0_7 a0_8 a0_9 a0_10 a0_11 false a0_13 t229 t230 t231 t232) else (storagebarterref29_Step.j3 kj79 a1 1 true a0_0 a0_1 a0_2 a0_3 l0_4 (wrap64 (a0_5 + 1)) a0_6 a0_7 a0_8 a0_9 a0_10 a0_11 false a0_13 t229 t230 t231 t232)) else (none))) = some (r1, r2, r3, r4, r5, r6, r7, r8, r9, r10, r11, r12, r13, r14, r15) := by rw [if_pos rfl] at H; exact H
       clear H
       have H := H1
       clear H1
       have HC86 := Aside0.mk H
       clear H
       go_upto_region 19 with (fail)
       go_cut [87] (fun v87 wc => ∃ (kq : Nat) (x87_85 : Bool), v87 = .bool x87_85 ∧ Aside0 (storagebarterref29_Step.j3 kq a1 t235 x87_85 a0_0 a0_1 a0_2 a0_3 l0_4 (wrap64 (a0_5 + 1)) a0_6 a0_7 a0_8 a0_9 a0_10 a0_11 false a0_13 t229 t230 t231 t232 = some (r1, r2, r3, r4, r5, r6, r7, r8, r9, r10, r11, r12, r13, r14, r15)) ∧ Aside0 (kq ≤ kj79) ∧ Aside0 (Kd.V (Kd.int .i64) 3 wc w.heap.size (fun k_ => (P0_4_ k_ ∨ w.heap.size ≤ k_) ∧ k_ ≠ gb227 ∧ k_ ≠ gb228 ∧ k_ ≠ gb234) (.slice A0_4 l0_4.length c0_4) l0_4) ∧ Aside0 (wc.heap[gb227]? = some (.cells #[.int .i64 a0_0, .int .i64 a0_1, .int .i64 a0_2, .int .i64 a0_3, (.slice A0_4 l0_4.length c0_4), .int .i64 (wrap64 (a0_5 + 1)), .int .i64 a0_6, .int .i64 a0_7, .bool a0_8, .bool a0_9, .bool a0_10, .bool a0_11, .bool false, .int .i64 a0_13] 54 (0, 0))) ∧ Aside0 (wc.heap[gb228]? = some (.cells #[.int .i64 0, .int .i64 0, .int .i64 0, .int .i64 0, (.slice none 0 0), .int .i64 0, .int .i64 0, .int .i64 0, .bool false, .bool false, .bool false, .bool false, .bool false, .int .i64 0] 54 (0, 0))) ∧ Aside0 (wc.heap[gb234]? = some (.cells #[.int .i64 t229, .int .i64 t230, .int .i64 t231, .int .i64 t232] 36 (0, 0))) ∧ Aside0 (Below w.heap.size w wc))
       case first =>
        have H := HC86.out
        clear HC86
        by_cases c87 : t235 = 0
        case pos =>
         subst c87
         have H1 : (if a0_8 = true then (storagebarterref29_Step.j3 kj79 a1 0 (!x9_28) a0_0 a0_1 a0_2 a0_3 l0_4 (wrap64 (a0_5 + 1)) a0_6 a0_7 a0_8 a0_9 a0_10 a0_11 false a0_13 t229 t230 t231 t232) else (storagebarterref29_Step.j3 kj79 a1 0 true a0_0 a0_1 a0_2 a0_3 l0_4 (wrap64 (a0_5 + 1)) a0_6 a0_7 a0_8 a0_9 a0_10 a0_11 false a0_13 t229 t230 t231 t232)) = some (r1, r2, r3, r4, r5, r6, r7, r8, r9, r10, r11, r12, r13, r14, r15) := by rw [if_pos rfl] at H; exact H
         clear H
         have H := H1
         clear H1
         by_cases c88 : a0_8 = true
         case pos =>
          subst c88
          have H1 : (storagebarterref29_Step.j3 kj79 a1 0 (!x9_28) a0_0 a0_1 a0_2 a0_3 l0_4 (wrap64 (a0_5 + 1)) a0_6 a0_7 true a0_9 a0_10 a0_11 false a0_13 t229 t230 t231 t232) = some (r1, r2, r3, r4, r5, r6, r7, r8, r9, r10, r11, r12, r13, r14, r15) := by rw [if_pos rfl] at H; exact H
          clear H
          have H := H1
          clear H1
          have H' := Aside0.mk H
          clear H
          have hnb89 := NB227_228.out
          have hnc89 := NB228_227.out
          have hnb90 := NB227_234.out
          have hnc90 := NB234_227.out
          have hcz91 := cz14 BK227.out
          have hfz91 := blk_frozen BK227.out
          go_wp2
          go_meet
          case rel => exact ⟨_, (!x9_28), (by first | rfl | (simp; done) | (simp [*]; done)), H', ⟨by have := HJ4.out; have := HJ28.out; have := HJ79.out; first | omega | exact Nat.le_refl _⟩, ⟨by (with_reducible repeat (first | apply Kd.V_alloc | apply Kd.V_drewN | apply Kd.V_drew)); exact ba0.out⟩, ⟨by exact bU38 BK227.out⟩, ⟨by exact bU38 BK228.out⟩, ⟨by exact bU38 BK234.out⟩, ⟨by repeat (first | (with_reducible first | exact HB.out | apply below_alloc | apply pw_below_drewN | apply below_drew1 | refine below_set ?_ (Aside0.out (by assumption))) | exact HB.out)⟩⟩
         replace c88 := Bool.eq_false_iff.mpr c88
         subst c88
         have H1 : (storagebarterref29_Step.j3 kj79 a1 0 true a0_0 a0_1 a0_2 a0_3 l0_4 (wrap64 (a0_5 + 1)) a0_6 a0_7 false a0_9 a0_10 a0_11 false a0_13 t229 t230 t231 t232) = some (r1, r2, r3, r4, r5, r6, r7, r8, r9, r10, r11, r12, r13, r14, r15) := by rw [if_neg (show ¬ (false = true) by decide)] at H; exact H
         clear H
         have H := H1
         clear H1
         have H' := Aside0.mk H
         clear H
         have hnb92 := NB227_228.out
         have hnc92 := NB228_227.out
         have hnb93 := NB227_234.out
         have hnc93 := NB234_227.out
         have hcz94 := cz14 BK227.out
         have hfz94 := blk_frozen BK227.out
         go_wp2
         go_meet
         case rel => exact ⟨_, (true), (by first | rfl | (simp; done) | (simp [*]; done)), H', ⟨by have := HJ4.out; have := HJ28.out; have := HJ79.out; first | omega | exact Nat.le_refl _⟩, ⟨by (with_reducible repeat (first | apply Kd.V_alloc | apply Kd.V_drewN | apply Kd.V_drew)); exact ba0.out⟩, ⟨by exact bU38 BK227.out⟩, ⟨by exact bU38 BK228.out⟩, ⟨by exact bU38 BK234.out⟩, ⟨by repeat (first | (with_reducible first | exact HB.out | apply below_alloc | apply pw_below_drewN | apply below_drew1 | refine below_set ?_ (Aside0.out (by assumption))) | exact HB.out)⟩⟩
        rw [if_neg c87] at H
        have c87b0 : (t235 == 0) = false := beq_eq_false_iff_ne.mpr c87
        have c87b1 : (t235 != 0) = true := bne_iff_ne.mpr c87
        by_cases c95 : t235 = 1
        case neg =>
         rw [if_neg c95] at H
         exact absurd H (by simp)
        subst c95
        have H1 : (if a0_9 = true then (storagebarterref29_Step.j3 kj79 a1 1 (!x9_28) a0_0 a0_1 a0_2 a0_3 l0_4 (wrap64 (a0_5 + 1)) a0_6 a0_7 a0_8 a0_9 a0_10 a0_11 false a0_13 t229 t230 t231 t232) else (storagebarterref29_Step.j3 kj79 a1 1 true a0_0 a0_1 a0_2 a0_3 l0_4 (wrap64 (a0_5 + 1)) a0_6 a0_7 a0_8 a0_9 a0_10 a0_11 false a0_13 t229 t230 t231 t232)) = some (r1, r2, r3, r4, r5, r6, r7, r8, r9, r10, r11, r12, r13, r14, r15) := by rw [if_pos rfl] at H; exact H
        clear H
        have H := H1
        clear H1
        by_cases c96 : a0_9 = true
        case pos =>
         subst c96
         have H1 : (storagebarterref29_Step.j3 kj79 a1 1 (!x9_28) a0_0 a0_1 a0_2 a0_3 l0_4 (wrap64 (a0_5 + 1)) a0_6 a0_7 a0_8 true a0_10 a0_11 false a0_13 t229 t230 t231 t232) = some (r1, r2, r3, r4, r5, r6, r7, r8, r9, r10, r11, r12, r13, r14, r15) := by rw [if_pos rfl] at H; exact H
         clear H
         have H := H1
         clear H1
         have H' := Aside0.mk H
         clear H
         have hnb97 := NB227_228.out
         have hnc97 := NB228_227.out
         have hnb98 := NB227_234.out
         have hnc98 := NB234_227.out
         have hcz99 := cz14 BK227.out
         have hfz99 := blk_frozen BK227.out
         go_wp2
         go_meet
         case rel => exact ⟨_, (!x9_28), (by first | rfl | (simp; done) | (simp [*]; done)), H', ⟨by have := HJ4.out; have := HJ28.out; have := HJ79.out; first | omega | exact Nat.le_refl _⟩, ⟨by (with_reducible repeat (first | apply Kd.V_alloc | apply Kd.V_drewN | apply Kd.V_drew)); exact ba0.out⟩, ⟨by exact bU38 BK227.out⟩, ⟨by exact bU38 BK228.out⟩, ⟨by exact bU38 BK234.out⟩, ⟨by repeat (first | (with_reducible first | exact HB.out | apply below_alloc | apply pw_below_drewN | apply below_drew1 | refine below_set ?_ (Aside0.out (by assumption))) | exact HB.out)⟩⟩
        replace c96 := Bool.eq_false_iff.mpr c96
        subst c96
        have H1 : (storagebarterref29_Step.j3 kj79 a1 1 true a0_0 a0_1 a0_2 a0_3 l0_4 (wrap64 (a0_5 + 1)) a0_6 a0_7 a0_8 false a0_10 a0_11 false a0_13 t229 t230 t231 t232) = some (r1, r2, r3, r4, r5, r6, r7, r8, r9, r10, r11, r12, r13, r14, r15) := by rw [if_neg (show ¬ (false = true) by decide)] at H; exact H
        clear H
        have H := H1
        clear H1
        have H' := Aside0.mk H
        clear H
        have hnb100 := NB227_228.out
        have hnc100 := NB228_227.out
        have hnb101 := NB227_234.out
        have hnc101 := NB234_227.out
        have hcz102 := cz14 BK227.out
        have hfz102 := blk_frozen BK227.out
        go_wp2
        go_meet
        case rel => exact ⟨_, (true), (by first | rfl | (simp; done) | (simp [*]; done)), H', ⟨by have := HJ4.out; have := HJ28.out; have := HJ79.out; first | omega | exact Nat.le_refl _⟩, ⟨by (with_reducible repeat (first | apply Kd.V_alloc | apply Kd.V_drewN | apply Kd.V_drew)); exact ba0.out⟩, ⟨by exact bU38 BK227.out⟩, ⟨by exact bU38 BK228.out⟩, ⟨by exact bU38 BK234.out⟩, ⟨by repeat (first | (with_reducible first | exact HB.out | apply below_alloc | apply pw_below_drewN | apply below_drew1 | refine below_set ?_ (Aside0.out (by assumption))) | exact HB.out)⟩⟩
       case rest =>
        clear HC86
        try clear c1
        try clear p2
        try clear p6
        try clear c8
        try clear c9
        try clear c10
        try clear p64
        try clear c85
        try clear c87
        try clear c87b0
        try clear c87b1
        try clear c88
        try clear c89
        try clear c90
        try clear c92
        try clear c93
        try clear c95
        try clear c96
        try clear c97
        try clear c98
        try clear c100
        try clear c101
        try clear hcz102
        try clear hcz49
        try clear hcz51
        try clear hcz52
        try clear hcz55
        try clear hcz57
        try clear hcz58
        try clear hcz64
        try clear hcz66
        try clear hcz67
        try clear hcz70
        try clear hcz72
        try clear hcz73
        try clear hcz76
        try clear hcz78
        try clear hcz79
        try clear hcz83
        try clear hcz91
        try clear hcz94
        try clear hcz99
        try clear hfz102
        try clear hfz32
        try clear hfz34
        try clear hfz43
        try clear hfz45
        try clear hfz46
        try clear hfz49
        try clear hfz51
        try clear hfz52
        try clear hfz55
        try clear hfz57
        try clear hfz58
        try clear hfz64
        try clear hfz66
        try clear hfz67
        try clear hfz70
        try clear hfz72
        try clear hfz73
        try clear hfz76
        try clear hfz78
        try clear hfz79
        try clear hfz83
        try clear hfz91
        try clear hfz94
        try clear hfz99
        try clear hfz9
        try clear p2
        obtain ⟨kq, x87_85, rfl, HA, HJ85, ba0, BK227, BK228, BK234, HB⟩ := hcut
        cases kq with
        | zero => exact absurd HA.out (by simp [storagebarterref29_Step.j3])
        | succ kj85 =>
         have H := HA.out
         clear HA
         simp only [storagebarterref29_Step.j3] at H
         by_cases c103 : x87_85 = true
         case pos =>
          subst c103
          have H1 : ((storagebarterref29_End.f a0_0 a0_1 a0_2 a0_3 l0_4 (wrap64 (a0_5 + 1)) a0_6 a0_7 a0_8 a0_9 a0_10 a0_11 false a0_13 t231).bind fun bt236 => (some (bt236.1, bt236.2.1, bt236.2.2.1, bt236.2.2.2.1, bt236.2.2.2.2.1, bt236.2.2.2.2.2.1, bt236.2.2.2.2.2.2.1, bt236.2.2.2.2.2.2.2.1, bt236.2.2.2.2.2.2.2.2.1, bt236.2.2.2.2.2.2.2.2.2.1, bt236.2.2.2.2.2.2.2.2.2.2.1, bt236.2.2.2.2.2.2.2.2.2.2.2.1, bt236.2.2.2.2.2.2.2.2.2.2.2.2.1, bt236.2.2.2.2.2.2.2.2.2.2.2.2.2, 0))) = some (r1, r2, r3, r4, r5, r6, r7, r8, r9, r10, r11, r12, r13, r14, r15) := by rw [if_pos rfl] at H; exact H
          clear H
          have H := H1
          clear H1
          replace H := Option.bind_eq_some_iff.mp H
          obtain ⟨⟨t236, t237, t238, t239, t240, t243, t244, t245, t246, t247, t248, t249, t250, t251⟩, A1040, H⟩ := H
          replace H : (some (t236, t237, t238, t239, t240, t243, t244, t245, t246, t247, t248, t249, t250, t251, 0)) = some (r1, r2, r3, r4, r5, r6, r7, r8, r9, r10, r11, r12, r13, r14, r15) := H
          have A104 := Aside0.mk A1040
          clear A1040
          simp only [Option.some.injEq, Prod.mk.injEq] at H
          obtain ⟨rfl, rfl, rfl, rfl, rfl, rfl, rfl, rfl, rfl, rfl, rfl, rfl, rfl, rfl, rfl⟩ := H
          have hnb105 := NB227_228.out
          have hnc105 := NB228_227.out
          have hnb106 := NB227_234.out
          have hnc106 := NB234_227.out
          have hcz107 := cz14 BK227.out
          have hfz107 := blk_frozen BK227.out
          have hnb108 := NB234_228.out
          have hnc108 := NB228_234.out
          have hcz109 := cz4 BK234.out
          have hfz109 := blk_frozen BK234.out
          go_wp2_with (first | ((with_reducible refine gate_callee (f := 73) rfl ?_); refine goesL_ (some 91) rfl rfl Tryd.func73 (by kernel_rfl) rfl #[.agg #[.int .i64 a0_0, .int .i64 a0_1, .int .i64 a0_2, .int .i64 a0_3, .slice A0_4 l0_4.length c0_4, .int .i64 (wrap64 (a0_5 + 1)), .int .i64 a0_6, .int .i64 a0_7, .bool a0_8, .bool a0_9, .bool a0_10, .bool a0_11, .bool false, .int .i64 a0_13], .int .i64 t231] rfl (by (try simp only [List.map_toArray, List.map_cons, List.map_nil]); first | done | rfl | (simp only [List.length_drop, List.length_take]; rfl)) ?_; (with_reducible refine (storagebarterref29_End.calls a0_0 a0_1 a0_2 a0_3 (fun k_ => ((P0_4_ k_ ∨ w.heap.size ≤ k_) ∧ (k_ ≠ gb227 ∧ (k_ ≠ gb228 ∧ k_ ≠ gb234)))) _ _ l0_4 (wrap64 (a0_5 + 1)) a0_6 a0_7 a0_8 a0_9 a0_10 a0_11 false a0_13 t231 t236 t237 t238 t239 t240 t243 t244 t245 t246 t247 t248 t249 t250 t251 _ ?side1 A104.out).mono ?_); (case side1 => exact ba0.out); rintro e w110 ⟨v241, rfl, ho0, hb⟩; refine ⟨_, rfl, ?_⟩; have n0_ := Aside0.mk (Kd.V_below (vU38 ba0.out) hb); have n1_ := Aside0.mk (Kd.V_lower (Kd.V_mono (ok' := fun k_ => (P0_4_ k_ ∨ w.heap.size ≤ k_) ∧ k_ ≠ gb227 ∧ k_ ≠ gb228 ∧ k_ ≠ gb234) ho0 (fun k_ hk_ => ⟨Or.elim hk_ (fun hs_ => hs_.1) (fun hn_ => (.inr (Nat.le_trans (below_size (by repeat (first | (with_reducible first | exact HB.out | apply below_alloc | apply pw_below_drewN | apply below_drew1 | refine below_set ?_ (Aside0.out (by assumption))) | exact HB.out))) hn_))), Or.elim hk_ (fun hs_ => hs_.2.1) (fun hn_ => (Kd.freshB (g := gb227) (o := .cells #[.int .i64 a0_0, .int .i64 a0_1, .int .i64 a0_2, .int .i64 a0_3, .slice A0_4 l0_4.length c0_4, .int .i64 (wrap64 (a0_5 + 1)), .int .i64 a0_6, .int .i64 a0_7, .bool a0_8, .bool a0_9, .bool a0_10, .bool a0_11, .bool false, .int .i64 a0_13] 54 (0, 0)) (bU38 BK227.out) k_ hn_)), Or.elim hk_ (fun hs_ => hs_.2.2.1) (fun hn_ => (Kd.freshB (g := gb228) (o := .cells #[.int .i64 0, .int .i64 0, .int .i64 0, .int .i64 0, .slice none 0 0, .int .i64 0, .int .i64 0, .int .i64 0, .bool false, .bool false, .bool false, .bool false, .bool false, .int .i64 0] 54 (0, 0)) (bU38 BK228.out) k_ hn_)), Or.elim hk_ (fun hs_ => hs_.2.2.2) (fun hn_ => (Kd.freshB (g := gb234) (o := .cells #[.int .i64 t229, .int .i64 t230, .int .i64 t231, .int .i64 t232] 36 (0, 0)) (bU38 BK234.out) k_ hn_))⟩)) (below_size (by repeat (first | (with_reducible first | exact HB.out | apply below_alloc | apply pw_below_drewN | apply below_drew1 | refine below_set ?_ (Aside0.out (by assumption))) | exact HB.out)))); have n2_ := Aside0.mk (blk_below (g := gb227) (bU38 BK227.out) hb); have n3_ := Aside0.mk (blk_below (g := gb228) (bU38 BK228.out) hb); have n4_ := Aside0.mk (blk_below (g := gb234) (bU38 BK234.out) hb); have n5_ := Aside0.mk (below_step (by repeat (first | (with_reducible first | exact HB.out | apply below_alloc | apply pw_below_drewN | apply below_drew1 | refine below_set ?_ (Aside0.out (by assumption))) | exact HB.out)) hb); clear ba0; clear BK227; clear BK228; clear BK234; clear HB; have ba0 := n0_; have HO242 := n1_; have BK227 := n2_; have BK228 := n3_; have BK234 := n4_; have HB := n5_; clear n0_ n1_ n2_ n3_ n4_ n5_; (try clear hb); (try clear hb2); (try clear hk); (try clear hi); (try clear hgw); (try clear ho0); have hcz111 := cz14 BK228.out; have hfz111 := blk_frozen BK228.out; obtain ⟨Ao112, co112, eo112⟩ := Kd.V_slice HO242.out; subst eo112))
          refine bodyPost_ret (results_ct rfl _ _ gb228 54 #[.int .i64 t236, .int .i64 t237, .int .i64 t238, .int .i64 t239, .slice Ao112 t240.length co112, .int .i64 t243, .int .i64 t244, .int .i64 t245, .bool t246, .bool t247, .bool t248, .bool t249, .bool t250, .int .i64 t251] (0, 0) _ rfl (by (with_reducible repeat (first | refine blk_drewN ?_ _ | refine blk_drew ?_ | refine blk_alloc ?_ _)); first | exact blk_all14 (blk_drewN BK228.out nd) _ _ _ _ _ _ _ _ _ _ _ _ _ _ | exact blk_all14 BK228.out _ _ _ _ _ _ _ _ _ _ _ _ _ _ | exact blk_all14 (bU38 BK228.out) _ _ _ _ _ _ _ _ _ _ _ _ _ _ | exact blk_all14 (blk_up BK228.out) _ _ _ _ _ _ _ _ _ _ _ _ _ _) Tryd.underlying54 rfl (by kernel_rfl)) rfl ?_
          exact ⟨_, by first | rfl | (simp [errW_none, errW_some] <;> rfl) | (simp [*, errW_none, errW_some] <;> rfl), by (with_reducible repeat (first | apply Kd.V_alloc | apply Kd.V_drewN | apply Kd.V_drew)); exact Kd.V_mono (Kd.V_far (p := ⟨gb228, 13, none⟩) (Kd.V_far (p := ⟨gb228, 12, none⟩) (Kd.V_far (p := ⟨gb228, 11, none⟩) (Kd.V_far (p := ⟨gb228, 10, none⟩) (Kd.V_far (p := ⟨gb228, 9, none⟩) (Kd.V_far (p := ⟨gb228, 8, none⟩) (Kd.V_far (p := ⟨gb228, 7, none⟩) (Kd.V_far (p := ⟨gb228, 6, none⟩) (Kd.V_far (p := ⟨gb228, 5, none⟩) (Kd.V_far (p := ⟨gb228, 4, none⟩) (Kd.V_far (p := ⟨gb228, 3, none⟩) (Kd.V_far (p := ⟨gb228, 2, none⟩) (Kd.V_far (p := ⟨gb228, 1, none⟩) (Kd.V_far (p := ⟨gb228, 0, none⟩) (Kd.V_mono HO242.out (fun k_ hk => (⟨hk, hk.2.2.1⟩ : _ ∧ k_ ≠ gb228))) (fun _ hk => hk.2) (.int .i64 t236)) (fun _ hk => hk.2) (.int .i64 t237)) (fun _ hk => hk.2) (.int .i64 t238)) (fun _ hk => hk.2) (.int .i64 t239)) (fun _ hk => hk.2) (.slice Ao112 t240.length co112)) (fun _ hk => hk.2) (.int .i64 t243)) (fun _ hk => hk.2) (.int .i64 t244)) (fun _ hk => hk.2) (.int .i64 t245)) (fun _ hk => hk.2) (.bool t246)) (fun _ hk => hk.2) (.bool t247)) (fun _ hk => hk.2) (.bool t248)) (fun _ hk => hk.2) (.bool t249)) (fun _ hk => hk.2) (.bool t250)) (fun _ hk => hk.2) (.int .i64 t251)) (fun _ hk => hk.1.1), by repeat (first | (with_reducible first | exact HB.out | apply below_alloc | apply pw_below_drewN | apply below_drew1 | refine below_set ?_ (Aside0.out (by assumption))) | exact HB.out)⟩
         replace c103 := Bool.eq_false_iff.mpr c103
         subst c103
         have H1 : (if a1 = 2 then (if t235 = 0 then (some (a0_0, a0_1, a0_2, a0_3, l0_4, (wrap64 (a0_5 + 1)), wrap64 (a0_6 + 8), a0_7, a0_8, a0_9, a0_10, a0_11, false, a0_13, 0)) else (if t235 = 1 then (some (a0_0, a0_1, a0_2, a0_3, l0_4, (wrap64 (a0_5 + 1)), a0_6, wrap64 (a0_7 + 8), a0_8, a0_9, a0_10, a0_11, false, a0_13, 0)) else (none))) else (if t235 = 0 then ((storagebarterref28_Cost.f t232).bind fun t252 => (some (a0_0, a0_1, a0_2, a0_3, l0_4, (wrap64 (a0_5 + 1)), wrap64 (a0_6 + t252), a0_7, a0_8, a0_9, a0_10, a0_11, false, a0_13, 0))) else (if t235 = 1 then ((storagebarterref28_Cost.f t232).bind fun t253 => (some (a0_0, a0_1, a0_2, a0_3, l0_4, (wrap64 (a0_5 + 1)), a0_6, wrap64 (a0_7 + t253), a0_8, a0_9, a0_10, a0_11, false, a0_13, 0))) else (none)))) = some (r1, r2, r3, r4, r5, r6, r7, r8, r9, r10, r11, r12, r13, r14, r15) := by rw [if_neg (show ¬ (false = true) by decide)] at H; exact H
         clear H
         have H := H1
         clear H1
         by_cases c113 : a1 = 2
         case pos =>
          rw [if_pos c113] at H
          have c113b0 : (a1 == 2) = true := beq_iff_eq.mpr c113
          have c113b1 : (a1 != 2) = false := bne_eq_false_iff_eq.mpr c113
          clear c113
          by_cases c114 : t235 = 0
          case pos =>
           subst c114
           have H1 : (some (a0_0, a0_1, a0_2, a0_3, l0_4, (wrap64 (a0_5 + 1)), wrap64 (a0_6 + 8), a0_7, a0_8, a0_9, a0_10, a0_11, false, a0_13, 0)) = some (r1, r2, r3, r4, r5, r6, r7, r8, r9, r10, r11, r12, r13, r14, r15) := by rw [if_pos rfl] at H; exact H
           clear H
           have H := H1
           clear H1
           simp only [Option.some.injEq, Prod.mk.injEq] at H
           obtain ⟨rfl, rfl, rfl, rfl, rfl, rfl, rfl, rfl, rfl, rfl, rfl, rfl, rfl, rfl, rfl⟩ := H
           have hnb115 := NB227_228.out
           have hnc115 := NB228_227.out
           have hnb116 := NB227_234.out
           have hnc116 := NB234_227.out
           have hcz117 := cz14 BK227.out
           have hfz117 := blk_frozen BK227.out
           have hnb118 := NB228_234.out
           have hnc118 := NB234_228.out
           have hcz119 := cz14 BK228.out
           have hfz119 := blk_frozen BK228.out
           go_wp2
           refine bodyPost_ret (results_ct rfl _ _ gb228 54 #[.int .i64 a0_0, .int .i64 a0_1, .int .i64 a0_2, .int .i64 a0_3, .slice A0_4 l0_4.length c0_4, .int .i64 (wrap64 (a0_5 + 1)), .int .i64 (wrap64 (a0_6 + 8)), .int .i64 a0_7, .bool a0_8, .bool a0_9, .bool a0_10, .bool a0_11, .bool false, .int .i64 a0_13] (0, 0) _ rfl (by (with_reducible repeat (first | refine blk_drewN ?_ _ | refine blk_drew ?_ | refine blk_alloc ?_ _)); first | exact blk_all14 (blk_far (blk_drewN BK228.out nd) NB228_227.out _) _ _ _ _ _ _ _ _ _ _ _ _ _ _ | exact blk_all14 (blk_far BK228.out NB228_227.out _) _ _ _ _ _ _ _ _ _ _ _ _ _ _ | exact blk_all14 (blk_far (bU38 BK228.out) NB228_227.out _) _ _ _ _ _ _ _ _ _ _ _ _ _ _ | exact blk_all14 (blk_far (blk_up BK228.out) NB228_227.out _) _ _ _ _ _ _ _ _ _ _ _ _ _ _) Tryd.underlying54 rfl (by kernel_rfl)) rfl ?_
           exact ⟨_, by first | rfl | (simp [errW_none, errW_some] <;> rfl) | (simp [*, errW_none, errW_some] <;> rfl), by (with_reducible repeat (first | apply Kd.V_alloc | apply Kd.V_drewN | apply Kd.V_drew)); exact Kd.V_mono (Kd.V_far (p := ⟨gb228, 13, none⟩) (Kd.V_far (p := ⟨gb228, 12, none⟩) (Kd.V_far (p := ⟨gb228, 11, none⟩) (Kd.V_far (p := ⟨gb228, 10, none⟩) (Kd.V_far (p := ⟨gb228, 9, none⟩) (Kd.V_far (p := ⟨gb228, 8, none⟩) (Kd.V_far (p := ⟨gb228, 7, none⟩) (Kd.V_far (p := ⟨gb228, 6, none⟩) (Kd.V_far (p := ⟨gb228, 5, none⟩) (Kd.V_far (p := ⟨gb228, 4, none⟩) (Kd.V_far (p := ⟨gb228, 3, none⟩) (Kd.V_far (p := ⟨gb228, 2, none⟩) (Kd.V_far (p := ⟨gb228, 1, none⟩) (Kd.V_far (p := ⟨gb228, 0, none⟩) (Kd.V_far (p := ⟨gb227, 6, none⟩) (Kd.V_mono (Kd.V_mono ba0.out (fun k_ hk => (⟨hk, hk.2.1⟩ : _ ∧ k_ ≠ gb227))) (fun k_ hk => (⟨hk, hk.1.2.2.1⟩ : _ ∧ k_ ≠ gb228))) (fun _ hk => hk.1.2) (.int .i64 (wrap64 (a0_6 + 8)))) (fun _ hk => hk.2) (.int .i64 a0_0)) (fun _ hk => hk.2) (.int .i64 a0_1)) (fun _ hk => hk.2) (.int .i64 a0_2)) (fun _ hk => hk.2) (.int .i64 a0_3)) (fun _ hk => hk.2) (.slice A0_4 l0_4.length c0_4)) (fun _ hk => hk.2) (.int .i64 (wrap64 (a0_5 + 1)))) (fun _ hk => hk.2) (.int .i64 (wrap64 (a0_6 + 8)))) (fun _ hk => hk.2) (.int .i64 a0_7)) (fun _ hk => hk.2) (.bool a0_8)) (fun _ hk => hk.2) (.bool a0_9)) (fun _ hk => hk.2) (.bool a0_10)) (fun _ hk => hk.2) (.bool a0_11)) (fun _ hk => hk.2) (.bool false)) (fun _ hk => hk.2) (.int .i64 a0_13)) (fun _ hk => hk.1.1.1), by repeat (first | (with_reducible first | exact HB.out | apply below_alloc | apply pw_below_drewN | apply below_drew1 | refine below_set ?_ (Aside0.out (by assumption))) | exact HB.out)⟩
          rw [if_neg c114] at H
          have c114b0 : (t235 == 0) = false := beq_eq_false_iff_ne.mpr c114
          have c114b1 : (t235 != 0) = true := bne_iff_ne.mpr c114
          by_cases c120 : t235 = 1
          case neg =>
           rw [if_neg c120] at H
           exact absurd H (by simp)
          subst c120
          have H1 : (some (a0_0, a0_1, a0_2, a0_3, l0_4, (wrap64 (a0_5 + 1)), a0_6, wrap64 (a0_7 + 8), a0_8, a0_9, a0_10, a0_11, false, a0_13, 0)) = some (r1, r2, r3, r4, r5, r6, r7, r8, r9, r10, r11, r12, r13, r14, r15) := by rw [if_pos rfl] at H; exact H
          clear H
          have H := H1
          clear H1
          simp only [Option.some.injEq, Prod.mk.injEq] at H
          obtain ⟨rfl, rfl, rfl, rfl, rfl, rfl, rfl, rfl, rfl, rfl, rfl, rfl, rfl, rfl, rfl⟩ := H
          have hnb121 := NB227_228.out
          have hnc121 := NB228_227.out
          have hnb122 := NB227_234.out
          have hnc122 := NB234_227.out
          have hcz123 := cz14 BK227.out
          have hfz123 := blk_frozen BK227.out
          have hnb124 := NB228_234.out
          have hnc124 := NB234_228.out
          have hcz125 := cz14 BK228.out
          have hfz125 := blk_frozen BK228.out
          go_wp2
          refine bodyPost_ret (results_ct rfl _ _ gb228 54 #[.int .i64 a0_0, .int .i64 a0_1, .int .i64 a0_2, .int .i64 a0_3, .slice A0_4 l0_4.length c0_4, .int .i64 (wrap64 (a0_5 + 1)), .int .i64 a0_6, .int .i64 (wrap64 (a0_7 + 8)), .bool a0_8, .bool a0_9, .bool a0_10, .bool a0_11, .bool false, .int .i64 a0_13] (0, 0) _ rfl (by (with_reducible repeat (first | refine blk_drewN ?_ _ | refine blk_drew ?_ | refine blk_alloc ?_ _)); first | exact blk_all14 (blk_far (blk_drewN BK228.out nd) NB228_227.out _) _ _ _ _ _ _ _ _ _ _ _ _ _ _ | exact blk_all14 (blk_far BK228.out NB228_227.out _) _ _ _ _ _ _ _ _ _ _ _ _ _ _ | exact blk_all14 (blk_far (bU38 BK228.out) NB228_227.out _) _ _ _ _ _ _ _ _ _ _ _ _ _ _ | exact blk_all14 (blk_far (blk_up BK228.out) NB228_227.out _) _ _ _ _ _ _ _ _ _ _ _ _ _ _) Tryd.underlying54 rfl (by kernel_rfl)) rfl ?_
          exact ⟨_, by first | rfl | (simp [errW_none, errW_some] <;> rfl) | (simp [*, errW_none, errW_some] <;> rfl), by (with_reducible repeat (first | apply Kd.V_alloc | apply Kd.V_drewN | apply Kd.V_drew)); exact Kd.V_mono (Kd.V_far (p := ⟨gb228, 13, none⟩) (Kd.V_far (p := ⟨gb228, 12, none⟩) (Kd.V_far (p := ⟨gb228, 11, none⟩) (Kd.V_far (p := ⟨gb228, 10, none⟩) (Kd.V_far (p := ⟨gb228, 9, none⟩) (Kd.V_far (p := ⟨gb228, 8, none⟩) (Kd.V_far (p := ⟨gb228, 7, none⟩) (Kd.V_far (p := ⟨gb228, 6, none⟩) (Kd.V_far (p := ⟨gb228, 5, none⟩) (Kd.V_far (p := ⟨gb228, 4, none⟩) (Kd.V_far (p := ⟨gb228, 3, none⟩) (Kd.V_far (p := ⟨gb228, 2, none⟩) (Kd.V_far (p := ⟨gb228, 1, none⟩) (Kd.V_far (p := ⟨gb228, 0, none⟩) (Kd.V_far (p := ⟨gb227, 7, none⟩) (Kd.V_mono (Kd.V_mono ba0.out (fun k_ hk => (⟨hk, hk.2.1⟩ : _ ∧ k_ ≠ gb227))) (fun k_ hk => (⟨hk, hk.1.2.2.1⟩ : _ ∧ k_ ≠ gb228))) (fun _ hk => hk.1.2) (.int .i64 (wrap64 (a0_7 + 8)))) (fun _ hk => hk.2) (.int .i64 a0_0)) (fun _ hk => hk.2) (.int .i64 a0_1)) (fun _ hk => hk.2) (.int .i64 a0_2)) (fun _ hk => hk.2) (.int .i64 a0_3)) (fun _ hk => hk.2) (.slice A0_4 l0_4.length c0_4)) (fun _ hk => hk.2) (.int .i64 (wrap64 (a0_5 + 1)))) (fun _ hk => hk.2) (.int .i64 a0_6)) (fun _ hk => hk.2) (.int .i64 (wrap64 (a0_7 + 8)))) (fun _ hk => hk.2) (.bool a0_8)) (fun _ hk => hk.2) (.bool a0_9)) (fun _ hk => hk.2) (.bool a0_10)) (fun _ hk => hk.2) (.bool a0_11)) (fun _ hk => hk.2) (.bool false)) (fun _ hk => hk.2) (.int .i64 a0_13)) (fun _ hk => hk.1.1.1), by repeat (first | (with_reducible first | exact HB.out | apply below_alloc | apply pw_below_drewN | apply below_drew1 | refine below_set ?_ (Aside0.out (by assumption))) | exact HB.out)⟩
         rw [if_neg c113] at H
         have c113b0 : (a1 == 2) = false := beq_eq_false_iff_ne.mpr c113
         have c113b1 : (a1 != 2) = true := bne_iff_ne.mpr c113
         by_cases c126 : t235 = 0
         case pos =>
          subst c126
          have H1 : ((storagebarterref28_Cost.f t232).bind fun t252 => (some (a0_0, a0_1, a0_2, a0_3, l0_4, (wrap64 (a0_5 + 1)), wrap64 (a0_6 + t252), a0_7, a0_8, a0_9, a0_10, a0_11, false, a0_13, 0))) = some (r1, r2, r3, r4, r5, r6, r7, r8, r9, r10, r11, r12, r13, r14, r15) := by rw [if_pos rfl] at H; exact H
          clear H
          have H := H1
          clear H1
          replace H := Option.bind_eq_some_iff.mp H
          obtain ⟨t252, A1270, H⟩ := H
          replace H : (some (a0_0, a0_1, a0_2, a0_3, l0_4, (wrap64 (a0_5 + 1)), wrap64 (a0_6 + t252), a0_7, a0_8, a0_9, a0_10, a0_11, false, a0_13, 0)) = some (r1, r2, r3, r4, r5, r6, r7, r8, r9, r10, r11, r12, r13, r14, r15) := H
          have A127 := Aside0.mk A1270
          clear A1270
          simp only [Option.some.injEq, Prod.mk.injEq] at H
          obtain ⟨rfl, rfl, rfl, rfl, rfl, rfl, rfl, rfl, rfl, rfl, rfl, rfl, rfl, rfl, rfl⟩ := H
          try go_wp2
          have n0_ := Aside0.mk (Kd.V_drew ba0.out)
          have n1_ := Aside0.mk (blk_drew BK227.out)
          have n2_ := Aside0.mk (blk_drew BK228.out)
          have n3_ := Aside0.mk (blk_drew BK234.out)
          have n4_ := Aside0.mk (below_drew1 HB.out)
          clear ba0
          clear BK227
          clear BK228
          clear BK234
          clear HB
          have ba0 := n0_
          have BK227 := n1_
          have BK228 := n2_
          have BK234 := n3_
          have HB := n4_
          clear n0_ n1_ n2_ n3_ n4_
          refine start_ (n := 11) (S := fun w' => w'.cell? ⟨gb227, 0, none⟩ = some (.int .i64 a0_0) ∧ w'.cell? ⟨gb227, 1, none⟩ = some (.int .i64 a0_1) ∧ w'.cell? ⟨gb227, 2, none⟩ = some (.int .i64 a0_2) ∧ w'.cell? ⟨gb227, 3, none⟩ = some (.int .i64 a0_3) ∧ w'.cell? ⟨gb227, 4, none⟩ = some (.slice A0_4 l0_4.length c0_4) ∧ w'.cell? ⟨gb227, 5, none⟩ = some (.int .i64 (wrap64 (a0_5 + 1))) ∧ w'.cell? ⟨gb227, 6, none⟩ = some (.int .i64 a0_6) ∧ w'.cell? ⟨gb227, 7, none⟩ = some (.int .i64 a0_7) ∧ w'.cell? ⟨gb227, 8, none⟩ = some (.bool a0_8) ∧ w'.cell? ⟨gb227, 9, none⟩ = some (.bool a0_9) ∧ w'.cell? ⟨gb227, 10, none⟩ = some (.bool a0_10) ∧ w'.cell? ⟨gb227, 11, none⟩ = some (.bool a0_11) ∧ w'.cell? ⟨gb227, 12, none⟩ = some (.bool false) ∧ w'.cell? ⟨gb227, 13, none⟩ = some (.int .i64 a0_13) ∧ w'.cell? ⟨gb234, 0, none⟩ = some (.int .i64 t229) ∧ w'.cell? ⟨gb234, 1, none⟩ = some (.int .i64 t230) ∧ w'.cell? ⟨gb234, 2, none⟩ = some (.int .i64 t231) ∧ w'.cell? ⟨gb234, 3, none⟩ = some (.int .i64 t232)) (ds := [10]) #[false, false, false, false, false, false, false, false, false, false, false] (by kernel_rfl) rfl rfl ⟨(blk_cell BK227.out 0).trans rfl, (blk_cell BK227.out 1).trans rfl, (blk_cell BK227.out 2).trans rfl, (blk_cell BK227.out 3).trans rfl, (blk_cell BK227.out 4).trans rfl, (blk_cell BK227.out 5).trans rfl, (blk_cell BK227.out 6).trans rfl, (blk_cell BK227.out 7).trans rfl, (blk_cell BK227.out 8).trans rfl, (blk_cell BK227.out 9).trans rfl, (blk_cell BK227.out 10).trans rfl, (blk_cell BK227.out 11).trans rfl, (blk_cell BK227.out 12).trans rfl, (blk_cell BK227.out 13).trans rfl, (blk_cell BK234.out 0).trans rfl, (blk_cell BK234.out 1).trans rfl, (blk_cell BK234.out 2).trans rfl, (blk_cell BK234.out 3).trans rfl⟩ (fun hHeld => ?_); refine with_tabW storagebarterref29_Step.tab23 storagebarterref29_Step.bits23 (fun HT_ HW_ => ?_)
          generalize wc.drew = w128 at ba0 BK227 BK228 BK234 HB hHeld ⊢
          refine pure_ (i := 0) (N := some 101) (v := ?_) (a' := ?_) #[true, false, false, false, false, false, false, false, false, false, false] rfl rfl (any_of HT_.out (by kernel_rfl)) (fun _ _ _ h => h) (Or.inl ⟨by rfl, ?_⟩) ?_ ?_
          rotate_left
          ·intro w'
           go_simp
           with_reducible rfl
          rotate_left
          ·simp only [Act.put, List.setIfInBounds_toArray, List.set_cons_zero, List.set_cons_succ, i64_w, i32_w]
           rfl
          refine pure_ (i := 1) (N := some 102) (v := ?_) (a' := ?_) #[true, true, false, false, false, false, false, false, false, false, false] rfl rfl (any_of HT_.out (by kernel_rfl)) (fun _ _ _ h => h) (Or.inl ⟨by rfl, ?_⟩) ?_ ?_
          rotate_left
          ·intro w'
           go_simp
           with_reducible rfl
          rotate_left
          ·simp only [Act.put, List.setIfInBounds_toArray, List.set_cons_zero, List.set_cons_succ, i64_w, i32_w]
           rfl
          refine pure_ (i := 2) (N := some 103) (v := ?_) (a' := ?_) #[true, true, true, false, false, false, false, false, false, false, false] rfl rfl (any_of HT_.out (by kernel_rfl)) (fun _ _ _ h => h) (Or.inl ⟨by rfl, ?_⟩) ?_ ?_
          rotate_left
          ·intro w'
           go_simp
           with_reducible rfl
          rotate_left
          ·simp only [Act.put, List.setIfInBounds_toArray, List.set_cons_zero, List.set_cons_succ, i64_w, i32_w]
           rfl
          refine pure_ (i := 4) (N := some 105) (v := ?_) (a' := ?_) #[true, true, true, false, true, false, false, false, false, false, false] rfl rfl (any_of HT_.out (by kernel_rfl)) (fun _ _ _ h => h) (Or.inl ⟨by rfl, ?_⟩) ?_ ?_
          rotate_left
          ·intro w'
           go_simp
           with_reducible rfl
          rotate_left
          ·simp only [Act.put, List.setIfInBounds_toArray, List.set_cons_zero, List.set_cons_succ, i64_w, i32_w]
           rfl
          refine pure_ (i := 8) (N := some 109) (v := ?_) (a' := ?_) #[true, true, true, false, true, false, false, false, true, false, false] rfl rfl (any_of HT_.out (by kernel_rfl)) (fun _ _ _ h => h) (Or.inl ⟨by rfl, ?_⟩) ?_ ?_
          rotate_left
          ·intro w'
           go_simp
           with_reducible rfl
          rotate_left
          ·simp only [Act.put, List.setIfInBounds_toArray, List.set_cons_zero, List.set_cons_succ, i64_w, i32_w]
           rfl
          refine take_ (i := 3) (N := some 104) (v := ?_) (a' := ?_) #[true, true, true, true, true, false, false, false, true, false, false] rfl rfl (take_ofW HT_.out HW_.out (by kernel_rfl)) (fun _ _ _ h => h) (Or.inl ⟨by rfl, ?_⟩) hHeld ?_ ?_
          rotate_left
          ·rintro w' ⟨s0, s1, s2, s3, s4, s5, s6, s7, s8, s9, s10, s11, s12, s13, s14, s15, s16, s17⟩
           go_simp
           with_reducible rfl
          rotate_left
          ·simp only [Act.put, List.setIfInBounds_toArray, List.set_cons_zero, List.set_cons_succ, i64_w, i32_w]
           rfl
          refine take_ (i := 5) (N := some 106) (v := ?_) (a' := ?_) #[true, true, true, true, true, true, false, false, true, false, false] rfl rfl (take_ofW HT_.out HW_.out (by kernel_rfl)) (fun _ _ _ h => h) (Or.inl ⟨by rfl, ?_⟩) hHeld ?_ ?_
          rotate_left
          ·rintro w' ⟨s0, s1, s2, s3, s4, s5, s6, s7, s8, s9, s10, s11, s12, s13, s14, s15, s16, s17⟩
           go_simp
           with_reducible rfl
          rotate_left
          ·simp only [Act.put, List.setIfInBounds_toArray, List.set_cons_zero, List.set_cons_succ, i64_w, i32_w]
           rfl
          refine one_ (i := 6) (N := some 107) #[true, true, true, true, true, true, true, false, true, false, false] rfl rfl (one_of HT_.out (by kernel_rfl)) (by decide) (fun K hK => ?_)
          refine goes_ Tryd.func28 (by kernel_rfl) rfl #[.int .i64 t232] (by rfl) rfl rfl (by (try simp only [List.map_toArray, List.map_cons, List.map_nil]); first | done | rfl | (simp only [List.length_drop, List.length_take]; rfl)) ?_
          with_reducible refine (storagebarterref28_Cost.calls t232 t252 _ A127.out).mono ?_
          rintro e w' ⟨rfl, ⟨nd, rfl⟩⟩
          refine ⟨_, rfl, ?_⟩
          refine hK.out _ _ ⟨(blk_cell BK227.out 0).trans rfl, (blk_cell BK227.out 1).trans rfl, (blk_cell BK227.out 2).trans rfl, (blk_cell BK227.out 3).trans rfl, (blk_cell BK227.out 4).trans rfl, (blk_cell BK227.out 5).trans rfl, (blk_cell BK227.out 6).trans rfl, (blk_cell BK227.out 7).trans rfl, (blk_cell BK227.out 8).trans rfl, (blk_cell BK227.out 9).trans rfl, (blk_cell BK227.out 10).trans rfl, (blk_cell BK227.out 11).trans rfl, (blk_cell BK227.out 12).trans rfl, (blk_cell BK227.out 13).trans rfl, (blk_cell BK234.out 0).trans rfl, (blk_cell BK234.out 1).trans rfl, (blk_cell BK234.out 2).trans rfl, (blk_cell BK234.out 3).trans rfl⟩ (fun hHeld => ?_)
          clear hK K
          refine norm_ (a' := ?_) ?_ ?_
          rotate_left
          ·show Act.put _ (some 107) _ = _
           simp only [Act.put, List.setIfInBounds_toArray, List.set_cons_zero, List.set_cons_succ, i64_w, i32_w]
           rfl
          refine pure_ (i := 7) (N := some 108) (v := ?_) (a' := ?_) #[true, true, true, true, true, true, true, true, true, false, false] rfl rfl (any_of HT_.out (by kernel_rfl)) (fun _ _ _ h => h) (Or.inl ⟨by rfl, ?_⟩) ?_ ?_
          rotate_left
          ·intro w'
           go_simp
           with_reducible rfl
          rotate_left
          ·simp only [Act.put, List.setIfInBounds_toArray, List.set_cons_zero, List.set_cons_succ, i64_w, i32_w]
           rfl
          refine pure_ (i := 9) (N := some 110) (v := ?_) (a' := ?_) #[true, true, true, true, true, true, true, true, true, true, false] rfl rfl (any_of HT_.out (by kernel_rfl)) (fun _ _ _ h => h) (Or.inl ⟨by rfl, ?_⟩) ?_ ?_
          rotate_left
          ·intro w'
           go_simp
           with_reducible rfl
          rotate_left
          ·simp only [Act.put, List.setIfInBounds_toArray, List.set_cons_zero, List.set_cons_succ, i64_w, i32_w]
           rfl
          refine last_ (i := 10) (N := none) #[true, true, true, true, true, true, true, true, true, true, true] rfl rfl (one_of HT_.out (by kernel_rfl)) (by decide) (fun K hK => ?_)
          have hs129 : w128.cell? ⟨gb227, 6, none⟩ = some (.int .i64 a0_6) := (blk_cell BK227.out 6).trans rfl
          have hfs129 := blk_frozen BK227.out 6
          have hns129_1 := NB228_227.out
          have hns129_2 := NB234_227.out
          have hms129_1 := NB227_228.out
          have hms129_2 := NB227_234.out
          refine skip_ (w1 := ?_) (by rfl) rfl ?_ ?_
          rotate_left
          ·go_simp
           rfl
          refine hK.out _ _ ?_
          clear hK K
          refine done_ (done_of HT_.out (by kernel_rfl)) ?_
          have hnb130 := NB227_228.out
          have hnc130 := NB228_227.out
          have hnb131 := NB227_234.out
          have hnc131 := NB234_227.out
          have hcz132 := cz14 BK227.out
          have hfz132 := blk_frozen BK227.out
          have hnb133 := NB228_234.out
          have hnc133 := NB234_228.out
          have hcz134 := cz14 BK228.out
          have hfz134 := blk_frozen BK228.out
          try go_wp2
          refine bodyPost_ret (results_ct rfl _ _ gb228 54 #[.int .i64 a0_0, .int .i64 a0_1, .int .i64 a0_2, .int .i64 a0_3, .slice A0_4 l0_4.length c0_4, .int .i64 (wrap64 (a0_5 + 1)), .int .i64 (wrap64 (a0_6 + t252)), .int .i64 a0_7, .bool a0_8, .bool a0_9, .bool a0_10, .bool a0_11, .bool false, .int .i64 a0_13] (0, 0) _ rfl (by (with_reducible repeat (first | refine blk_drewN ?_ _ | refine blk_drew ?_ | refine blk_alloc ?_ _)); first | exact blk_all14 (blk_far (blk_drewN BK228.out nd) NB228_227.out _) _ _ _ _ _ _ _ _ _ _ _ _ _ _ | exact blk_all14 (blk_far BK228.out NB228_227.out _) _ _ _ _ _ _ _ _ _ _ _ _ _ _ | exact blk_all14 (blk_far (bU38 BK228.out) NB228_227.out _) _ _ _ _ _ _ _ _ _ _ _ _ _ _ | exact blk_all14 (blk_far (blk_up BK228.out) NB228_227.out _) _ _ _ _ _ _ _ _ _ _ _ _ _ _) Tryd.underlying54 rfl (by kernel_rfl)) rfl ?_
          exact ⟨_, by first | rfl | (simp [errW_none, errW_some] <;> rfl) | (simp [*, errW_none, errW_some] <;> rfl), by (with_reducible repeat (first | apply Kd.V_alloc | apply Kd.V_drewN | apply Kd.V_drew)); exact Kd.V_mono (Kd.V_far (p := ⟨gb228, 13, none⟩) (Kd.V_far (p := ⟨gb228, 12, none⟩) (Kd.V_far (p := ⟨gb228, 11, none⟩) (Kd.V_far (p := ⟨gb228, 10, none⟩) (Kd.V_far (p := ⟨gb228, 9, none⟩) (Kd.V_far (p := ⟨gb228, 8, none⟩) (Kd.V_far (p := ⟨gb228, 7, none⟩) (Kd.V_far (p := ⟨gb228, 6, none⟩) (Kd.V_far (p := ⟨gb228, 5, none⟩) (Kd.V_far (p := ⟨gb228, 4, none⟩) (Kd.V_far (p := ⟨gb228, 3, none⟩) (Kd.V_far (p := ⟨gb228, 2, none⟩) (Kd.V_far (p := ⟨gb228, 1, none⟩) (Kd.V_far (p := ⟨gb228, 0, none⟩) (Kd.V_far (p := ⟨gb227, 6, none⟩) (Kd.V_mono (Kd.V_mono ba0.out (fun k_ hk => (⟨hk, hk.2.1⟩ : _ ∧ k_ ≠ gb227))) (fun k_ hk => (⟨hk, hk.1.2.2.1⟩ : _ ∧ k_ ≠ gb228))) (fun _ hk => hk.1.2) (.int .i64 (wrap64 (a0_6 + t252)))) (fun _ hk => hk.2) (.int .i64 a0_0)) (fun _ hk => hk.2) (.int .i64 a0_1)) (fun _ hk => hk.2) (.int .i64 a0_2)) (fun _ hk => hk.2) (.int .i64 a0_3)) (fun _ hk => hk.2) (.slice A0_4 l0_4.length c0_4)) (fun _ hk => hk.2) (.int .i64 (wrap64 (a0_5 + 1)))) (fun _ hk => hk.2) (.int .i64 (wrap64 (a0_6 + t252)))) (fun _ hk => hk.2) (.int .i64 a0_7)) (fun _ hk => hk.2) (.bool a0_8)) (fun _ hk => hk.2) (.bool a0_9)) (fun _ hk => hk.2) (.bool a0_10)) (fun _ hk => hk.2) (.bool a0_11)) (fun _ hk => hk.2) (.bool false)) (fun _ hk => hk.2) (.int .i64 a0_13)) (fun _ hk => hk.1.1.1), by repeat (first | (with_reducible first | exact HB.out | apply below_alloc | apply pw_below_drewN | apply below_drew1 | refine below_set ?_ (Aside0.out (by assumption))) | exact HB.out)⟩
         rw [if_neg c126] at H
         have c126b0 : (t235 == 0) = false := beq_eq_false_iff_ne.mpr c126
         have c126b1 : (t235 != 0) = true := bne_iff_ne.mpr c126
         by_cases c135 : t235 = 1
         case neg =>
          rw [if_neg c135] at H
          exact absurd H (by simp)
         subst c135
         have H1 : ((storagebarterref28_Cost.f t232).bind fun t253 => (some (a0_0, a0_1, a0_2, a0_3, l0_4, (wrap64 (a0_5 + 1)), a0_6, wrap64 (a0_7 + t253), a0_8, a0_9, a0_10, a0_11, false, a0_13, 0))) = some (r1, r2, r3, r4, r5, r6, r7, r8, r9, r10, r11, r12, r13, r14, r15) := by rw [if_pos rfl] at H; exact H
         clear H
         have H := H1
         clear H1
         replace H := Option.bind_eq_some_iff.mp H
         obtain ⟨t253, A1360, H⟩ := H
         replace H : (some (a0_0, a0_1, a0_2, a0_3, l0_4, (wrap64 (a0_5 + 1)), a0_6, wrap64 (a0_7 + t253), a0_8, a0_9, a0_10, a0_11, false, a0_13, 0)) = some (r1, r2, r3, r4, r5, r6, r7, r8, r9, r10, r11, r12, r13, r14, r15) := H
         have A136 := Aside0.mk A1360
         clear A1360
         simp only [Option.some.injEq, Prod.mk.injEq] at H
         obtain ⟨rfl, rfl, rfl, rfl, rfl, rfl, rfl, rfl, rfl, rfl, rfl, rfl, rfl, rfl, rfl⟩ := H
         try go_wp2
         have n0_ := Aside0.mk (Kd.V_drew ba0.out)
         have n1_ := Aside0.mk (blk_drew BK227.out)
         have n2_ := Aside0.mk (blk_drew BK228.out)
         have n3_ := Aside0.mk (blk_drew BK234.out)
         have n4_ := Aside0.mk (below_drew1 HB.out)
         clear ba0
         clear BK227
         clear BK228
         clear BK234
         clear HB
         have ba0 := n0_
         have BK227 := n1_
         have BK228 := n2_
         have BK234 := n3_
         have HB := n4_
         clear n0_ n1_ n2_ n3_ n4_
         refine start_ (n := 11) (S := fun w' => w'.cell? ⟨gb227, 0, none⟩ = some (.int .i64 a0_0) ∧ w'.cell? ⟨gb227, 1, none⟩ = some (.int .i64 a0_1) ∧ w'.cell? ⟨gb227, 2, none⟩ = some (.int .i64 a0_2) ∧ w'.cell? ⟨gb227, 3, none⟩ = some (.int .i64 a0_3) ∧ w'.cell? ⟨gb227, 4, none⟩ = some (.slice A0_4 l0_4.length c0_4) ∧ w'.cell? ⟨gb227, 5, none⟩ = some (.int .i64 (wrap64 (a0_5 + 1))) ∧ w'.cell? ⟨gb227, 6, none⟩ = some (.int .i64 a0_6) ∧ w'.cell? ⟨gb227, 7, none⟩ = some (.int .i64 a0_7) ∧ w'.cell? ⟨gb227, 8, none⟩ = some (.bool a0_8) ∧ w'.cell? ⟨gb227, 9, none⟩ = some (.bool a0_9) ∧ w'.cell? ⟨gb227, 10, none⟩ = some (.bool a0_10) ∧ w'.cell? ⟨gb227, 11, none⟩ = some (.bool a0_11) ∧ w'.cell? ⟨gb227, 12, none⟩ = some (.bool false) ∧ w'.cell? ⟨gb227, 13, none⟩ = some (.int .i64 a0_13) ∧ w'.cell? ⟨gb234, 0, none⟩ = some (.int .i64 t229) ∧ w'.cell? ⟨gb234, 1, none⟩ = some (.int .i64 t230) ∧ w'.cell? ⟨gb234, 2, none⟩ = some (.int .i64 t231) ∧ w'.cell? ⟨gb234, 3, none⟩ = some (.int .i64 t232)) (ds := [10]) #[false, false, false, false, false, false, false, false, false, false, false] (by kernel_rfl) rfl rfl ⟨(blk_cell BK227.out 0).trans rfl, (blk_cell BK227.out 1).trans rfl, (blk_cell BK227.out 2).trans rfl, (blk_cell BK227.out 3).trans rfl, (blk_cell BK227.out 4).trans rfl, (blk_cell BK227.out 5).trans rfl, (blk_cell BK227.out 6).trans rfl, (blk_cell BK227.out 7).trans rfl, (blk_cell BK227.out 8).trans rfl, (blk_cell BK227.out 9).trans rfl, (blk_cell BK227.out 10).trans rfl, (blk_cell BK227.out 11).trans rfl, (blk_cell BK227.out 12).trans rfl, (blk_cell BK227.out 13).trans rfl, (blk_cell BK234.out 0).trans rfl, (blk_cell BK234.out 1).trans rfl, (blk_cell BK234.out 2).trans rfl, (blk_cell BK234.out 3).trans rfl⟩ (fun hHeld => ?_); refine with_tabW storagebarterref29_Step.tab23 storagebarterref29_Step.bits23 (fun HT_ HW_ => ?_)
         generalize wc.drew = w137 at ba0 BK227 BK228 BK234 HB hHeld ⊢
         refine pure_ (i := 0) (N := some 101) (v := ?_) (a' := ?_) #[true, false, false, false, false, false, false, false, false, false, false] rfl rfl (any_of HT_.out (by kernel_rfl)) (fun _ _ _ h => h) (Or.inl ⟨by rfl, ?_⟩) ?_ ?_
         rotate_left
         ·intro w'
          go_simp
          with_reducible rfl
         rotate_left
         ·simp only [Act.put, List.setIfInBounds_toArray, List.set_cons_zero, List.set_cons_succ, i64_w, i32_w]
          rfl
         refine pure_ (i := 1) (N := some 102) (v := ?_) (a' := ?_) #[true, true, false, false, false, false, false, false, false, false, false] rfl rfl (any_of HT_.out (by kernel_rfl)) (fun _ _ _ h => h) (Or.inl ⟨by rfl, ?_⟩) ?_ ?_
         rotate_left
         ·intro w'
          go_simp
          with_reducible rfl
         rotate_left
         ·simp only [Act.put, List.setIfInBounds_toArray, List.set_cons_zero, List.set_cons_succ, i64_w, i32_w]
          rfl
         refine pure_ (i := 2) (N := some 103) (v := ?_) (a' := ?_) #[true, true, true, false, false, false, false, false, false, false, false] rfl rfl (any_of HT_.out (by kernel_rfl)) (fun _ _ _ h => h) (Or.inl ⟨by rfl, ?_⟩) ?_ ?_
         rotate_left
         ·intro w'
          go_simp
          with_reducible rfl
         rotate_left
         ·simp only [Act.put, List.setIfInBounds_toArray, List.set_cons_zero, List.set_cons_succ, i64_w, i32_w]
          rfl
         refine pure_ (i := 4) (N := some 105) (v := ?_) (a' := ?_) #[true, true, true, false, true, false, false, false, false, false, false] rfl rfl (any_of HT_.out (by kernel_rfl)) (fun _ _ _ h => h) (Or.inl ⟨by rfl, ?_⟩) ?_ ?_
         rotate_left
         ·intro w'
          go_simp
          with_reducible rfl
         rotate_left
         ·simp only [Act.put, List.setIfInBounds_toArray, List.set_cons_zero, List.set_cons_succ, i64_w, i32_w]
          rfl
         refine pure_ (i := 8) (N := some 109) (v := ?_) (a' := ?_) #[true, true, true, false, true, false, false, false, true, false, false] rfl rfl (any_of HT_.out (by kernel_rfl)) (fun _ _ _ h => h) (Or.inl ⟨by rfl, ?_⟩) ?_ ?_
         rotate_left
         ·intro w'
          go_simp
          with_reducible rfl
         rotate_left
         ·simp only [Act.put, List.setIfInBounds_toArray, List.set_cons_zero, List.set_cons_succ, i64_w, i32_w]
          rfl
         refine take_ (i := 3) (N := some 104) (v := ?_) (a' := ?_) #[true, true, true, true, true, false, false, false, true, false, false] rfl rfl (take_ofW HT_.out HW_.out (by kernel_rfl)) (fun _ _ _ h => h) (Or.inl ⟨by rfl, ?_⟩) hHeld ?_ ?_
         rotate_left
         ·rintro w' ⟨s0, s1, s2, s3, s4, s5, s6, s7, s8, s9, s10, s11, s12, s13, s14, s15, s16, s17⟩
          go_simp
          with_reducible rfl
         rotate_left
         ·simp only [Act.put, List.setIfInBounds_toArray, List.set_cons_zero, List.set_cons_succ, i64_w, i32_w]
          rfl
         refine take_ (i := 5) (N := some 106) (v := ?_) (a' := ?_) #[true, true, true, true, true, true, false, false, true, false, false] rfl rfl (take_ofW HT_.out HW_.out (by kernel_rfl)) (fun _ _ _ h => h) (Or.inl ⟨by rfl, ?_⟩) hHeld ?_ ?_
         rotate_left
         ·rintro w' ⟨s0, s1, s2, s3, s4, s5, s6, s7, s8, s9, s10, s11, s12, s13, s14, s15, s16, s17⟩
          go_simp
          with_reducible rfl
         rotate_left
         ·simp only [Act.put, List.setIfInBounds_toArray, List.set_cons_zero, List.set_cons_succ, i64_w, i32_w]
          rfl
         refine one_ (i := 6) (N := some 107) #[true, true, true, true, true, true, true, false, true, false, false] rfl rfl (one_of HT_.out (by kernel_rfl)) (by decide) (fun K hK => ?_)
         refine goes_ Tryd.func28 (by kernel_rfl) rfl #[.int .i64 t232] (by rfl) rfl rfl (by (try simp only [List.map_toArray, List.map_cons, List.map_nil]); first | done | rfl | (simp only [List.length_drop, List.length_take]; rfl)) ?_
         with_reducible refine (storagebarterref28_Cost.calls t232 t253 _ A136.out).mono ?_
         rintro e w' ⟨rfl, ⟨nd, rfl⟩⟩
         refine ⟨_, rfl, ?_⟩
         refine hK.out _ _ ⟨(blk_cell BK227.out 0).trans rfl, (blk_cell BK227.out 1).trans rfl, (blk_cell BK227.out 2).trans rfl, (blk_cell BK227.out 3).trans rfl, (blk_cell BK227.out 4).trans rfl, (blk_cell BK227.out 5).trans rfl, (blk_cell BK227.out 6).trans rfl, (blk_cell BK227.out 7).trans rfl, (blk_cell BK227.out 8).trans rfl, (blk_cell BK227.out 9).trans rfl, (blk_cell BK227.out 10).trans rfl, (blk_cell BK227.out 11).trans rfl, (blk_cell BK227.out 12).trans rfl, (blk_cell BK227.out 13).trans rfl, (blk_cell BK234.out 0).trans rfl, (blk_cell BK234.out 1).trans rfl, (blk_cell BK234.out 2).trans rfl, (blk_cell BK234.out 3).trans rfl⟩ (fun hHeld => ?_)
         clear hK K
         refine norm_ (a' := ?_) ?_ ?_
         rotate_left
         ·show Act.put _ (some 107) _ = _
          simp only [Act.put, List.setIfInBounds_toArray, List.set_cons_zero, List.set_cons_succ, i64_w, i32_w]
          rfl
         refine pure_ (i := 7) (N := some 108) (v := ?_) (a' := ?_) #[true, true, true, true, true, true, true, true, true, false, false] rfl rfl (any_of HT_.out (by kernel_rfl)) (fun _ _ _ h => h) (Or.inl ⟨by rfl, ?_⟩) ?_ ?_
         rotate_left
         ·intro w'
          go_simp
          with_reducible rfl
         rotate_left
         ·simp only [Act.put, List.setIfInBounds_toArray, List.set_cons_zero, List.set_cons_succ, i64_w, i32_w]
          rfl
         refine pure_ (i := 9) (N := some 110) (v := ?_) (a' := ?_) #[true, true, true, true, true, true, true, true, true, true, false] rfl rfl (any_of HT_.out (by kernel_rfl)) (fun _ _ _ h => h) (Or.inl ⟨by rfl, ?_⟩) ?_ ?_
         rotate_left
         ·intro w'
          go_simp
          with_reducible rfl
         rotate_left
         ·simp only [Act.put, List.setIfInBounds_toArray, List.set_cons_zero, List.set_cons_succ, i64_w, i32_w]
          rfl
         refine last_ (i := 10) (N := none) #[true, true, true, true, true, true, true, true, true, true, true] rfl rfl (one_of HT_.out (by kernel_rfl)) (by decide) (fun K hK => ?_)
         have hs138 : w137.cell? ⟨gb227, 7, none⟩ = some (.int .i64 a0_7) := (blk_cell BK227.out 7).trans rfl
         have hfs138 := blk_frozen BK227.out 7
         have hns138_1 := NB228_227.out
         have hns138_2 := NB234_227.out
         have hms138_1 := NB227_228.out
         have hms138_2 := NB227_234.out
         refine skip_ (w1 := ?_) (by rfl) rfl ?_ ?_
         rotate_left
         ·go_simp
          rfl
         refine hK.out _ _ ?_
         clear hK K
         refine done_ (done_of HT_.out (by kernel_rfl)) ?_
         have hnb139 := NB227_228.out
         have hnc139 := NB228_227.out
         have hnb140 := NB227_234.out
         have hnc140 := NB234_227.out
         have hcz141 := cz14 BK227.out
         have hfz141 := blk_frozen BK227.out
         have hnb142 := NB228_234.out
         have hnc142 := NB234_228.out
         have hcz143 := cz14 BK228.out
         have hfz143 := blk_frozen BK228.out
         try go_wp2
         refine bodyPost_ret (results_ct rfl _ _ gb228 54 #[.int .i64 a0_0, .int .i64 a0_1, .int .i64 a0_2, .int .i64 a0_3, .slice A0_4 l0_4.length c0_4, .int .i64 (wrap64 (a0_5 + 1)), .int .i64 a0_6, .int .i64 (wrap64 (a0_7 + t253)), .bool a0_8, .bool a0_9, .bool a0_10, .bool a0_11, .bool false, .int .i64 a0_13] (0, 0) _ rfl (by (with_reducible repeat (first | refine blk_drewN ?_ _ | refine blk_drew ?_ | refine blk_alloc ?_ _)); first | exact blk_all14 (blk_far (blk_drewN BK228.out nd) NB228_227.out _) _ _ _ _ _ _ _ _ _ _ _ _ _ _ | exact blk_all14 (blk_far BK228.out NB228_227.out _) _ _ _ _ _ _ _ _ _ _ _ _ _ _ | exact blk_all14 (blk_far (bU38 BK228.out) NB228_227.out _) _ _ _ _ _ _ _ _ _ _ _ _ _ _ | exact blk_all14 (blk_far (blk_up BK228.out) NB228_227.out _) _ _ _ _ _ _ _ _ _ _ _ _ _ _) Tryd.underlying54 rfl (by kernel_rfl)) rfl ?_
         exact ⟨_, by first | rfl | (simp [errW_none, errW_some] <;> rfl) | (simp [*, errW_none, errW_some] <;> rfl), by (with_reducible repeat (first | apply Kd.V_alloc | apply Kd.V_drewN | apply Kd.V_drew)); exact Kd.V_mono (Kd.V_far (p := ⟨gb228, 13, none⟩) (Kd.V_far (p := ⟨gb228, 12, none⟩) (Kd.V_far (p := ⟨gb228, 11, none⟩) (Kd.V_far (p := ⟨gb228, 10, none⟩) (Kd.V_far (p := ⟨gb228, 9, none⟩) (Kd.V_far (p := ⟨gb228, 8, none⟩) (Kd.V_far (p := ⟨gb228, 7, none⟩) (Kd.V_far (p := ⟨gb228, 6, none⟩) (Kd.V_far (p := ⟨gb228, 5, none⟩) (Kd.V_far (p := ⟨gb228, 4, none⟩) (Kd.V_far (p := ⟨gb228, 3, none⟩) (Kd.V_far (p := ⟨gb228, 2, none⟩) (Kd.V_far (p := ⟨gb228, 1, none⟩) (Kd.V_far (p := ⟨gb228, 0, none⟩) (Kd.V_far (p := ⟨gb227, 7, none⟩) (Kd.V_mono (Kd.V_mono ba0.out (fun k_ hk => (⟨hk, hk.2.1⟩ : _ ∧ k_ ≠ gb227))) (fun k_ hk => (⟨hk, hk.1.2.2.1⟩ : _ ∧ k_ ≠ gb228))) (fun _ hk => hk.1.2) (.int .i64 (wrap64 (a0_7 + t253)))) (fun _ hk => hk.2) (.int .i64 a0_0)) (fun _ hk => hk.2) (.int .i64 a0_1)) (fun _ hk => hk.2) (.int .i64 a0_2)) (fun _ hk => hk.2) (.int .i64 a0_3)) (fun _ hk => hk.2) (.slice A0_4 l0_4.length c0_4)) (fun _ hk => hk.2) (.int .i64 (wrap64 (a0_5 + 1)))) (fun _ hk => hk.2) (.int .i64 a0_6)) (fun _ hk => hk.2) (.int .i64 (wrap64 (a0_7 + t253)))) (fun _ hk => hk.2) (.bool a0_8)) (fun _ hk => hk.2) (.bool a0_9)) (fun _ hk => hk.2) (.bool a0_10)) (fun _ hk => hk.2) (.bool a0_11)) (fun _ hk => hk.2) (.bool false)) (fun _ hk => hk.2) (.int .i64 a0_13)) (fun _ hk => hk.1.1.1), by repeat (first | (with_reducible first | exact HB.out | apply below_alloc | apply pw_below_drewN | apply below_drew1 | refine below_set ?_ (Aside0.out (by assumption))) | exact HB.out)⟩
set_option maxHeartbeats 60000000 in
set_option maxRecDepth 100000 in
theorem storagebarterref29_Step.calls (k : Nat) (a0_0 : Int) (a0_1 : Int) (a0_2 : Int) (a0_3 : Int) (P0_4_ : Nat → Prop) (A0_4 : Option Addr) (c0_4 : Nat) (l0_4 : List Int) (a0_5 : Int) (a0_6 : Int) (a0_7 : Int) (a0_8 : Bool) (a0_9 : Bool) (a0_10 : Bool) (a0_11 : Bool) (a0_12 : Bool) (a0_13 : Int) (a1 : Int) (r1 : Int) (r2 : Int) (r3 : Int) (r4 : Int) (r5 : List Int) (r6 : Int) (r7 : Int) (r8 : Int) (r9 : Bool) (r10 : Bool) (r11 : Bool) (r12 : Bool) (r13 : Bool) (r14 : Int) (r15 : Int) (w : World) (hs0_4 : Kd.V (Kd.int .i64) 3 w w.heap.size (fun k_ => P0_4_ k_) (.slice A0_4 l0_4.length c0_4) l0_4) (h : storagebarterref29_Step.f k a0_0 a0_1 a0_2 a0_3 l0_4 a0_5 a0_6 a0_7 a0_8 a0_9 a0_10 a0_11 a0_12 a0_13 a1 = some (r1, r2, r3, r4, r5, r6, r7, r8, r9, r10, r11, r12, r13, r14, r15)) :
  Calls Tryd.prog 38 #[.agg #[.int .i64 a0_0, .int .i64 a0_1, .int .i64 a0_2, .int .i64 a0_3, .slice A0_4 l0_4.length c0_4, .int .i64 a0_5, .int .i64 a0_6, .int .i64 a0_7, .bool a0_8, .bool a0_9, .bool a0_10, .bool a0_11, .bool a0_12, .int .i64 a0_13], .int .i64 a1] w fun e w' => ∃ v4_ : Value, e = .returned (.tuple #[.agg #[.int .i64 r1, .int .i64 r2, .int .i64 r3, .int .i64 r4, v4_, .int .i64 r6, .int .i64 r7, .int .i64 r8, .bool r9, .bool r10, .bool r11, .bool r12, .bool r13, .int .i64 r14], .int .i64 r15]) ∧ Kd.V (Kd.int .i64) 3 w' w.heap.size (fun k_ => (P0_4_ k_ ∨ w.heap.size ≤ k_)) v4_ r5 ∧ Below w.heap.size w w' := by
 by_cases hE : ∀ x, storagebarterref29_Next.f k a0_0 a0_1 a0_2 a0_3 l0_4 a0_5 a0_6 a0_7 a0_8 a0_9 a0_10 a0_11 a0_12 a0_13 = some x → (x.2.2.2.1 = 5 ∨ x.2.2.2.2 = false ∨ a0_12 = true)
 · exact storagebarterref29_Step.calls5 k a0_0 a0_1 a0_2 a0_3 P0_4_ A0_4 c0_4 l0_4 a0_5 a0_6 a0_7 a0_8 a0_9 a0_10 a0_11 a0_12 a0_13 a1 r1 r2 r3 r4 r5 r6 r7 r8 r9 r10 r11 r12 r13 r14 r15 w hs0_4 hE h
 · refine storagebarterref29_Step.calls0 k a0_0 a0_1 a0_2 a0_3 P0_4_ A0_4 c0_4 l0_4 a0_5 a0_6 a0_7 a0_8 a0_9 a0_10 a0_11 a0_12 a0_13 a1 r1 r2 r3 r4 r5 r6 r7 r8 r9 r10 r11 r12 r13 r14 r15 w hs0_4 (fun x hx => ?_) h
   have hn : ¬ (x.2.2.2.1 = 5 ∨ x.2.2.2.2 = false ∨ a0_12 = true) := fun hp => hE (fun y hy => by obtain rfl := Option.some.inj (hx.symm.trans hy); exact hp)
   refine ⟨fun e => hn (.inl e), ?_, ?_⟩
   · cases hb : x.2.2.2.2
     · exact absurd (.inr (.inl hb)) hn
     · rfl
   · cases hb : a0_12
     · rfl
     · exact absurd (.inr (.inr hb)) hn
end Go.Proofs.YtgckkjgemkabnaaDoor.PSlotWalks
