-- Written by a program of this repository (wip/tools/myprint.py over the print of the kit): contracts and rows.
import Derived.Test.YtdflpnfceajomaaDoorPDeviationStepsx0
import Derived.Test.YtdflpnfceajomaaDoorPDeviationStepsx2
import Derived.Test.YtdflpnfceajomaaDoorPDeviationStepsx3
import Derived.Test.YtdflpnfceajomaaDoorPDeviationStepsx6
import Derived.Test.YtdflpnfceajomaaDoorPDeviationStepsx7
import Derived.Test.YtdflpnfceajomaaDoorPDeviationStepsx8
import Derived.Test.YtdflpnfceajomaaDoorPDeviationStepsx9
import Derived.Test.YtdflpnfceajomaaDoorPDeviationStepsx10
namespace Go.Proofs.YtdflpnfceajomaaDoor.PDeviationSteps
open Go.RowKit Go.Proofs.YtdflpnfceajomaaDoorW.PrintWords Go.Proofs.YtdflpnfceajomaaDoorW.PrintLast Go.Proofs.YtdflpnfceajomaaDoorW.PrintMore
attribute [local go_sem] max2_int min2_int max_two min_two max_three min_three max_four min_four   -- for this text's walks alone
set_option linter.unusedVariables false
set_option linter.unusedSimpArgs false

/-! ### storagebarterlaw30_DeviationSteps: function 6 -/
class Up6 (W W1 : World) : Prop where
 below : Below W.heap.size W W1
instance (W : World) : Up6 W W := ⟨Below.refl _ _⟩
instance (W W1 : World) [h : Up6 W W1] (o : Obj) : Up6 W (W1.alloc o) := ⟨below_alloc h.below o⟩
instance (W W1 : World) [h : Up6 W W1] : Up6 W W1.drew := ⟨h.below.trans (below_drew (Below.refl _ _))⟩
instance (W W1 : World) [h : Up6 W W1] (n : Nat) : Up6 W (W1.drewN n) := ⟨pw_below_drewN h.below n⟩
theorem bU6 {W W1 : World} {g : Nat} {o : Obj} [u : Up6 W W1] (h : W.heap[g]? = some o) : W1.heap[g]? = some o := (u.below.block g (blk_lt h)).trans h
theorem hU6 {w W W1 : World} [u : Up6 W W1] (h : Below w.heap.size w W) : Below w.heap.size w W1 := below_step h u.below
theorem cU6 {α : Type} {d : Kd α} {A : Option Addr} {n : Nat} {xs : List α} {W W1 : World} [u : Up6 W W1] (h : d.C W A n xs) : d.C W1 A n xs := Kd.C_below h u.below
theorem rU6 {α : Type} {d : Kd α} {e base : Nat} {ok : Nat → Prop} {v : Value} {xs : List α} {W W1 : World} [u : Up6 W W1] (h : d.R e W base ok v xs) : d.R e W1 base ok v xs := Kd.R_below h u.below
theorem vU6 {α : Type} {d : Kd α} {e base : Nat} {ok : Nat → Prop} {v : Value} {xs : List α} {W W1 : World} [u : Up6 W W1] (h : d.V e W base ok v xs) : d.V e W1 base ok v xs := Kd.V_below h u.below
theorem nU6 {α : Type} {d : Kd α} {e base : Nat} {ok : Nat → Prop} {v : Value} {xs : List α} {W W1 : World} [u : Up6 W W1] (h : d.N e W base ok v xs) : d.N e W1 base ok v xs := Kd.N_below h u.below
set_option maxHeartbeats 60000000 in
set_option maxRecDepth 100000 in
theorem storagebarterlaw30_DeviationSteps.calls (k : Nat) (A0 : Option Addr) (c0 : Nat) (l0 : List Int) (a1_0 : Int) (P1_1_ : Nat → Prop) (A1_1 : Option Addr) (c1_1 : Nat) (l1_1 : List (S51)) (a2_0 : Int) (A2_1 : Option Addr) (c2_1 : Nat) (l2_1 : List (S51)) (P3_ : Nat → Prop) (A3 : Option Addr) (c3 : Nat) (l3 : List (S56)) (a4 : Int) (a5 : Int) (a6 : Int) (r : Bool) (w : World) (hr0 : Kd.C (Kd.int .u8) w A0 l0.length l0) (hc0 : l0.length ≤ c0) (hs1_1 : Kd.V k51 51 w w.heap.size (fun k_ => P1_1_ k_) (.slice A1_1 l1_1.length c1_1) l1_1) (hr2_1 : Kd.C k51 w A2_1 l2_1.length l2_1) (hc2_1 : l2_1.length ≤ c2_1) (hs3 : Kd.V k56 56 w w.heap.size (fun k_ => P3_ k_) (.slice A3 l3.length c3) l3) (h : storagebarterlaw30_DeviationSteps.f k l0 a1_0 l1_1 a2_0 l2_1 l3 a4 a5 a6 = some r) (hrt_ : r = true) (hL_ : Laid w) :
  Calls Tryd.prog 6 #[.slice A0 l0.length c0, .agg #[.int .i64 a1_0, .slice A1_1 l1_1.length c1_1], .agg #[.int .i64 a2_0, .slice A2_1 l2_1.length c2_1], .slice A3 l3.length c3, .int .i64 a4, .int .i64 a5, .int .i64 a6] w fun e w' => e = .returned (.bool r) ∧ Below w.heap.size w w' := by
 have HL_ := Aside0.mk hL_
 clear hL_
 have HRT_ := Aside0.mk hrt_
 clear hrt_
 have hu39 := Tryd.underlying39
 have hu28 := Tryd.underlying28
 have HR0 := Aside0.mk hr0
 have HC0 := Aside0.mk hc0
 clear hr0 hc0
 have HO1_1 := Aside0.mk (show Kd.V k51 51 w w.heap.size (fun k_ => ((P1_1_ k_ ∨ P3_ k_) ∨ w.heap.size ≤ k_)) (.slice A1_1 l1_1.length c1_1) l1_1 from Kd.V_mono hs1_1 (fun k_ hk => .inl (.inl hk)))
 have HR2_1 := Aside0.mk hr2_1
 have HC2_1 := Aside0.mk hc2_1
 clear hr2_1 hc2_1
 have HO3 := Aside0.mk (show Kd.V k56 56 w w.heap.size (fun k_ => ((P1_1_ k_ ∨ P3_ k_) ∨ w.heap.size ≤ k_)) (.slice A3 l3.length c3) l3 from Kd.V_mono hs3 (fun k_ hk => .inl (.inr hk)))
 have HB := Aside0.mk (Below.refl w.heap.size w)
 have H : ((storagebarterlaw30_sane.f k).bind fun t299 => (if t299 = true then (if (l1_1.length : Int) > 10 then (storagebarterlaw30_DeviationSteps.j0 k l0 l3 a4 a5 a6 true a1_0 l1_1 a2_0 l2_1) else (if (l2_1.length : Int) > 10 then (storagebarterlaw30_DeviationSteps.j0 k l0 l3 a4 a5 a6 true a1_0 l1_1 a2_0 l2_1) else (storagebarterlaw30_DeviationSteps.j0 k l0 l3 a4 a5 a6 (decide ((l3.length : Int) > 20)) a1_0 l1_1 a2_0 l2_1))) else (some false))) = some r := h
 clear h
 replace H := Option.bind_eq_some_iff.mp H
 obtain ⟨t299, A80, H⟩ := H
 replace H : (if t299 = true then (if (l1_1.length : Int) > 10 then (storagebarterlaw30_DeviationSteps.j0 k l0 l3 a4 a5 a6 true a1_0 l1_1 a2_0 l2_1) else (if (l2_1.length : Int) > 10 then (storagebarterlaw30_DeviationSteps.j0 k l0 l3 a4 a5 a6 true a1_0 l1_1 a2_0 l2_1) else (storagebarterlaw30_DeviationSteps.j0 k l0 l3 a4 a5 a6 (decide ((l3.length : Int) > 20)) a1_0 l1_1 a2_0 l2_1))) else (some false)) = some r := H
 have A8 := Aside0.mk A80
 clear A80
 by_cases c9 : t299 = true
 case neg =>
  replace c9 := Bool.eq_false_iff.mpr c9
  subst c9
  have H1 : (some false) = some r := by rw [if_neg (show ¬ (false = true) by decide)] at H; exact H
  clear H
  have H := H1
  clear H1
  exact absurd (Option.some.inj H) (by rw [HRT_.out]; decide)

 subst c9
 have H1 : (if (l1_1.length : Int) > 10 then (storagebarterlaw30_DeviationSteps.j0 k l0 l3 a4 a5 a6 true a1_0 l1_1 a2_0 l2_1) else (if (l2_1.length : Int) > 10 then (storagebarterlaw30_DeviationSteps.j0 k l0 l3 a4 a5 a6 true a1_0 l1_1 a2_0 l2_1) else (storagebarterlaw30_DeviationSteps.j0 k l0 l3 a4 a5 a6 (decide ((l3.length : Int) > 20)) a1_0 l1_1 a2_0 l2_1))) = some r := by rw [if_pos rfl] at H; exact H
 clear H
 have H := H1
 clear H1
 have HC10 := Aside0.mk H
 clear H
 go_enter Tryd.func6, Tryd.ntmps6
 go_upto_region 3 with (first | ((with_reducible refine gate_dst (N := 8) rfl ?_); (try (refine gate_guard (by rfl) ?_; dsimp only)); refine box_event ?hg (N := 8) ?hd (cs := #[.int .i64 a1_0, .slice A1_1 l1_1.length c1_1]) (t := 39) ?hr ?_; (case hd => rfl); (case hg => rfl); (case hr => first | (go_simp; done) | (go_simp; rfl)); intro gb297 hg w11 hbox hb; have n0_ := Aside0.mk (Kd.V_below (Kd.V_elderB (vU6 HO1_1.out) gb297 (Nat.le_of_eq hg.symm)) hb); have n1_ := Aside0.mk (Kd.V_below (Kd.V_elderB (vU6 HO3.out) gb297 (Nat.le_of_eq hg.symm)) hb); have n2_ := Aside0.mk (below_step (hU6 HB.out) hb); have n3_ := Aside0.mk (hbox); have n4_ := Aside0.mk ((by rw [hg]; exact (below_size (hU6 HB.out)) : w.heap.size ≤ gb297)); have n5_ := Aside0.mk ((by rw [hg]; exact (below_size (hU6 HB.out)) : w.heap.size ≤ gb297)); clear HO1_1; clear HO3; clear HB; have HO1_1 := n0_; have HO3 := n1_; have HB := n2_; have BK297 := n3_; have GW297 := n4_; have GE297 := n5_; clear n0_ n1_ n2_ n3_ n4_ n5_; clear hb hbox hg) | ((with_reducible refine gate_dst (N := 9) rfl ?_); (try (refine gate_guard (by rfl) ?_; dsimp only)); refine box_event ?hg (N := 9) ?hd (cs := #[.int .i64 a2_0, .slice A2_1 l2_1.length c2_1]) (t := 39) ?hr ?_; (case hd => rfl); (case hg => rfl); (case hr => first | (go_simp; done) | (go_simp; rfl)); intro gb298 hg w12 hbox hb; have n0_ := Aside0.mk (Kd.V_below (Kd.V_elderB (vU6 HO1_1.out) gb298 (Nat.le_of_eq hg.symm)) hb); have n1_ := Aside0.mk (Kd.V_below (Kd.V_elderB (vU6 HO3.out) gb298 (Nat.le_of_eq hg.symm)) hb); have n2_ := Aside0.mk (blk_below (g := gb297) (o := .cells #[.int .i64 a1_0, .slice A1_1 l1_1.length c1_1] 39 (0, 0)) (bU6 BK297.out) hb); have n3_ := Aside0.mk (below_step (by repeat (first | (with_reducible first | exact HB.out | apply below_alloc | apply pw_below_drewN | apply below_drew1 | refine below_set ?_ GE297.out) | exact HB.out)) hb); have n4_ := Aside0.mk (hbox); have n5_ := Aside0.mk ((by rw [hg]; exact (below_size (by repeat (first | (with_reducible first | exact HB.out | apply below_alloc | apply pw_below_drewN | apply below_drew1 | refine below_set ?_ GE297.out) | exact HB.out))) : w.heap.size ≤ gb298)); have n6_ := Aside0.mk ((by rw [hg]; exact (below_size (by repeat (first | (with_reducible first | exact HB.out | apply below_alloc | apply pw_below_drewN | apply below_drew1 | refine below_set ?_ GE297.out) | exact HB.out))) : w.heap.size ≤ gb298)); have n7_ := Aside0.mk ((by rw [hg]; exact Nat.ne_of_lt (blk_lt (g := gb297) (o := .cells #[.int .i64 a1_0, .slice A1_1 l1_1.length c1_1] 39 (0, 0)) (bU6 BK297.out)) : gb297 ≠ gb298)); have n8_ := Aside0.mk ((by rw [hg]; exact Nat.ne_of_gt (blk_lt (g := gb297) (o := .cells #[.int .i64 a1_0, .slice A1_1 l1_1.length c1_1] 39 (0, 0)) (bU6 BK297.out)) : gb298 ≠ gb297)); clear HO1_1; clear HO3; clear BK297; clear HB; have HO1_1 := n0_; have HO3 := n1_; have BK297 := n2_; have HB := n3_; have BK298 := n4_; have GW298 := n5_; have GE298 := n6_; have NB297_298 := n7_; have NB298_297 := n8_; clear n0_ n1_ n2_ n3_ n4_ n5_ n6_ n7_ n8_; clear hb hbox hg) | ((with_reducible refine gate_callee (f := 8) rfl ?_); refine goesL_ (some 31) rfl rfl Tryd.func8 (by kernel_rfl) rfl #[] rfl (by (try simp only [List.map_toArray, List.map_cons, List.map_nil]); first | done | rfl | (simp only [List.length_drop, List.length_take]; rfl)) ?_; (with_reducible refine (storagebarterlaw30_sane.calls k  true _ A8.out (by first | exact HL_.out | exact laid_below HL_.out (by repeat (first | (with_reducible first | exact HB.out | apply below_alloc | apply pw_below_drewN | apply below_drew1) | refine below_set ?_ (Aside0.out (by assumption)) | exact HB.out)) | exact laid_drawn HL_.out HD.out | exact laid_drawn HL_.out (HD.out.step _))).mono ?_); rintro e w13 ⟨rfl, hb⟩; refine ⟨_, rfl, ?_⟩; have n0_ := Aside0.mk (Kd.V_below (vU6 HO1_1.out) hb); have n1_ := Aside0.mk (Kd.V_below (vU6 HO3.out) hb); have n2_ := Aside0.mk (blk_below (g := gb297) (o := .cells #[.int .i64 a1_0, .slice A1_1 l1_1.length c1_1] 39 (0, 0)) (bU6 BK297.out) hb); have n3_ := Aside0.mk (blk_below (g := gb298) (o := .cells #[.int .i64 a2_0, .slice A2_1 l2_1.length c2_1] 39 (0, 0)) (bU6 BK298.out) hb); have n4_ := Aside0.mk (below_step (by repeat (first | (with_reducible first | exact HB.out | apply below_alloc | apply pw_below_drewN | apply below_drew1 | refine below_set ?_ (Aside0.out (by assumption))) | exact HB.out)) hb); clear HO1_1; clear HO3; clear BK297; clear BK298; clear HB; have HO1_1 := n0_; have HO3 := n1_; have BK297 := n2_; have BK298 := n3_; have HB := n4_; clear n0_ n1_ n2_ n3_ n4_; (try clear hb); (try clear hb2); (try clear hk); (try clear hi); (try clear hgw)))
 (try simp only [Act.put, List.setIfInBounds_toArray, List.set_cons_zero, List.set_cons_succ])
 go_cut [47] (fun v47 wc => ∃ (kq : Nat) (x47_9 : Bool), v47 = .bool x47_9 ∧ Aside0 (storagebarterlaw30_DeviationSteps.j0 kq l0 l3 a4 a5 a6 x47_9 a1_0 l1_1 a2_0 l2_1 = some r) ∧ Aside0 (kq ≤ k) ∧ Aside0 (Kd.V k56 56 wc w.heap.size (fun k_ => ((P1_1_ k_ ∨ P3_ k_) ∨ w.heap.size ≤ k_) ∧ k_ ≠ gb297 ∧ k_ ≠ gb298) (.slice A3 l3.length c3) l3) ∧ Aside0 (Kd.V k51 51 wc w.heap.size (fun k_ => ((P1_1_ k_ ∨ P3_ k_) ∨ w.heap.size ≤ k_) ∧ k_ ≠ gb297 ∧ k_ ≠ gb298) (.slice A1_1 l1_1.length c1_1) l1_1) ∧ Aside0 (wc.heap[gb297]? = some (.cells #[.int .i64 a1_0, (.slice A1_1 l1_1.length c1_1)] 39 (0, 0))) ∧ Aside0 (wc.heap[gb298]? = some (.cells #[.int .i64 a2_0, (.slice A2_1 l2_1.length c2_1)] 39 (0, 0))) ∧ Aside0 (Below w.heap.size w wc))
 case first =>
  have H := HC10.out
  clear HC10
  by_cases c14 : (l1_1.length : Int) > 10
  case pos =>
   rw [if_pos c14] at H
   have c14b0 : decide (10 < (l1_1.length : Int)) = true := decide_eq_true c14
   have c14b1 : decide (10 < l1_1.length) = true := decide_eq_true (by omega)
   clear c14
   (first | rw [c14b0] | rw [c14b1] | (simp only [i64_w, i32_w]; rw [c14b0]) | skip)
   have H' := Aside0.mk H
   clear H
   have hnb15 := NB297_298.out
   have hnc15 := NB298_297.out
   have hcz16_0 : w13.cell? ⟨gb297, 0, none⟩ = some (.int .i64 a1_0) := (blk_cell BK297.out 0).trans rfl
   have hcz16_1 : w13.cell? ⟨gb297, 1, none⟩ = some (.slice A1_1 l1_1.length c1_1) := (blk_cell BK297.out 1).trans rfl
   have hfz16_0 := blk_frozen BK297.out 0
   have hfz16_1 := blk_frozen BK297.out 1
   go_wp2
   go_meet
   case rel => exact ⟨_, (true), (by first | rfl | (simp; done) | (simp [*]; done)), H', ⟨by first | omega | exact Nat.le_refl _⟩, ⟨by (with_reducible repeat (first | apply Kd.V_alloc | apply Kd.V_drewN | apply Kd.V_drew)); exact Kd.V_mono HO3.out (fun _ hk => ⟨hk.1.1, ⟨hk.1.2, hk.2⟩⟩)⟩, ⟨by (with_reducible repeat (first | apply Kd.V_alloc | apply Kd.V_drewN | apply Kd.V_drew)); exact Kd.V_mono HO1_1.out (fun _ hk => ⟨hk.1.1, ⟨hk.1.2, hk.2⟩⟩)⟩, ⟨by exact bU6 BK297.out⟩, ⟨by exact bU6 BK298.out⟩, ⟨by repeat (first | (with_reducible first | exact HB.out | apply below_alloc | apply pw_below_drewN | apply below_drew1 | refine below_set ?_ (Aside0.out (by assumption))) | exact HB.out)⟩⟩
  rw [if_neg c14] at H
  have c14b0 : decide (10 < (l1_1.length : Int)) = false := decide_eq_false c14
  have c14b1 : decide (10 < l1_1.length) = false := decide_eq_false (by omega)
  clear c14
  (first | rw [c14b0] | rw [c14b1] | (simp only [i64_w, i32_w]; rw [c14b0]) | skip)
  by_cases c17 : (l2_1.length : Int) > 10
  case neg =>
   rw [if_neg c17] at H
   have c17b0 : decide (10 < (l2_1.length : Int)) = false := decide_eq_false c17
   have c17b1 : decide (10 < l2_1.length) = false := decide_eq_false (by omega)
   clear c17
   have H' := Aside0.mk H
   clear H
   have hnb21 := NB297_298.out
   have hnc21 := NB298_297.out
   have hcz22_0 : w13.cell? ⟨gb297, 0, none⟩ = some (.int .i64 a1_0) := (blk_cell BK297.out 0).trans rfl
   have hcz22_1 : w13.cell? ⟨gb297, 1, none⟩ = some (.slice A1_1 l1_1.length c1_1) := (blk_cell BK297.out 1).trans rfl
   have hfz22_0 := blk_frozen BK297.out 0
   have hfz22_1 := blk_frozen BK297.out 1
   have hcz23_0 : w13.cell? ⟨gb298, 0, none⟩ = some (.int .i64 a2_0) := (blk_cell BK298.out 0).trans rfl
   have hcz23_1 : w13.cell? ⟨gb298, 1, none⟩ = some (.slice A2_1 l2_1.length c2_1) := (blk_cell BK298.out 1).trans rfl
   have hfz23_0 := blk_frozen BK298.out 0
   have hfz23_1 := blk_frozen BK298.out 1
   go_wp2
   go_meet
   case rel => exact ⟨_, (decide ((l3.length : Int) > 20)), (by first | rfl | (simp; done) | (simp [*]; done)), H', ⟨by first | omega | exact Nat.le_refl _⟩, ⟨by (with_reducible repeat (first | apply Kd.V_alloc | apply Kd.V_drewN | apply Kd.V_drew)); exact Kd.V_mono HO3.out (fun _ hk => ⟨hk.1.1, ⟨hk.1.2, hk.2⟩⟩)⟩, ⟨by (with_reducible repeat (first | apply Kd.V_alloc | apply Kd.V_drewN | apply Kd.V_drew)); exact Kd.V_mono HO1_1.out (fun _ hk => ⟨hk.1.1, ⟨hk.1.2, hk.2⟩⟩)⟩, ⟨by exact bU6 BK297.out⟩, ⟨by exact bU6 BK298.out⟩, ⟨by repeat (first | (with_reducible first | exact HB.out | apply below_alloc | apply pw_below_drewN | apply below_drew1 | refine below_set ?_ (Aside0.out (by assumption))) | exact HB.out)⟩⟩
  rw [if_pos c17] at H
  have c17b0 : decide (10 < (l2_1.length : Int)) = true := decide_eq_true c17
  have c17b1 : decide (10 < l2_1.length) = true := decide_eq_true (by omega)
  clear c17
  have H' := Aside0.mk H
  clear H
  have hnb18 := NB297_298.out
  have hnc18 := NB298_297.out
  have hcz19_0 : w13.cell? ⟨gb297, 0, none⟩ = some (.int .i64 a1_0) := (blk_cell BK297.out 0).trans rfl
  have hcz19_1 : w13.cell? ⟨gb297, 1, none⟩ = some (.slice A1_1 l1_1.length c1_1) := (blk_cell BK297.out 1).trans rfl
  have hfz19_0 := blk_frozen BK297.out 0
  have hfz19_1 := blk_frozen BK297.out 1
  have hcz20_0 : w13.cell? ⟨gb298, 0, none⟩ = some (.int .i64 a2_0) := (blk_cell BK298.out 0).trans rfl
  have hcz20_1 : w13.cell? ⟨gb298, 1, none⟩ = some (.slice A2_1 l2_1.length c2_1) := (blk_cell BK298.out 1).trans rfl
  have hfz20_0 := blk_frozen BK298.out 0
  have hfz20_1 := blk_frozen BK298.out 1
  go_wp2
  go_meet
  case rel => exact ⟨_, (true), (by first | rfl | (simp; done) | (simp [*]; done)), H', ⟨by first | omega | exact Nat.le_refl _⟩, ⟨by (with_reducible repeat (first | apply Kd.V_alloc | apply Kd.V_drewN | apply Kd.V_drew)); exact Kd.V_mono HO3.out (fun _ hk => ⟨hk.1.1, ⟨hk.1.2, hk.2⟩⟩)⟩, ⟨by (with_reducible repeat (first | apply Kd.V_alloc | apply Kd.V_drewN | apply Kd.V_drew)); exact Kd.V_mono HO1_1.out (fun _ hk => ⟨hk.1.1, ⟨hk.1.2, hk.2⟩⟩)⟩, ⟨by exact bU6 BK297.out⟩, ⟨by exact bU6 BK298.out⟩, ⟨by repeat (first | (with_reducible first | exact HB.out | apply below_alloc | apply pw_below_drewN | apply below_drew1 | refine below_set ?_ (Aside0.out (by assumption))) | exact HB.out)⟩⟩
 case rest =>
  clear HC10
  try clear c1
  try clear c2
  try clear p2
  try clear c3
  try clear c6
  try clear c8
  try clear c9
  try clear c14
  try clear c14b0
  try clear c14b1
  try clear c15
  try clear c17
  try clear c17b0
  try clear c17b1
  try clear c18
  try clear c21
  try clear hcz16_0
  try clear hcz16_1
  try clear hcz19_0
  try clear hcz19_1
  try clear hcz20_0
  try clear hcz20_1
  try clear hcz22_0
  try clear hcz22_1
  try clear hcz23_0
  try clear hcz23_1
  try clear hfz16_0
  try clear hfz16_1
  try clear hfz19_0
  try clear hfz19_1
  try clear hfz20_0
  try clear hfz20_1
  try clear hfz22_0
  try clear hfz22_1
  try clear hfz23_0
  try clear hfz23_1
  obtain ⟨kq, x47_9, rfl, HA, HJ9, HO_3, ba0, BK297, BK298, HB⟩ := hcut
  cases kq with
  | zero => exact absurd HA.out (by simp [storagebarterlaw30_DeviationSteps.j0])
  | succ kj9 =>
   have H := HA.out
   clear HA
   simp only [storagebarterlaw30_DeviationSteps.j0] at H
   by_cases c24 : x47_9 = true
   case pos =>
    subst c24
    have H1 : (some true) = some r := by rw [if_pos rfl] at H; exact H
    clear H
    have H := H1
    clear H1
    obtain rfl := Option.some.inj H
    go_wp2
    go_ret
    exact ⟨by first | rfl | (simp [errW_none, errW_some] <;> rfl) | (simp [*, errW_none, errW_some] <;> rfl), by repeat (first | (with_reducible first | exact HB.out | apply below_alloc | apply pw_below_drewN | apply below_drew1 | refine below_set ?_ (Aside0.out (by assumption))) | exact HB.out)⟩
   replace c24 := Bool.eq_false_iff.mpr c24
   subst c24
   have H1 : ((storagebarterplay_New.f l0).bind fun bt300 => ((storagebarterlaw30_plan.f kj9 bt300.1 bt300.2).bind fun bt303 => ((storagebarterplay_Dice_Pick.f bt300.1 bt303.2 3).bind fun bt307 => ((storagebarterplay_Dice_Deviation.f kj9 bt300.1 bt307.2 bt303.1 (wrap64 (1 + bt307.1)) 4).bind fun bt309 => ((some (([] : List (S51)) : List (S51))).bind fun y316 => (if y316.length + bt309.2.1.length < 8796093022208 then ((some (y316 ++ bt309.2.1 : List (S51))).bind fun y319 => (if (y319.length : Int) > 0 then ((storagebarterplay_Dice_Pick.f bt300.1 bt309.2.2 (y319.length : Int)).bind fun bt322 => (if 0 ≤ bt322.1 then (if bt322.1 < (y319.length : Int) then ((storagebarterplay_Dice_Pick.f bt300.1 bt322.2 3).bind fun bt325 => (storagebarterlaw30_DeviationSteps.j1 kj9 l3 a4 a5 a6 bt303.1 a1_0 l1_1 a2_0 l2_1 bt300.1 bt325.2 bt309.1 bt309.2.1 bt309.1 (y319.set (bt322.1 : Int).toNat (⟨wrap64 (((rd_T51 y319 bt322.1).f0) + (wrap64 (bt325.1 - 1))), (rd_T51 y319 bt322.1).f1⟩ : S51)))) else (none)) else (none))) else (storagebarterlaw30_DeviationSteps.j1 kj9 l3 a4 a5 a6 bt303.1 a1_0 l1_1 a2_0 l2_1 bt300.1 bt309.2.2 bt309.1 bt309.2.1 bt309.1 y319))) else (none))))))) = some r := by rw [if_neg (show ¬ (false = true) by decide)] at H; exact H
   clear H
   have H := H1
   clear H1
   replace H := Option.bind_eq_some_iff.mp H
   obtain ⟨⟨t300, t301⟩, A250, H⟩ := H
   replace H : ((storagebarterlaw30_plan.f kj9 t300 t301).bind fun bt303 => ((storagebarterplay_Dice_Pick.f t300 bt303.2 3).bind fun bt307 => ((storagebarterplay_Dice_Deviation.f kj9 t300 bt307.2 bt303.1 (wrap64 (1 + bt307.1)) 4).bind fun bt309 => ((some (([] : List (S51)) : List (S51))).bind fun y316 => (if y316.length + bt309.2.1.length < 8796093022208 then ((some (y316 ++ bt309.2.1 : List (S51))).bind fun y319 => (if (y319.length : Int) > 0 then ((storagebarterplay_Dice_Pick.f t300 bt309.2.2 (y319.length : Int)).bind fun bt322 => (if 0 ≤ bt322.1 then (if bt322.1 < (y319.length : Int) then ((storagebarterplay_Dice_Pick.f t300 bt322.2 3).bind fun bt325 => (storagebarterlaw30_DeviationSteps.j1 kj9 l3 a4 a5 a6 bt303.1 a1_0 l1_1 a2_0 l2_1 t300 bt325.2 bt309.1 bt309.2.1 bt309.1 (y319.set (bt322.1 : Int).toNat (⟨wrap64 (((rd_T51 y319 bt322.1).f0) + (wrap64 (bt325.1 - 1))), (rd_T51 y319 bt322.1).f1⟩ : S51)))) else (none)) else (none))) else (storagebarterlaw30_DeviationSteps.j1 kj9 l3 a4 a5 a6 bt303.1 a1_0 l1_1 a2_0 l2_1 t300 bt309.2.2 bt309.1 bt309.2.1 bt309.1 y319))) else (none)))))) = some r := H
   have A25 := Aside0.mk A250
   clear A250
   replace H := Option.bind_eq_some_iff.mp H
   obtain ⟨⟨t303, t306⟩, A260, H⟩ := H
   replace H : ((storagebarterplay_Dice_Pick.f t300 t306 3).bind fun bt307 => ((storagebarterplay_Dice_Deviation.f kj9 t300 bt307.2 t303 (wrap64 (1 + bt307.1)) 4).bind fun bt309 => ((some (([] : List (S51)) : List (S51))).bind fun y316 => (if y316.length + bt309.2.1.length < 8796093022208 then ((some (y316 ++ bt309.2.1 : List (S51))).bind fun y319 => (if (y319.length : Int) > 0 then ((storagebarterplay_Dice_Pick.f t300 bt309.2.2 (y319.length : Int)).bind fun bt322 => (if 0 ≤ bt322.1 then (if bt322.1 < (y319.length : Int) then ((storagebarterplay_Dice_Pick.f t300 bt322.2 3).bind fun bt325 => (storagebarterlaw30_DeviationSteps.j1 kj9 l3 a4 a5 a6 t303 a1_0 l1_1 a2_0 l2_1 t300 bt325.2 bt309.1 bt309.2.1 bt309.1 (y319.set (bt322.1 : Int).toNat (⟨wrap64 (((rd_T51 y319 bt322.1).f0) + (wrap64 (bt325.1 - 1))), (rd_T51 y319 bt322.1).f1⟩ : S51)))) else (none)) else (none))) else (storagebarterlaw30_DeviationSteps.j1 kj9 l3 a4 a5 a6 t303 a1_0 l1_1 a2_0 l2_1 t300 bt309.2.2 bt309.1 bt309.2.1 bt309.1 y319))) else (none))))) = some r := H
   have A26 := Aside0.mk A260
   clear A260
   replace H := Option.bind_eq_some_iff.mp H
   obtain ⟨⟨t307, t308⟩, A270, H⟩ := H
   replace H : ((storagebarterplay_Dice_Deviation.f kj9 t300 t308 t303 (wrap64 (1 + t307)) 4).bind fun bt309 => ((some (([] : List (S51)) : List (S51))).bind fun y316 => (if y316.length + bt309.2.1.length < 8796093022208 then ((some (y316 ++ bt309.2.1 : List (S51))).bind fun y319 => (if (y319.length : Int) > 0 then ((storagebarterplay_Dice_Pick.f t300 bt309.2.2 (y319.length : Int)).bind fun bt322 => (if 0 ≤ bt322.1 then (if bt322.1 < (y319.length : Int) then ((storagebarterplay_Dice_Pick.f t300 bt322.2 3).bind fun bt325 => (storagebarterlaw30_DeviationSteps.j1 kj9 l3 a4 a5 a6 t303 a1_0 l1_1 a2_0 l2_1 t300 bt325.2 bt309.1 bt309.2.1 bt309.1 (y319.set (bt322.1 : Int).toNat (⟨wrap64 (((rd_T51 y319 bt322.1).f0) + (wrap64 (bt325.1 - 1))), (rd_T51 y319 bt322.1).f1⟩ : S51)))) else (none)) else (none))) else (storagebarterlaw30_DeviationSteps.j1 kj9 l3 a4 a5 a6 t303 a1_0 l1_1 a2_0 l2_1 t300 bt309.2.2 bt309.1 bt309.2.1 bt309.1 y319))) else (none)))) = some r := H
   have A27 := Aside0.mk A270
   clear A270
   replace H := Option.bind_eq_some_iff.mp H
   obtain ⟨⟨t309, t310, t313⟩, A280, H⟩ := H
   replace H : ((some (([] : List (S51)) : List (S51))).bind fun y316 => (if y316.length + t310.length < 8796093022208 then ((some (y316 ++ t310 : List (S51))).bind fun y319 => (if (y319.length : Int) > 0 then ((storagebarterplay_Dice_Pick.f t300 t313 (y319.length : Int)).bind fun bt322 => (if 0 ≤ bt322.1 then (if bt322.1 < (y319.length : Int) then ((storagebarterplay_Dice_Pick.f t300 bt322.2 3).bind fun bt325 => (storagebarterlaw30_DeviationSteps.j1 kj9 l3 a4 a5 a6 t303 a1_0 l1_1 a2_0 l2_1 t300 bt325.2 t309 t310 t309 (y319.set (bt322.1 : Int).toNat (⟨wrap64 (((rd_T51 y319 bt322.1).f0) + (wrap64 (bt325.1 - 1))), (rd_T51 y319 bt322.1).f1⟩ : S51)))) else (none)) else (none))) else (storagebarterlaw30_DeviationSteps.j1 kj9 l3 a4 a5 a6 t303 a1_0 l1_1 a2_0 l2_1 t300 t313 t309 t310 t309 y319))) else (none))) = some r := H
   have A28 := Aside0.mk A280
   clear A280
   obtain ⟨y316, hy316⟩ : ∃ y_ : List (S51), y_ = (([] : List (S51))) := ⟨_, rfl⟩
   replace H : (if y316.length + t310.length < 8796093022208 then ((some (y316 ++ t310 : List (S51))).bind fun y319 => (if (y319.length : Int) > 0 then ((storagebarterplay_Dice_Pick.f t300 t313 (y319.length : Int)).bind fun bt322 => (if 0 ≤ bt322.1 then (if bt322.1 < (y319.length : Int) then ((storagebarterplay_Dice_Pick.f t300 bt322.2 3).bind fun bt325 => (storagebarterlaw30_DeviationSteps.j1 kj9 l3 a4 a5 a6 t303 a1_0 l1_1 a2_0 l2_1 t300 bt325.2 t309 t310 t309 (y319.set (bt322.1 : Int).toNat (⟨wrap64 (((rd_T51 y319 bt322.1).f0) + (wrap64 (bt325.1 - 1))), (rd_T51 y319 bt322.1).f1⟩ : S51)))) else (none)) else (none))) else (storagebarterlaw30_DeviationSteps.j1 kj9 l3 a4 a5 a6 t303 a1_0 l1_1 a2_0 l2_1 t300 t313 t309 t310 t309 y319))) else (none)) = some r := by first | (rw [hy316]; with_reducible exact H) | (have H2_ := (Option.bind_some _ _).symm.trans H; rw [hy316]; with_reducible exact H2_) | (have H2_ := (Option.bind_some _ _).symm.trans H; with_reducible exact H2_) | with_reducible exact H | (rw [hy316]; exact H) | exact H
   have Ny316 := Aside0.mk hy316
   clear hy316
   by_cases c29 : y316.length + t310.length < 8796093022208
   case neg =>
    rw [if_neg c29] at H
    exact absurd H (by simp)
   rw [if_pos c29] at H
   have LMc29 := Aside0.mk c29
   clear c29
   obtain ⟨y319, hy319⟩ : ∃ y_ : List (S51), y_ = (y316 ++ t310) := ⟨_, rfl⟩
   replace H : (if (y319.length : Int) > 0 then ((storagebarterplay_Dice_Pick.f t300 t313 (y319.length : Int)).bind fun bt322 => (if 0 ≤ bt322.1 then (if bt322.1 < (y319.length : Int) then ((storagebarterplay_Dice_Pick.f t300 bt322.2 3).bind fun bt325 => (storagebarterlaw30_DeviationSteps.j1 kj9 l3 a4 a5 a6 t303 a1_0 l1_1 a2_0 l2_1 t300 bt325.2 t309 t310 t309 (y319.set (bt322.1 : Int).toNat (⟨wrap64 (((rd_T51 y319 bt322.1).f0) + (wrap64 (bt325.1 - 1))), (rd_T51 y319 bt322.1).f1⟩ : S51)))) else (none)) else (none))) else (storagebarterlaw30_DeviationSteps.j1 kj9 l3 a4 a5 a6 t303 a1_0 l1_1 a2_0 l2_1 t300 t313 t309 t310 t309 y319)) = some r := by first | (rw [hy319]; with_reducible exact H) | (have H2_ := (Option.bind_some _ _).symm.trans H; rw [hy319]; with_reducible exact H2_) | (have H2_ := (Option.bind_some _ _).symm.trans H; with_reducible exact H2_) | with_reducible exact H | (rw [hy319]; exact H) | exact H
   have Ny319 := Aside0.mk hy319
   clear hy319
   have HC30 := Aside0.mk H
   clear H
   go_upto_if 67 with (first | ((with_reducible refine gate_callee (f := 9) rfl ?_); refine goesL_ (some 49) rfl rfl Tryd.func9 (by kernel_rfl) rfl #[.slice A0 l0.length c0] rfl (by (try simp only [List.map_toArray, List.map_cons, List.map_nil]); first | done | rfl | (simp only [List.length_drop, List.length_take]; rfl)) ?_; (with_reducible refine (storagebarterplay_New.calls _ _ l0 t300 t301 w _ ?side1 ?side2 ?side3 A25.out).mono ?_); (case side1 => repeat (first | (with_reducible first | exact HB.out | apply below_alloc | apply pw_below_drewN | apply below_drew1 | refine below_set ?_ (Aside0.out (by assumption))) | exact HB.out)); (case side2 => exact HR0.out); (case side3 => exact HC0.out); rintro e w31 ⟨g302, rfl, hi, hb, hb2, hgw⟩; refine ⟨_, rfl, ?_⟩; have n0_ := Aside0.mk (Kd.V_below (Kd.V_elderB (vU6 HO_3.out) g302 hgw) hb2); have n1_ := Aside0.mk (Kd.V_below (Kd.V_elderB (vU6 ba0.out) g302 hgw) hb2); have n2_ := Aside0.mk (blk_below (g := gb297) (o := .cells #[.int .i64 a1_0, .slice A1_1 l1_1.length c1_1] 39 (0, 0)) (bU6 BK297.out) hb2); have n3_ := Aside0.mk (blk_below (g := gb298) (o := .cells #[.int .i64 a2_0, .slice A2_1 l2_1.length c2_1] 39 (0, 0)) (bU6 BK298.out) hb2); have n4_ := Aside0.mk (hb); have n5_ := Aside0.mk (hi); have n6_ := Aside0.mk (IsS58.ne_blk hi (blk_below (g := gb297) (o := .cells #[.int .i64 a1_0, .slice A1_1 l1_1.length c1_1] 39 (0, 0)) (bU6 BK297.out) hb2) (by decide)); have n7_ := Aside0.mk (Ne.symm (IsS58.ne_blk hi (blk_below (g := gb297) (o := .cells #[.int .i64 a1_0, .slice A1_1 l1_1.length c1_1] 39 (0, 0)) (bU6 BK297.out) hb2) (by decide))); have n8_ := Aside0.mk (IsS58.ne_blk hi (blk_below (g := gb298) (o := .cells #[.int .i64 a2_0, .slice A2_1 l2_1.length c2_1] 39 (0, 0)) (bU6 BK298.out) hb2) (by decide)); have n9_ := Aside0.mk (Ne.symm (IsS58.ne_blk hi (blk_below (g := gb298) (o := .cells #[.int .i64 a2_0, .slice A2_1 l2_1.length c2_1] 39 (0, 0)) (bU6 BK298.out) hb2) (by decide))); clear HO_3; clear ba0; clear BK297; clear BK298; clear HB; have HO_3 := n0_; have ba0 := n1_; have BK297 := n2_; have BK298 := n3_; have HB := n4_; have HI302 := n5_; have NB302_297 := n6_; have NB297_302 := n7_; have NB302_298 := n8_; have NB298_302 := n9_; clear n0_ n1_ n2_ n3_ n4_ n5_ n6_ n7_ n8_ n9_; (try clear hb); (try clear hb2); (try clear hk); (try clear hi); (try clear hgw)) | ((with_reducible refine gate_callee (f := 10) rfl ?_); refine goesL_ (some 51) rfl rfl Tryd.func10 (by kernel_rfl) rfl #[.pointer (some ⟨g302, 0, none⟩)] rfl (by (try simp only [List.map_toArray, List.map_cons, List.map_nil]); first | done | rfl | (simp only [List.length_drop, List.length_take]; rfl)) ?_; (with_reducible refine (storagebarterlaw30_plan.calls kj9 g302 t300 t301 t303 t306 w _ ?side1 ?side2 A26.out).mono ?_); (case side1 => repeat (first | (with_reducible first | exact HI302.out | apply IsS58.alloc | apply IsS58.drewN | apply IsS58.drew | apply IsS58.set_1 | refine IsS58.far ?_ NB302_297.out _ | refine IsS58.far ?_ NB302_298.out _) | exact HI302.out)); (case side2 => repeat (first | (with_reducible first | exact HB.out | apply below_alloc | apply pw_below_drewN | apply below_drew1 | refine below_set ?_ (IsS58.ge HI302.out) | refine below_set ?_ (Aside0.out (by assumption))) | exact HB.out)); rintro e w32 ⟨v304, rfl, ho0, hi, hb, hk⟩; refine ⟨_, rfl, ?_⟩; have n0_ := Aside0.mk (Kd.V_mono (Kd.V_told (Kd.V_oldK (Kd.V_mono (ok := fun k_ => (((((P1_1_ k_ ∨ P3_ k_) ∨ w.heap.size ≤ k_)) ∧ (k_ ≠ gb297 ∧ k_ ≠ gb298)) ∧ k_ ≠ g302)) (vU6 HO_3.out) (fun k_ hk_ => (⟨hk_, hk_.2⟩ : _ ∧ k_ ≠ g302))) hk) (Kd.R_base ho0)) (fun _ h_ => h_.1)); have n1_ := Aside0.mk (Kd.V_mono (Kd.V_told (Kd.V_oldK (Kd.V_mono (ok := fun k_ => (((((P1_1_ k_ ∨ P3_ k_) ∨ w.heap.size ≤ k_)) ∧ (k_ ≠ gb297 ∧ k_ ≠ gb298)) ∧ k_ ≠ g302)) (vU6 ba0.out) (fun k_ hk_ => (⟨hk_, hk_.2⟩ : _ ∧ k_ ≠ g302))) hk) (Kd.R_base ho0)) (fun _ h_ => h_.1)); have n2_ := Aside0.mk (KeepBut.blk hk (g' := gb297) (o := .cells #[.int .i64 a1_0, .slice A1_1 l1_1.length c1_1] 39 (0, 0)) (bU6 BK297.out) NB297_302.out (by simp)); have n3_ := Aside0.mk (KeepBut.blk hk (g' := gb298) (o := .cells #[.int .i64 a2_0, .slice A2_1 l2_1.length c2_1] 39 (0, 0)) (bU6 BK298.out) NB298_302.out (by simp)); have n4_ := Aside0.mk (Kd.R_lower (Kd.R_newM (M := fun k_ => (w.heap.size ≤ k_)) ho0 (below_size (by repeat (first | (with_reducible first | exact HB.out | apply below_alloc | apply pw_below_drewN | apply below_drew1 | refine below_set ?_ (IsS58.ge HI302.out) | refine below_set ?_ (Aside0.out (by assumption))) | exact HB.out))) (fun k_ h_ => h_)) (below_size (by repeat (first | (with_reducible first | exact HB.out | apply below_alloc | apply pw_below_drewN | apply below_drew1 | refine below_set ?_ (IsS58.ge HI302.out) | refine below_set ?_ (Aside0.out (by assumption))) | exact HB.out)))); have n5_ := Aside0.mk (hb); have n6_ := Aside0.mk (hi); clear HO_3; clear ba0; clear BK297; clear BK298; clear HB; clear HI302; have HO_3 := n0_; have ba0 := n1_; have BK297 := n2_; have BK298 := n3_; have HO305 := n4_; have HB := n5_; have HI302 := n6_; clear n0_ n1_ n2_ n3_ n4_ n5_ n6_; (try clear hb); (try clear hb2); (try clear hk); (try clear hi); (try clear hgw); (try clear ho0)) | ((with_reducible refine gate_callee (f := 11) rfl ?_); refine goesL_ (some 55) rfl rfl Tryd.func11 (by kernel_rfl) rfl #[.pointer (some ⟨g302, 0, none⟩), .int .i64 3] rfl (by (try simp only [List.map_toArray, List.map_cons, List.map_nil]); first | done | rfl | (simp only [List.length_drop, List.length_take]; rfl)) ?_; (with_reducible refine (storagebarterplay_Dice_Pick.calls g302 t300 t306 3 t307 t308 w _ ?side1 ?side2 A27.out).mono ?_); (case side1 => repeat (first | (with_reducible first | exact HI302.out | apply IsS58.alloc | apply IsS58.drewN | apply IsS58.drew | apply IsS58.set_1 | refine IsS58.far ?_ NB302_297.out _ | refine IsS58.far ?_ NB302_298.out _) | exact HI302.out)); (case side2 => repeat (first | (with_reducible first | exact HB.out | apply below_alloc | apply pw_below_drewN | apply below_drew1 | refine below_set ?_ (IsS58.ge HI302.out) | refine below_set ?_ (Aside0.out (by assumption))) | exact HB.out)); rintro e w33 ⟨rfl, hi, hb, hk⟩; refine ⟨_, rfl, ?_⟩; have n0_ := Aside0.mk (Kd.V_mono (Kd.V_keep (Kd.V_mono (ok := fun k_ => ((((((P1_1_ k_ ∨ P3_ k_) ∨ w.heap.size ≤ k_)) ∧ (k_ ≠ gb297 ∧ k_ ≠ gb298)) ∧ k_ ≠ g302) ∧ some k_ ≠ (v304 : Value).ownBlock)) (vU6 HO_3.out) (fun k_ hk_ => (⟨hk_, hk_.1.2⟩ : _ ∧ k_ ≠ g302))) hk (fun _ h => h.2)) (fun _ h => h.1)); have n1_ := Aside0.mk (Kd.V_mono (Kd.V_keep (Kd.V_mono (ok := fun k_ => ((((((P1_1_ k_ ∨ P3_ k_) ∨ w.heap.size ≤ k_)) ∧ (k_ ≠ gb297 ∧ k_ ≠ gb298)) ∧ k_ ≠ g302) ∧ some k_ ≠ (v304 : Value).ownBlock)) (vU6 ba0.out) (fun k_ hk_ => (⟨hk_, hk_.1.2⟩ : _ ∧ k_ ≠ g302))) hk (fun _ h => h.2)) (fun _ h => h.1)); have n2_ := Aside0.mk (KeepBut.blk hk (g' := gb297) (o := .cells #[.int .i64 a1_0, .slice A1_1 l1_1.length c1_1] 39 (0, 0)) (bU6 BK297.out) NB297_302.out (by simp)); have n3_ := Aside0.mk (KeepBut.blk hk (g' := gb298) (o := .cells #[.int .i64 a2_0, .slice A2_1 l2_1.length c2_1] 39 (0, 0)) (bU6 BK298.out) NB298_302.out (by simp)); have n4_ := Aside0.mk (Kd.R_mono (Kd.R_keep (IsS58.apart (show IsS58 w _ g302 t300 t306 from by repeat (first | (with_reducible first | exact HI302.out | apply IsS58.alloc | apply IsS58.drewN | apply IsS58.drew | apply IsS58.set_1 | refine IsS58.far ?_ NB302_297.out _ | refine IsS58.far ?_ NB302_298.out _) | exact HI302.out)) (rU6 HO305.out) (by decide)) hk (fun _ h => h.2)) (fun _ h => h.1)); have n5_ := Aside0.mk (hb); have n6_ := Aside0.mk (hi); clear HO_3; clear ba0; clear BK297; clear BK298; clear HO305; clear HB; clear HI302; have HO_3 := n0_; have ba0 := n1_; have BK297 := n2_; have BK298 := n3_; have HO305 := n4_; have HB := n5_; have HI302 := n6_; clear n0_ n1_ n2_ n3_ n4_ n5_ n6_; (try clear hb); (try clear hb2); (try clear hk); (try clear hi); (try clear hgw); obtain ⟨Ao34, co34, eo34⟩ := Kd.R_slice HO305.out; subst eo34) | ((with_reducible refine gate_callee (f := 17) rfl ?_); refine goesL_ (some 57) rfl rfl Tryd.func17 (by kernel_rfl) rfl #[.pointer (some ⟨g302, 0, none⟩), .slice Ao34 t303.length co34, .int .i64 (wrap64 (1 + t307)), .int .i64 4] rfl (by (try simp only [List.map_toArray, List.map_cons, List.map_nil]); first | done | rfl | (simp only [List.length_drop, List.length_take]; rfl)) ?_; (with_reducible refine (storagebarterplay_Dice_Deviation.calls kj9 g302 t300 t308 _ _ t303 (wrap64 (1 + t307)) 4 t309 t310 t313 w _ ?side1 ?side2 ?side3 ?side4 A28.out).mono ?_); (case side1 => repeat (first | (with_reducible first | exact HI302.out | apply IsS58.alloc | apply IsS58.drewN | apply IsS58.drew | apply IsS58.set_1 | refine IsS58.far ?_ NB302_297.out _ | refine IsS58.far ?_ NB302_298.out _) | exact HI302.out)); (case side2 => repeat (first | (with_reducible first | exact HB.out | apply below_alloc | apply pw_below_drewN | apply below_drew1 | refine below_set ?_ (IsS58.ge HI302.out) | refine below_set ?_ (Aside0.out (by assumption))) | exact HB.out)); (case side3 => exact Kd.C_foot_own (IsS58.apart (show IsS58 w _ g302 t300 t308 from by repeat (first | (with_reducible first | exact HI302.out | apply IsS58.alloc | apply IsS58.drewN | apply IsS58.drew | apply IsS58.set_1 | refine IsS58.far ?_ NB302_297.out _ | refine IsS58.far ?_ NB302_298.out _) | exact HI302.out)) (rU6 HO305.out) (by decide)) (fun _ h_ => h_.2)); (case side4 => exact (Kd.R_reads' HO305.out).2.1); rintro e w35 ⟨v311, rfl, ho0, hi, hb, hk⟩; refine ⟨_, rfl, ?_⟩; have n0_ := Aside0.mk (Kd.V_mono (Kd.V_told (Kd.V_oldK (Kd.V_mono (ok := fun k_ => ((((((P1_1_ k_ ∨ P3_ k_) ∨ w.heap.size ≤ k_)) ∧ (k_ ≠ gb297 ∧ k_ ≠ gb298)) ∧ k_ ≠ g302) ∧ some k_ ≠ (.slice Ao34 t303.length co34 : Value).ownBlock)) (vU6 HO_3.out) (fun k_ hk_ => (⟨hk_, hk_.1.2⟩ : _ ∧ k_ ≠ g302))) hk) (Kd.R_base ho0)) (fun _ h_ => h_.1)); have n1_ := Aside0.mk (Kd.V_mono (Kd.V_told (Kd.V_oldK (Kd.V_mono (ok := fun k_ => ((((((P1_1_ k_ ∨ P3_ k_) ∨ w.heap.size ≤ k_)) ∧ (k_ ≠ gb297 ∧ k_ ≠ gb298)) ∧ k_ ≠ g302) ∧ some k_ ≠ (.slice Ao34 t303.length co34 : Value).ownBlock)) (vU6 ba0.out) (fun k_ hk_ => (⟨hk_, hk_.1.2⟩ : _ ∧ k_ ≠ g302))) hk) (Kd.R_base ho0)) (fun _ h_ => h_.1)); have n2_ := Aside0.mk (KeepBut.blk hk (g' := gb297) (o := .cells #[.int .i64 a1_0, .slice A1_1 l1_1.length c1_1] 39 (0, 0)) (bU6 BK297.out) NB297_302.out (by simp)); have n3_ := Aside0.mk (KeepBut.blk hk (g' := gb298) (o := .cells #[.int .i64 a2_0, .slice A2_1 l2_1.length c2_1] 39 (0, 0)) (bU6 BK298.out) NB298_302.out (by simp)); have n4_ := Aside0.mk (Kd.R_mono (Kd.R_keep (IsS58.apart (show IsS58 w _ g302 t300 t308 from by repeat (first | (with_reducible first | exact HI302.out | apply IsS58.alloc | apply IsS58.drewN | apply IsS58.drew | apply IsS58.set_1 | refine IsS58.far ?_ NB302_297.out _ | refine IsS58.far ?_ NB302_298.out _) | exact HI302.out)) (rU6 HO305.out) (by decide)) hk (fun _ h => h.2)) (fun _ h => h.1)); have n5_ := Aside0.mk (Kd.R_lower (Kd.R_newM (M := fun k_ => (w.heap.size ≤ k_)) ho0 (below_size (by repeat (first | (with_reducible first | exact HB.out | apply below_alloc | apply pw_below_drewN | apply below_drew1 | refine below_set ?_ (IsS58.ge HI302.out) | refine below_set ?_ (Aside0.out (by assumption))) | exact HB.out))) (fun k_ h_ => h_)) (below_size (by repeat (first | (with_reducible first | exact HB.out | apply below_alloc | apply pw_below_drewN | apply below_drew1 | refine below_set ?_ (IsS58.ge HI302.out) | refine below_set ?_ (Aside0.out (by assumption))) | exact HB.out)))); have n6_ := Aside0.mk (hb); have n7_ := Aside0.mk (hi); clear HO_3; clear ba0; clear BK297; clear BK298; clear HO305; clear HB; clear HI302; have HO_3 := n0_; have ba0 := n1_; have BK297 := n2_; have BK298 := n3_; have HO305 := n4_; have HO312 := n5_; have HB := n6_; have HI302 := n7_; clear n0_ n1_ n2_ n3_ n4_ n5_ n6_ n7_; (try clear hb); (try clear hb2); (try clear hk); (try clear hi); (try clear hgw); (try clear ho0)) | ((with_reducible refine gate_dst (N := 17) rfl ?_); (try (refine gate_guard (by rfl) ?_; dsimp only)); refine box_event ?hg (N := 17) ?hd (cs := #[.int .i64 0, .slice none 0 0]) (t := 39) ?hr ?_; (case hd => rfl); (case hg => rfl); (case hr => first | (go_simp; done) | (go_simp; rfl)); intro gb314 hg w36 hbox hb; have n0_ := Aside0.mk (Kd.V_below (Kd.V_elderB (vU6 HO_3.out) gb314 (Nat.le_of_eq hg.symm)) hb); have n1_ := Aside0.mk (Kd.V_below (Kd.V_elderB (vU6 ba0.out) gb314 (Nat.le_of_eq hg.symm)) hb); have n2_ := Aside0.mk (Kd.R_below (rU6 HO305.out) hb); have n3_ := Aside0.mk (Kd.R_below (rU6 HO312.out) hb); have n4_ := Aside0.mk (blk_below (g := gb297) (o := .cells #[.int .i64 a1_0, .slice A1_1 l1_1.length c1_1] 39 (0, 0)) (bU6 BK297.out) hb); have n5_ := Aside0.mk (blk_below (g := gb298) (o := .cells #[.int .i64 a2_0, .slice A2_1 l2_1.length c2_1] 39 (0, 0)) (bU6 BK298.out) hb); have n6_ := Aside0.mk (IsS58.below (by repeat (first | (with_reducible first | exact HI302.out | apply IsS58.alloc | apply IsS58.drewN | apply IsS58.drew | apply IsS58.set_1 | refine IsS58.far ?_ NB302_297.out _ | refine IsS58.far ?_ NB302_298.out _) | exact HI302.out)) hb); have n7_ := Aside0.mk (below_step (by repeat (first | (with_reducible first | exact HB.out | apply below_alloc | apply pw_below_drewN | apply below_drew1 | refine below_set ?_ (IsS58.ge HI302.out) | refine below_set ?_ (Aside0.out (by assumption))) | exact HB.out)) hb); have n8_ := Aside0.mk (hbox); have n9_ := Aside0.mk ((by rw [hg]; exact (below_size (by repeat (first | (with_reducible first | exact HB.out | apply below_alloc | apply pw_below_drewN | apply below_drew1 | refine below_set ?_ (IsS58.ge HI302.out) | refine below_set ?_ (Aside0.out (by assumption))) | exact HB.out))) : w.heap.size ≤ gb314)); have n10_ := Aside0.mk ((by rw [hg]; exact (below_size (by repeat (first | (with_reducible first | exact HB.out | apply below_alloc | apply pw_below_drewN | apply below_drew1 | refine below_set ?_ (IsS58.ge HI302.out) | refine below_set ?_ (Aside0.out (by assumption))) | exact HB.out))) : w.heap.size ≤ gb314)); have n11_ := Aside0.mk ((by rw [hg]; exact Nat.ne_of_lt (blk_lt (g := gb297) (o := .cells #[.int .i64 a1_0, .slice A1_1 l1_1.length c1_1] 39 (0, 0)) (bU6 BK297.out)) : gb297 ≠ gb314)); have n12_ := Aside0.mk ((by rw [hg]; exact Nat.ne_of_gt (blk_lt (g := gb297) (o := .cells #[.int .i64 a1_0, .slice A1_1 l1_1.length c1_1] 39 (0, 0)) (bU6 BK297.out)) : gb314 ≠ gb297)); have n13_ := Aside0.mk ((by rw [hg]; exact Nat.ne_of_lt (blk_lt (g := gb298) (o := .cells #[.int .i64 a2_0, .slice A2_1 l2_1.length c2_1] 39 (0, 0)) (bU6 BK298.out)) : gb298 ≠ gb314)); have n14_ := Aside0.mk ((by rw [hg]; exact Nat.ne_of_gt (blk_lt (g := gb298) (o := .cells #[.int .i64 a2_0, .slice A2_1 l2_1.length c2_1] 39 (0, 0)) (bU6 BK298.out)) : gb314 ≠ gb298)); have n15_ := Aside0.mk ((by rw [hg]; exact Nat.ne_of_lt (IsS58.lt (show IsS58 w _ g302 t300 t313 from by repeat (first | (with_reducible first | exact HI302.out | apply IsS58.alloc | apply IsS58.drewN | apply IsS58.drew | apply IsS58.set_1 | refine IsS58.far ?_ NB302_297.out _ | refine IsS58.far ?_ NB302_298.out _) | exact HI302.out))) : g302 ≠ gb314)); have n16_ := Aside0.mk ((by rw [hg]; exact Nat.ne_of_gt (IsS58.lt (show IsS58 w _ g302 t300 t313 from by repeat (first | (with_reducible first | exact HI302.out | apply IsS58.alloc | apply IsS58.drewN | apply IsS58.drew | apply IsS58.set_1 | refine IsS58.far ?_ NB302_297.out _ | refine IsS58.far ?_ NB302_298.out _) | exact HI302.out))) : gb314 ≠ g302)); clear HO_3; clear ba0; clear HO305; clear HO312; clear BK297; clear BK298; clear HI302; clear HB; have HO_3 := n0_; have ba0 := n1_; have HO305 := n2_; have HO312 := n3_; have BK297 := n4_; have BK298 := n5_; have HI302 := n6_; have HB := n7_; have BK314 := n8_; have GW314 := n9_; have GE314 := n10_; have NB297_314 := n11_; have NB314_297 := n12_; have NB298_314 := n13_; have NB314_298 := n14_; have NB302_314 := n15_; have NB314_302 := n16_; clear n0_ n1_ n2_ n3_ n4_ n5_ n6_ n7_ n8_ n9_ n10_ n11_ n12_ n13_ n14_ n15_ n16_; clear hb hbox hg; have hnb37 := NB314_297.out; have hnc37 := NB297_314.out; have hnb38 := NB314_298.out; have hnc38 := NB298_314.out; have hnb39 := NB314_302.out; have hnc39 := NB302_314.out; have hcz40_0 : w36.cell? ⟨gb314, 0, none⟩ = some (.int .i64 0) := (blk_cell BK314.out 0).trans rfl; have hcz40_1 : w36.cell? ⟨gb314, 1, none⟩ = some (.slice none 0 0) := (blk_cell BK314.out 1).trans rfl; have hfz40_0 := blk_frozen BK314.out 0; have hfz40_1 := blk_frozen BK314.out 1; obtain ⟨Ao41, co41, eo41⟩ := Kd.R_slice HO312.out; subst eo41) | ((with_reducible refine gate_dst (N := 18) rfl ?_); (try (refine gate_guard (by rfl) ?_; dsimp only)); refine box_event ?hg (N := 18) ?hd (cs := #[.int .i64 0, .slice none 0 0]) (t := 39) ?hr ?_; (case hd => rfl); (case hg => rfl); (case hr => first | (go_simp; done) | (go_simp; rfl)); intro gb315 hg w42 hbox hb; have n0_ := Aside0.mk (Kd.V_below (Kd.V_elderB (vU6 ((Kd.V_mono (Kd.V_far (p := ⟨gb314, 1, none⟩) (Kd.V_far (p := ⟨gb314, 0, none⟩) (Kd.V_mono HO_3.out (fun k_ hk => (⟨hk, hk.2⟩ : _ ∧ k_ ≠ gb314))) (fun _ hk => hk.2) (.int .i64 t309)) (fun _ hk => hk.2) (.slice Ao41 t310.length co41)) (fun _ h_ => h_.1)))) gb315 (Nat.le_of_eq hg.symm)) hb); have n1_ := Aside0.mk (Kd.V_below (Kd.V_elderB (vU6 ((Kd.V_mono (Kd.V_far (p := ⟨gb314, 1, none⟩) (Kd.V_far (p := ⟨gb314, 0, none⟩) (Kd.V_mono ba0.out (fun k_ hk => (⟨hk, hk.2⟩ : _ ∧ k_ ≠ gb314))) (fun _ hk => hk.2) (.int .i64 t309)) (fun _ hk => hk.2) (.slice Ao41 t310.length co41)) (fun _ h_ => h_.1)))) gb315 (Nat.le_of_eq hg.symm)) hb); have n2_ := Aside0.mk (Kd.R_below (rU6 ((Kd.R_mono (Kd.R_far (p := ⟨gb314, 1, none⟩) (Kd.R_far (p := ⟨gb314, 0, none⟩) (Kd.R_types HO305.out BK314.out (by decide)) (fun _ hk => hk.2) (.int .i64 t309)) (fun _ hk => hk.2) (.slice Ao41 t310.length co41)) (fun _ h_ => h_.1)))) hb); have n3_ := Aside0.mk (Kd.R_below (rU6 ((Kd.R_mono (Kd.R_far (p := ⟨gb314, 1, none⟩) (Kd.R_far (p := ⟨gb314, 0, none⟩) (Kd.R_types HO312.out BK314.out (by decide)) (fun _ hk => hk.2) (.int .i64 t309)) (fun _ hk => hk.2) (.slice Ao41 t310.length co41)) (fun _ h_ => h_.1)))) hb); have n4_ := Aside0.mk (blk_below (g := gb297) (o := .cells #[.int .i64 a1_0, .slice A1_1 l1_1.length c1_1] 39 (0, 0)) (by (with_reducible repeat (first | refine blk_drewN ?_ _ | refine blk_drew ?_ | refine blk_alloc ?_ _)); refine blk_far ?_ NB297_314.out _; (with_reducible repeat (first | refine blk_drewN ?_ _ | refine blk_drew ?_ | refine blk_alloc ?_ _)); refine blk_far ?_ NB297_314.out _; exact bU6 BK297.out) hb); have n5_ := Aside0.mk (blk_below (g := gb298) (o := .cells #[.int .i64 a2_0, .slice A2_1 l2_1.length c2_1] 39 (0, 0)) (by (with_reducible repeat (first | refine blk_drewN ?_ _ | refine blk_drew ?_ | refine blk_alloc ?_ _)); refine blk_far ?_ NB298_314.out _; (with_reducible repeat (first | refine blk_drewN ?_ _ | refine blk_drew ?_ | refine blk_alloc ?_ _)); refine blk_far ?_ NB298_314.out _; exact bU6 BK298.out) hb); have n6_ := Aside0.mk (IsS58.below (show IsS58 w ((w36.setCell ⟨gb314, 0, none⟩ (.int .i64 t309)).setCell ⟨gb314, 1, none⟩ (.slice Ao41 t310.length co41)) g302 t300 t313 from by repeat (first | (with_reducible first | exact HI302.out | apply IsS58.alloc | apply IsS58.drewN | apply IsS58.drew | apply IsS58.set_1 | refine IsS58.far ?_ NB302_297.out _ | refine IsS58.far ?_ NB302_298.out _ | refine IsS58.far ?_ NB302_314.out _) | exact HI302.out)) hb); have n7_ := Aside0.mk (blk_below (g := gb314) (o := .cells #[.int .i64 t309, .slice Ao41 t310.length co41] 39 (0, 0)) (by (with_reducible repeat (first | refine blk_drewN ?_ _ | refine blk_drew ?_ | refine blk_alloc ?_ _)); refine blk_put (cs := #[.int .i64 t309, .slice none 0 0]) ?_ 1 _ rfl; (with_reducible repeat (first | refine blk_drewN ?_ _ | refine blk_drew ?_ | refine blk_alloc ?_ _)); refine blk_put (cs := #[.int .i64 0, .slice none 0 0]) ?_ 0 _ rfl; exact bU6 BK314.out) hb); have n8_ := Aside0.mk (below_step (by repeat (first | (with_reducible first | exact HB.out | apply below_alloc | apply pw_below_drewN | apply below_drew1 | refine below_set ?_ (IsS58.ge HI302.out) | refine below_set ?_ (Aside0.out (by assumption))) | exact HB.out)) hb); have n9_ := Aside0.mk (hbox); have n10_ := Aside0.mk ((by rw [hg]; exact (below_size (by repeat (first | (with_reducible first | exact HB.out | apply below_alloc | apply pw_below_drewN | apply below_drew1 | refine below_set ?_ (IsS58.ge HI302.out) | refine below_set ?_ (Aside0.out (by assumption))) | exact HB.out))) : w.heap.size ≤ gb315)); have n11_ := Aside0.mk ((by rw [hg]; exact (below_size (by repeat (first | (with_reducible first | exact HB.out | apply below_alloc | apply pw_below_drewN | apply below_drew1 | refine below_set ?_ (IsS58.ge HI302.out) | refine below_set ?_ (Aside0.out (by assumption))) | exact HB.out))) : w.heap.size ≤ gb315)); have n12_ := Aside0.mk ((by rw [hg]; exact Nat.ne_of_lt (blk_lt (g := gb297) (o := .cells #[.int .i64 a1_0, .slice A1_1 l1_1.length c1_1] 39 (0, 0)) (by (with_reducible repeat (first | refine blk_drewN ?_ _ | refine blk_drew ?_ | refine blk_alloc ?_ _)); refine blk_far ?_ NB297_314.out _; (with_reducible repeat (first | refine blk_drewN ?_ _ | refine blk_drew ?_ | refine blk_alloc ?_ _)); refine blk_far ?_ NB297_314.out _; exact bU6 BK297.out)) : gb297 ≠ gb315)); have n13_ := Aside0.mk ((by rw [hg]; exact Nat.ne_of_gt (blk_lt (g := gb297) (o := .cells #[.int .i64 a1_0, .slice A1_1 l1_1.length c1_1] 39 (0, 0)) (by (with_reducible repeat (first | refine blk_drewN ?_ _ | refine blk_drew ?_ | refine blk_alloc ?_ _)); refine blk_far ?_ NB297_314.out _; (with_reducible repeat (first | refine blk_drewN ?_ _ | refine blk_drew ?_ | refine blk_alloc ?_ _)); refine blk_far ?_ NB297_314.out _; exact bU6 BK297.out)) : gb315 ≠ gb297)); have n14_ := Aside0.mk ((by rw [hg]; exact Nat.ne_of_lt (blk_lt (g := gb298) (o := .cells #[.int .i64 a2_0, .slice A2_1 l2_1.length c2_1] 39 (0, 0)) (by (with_reducible repeat (first | refine blk_drewN ?_ _ | refine blk_drew ?_ | refine blk_alloc ?_ _)); refine blk_far ?_ NB298_314.out _; (with_reducible repeat (first | refine blk_drewN ?_ _ | refine blk_drew ?_ | refine blk_alloc ?_ _)); refine blk_far ?_ NB298_314.out _; exact bU6 BK298.out)) : gb298 ≠ gb315)); have n15_ := Aside0.mk ((by rw [hg]; exact Nat.ne_of_gt (blk_lt (g := gb298) (o := .cells #[.int .i64 a2_0, .slice A2_1 l2_1.length c2_1] 39 (0, 0)) (by (with_reducible repeat (first | refine blk_drewN ?_ _ | refine blk_drew ?_ | refine blk_alloc ?_ _)); refine blk_far ?_ NB298_314.out _; (with_reducible repeat (first | refine blk_drewN ?_ _ | refine blk_drew ?_ | refine blk_alloc ?_ _)); refine blk_far ?_ NB298_314.out _; exact bU6 BK298.out)) : gb315 ≠ gb298)); have n16_ := Aside0.mk ((by rw [hg]; exact Nat.ne_of_lt (blk_lt (g := gb314) (o := .cells #[.int .i64 t309, .slice Ao41 t310.length co41] 39 (0, 0)) (by (with_reducible repeat (first | refine blk_drewN ?_ _ | refine blk_drew ?_ | refine blk_alloc ?_ _)); refine blk_put (cs := #[.int .i64 t309, .slice none 0 0]) ?_ 1 _ rfl; (with_reducible repeat (first | refine blk_drewN ?_ _ | refine blk_drew ?_ | refine blk_alloc ?_ _)); refine blk_put (cs := #[.int .i64 0, .slice none 0 0]) ?_ 0 _ rfl; exact bU6 BK314.out)) : gb314 ≠ gb315)); have n17_ := Aside0.mk ((by rw [hg]; exact Nat.ne_of_gt (blk_lt (g := gb314) (o := .cells #[.int .i64 t309, .slice Ao41 t310.length co41] 39 (0, 0)) (by (with_reducible repeat (first | refine blk_drewN ?_ _ | refine blk_drew ?_ | refine blk_alloc ?_ _)); refine blk_put (cs := #[.int .i64 t309, .slice none 0 0]) ?_ 1 _ rfl; (with_reducible repeat (first | refine blk_drewN ?_ _ | refine blk_drew ?_ | refine blk_alloc ?_ _)); refine blk_put (cs := #[.int .i64 0, .slice none 0 0]) ?_ 0 _ rfl; exact bU6 BK314.out)) : gb315 ≠ gb314)); have n18_ := Aside0.mk ((by rw [hg]; exact Nat.ne_of_lt (IsS58.lt (show IsS58 w _ g302 t300 t313 from by repeat (first | (with_reducible first | exact HI302.out | apply IsS58.alloc | apply IsS58.drewN | apply IsS58.drew | apply IsS58.set_1 | refine IsS58.far ?_ NB302_297.out _ | refine IsS58.far ?_ NB302_298.out _ | refine IsS58.far ?_ NB302_314.out _) | exact HI302.out))) : g302 ≠ gb315)); have n19_ := Aside0.mk ((by rw [hg]; exact Nat.ne_of_gt (IsS58.lt (show IsS58 w _ g302 t300 t313 from by repeat (first | (with_reducible first | exact HI302.out | apply IsS58.alloc | apply IsS58.drewN | apply IsS58.drew | apply IsS58.set_1 | refine IsS58.far ?_ NB302_297.out _ | refine IsS58.far ?_ NB302_298.out _ | refine IsS58.far ?_ NB302_314.out _) | exact HI302.out))) : gb315 ≠ g302)); clear HO_3; clear ba0; clear HO305; clear HO312; clear BK297; clear BK298; clear HI302; clear BK314; clear HB; have HO_3 := n0_; have ba0 := n1_; have HO305 := n2_; have HO312 := n3_; have BK297 := n4_; have BK298 := n5_; have HI302 := n6_; have BK314 := n7_; have HB := n8_; have BK315 := n9_; have GW315 := n10_; have GE315 := n11_; have NB297_315 := n12_; have NB315_297 := n13_; have NB298_315 := n14_; have NB315_298 := n15_; have NB314_315 := n16_; have NB315_314 := n17_; have NB302_315 := n18_; have NB315_302 := n19_; clear n0_ n1_ n2_ n3_ n4_ n5_ n6_ n7_ n8_ n9_ n10_ n11_ n12_ n13_ n14_ n15_ n16_ n17_ n18_ n19_; clear hb hbox hg; have hnb43 := NB315_297.out; have hnc43 := NB297_315.out; have hnb44 := NB315_298.out; have hnc44 := NB298_315.out; have hnb45 := NB315_314.out; have hnc45 := NB314_315.out; have hnb46 := NB315_302.out; have hnc46 := NB302_315.out; have hcz47_0 : w42.cell? ⟨gb315, 0, none⟩ = some (.int .i64 0) := (blk_cell BK315.out 0).trans rfl; have hcz47_1 : w42.cell? ⟨gb315, 1, none⟩ = some (.slice none 0 0) := (blk_cell BK315.out 1).trans rfl; have hfz47_0 := blk_frozen BK315.out 0; have hfz47_1 := blk_frozen BK315.out 1) | ((with_reducible refine gate_dst (N := 59) rfl ?_); (try (refine gate_guard (by rfl) ?_; dsimp only)); refine Kd.R_lit k51 _ 51 ?hg (N := 59) ?hd (xs := ([] : List (S51))) (inner := []) (ok := fun _ => True) (okp := fun _ => True) ?hr ?hp (fun _ hk => hk) trivial (Below.refl _ _) (Nat.le_refl _) (by simp) ?_; (case hd => rfl); (case hg => rfl); (case hr => first | (go_simp; done) | (go_simp; rfl)); (case hp => exact (Reps.none _ _)); intro v317 w48 ho49 hb hg_ hnew_; clear hg_ hnew_; (first | rw [← Ny316.out] at ho49 | (simp only [Int.reduceToNat] at ho49; rw [← Ny316.out] at ho49)); have n0_ := Aside0.mk (Kd.V_elder' (vU6 ((Kd.V_mono (Kd.V_far (p := ⟨gb315, 1, none⟩) (Kd.V_far (p := ⟨gb315, 0, none⟩) (Kd.V_mono HO_3.out (fun k_ hk => (⟨hk, hk.2⟩ : _ ∧ k_ ≠ gb315))) (fun _ hk => hk.2) (.int .i64 t309)) (fun _ hk => hk.2) (.slice Ao41 t310.length co41)) (fun _ h_ => h_.1)))) (Kd.R_base ho49) hb); have n1_ := Aside0.mk (Kd.V_elder' (vU6 ((Kd.V_mono (Kd.V_far (p := ⟨gb315, 1, none⟩) (Kd.V_far (p := ⟨gb315, 0, none⟩) (Kd.V_mono ba0.out (fun k_ hk => (⟨hk, hk.2⟩ : _ ∧ k_ ≠ gb315))) (fun _ hk => hk.2) (.int .i64 t309)) (fun _ hk => hk.2) (.slice Ao41 t310.length co41)) (fun _ h_ => h_.1)))) (Kd.R_base ho49) hb); have n2_ := Aside0.mk (Kd.R_below (rU6 ((Kd.R_mono (Kd.R_far (p := ⟨gb315, 1, none⟩) (Kd.R_far (p := ⟨gb315, 0, none⟩) (Kd.R_types HO305.out BK315.out (by decide)) (fun _ hk => hk.2) (.int .i64 t309)) (fun _ hk => hk.2) (.slice Ao41 t310.length co41)) (fun _ h_ => h_.1)))) hb); have n3_ := Aside0.mk (Kd.R_elder' (rU6 ((Kd.R_mono (Kd.R_far (p := ⟨gb315, 1, none⟩) (Kd.R_far (p := ⟨gb315, 0, none⟩) (Kd.R_types HO312.out BK315.out (by decide)) (fun _ hk => hk.2) (.int .i64 t309)) (fun _ hk => hk.2) (.slice Ao41 t310.length co41)) (fun _ h_ => h_.1)))) (Kd.R_base ho49) hb); have n4_ := Aside0.mk (Kd.R_lower (Kd.R_new' (Kd.R_newM (M := fun k_ => (w.heap.size ≤ k_)) ho49 (below_size (by repeat (first | (with_reducible first | exact HB.out | apply below_alloc | apply pw_below_drewN | apply below_drew1 | refine below_set ?_ (IsS58.ge HI302.out) | refine below_set ?_ (Aside0.out (by assumption))) | exact HB.out))) (fun k_ h_ => h_)) (Kd.R_lt (rU6 ((Kd.R_mono (Kd.R_far (p := ⟨gb315, 1, none⟩) (Kd.R_far (p := ⟨gb315, 0, none⟩) (Kd.R_types HO312.out BK315.out (by decide)) (fun _ hk => hk.2) (.int .i64 t309)) (fun _ hk => hk.2) (.slice Ao41 t310.length co41)) (fun _ h_ => h_.1)))))) (below_size (by repeat (first | (with_reducible first | exact HB.out | apply below_alloc | apply pw_below_drewN | apply below_drew1 | refine below_set ?_ (IsS58.ge HI302.out) | refine below_set ?_ (Aside0.out (by assumption))) | exact HB.out)))); have n5_ := Aside0.mk (blk_below (g := gb297) (o := .cells #[.int .i64 a1_0, .slice A1_1 l1_1.length c1_1] 39 (0, 0)) (by (with_reducible repeat (first | refine blk_drewN ?_ _ | refine blk_drew ?_ | refine blk_alloc ?_ _)); refine blk_far ?_ NB297_315.out _; (with_reducible repeat (first | refine blk_drewN ?_ _ | refine blk_drew ?_ | refine blk_alloc ?_ _)); refine blk_far ?_ NB297_315.out _; exact bU6 BK297.out) hb); have n6_ := Aside0.mk (blk_below (g := gb298) (o := .cells #[.int .i64 a2_0, .slice A2_1 l2_1.length c2_1] 39 (0, 0)) (by (with_reducible repeat (first | refine blk_drewN ?_ _ | refine blk_drew ?_ | refine blk_alloc ?_ _)); refine blk_far ?_ NB298_315.out _; (with_reducible repeat (first | refine blk_drewN ?_ _ | refine blk_drew ?_ | refine blk_alloc ?_ _)); refine blk_far ?_ NB298_315.out _; exact bU6 BK298.out) hb); have n7_ := Aside0.mk (IsS58.below (show IsS58 w ((w42.setCell ⟨gb315, 0, none⟩ (.int .i64 t309)).setCell ⟨gb315, 1, none⟩ (.slice Ao41 t310.length co41)) g302 t300 t313 from by repeat (first | (with_reducible first | exact HI302.out | apply IsS58.alloc | apply IsS58.drewN | apply IsS58.drew | apply IsS58.set_1 | refine IsS58.far ?_ NB302_297.out _ | refine IsS58.far ?_ NB302_298.out _ | refine IsS58.far ?_ NB302_314.out _ | refine IsS58.far ?_ NB302_315.out _) | exact HI302.out)) hb); have n8_ := Aside0.mk (blk_below (g := gb314) (o := .cells #[.int .i64 t309, .slice Ao41 t310.length co41] 39 (0, 0)) (by (with_reducible repeat (first | refine blk_drewN ?_ _ | refine blk_drew ?_ | refine blk_alloc ?_ _)); refine blk_far ?_ NB314_315.out _; (with_reducible repeat (first | refine blk_drewN ?_ _ | refine blk_drew ?_ | refine blk_alloc ?_ _)); refine blk_far ?_ NB314_315.out _; exact bU6 BK314.out) hb); have n9_ := Aside0.mk (blk_below (g := gb315) (o := .cells #[.int .i64 t309, .slice Ao41 t310.length co41] 39 (0, 0)) (by (with_reducible repeat (first | refine blk_drewN ?_ _ | refine blk_drew ?_ | refine blk_alloc ?_ _)); refine blk_put (cs := #[.int .i64 t309, .slice none 0 0]) ?_ 1 _ rfl; (with_reducible repeat (first | refine blk_drewN ?_ _ | refine blk_drew ?_ | refine blk_alloc ?_ _)); refine blk_put (cs := #[.int .i64 0, .slice none 0 0]) ?_ 0 _ rfl; exact bU6 BK315.out) hb); have n10_ := Aside0.mk (below_step (by repeat (first | (with_reducible first | exact HB.out | apply below_alloc | apply pw_below_drewN | apply below_drew1 | refine below_set ?_ (IsS58.ge HI302.out) | refine below_set ?_ (Aside0.out (by assumption))) | exact HB.out)) hb); clear HO_3; clear ba0; clear HO305; clear HO312; clear BK297; clear BK298; clear HI302; clear BK314; clear BK315; clear HB; have HO_3 := n0_; have ba0 := n1_; have HO305 := n2_; have HO312 := n3_; have HO318 := n4_; have BK297 := n5_; have BK298 := n6_; have HI302 := n7_; have BK314 := n8_; have BK315 := n9_; have HB := n10_; clear n0_ n1_ n2_ n3_ n4_ n5_ n6_ n7_ n8_ n9_ n10_; clear hb ho49; have hcz50_0 : w48.cell? ⟨gb314, 0, none⟩ = some (.int .i64 t309) := (blk_cell BK314.out 0).trans rfl; have hcz50_1 : w48.cell? ⟨gb314, 1, none⟩ = some (.slice Ao41 t310.length co41) := (blk_cell BK314.out 1).trans rfl; have hfz50_0 := blk_frozen BK314.out 0; have hfz50_1 := blk_frozen BK314.out 1) | ((with_reducible refine gate_builtin (b := .append) (xs := #[.tmp 59, .tmp 61]) rfl ?_); (try (refine gate_guard (by rfl) ?_; dsimp only)); at_builtin; refine Kd.R_append_rows k51 (w0 := w) w.heap.size rfl (.tmp 59) (.tmp 61) 37 51 (.agg #[(.int .i64 0), (.int .i64 0)]) 16 rfl Tryd.underlying37 info51 rfl (by decide) (by omega) v317 y316 t310 _ _ _ (fun k_ => (w.heap.size ≤ k_) ∧ some k_ ≠ (.slice Ao41 t310.length co41 : Value).ownBlock) (fun _ => False) rfl rfl ?aO ?aR (fun _ _ h => h) (fun _ h => h.elim) ?aF ?aB ?aS ?aL ?_; (case aR => first | exact (Kd.R_reads' HO312.out).2.2 | exact cU6 (Kd.R_reads' HO312.out).2.2); (case aB => exact (by repeat (first | (with_reducible first | exact HB.out | apply below_alloc | apply pw_below_drewN | apply below_drew1 | refine below_set ?_ (IsS58.ge HI302.out) | refine below_set ?_ (Aside0.out (by assumption))) | exact HB.out))); (case aF => exact (fun k_ hk => ⟨(Nat.le_trans (below_size (by repeat (first | (with_reducible first | exact HB.out | apply below_alloc | apply pw_below_drewN | apply below_drew1 | refine below_set ?_ (IsS58.ge HI302.out) | refine below_set ?_ (Aside0.out (by assumption))) | exact HB.out))) hk), Kd.fresh' (Kd.R_lt (rU6 HO312.out)) k_ hk⟩)); (case aO => exact (rU6 (Kd.R_mono HO318.out (fun _ hk => ⟨hk.1.1, hk.2⟩)))); (case aS => exact (below_size (by repeat (first | (with_reducible first | exact HB.out | apply below_alloc | apply pw_below_drewN | apply below_drew1 | refine below_set ?_ (IsS58.ge HI302.out) | refine below_set ?_ (Aside0.out (by assumption))) | exact HB.out)))); (case aL => have := LMc29.out; omega); intro v320 w51 ho hb hg hat; rw [← Ny319.out] at ho; have n0_ := Aside0.mk (Kd.V_afterv (ok := (fun k_ => ((P1_1_ k_ ∨ P3_ k_) ∨ w.heap.size ≤ k_) ∧ some k_ ≠ (.slice Ao34 t303.length co34 : Value).ownBlock ∧ some k_ ≠ (.slice Ao41 t310.length co41 : Value).ownBlock ∧ k_ ≠ gb297 ∧ k_ ≠ gb298 ∧ k_ ≠ g302 ∧ k_ ≠ gb314 ∧ k_ ≠ gb315)) (vU6 (Kd.V_mono HO_3.out (fun _ hk => ⟨⟨hk.1.1.1.1.1.1.1, ⟨hk.1.1.1.1.2, ⟨hk.1.1.1.2, ⟨hk.1.1.1.1.1.1.2.1, ⟨hk.1.1.1.1.1.1.2.2, ⟨hk.1.1.1.1.1.2, ⟨hk.1.1.2, hk.1.2⟩⟩⟩⟩⟩⟩⟩, hk.2⟩))) hg hat); have n1_ := Aside0.mk (Kd.V_afterv (ok := (fun k_ => ((P1_1_ k_ ∨ P3_ k_) ∨ w.heap.size ≤ k_) ∧ some k_ ≠ (.slice Ao34 t303.length co34 : Value).ownBlock ∧ some k_ ≠ (.slice Ao41 t310.length co41 : Value).ownBlock ∧ k_ ≠ gb297 ∧ k_ ≠ gb298 ∧ k_ ≠ g302 ∧ k_ ≠ gb314 ∧ k_ ≠ gb315)) (vU6 (Kd.V_mono ba0.out (fun _ hk => ⟨⟨hk.1.1.1.1.1.1.1, ⟨hk.1.1.1.1.2, ⟨hk.1.1.1.2, ⟨hk.1.1.1.1.1.1.2.1, ⟨hk.1.1.1.1.1.1.2.2, ⟨hk.1.1.1.1.1.2, ⟨hk.1.1.2, hk.1.2⟩⟩⟩⟩⟩⟩⟩, hk.2⟩))) hg hat); have n2_ := Aside0.mk (blk_grown (g := gb297) (o := .cells #[.int .i64 a1_0, .slice A1_1 l1_1.length c1_1] 39 (0, 0)) (bU6 BK297.out) hg (Kd.R_ne HO318.out BK297.out (by decide))); have n3_ := Aside0.mk (blk_grown (g := gb298) (o := .cells #[.int .i64 a2_0, .slice A2_1 l2_1.length c2_1] 39 (0, 0)) (bU6 BK298.out) hg (Kd.R_ne HO318.out BK298.out (by decide))); have n4_ := Aside0.mk (IsS58.grown (by repeat (first | (with_reducible first | exact HI302.out | apply IsS58.alloc | apply IsS58.drewN | apply IsS58.drew | apply IsS58.set_1 | refine IsS58.far ?_ NB302_297.out _ | refine IsS58.far ?_ NB302_298.out _ | refine IsS58.far ?_ NB302_314.out _ | refine IsS58.far ?_ NB302_315.out _) | exact HI302.out)) hg (IsS58.own_ne HI302.out HO318.out (by decide))); have n5_ := Aside0.mk (Kd.R_over' (rU6 HO305.out) (Kd.R_typed (rU6 HO318.out)) (by decide) hg); have n6_ := Aside0.mk (Kd.R_after (ok := (fun k_ => (w.heap.size ≤ k_))) (rU6 (Kd.R_mono HO312.out (fun _ hk => ⟨hk.1.1, hk.2⟩))) hg hat); have n7_ := Aside0.mk (blk_grown (g := gb314) (o := .cells #[.int .i64 t309, .slice Ao41 t310.length co41] 39 (0, 0)) (bU6 BK314.out) hg (Kd.R_ne HO318.out BK314.out (by decide))); have n8_ := Aside0.mk (blk_grown (g := gb315) (o := .cells #[.int .i64 t309, .slice Ao41 t310.length co41] 39 (0, 0)) (bU6 BK315.out) hg (Kd.R_ne HO318.out BK315.out (by decide))); have n9_ := Aside0.mk (hb); have n10_ := Aside0.mk (ho); clear HO_3; clear ba0; clear BK297; clear BK298; clear HI302; clear HO305; clear HO312; clear BK314; clear BK315; clear HB; clear HO318; have HO_3 := n0_; have ba0 := n1_; have BK297 := n2_; have BK298 := n3_; have HI302 := n4_; have HO305 := n5_; have HO312 := n6_; have BK314 := n7_; have BK315 := n8_; have HB := n9_; have HO321 := n10_; clear n0_ n1_ n2_ n3_ n4_ n5_ n6_ n7_ n8_ n9_ n10_; clear ho hb hg hat; obtain ⟨Ao52, co52, eo52⟩ := Kd.R_slice HO321.out; subst eo52; have hcz53_0 : w51.cell? ⟨gb315, 0, none⟩ = some (.int .i64 t309) := (blk_cell BK315.out 0).trans rfl; have hcz53_1 : w51.cell? ⟨gb315, 1, none⟩ = some (.slice Ao41 t310.length co41) := (blk_cell BK315.out 1).trans rfl; have hfz53_0 := blk_frozen BK315.out 0; have hfz53_1 := blk_frozen BK315.out 1))
   (try simp only [Act.put, List.setIfInBounds_toArray, List.set_cons_zero, List.set_cons_succ])
   go_cut [] (fun wc => ∃ (kq : Nat) (ba3 : List (S51)) (bam : Int) (ba1 : List (S51)) (ba8 : List (S51)) (u298001 : Value) (u315001 : Value) (u316001 : Value), Aside0 (storagebarterlaw30_DeviationSteps.j1 kq l3 a4 a5 a6 t303 a1_0 ba3 a2_0 l2_1 t300 bam t309 ba1 t309 ba8 = some r) ∧ Aside0 (kq ≤ kj9) ∧ Aside0 (Kd.V k56 56 wc w.heap.size (fun k_ => ((P1_1_ k_ ∨ P3_ k_) ∨ w.heap.size ≤ k_) ∧ some k_ ≠ ((.slice Ao34 t303.length co34) : Value).ownBlock ∧ some k_ ≠ (u315001 : Value).ownBlock ∧ some k_ ≠ (u316001 : Value).ownBlock ∧ k_ ≠ gb297 ∧ k_ ≠ gb298 ∧ k_ ≠ gb314 ∧ k_ ≠ gb315 ∧ k_ ≠ g302) (.slice A3 l3.length c3) l3) ∧ Aside0 (Kd.R k56 56 wc w.heap.size (fun k_ => (w.heap.size ≤ k_)) (.slice Ao34 t303.length co34) t303) ∧ Aside0 (Kd.V k51 51 wc w.heap.size (fun k_ => ((P1_1_ k_ ∨ P3_ k_) ∨ w.heap.size ≤ k_) ∧ some k_ ≠ ((.slice Ao34 t303.length co34) : Value).ownBlock ∧ some k_ ≠ (u315001 : Value).ownBlock ∧ some k_ ≠ (u316001 : Value).ownBlock ∧ k_ ≠ gb297 ∧ k_ ≠ gb298 ∧ k_ ≠ gb314 ∧ k_ ≠ gb315 ∧ k_ ≠ g302) u298001 ba3) ∧ Aside0 (Kd.R k51 51 wc w.heap.size (fun k_ => (w.heap.size ≤ k_) ∧ some k_ ≠ (u316001 : Value).ownBlock) u315001 ba1) ∧ Aside0 (Kd.R k51 51 wc w.heap.size (fun k_ => (w.heap.size ≤ k_) ∧ some k_ ≠ (u315001 : Value).ownBlock) u316001 ba8) ∧ Aside0 (wc.heap[gb297]? = some (.cells #[.int .i64 a1_0, u298001] 39 (0, 0))) ∧ Aside0 (wc.heap[gb298]? = some (.cells #[.int .i64 a2_0, (.slice A2_1 l2_1.length c2_1)] 39 (0, 0))) ∧ Aside0 (wc.heap[gb314]? = some (.cells #[.int .i64 t309, u315001] 39 (0, 0))) ∧ Aside0 (wc.heap[gb315]? = some (.cells #[.int .i64 t309, u316001] 39 (0, 0))) ∧ Aside0 (IsS58 w wc g302 t300 bam) ∧ Aside0 (Below w.heap.size w wc))
   case first =>
    have H := HC30.out
    clear HC30
    by_cases c54 : (y319.length : Int) > 0
    case neg =>
     rw [if_neg c54] at H
     have c54b0 : decide (0 < (y319.length : Int)) = false := decide_eq_false c54
     have c54b1 : decide (0 < y319.length) = false := decide_eq_false (by omega)
     clear c54
     (first | rw [c54b0] | rw [c54b1] | (simp only [i64_w, i32_w]; rw [c54b0]) | skip)
     have H' := Aside0.mk H
     clear H
     go_wp2
     go_meet
     case rel => exact ⟨_, (l1_1), (t313), (t310), (y319), (.slice A1_1 l1_1.length c1_1), (.slice Ao41 t310.length co41), (.slice Ao52 y319.length co52), H', ⟨by have := HJ9.out; first | omega | exact Nat.le_refl _⟩, ⟨by (with_reducible repeat (first | apply Kd.V_alloc | apply Kd.V_drewN | apply Kd.V_drew)); exact Kd.V_mono (Kd.V_far (p := ⟨gb315, 1, none⟩) (Kd.V_mono HO_3.out (fun k_ hk => (⟨hk, hk.1.2.2.2.2.2.2.2⟩ : _ ∧ k_ ≠ gb315))) (fun _ hk => hk.2) (.slice Ao52 y319.length co52)) (fun _ hk => ⟨hk.1.1.1, ⟨hk.1.1.2.1, ⟨hk.1.1.2.2.1, ⟨hk.1.2, ⟨hk.1.1.2.2.2.1, ⟨hk.1.1.2.2.2.2.1, ⟨hk.1.1.2.2.2.2.2.2.1, ⟨hk.1.1.2.2.2.2.2.2.2, hk.1.1.2.2.2.2.2.1⟩⟩⟩⟩⟩⟩⟩⟩)⟩, ⟨by (with_reducible repeat (first | apply Kd.R_alloc | apply Kd.R_drewN | apply Kd.R_drew)); exact Kd.R_mono (Kd.R_far (p := ⟨gb315, 1, none⟩) (Kd.R_types HO305.out BK315.out (by decide)) (fun _ hk => hk.2) (.slice Ao52 y319.length co52)) (fun _ hk => hk.1.1)⟩, ⟨by (with_reducible repeat (first | apply Kd.V_alloc | apply Kd.V_drewN | apply Kd.V_drew)); exact Kd.V_mono (Kd.V_far (p := ⟨gb315, 1, none⟩) (Kd.V_mono ba0.out (fun k_ hk => (⟨hk, hk.1.2.2.2.2.2.2.2⟩ : _ ∧ k_ ≠ gb315))) (fun _ hk => hk.2) (.slice Ao52 y319.length co52)) (fun _ hk => ⟨hk.1.1.1, ⟨hk.1.1.2.1, ⟨hk.1.1.2.2.1, ⟨hk.1.2, ⟨hk.1.1.2.2.2.1, ⟨hk.1.1.2.2.2.2.1, ⟨hk.1.1.2.2.2.2.2.2.1, ⟨hk.1.1.2.2.2.2.2.2.2, hk.1.1.2.2.2.2.2.1⟩⟩⟩⟩⟩⟩⟩⟩)⟩, ⟨by (with_reducible repeat (first | apply Kd.R_alloc | apply Kd.R_drewN | apply Kd.R_drew)); exact Kd.R_mono (Kd.R_far (p := ⟨gb315, 1, none⟩) (Kd.R_types HO312.out BK315.out (by decide)) (fun _ hk => hk.2) (.slice Ao52 y319.length co52)) (fun _ hk => ⟨hk.1.1, hk.1.2⟩)⟩, ⟨by (with_reducible repeat (first | apply Kd.R_alloc | apply Kd.R_drewN | apply Kd.R_drew)); exact Kd.R_mono (Kd.R_far (p := ⟨gb315, 1, none⟩) (Kd.R_types HO321.out BK315.out (by decide)) (fun _ hk => hk.2) (.slice Ao52 y319.length co52)) (fun _ hk => ⟨hk.1.1, hk.1.2⟩)⟩, ⟨by (with_reducible repeat (first | refine blk_drewN ?_ _ | refine blk_drew ?_ | refine blk_alloc ?_ _)); refine blk_far ?_ NB297_315.out _; exact bU6 BK297.out⟩, ⟨by (with_reducible repeat (first | refine blk_drewN ?_ _ | refine blk_drew ?_ | refine blk_alloc ?_ _)); refine blk_far ?_ NB298_315.out _; exact bU6 BK298.out⟩, ⟨by (with_reducible repeat (first | refine blk_drewN ?_ _ | refine blk_drew ?_ | refine blk_alloc ?_ _)); refine blk_far ?_ NB314_315.out _; exact bU6 BK314.out⟩, ⟨by (with_reducible repeat (first | refine blk_drewN ?_ _ | refine blk_drew ?_ | refine blk_alloc ?_ _)); refine blk_put (cs := #[.int .i64 t309, .slice Ao41 t310.length co41]) ?_ 1 _ rfl; exact bU6 BK315.out⟩, ⟨by repeat (first | (with_reducible first | exact HI302.out | apply IsS58.alloc | apply IsS58.drewN | apply IsS58.drew | apply IsS58.set_1 | refine IsS58.far ?_ NB302_297.out _ | refine IsS58.far ?_ NB302_298.out _ | refine IsS58.far ?_ NB302_314.out _ | refine IsS58.far ?_ NB302_315.out _) | exact HI302.out)⟩, ⟨by repeat (first | (with_reducible first | exact HB.out | apply below_alloc | apply pw_below_drewN | apply below_drew1 | refine below_set ?_ (IsS58.ge HI302.out) | refine below_set ?_ (Aside0.out (by assumption))) | exact HB.out)⟩⟩
    rw [if_pos c54] at H
    have c54b0 : decide (0 < (y319.length : Int)) = true := decide_eq_true c54
    have c54b1 : decide (0 < y319.length) = true := decide_eq_true (by omega)
    clear c54
    (first | rw [c54b0] | rw [c54b1] | (simp only [i64_w, i32_w]; rw [c54b0]) | skip)
    replace H := Option.bind_eq_some_iff.mp H
    obtain ⟨⟨t322, t323⟩, A550, H⟩ := H
    replace H : (if 0 ≤ t322 then (if t322 < (y319.length : Int) then ((storagebarterplay_Dice_Pick.f t300 t323 3).bind fun bt325 => (storagebarterlaw30_DeviationSteps.j1 kj9 l3 a4 a5 a6 t303 a1_0 l1_1 a2_0 l2_1 t300 bt325.2 t309 t310 t309 (y319.set (t322 : Int).toNat (⟨wrap64 (((rd_T51 y319 t322).f0) + (wrap64 (bt325.1 - 1))), (rd_T51 y319 t322).f1⟩ : S51)))) else (none)) else (none)) = some r := H
    have A55 := Aside0.mk A550
    clear A550
    by_cases c56 : 0 ≤ t322
    case neg =>
     rw [if_neg c56] at H
     exact absurd H (by simp)
    rw [if_pos c56] at H
    have c56b0 : decide (0 ≤ t322) = true := decide_eq_true c56
    clear c56
    by_cases c57 : t322 < (y319.length : Int)
    case neg =>
     rw [if_neg c57] at H
     exact absurd H (by simp)
    rw [if_pos c57] at H
    have c57b0 : decide (t322 < (y319.length : Int)) = true := decide_eq_true c57
    clear c57
    replace H := Option.bind_eq_some_iff.mp H
    obtain ⟨⟨t325, t326⟩, A580, H⟩ := H
    replace H : (storagebarterlaw30_DeviationSteps.j1 kj9 l3 a4 a5 a6 t303 a1_0 l1_1 a2_0 l2_1 t300 t326 t309 t310 t309 (y319.set (t322 : Int).toNat (⟨wrap64 (((rd_T51 y319 t322).f0) + (wrap64 (t325 - 1))), (rd_T51 y319 t322).f1⟩ : S51))) = some r := H
    have A58 := Aside0.mk A580
    clear A580
    obtain ⟨y327, hy327⟩ : ∃ y_ : List (S51), y_ = (y319.set (t322 : Int).toNat (⟨wrap64 (((rd_T51 y319 t322).f0) + (wrap64 (t325 - 1))), (rd_T51 y319 t322).f1⟩ : S51)) := ⟨_, rfl⟩
    replace H : (storagebarterlaw30_DeviationSteps.j1 kj9 l3 a4 a5 a6 t303 a1_0 l1_1 a2_0 l2_1 t300 t326 t309 t310 t309 y327) = some r := by first | (rw [hy327]; with_reducible exact H) | (have H2_ := (Option.bind_some _ _).symm.trans H; rw [hy327]; with_reducible exact H2_) | (have H2_ := (Option.bind_some _ _).symm.trans H; with_reducible exact H2_) | with_reducible exact H | (rw [hy327]; exact H) | exact H
    have Ny327 := Aside0.mk hy327
    clear hy327
    have H' := Aside0.mk H
    clear H
    try go_wp2
    have n0_ : Aside0 (Kd.V k56 56 (w51.setCell ⟨gb315, 1, none⟩ (.slice Ao52 y319.length co52)) w.heap.size (fun k_ => ((P1_1_ k_ ∨ P3_ k_) ∨ w.heap.size ≤ k_) ∧ some k_ ≠ (.slice Ao34 t303.length co34 : Value).ownBlock ∧ some k_ ≠ (.slice Ao41 t310.length co41 : Value).ownBlock ∧ some k_ ≠ (.slice Ao52 y319.length co52 : Value).ownBlock ∧ k_ ≠ gb297 ∧ k_ ≠ gb298 ∧ k_ ≠ g302 ∧ k_ ≠ gb314 ∧ k_ ≠ gb315) (.slice A3 l3.length c3) l3) := ⟨by (with_reducible repeat (first | apply Kd.V_alloc | apply Kd.V_drewN | apply Kd.V_drew)); exact Kd.V_mono (Kd.V_far (p := ⟨gb315, 1, none⟩) (Kd.V_mono HO_3.out (fun k_ hk => (⟨hk, hk.1.2.2.2.2.2.2.2⟩ : _ ∧ k_ ≠ gb315))) (fun _ hk => hk.2) (.slice Ao52 y319.length co52)) (fun _ hk => ⟨hk.1.1.1, ⟨hk.1.1.2.1, ⟨hk.1.1.2.2.1, ⟨hk.1.2, ⟨hk.1.1.2.2.2.1, ⟨hk.1.1.2.2.2.2.1, ⟨hk.1.1.2.2.2.2.2.1, ⟨hk.1.1.2.2.2.2.2.2.1, hk.1.1.2.2.2.2.2.2.2⟩⟩⟩⟩⟩⟩⟩⟩)⟩
    have n1_ : Aside0 (Kd.V k51 51 (w51.setCell ⟨gb315, 1, none⟩ (.slice Ao52 y319.length co52)) w.heap.size (fun k_ => ((P1_1_ k_ ∨ P3_ k_) ∨ w.heap.size ≤ k_) ∧ some k_ ≠ (.slice Ao34 t303.length co34 : Value).ownBlock ∧ some k_ ≠ (.slice Ao41 t310.length co41 : Value).ownBlock ∧ some k_ ≠ (.slice Ao52 y319.length co52 : Value).ownBlock ∧ k_ ≠ gb297 ∧ k_ ≠ gb298 ∧ k_ ≠ g302 ∧ k_ ≠ gb314 ∧ k_ ≠ gb315) (.slice A1_1 l1_1.length c1_1) l1_1) := ⟨by (with_reducible repeat (first | apply Kd.V_alloc | apply Kd.V_drewN | apply Kd.V_drew)); exact Kd.V_mono (Kd.V_far (p := ⟨gb315, 1, none⟩) (Kd.V_mono ba0.out (fun k_ hk => (⟨hk, hk.1.2.2.2.2.2.2.2⟩ : _ ∧ k_ ≠ gb315))) (fun _ hk => hk.2) (.slice Ao52 y319.length co52)) (fun _ hk => ⟨hk.1.1.1, ⟨hk.1.1.2.1, ⟨hk.1.1.2.2.1, ⟨hk.1.2, ⟨hk.1.1.2.2.2.1, ⟨hk.1.1.2.2.2.2.1, ⟨hk.1.1.2.2.2.2.2.1, ⟨hk.1.1.2.2.2.2.2.2.1, hk.1.1.2.2.2.2.2.2.2⟩⟩⟩⟩⟩⟩⟩⟩)⟩
    have n2_ : Aside0 (Kd.R k56 56 (w51.setCell ⟨gb315, 1, none⟩ (.slice Ao52 y319.length co52)) w.heap.size (fun k_ => (w.heap.size ≤ k_)) (.slice Ao34 t303.length co34) t303) := ⟨by (with_reducible repeat (first | apply Kd.R_alloc | apply Kd.R_drewN | apply Kd.R_drew)); exact Kd.R_mono (Kd.R_far (p := ⟨gb315, 1, none⟩) (Kd.R_types HO305.out BK315.out (by decide)) (fun _ hk => hk.2) (.slice Ao52 y319.length co52)) (fun _ hk => hk.1.1)⟩
    have n3_ : Aside0 (Kd.R k51 51 (w51.setCell ⟨gb315, 1, none⟩ (.slice Ao52 y319.length co52)) w.heap.size (fun k_ => (w.heap.size ≤ k_) ∧ some k_ ≠ (.slice Ao52 y319.length co52 : Value).ownBlock) (.slice Ao41 t310.length co41) t310) := ⟨by (with_reducible repeat (first | apply Kd.R_alloc | apply Kd.R_drewN | apply Kd.R_drew)); exact Kd.R_mono (Kd.R_far (p := ⟨gb315, 1, none⟩) (Kd.R_types HO312.out BK315.out (by decide)) (fun _ hk => hk.2) (.slice Ao52 y319.length co52)) (fun _ hk => ⟨hk.1.1, hk.1.2⟩)⟩
    have n4_ : Aside0 (Kd.R k51 51 (w51.setCell ⟨gb315, 1, none⟩ (.slice Ao52 y319.length co52)) w.heap.size (fun k_ => (w.heap.size ≤ k_) ∧ some k_ ≠ (.slice Ao41 t310.length co41 : Value).ownBlock) (.slice Ao52 y319.length co52) y319) := ⟨by (with_reducible repeat (first | apply Kd.R_alloc | apply Kd.R_drewN | apply Kd.R_drew)); exact Kd.R_mono (Kd.R_far (p := ⟨gb315, 1, none⟩) (Kd.R_types HO321.out BK315.out (by decide)) (fun _ hk => hk.2) (.slice Ao52 y319.length co52)) (fun _ hk => ⟨hk.1.1, hk.1.2⟩)⟩
    have n5_ : Aside0 ((w51.setCell ⟨gb315, 1, none⟩ (.slice Ao52 y319.length co52)).heap[gb297]? = some (.cells #[.int .i64 a1_0, .slice A1_1 l1_1.length c1_1] 39 (0, 0))) := ⟨by (with_reducible repeat (first | refine blk_drewN ?_ _ | refine blk_drew ?_ | refine blk_alloc ?_ _)); refine blk_far ?_ NB297_315.out _; exact bU6 BK297.out⟩
    have n6_ : Aside0 ((w51.setCell ⟨gb315, 1, none⟩ (.slice Ao52 y319.length co52)).heap[gb298]? = some (.cells #[.int .i64 a2_0, .slice A2_1 l2_1.length c2_1] 39 (0, 0))) := ⟨by (with_reducible repeat (first | refine blk_drewN ?_ _ | refine blk_drew ?_ | refine blk_alloc ?_ _)); refine blk_far ?_ NB298_315.out _; exact bU6 BK298.out⟩
    have n7_ : Aside0 ((w51.setCell ⟨gb315, 1, none⟩ (.slice Ao52 y319.length co52)).heap[gb314]? = some (.cells #[.int .i64 t309, .slice Ao41 t310.length co41] 39 (0, 0))) := ⟨by (with_reducible repeat (first | refine blk_drewN ?_ _ | refine blk_drew ?_ | refine blk_alloc ?_ _)); refine blk_far ?_ NB314_315.out _; exact bU6 BK314.out⟩
    have n8_ : Aside0 ((w51.setCell ⟨gb315, 1, none⟩ (.slice Ao52 y319.length co52)).heap[gb315]? = some (.cells #[.int .i64 t309, .slice Ao52 y319.length co52] 39 (0, 0))) := ⟨by (with_reducible repeat (first | refine blk_drewN ?_ _ | refine blk_drew ?_ | refine blk_alloc ?_ _)); refine blk_put (cs := #[.int .i64 t309, .slice Ao41 t310.length co41]) ?_ 1 _ rfl; exact bU6 BK315.out⟩
    have n9_ : Aside0 (IsS58 w (w51.setCell ⟨gb315, 1, none⟩ (.slice Ao52 y319.length co52)) g302 t300 t313) := ⟨by repeat (first | (with_reducible first | exact HI302.out | apply IsS58.alloc | apply IsS58.drewN | apply IsS58.drew | apply IsS58.set_1 | refine IsS58.far ?_ NB302_297.out _ | refine IsS58.far ?_ NB302_298.out _ | refine IsS58.far ?_ NB302_314.out _ | refine IsS58.far ?_ NB302_315.out _) | exact HI302.out)⟩
    have n10_ : Aside0 (Below w.heap.size w (w51.setCell ⟨gb315, 1, none⟩ (.slice Ao52 y319.length co52))) := ⟨by repeat (first | (with_reducible first | exact HB.out | apply below_alloc | apply pw_below_drewN | apply below_drew1 | refine below_set ?_ (IsS58.ge HI302.out) | refine below_set ?_ (Aside0.out (by assumption))) | exact HB.out)⟩
    (try clear HO_3)
    (try clear ba0)
    (try clear HO305)
    (try clear HO312)
    (try clear HO321)
    (try clear BK297)
    (try clear BK298)
    (try clear BK314)
    (try clear BK315)
    (try clear HI302)
    (try clear HB)
    generalize (w51.setCell ⟨gb315, 1, none⟩ (.slice Ao52 y319.length co52)) = w60 at n0_ n1_ n2_ n3_ n4_ n5_ n6_ n7_ n8_ n9_ n10_ ⊢
    have HO_3 := n0_
    have ba0 := n1_
    have HO305 := n2_
    have HO312 := n3_
    have HO321 := n4_
    have BK297 := n5_
    have BK298 := n6_
    have BK314 := n7_
    have BK315 := n8_
    have HI302 := n9_
    have HB := n10_
    clear n0_ n1_ n2_ n3_ n4_ n5_ n6_ n7_ n8_ n9_ n10_
    have n0_ := Aside0.mk (Kd.V_drew HO_3.out)
    have n1_ := Aside0.mk (Kd.V_drew ba0.out)
    have n2_ := Aside0.mk (Kd.R_drew HO305.out)
    have n3_ := Aside0.mk (Kd.R_drew HO312.out)
    have n4_ := Aside0.mk (Kd.R_drew HO321.out)
    have n5_ := Aside0.mk (blk_drew BK297.out)
    have n6_ := Aside0.mk (blk_drew BK298.out)
    have n7_ := Aside0.mk (blk_drew BK314.out)
    have n8_ := Aside0.mk (blk_drew BK315.out)
    have n9_ := Aside0.mk (IsS58.drew HI302.out)
    have n10_ := Aside0.mk (below_drew1 HB.out)
    clear HO_3
    clear ba0
    clear HO305
    clear HO312
    clear HO321
    clear BK297
    clear BK298
    clear BK314
    clear BK315
    clear HI302
    clear HB
    have HO_3 := n0_
    have ba0 := n1_
    have HO305 := n2_
    have HO312 := n3_
    have HO321 := n4_
    have BK297 := n5_
    have BK298 := n6_
    have BK314 := n7_
    have BK315 := n8_
    have HI302 := n9_
    have HB := n10_
    clear n0_ n1_ n2_ n3_ n4_ n5_ n6_ n7_ n8_ n9_ n10_
    have p324 : 0 ≤ (t322 : Int) := of_decide_eq_true (by first | (with_reducible assumption) | assumption)
    have q324 : t322 < (y319.length : Int) := of_decide_eq_true (by first | (with_reducible assumption) | assumption)
    obtain ⟨ad324, e324, hx324_0, hx324_1⟩ := at_T51 (Kd.R_reads' HO321.out).2.2 t322 p324 q324
    cases e324
    replace p324 := eq_true p324
    replace q324 := eq_true q324
    refine start_ (n := 17) (S := fun w' => w'.cell? ⟨gb315, 0, none⟩ = some (.int .i64 t309) ∧ w'.cell? ⟨gb315, 1, none⟩ = some (.slice (some ad324) y319.length co52) ∧ w'.cell? (ad324.add ((t322).toNat * 2)) = some (.int .i64 ((rd_T51 y319 t322).f0)) ∧ w'.cell? ⟨(ad324.add ((t322).toNat * 2)).block, (ad324.add ((t322).toNat * 2)).off + 1, none⟩ = some (.int .i64 ((rd_T51 y319 t322).f1))) (ds := [16]) #[false, false, false, false, false, false, false, false, false, false, false, false, false, false, false, false, false] (by kernel_rfl) rfl rfl ⟨(blk_cell BK315.out 0).trans rfl, (blk_cell BK315.out 1).trans rfl, hx324_0, hx324_1⟩ (fun hHeld => ?_); refine with_tabW storagebarterlaw30_DeviationSteps.tab11 storagebarterlaw30_DeviationSteps.bits11 (fun HT_ HW_ => ?_)
    generalize w60.drew = w61 at HO_3 ba0 HO305 HO312 HO321 BK297 BK298 BK314 BK315 HI302 HB hx324_0 hx324_1 hHeld ⊢
    refine pure_ (i := 0) (N := some 68) (v := ?_) (a' := ?_) #[true, false, false, false, false, false, false, false, false, false, false, false, false, false, false, false, false] rfl rfl (any_of HT_.out (by kernel_rfl)) (fun _ _ _ h => h) (Or.inl ⟨by rfl, ?_⟩) ?_ ?_
    rotate_left
    ·intro w'
     go_simp
     with_reducible rfl
    rotate_left
    ·simp only [Act.put, List.setIfInBounds_toArray, List.set_cons_zero, List.set_cons_succ, i64_w, i32_w]
     rfl
    refine pure_ (i := 2) (N := some 70) (v := ?_) (a' := ?_) #[true, false, true, false, false, false, false, false, false, false, false, false, false, false, false, false, false] rfl rfl (any_of HT_.out (by kernel_rfl)) (fun _ _ _ h => h) (Or.inl ⟨by rfl, ?_⟩) ?_ ?_
    rotate_left
    ·intro w'
     go_simp
     with_reducible rfl
    rotate_left
    ·simp only [Act.put, List.setIfInBounds_toArray, List.set_cons_zero, List.set_cons_succ, i64_w, i32_w]
     rfl
    refine pure_ (i := 3) (N := some 71) (v := ?_) (a' := ?_) #[true, false, true, true, false, false, false, false, false, false, false, false, false, false, false, false, false] rfl rfl (any_of HT_.out (by kernel_rfl)) (fun _ _ _ h => h) (Or.inl ⟨by rfl, ?_⟩) ?_ ?_
    rotate_left
    ·intro w'
     go_simp
     with_reducible rfl
    rotate_left
    ·simp only [Act.put, List.setIfInBounds_toArray, List.set_cons_zero, List.set_cons_succ, i64_w, i32_w]
     rfl
    refine pure_ (i := 10) (N := some 78) (v := ?_) (a' := ?_) #[true, false, true, true, false, false, false, false, false, false, true, false, false, false, false, false, false] rfl rfl (any_of HT_.out (by kernel_rfl)) (fun _ _ _ h => h) (Or.inl ⟨by rfl, ?_⟩) ?_ ?_
    rotate_left
    ·intro w'
     go_simp
     with_reducible rfl
    rotate_left
    ·simp only [Act.put, List.setIfInBounds_toArray, List.set_cons_zero, List.set_cons_succ, i64_w, i32_w]
     rfl
    refine take_ (i := 1) (N := some 69) (v := ?_) (a' := ?_) #[true, true, true, true, false, false, false, false, false, false, true, false, false, false, false, false, false] rfl rfl (take_ofW HT_.out HW_.out (by kernel_rfl)) (fun _ _ _ h => h) (Or.inl ⟨by rfl, ?_⟩) hHeld ?_ ?_
    rotate_left
    ·rintro w' ⟨s0, s1, s2, s3⟩
     go_simp
     with_reducible rfl
    rotate_left
    ·simp only [Act.put, List.setIfInBounds_toArray, List.set_cons_zero, List.set_cons_succ, i64_w, i32_w]
     rfl
    refine take_ (i := 4) (N := some 72) (v := ?_) (a' := ?_) #[true, true, true, true, true, false, false, false, false, false, true, false, false, false, false, false, false] rfl rfl (take_ofW HT_.out HW_.out (by kernel_rfl)) (fun _ _ _ h => h) (Or.inl ⟨by rfl, ?_⟩) hHeld ?_ ?_
    rotate_left
    ·rintro w' ⟨s0, s1, s2, s3⟩
     go_simp
     with_reducible rfl
    rotate_left
    ·simp only [Act.put, List.setIfInBounds_toArray, List.set_cons_zero, List.set_cons_succ, i64_w, i32_w]
     rfl
    refine pure_ (i := 5) (N := some 73) (v := ?_) (a' := ?_) #[true, true, true, true, true, true, false, false, false, false, true, false, false, false, false, false, false] rfl rfl (any_of HT_.out (by kernel_rfl)) (fun _ _ _ h => h) (Or.inl ⟨by rfl, ?_⟩) ?_ ?_
    rotate_left
    ·intro w'
     go_simp
     with_reducible rfl
    rotate_left
    ·simp only [Act.put, List.setIfInBounds_toArray, List.set_cons_zero, List.set_cons_succ, i64_w, i32_w]
     rfl
    refine one_ (i := 6) (N := some 74) #[true, true, true, true, true, true, true, false, false, false, true, false, false, false, false, false, false] rfl rfl (one_of HT_.out (by kernel_rfl)) (by decide) (fun K hK => ?_)
    refine goes_ Tryd.func11 (by kernel_rfl) rfl #[.pointer (some ⟨g302, 0, none⟩), .int .i64 (y319.length : Int)] (by rfl) rfl rfl (by (try simp only [List.map_toArray, List.map_cons, List.map_nil]); first | done | rfl | (simp only [List.length_drop, List.length_take]; rfl)) ?_
    with_reducible refine (storagebarterplay_Dice_Pick.calls g302 t300 t313 (y319.length : Int) t322 t323 w _ ?side1 ?side2 A55.out).mono ?_
    (case side1 => repeat (first | (with_reducible first | exact HI302.out | apply IsS58.alloc | apply IsS58.drewN | apply IsS58.drew | apply IsS58.set_1 | refine IsS58.far ?_ NB302_297.out _ | refine IsS58.far ?_ NB302_298.out _ | refine IsS58.far ?_ NB302_314.out _ | refine IsS58.far ?_ NB302_315.out _) | exact HI302.out))
    (case side2 => repeat (first | (with_reducible first | exact HB.out | apply below_alloc | apply pw_below_drewN | apply below_drew1 | refine below_set ?_ (IsS58.ge HI302.out) | refine below_set ?_ (Aside0.out (by assumption))) | exact HB.out))
    rintro e w62 ⟨rfl, hi, hb, hk⟩
    have HS2_ := keep_cell hk (hHeld.2.2.1) (by first | (rw [add_block]; exact Kd.own_blk (IsS58.own_ne HI302.out HO321.out (by decide))) | (show (Addr.add _ _).block ≠ _; rw [add_block]; exact Kd.own_blk (IsS58.own_ne HI302.out HO321.out (by decide))) | exact Kd.own_blk (IsS58.own_ne HI302.out HO321.out (by decide)))
    have HS3_ := keep_cell hk (hHeld.2.2.2) (by first | (rw [add_block]; exact Kd.own_blk (IsS58.own_ne HI302.out HO321.out (by decide))) | (show (Addr.add _ _).block ≠ _; rw [add_block]; exact Kd.own_blk (IsS58.own_ne HI302.out HO321.out (by decide))) | exact Kd.own_blk (IsS58.own_ne HI302.out HO321.out (by decide)))
    refine ⟨_, rfl, ?_⟩
    have n0_ := Aside0.mk (Kd.V_mono (Kd.V_keep (Kd.V_mono (ok := fun k_ => ((((P1_1_ k_ ∨ P3_ k_) ∨ w.heap.size ≤ k_)) ∧ (some k_ ≠ (.slice Ao34 t303.length co34 : Value).ownBlock ∧ (some k_ ≠ (.slice Ao41 t310.length co41 : Value).ownBlock ∧ (some k_ ≠ (.slice (some ad324) y319.length co52 : Value).ownBlock ∧ (k_ ≠ gb297 ∧ (k_ ≠ gb298 ∧ (k_ ≠ g302 ∧ (k_ ≠ gb314 ∧ k_ ≠ gb315))))))))) (vU6 HO_3.out) (fun k_ hk_ => (⟨hk_, hk_.2.2.2.2.2.2.1⟩ : _ ∧ k_ ≠ g302))) hk (fun _ h => h.2)) (fun _ h => h.1))
    have n1_ := Aside0.mk (Kd.V_mono (Kd.V_keep (Kd.V_mono (ok := fun k_ => ((((P1_1_ k_ ∨ P3_ k_) ∨ w.heap.size ≤ k_)) ∧ (some k_ ≠ (.slice Ao34 t303.length co34 : Value).ownBlock ∧ (some k_ ≠ (.slice Ao41 t310.length co41 : Value).ownBlock ∧ (some k_ ≠ (.slice (some ad324) y319.length co52 : Value).ownBlock ∧ (k_ ≠ gb297 ∧ (k_ ≠ gb298 ∧ (k_ ≠ g302 ∧ (k_ ≠ gb314 ∧ k_ ≠ gb315))))))))) (vU6 ba0.out) (fun k_ hk_ => (⟨hk_, hk_.2.2.2.2.2.2.1⟩ : _ ∧ k_ ≠ g302))) hk (fun _ h => h.2)) (fun _ h => h.1))
    have n2_ := Aside0.mk (KeepBut.blk hk (g' := gb297) (o := .cells #[.int .i64 a1_0, .slice A1_1 l1_1.length c1_1] 39 (0, 0)) (bU6 BK297.out) NB297_302.out (by simp))
    have n3_ := Aside0.mk (KeepBut.blk hk (g' := gb298) (o := .cells #[.int .i64 a2_0, .slice A2_1 l2_1.length c2_1] 39 (0, 0)) (bU6 BK298.out) NB298_302.out (by simp))
    have n4_ := Aside0.mk (Kd.R_mono (Kd.R_keep (IsS58.apart (show IsS58 w _ g302 t300 t313 from by repeat (first | (with_reducible first | exact HI302.out | apply IsS58.alloc | apply IsS58.drewN | apply IsS58.drew | apply IsS58.set_1 | refine IsS58.far ?_ NB302_297.out _ | refine IsS58.far ?_ NB302_298.out _ | refine IsS58.far ?_ NB302_314.out _ | refine IsS58.far ?_ NB302_315.out _) | exact HI302.out)) (rU6 HO305.out) (by decide)) hk (fun _ h => h.2)) (fun _ h => h.1))
    have n5_ := Aside0.mk (Kd.R_mono (Kd.R_keep (IsS58.apart (show IsS58 w _ g302 t300 t313 from by repeat (first | (with_reducible first | exact HI302.out | apply IsS58.alloc | apply IsS58.drewN | apply IsS58.drew | apply IsS58.set_1 | refine IsS58.far ?_ NB302_297.out _ | refine IsS58.far ?_ NB302_298.out _ | refine IsS58.far ?_ NB302_314.out _ | refine IsS58.far ?_ NB302_315.out _) | exact HI302.out)) (rU6 HO312.out) (by decide)) hk (fun _ h => h.2)) (fun _ h => h.1))
    have n6_ := Aside0.mk (KeepBut.blk hk (g' := gb314) (o := .cells #[.int .i64 t309, .slice Ao41 t310.length co41] 39 (0, 0)) (bU6 BK314.out) NB314_302.out (by simp))
    have n7_ := Aside0.mk (KeepBut.blk hk (g' := gb315) (o := .cells #[.int .i64 t309, .slice (some ad324) y319.length co52] 39 (0, 0)) (bU6 BK315.out) NB315_302.out (by simp))
    have n8_ := Aside0.mk (Kd.R_mono (Kd.R_keep (IsS58.apart (show IsS58 w _ g302 t300 t313 from by repeat (first | (with_reducible first | exact HI302.out | apply IsS58.alloc | apply IsS58.drewN | apply IsS58.drew | apply IsS58.set_1 | refine IsS58.far ?_ NB302_297.out _ | refine IsS58.far ?_ NB302_298.out _ | refine IsS58.far ?_ NB302_314.out _ | refine IsS58.far ?_ NB302_315.out _) | exact HI302.out)) (rU6 HO321.out) (by decide)) hk (fun _ h => h.2)) (fun _ h => h.1))
    have n9_ := Aside0.mk (hb)
    have n10_ := Aside0.mk (hi)
    clear HO_3
    clear ba0
    clear BK297
    clear BK298
    clear HO305
    clear HO312
    clear BK314
    clear BK315
    clear HO321
    clear HB
    clear HI302
    have HO_3 := n0_
    have ba0 := n1_
    have BK297 := n2_
    have BK298 := n3_
    have HO305 := n4_
    have HO312 := n5_
    have BK314 := n6_
    have BK315 := n7_
    have HO321 := n8_
    have HB := n9_
    have HI302 := n10_
    clear n0_ n1_ n2_ n3_ n4_ n5_ n6_ n7_ n8_ n9_ n10_
    (try clear hb)
    (try clear hb2)
    (try clear hk)
    (try clear hi)
    (try clear hgw)
    refine hK.out _ _ ⟨(blk_cell BK315.out 0).trans rfl, (blk_cell BK315.out 1).trans rfl, HS2_, HS3_⟩ (fun hHeld => ?_)
    clear hK K
    refine norm_ (a' := ?_) ?_ ?_
    rotate_left
    ·show Act.put _ (some 74) _ = _
     simp only [Act.put, List.setIfInBounds_toArray, List.set_cons_zero, List.set_cons_succ, i64_w, i32_w]
     rfl
    refine pure_ (i := 7) (N := some 75) (v := ?_) (a' := ?_) #[true, true, true, true, true, true, true, true, false, false, true, false, false, false, false, false, false] rfl rfl (any_of HT_.out (by kernel_rfl)) (fun _ _ _ h => h) (Or.inl ⟨by rfl, ?_⟩) ?_ ?_
    rotate_left
    ·intro w'
     go_simp
     with_reducible rfl
    rotate_left
    ·simp only [Act.put, List.setIfInBounds_toArray, List.set_cons_zero, List.set_cons_succ, i64_w, i32_w]
     rfl
    refine pure_ (i := 8) (N := some 76) (v := ?_) (a' := ?_) #[true, true, true, true, true, true, true, true, true, false, true, false, false, false, false, false, false] rfl rfl (any_of HT_.out (by kernel_rfl)) (fun _ _ _ h => h) (Or.inl ⟨by rfl, ?_⟩) ?_ ?_
    rotate_left
    ·intro w'
     go_simp
     with_reducible rfl
    rotate_left
    ·simp only [Act.put, List.setIfInBounds_toArray, List.set_cons_zero, List.set_cons_succ, i64_w, i32_w]
     rfl
    refine take_ (i := 9) (N := some 77) (v := ?_) (a' := ?_) #[true, true, true, true, true, true, true, true, true, true, true, false, false, false, false, false, false] rfl rfl (take_ofW HT_.out HW_.out (by kernel_rfl)) (fun _ _ _ h => h) (Or.inl ⟨by rfl, ?_⟩) hHeld ?_ ?_
    rotate_left
    ·rintro w' ⟨s0, s1, s2, s3⟩
     go_simp
     with_reducible rfl
    rotate_left
    ·simp only [Act.put, List.setIfInBounds_toArray, List.set_cons_zero, List.set_cons_succ, i64_w, i32_w]
     rfl
    refine one_ (i := 11) (N := some 79) #[true, true, true, true, true, true, true, true, true, true, true, true, false, false, false, false, false] rfl rfl (one_of HT_.out (by kernel_rfl)) (by decide) (fun K hK => ?_)
    refine goes_ Tryd.func11 (by kernel_rfl) rfl #[.pointer (some ⟨g302, 0, none⟩), .int .i64 3] (by rfl) rfl rfl (by (try simp only [List.map_toArray, List.map_cons, List.map_nil]); first | done | rfl | (simp only [List.length_drop, List.length_take]; rfl)) ?_
    with_reducible refine (storagebarterplay_Dice_Pick.calls g302 t300 t323 3 t325 t326 w _ ?side1 ?side2 A58.out).mono ?_
    (case side1 => repeat (first | (with_reducible first | exact HI302.out | apply IsS58.alloc | apply IsS58.drewN | apply IsS58.drew | apply IsS58.set_1 | refine IsS58.far ?_ NB302_297.out _ | refine IsS58.far ?_ NB302_298.out _ | refine IsS58.far ?_ NB302_314.out _ | refine IsS58.far ?_ NB302_315.out _) | exact HI302.out))
    (case side2 => repeat (first | (with_reducible first | exact HB.out | apply below_alloc | apply pw_below_drewN | apply below_drew1 | refine below_set ?_ (IsS58.ge HI302.out) | refine below_set ?_ (Aside0.out (by assumption))) | exact HB.out))
    rintro e w63 ⟨rfl, hi, hb, hk⟩
    have HS2_ := keep_cell hk (hHeld.2.2.1) (by first | (rw [add_block]; exact Kd.own_blk (IsS58.own_ne HI302.out HO321.out (by decide))) | (show (Addr.add _ _).block ≠ _; rw [add_block]; exact Kd.own_blk (IsS58.own_ne HI302.out HO321.out (by decide))) | exact Kd.own_blk (IsS58.own_ne HI302.out HO321.out (by decide)))
    have HS3_ := keep_cell hk (hHeld.2.2.2) (by first | (rw [add_block]; exact Kd.own_blk (IsS58.own_ne HI302.out HO321.out (by decide))) | (show (Addr.add _ _).block ≠ _; rw [add_block]; exact Kd.own_blk (IsS58.own_ne HI302.out HO321.out (by decide))) | exact Kd.own_blk (IsS58.own_ne HI302.out HO321.out (by decide)))
    refine ⟨_, rfl, ?_⟩
    have n0_ := Aside0.mk (Kd.V_mono (Kd.V_keep (Kd.V_mono (ok := fun k_ => ((((P1_1_ k_ ∨ P3_ k_) ∨ w.heap.size ≤ k_)) ∧ (some k_ ≠ (.slice Ao34 t303.length co34 : Value).ownBlock ∧ (some k_ ≠ (.slice Ao41 t310.length co41 : Value).ownBlock ∧ (some k_ ≠ (.slice (some ad324) y319.length co52 : Value).ownBlock ∧ (k_ ≠ gb297 ∧ (k_ ≠ gb298 ∧ (k_ ≠ g302 ∧ (k_ ≠ gb314 ∧ k_ ≠ gb315))))))))) (vU6 HO_3.out) (fun k_ hk_ => (⟨hk_, hk_.2.2.2.2.2.2.1⟩ : _ ∧ k_ ≠ g302))) hk (fun _ h => h.2)) (fun _ h => h.1))
    have n1_ := Aside0.mk (Kd.V_mono (Kd.V_keep (Kd.V_mono (ok := fun k_ => ((((P1_1_ k_ ∨ P3_ k_) ∨ w.heap.size ≤ k_)) ∧ (some k_ ≠ (.slice Ao34 t303.length co34 : Value).ownBlock ∧ (some k_ ≠ (.slice Ao41 t310.length co41 : Value).ownBlock ∧ (some k_ ≠ (.slice (some ad324) y319.length co52 : Value).ownBlock ∧ (k_ ≠ gb297 ∧ (k_ ≠ gb298 ∧ (k_ ≠ g302 ∧ (k_ ≠ gb314 ∧ k_ ≠ gb315))))))))) (vU6 ba0.out) (fun k_ hk_ => (⟨hk_, hk_.2.2.2.2.2.2.1⟩ : _ ∧ k_ ≠ g302))) hk (fun _ h => h.2)) (fun _ h => h.1))
    have n2_ := Aside0.mk (KeepBut.blk hk (g' := gb297) (o := .cells #[.int .i64 a1_0, .slice A1_1 l1_1.length c1_1] 39 (0, 0)) (bU6 BK297.out) NB297_302.out (by simp))
    have n3_ := Aside0.mk (KeepBut.blk hk (g' := gb298) (o := .cells #[.int .i64 a2_0, .slice A2_1 l2_1.length c2_1] 39 (0, 0)) (bU6 BK298.out) NB298_302.out (by simp))
    have n4_ := Aside0.mk (Kd.R_mono (Kd.R_keep (IsS58.apart (show IsS58 w _ g302 t300 t323 from by repeat (first | (with_reducible first | exact HI302.out | apply IsS58.alloc | apply IsS58.drewN | apply IsS58.drew | apply IsS58.set_1 | refine IsS58.far ?_ NB302_297.out _ | refine IsS58.far ?_ NB302_298.out _ | refine IsS58.far ?_ NB302_314.out _ | refine IsS58.far ?_ NB302_315.out _) | exact HI302.out)) (rU6 HO305.out) (by decide)) hk (fun _ h => h.2)) (fun _ h => h.1))
    have n5_ := Aside0.mk (Kd.R_mono (Kd.R_keep (IsS58.apart (show IsS58 w _ g302 t300 t323 from by repeat (first | (with_reducible first | exact HI302.out | apply IsS58.alloc | apply IsS58.drewN | apply IsS58.drew | apply IsS58.set_1 | refine IsS58.far ?_ NB302_297.out _ | refine IsS58.far ?_ NB302_298.out _ | refine IsS58.far ?_ NB302_314.out _ | refine IsS58.far ?_ NB302_315.out _) | exact HI302.out)) (rU6 HO312.out) (by decide)) hk (fun _ h => h.2)) (fun _ h => h.1))
    have n6_ := Aside0.mk (KeepBut.blk hk (g' := gb314) (o := .cells #[.int .i64 t309, .slice Ao41 t310.length co41] 39 (0, 0)) (bU6 BK314.out) NB314_302.out (by simp))
    have n7_ := Aside0.mk (KeepBut.blk hk (g' := gb315) (o := .cells #[.int .i64 t309, .slice (some ad324) y319.length co52] 39 (0, 0)) (bU6 BK315.out) NB315_302.out (by simp))
    have n8_ := Aside0.mk (Kd.R_mono (Kd.R_keep (IsS58.apart (show IsS58 w _ g302 t300 t323 from by repeat (first | (with_reducible first | exact HI302.out | apply IsS58.alloc | apply IsS58.drewN | apply IsS58.drew | apply IsS58.set_1 | refine IsS58.far ?_ NB302_297.out _ | refine IsS58.far ?_ NB302_298.out _ | refine IsS58.far ?_ NB302_314.out _ | refine IsS58.far ?_ NB302_315.out _) | exact HI302.out)) (rU6 HO321.out) (by decide)) hk (fun _ h => h.2)) (fun _ h => h.1))
    have n9_ := Aside0.mk (hb)
    have n10_ := Aside0.mk (hi)
    clear HO_3
    clear ba0
    clear BK297
    clear BK298
    clear HO305
    clear HO312
    clear BK314
    clear BK315
    clear HO321
    clear HB
    clear HI302
    have HO_3 := n0_
    have ba0 := n1_
    have BK297 := n2_
    have BK298 := n3_
    have HO305 := n4_
    have HO312 := n5_
    have BK314 := n6_
    have BK315 := n7_
    have HO321 := n8_
    have HB := n9_
    have HI302 := n10_
    clear n0_ n1_ n2_ n3_ n4_ n5_ n6_ n7_ n8_ n9_ n10_
    (try clear hb)
    (try clear hb2)
    (try clear hk)
    (try clear hi)
    (try clear hgw)
    have p59 : 0 ≤ (t322 : Int) := of_decide_eq_true (by first | (with_reducible assumption) | assumption)
    have q59 : (t322 : Int) < ((y319.length : Int) : Int) := of_decide_eq_true (by first | (with_reducible assumption) | assumption)
    obtain ⟨go59, co59, eo59, gb59, gl59, cl59, HG59⟩ := Kd.R_form HO321.out (by omega)
    (first | cases eo59 | (injection eo59 with ea_ en_ ec_; (first | subst ea_ | (injection ea_ with ea_; subst ea_)); subst ec_; clear en_))
    have GB59 := Aside0.mk gb59
    have GG59 := Aside0.mk HG59
    clear gb59 gl59 HG59
    (first | simp only [add_plain] at hx324_0 | skip)
    (first | simp only [add_plain] at hx324_1 | skip)
    obtain ⟨ce59, hcl59, hM59, hcc59, hfr59⟩ := Kd.R_elem HO321.out z51 (t322 : Int) p59 q59
    obtain rfl := k51_openM hM59
    have hx59_0 : World.cell? _ ⟨go59, (t322 : Int).toNat * 2, none⟩ = some (.int .i64 ((rd_T51 y319 t322).f0)) := hcc59 0 _ rfl
    have hx59_1 : World.cell? _ ⟨go59, (t322 : Int).toNat * 2 + 1, none⟩ = some (.int .i64 ((rd_T51 y319 t322).f1)) := hcc59 1 _ rfl
    have hf59_0 : World.frozen? _ ⟨go59, (t322 : Int).toNat * 2, none⟩ = false := hfr59 0
    have hf59_1 : World.frozen? _ ⟨go59, (t322 : Int).toNat * 2 + 1, none⟩ = false := hfr59 1
    clear hcl59 hcc59 hfr59 hM59
    replace p59 := eq_true p59
    replace q59 := eq_true q59
    have HN302_go59 := Aside0.mk (show g302 ≠ go59 from by have h_ := IsS58.own_ne HI302.out HO321.out (by decide); intro e_; exact h_ (by rw [e_]; rfl))
    obtain ⟨ce64, hcl64, hM64, hcc64, hfr64⟩ := Kd.R_elem HO321.out z51 (t322 : Int) (of_decide_eq_true (by first | (with_reducible assumption) | assumption)) (by have h_ : (t322 : Int) < ((y319.length : Int) : Int) := of_decide_eq_true (by first | (with_reducible assumption) | assumption); first | exact h_ | (have e_ := (Kd.R_reads' HO321.out).1; omega) | simpa using h_)
    obtain rfl := k51_openM hM64
    have HP64 := (Kd.R_seg HO321.out (t322 : Int) (of_decide_eq_true (by first | (with_reducible assumption) | assumption)) (by have h_ : (t322 : Int) < ((y319.length : Int) : Int) := of_decide_eq_true (by first | (with_reducible assumption) | assumption); first | exact h_ | (have e_ := (Kd.R_reads' HO321.out).1; omega) | simpa using h_) (seg := [.int .i64 (wrap64 (((rd_T51 y319 t322).f0) + (wrap64 (t325 - 1))))]) (j := 0) hcl64 hcc64 (show 1 ≤ 2 from by decide) (x' := (⟨wrap64 (((rd_T51 y319 t322).f0) + (wrap64 (t325 - 1))), (rd_T51 y319 t322).f1⟩ : S51)) (k51_mkM _ _ _ (⟨wrap64 (((rd_T51 y319 t322).f0) + (wrap64 (t325 - 1))), (rd_T51 y319 t322).f1⟩ : S51) ) (fun _ hk => hk)).1
    rw [← Ny327.out] at HP64
    have HQ64 := Aside0.mk HP64
    clear hcl64 hcc64 hfr64 hM64 HP64
    refine hK.out _ _ ⟨(blk_cell BK315.out 0).trans rfl, (blk_cell BK315.out 1).trans rfl, HS2_, HS3_⟩ (fun hHeld => ?_)
    clear hK K
    refine norm_ (a' := ?_) ?_ ?_
    rotate_left
    ·show Act.put _ (some 79) _ = _
     simp only [Act.put, List.setIfInBounds_toArray, List.set_cons_zero, List.set_cons_succ, i64_w, i32_w]
     rfl
    refine pure_ (i := 12) (N := some 80) (v := ?_) (a' := ?_) #[true, true, true, true, true, true, true, true, true, true, true, true, true, false, false, false, false] rfl rfl (any_of HT_.out (by kernel_rfl)) (fun _ _ _ h => h) (Or.inl ⟨by rfl, ?_⟩) ?_ ?_
    rotate_left
    ·intro w'
     go_simp
     with_reducible rfl
    rotate_left
    ·simp only [Act.put, List.setIfInBounds_toArray, List.set_cons_zero, List.set_cons_succ, i64_w, i32_w]
     rfl
    refine pure_ (i := 13) (N := some 81) (v := ?_) (a' := ?_) #[true, true, true, true, true, true, true, true, true, true, true, true, true, true, false, false, false] rfl rfl (any_of HT_.out (by kernel_rfl)) (fun _ _ _ h => h) (Or.inl ⟨by rfl, ?_⟩) ?_ ?_
    rotate_left
    ·intro w'
     go_simp
     with_reducible rfl
    rotate_left
    ·simp only [Act.put, List.setIfInBounds_toArray, List.set_cons_zero, List.set_cons_succ, i64_w, i32_w]
     rfl
    refine pure_ (i := 14) (N := some 82) (v := ?_) (a' := ?_) #[true, true, true, true, true, true, true, true, true, true, true, true, true, true, true, false, false] rfl rfl (any_of HT_.out (by kernel_rfl)) (fun _ _ _ h => h) (Or.inl ⟨by rfl, ?_⟩) ?_ ?_
    rotate_left
    ·intro w'
     go_simp
     with_reducible rfl
    rotate_left
    ·simp only [Act.put, List.setIfInBounds_toArray, List.set_cons_zero, List.set_cons_succ, i64_w, i32_w]
     rfl
    refine pure_ (i := 15) (N := some 83) (v := ?_) (a' := ?_) #[true, true, true, true, true, true, true, true, true, true, true, true, true, true, true, true, false] rfl rfl (any_of HT_.out (by kernel_rfl)) (fun _ _ _ h => h) (Or.inl ⟨by rfl, ?_⟩) ?_ ?_
    rotate_left
    ·intro w'
     go_simp
     with_reducible rfl
    rotate_left
    ·simp only [Act.put, List.setIfInBounds_toArray, List.set_cons_zero, List.set_cons_succ, i64_w, i32_w]
     rfl
    refine last_ (i := 16) (N := none) #[true, true, true, true, true, true, true, true, true, true, true, true, true, true, true, true, true] rfl rfl (one_of HT_.out (by kernel_rfl)) (by decide) (fun K hK => ?_)
    refine skip_ (w1 := ?_) (by rfl) rfl ?_ ?_
    rotate_left
    ·go_simp
     rfl
    refine hK.out _ _ ?_
    clear hK K
    refine done_ (done_of HT_.out (by kernel_rfl)) ?_
    try go_wp2
    go_meet
    case rel => exact ⟨_, (l1_1), (t326), (t310), (y327), (.slice A1_1 l1_1.length c1_1), (.slice Ao41 t310.length co41), (.slice (some ⟨go59, 0, none⟩) y319.length co52), H', ⟨by have := HJ9.out; first | omega | exact Nat.le_refl _⟩, ⟨by (with_reducible repeat (first | apply Kd.V_alloc | apply Kd.V_drewN | apply Kd.V_drew)); exact Kd.V_mono (Kd.V_far (p := ⟨go59, (t322 : Int).toNat * 2, none⟩) (Kd.V_mono HO_3.out (fun k_ hk => (⟨hk, fun e_ => hk.2.2.2.1 (by rw [e_]; rfl)⟩ : _ ∧ k_ ≠ go59))) (fun _ hk => hk.2) (.int .i64 (wrap64 (((rd_T51 y319 t322).f0) + (wrap64 (t325 - 1)))))) (fun _ hk => ⟨hk.1.1, ⟨hk.1.2.1, ⟨hk.1.2.2.1, ⟨hk.1.2.2.2.1, ⟨hk.1.2.2.2.2.1, ⟨hk.1.2.2.2.2.2.1, ⟨hk.1.2.2.2.2.2.2.2.1, ⟨hk.1.2.2.2.2.2.2.2.2, hk.1.2.2.2.2.2.2.1⟩⟩⟩⟩⟩⟩⟩⟩)⟩, ⟨by (with_reducible repeat (first | apply Kd.R_alloc | apply Kd.R_drewN | apply Kd.R_drew)); exact Kd.R_mono (Kd.R_far (p := ⟨go59, (t322 : Int).toNat * 2, none⟩) (Kd.R_types HO305.out GG59.out (by decide)) (fun _ hk => hk.2) (.int .i64 (wrap64 (((rd_T51 y319 t322).f0) + (wrap64 (t325 - 1)))))) (fun _ hk => hk.1)⟩, ⟨by (with_reducible repeat (first | apply Kd.V_alloc | apply Kd.V_drewN | apply Kd.V_drew)); exact Kd.V_mono (Kd.V_far (p := ⟨go59, (t322 : Int).toNat * 2, none⟩) (Kd.V_mono ba0.out (fun k_ hk => (⟨hk, fun e_ => hk.2.2.2.1 (by rw [e_]; rfl)⟩ : _ ∧ k_ ≠ go59))) (fun _ hk => hk.2) (.int .i64 (wrap64 (((rd_T51 y319 t322).f0) + (wrap64 (t325 - 1)))))) (fun _ hk => ⟨hk.1.1, ⟨hk.1.2.1, ⟨hk.1.2.2.1, ⟨hk.1.2.2.2.1, ⟨hk.1.2.2.2.2.1, ⟨hk.1.2.2.2.2.2.1, ⟨hk.1.2.2.2.2.2.2.2.1, ⟨hk.1.2.2.2.2.2.2.2.2, hk.1.2.2.2.2.2.2.1⟩⟩⟩⟩⟩⟩⟩⟩)⟩, ⟨by (with_reducible repeat (first | apply Kd.R_alloc | apply Kd.R_drewN | apply Kd.R_drew)); exact Kd.R_mono (Kd.R_far (p := ⟨go59, (t322 : Int).toNat * 2, none⟩) (Kd.R_mono HO312.out (fun k_ hk => (⟨hk, fun e_ => hk.2 (by rw [e_]; rfl)⟩ : _ ∧ k_ ≠ go59))) (fun _ hk => hk.2) (.int .i64 (wrap64 (((rd_T51 y319 t322).f0) + (wrap64 (t325 - 1)))))) (fun _ hk => ⟨hk.1.1, hk.1.2⟩)⟩, ⟨by (with_reducible repeat (first | apply Kd.R_alloc | apply Kd.R_drewN | apply Kd.R_drew)); exact HQ64.out⟩, ⟨by (with_reducible repeat (first | refine blk_drewN ?_ _ | refine blk_drew ?_ | refine blk_alloc ?_ _)); refine blk_far ?_ (by have h_ := Kd.R_ne HO321.out BK297.out (by decide); intro e_; exact h_ (by rw [e_]; rfl)) _; exact bU6 BK297.out⟩, ⟨by (with_reducible repeat (first | refine blk_drewN ?_ _ | refine blk_drew ?_ | refine blk_alloc ?_ _)); refine blk_far ?_ (by have h_ := Kd.R_ne HO321.out BK298.out (by decide); intro e_; exact h_ (by rw [e_]; rfl)) _; exact bU6 BK298.out⟩, ⟨by (with_reducible repeat (first | refine blk_drewN ?_ _ | refine blk_drew ?_ | refine blk_alloc ?_ _)); refine blk_far ?_ (by have h_ := Kd.R_ne HO321.out BK314.out (by decide); intro e_; exact h_ (by rw [e_]; rfl)) _; exact bU6 BK314.out⟩, ⟨by (with_reducible repeat (first | refine blk_drewN ?_ _ | refine blk_drew ?_ | refine blk_alloc ?_ _)); refine blk_far ?_ (by have h_ := Kd.R_ne HO321.out BK315.out (by decide); intro e_; exact h_ (by rw [e_]; rfl)) _; exact bU6 BK315.out⟩, ⟨by repeat (first | (with_reducible first | exact HI302.out | apply IsS58.alloc | apply IsS58.drewN | apply IsS58.drew | apply IsS58.set_1 | refine IsS58.far ?_ HN302_go59.out _ | refine IsS58.far ?_ NB302_297.out _ | refine IsS58.far ?_ NB302_298.out _ | refine IsS58.far ?_ NB302_314.out _ | refine IsS58.far ?_ NB302_315.out _) | exact HI302.out)⟩, ⟨by repeat (first | (with_reducible first | exact HB.out | apply below_alloc | apply pw_below_drewN | apply below_drew1 | refine below_set ?_ GB59.out | refine below_set ?_ (IsS58.ge HI302.out) | refine below_set ?_ (Aside0.out (by assumption))) | exact HB.out)⟩⟩
   case rest =>
    clear HC30
    try clear c1
    try clear c2
    try clear p2
    try clear c3
    try clear p3
    try clear q3
    try clear hx3
    try clear c4
    try clear c5
    try clear p5
    try clear q5
    try clear hx5
    try clear c6
    try clear p6
    try clear c8
    try clear c9
    try clear c10
    try clear c11
    try clear c14
    try clear c14b0
    try clear c14b1
    try clear c15
    try clear c17
    try clear c17b0
    try clear c17b1
    try clear c18
    try clear c21
    try clear c24
    try clear c29
    try clear p32
    try clear q32
    try clear hx32
    try clear c37
    try clear c38
    try clear c39
    try clear c43
    try clear c44
    try clear c45
    try clear c46
    try clear c54
    try clear c54b0
    try clear c54b1
    try clear c56
    try clear c56b0
    try clear c57
    try clear c57b0
    try clear c59
    try clear p59
    try clear q59
    try clear hx59
    try clear hf59
    try clear c64
    try clear p64
    try clear hcz16_0
    try clear hcz16_1
    try clear hcz19_0
    try clear hcz19_1
    try clear hcz20_0
    try clear hcz20_1
    try clear hcz22_0
    try clear hcz22_1
    try clear hcz23_0
    try clear hcz23_1
    try clear hcz40_0
    try clear hcz40_1
    try clear hcz47_0
    try clear hcz47_1
    try clear hcz50_0
    try clear hcz50_1
    try clear hcz53_0
    try clear hcz53_1
    try clear hfz16_0
    try clear hfz16_1
    try clear hfz19_0
    try clear hfz19_1
    try clear hfz20_0
    try clear hfz20_1
    try clear hfz22_0
    try clear hfz22_1
    try clear hfz23_0
    try clear hfz23_1
    try clear hfz40_0
    try clear hfz40_1
    try clear hfz47_0
    try clear hfz47_1
    try clear hfz50_0
    try clear hfz50_1
    try clear hfz53_0
    try clear hfz53_1
    try clear hx324_0
    try clear hx324_1
    try clear hx59_0
    try clear hx59_1
    try clear p2
    try clear p324
    try clear p59
    try clear q324
    try clear q59
    obtain ⟨kq, ba3, bam, ba1, ba8, u298001, u315001, u316001, HA, HJ29, HO_3, HO_16, ba0, ba2, HO_316001, BK297, BK298, BK314, BK315, HI302, HB⟩ := hcut
    cases kq with
    | zero => exact absurd HA.out (by simp [storagebarterlaw30_DeviationSteps.j1])
    | succ kj29 =>
     have H := HA.out
     clear HA
     simp only [storagebarterlaw30_DeviationSteps.j1] at H
     obtain ⟨y329, hy329⟩ : ∃ y_ : List (S39), y_ = (([(⟨a1_0, ba3⟩ : S39), (⟨t309, ba1⟩ : S39), (⟨t309, ba8⟩ : S39)] : List (S39))) := ⟨_, rfl⟩
     replace H : (storagebarterlaw30_DeviationSteps.l0 kj29 l3 a4 a5 a6 t303 y329 (y329.length : Int) 0 a2_0 l2_1 t300 bam t309 ba1) = some r := by first | (rw [hy329]; with_reducible exact H) | (have H2_ := (Option.bind_some _ _).symm.trans H; rw [hy329]; with_reducible exact H2_) | (have H2_ := (Option.bind_some _ _).symm.trans H; with_reducible exact H2_) | with_reducible exact H | (rw [hy329]; exact H) | exact H
     have Ny329 := Aside0.mk hy329
     clear hy329
     have H' := Aside0.mk H
     clear H
     have hnb65 := NB297_298.out
     have hnc65 := NB298_297.out
     have hnb66 := NB297_314.out
     have hnc66 := NB314_297.out
     have hnb67 := NB297_315.out
     have hnc67 := NB315_297.out
     have hnb68 := NB297_302.out
     have hnc68 := NB302_297.out
     have hcz69_0 : wc.cell? ⟨gb297, 0, none⟩ = some (.int .i64 a1_0) := (blk_cell BK297.out 0).trans rfl
     have hcz69_1 : wc.cell? ⟨gb297, 1, none⟩ = some (u298001) := (blk_cell BK297.out 1).trans rfl
     have hfz69_0 := blk_frozen BK297.out 0
     have hfz69_1 := blk_frozen BK297.out 1
     have hnb70 := NB314_298.out
     have hnc70 := NB298_314.out
     have hnb71 := NB314_315.out
     have hnc71 := NB315_314.out
     have hnb72 := NB314_302.out
     have hnc72 := NB302_314.out
     have hcz73_0 : wc.cell? ⟨gb314, 0, none⟩ = some (.int .i64 t309) := (blk_cell BK314.out 0).trans rfl
     have hcz73_1 : wc.cell? ⟨gb314, 1, none⟩ = some (u315001) := (blk_cell BK314.out 1).trans rfl
     have hfz73_0 := blk_frozen BK314.out 0
     have hfz73_1 := blk_frozen BK314.out 1
     have hnb74 := NB315_298.out
     have hnc74 := NB298_315.out
     have hnb75 := NB315_302.out
     have hnc75 := NB302_315.out
     have hcz76_0 : wc.cell? ⟨gb315, 0, none⟩ = some (.int .i64 t309) := (blk_cell BK315.out 0).trans rfl
     have hcz76_1 : wc.cell? ⟨gb315, 1, none⟩ = some (u316001) := (blk_cell BK315.out 1).trans rfl
     have hfz76_0 := blk_frozen BK315.out 0
     have hfz76_1 := blk_frozen BK315.out 1
     have HO328 := Aside0.mk (show Kd.V k51 51 _ w.heap.size _ u315001 ba1 from Kd.V_mono (ok' := (fun k_ => (((((((((P1_1_ k_ ∨ P3_ k_) ∨ w.heap.size ≤ k_) ∧ some k_ ≠ (u316001 : Value).ownBlock) ∧ some k_ ≠ (.slice Ao34 t303.length co34 : Value).ownBlock) ∧ k_ ≠ gb297) ∧ k_ ≠ gb298) ∧ k_ ≠ gb314) ∧ k_ ≠ gb315) ∧ k_ ≠ g302))) (Kd.R_V (IsS58.apart HI302.out (Kd.R_types (Kd.R_types (Kd.R_types (Kd.R_types (Kd.R_apart' (ba2.out) (Kd.R_typed HO_16.out) (by decide)) BK297.out (by decide)) BK298.out (by decide)) BK314.out (by decide)) BK315.out (by decide)) (by decide))) (fun k_ hk => ⟨⟨⟨⟨⟨⟨⟨(.inr (hk.1.1.1.1.1.1.1)), hk.1.1.1.1.1.1.2⟩, hk.1.1.1.1.1.2⟩, hk.1.1.1.1.2⟩, hk.1.1.1.2⟩, hk.1.1.2⟩, hk.1.2⟩, hk.2⟩))
     obtain ⟨Ao77, co77, eo77⟩ := Kd.V_slice ba0.out
     subst eo77
     obtain ⟨Ao78, co78, eo78⟩ := Kd.V_slice HO328.out
     subst eo78
     obtain ⟨Ao79, co79, eo79⟩ := Kd.R_slice HO_316001.out
     subst eo79
     go_wp2_with (first | ((with_reducible refine gate_dst (N := 87) rfl ?_); (try (refine gate_guard (by rfl) ?_; dsimp only)); refine Kd.N_lit k39 _ 39 ?hg (N' := 87) ?hd (xs := ([(⟨a1_0, ba3⟩ : S39), (⟨t309, ba1⟩ : S39), (⟨t309, ba8⟩ : S39)] : List (S39))) (inner := [.int .i64 a1_0, .slice Ao77 ba3.length co77, .int .i64 t309, .slice Ao78 ba1.length co78, .int .i64 t309, .slice Ao79 ba8.length co79]) (ok := (fun k_ => ((P1_1_ k_ ∨ P3_ k_) ∨ w.heap.size ≤ k_) ∧ some k_ ≠ (.slice Ao34 t303.length co34 : Value).ownBlock ∧ k_ ≠ gb297 ∧ k_ ≠ gb298 ∧ k_ ≠ gb314 ∧ k_ ≠ gb315 ∧ k_ ≠ g302)) (okp := (fun k_ => ((P1_1_ k_ ∨ P3_ k_) ∨ w.heap.size ≤ k_) ∧ some k_ ≠ (.slice Ao34 t303.length co34 : Value).ownBlock ∧ k_ ≠ gb297 ∧ k_ ≠ gb298 ∧ k_ ≠ gb314 ∧ k_ ≠ gb315 ∧ k_ ≠ g302)) ?hr ?hp (fun _ hk => hk) ((show ∀ k_, wc.heap.size ≤ k_ → (fun k_ => ((P1_1_ k_ ∨ P3_ k_) ∨ w.heap.size ≤ k_) ∧ some k_ ≠ (.slice Ao34 t303.length co34 : Value).ownBlock ∧ k_ ≠ gb297 ∧ k_ ≠ gb298 ∧ k_ ≠ gb314 ∧ k_ ≠ gb315 ∧ k_ ≠ g302) k_ from fun k_ hk => ⟨(.inr (Nat.le_trans (below_size (by repeat (first | (with_reducible first | exact HB.out | apply below_alloc | apply pw_below_drewN | apply below_drew1 | refine below_set ?_ (IsS58.ge HI302.out) | refine below_set ?_ (Aside0.out (by assumption))) | exact HB.out))) hk)), Kd.fresh' (Kd.R_lt (rU6 HO_16.out)) k_ hk, Kd.freshB (g := gb297) (o := .cells #[.int .i64 a1_0, .slice Ao77 ba3.length co77] 39 (0, 0)) (bU6 BK297.out) k_ hk, Kd.freshB (g := gb298) (o := .cells #[.int .i64 a2_0, .slice A2_1 l2_1.length c2_1] 39 (0, 0)) (bU6 BK298.out) k_ hk, Kd.freshB (g := gb314) (o := .cells #[.int .i64 t309, .slice Ao78 ba1.length co78] 39 (0, 0)) (bU6 BK314.out) k_ hk, Kd.freshB (g := gb315) (o := .cells #[.int .i64 t309, .slice Ao79 ba8.length co79] 39 (0, 0)) (bU6 BK315.out) k_ hk, IsS58.fresh (by repeat (first | (with_reducible first | exact HI302.out | apply IsS58.alloc | apply IsS58.drewN | apply IsS58.drew | apply IsS58.set_1 | refine IsS58.far ?_ NB302_297.out _ | refine IsS58.far ?_ NB302_298.out _ | refine IsS58.far ?_ NB302_314.out _ | refine IsS58.far ?_ NB302_315.out _) | exact HI302.out)) k_ hk⟩) _ (Nat.le_refl _)) (Below.refl _ _) (Nat.le_refl _) (by simp) ?_; (case hd => rfl); (case hg => rfl); (case hr => first | (go_simp; done) | (go_simp; rfl)); (case hp => exact (Reps.c2 (show Kd.FK k39 _ _ (⟨a1_0, ba3⟩ : S39) [.int .i64 a1_0, .slice Ao77 ba3.length co77] from (k39_mkF _ _ (⟨a1_0, ba3⟩ : S39) (Kd.V_reads' (Kd.V_mono (ok' := (fun k_ => ((P1_1_ k_ ∨ P3_ k_) ∨ w.heap.size ≤ k_) ∧ some k_ ≠ (.slice Ao34 t303.length co34 : Value).ownBlock ∧ k_ ≠ gb297 ∧ k_ ≠ gb298 ∧ k_ ≠ gb314 ∧ k_ ≠ gb315 ∧ k_ ≠ g302)) (ba0.out) (fun k_ hk => ⟨hk.1, ⟨hk.2.1, ⟨hk.2.2.2.2.1, ⟨hk.2.2.2.2.2.1, ⟨hk.2.2.2.2.2.2.1, ⟨hk.2.2.2.2.2.2.2.1, hk.2.2.2.2.2.2.2.2⟩⟩⟩⟩⟩⟩))).2.1 (Kd.V_F (Kd.V_mono (ok' := (fun k_ => ((P1_1_ k_ ∨ P3_ k_) ∨ w.heap.size ≤ k_) ∧ some k_ ≠ (.slice Ao34 t303.length co34 : Value).ownBlock ∧ k_ ≠ gb297 ∧ k_ ≠ gb298 ∧ k_ ≠ gb314 ∧ k_ ≠ gb315 ∧ k_ ≠ g302)) (ba0.out) (fun k_ hk => ⟨hk.1, ⟨hk.2.1, ⟨hk.2.2.2.2.1, ⟨hk.2.2.2.2.2.1, ⟨hk.2.2.2.2.2.2.1, ⟨hk.2.2.2.2.2.2.2.1, hk.2.2.2.2.2.2.2.2⟩⟩⟩⟩⟩⟩))))) (Reps.c2 (show Kd.FK k39 _ _ (⟨t309, ba1⟩ : S39) [.int .i64 t309, .slice Ao78 ba1.length co78] from (k39_mkF _ _ (⟨t309, ba1⟩ : S39) (Kd.V_reads' (Kd.V_mono (ok' := (fun k_ => ((P1_1_ k_ ∨ P3_ k_) ∨ w.heap.size ≤ k_) ∧ some k_ ≠ (.slice Ao34 t303.length co34 : Value).ownBlock ∧ k_ ≠ gb297 ∧ k_ ≠ gb298 ∧ k_ ≠ gb314 ∧ k_ ≠ gb315 ∧ k_ ≠ g302)) (HO328.out) (fun k_ hk => ⟨hk.1.1.1.1.1.1.1, ⟨hk.1.1.1.1.1.2, ⟨hk.1.1.1.1.2, ⟨hk.1.1.1.2, ⟨hk.1.1.2, ⟨hk.1.2, hk.2⟩⟩⟩⟩⟩⟩))).2.1 (Kd.V_F (Kd.V_mono (ok' := (fun k_ => ((P1_1_ k_ ∨ P3_ k_) ∨ w.heap.size ≤ k_) ∧ some k_ ≠ (.slice Ao34 t303.length co34 : Value).ownBlock ∧ k_ ≠ gb297 ∧ k_ ≠ gb298 ∧ k_ ≠ gb314 ∧ k_ ≠ gb315 ∧ k_ ≠ g302)) (HO328.out) (fun k_ hk => ⟨hk.1.1.1.1.1.1.1, ⟨hk.1.1.1.1.1.2, ⟨hk.1.1.1.1.2, ⟨hk.1.1.1.2, ⟨hk.1.1.2, ⟨hk.1.2, hk.2⟩⟩⟩⟩⟩⟩))))) (Reps.c2 (show Kd.FK k39 _ _ (⟨t309, ba8⟩ : S39) [.int .i64 t309, .slice Ao79 ba8.length co79] from (k39_mkF _ _ (⟨t309, ba8⟩ : S39) (Kd.R_reads' (Kd.R_mono (ok' := (fun k_ => ((P1_1_ k_ ∨ P3_ k_) ∨ w.heap.size ≤ k_) ∧ some k_ ≠ (.slice Ao34 t303.length co34 : Value).ownBlock ∧ k_ ≠ gb297 ∧ k_ ≠ gb298 ∧ k_ ≠ gb314 ∧ k_ ≠ gb315 ∧ k_ ≠ g302)) (IsS58.apart HI302.out (Kd.R_types (Kd.R_types (Kd.R_types (Kd.R_types (Kd.R_apart' (HO_316001.out) (Kd.R_typed HO_16.out) (by decide)) BK297.out (by decide)) BK298.out (by decide)) BK314.out (by decide)) BK315.out (by decide)) (by decide)) (fun k_ hk => ⟨(.inr (hk.1.1.1.1.1.1.1)), ⟨hk.1.1.1.1.1.2, ⟨hk.1.1.1.1.2, ⟨hk.1.1.1.2, ⟨hk.1.1.2, ⟨hk.1.2, hk.2⟩⟩⟩⟩⟩⟩))).2.1 (Kd.R_F (Kd.R_mono (ok' := (fun k_ => ((P1_1_ k_ ∨ P3_ k_) ∨ w.heap.size ≤ k_) ∧ some k_ ≠ (.slice Ao34 t303.length co34 : Value).ownBlock ∧ k_ ≠ gb297 ∧ k_ ≠ gb298 ∧ k_ ≠ gb314 ∧ k_ ≠ gb315 ∧ k_ ≠ g302)) (IsS58.apart HI302.out (Kd.R_types (Kd.R_types (Kd.R_types (Kd.R_types (Kd.R_apart' (HO_316001.out) (Kd.R_typed HO_16.out) (by decide)) BK297.out (by decide)) BK298.out (by decide)) BK314.out (by decide)) BK315.out (by decide)) (by decide)) (fun k_ hk => ⟨(.inr (hk.1.1.1.1.1.1.1)), ⟨hk.1.1.1.1.1.2, ⟨hk.1.1.1.1.2, ⟨hk.1.1.1.2, ⟨hk.1.1.2, ⟨hk.1.2, hk.2⟩⟩⟩⟩⟩⟩))))) (Reps.none _ _))))); intro v330 w80 ho81 hb hg_ hnew_; clear hg_ hnew_; (first | rw [← Ny329.out] at ho81 | (simp only [Int.reduceToNat] at ho81; rw [← Ny329.out] at ho81)); have n0_ := Aside0.mk (Kd.V_elder' (vU6 HO_3.out) (Kd.N_base ho81) hb); have n1_ := Aside0.mk (Kd.R_below (rU6 HO_16.out) hb); have n2_ := Aside0.mk (Kd.V_elder' (vU6 ba0.out) (Kd.N_base ho81) hb); have n3_ := Aside0.mk (Kd.R_below (rU6 ba2.out) hb); have n4_ := Aside0.mk (Kd.V_elder' (vU6 HO328.out) (Kd.N_base ho81) hb); have n5_ := Aside0.mk (Kd.N_lower ho81 (below_size (by repeat (first | (with_reducible first | exact HB.out | apply below_alloc | apply pw_below_drewN | apply below_drew1 | refine below_set ?_ (IsS58.ge HI302.out) | refine below_set ?_ (Aside0.out (by assumption))) | exact HB.out)))); have n6_ := Aside0.mk (blk_below (g := gb297) (o := .cells #[.int .i64 a1_0, .slice Ao77 ba3.length co77] 39 (0, 0)) (bU6 BK297.out) hb); have n7_ := Aside0.mk (blk_below (g := gb298) (o := .cells #[.int .i64 a2_0, .slice A2_1 l2_1.length c2_1] 39 (0, 0)) (bU6 BK298.out) hb); have n8_ := Aside0.mk (blk_below (g := gb314) (o := .cells #[.int .i64 t309, .slice Ao78 ba1.length co78] 39 (0, 0)) (bU6 BK314.out) hb); have n9_ := Aside0.mk (blk_below (g := gb315) (o := .cells #[.int .i64 t309, .slice Ao79 ba8.length co79] 39 (0, 0)) (bU6 BK315.out) hb); have n10_ := Aside0.mk (IsS58.below (by repeat (first | (with_reducible first | exact HI302.out | apply IsS58.alloc | apply IsS58.drewN | apply IsS58.drew | apply IsS58.set_1 | refine IsS58.far ?_ NB302_297.out _ | refine IsS58.far ?_ NB302_298.out _ | refine IsS58.far ?_ NB302_314.out _ | refine IsS58.far ?_ NB302_315.out _) | exact HI302.out)) hb); have n11_ := Aside0.mk (below_step (by repeat (first | (with_reducible first | exact HB.out | apply below_alloc | apply pw_below_drewN | apply below_drew1 | refine below_set ?_ (IsS58.ge HI302.out) | refine below_set ?_ (Aside0.out (by assumption))) | exact HB.out)) hb); clear HO_3; clear HO_16; clear ba0; clear ba2; clear HO328; clear BK297; clear BK298; clear BK314; clear BK315; clear HI302; clear HB; clear HO_316001; have HO_3 := n0_; have HO_16 := n1_; have ba0 := n2_; have ba2 := n3_; have HO328 := n4_; have HO331 := n5_; have BK297 := n6_; have BK298 := n7_; have BK314 := n8_; have BK315 := n9_; have HI302 := n10_; have HB := n11_; clear n0_ n1_ n2_ n3_ n4_ n5_ n6_ n7_ n8_ n9_ n10_ n11_; clear hb ho81; obtain ⟨Ao82, co82, eo82⟩ := Kd.N_slice HO331.out; subst eo82))
     go_loopg [89] kj29 (fun kq v89 w' => ∃ (x89_3 : Int) (ba4 : Int), v89 = .int .i64 x89_3 ∧ Aside0 (storagebarterlaw30_DeviationSteps.l0 kq l3 a4 a5 a6 t303 y329 (y329.length : Int) x89_3 a2_0 l2_1 t300 ba4 t309 ba1 = some r) ∧ Aside0 (kq ≤ kj29) ∧ Aside0 (Kd.V k56 56 w' w.heap.size (fun k_ => ((P1_1_ k_ ∨ P3_ k_) ∨ w.heap.size ≤ k_) ∧ some k_ ≠ ((.slice Ao34 t303.length co34) : Value).ownBlock ∧ some k_ ≠ ((.slice Ao82 y329.length co82) : Value).ownBlock ∧ some k_ ≠ ((.slice Ao78 ba1.length co78) : Value).ownBlock ∧ k_ ≠ gb297 ∧ k_ ≠ gb298 ∧ k_ ≠ gb314 ∧ k_ ≠ g302) (.slice A3 l3.length c3) l3) ∧ Aside0 (Kd.R k56 56 w' w.heap.size (fun k_ => (w.heap.size ≤ k_)) (.slice Ao34 t303.length co34) t303) ∧ Aside0 (Kd.N k39 39 w' w.heap.size (fun k_ => ((P1_1_ k_ ∨ P3_ k_) ∨ w.heap.size ≤ k_) ∧ some k_ ≠ ((.slice Ao34 t303.length co34) : Value).ownBlock ∧ k_ ≠ gb297 ∧ k_ ≠ gb298 ∧ k_ ≠ gb314 ∧ k_ ≠ g302) (.slice Ao82 y329.length co82) y329) ∧ Aside0 (Kd.V k51 51 w' w.heap.size (fun k_ => ((P1_1_ k_ ∨ P3_ k_) ∨ w.heap.size ≤ k_) ∧ some k_ ≠ ((.slice Ao34 t303.length co34) : Value).ownBlock ∧ some k_ ≠ ((.slice Ao82 y329.length co82) : Value).ownBlock ∧ some k_ ≠ ((.slice Ao78 ba1.length co78) : Value).ownBlock ∧ k_ ≠ gb297 ∧ k_ ≠ gb298 ∧ k_ ≠ gb314 ∧ k_ ≠ g302) (.slice Ao77 ba3.length co77) ba3) ∧ Aside0 (Kd.R k51 51 w' w.heap.size (fun k_ => (w.heap.size ≤ k_)) (.slice Ao78 ba1.length co78) ba1) ∧ Aside0 (w'.heap[gb297]? = some (.cells #[.int .i64 a1_0, (.slice Ao77 ba3.length co77)] 39 (0, 0))) ∧ Aside0 (w'.heap[gb298]? = some (.cells #[.int .i64 a2_0, (.slice A2_1 l2_1.length c2_1)] 39 (0, 0))) ∧ Aside0 (w'.heap[gb314]? = some (.cells #[.int .i64 t309, (.slice Ao78 ba1.length co78)] 39 (0, 0))) ∧ Aside0 (IsS58 w w' g302 t300 ba4) ∧ Aside0 (Below w.heap.size w w'))
     case atStart => exact ⟨(0), (bam), (by first | rfl | (simp; done) | (simp [*]; done)), H', ⟨Nat.le_refl _⟩, ⟨by (with_reducible repeat (first | apply Kd.V_alloc | apply Kd.V_drewN | apply Kd.V_drew)); exact Kd.V_mono HO_3.out (fun _ hk => ⟨hk.1.1, ⟨hk.1.2.1, ⟨hk.2, ⟨hk.1.2.2.1, ⟨hk.1.2.2.2.2.1, ⟨hk.1.2.2.2.2.2.1, ⟨hk.1.2.2.2.2.2.2.1, hk.1.2.2.2.2.2.2.2.2⟩⟩⟩⟩⟩⟩⟩)⟩, ⟨by (with_reducible repeat (first | apply Kd.R_alloc | apply Kd.R_drewN | apply Kd.R_drew)); exact HO_16.out⟩, ⟨by (with_reducible repeat (first | apply Kd.N_alloc | apply Kd.N_drewN | apply Kd.N_drew)); exact Kd.N_mono HO331.out (fun _ hk => ⟨hk.1, ⟨hk.2.1, ⟨hk.2.2.1, ⟨hk.2.2.2.1, ⟨hk.2.2.2.2.1, hk.2.2.2.2.2.2⟩⟩⟩⟩⟩)⟩, ⟨by (with_reducible repeat (first | apply Kd.V_alloc | apply Kd.V_drewN | apply Kd.V_drew)); exact Kd.V_mono ba0.out (fun _ hk => ⟨hk.1.1, ⟨hk.1.2.1, ⟨hk.2, ⟨hk.1.2.2.1, ⟨hk.1.2.2.2.2.1, ⟨hk.1.2.2.2.2.2.1, ⟨hk.1.2.2.2.2.2.2.1, hk.1.2.2.2.2.2.2.2.2⟩⟩⟩⟩⟩⟩⟩)⟩, ⟨by (with_reducible repeat (first | apply Kd.R_alloc | apply Kd.R_drewN | apply Kd.R_drew)); exact Kd.R_mono ba2.out (fun _ hk => hk.1)⟩, ⟨by exact bU6 BK297.out⟩, ⟨by exact bU6 BK298.out⟩, ⟨by exact bU6 BK314.out⟩, ⟨by repeat (first | (with_reducible first | exact HI302.out | apply IsS58.alloc | apply IsS58.drewN | apply IsS58.drew | apply IsS58.set_1 | refine IsS58.far ?_ NB302_297.out _ | refine IsS58.far ?_ NB302_298.out _ | refine IsS58.far ?_ NB302_314.out _ | refine IsS58.far ?_ NB302_315.out _) | exact HI302.out)⟩, ⟨by repeat (first | (with_reducible first | exact HB.out | apply below_alloc | apply pw_below_drewN | apply below_drew1 | refine below_set ?_ (IsS58.ge HI302.out) | refine below_set ?_ (Aside0.out (by assumption))) | exact HB.out)⟩⟩
     case round =>
      clear H'
      try clear c1
      try clear c2
      try clear p2
      try clear c3
      try clear p3
      try clear q3
      try clear hx3
      try clear c4
      try clear c5
      try clear p5
      try clear q5
      try clear hx5
      try clear c6
      try clear p6
      try clear c7
      try clear c8
      try clear c9
      try clear c10
      try clear c11
      try clear c14
      try clear c14b0
      try clear c14b1
      try clear c15
      try clear c17
      try clear c17b0
      try clear c17b1
      try clear c18
      try clear c21
      try clear c24
      try clear c29
      try clear p32
      try clear q32
      try clear hx32
      try clear c37
      try clear c38
      try clear c39
      try clear c43
      try clear c44
      try clear c45
      try clear c46
      try clear c54
      try clear c54b0
      try clear c54b1
      try clear c56
      try clear c56b0
      try clear c57
      try clear c57b0
      try clear c59
      try clear p59
      try clear q59
      try clear hx59
      try clear hf59
      try clear c64
      try clear p64
      try clear c65
      try clear c66
      try clear c67
      try clear c68
      try clear c70
      try clear c71
      try clear c72
      try clear c74
      try clear c75
      try clear hcz16_0
      try clear hcz16_1
      try clear hcz19_0
      try clear hcz19_1
      try clear hcz20_0
      try clear hcz20_1
      try clear hcz22_0
      try clear hcz22_1
      try clear hcz23_0
      try clear hcz23_1
      try clear hcz40_0
      try clear hcz40_1
      try clear hcz47_0
      try clear hcz47_1
      try clear hcz50_0
      try clear hcz50_1
      try clear hcz53_0
      try clear hcz53_1
      try clear hcz69_0
      try clear hcz69_1
      try clear hcz73_0
      try clear hcz73_1
      try clear hcz76_0
      try clear hcz76_1
      try clear hfz16_0
      try clear hfz16_1
      try clear hfz19_0
      try clear hfz19_1
      try clear hfz20_0
      try clear hfz20_1
      try clear hfz22_0
      try clear hfz22_1
      try clear hfz23_0
      try clear hfz23_1
      try clear hfz40_0
      try clear hfz40_1
      try clear hfz47_0
      try clear hfz47_1
      try clear hfz50_0
      try clear hfz50_1
      try clear hfz53_0
      try clear hfz53_1
      try clear hfz69_0
      try clear hfz69_1
      try clear hfz73_0
      try clear hfz73_1
      try clear hfz76_0
      try clear hfz76_1
      try clear hx324_0
      try clear hx324_1
      try clear hx59_0
      try clear hx59_1
      try clear p2
      try clear p3
      try clear p32
      try clear p324
      try clear p5
      try clear p59
      try clear p6
      try clear p64
      try clear q3
      try clear q32
      try clear q324
      try clear q5
      try clear q59
      obtain ⟨x89_3, ba4, rfl, HA, HK3, HO_3, HO_16, HO_87, ba0, ba2, BK297, BK298, BK314, HI302, HB⟩ := hrel
      cases gk with
      | zero => exact absurd HA.out (by simp [storagebarterlaw30_DeviationSteps.l0])
      | succ k3 =>
       have H := HA.out
       clear HA
       simp only [storagebarterlaw30_DeviationSteps.l0] at H
       by_cases c83 : x89_3 < (y329.length : Int)
       case neg =>
        rw [if_neg c83] at H
        have c83b0 : decide (x89_3 < (y329.length : Int)) = false := decide_eq_false c83
        clear c83
        replace H := Option.bind_eq_some_iff.mp H
        obtain ⟨⟨t355, t356⟩, A1350, H⟩ := H
        replace H : ((storagebarterplay_Dice_Pick.f t300 t356 6).bind fun bt357 => ((some (([(⟨a5, a6⟩ : S28), (⟨t355, bt357.1⟩ : S28), (⟨a5, 0⟩ : S28), (⟨a5, 1⟩ : S28), (⟨5461, 1⟩ : S28), (⟨5462, 1⟩ : S28), (⟨6, a6⟩ : S28), (⟨7, 7⟩ : S28), (⟨8, 7⟩ : S28)] : List (S28)) : List (S28))).bind fun y359 => (storagebarterlaw30_DeviationSteps.l3 k3 y359 (y359.length : Int) 0))) = some r := H
        have A135 := Aside0.mk A1350
        clear A1350
        replace H := Option.bind_eq_some_iff.mp H
        obtain ⟨⟨t357, t358⟩, A1360, H⟩ := H
        replace H : ((some (([(⟨a5, a6⟩ : S28), (⟨t355, t357⟩ : S28), (⟨a5, 0⟩ : S28), (⟨a5, 1⟩ : S28), (⟨5461, 1⟩ : S28), (⟨5462, 1⟩ : S28), (⟨6, a6⟩ : S28), (⟨7, 7⟩ : S28), (⟨8, 7⟩ : S28)] : List (S28)) : List (S28))).bind fun y359 => (storagebarterlaw30_DeviationSteps.l3 k3 y359 (y359.length : Int) 0)) = some r := H
        have A136 := Aside0.mk A1360
        clear A1360
        obtain ⟨y359, hy359⟩ : ∃ y_ : List (S28), y_ = (([(⟨a5, a6⟩ : S28), (⟨t355, t357⟩ : S28), (⟨a5, 0⟩ : S28), (⟨a5, 1⟩ : S28), (⟨5461, 1⟩ : S28), (⟨5462, 1⟩ : S28), (⟨6, a6⟩ : S28), (⟨7, 7⟩ : S28), (⟨8, 7⟩ : S28)] : List (S28))) := ⟨_, rfl⟩
        replace H : (storagebarterlaw30_DeviationSteps.l3 k3 y359 (y359.length : Int) 0) = some r := by first | (rw [hy359]; with_reducible exact H) | (have H2_ := (Option.bind_some _ _).symm.trans H; rw [hy359]; with_reducible exact H2_) | (have H2_ := (Option.bind_some _ _).symm.trans H; with_reducible exact H2_) | with_reducible exact H | (rw [hy359]; exact H) | exact H
        have Ny359 := Aside0.mk hy359
        clear hy359
        have H' := Aside0.mk H
        clear H
        go_wp2_with (first | ((with_reducible refine gate_callee (f := 11) rfl ?_); refine goesL_ (some 156) rfl rfl Tryd.func11 (by kernel_rfl) rfl #[.pointer (some ⟨g302, 0, none⟩), .int .i64 30] rfl (by (try simp only [List.map_toArray, List.map_cons, List.map_nil]); first | done | rfl | (simp only [List.length_drop, List.length_take]; rfl)) ?_; (with_reducible refine (storagebarterplay_Dice_Pick.calls g302 t300 ba4 30 t355 t356 w _ ?side1 ?side2 A135.out).mono ?_); (case side1 => repeat (first | (with_reducible first | exact HI302.out | apply IsS58.alloc | apply IsS58.drewN | apply IsS58.drew | apply IsS58.set_1 | refine IsS58.far ?_ NB302_297.out _ | refine IsS58.far ?_ NB302_298.out _ | refine IsS58.far ?_ NB302_314.out _) | exact HI302.out)); (case side2 => repeat (first | (with_reducible first | exact HB.out | apply below_alloc | apply pw_below_drewN | apply below_drew1 | refine below_set ?_ (IsS58.ge HI302.out) | refine below_set ?_ (Aside0.out (by assumption))) | exact HB.out)); rintro e w137 ⟨rfl, hi, hb, hk⟩; refine ⟨_, rfl, ?_⟩; have n0_ := Aside0.mk (Kd.V_mono (Kd.V_keep (Kd.V_mono (ok := fun k_ => ((((P1_1_ k_ ∨ P3_ k_) ∨ w.heap.size ≤ k_)) ∧ (some k_ ≠ (.slice Ao34 t303.length co34 : Value).ownBlock ∧ (some k_ ≠ (.slice Ao82 y329.length co82 : Value).ownBlock ∧ (some k_ ≠ (.slice Ao78 ba1.length co78 : Value).ownBlock ∧ (k_ ≠ gb297 ∧ (k_ ≠ gb298 ∧ (k_ ≠ gb314 ∧ k_ ≠ g302)))))))) (vU6 HO_3.out) (fun k_ hk_ => (⟨hk_, hk_.2.2.2.2.2.2.2⟩ : _ ∧ k_ ≠ g302))) hk (fun _ h => h.2)) (fun _ h => h.1)); have n1_ := Aside0.mk (Kd.R_mono (Kd.R_keep (IsS58.apart (show IsS58 w _ g302 t300 ba4 from by repeat (first | (with_reducible first | exact HI302.out | apply IsS58.alloc | apply IsS58.drewN | apply IsS58.drew | apply IsS58.set_1 | refine IsS58.far ?_ NB302_297.out _ | refine IsS58.far ?_ NB302_298.out _ | refine IsS58.far ?_ NB302_314.out _) | exact HI302.out)) (rU6 HO_16.out) (by decide)) hk (fun _ h => h.2)) (fun _ h => h.1)); have n2_ := Aside0.mk (Kd.N_mono (Kd.N_keep (Kd.N_mono (ok := fun k_ => ((((P1_1_ k_ ∨ P3_ k_) ∨ w.heap.size ≤ k_)) ∧ (some k_ ≠ (.slice Ao34 t303.length co34 : Value).ownBlock ∧ (k_ ≠ gb297 ∧ (k_ ≠ gb298 ∧ (k_ ≠ gb314 ∧ k_ ≠ g302)))))) (nU6 HO_87.out) (fun k_ hk_ => (⟨hk_, hk_.2.2.2.2.2⟩ : _ ∧ k_ ≠ g302))) hk (fun _ h => h.2)) (fun _ h => h.1)); have n3_ := Aside0.mk (Kd.V_mono (Kd.V_keep (Kd.V_mono (ok := fun k_ => ((((P1_1_ k_ ∨ P3_ k_) ∨ w.heap.size ≤ k_)) ∧ (some k_ ≠ (.slice Ao34 t303.length co34 : Value).ownBlock ∧ (some k_ ≠ (.slice Ao82 y329.length co82 : Value).ownBlock ∧ (some k_ ≠ (.slice Ao78 ba1.length co78 : Value).ownBlock ∧ (k_ ≠ gb297 ∧ (k_ ≠ gb298 ∧ (k_ ≠ gb314 ∧ k_ ≠ g302)))))))) (vU6 ba0.out) (fun k_ hk_ => (⟨hk_, hk_.2.2.2.2.2.2.2⟩ : _ ∧ k_ ≠ g302))) hk (fun _ h => h.2)) (fun _ h => h.1)); have n4_ := Aside0.mk (Kd.R_mono (Kd.R_keep (IsS58.apart (show IsS58 w _ g302 t300 ba4 from by repeat (first | (with_reducible first | exact HI302.out | apply IsS58.alloc | apply IsS58.drewN | apply IsS58.drew | apply IsS58.set_1 | refine IsS58.far ?_ NB302_297.out _ | refine IsS58.far ?_ NB302_298.out _ | refine IsS58.far ?_ NB302_314.out _) | exact HI302.out)) (rU6 ba2.out) (by decide)) hk (fun _ h => h.2)) (fun _ h => h.1)); have n5_ := Aside0.mk (KeepBut.blk hk (g' := gb297) (o := .cells #[.int .i64 a1_0, .slice Ao77 ba3.length co77] 39 (0, 0)) (bU6 BK297.out) NB297_302.out (by simp)); have n6_ := Aside0.mk (KeepBut.blk hk (g' := gb298) (o := .cells #[.int .i64 a2_0, .slice A2_1 l2_1.length c2_1] 39 (0, 0)) (bU6 BK298.out) NB298_302.out (by simp)); have n7_ := Aside0.mk (KeepBut.blk hk (g' := gb314) (o := .cells #[.int .i64 t309, .slice Ao78 ba1.length co78] 39 (0, 0)) (bU6 BK314.out) NB314_302.out (by simp)); have n8_ := Aside0.mk (hb); have n9_ := Aside0.mk (hi); clear HO_3; clear HO_16; clear HO_87; clear ba0; clear ba2; clear BK297; clear BK298; clear BK314; clear HB; clear HI302; have HO_3 := n0_; have HO_16 := n1_; have HO_87 := n2_; have ba0 := n3_; have ba2 := n4_; have BK297 := n5_; have BK298 := n6_; have BK314 := n7_; have HB := n8_; have HI302 := n9_; clear n0_ n1_ n2_ n3_ n4_ n5_ n6_ n7_ n8_ n9_; (try clear hb); (try clear hb2); (try clear hk); (try clear hi); (try clear hgw)) | ((with_reducible refine gate_callee (f := 11) rfl ?_); refine goesL_ (some 158) rfl rfl Tryd.func11 (by kernel_rfl) rfl #[.pointer (some ⟨g302, 0, none⟩), .int .i64 6] rfl (by (try simp only [List.map_toArray, List.map_cons, List.map_nil]); first | done | rfl | (simp only [List.length_drop, List.length_take]; rfl)) ?_; (with_reducible refine (storagebarterplay_Dice_Pick.calls g302 t300 t356 6 t357 t358 w _ ?side1 ?side2 A136.out).mono ?_); (case side1 => repeat (first | (with_reducible first | exact HI302.out | apply IsS58.alloc | apply IsS58.drewN | apply IsS58.drew | apply IsS58.set_1 | refine IsS58.far ?_ NB302_297.out _ | refine IsS58.far ?_ NB302_298.out _ | refine IsS58.far ?_ NB302_314.out _) | exact HI302.out)); (case side2 => repeat (first | (with_reducible first | exact HB.out | apply below_alloc | apply pw_below_drewN | apply below_drew1 | refine below_set ?_ (IsS58.ge HI302.out) | refine below_set ?_ (Aside0.out (by assumption))) | exact HB.out)); rintro e w138 ⟨rfl, hi, hb, hk⟩; refine ⟨_, rfl, ?_⟩; have n0_ := Aside0.mk (Kd.V_mono (Kd.V_keep (Kd.V_mono (ok := fun k_ => ((((P1_1_ k_ ∨ P3_ k_) ∨ w.heap.size ≤ k_)) ∧ (some k_ ≠ (.slice Ao34 t303.length co34 : Value).ownBlock ∧ (some k_ ≠ (.slice Ao82 y329.length co82 : Value).ownBlock ∧ (some k_ ≠ (.slice Ao78 ba1.length co78 : Value).ownBlock ∧ (k_ ≠ gb297 ∧ (k_ ≠ gb298 ∧ (k_ ≠ gb314 ∧ k_ ≠ g302)))))))) (vU6 HO_3.out) (fun k_ hk_ => (⟨hk_, hk_.2.2.2.2.2.2.2⟩ : _ ∧ k_ ≠ g302))) hk (fun _ h => h.2)) (fun _ h => h.1)); have n1_ := Aside0.mk (Kd.R_mono (Kd.R_keep (IsS58.apart (show IsS58 w _ g302 t300 t356 from by repeat (first | (with_reducible first | exact HI302.out | apply IsS58.alloc | apply IsS58.drewN | apply IsS58.drew | apply IsS58.set_1 | refine IsS58.far ?_ NB302_297.out _ | refine IsS58.far ?_ NB302_298.out _ | refine IsS58.far ?_ NB302_314.out _) | exact HI302.out)) (rU6 HO_16.out) (by decide)) hk (fun _ h => h.2)) (fun _ h => h.1)); have n2_ := Aside0.mk (Kd.N_mono (Kd.N_keep (Kd.N_mono (ok := fun k_ => ((((P1_1_ k_ ∨ P3_ k_) ∨ w.heap.size ≤ k_)) ∧ (some k_ ≠ (.slice Ao34 t303.length co34 : Value).ownBlock ∧ (k_ ≠ gb297 ∧ (k_ ≠ gb298 ∧ (k_ ≠ gb314 ∧ k_ ≠ g302)))))) (nU6 HO_87.out) (fun k_ hk_ => (⟨hk_, hk_.2.2.2.2.2⟩ : _ ∧ k_ ≠ g302))) hk (fun _ h => h.2)) (fun _ h => h.1)); have n3_ := Aside0.mk (Kd.V_mono (Kd.V_keep (Kd.V_mono (ok := fun k_ => ((((P1_1_ k_ ∨ P3_ k_) ∨ w.heap.size ≤ k_)) ∧ (some k_ ≠ (.slice Ao34 t303.length co34 : Value).ownBlock ∧ (some k_ ≠ (.slice Ao82 y329.length co82 : Value).ownBlock ∧ (some k_ ≠ (.slice Ao78 ba1.length co78 : Value).ownBlock ∧ (k_ ≠ gb297 ∧ (k_ ≠ gb298 ∧ (k_ ≠ gb314 ∧ k_ ≠ g302)))))))) (vU6 ba0.out) (fun k_ hk_ => (⟨hk_, hk_.2.2.2.2.2.2.2⟩ : _ ∧ k_ ≠ g302))) hk (fun _ h => h.2)) (fun _ h => h.1)); have n4_ := Aside0.mk (Kd.R_mono (Kd.R_keep (IsS58.apart (show IsS58 w _ g302 t300 t356 from by repeat (first | (with_reducible first | exact HI302.out | apply IsS58.alloc | apply IsS58.drewN | apply IsS58.drew | apply IsS58.set_1 | refine IsS58.far ?_ NB302_297.out _ | refine IsS58.far ?_ NB302_298.out _ | refine IsS58.far ?_ NB302_314.out _) | exact HI302.out)) (rU6 ba2.out) (by decide)) hk (fun _ h => h.2)) (fun _ h => h.1)); have n5_ := Aside0.mk (KeepBut.blk hk (g' := gb297) (o := .cells #[.int .i64 a1_0, .slice Ao77 ba3.length co77] 39 (0, 0)) (bU6 BK297.out) NB297_302.out (by simp)); have n6_ := Aside0.mk (KeepBut.blk hk (g' := gb298) (o := .cells #[.int .i64 a2_0, .slice A2_1 l2_1.length c2_1] 39 (0, 0)) (bU6 BK298.out) NB298_302.out (by simp)); have n7_ := Aside0.mk (KeepBut.blk hk (g' := gb314) (o := .cells #[.int .i64 t309, .slice Ao78 ba1.length co78] 39 (0, 0)) (bU6 BK314.out) NB314_302.out (by simp)); have n8_ := Aside0.mk (hb); have n9_ := Aside0.mk (hi); clear HO_3; clear HO_16; clear HO_87; clear ba0; clear ba2; clear BK297; clear BK298; clear BK314; clear HB; clear HI302; have HO_3 := n0_; have HO_16 := n1_; have HO_87 := n2_; have ba0 := n3_; have ba2 := n4_; have BK297 := n5_; have BK298 := n6_; have BK314 := n7_; have HB := n8_; have HI302 := n9_; clear n0_ n1_ n2_ n3_ n4_ n5_ n6_ n7_ n8_ n9_; (try clear hb); (try clear hb2); (try clear hk); (try clear hi); (try clear hgw)) | ((with_reducible refine gate_dst (N := 170) rfl ?_); (try (refine gate_guard (by rfl) ?_; dsimp only)); refine Kd.R_lit k28 _ 28 ?hg (N := 170) ?hd (xs := ([(⟨a5, a6⟩ : S28), (⟨t355, t357⟩ : S28), (⟨a5, 0⟩ : S28), (⟨a5, 1⟩ : S28), (⟨5461, 1⟩ : S28), (⟨5462, 1⟩ : S28), (⟨6, a6⟩ : S28), (⟨7, 7⟩ : S28), (⟨8, 7⟩ : S28)] : List (S28))) (inner := [.int .i64 a5, .int .i64 a6, .int .i64 t355, .int .i64 t357, .int .i64 a5, .int .i64 0, .int .i64 a5, .int .i64 1, .int .i64 5461, .int .i64 1, .int .i64 5462, .int .i64 1, .int .i64 6, .int .i64 a6, .int .i64 7, .int .i64 7, .int .i64 8, .int .i64 7]) (ok := fun _ => True) (okp := fun _ => True) ?hr ?hp (fun _ hk => hk) trivial (Below.refl _ _) (Nat.le_refl _) (by simp) ?_; (case hd => rfl); (case hg => rfl); (case hr => first | (go_simp; done) | (go_simp; rfl)); (case hp => exact (Reps.c2 (show Kd.M k28 _ _ _ (⟨a5, a6⟩ : S28) [.int .i64 a5, .int .i64 a6] from (k28_mkM _ _ _ (⟨a5, a6⟩ : S28) )) (Reps.c2 (show Kd.M k28 _ _ _ (⟨t355, t357⟩ : S28) [.int .i64 t355, .int .i64 t357] from (k28_mkM _ _ _ (⟨t355, t357⟩ : S28) )) (Reps.c2 (show Kd.M k28 _ _ _ (⟨a5, 0⟩ : S28) [.int .i64 a5, .int .i64 0] from (k28_mkM _ _ _ (⟨a5, 0⟩ : S28) )) (Reps.c2 (show Kd.M k28 _ _ _ (⟨a5, 1⟩ : S28) [.int .i64 a5, .int .i64 1] from (k28_mkM _ _ _ (⟨a5, 1⟩ : S28) )) (Reps.c2 (show Kd.M k28 _ _ _ (⟨5461, 1⟩ : S28) [.int .i64 5461, .int .i64 1] from (k28_mkM _ _ _ (⟨5461, 1⟩ : S28) )) (Reps.c2 (show Kd.M k28 _ _ _ (⟨5462, 1⟩ : S28) [.int .i64 5462, .int .i64 1] from (k28_mkM _ _ _ (⟨5462, 1⟩ : S28) )) (Reps.c2 (show Kd.M k28 _ _ _ (⟨6, a6⟩ : S28) [.int .i64 6, .int .i64 a6] from (k28_mkM _ _ _ (⟨6, a6⟩ : S28) )) (Reps.c2 (show Kd.M k28 _ _ _ (⟨7, 7⟩ : S28) [.int .i64 7, .int .i64 7] from (k28_mkM _ _ _ (⟨7, 7⟩ : S28) )) (Reps.c2 (show Kd.M k28 _ _ _ (⟨8, 7⟩ : S28) [.int .i64 8, .int .i64 7] from (k28_mkM _ _ _ (⟨8, 7⟩ : S28) )) (Reps.none _ _))))))))))); intro v360 w139 ho140 hb hg_ hnew_; clear hg_ hnew_; (first | rw [← Ny359.out] at ho140 | (simp only [Int.reduceToNat] at ho140; rw [← Ny359.out] at ho140)); have n0_ := Aside0.mk (Kd.V_elder' (vU6 HO_3.out) (Kd.R_base ho140) hb); have n1_ := Aside0.mk (Kd.R_below (rU6 HO_16.out) hb); have n2_ := Aside0.mk (Kd.N_elder' (nU6 HO_87.out) (Kd.R_base ho140) hb); have n3_ := Aside0.mk (Kd.V_elder' (vU6 ba0.out) (Kd.R_base ho140) hb); have n4_ := Aside0.mk (Kd.R_below (rU6 ba2.out) hb); have n5_ := Aside0.mk (Kd.R_lower (Kd.R_newM (M := fun k_ => (w.heap.size ≤ k_)) ho140 (below_size (by repeat (first | (with_reducible first | exact HB.out | apply below_alloc | apply pw_below_drewN | apply below_drew1 | refine below_set ?_ (IsS58.ge HI302.out) | refine below_set ?_ (Aside0.out (by assumption))) | exact HB.out))) (fun k_ h_ => h_)) (below_size (by repeat (first | (with_reducible first | exact HB.out | apply below_alloc | apply pw_below_drewN | apply below_drew1 | refine below_set ?_ (IsS58.ge HI302.out) | refine below_set ?_ (Aside0.out (by assumption))) | exact HB.out)))); have n6_ := Aside0.mk (blk_below (g := gb297) (o := .cells #[.int .i64 a1_0, .slice Ao77 ba3.length co77] 39 (0, 0)) (bU6 BK297.out) hb); have n7_ := Aside0.mk (blk_below (g := gb298) (o := .cells #[.int .i64 a2_0, .slice A2_1 l2_1.length c2_1] 39 (0, 0)) (bU6 BK298.out) hb); have n8_ := Aside0.mk (blk_below (g := gb314) (o := .cells #[.int .i64 t309, .slice Ao78 ba1.length co78] 39 (0, 0)) (bU6 BK314.out) hb); have n9_ := Aside0.mk (IsS58.below (by repeat (first | (with_reducible first | exact HI302.out | apply IsS58.alloc | apply IsS58.drewN | apply IsS58.drew | apply IsS58.set_1 | refine IsS58.far ?_ NB302_297.out _ | refine IsS58.far ?_ NB302_298.out _ | refine IsS58.far ?_ NB302_314.out _) | exact HI302.out)) hb); have n10_ := Aside0.mk (below_step (by repeat (first | (with_reducible first | exact HB.out | apply below_alloc | apply pw_below_drewN | apply below_drew1 | refine below_set ?_ (IsS58.ge HI302.out) | refine below_set ?_ (Aside0.out (by assumption))) | exact HB.out)) hb); clear HO_3; clear HO_16; clear HO_87; clear ba0; clear ba2; clear BK297; clear BK298; clear BK314; clear HI302; clear HB; have HO_3 := n0_; have HO_16 := n1_; have HO_87 := n2_; have ba0 := n3_; have ba2 := n4_; have HO361 := n5_; have BK297 := n6_; have BK298 := n7_; have BK314 := n8_; have HI302 := n9_; have HB := n10_; clear n0_ n1_ n2_ n3_ n4_ n5_ n6_ n7_ n8_ n9_ n10_; clear hb ho140; obtain ⟨Ao141, co141, eo141⟩ := Kd.R_slice HO361.out; subst eo141))
        go_loopg [172] k3 (fun kq v172 w' => ∃ (ba5 : Int), v172 = .int .i64 ba5 ∧ Aside0 (storagebarterlaw30_DeviationSteps.l3 kq y359 (y359.length : Int) ba5 = some r) ∧ Aside0 (kq ≤ k3) ∧ Aside0 (Kd.R k28 28 w' w.heap.size (fun k_ => (w.heap.size ≤ k_)) (.slice Ao141 y359.length co141) y359) ∧ Aside0 (Kd.V k51 51 w' w.heap.size (fun k_ => ((P1_1_ k_ ∨ P3_ k_) ∨ w.heap.size ≤ k_) ∧ some k_ ≠ ((.slice Ao141 y359.length co141) : Value).ownBlock ∧ some k_ ≠ ((.slice Ao78 ba1.length co78) : Value).ownBlock ∧ k_ ≠ gb297 ∧ k_ ≠ gb298 ∧ k_ ≠ gb314) (.slice Ao77 ba3.length co77) ba3) ∧ Aside0 (Kd.R k51 51 w' w.heap.size (fun k_ => (w.heap.size ≤ k_)) (.slice Ao78 ba1.length co78) ba1) ∧ Aside0 (w'.heap[gb297]? = some (.cells #[.int .i64 a1_0, (.slice Ao77 ba3.length co77)] 39 (0, 0))) ∧ Aside0 (w'.heap[gb298]? = some (.cells #[.int .i64 a2_0, (.slice A2_1 l2_1.length c2_1)] 39 (0, 0))) ∧ Aside0 (w'.heap[gb314]? = some (.cells #[.int .i64 t309, (.slice Ao78 ba1.length co78)] 39 (0, 0))) ∧ Aside0 (Below w.heap.size w w'))
        case atStart => exact ⟨(0), (by first | rfl | (simp; done) | (simp [*]; done)), H', ⟨Nat.le_refl _⟩, ⟨by (with_reducible repeat (first | apply Kd.R_alloc | apply Kd.R_drewN | apply Kd.R_drew)); exact Kd.R_mono HO361.out (fun _ hk => hk.1)⟩, ⟨by (with_reducible repeat (first | apply Kd.V_alloc | apply Kd.V_drewN | apply Kd.V_drew)); exact Kd.V_mono ba0.out (fun _ hk => ⟨hk.1.1, ⟨hk.2, ⟨hk.1.2.2.2.1, ⟨hk.1.2.2.2.2.1, ⟨hk.1.2.2.2.2.2.1, hk.1.2.2.2.2.2.2.1⟩⟩⟩⟩⟩)⟩, ⟨by (with_reducible repeat (first | apply Kd.R_alloc | apply Kd.R_drewN | apply Kd.R_drew)); exact ba2.out⟩, ⟨by exact bU6 BK297.out⟩, ⟨by exact bU6 BK298.out⟩, ⟨by exact bU6 BK314.out⟩, ⟨by repeat (first | (with_reducible first | exact HB.out | apply below_alloc | apply pw_below_drewN | apply below_drew1 | refine below_set ?_ (IsS58.ge HI302.out) | refine below_set ?_ (Aside0.out (by assumption))) | exact HB.out)⟩⟩
        case round =>
         clear H'
         try clear c1
         try clear c2
         try clear p2
         try clear c3
         try clear p6
         try clear c8
         try clear c11
         try clear c12
         try clear c14
         try clear c20
         try clear c24
         try clear c25
         try clear c33
         try clear p64
         try clear c83
         try clear c83b0
         try clear c84
         try clear c85
         try clear c115
         try clear c115b0
         try clear c116
         try clear c117
         try clear c120
         try clear c120b0
         try clear c120b1
         try clear c126
         try clear c126b0
         try clear c126b1
         try clear c126b2
         try clear c129
         try clear c129b0
         try clear c129b1
         try clear c129b2
         obtain ⟨ba5, rfl, HA, HK4, HO_170, ba0, ba2, BK297, BK298, BK314, HB⟩ := hrel
         cases gk with
         | zero => exact absurd HA.out (by simp [storagebarterlaw30_DeviationSteps.l3])
         | succ k4 =>
          have H := HA.out
          clear HA
          simp only [storagebarterlaw30_DeviationSteps.l3] at H
          by_cases c142 : ba5 < (y359.length : Int)
          case neg =>
           rw [if_neg c142] at H
           have c142b0 : decide (ba5 < (y359.length : Int)) = false := decide_eq_false c142
           clear c142
           obtain rfl := Option.some.inj H
           go_wp2
           go_ret
           exact ⟨by first | rfl | (simp [errW_none, errW_some] <;> rfl) | (simp [*, errW_none, errW_some] <;> rfl), by repeat (first | (with_reducible first | exact HB.out | apply below_alloc | apply pw_below_drewN | apply below_drew1 | refine below_set ?_ (Aside0.out (by assumption))) | exact HB.out)⟩
          rw [if_pos c142] at H
          have c142b0 : decide (ba5 < (y359.length : Int)) = true := decide_eq_true c142
          clear c142
          by_cases c143 : 0 ≤ ba5
          case neg =>
           rw [if_neg c143] at H
           exact absurd H (by simp)
          rw [if_pos c143] at H
          have c143b0 : decide (0 ≤ ba5) = true := decide_eq_true c143
          clear c143
          by_cases c144 : ba5 < (y359.length : Int)
          case neg =>
           rw [if_neg c144] at H
           exact absurd H (by simp)
          rw [if_pos c144] at H
          have c144b0 : decide (ba5 < (y359.length : Int)) = true := decide_eq_true c144
          clear c144
          replace H := Option.bind_eq_some_iff.mp H
          obtain ⟨⟨t364, t365⟩, A1450, H⟩ := H
          replace H : ((storagebarterref30_Count.f k4 ((rd_T28 y359 ba5).f0) ((rd_T28 y359 ba5).f1)).bind fun bt366 => (if t364 = bt366.1 then (if (t365 != bt366.2) = true then (some false) else (storagebarterlaw30_DeviationSteps.l3 k4 y359 (y359.length : Int) (wrap64 (ba5 + 1)))) else (some false))) = some r := H
          have A145 := Aside0.mk A1450
          clear A1450
          replace H := Option.bind_eq_some_iff.mp H
          obtain ⟨⟨t366, t367⟩, A1460, H⟩ := H
          replace H : (if t364 = t366 then (if (t365 != t367) = true then (some false) else (storagebarterlaw30_DeviationSteps.l3 k4 y359 (y359.length : Int) (wrap64 (ba5 + 1)))) else (some false)) = some r := H
          have A146 := Aside0.mk A1460
          clear A1460
          by_cases c147 : t364 = t366
          case neg =>
           rw [if_neg c147] at H
           have c147b0 : (t364 == t366) = false := beq_eq_false_iff_ne.mpr c147
           have c147b1 : (t364 != t366) = true := bne_iff_ne.mpr c147
           exact absurd (Option.some.inj H) (by rw [HRT_.out]; decide)
          rw [if_pos c147] at H
          have c147b0 : (t364 == t366) = true := beq_iff_eq.mpr c147
          have c147b1 : (t364 != t366) = false := bne_eq_false_iff_eq.mpr c147
          clear c147
          by_cases c148 : (t365 != t367) = true
          case pos =>
           rw [if_pos c148] at H
           have c148b0 : (t365 != t367) = true := c148
           (try (have c148b1 : decide (t365 = t367) = false := by simpa using c148))
           (try (have c148b2 : (t365 == t367) = false := by simpa using c148))
           (try (have c148b3 : ¬ (t365 = t367) := by simpa using c148))
           clear c148
           exact absurd (Option.some.inj H) (by rw [HRT_.out]; decide)
          rw [if_neg c148] at H
          have c148b0 : (t365 != t367) = false := by simpa using c148
          (try (have c148b1 : decide (t365 = t367) = true := by simpa using c148))
          (try (have c148b2 : (t365 == t367) = true := by simpa using c148))
          clear c148
          have H' := Aside0.mk H
          clear H
          have p362 : 0 ≤ (ba5 : Int) := of_decide_eq_true (by first | (with_reducible assumption) | assumption)
          have q362 : ba5 < (y359.length : Int) := of_decide_eq_true (by first | (with_reducible assumption) | assumption)
          obtain ⟨ad362, e362, hx362_0, hx362_1⟩ := at_T28 (Kd.R_reads' HO_170.out).2.2 ba5 p362 q362
          cases e362
          replace p362 := eq_true p362
          replace q362 := eq_true q362
          go_wp2_with (first | ((with_reducible refine gate_dst (N := 26) rfl ?_); (try (refine gate_guard (by rfl) ?_; dsimp only)); refine box_event ?hg (N := 26) ?hd (cs := #[.int .i64 0, .int .i64 0]) (t := 28) ?hr ?_; (case hd => rfl); (case hg => rfl); (case hr => first | (go_simp; done) | (go_simp; rfl)); intro gb363 hg w149 hbox hb; have n0_ := Aside0.mk (Kd.R_below (Kd.R_elderB (rU6 HO_170.out) gb363 (Nat.le_of_eq hg.symm)) hb); have n1_ := Aside0.mk (Kd.V_below (Kd.V_elderB (vU6 ba0.out) gb363 (Nat.le_of_eq hg.symm)) hb); have n2_ := Aside0.mk (Kd.R_below (rU6 ba2.out) hb); have n3_ := Aside0.mk (blk_below (g := gb297) (o := .cells #[.int .i64 a1_0, .slice Ao77 ba3.length co77] 39 (0, 0)) (bU6 BK297.out) hb); have n4_ := Aside0.mk (blk_below (g := gb298) (o := .cells #[.int .i64 a2_0, .slice A2_1 l2_1.length c2_1] 39 (0, 0)) (bU6 BK298.out) hb); have n5_ := Aside0.mk (blk_below (g := gb314) (o := .cells #[.int .i64 t309, .slice Ao78 ba1.length co78] 39 (0, 0)) (bU6 BK314.out) hb); have n6_ := Aside0.mk (below_step (by repeat (first | (with_reducible first | exact HB.out | apply below_alloc | apply pw_below_drewN | apply below_drew1 | refine below_set ?_ (Aside0.out (by assumption))) | exact HB.out)) hb); have n7_ := Aside0.mk (hbox); have n8_ := Aside0.mk ((by rw [hg]; exact (below_size (by repeat (first | (with_reducible first | exact HB.out | apply below_alloc | apply pw_below_drewN | apply below_drew1 | refine below_set ?_ (Aside0.out (by assumption))) | exact HB.out))) : w.heap.size ≤ gb363)); have n9_ := Aside0.mk ((by rw [hg]; exact (below_size (by repeat (first | (with_reducible first | exact HB.out | apply below_alloc | apply pw_below_drewN | apply below_drew1 | refine below_set ?_ (Aside0.out (by assumption))) | exact HB.out))) : w.heap.size ≤ gb363)); have n10_ := Aside0.mk ((by rw [hg]; exact Nat.ne_of_lt (blk_lt (g := gb297) (o := .cells #[.int .i64 a1_0, .slice Ao77 ba3.length co77] 39 (0, 0)) (bU6 BK297.out)) : gb297 ≠ gb363)); have n11_ := Aside0.mk ((by rw [hg]; exact Nat.ne_of_gt (blk_lt (g := gb297) (o := .cells #[.int .i64 a1_0, .slice Ao77 ba3.length co77] 39 (0, 0)) (bU6 BK297.out)) : gb363 ≠ gb297)); have n12_ := Aside0.mk ((by rw [hg]; exact Nat.ne_of_lt (blk_lt (g := gb298) (o := .cells #[.int .i64 a2_0, .slice A2_1 l2_1.length c2_1] 39 (0, 0)) (bU6 BK298.out)) : gb298 ≠ gb363)); have n13_ := Aside0.mk ((by rw [hg]; exact Nat.ne_of_gt (blk_lt (g := gb298) (o := .cells #[.int .i64 a2_0, .slice A2_1 l2_1.length c2_1] 39 (0, 0)) (bU6 BK298.out)) : gb363 ≠ gb298)); have n14_ := Aside0.mk ((by rw [hg]; exact Nat.ne_of_lt (blk_lt (g := gb314) (o := .cells #[.int .i64 t309, .slice Ao78 ba1.length co78] 39 (0, 0)) (bU6 BK314.out)) : gb314 ≠ gb363)); have n15_ := Aside0.mk ((by rw [hg]; exact Nat.ne_of_gt (blk_lt (g := gb314) (o := .cells #[.int .i64 t309, .slice Ao78 ba1.length co78] 39 (0, 0)) (bU6 BK314.out)) : gb363 ≠ gb314)); clear HO_170; clear ba0; clear ba2; clear BK297; clear BK298; clear BK314; clear HB; have HO_170 := n0_; have ba0 := n1_; have ba2 := n2_; have BK297 := n3_; have BK298 := n4_; have BK314 := n5_; have HB := n6_; have BK363 := n7_; have GW363 := n8_; have GE363 := n9_; have NB297_363 := n10_; have NB363_297 := n11_; have NB298_363 := n12_; have NB363_298 := n13_; have NB314_363 := n14_; have NB363_314 := n15_; clear n0_ n1_ n2_ n3_ n4_ n5_ n6_ n7_ n8_ n9_ n10_ n11_ n12_ n13_ n14_ n15_; clear hb hbox hg; have hnb150 := NB363_297.out; have hnc150 := NB297_363.out; have hnb151 := NB363_298.out; have hnc151 := NB298_363.out; have hnb152 := NB363_314.out; have hnc152 := NB314_363.out; have hcz153_0 : w149.cell? ⟨gb363, 0, none⟩ = some (.int .i64 0) := (blk_cell BK363.out 0).trans rfl; have hcz153_1 : w149.cell? ⟨gb363, 1, none⟩ = some (.int .i64 0) := (blk_cell BK363.out 1).trans rfl; have hfz153_0 := blk_frozen BK363.out 0; have hfz153_1 := blk_frozen BK363.out 1) | ((with_reducible refine gate_callee (f := 15) rfl ?_); refine goesL_ (some 181) rfl rfl Tryd.func15 (by kernel_rfl) rfl #[.int .i64 ((rd_T28 y359 ba5).f0), .int .i64 ((rd_T28 y359 ba5).f1)] rfl (by (try simp only [List.map_toArray, List.map_cons, List.map_nil]); first | done | rfl | (simp only [List.length_drop, List.length_take]; rfl)) ?_; (with_reducible refine (deviation_Count.calls k4 ((rd_T28 y359 ba5).f0) ((rd_T28 y359 ba5).f1) t364 t365 _ A145.out).mono ?_); rintro e w154 ⟨rfl, hb⟩; refine ⟨_, rfl, ?_⟩; have n0_ := Aside0.mk (Kd.R_below (rU6 ((Kd.R_mono (Kd.R_far (p := ⟨gb363, 1, none⟩) (Kd.R_far (p := ⟨gb363, 0, none⟩) (Kd.R_mono HO_170.out (fun k_ hk => (⟨hk, hk.2⟩ : _ ∧ k_ ≠ gb363))) (fun _ hk => hk.2) (.int .i64 ((rd_T28 y359 ba5).f0))) (fun _ hk => hk.2) (.int .i64 ((rd_T28 y359 ba5).f1))) (fun _ h_ => h_.1)))) hb); have n1_ := Aside0.mk (Kd.V_below (vU6 ((Kd.V_mono (Kd.V_far (p := ⟨gb363, 1, none⟩) (Kd.V_far (p := ⟨gb363, 0, none⟩) (Kd.V_mono ba0.out (fun k_ hk => (⟨hk, hk.2⟩ : _ ∧ k_ ≠ gb363))) (fun _ hk => hk.2) (.int .i64 ((rd_T28 y359 ba5).f0))) (fun _ hk => hk.2) (.int .i64 ((rd_T28 y359 ba5).f1))) (fun _ h_ => h_.1)))) hb); have n2_ := Aside0.mk (Kd.R_below (rU6 ((Kd.R_mono (Kd.R_far (p := ⟨gb363, 1, none⟩) (Kd.R_far (p := ⟨gb363, 0, none⟩) (Kd.R_types ba2.out BK363.out (by decide)) (fun _ hk => hk.2) (.int .i64 ((rd_T28 y359 ba5).f0))) (fun _ hk => hk.2) (.int .i64 ((rd_T28 y359 ba5).f1))) (fun _ h_ => h_.1)))) hb); have n3_ := Aside0.mk (blk_below (g := gb297) (o := .cells #[.int .i64 a1_0, .slice Ao77 ba3.length co77] 39 (0, 0)) (by (with_reducible repeat (first | refine blk_drewN ?_ _ | refine blk_drew ?_ | refine blk_alloc ?_ _)); refine blk_far ?_ NB297_363.out _; (with_reducible repeat (first | refine blk_drewN ?_ _ | refine blk_drew ?_ | refine blk_alloc ?_ _)); refine blk_far ?_ NB297_363.out _; exact bU6 BK297.out) hb); have n4_ := Aside0.mk (blk_below (g := gb298) (o := .cells #[.int .i64 a2_0, .slice A2_1 l2_1.length c2_1] 39 (0, 0)) (by (with_reducible repeat (first | refine blk_drewN ?_ _ | refine blk_drew ?_ | refine blk_alloc ?_ _)); refine blk_far ?_ NB298_363.out _; (with_reducible repeat (first | refine blk_drewN ?_ _ | refine blk_drew ?_ | refine blk_alloc ?_ _)); refine blk_far ?_ NB298_363.out _; exact bU6 BK298.out) hb); have n5_ := Aside0.mk (blk_below (g := gb314) (o := .cells #[.int .i64 t309, .slice Ao78 ba1.length co78] 39 (0, 0)) (by (with_reducible repeat (first | refine blk_drewN ?_ _ | refine blk_drew ?_ | refine blk_alloc ?_ _)); refine blk_far ?_ NB314_363.out _; (with_reducible repeat (first | refine blk_drewN ?_ _ | refine blk_drew ?_ | refine blk_alloc ?_ _)); refine blk_far ?_ NB314_363.out _; exact bU6 BK314.out) hb); have n6_ := Aside0.mk (blk_below (g := gb363) (o := .cells #[.int .i64 ((rd_T28 y359 ba5).f0), .int .i64 ((rd_T28 y359 ba5).f1)] 28 (0, 0)) (by (with_reducible repeat (first | refine blk_drewN ?_ _ | refine blk_drew ?_ | refine blk_alloc ?_ _)); refine blk_put (cs := #[.int .i64 ((rd_T28 y359 ba5).f0), .int .i64 0]) ?_ 1 _ rfl; (with_reducible repeat (first | refine blk_drewN ?_ _ | refine blk_drew ?_ | refine blk_alloc ?_ _)); refine blk_put (cs := #[.int .i64 0, .int .i64 0]) ?_ 0 _ rfl; exact bU6 BK363.out) hb); have n7_ := Aside0.mk (below_step (by repeat (first | (with_reducible first | exact HB.out | apply below_alloc | apply pw_below_drewN | apply below_drew1 | refine below_set ?_ (Aside0.out (by assumption))) | exact HB.out)) hb); clear HO_170; clear ba0; clear ba2; clear BK297; clear BK298; clear BK314; clear BK363; clear HB; have HO_170 := n0_; have ba0 := n1_; have ba2 := n2_; have BK297 := n3_; have BK298 := n4_; have BK314 := n5_; have BK363 := n6_; have HB := n7_; clear n0_ n1_ n2_ n3_ n4_ n5_ n6_ n7_; (try clear hb); (try clear hb2); (try clear hk); (try clear hi); (try clear hgw); have hcz155_0 : w154.cell? ⟨gb363, 0, none⟩ = some (.int .i64 ((rd_T28 y359 ba5).f0)) := (blk_cell BK363.out 0).trans rfl; have hcz155_1 : w154.cell? ⟨gb363, 1, none⟩ = some (.int .i64 ((rd_T28 y359 ba5).f1)) := (blk_cell BK363.out 1).trans rfl; have hfz155_0 := blk_frozen BK363.out 0; have hfz155_1 := blk_frozen BK363.out 1) | ((with_reducible refine gate_callee (f := 26) rfl ?_); refine goesL_ (some 189) rfl rfl Tryd.func26 (by kernel_rfl) rfl #[.int .i64 ((rd_T28 y359 ba5).f0), .int .i64 ((rd_T28 y359 ba5).f1)] rfl (by (try simp only [List.map_toArray, List.map_cons, List.map_nil]); first | done | rfl | (simp only [List.length_drop, List.length_take]; rfl)) ?_; (with_reducible refine (storagebarterref30_Count.calls k4 ((rd_T28 y359 ba5).f0) ((rd_T28 y359 ba5).f1) t366 t367 _ A146.out).mono ?_); rintro e w' ⟨rfl, ⟨nd, rfl⟩⟩; refine ⟨_, rfl, ?_⟩))
          go_roundg k4
          case measure => have := HJ9.out; have := HJ29.out; have := HK3.out; have := HK4.out; omega
          case rel => exact ⟨(wrap64 (ba5 + 1)), (by first | rfl | (simp; done) | (simp [*]; done)), H', ⟨by have := HJ9.out; have := HJ29.out; have := HK3.out; have := HK4.out; omega⟩, ⟨by (with_reducible repeat (first | apply Kd.R_alloc | apply Kd.R_drewN | apply Kd.R_drew)); exact Kd.R_mono HO_170.out (fun _ hk => hk.1)⟩, ⟨by (with_reducible repeat (first | apply Kd.V_alloc | apply Kd.V_drewN | apply Kd.V_drew)); exact Kd.V_mono ba0.out (fun _ hk => ⟨hk.1.1, ⟨hk.1.2.1, ⟨hk.1.2.2.1, ⟨hk.1.2.2.2.1, ⟨hk.1.2.2.2.2.1, hk.1.2.2.2.2.2⟩⟩⟩⟩⟩)⟩, ⟨by (with_reducible repeat (first | apply Kd.R_alloc | apply Kd.R_drewN | apply Kd.R_drew)); exact ba2.out⟩, ⟨by exact bU6 BK297.out⟩, ⟨by exact bU6 BK298.out⟩, ⟨by exact bU6 BK314.out⟩, ⟨by repeat (first | (with_reducible first | exact HB.out | apply below_alloc | apply pw_below_drewN | apply below_drew1 | refine below_set ?_ (Aside0.out (by assumption))) | exact HB.out)⟩⟩
       rw [if_pos c83] at H
       have c83b0 : decide (x89_3 < (y329.length : Int)) = true := decide_eq_true c83
       clear c83
       by_cases c84 : 0 ≤ x89_3
       case neg =>
        rw [if_neg c84] at H
        exact absurd H (by simp)
       rw [if_pos c84] at H
       have c84b0 : decide (0 ≤ x89_3) = true := decide_eq_true c84
       clear c84
       by_cases c85 : x89_3 < (y329.length : Int)
       case neg =>
        rw [if_neg c85] at H
        exact absurd H (by simp)
       rw [if_pos c85] at H
       have c85b0 : decide (x89_3 < (y329.length : Int)) = true := decide_eq_true c85
       clear c85
       obtain ⟨y335, hy335⟩ : ∃ y_ : List (List (S56)), y_ = (([t303, l3] : List (List (S56)))) := ⟨_, rfl⟩
       replace H : (storagebarterlaw30_DeviationSteps.l1 k3 l3 a4 a5 a6 t303 y329 (y329.length : Int) x89_3 y335 (y335.length : Int) 0 a2_0 l2_1 t300 ba4 t309 ba1 ((rd_T39 y329 x89_3).f0) ((rd_T39 y329 x89_3).f1)) = some r := by first | (rw [hy335]; with_reducible exact H) | (have H2_ := (Option.bind_some _ _).symm.trans H; rw [hy335]; with_reducible exact H2_) | (have H2_ := (Option.bind_some _ _).symm.trans H; with_reducible exact H2_) | with_reducible exact H | (rw [hy335]; exact H) | exact H
       have Ny335 := Aside0.mk hy335
       clear hy335
       have H' := Aside0.mk H
       clear H
       have p332 : 0 ≤ (x89_3 : Int) := of_decide_eq_true (by first | (with_reducible assumption) | assumption)
       have q332 : x89_3 < (y329.length : Int) := of_decide_eq_true (by first | (with_reducible assumption) | assumption)
       obtain ⟨ad332, ba6, c332_1, e332, hx332_0, hx332_1, hl332_1, hi332_1⟩ := at_T39 (Kd.N_reads' HO_87.out).2.2 x89_3 p332 q332
       cases e332
       obtain ⟨ce332, hce332, hMe332, hcc332⟩ := Kd.N_get HO_87.out z39 x89_3 p332 (by first | exact q332 | exact of_decide_eq_true (by first | (with_reducible assumption) | assumption) | (have e_ := (Kd.N_reads' HO_87.out).1; omega))
       obtain ⟨ua332_1, uc332_1, rfl, ul332_1, ge332_1⟩ := k39_openF hMe332
       have hv332_1 := hcc332 1 _ rfl
       rw [add_field _ _ 1 (by omega)] at hv332_1
       replace hv332_1 := Option.some.inj (hv332_1.symm.trans hx332_1)
       injection hv332_1 with hva_ hvn_ hvc_
       rw [hva_] at ge332_1
       rw [hvc_] at ul332_1
       have bak := Aside0.mk (show Kd.V k51 51 _ w.heap.size _ _ ((rd_T39 y329 x89_3).f1) from Kd.V_mk ul332_1 ge332_1)
       clear hva_ hvn_ hvc_ ge332_1 ul332_1
       clear hcc332 hce332
       have HR332_1 := Aside0.mk hi332_1
       have HC332_1 := Aside0.mk hl332_1
       clear hi332_1 hl332_1
       replace p332 := eq_true p332
       replace q332 := eq_true q332
       go_wp2_with (first | ((with_reducible refine gate_dst (N := 20) rfl ?_); (try (refine gate_guard (by rfl) ?_; dsimp only)); refine box_event ?hg (N := 20) ?hd (cs := #[.int .i64 0, .slice none 0 0]) (t := 39) ?hr ?_; (case hd => rfl); (case hg => rfl); (case hr => first | (go_simp; done) | (go_simp; rfl)); intro gb333 hg w86 hbox hb; have n0_ := Aside0.mk (Kd.V_below (Kd.V_elderB (vU6 HO_3.out) gb333 (Nat.le_of_eq hg.symm)) hb); have n1_ := Aside0.mk (Kd.R_below (rU6 HO_16.out) hb); have n2_ := Aside0.mk (Kd.N_below (Kd.N_elderB (nU6 HO_87.out) gb333 (Nat.le_of_eq hg.symm)) hb); have n3_ := Aside0.mk (Kd.V_below (Kd.V_elderB (vU6 ba0.out) gb333 (Nat.le_of_eq hg.symm)) hb); have n4_ := Aside0.mk (Kd.R_below (rU6 ba2.out) hb); have n5_ := Aside0.mk (Kd.V_below (Kd.V_elderB (vU6 bak.out) gb333 (Nat.le_of_eq hg.symm)) hb); have n6_ := Aside0.mk (blk_below (g := gb297) (o := .cells #[.int .i64 a1_0, .slice Ao77 ba3.length co77] 39 (0, 0)) (bU6 BK297.out) hb); have n7_ := Aside0.mk (blk_below (g := gb298) (o := .cells #[.int .i64 a2_0, .slice A2_1 l2_1.length c2_1] 39 (0, 0)) (bU6 BK298.out) hb); have n8_ := Aside0.mk (blk_below (g := gb314) (o := .cells #[.int .i64 t309, .slice Ao78 ba1.length co78] 39 (0, 0)) (bU6 BK314.out) hb); have n9_ := Aside0.mk (IsS58.below (by repeat (first | (with_reducible first | exact HI302.out | apply IsS58.alloc | apply IsS58.drewN | apply IsS58.drew | apply IsS58.set_1 | refine IsS58.far ?_ NB302_297.out _ | refine IsS58.far ?_ NB302_298.out _ | refine IsS58.far ?_ NB302_314.out _) | exact HI302.out)) hb); have n10_ := Aside0.mk (Kd.C_below (cU6 HR332_1.out) hb); have n11_ := Aside0.mk (below_step (by repeat (first | (with_reducible first | exact HB.out | apply below_alloc | apply pw_below_drewN | apply below_drew1 | refine below_set ?_ (IsS58.ge HI302.out) | refine below_set ?_ (Aside0.out (by assumption))) | exact HB.out)) hb); have n12_ := Aside0.mk (hbox); have n13_ := Aside0.mk ((by rw [hg]; exact (below_size (by repeat (first | (with_reducible first | exact HB.out | apply below_alloc | apply pw_below_drewN | apply below_drew1 | refine below_set ?_ (IsS58.ge HI302.out) | refine below_set ?_ (Aside0.out (by assumption))) | exact HB.out))) : w.heap.size ≤ gb333)); have n14_ := Aside0.mk ((by rw [hg]; exact (below_size (by repeat (first | (with_reducible first | exact HB.out | apply below_alloc | apply pw_below_drewN | apply below_drew1 | refine below_set ?_ (IsS58.ge HI302.out) | refine below_set ?_ (Aside0.out (by assumption))) | exact HB.out))) : w.heap.size ≤ gb333)); have n15_ := Aside0.mk ((by rw [hg]; exact Nat.ne_of_lt (blk_lt (g := gb297) (o := .cells #[.int .i64 a1_0, .slice Ao77 ba3.length co77] 39 (0, 0)) (bU6 BK297.out)) : gb297 ≠ gb333)); have n16_ := Aside0.mk ((by rw [hg]; exact Nat.ne_of_gt (blk_lt (g := gb297) (o := .cells #[.int .i64 a1_0, .slice Ao77 ba3.length co77] 39 (0, 0)) (bU6 BK297.out)) : gb333 ≠ gb297)); have n17_ := Aside0.mk ((by rw [hg]; exact Nat.ne_of_lt (blk_lt (g := gb298) (o := .cells #[.int .i64 a2_0, .slice A2_1 l2_1.length c2_1] 39 (0, 0)) (bU6 BK298.out)) : gb298 ≠ gb333)); have n18_ := Aside0.mk ((by rw [hg]; exact Nat.ne_of_gt (blk_lt (g := gb298) (o := .cells #[.int .i64 a2_0, .slice A2_1 l2_1.length c2_1] 39 (0, 0)) (bU6 BK298.out)) : gb333 ≠ gb298)); have n19_ := Aside0.mk ((by rw [hg]; exact Nat.ne_of_lt (blk_lt (g := gb314) (o := .cells #[.int .i64 t309, .slice Ao78 ba1.length co78] 39 (0, 0)) (bU6 BK314.out)) : gb314 ≠ gb333)); have n20_ := Aside0.mk ((by rw [hg]; exact Nat.ne_of_gt (blk_lt (g := gb314) (o := .cells #[.int .i64 t309, .slice Ao78 ba1.length co78] 39 (0, 0)) (bU6 BK314.out)) : gb333 ≠ gb314)); have n21_ := Aside0.mk ((by rw [hg]; exact Nat.ne_of_lt (IsS58.lt (show IsS58 w _ g302 t300 ba4 from by repeat (first | (with_reducible first | exact HI302.out | apply IsS58.alloc | apply IsS58.drewN | apply IsS58.drew | apply IsS58.set_1 | refine IsS58.far ?_ NB302_297.out _ | refine IsS58.far ?_ NB302_298.out _ | refine IsS58.far ?_ NB302_314.out _) | exact HI302.out))) : g302 ≠ gb333)); have n22_ := Aside0.mk ((by rw [hg]; exact Nat.ne_of_gt (IsS58.lt (show IsS58 w _ g302 t300 ba4 from by repeat (first | (with_reducible first | exact HI302.out | apply IsS58.alloc | apply IsS58.drewN | apply IsS58.drew | apply IsS58.set_1 | refine IsS58.far ?_ NB302_297.out _ | refine IsS58.far ?_ NB302_298.out _ | refine IsS58.far ?_ NB302_314.out _) | exact HI302.out))) : gb333 ≠ g302)); clear HO_3; clear HO_16; clear HO_87; clear ba0; clear ba2; clear bak; clear BK297; clear BK298; clear BK314; clear HI302; clear HR332_1; clear HB; have HO_3 := n0_; have HO_16 := n1_; have HO_87 := n2_; have ba0 := n3_; have ba2 := n4_; have bak := n5_; have BK297 := n6_; have BK298 := n7_; have BK314 := n8_; have HI302 := n9_; have HR332_1 := n10_; have HB := n11_; have BK333 := n12_; have GW333 := n13_; have GE333 := n14_; have NB297_333 := n15_; have NB333_297 := n16_; have NB298_333 := n17_; have NB333_298 := n18_; have NB314_333 := n19_; have NB333_314 := n20_; have NB302_333 := n21_; have NB333_302 := n22_; clear n0_ n1_ n2_ n3_ n4_ n5_ n6_ n7_ n8_ n9_ n10_ n11_ n12_ n13_ n14_ n15_ n16_ n17_ n18_ n19_ n20_ n21_ n22_; clear hb hbox hg; have hnb87 := NB333_297.out; have hnc87 := NB297_333.out; have hnb88 := NB333_298.out; have hnc88 := NB298_333.out; have hnb89 := NB333_314.out; have hnc89 := NB314_333.out; have hnb90 := NB333_302.out; have hnc90 := NB302_333.out; have hcz91_0 : w86.cell? ⟨gb333, 0, none⟩ = some (.int .i64 0) := (blk_cell BK333.out 0).trans rfl; have hcz91_1 : w86.cell? ⟨gb333, 1, none⟩ = some (.slice none 0 0) := (blk_cell BK333.out 1).trans rfl; have hfz91_0 := blk_frozen BK333.out 0; have hfz91_1 := blk_frozen BK333.out 1) | ((with_reducible refine gate_store (t := 39) (p := 20) rfl ?_); refine store_event (t := 39) (p := 20) (v := ?vo_w92) (w1 := ((w86.setCell ⟨gb333, 0, none⟩ (.int .i64 ((rd_T39 y329 x89_3).f0))).setCell ⟨gb333, 1, none⟩ (.slice ba6 ((rd_T39 y329 x89_3).f1).length c332_1))) ?hg ?ho ?hn ?hr ?_; (case ho => rfl); (case hg => rfl); (case hn => rfl); (case hr => first | (go_simp; done) | (go_simp; rfl)); intro w92 hw; have n0_ : Aside0 (Kd.C k51 w92 ba6 ((rd_T39 y329 x89_3).f1).length ((rd_T39 y329 x89_3).f1)) := ⟨(by rw [hw]; exact ((Kd.V_reads' (vU6 ((Kd.V_mono (Kd.V_far (p := ⟨gb333, 1, none⟩) (Kd.V_far (p := ⟨gb333, 0, none⟩) (Kd.V_mono bak.out (fun k_ hk => (⟨hk, hk.2⟩ : _ ∧ k_ ≠ gb333))) (fun _ hk => hk.2) (.int .i64 ((rd_T39 y329 x89_3).f0))) (fun _ hk => hk.2) (.slice ba6 ((rd_T39 y329 x89_3).f1).length c332_1)) (fun _ h_ => h_.1))))).2.2))⟩; have n1_ : Aside0 (Kd.V k56 56 w92 w.heap.size (fun k_ => ((P1_1_ k_ ∨ P3_ k_) ∨ w.heap.size ≤ k_) ∧ some k_ ≠ (.slice Ao34 t303.length co34 : Value).ownBlock ∧ some k_ ≠ (.slice (some ad332) y329.length co82 : Value).ownBlock ∧ some k_ ≠ (.slice Ao78 ba1.length co78 : Value).ownBlock ∧ k_ ≠ gb297 ∧ k_ ≠ gb298 ∧ k_ ≠ gb314 ∧ k_ ≠ g302 ∧ k_ ≠ gb333) (.slice A3 l3.length c3) l3) := ⟨(by rw [hw]; exact (vU6 (Kd.V_mono (Kd.V_far (p := ⟨gb333, 1, none⟩) (Kd.V_far (p := ⟨gb333, 0, none⟩) (Kd.V_mono HO_3.out (fun k_ hk => (⟨hk, hk.2⟩ : _ ∧ k_ ≠ gb333))) (fun _ hk => hk.2) (.int .i64 ((rd_T39 y329 x89_3).f0))) (fun _ hk => hk.2) (.slice ba6 ((rd_T39 y329 x89_3).f1).length c332_1)) (fun _ hk => ⟨hk.1.1.1, ⟨hk.1.1.2.1, ⟨hk.1.1.2.2.1, ⟨hk.1.1.2.2.2.1, ⟨hk.1.1.2.2.2.2.1, ⟨hk.1.1.2.2.2.2.2.1, ⟨hk.1.1.2.2.2.2.2.2.1, ⟨hk.1.1.2.2.2.2.2.2.2, hk.1.2⟩⟩⟩⟩⟩⟩⟩⟩))))⟩; have n2_ : Aside0 (Kd.R k56 56 w92 w.heap.size (fun k_ => (w.heap.size ≤ k_)) (.slice Ao34 t303.length co34) t303) := ⟨(by rw [hw]; exact (rU6 (Kd.R_mono (Kd.R_far (p := ⟨gb333, 1, none⟩) (Kd.R_far (p := ⟨gb333, 0, none⟩) (Kd.R_types HO_16.out BK333.out (by decide)) (fun _ hk => hk.2) (.int .i64 ((rd_T39 y329 x89_3).f0))) (fun _ hk => hk.2) (.slice ba6 ((rd_T39 y329 x89_3).f1).length c332_1)) (fun _ hk => hk.1))))⟩; have n3_ : Aside0 (Kd.N k39 39 w92 w.heap.size (fun k_ => ((P1_1_ k_ ∨ P3_ k_) ∨ w.heap.size ≤ k_) ∧ some k_ ≠ (.slice Ao34 t303.length co34 : Value).ownBlock ∧ k_ ≠ gb297 ∧ k_ ≠ gb298 ∧ k_ ≠ gb314 ∧ k_ ≠ g302 ∧ k_ ≠ gb333) (.slice (some ad332) y329.length co82) y329) := ⟨(by rw [hw]; exact (nU6 (Kd.N_mono (Kd.N_far (p := ⟨gb333, 1, none⟩) (Kd.N_far (p := ⟨gb333, 0, none⟩) (Kd.N_mono HO_87.out (fun k_ hk => (⟨hk, hk.2⟩ : _ ∧ k_ ≠ gb333))) (fun _ hk => hk.2) (.int .i64 ((rd_T39 y329 x89_3).f0))) (fun _ hk => hk.2) (.slice ba6 ((rd_T39 y329 x89_3).f1).length c332_1)) (fun _ hk => ⟨hk.1.1.1, ⟨hk.1.1.2.1, ⟨hk.1.1.2.2.1, ⟨hk.1.1.2.2.2.1, ⟨hk.1.1.2.2.2.2.1, ⟨hk.1.1.2.2.2.2.2, hk.1.2⟩⟩⟩⟩⟩⟩))))⟩; have n4_ : Aside0 (Kd.V k51 51 w92 w.heap.size (fun k_ => ((P1_1_ k_ ∨ P3_ k_) ∨ w.heap.size ≤ k_) ∧ some k_ ≠ (.slice Ao34 t303.length co34 : Value).ownBlock ∧ some k_ ≠ (.slice (some ad332) y329.length co82 : Value).ownBlock ∧ some k_ ≠ (.slice Ao78 ba1.length co78 : Value).ownBlock ∧ k_ ≠ gb297 ∧ k_ ≠ gb298 ∧ k_ ≠ gb314 ∧ k_ ≠ g302 ∧ k_ ≠ gb333) (.slice Ao77 ba3.length co77) ba3) := ⟨(by rw [hw]; exact (vU6 (Kd.V_mono (Kd.V_far (p := ⟨gb333, 1, none⟩) (Kd.V_far (p := ⟨gb333, 0, none⟩) (Kd.V_mono ba0.out (fun k_ hk => (⟨hk, hk.2⟩ : _ ∧ k_ ≠ gb333))) (fun _ hk => hk.2) (.int .i64 ((rd_T39 y329 x89_3).f0))) (fun _ hk => hk.2) (.slice ba6 ((rd_T39 y329 x89_3).f1).length c332_1)) (fun _ hk => ⟨hk.1.1.1, ⟨hk.1.1.2.1, ⟨hk.1.1.2.2.1, ⟨hk.1.1.2.2.2.1, ⟨hk.1.1.2.2.2.2.1, ⟨hk.1.1.2.2.2.2.2.1, ⟨hk.1.1.2.2.2.2.2.2.1, ⟨hk.1.1.2.2.2.2.2.2.2, hk.1.2⟩⟩⟩⟩⟩⟩⟩⟩))))⟩; have n5_ : Aside0 (Kd.R k51 51 w92 w.heap.size (fun k_ => (w.heap.size ≤ k_)) (.slice Ao78 ba1.length co78) ba1) := ⟨(by rw [hw]; exact (rU6 (Kd.R_mono (Kd.R_far (p := ⟨gb333, 1, none⟩) (Kd.R_far (p := ⟨gb333, 0, none⟩) (Kd.R_types ba2.out BK333.out (by decide)) (fun _ hk => hk.2) (.int .i64 ((rd_T39 y329 x89_3).f0))) (fun _ hk => hk.2) (.slice ba6 ((rd_T39 y329 x89_3).f1).length c332_1)) (fun _ hk => hk.1))))⟩; have n6_ : Aside0 (Kd.V k51 51 w92 w.heap.size (fun k_ => ((P1_1_ k_ ∨ P3_ k_) ∨ w.heap.size ≤ k_) ∧ some k_ ≠ (.slice Ao34 t303.length co34 : Value).ownBlock ∧ some k_ ≠ (.slice (some ad332) y329.length co82 : Value).ownBlock ∧ k_ ≠ gb297 ∧ k_ ≠ gb298 ∧ k_ ≠ gb314 ∧ k_ ≠ g302 ∧ k_ ≠ gb333) (.slice ba6 ((rd_T39 y329 x89_3).f1).length c332_1) ((rd_T39 y329 x89_3).f1)) := ⟨(by rw [hw]; exact (vU6 (Kd.V_mono (Kd.V_far (p := ⟨gb333, 1, none⟩) (Kd.V_far (p := ⟨gb333, 0, none⟩) (Kd.V_mono bak.out (fun k_ hk => (⟨hk, hk.2⟩ : _ ∧ k_ ≠ gb333))) (fun _ hk => hk.2) (.int .i64 ((rd_T39 y329 x89_3).f0))) (fun _ hk => hk.2) (.slice ba6 ((rd_T39 y329 x89_3).f1).length c332_1)) (fun _ hk => ⟨hk.1.1.1.1, ⟨hk.1.1.1.2.1, ⟨hk.1.1.2, ⟨hk.1.1.1.2.2.1, ⟨hk.1.1.1.2.2.2.1, ⟨hk.1.1.1.2.2.2.2.1, ⟨hk.1.1.1.2.2.2.2.2, hk.1.2⟩⟩⟩⟩⟩⟩⟩))))⟩; have n7_ : Aside0 (w92.heap[gb297]? = some (.cells #[.int .i64 a1_0, .slice Ao77 ba3.length co77] 39 (0, 0))) := ⟨(by rw [hw]; exact (by (with_reducible repeat (first | refine blk_drewN ?_ _ | refine blk_drew ?_ | refine blk_alloc ?_ _)); refine blk_far ?_ NB297_333.out _; (with_reducible repeat (first | refine blk_drewN ?_ _ | refine blk_drew ?_ | refine blk_alloc ?_ _)); refine blk_far ?_ NB297_333.out _; exact bU6 BK297.out))⟩; have n8_ : Aside0 (w92.heap[gb298]? = some (.cells #[.int .i64 a2_0, .slice A2_1 l2_1.length c2_1] 39 (0, 0))) := ⟨(by rw [hw]; exact (by (with_reducible repeat (first | refine blk_drewN ?_ _ | refine blk_drew ?_ | refine blk_alloc ?_ _)); refine blk_far ?_ NB298_333.out _; (with_reducible repeat (first | refine blk_drewN ?_ _ | refine blk_drew ?_ | refine blk_alloc ?_ _)); refine blk_far ?_ NB298_333.out _; exact bU6 BK298.out))⟩; have n9_ : Aside0 (w92.heap[gb314]? = some (.cells #[.int .i64 t309, .slice Ao78 ba1.length co78] 39 (0, 0))) := ⟨(by rw [hw]; exact (by (with_reducible repeat (first | refine blk_drewN ?_ _ | refine blk_drew ?_ | refine blk_alloc ?_ _)); refine blk_far ?_ NB314_333.out _; (with_reducible repeat (first | refine blk_drewN ?_ _ | refine blk_drew ?_ | refine blk_alloc ?_ _)); refine blk_far ?_ NB314_333.out _; exact bU6 BK314.out))⟩; have n10_ : Aside0 (w92.heap[gb333]? = some (.cells #[.int .i64 ((rd_T39 y329 x89_3).f0), .slice ba6 ((rd_T39 y329 x89_3).f1).length c332_1] 39 (0, 0))) := ⟨(by rw [hw]; exact (by (with_reducible repeat (first | refine blk_drewN ?_ _ | refine blk_drew ?_ | refine blk_alloc ?_ _)); refine blk_put (cs := #[.int .i64 ((rd_T39 y329 x89_3).f0), .slice none 0 0]) ?_ 1 _ rfl; (with_reducible repeat (first | refine blk_drewN ?_ _ | refine blk_drew ?_ | refine blk_alloc ?_ _)); refine blk_put (cs := #[.int .i64 0, .slice none 0 0]) ?_ 0 _ rfl; exact bU6 BK333.out))⟩; have n11_ : Aside0 (IsS58 w w92 g302 t300 ba4) := ⟨(by rw [hw]; exact (by repeat (first | (with_reducible first | exact HI302.out | apply IsS58.alloc | apply IsS58.drewN | apply IsS58.drew | apply IsS58.set_1 | refine IsS58.far ?_ NB302_297.out _ | refine IsS58.far ?_ NB302_298.out _ | refine IsS58.far ?_ NB302_314.out _ | refine IsS58.far ?_ NB302_333.out _) | exact HI302.out)))⟩; have n12_ : Aside0 (Below w.heap.size w w92) := ⟨(by rw [hw]; exact (by repeat (first | (with_reducible first | exact HB.out | apply below_alloc | apply pw_below_drewN | apply below_drew1 | refine below_set ?_ (IsS58.ge HI302.out) | refine below_set ?_ (Aside0.out (by assumption))) | exact HB.out)))⟩; clear hw; clear HR332_1; clear HO_3; clear HO_16; clear HO_87; clear ba0; clear ba2; clear bak; clear BK297; clear BK298; clear BK314; clear BK333; clear HI302; clear HB; have HR332_1 := n0_; have HO_3 := n1_; have HO_16 := n2_; have HO_87 := n3_; have ba0 := n4_; have ba2 := n5_; have bak := n6_; have BK297 := n7_; have BK298 := n8_; have BK314 := n9_; have BK333 := n10_; have HI302 := n11_; have HB := n12_; clear n0_ n1_ n2_ n3_ n4_ n5_ n6_ n7_ n8_ n9_ n10_ n11_ n12_; have HO334 := Aside0.mk (show Kd.V k56 56 _ w.heap.size _ (.slice Ao34 t303.length co34) t303 from Kd.V_mono (ok' := (fun k_ => (((((((((P1_1_ k_ ∨ P3_ k_) ∨ w.heap.size ≤ k_) ∧ some k_ ≠ (.slice (some ad332) y329.length co82 : Value).ownBlock) ∧ some k_ ≠ (.slice Ao78 ba1.length co78 : Value).ownBlock) ∧ k_ ≠ gb297) ∧ k_ ≠ gb298) ∧ k_ ≠ gb314) ∧ k_ ≠ gb333) ∧ k_ ≠ g302))) (Kd.R_V (IsS58.apart HI302.out (Kd.R_types (Kd.R_types (Kd.R_types (Kd.R_types (Kd.R_apart' (Kd.R_apart' (HO_16.out) (Kd.N_typed HO_87.out) (by decide)) (Kd.R_typed ba2.out) (by decide)) BK297.out (by decide)) BK298.out (by decide)) BK314.out (by decide)) BK333.out (by decide)) (by decide))) (fun k_ hk => ⟨⟨⟨⟨⟨⟨⟨(.inr (hk.1.1.1.1.1.1.1)), hk.1.1.1.1.1.1.2⟩, hk.1.1.1.1.1.2⟩, hk.1.1.1.1.2⟩, hk.1.1.1.2⟩, hk.1.1.2⟩, hk.1.2⟩, hk.2⟩))) | ((with_reducible refine gate_dst (N := 95) rfl ?_); (try (refine gate_guard (by rfl) ?_; dsimp only)); refine Kd.N_lit (Kd.slice 56 k56) _ 23 ?hg (N' := 95) ?hd (xs := ([t303, l3] : List (List (S56)))) (inner := [.slice Ao34 t303.length co34, .slice A3 l3.length c3]) (ok := (fun k_ => ((P1_1_ k_ ∨ P3_ k_) ∨ w.heap.size ≤ k_) ∧ some k_ ≠ (.slice (some ad332) y329.length co82 : Value).ownBlock ∧ some k_ ≠ (.slice Ao78 ba1.length co78 : Value).ownBlock ∧ k_ ≠ gb297 ∧ k_ ≠ gb298 ∧ k_ ≠ gb314 ∧ k_ ≠ gb333 ∧ k_ ≠ g302)) (okp := (fun k_ => ((P1_1_ k_ ∨ P3_ k_) ∨ w.heap.size ≤ k_) ∧ some k_ ≠ (.slice (some ad332) y329.length co82 : Value).ownBlock ∧ some k_ ≠ (.slice Ao78 ba1.length co78 : Value).ownBlock ∧ k_ ≠ gb297 ∧ k_ ≠ gb298 ∧ k_ ≠ gb314 ∧ k_ ≠ gb333 ∧ k_ ≠ g302)) ?hr ?hp (fun _ hk => hk) ((show ∀ k_, w92.heap.size ≤ k_ → (fun k_ => ((P1_1_ k_ ∨ P3_ k_) ∨ w.heap.size ≤ k_) ∧ some k_ ≠ (.slice (some ad332) y329.length co82 : Value).ownBlock ∧ some k_ ≠ (.slice Ao78 ba1.length co78 : Value).ownBlock ∧ k_ ≠ gb297 ∧ k_ ≠ gb298 ∧ k_ ≠ gb314 ∧ k_ ≠ gb333 ∧ k_ ≠ g302) k_ from fun k_ hk => ⟨(.inr (Nat.le_trans (below_size (by repeat (first | (with_reducible first | exact HB.out | apply below_alloc | apply pw_below_drewN | apply below_drew1 | refine below_set ?_ (IsS58.ge HI302.out) | refine below_set ?_ (Aside0.out (by assumption))) | exact HB.out))) hk)), Kd.fresh' (Kd.N_lt (nU6 HO_87.out)) k_ hk, Kd.fresh' (Kd.R_lt (rU6 ba2.out)) k_ hk, Kd.freshB (g := gb297) (o := .cells #[.int .i64 a1_0, .slice Ao77 ba3.length co77] 39 (0, 0)) (bU6 BK297.out) k_ hk, Kd.freshB (g := gb298) (o := .cells #[.int .i64 a2_0, .slice A2_1 l2_1.length c2_1] 39 (0, 0)) (bU6 BK298.out) k_ hk, Kd.freshB (g := gb314) (o := .cells #[.int .i64 t309, .slice Ao78 ba1.length co78] 39 (0, 0)) (bU6 BK314.out) k_ hk, Kd.freshB (g := gb333) (o := .cells #[.int .i64 ((rd_T39 y329 x89_3).f0), .slice ba6 ((rd_T39 y329 x89_3).f1).length c332_1] 39 (0, 0)) (bU6 BK333.out) k_ hk, IsS58.fresh (by repeat (first | (with_reducible first | exact HI302.out | apply IsS58.alloc | apply IsS58.drewN | apply IsS58.drew | apply IsS58.set_1 | refine IsS58.far ?_ NB302_297.out _ | refine IsS58.far ?_ NB302_298.out _ | refine IsS58.far ?_ NB302_314.out _ | refine IsS58.far ?_ NB302_333.out _) | exact HI302.out)) k_ hk⟩) _ (Nat.le_refl _)) (Below.refl _ _) (Nat.le_refl _) (by simp) ?_; (case hd => rfl); (case hg => rfl); (case hr => first | (go_simp; done) | (go_simp; rfl)); (case hp => exact (Reps.one (show Kd.FK (Kd.slice 56 k56) _ _ t303 [.slice Ao34 t303.length co34] from (Kd.FK_slice_mk (Kd.V_reads' (Kd.V_mono (ok' := (fun k_ => ((P1_1_ k_ ∨ P3_ k_) ∨ w.heap.size ≤ k_) ∧ some k_ ≠ (.slice (some ad332) y329.length co82 : Value).ownBlock ∧ some k_ ≠ (.slice Ao78 ba1.length co78 : Value).ownBlock ∧ k_ ≠ gb297 ∧ k_ ≠ gb298 ∧ k_ ≠ gb314 ∧ k_ ≠ gb333 ∧ k_ ≠ g302)) (HO334.out) (fun k_ hk => ⟨hk.1.1.1.1.1.1.1, ⟨hk.1.1.1.1.1.1.2, ⟨hk.1.1.1.1.1.2, ⟨hk.1.1.1.1.2, ⟨hk.1.1.1.2, ⟨hk.1.1.2, ⟨hk.1.2, hk.2⟩⟩⟩⟩⟩⟩⟩))).2.1 (Kd.V_F (Kd.V_mono (ok' := (fun k_ => ((P1_1_ k_ ∨ P3_ k_) ∨ w.heap.size ≤ k_) ∧ some k_ ≠ (.slice (some ad332) y329.length co82 : Value).ownBlock ∧ some k_ ≠ (.slice Ao78 ba1.length co78 : Value).ownBlock ∧ k_ ≠ gb297 ∧ k_ ≠ gb298 ∧ k_ ≠ gb314 ∧ k_ ≠ gb333 ∧ k_ ≠ g302)) (HO334.out) (fun k_ hk => ⟨hk.1.1.1.1.1.1.1, ⟨hk.1.1.1.1.1.1.2, ⟨hk.1.1.1.1.1.2, ⟨hk.1.1.1.1.2, ⟨hk.1.1.1.2, ⟨hk.1.1.2, ⟨hk.1.2, hk.2⟩⟩⟩⟩⟩⟩⟩))))) (Reps.one (show Kd.FK (Kd.slice 56 k56) _ _ l3 [.slice A3 l3.length c3] from (Kd.FK_slice_mk (Kd.V_reads' (Kd.V_mono (ok' := (fun k_ => ((P1_1_ k_ ∨ P3_ k_) ∨ w.heap.size ≤ k_) ∧ some k_ ≠ (.slice (some ad332) y329.length co82 : Value).ownBlock ∧ some k_ ≠ (.slice Ao78 ba1.length co78 : Value).ownBlock ∧ k_ ≠ gb297 ∧ k_ ≠ gb298 ∧ k_ ≠ gb314 ∧ k_ ≠ gb333 ∧ k_ ≠ g302)) (HO_3.out) (fun k_ hk => ⟨hk.1, ⟨hk.2.2.1, ⟨hk.2.2.2.1, ⟨hk.2.2.2.2.1, ⟨hk.2.2.2.2.2.1, ⟨hk.2.2.2.2.2.2.1, ⟨hk.2.2.2.2.2.2.2.2, hk.2.2.2.2.2.2.2.1⟩⟩⟩⟩⟩⟩⟩))).2.1 (Kd.V_F (Kd.V_mono (ok' := (fun k_ => ((P1_1_ k_ ∨ P3_ k_) ∨ w.heap.size ≤ k_) ∧ some k_ ≠ (.slice (some ad332) y329.length co82 : Value).ownBlock ∧ some k_ ≠ (.slice Ao78 ba1.length co78 : Value).ownBlock ∧ k_ ≠ gb297 ∧ k_ ≠ gb298 ∧ k_ ≠ gb314 ∧ k_ ≠ gb333 ∧ k_ ≠ g302)) (HO_3.out) (fun k_ hk => ⟨hk.1, ⟨hk.2.2.1, ⟨hk.2.2.2.1, ⟨hk.2.2.2.2.1, ⟨hk.2.2.2.2.2.1, ⟨hk.2.2.2.2.2.2.1, ⟨hk.2.2.2.2.2.2.2.2, hk.2.2.2.2.2.2.2.1⟩⟩⟩⟩⟩⟩⟩))))) (Reps.none _ _)))); intro v336 w93 ho94 hb hg_ hnew_; clear hg_ hnew_; (first | rw [← Ny335.out] at ho94 | (simp only [Int.reduceToNat] at ho94; rw [← Ny335.out] at ho94)); have n0_ := Aside0.mk (Kd.V_elder' (vU6 HO_3.out) (Kd.N_base ho94) hb); have n1_ := Aside0.mk (Kd.R_below (rU6 HO_16.out) hb); have n2_ := Aside0.mk (Kd.N_elder' (nU6 HO_87.out) (Kd.N_base ho94) hb); have n3_ := Aside0.mk (Kd.V_elder' (vU6 ba0.out) (Kd.N_base ho94) hb); have n4_ := Aside0.mk (Kd.R_below (rU6 ba2.out) hb); have n5_ := Aside0.mk (Kd.V_elder' (vU6 bak.out) (Kd.N_base ho94) hb); have n6_ := Aside0.mk (Kd.V_elder' (vU6 HO334.out) (Kd.N_base ho94) hb); have n7_ := Aside0.mk (Kd.N_lower ho94 (below_size (by repeat (first | (with_reducible first | exact HB.out | apply below_alloc | apply pw_below_drewN | apply below_drew1 | refine below_set ?_ (IsS58.ge HI302.out) | refine below_set ?_ (Aside0.out (by assumption))) | exact HB.out)))); have n8_ := Aside0.mk (blk_below (g := gb297) (o := .cells #[.int .i64 a1_0, .slice Ao77 ba3.length co77] 39 (0, 0)) (bU6 BK297.out) hb); have n9_ := Aside0.mk (blk_below (g := gb298) (o := .cells #[.int .i64 a2_0, .slice A2_1 l2_1.length c2_1] 39 (0, 0)) (bU6 BK298.out) hb); have n10_ := Aside0.mk (blk_below (g := gb314) (o := .cells #[.int .i64 t309, .slice Ao78 ba1.length co78] 39 (0, 0)) (bU6 BK314.out) hb); have n11_ := Aside0.mk (IsS58.below (by repeat (first | (with_reducible first | exact HI302.out | apply IsS58.alloc | apply IsS58.drewN | apply IsS58.drew | apply IsS58.set_1 | refine IsS58.far ?_ NB302_297.out _ | refine IsS58.far ?_ NB302_298.out _ | refine IsS58.far ?_ NB302_314.out _ | refine IsS58.far ?_ NB302_333.out _) | exact HI302.out)) hb); have n12_ := Aside0.mk (Kd.C_below (cU6 HR332_1.out) hb); have n13_ := Aside0.mk (blk_below (g := gb333) (bU6 BK333.out) hb); have n14_ := Aside0.mk (below_step (by repeat (first | (with_reducible first | exact HB.out | apply below_alloc | apply pw_below_drewN | apply below_drew1 | refine below_set ?_ (IsS58.ge HI302.out) | refine below_set ?_ (Aside0.out (by assumption))) | exact HB.out)) hb); clear HO_3; clear HO_16; clear HO_87; clear ba0; clear ba2; clear bak; clear HO334; clear BK297; clear BK298; clear BK314; clear HI302; clear HR332_1; clear BK333; clear HB; have HO_3 := n0_; have HO_16 := n1_; have HO_87 := n2_; have ba0 := n3_; have ba2 := n4_; have bak := n5_; have HO334 := n6_; have HO337 := n7_; have BK297 := n8_; have BK298 := n9_; have BK314 := n10_; have HI302 := n11_; have HR332_1 := n12_; have BK333 := n13_; have HB := n14_; clear n0_ n1_ n2_ n3_ n4_ n5_ n6_ n7_ n8_ n9_ n10_ n11_ n12_ n13_ n14_; clear hb ho94; obtain ⟨Ao95, co95, eo95⟩ := Kd.N_slice HO337.out; subst eo95))
       have bkq : Aside0 (Kd.V k51 51 _ w.heap.size (fun k_ => k_ ≠ g302) (.slice ba6 ((rd_T39 y329 x89_3).f1).length c332_1) ((rd_T39 y329 x89_3).f1)) := ⟨Kd.V_mono bak.out (fun k_ hk => by grind)⟩
       go_loopg [97] k3 (fun kq v97 w' => ∃ (x97_4 : Int), v97 = .int .i64 x97_4 ∧ Aside0 (storagebarterlaw30_DeviationSteps.l1 kq l3 a4 a5 a6 t303 y329 (y329.length : Int) x89_3 y335 (y335.length : Int) x97_4 a2_0 l2_1 t300 ba4 t309 ba1 ((rd_T39 y329 x89_3).f0) ((rd_T39 y329 x89_3).f1) = some r) ∧ Aside0 (kq ≤ k3) ∧ Aside0 (Kd.V k56 56 w' w.heap.size (fun k_ => ((P1_1_ k_ ∨ P3_ k_) ∨ w.heap.size ≤ k_) ∧ some k_ ≠ ((.slice Ao34 t303.length co34) : Value).ownBlock ∧ some k_ ≠ ((.slice (some ad332) y329.length co82) : Value).ownBlock ∧ some k_ ≠ ((.slice Ao95 y335.length co95) : Value).ownBlock ∧ some k_ ≠ ((.slice Ao78 ba1.length co78) : Value).ownBlock ∧ k_ ≠ gb297 ∧ k_ ≠ gb298 ∧ k_ ≠ gb314 ∧ k_ ≠ gb333 ∧ k_ ≠ g302) (.slice A3 l3.length c3) l3) ∧ Aside0 (Kd.R k56 56 w' w.heap.size (fun k_ => (w.heap.size ≤ k_)) (.slice Ao34 t303.length co34) t303) ∧ Aside0 (Kd.N k39 39 w' w.heap.size (fun k_ => ((P1_1_ k_ ∨ P3_ k_) ∨ w.heap.size ≤ k_) ∧ some k_ ≠ ((.slice Ao34 t303.length co34) : Value).ownBlock ∧ some k_ ≠ ((.slice Ao95 y335.length co95) : Value).ownBlock ∧ k_ ≠ gb297 ∧ k_ ≠ gb298 ∧ k_ ≠ gb314 ∧ k_ ≠ gb333 ∧ k_ ≠ g302) (.slice (some ad332) y329.length co82) y329) ∧ Aside0 (Kd.N (Kd.slice 56 k56) 23 w' w.heap.size (fun k_ => ((P1_1_ k_ ∨ P3_ k_) ∨ w.heap.size ≤ k_) ∧ some k_ ≠ ((.slice (some ad332) y329.length co82) : Value).ownBlock ∧ some k_ ≠ ((.slice Ao78 ba1.length co78) : Value).ownBlock ∧ k_ ≠ gb297 ∧ k_ ≠ gb298 ∧ k_ ≠ gb314 ∧ k_ ≠ gb333 ∧ k_ ≠ g302) (.slice Ao95 y335.length co95) y335) ∧ Aside0 (Kd.V k51 51 w' w.heap.size (fun k_ => ((P1_1_ k_ ∨ P3_ k_) ∨ w.heap.size ≤ k_) ∧ some k_ ≠ ((.slice Ao34 t303.length co34) : Value).ownBlock ∧ some k_ ≠ ((.slice (some ad332) y329.length co82) : Value).ownBlock ∧ some k_ ≠ ((.slice Ao95 y335.length co95) : Value).ownBlock ∧ some k_ ≠ ((.slice Ao78 ba1.length co78) : Value).ownBlock ∧ k_ ≠ gb297 ∧ k_ ≠ gb298 ∧ k_ ≠ gb314 ∧ k_ ≠ gb333 ∧ k_ ≠ g302) (.slice Ao77 ba3.length co77) ba3) ∧ Aside0 (Kd.R k51 51 w' w.heap.size (fun k_ => (w.heap.size ≤ k_)) (.slice Ao78 ba1.length co78) ba1) ∧ Aside0 (w'.heap[gb297]? = some (.cells #[.int .i64 a1_0, (.slice Ao77 ba3.length co77)] 39 (0, 0))) ∧ Aside0 (w'.heap[gb298]? = some (.cells #[.int .i64 a2_0, (.slice A2_1 l2_1.length c2_1)] 39 (0, 0))) ∧ Aside0 (w'.heap[gb314]? = some (.cells #[.int .i64 t309, (.slice Ao78 ba1.length co78)] 39 (0, 0))) ∧ Aside0 (w'.heap[gb333]? = some (.cells #[.int .i64 ((rd_T39 y329 x89_3).f0), (.slice ba6 ((rd_T39 y329 x89_3).f1).length c332_1)] 39 (0, 0))) ∧ Aside0 (Kd.C k51 w' ba6 ((rd_T39 y329 x89_3).f1).length ((rd_T39 y329 x89_3).f1)) ∧ Aside0 (Kd.V k51 51 w' w.heap.size (fun k_ => k_ ≠ g302) (.slice ba6 ((rd_T39 y329 x89_3).f1).length c332_1) ((rd_T39 y329 x89_3).f1)) ∧ Aside0 (IsS58 w w' g302 t300 ba4) ∧ Aside0 (Below w.heap.size w w'))
       case atStart => exact ⟨(0), (by first | rfl | (simp; done) | (simp [*]; done)), H', ⟨Nat.le_refl _⟩, ⟨by (with_reducible repeat (first | apply Kd.V_alloc | apply Kd.V_drewN | apply Kd.V_drew)); exact Kd.V_mono HO_3.out (fun _ hk => ⟨hk.1.1, ⟨hk.1.2.1, ⟨hk.1.2.2.1, ⟨hk.2, ⟨hk.1.2.2.2.1, ⟨hk.1.2.2.2.2.1, ⟨hk.1.2.2.2.2.2.1, ⟨hk.1.2.2.2.2.2.2.1, ⟨hk.1.2.2.2.2.2.2.2.2, hk.1.2.2.2.2.2.2.2.1⟩⟩⟩⟩⟩⟩⟩⟩⟩)⟩, ⟨by (with_reducible repeat (first | apply Kd.R_alloc | apply Kd.R_drewN | apply Kd.R_drew)); exact HO_16.out⟩, ⟨by (with_reducible repeat (first | apply Kd.N_alloc | apply Kd.N_drewN | apply Kd.N_drew)); exact Kd.N_mono HO_87.out (fun _ hk => ⟨hk.1.1, ⟨hk.1.2.1, ⟨hk.2, ⟨hk.1.2.2.1, ⟨hk.1.2.2.2.1, ⟨hk.1.2.2.2.2.1, ⟨hk.1.2.2.2.2.2.2, hk.1.2.2.2.2.2.1⟩⟩⟩⟩⟩⟩⟩)⟩, ⟨by (with_reducible repeat (first | apply Kd.N_alloc | apply Kd.N_drewN | apply Kd.N_drew)); exact HO337.out⟩, ⟨by (with_reducible repeat (first | apply Kd.V_alloc | apply Kd.V_drewN | apply Kd.V_drew)); exact Kd.V_mono ba0.out (fun _ hk => ⟨hk.1.1, ⟨hk.1.2.1, ⟨hk.1.2.2.1, ⟨hk.2, ⟨hk.1.2.2.2.1, ⟨hk.1.2.2.2.2.1, ⟨hk.1.2.2.2.2.2.1, ⟨hk.1.2.2.2.2.2.2.1, ⟨hk.1.2.2.2.2.2.2.2.2, hk.1.2.2.2.2.2.2.2.1⟩⟩⟩⟩⟩⟩⟩⟩⟩)⟩, ⟨by (with_reducible repeat (first | apply Kd.R_alloc | apply Kd.R_drewN | apply Kd.R_drew)); exact ba2.out⟩, ⟨by exact bU6 BK297.out⟩, ⟨by exact bU6 BK298.out⟩, ⟨by exact bU6 BK314.out⟩, ⟨by exact bU6 BK333.out⟩, ⟨by repeat (first | (with_reducible exact HR332_1.out) | (with_reducible refine Kd.C_alloc ?_ _) | (with_reducible refine Kd.C_drewN ?_ _) | (with_reducible refine Kd.C_drew ?_) | exact HR332_1.out)⟩, ⟨by (with_reducible repeat (first | apply Kd.V_alloc | apply Kd.V_drewN | apply Kd.V_drew)); exact bkq.out⟩, ⟨by repeat (first | (with_reducible first | exact HI302.out | apply IsS58.alloc | apply IsS58.drewN | apply IsS58.drew | apply IsS58.set_1 | refine IsS58.far ?_ NB302_297.out _ | refine IsS58.far ?_ NB302_298.out _ | refine IsS58.far ?_ NB302_314.out _ | refine IsS58.far ?_ NB302_333.out _) | exact HI302.out)⟩, ⟨by repeat (first | (with_reducible first | exact HB.out | apply below_alloc | apply pw_below_drewN | apply below_drew1 | refine below_set ?_ (IsS58.ge HI302.out) | refine below_set ?_ (Aside0.out (by assumption))) | exact HB.out)⟩⟩
       case round =>
        clear H'
        try clear c1
        try clear c2
        try clear p2
        try clear c3
        try clear p3
        try clear q3
        try clear hx3
        try clear c4
        try clear c5
        try clear p5
        try clear q5
        try clear hx5
        try clear c6
        try clear p6
        try clear c7
        try clear c8
        try clear c9
        try clear c10
        try clear c11
        try clear c14
        try clear c14b0
        try clear c14b1
        try clear c15
        try clear c17
        try clear c17b0
        try clear c17b1
        try clear c18
        try clear c21
        try clear c24
        try clear c29
        try clear p32
        try clear q32
        try clear hx32
        try clear c33
        try clear p33
        try clear q33
        try clear hx33
        try clear c37
        try clear c38
        try clear c39
        try clear c43
        try clear c44
        try clear c45
        try clear c46
        try clear c54
        try clear c54b0
        try clear c54b1
        try clear c56
        try clear c56b0
        try clear c57
        try clear c57b0
        try clear c59
        try clear p59
        try clear q59
        try clear hx59
        try clear hf59
        try clear c64
        try clear p64
        try clear c65
        try clear c66
        try clear c67
        try clear c68
        try clear c70
        try clear c71
        try clear c72
        try clear c74
        try clear c75
        try clear c83
        try clear c83b0
        try clear c84
        try clear c84b0
        try clear c85
        try clear c85b0
        try clear c87
        try clear c88
        try clear c89
        try clear c90
        try clear hcz16_0
        try clear hcz16_1
        try clear hcz19_0
        try clear hcz19_1
        try clear hcz20_0
        try clear hcz20_1
        try clear hcz22_0
        try clear hcz22_1
        try clear hcz23_0
        try clear hcz23_1
        try clear hcz40_0
        try clear hcz40_1
        try clear hcz47_0
        try clear hcz47_1
        try clear hcz50_0
        try clear hcz50_1
        try clear hcz53_0
        try clear hcz53_1
        try clear hcz69_0
        try clear hcz69_1
        try clear hcz73_0
        try clear hcz73_1
        try clear hcz76_0
        try clear hcz76_1
        try clear hcz91_0
        try clear hcz91_1
        try clear hfz16_0
        try clear hfz16_1
        try clear hfz19_0
        try clear hfz19_1
        try clear hfz20_0
        try clear hfz20_1
        try clear hfz22_0
        try clear hfz22_1
        try clear hfz23_0
        try clear hfz23_1
        try clear hfz40_0
        try clear hfz40_1
        try clear hfz47_0
        try clear hfz47_1
        try clear hfz50_0
        try clear hfz50_1
        try clear hfz53_0
        try clear hfz53_1
        try clear hfz69_0
        try clear hfz69_1
        try clear hfz73_0
        try clear hfz73_1
        try clear hfz76_0
        try clear hfz76_1
        try clear hfz91_0
        try clear hfz91_1
        try clear hx324_0
        try clear hx324_1
        try clear hx332_0
        try clear hx332_1
        try clear hx59_0
        try clear hx59_1
        try clear p2
        try clear p3
        try clear p32
        try clear p324
        try clear p332
        try clear p5
        try clear p59
        try clear p6
        try clear p64
        try clear q3
        try clear q32
        try clear q324
        try clear q332
        try clear q5
        try clear q59
        obtain ⟨x97_4, rfl, HA, HK4, HO_3, HO_16, HO_87, HO_95, ba0, ba2, BK297, BK298, BK314, BK333, HR332_1, bkq, HI302, HB⟩ := hrel
        cases gk with
        | zero => exact absurd HA.out (by simp [storagebarterlaw30_DeviationSteps.l1])
        | succ k4 =>
         have H := HA.out
         clear HA
         simp only [storagebarterlaw30_DeviationSteps.l1] at H
         by_cases c96 : x97_4 < (y335.length : Int)
         case pos =>
          rw [if_pos c96] at H
          have c96b0 : decide (x97_4 < (y335.length : Int)) = true := decide_eq_true c96
          clear c96
          by_cases c97 : 0 ≤ x97_4
          case neg =>
           rw [if_neg c97] at H
           exact absurd H (by simp)
          rw [if_pos c97] at H
          have c97b0 : decide (0 ≤ x97_4) = true := decide_eq_true c97
          clear c97
          by_cases c98 : x97_4 < (y335.length : Int)
          case neg =>
           rw [if_neg c98] at H
           exact absurd H (by simp)
          rw [if_pos c98] at H
          have c98b0 : decide (x97_4 < (y335.length : Int)) = true := decide_eq_true c98
          clear c98
          replace H := Option.bind_eq_some_iff.mp H
          obtain ⟨t339, A990, H⟩ := H
          replace H : ((storagebarterref30_Valid.f (rd_L4 y335 x97_4) ((rd_T39 y329 x89_3).f0) ((rd_T39 y329 x89_3).f1)).bind fun t340 => (if (t339 != t340) = true then (some false) else ((deviation_Twists.f (rd_L4 y335 x97_4) ((rd_T39 y329 x89_3).f0) ((rd_T39 y329 x89_3).f1)).bind fun t341 => ((storagebarterref30_Twists.f (rd_L4 y335 x97_4) ((rd_T39 y329 x89_3).f0) ((rd_T39 y329 x89_3).f1)).bind fun t342 => (if (t341 != t342) = true then (some false) else (storagebarterlaw30_DeviationSteps.l1 k4 l3 a4 a5 a6 t303 y329 (y329.length : Int) x89_3 y335 (y335.length : Int) (wrap64 (x97_4 + 1)) a2_0 l2_1 t300 ba4 t309 ba1 ((rd_T39 y329 x89_3).f0) ((rd_T39 y329 x89_3).f1))))))) = some r := H
          have A99 := Aside0.mk A990
          clear A990
          replace H := Option.bind_eq_some_iff.mp H
          obtain ⟨t340, A1000, H⟩ := H
          replace H : (if (t339 != t340) = true then (some false) else ((deviation_Twists.f (rd_L4 y335 x97_4) ((rd_T39 y329 x89_3).f0) ((rd_T39 y329 x89_3).f1)).bind fun t341 => ((storagebarterref30_Twists.f (rd_L4 y335 x97_4) ((rd_T39 y329 x89_3).f0) ((rd_T39 y329 x89_3).f1)).bind fun t342 => (if (t341 != t342) = true then (some false) else (storagebarterlaw30_DeviationSteps.l1 k4 l3 a4 a5 a6 t303 y329 (y329.length : Int) x89_3 y335 (y335.length : Int) (wrap64 (x97_4 + 1)) a2_0 l2_1 t300 ba4 t309 ba1 ((rd_T39 y329 x89_3).f0) ((rd_T39 y329 x89_3).f1)))))) = some r := H
          have A100 := Aside0.mk A1000
          clear A1000
          by_cases c101 : (t339 != t340) = true
          case pos =>
           rw [if_pos c101] at H
           have c101b0 : (t339 != t340) = true := c101
           (try (have c101b1 : decide (t339 = t340) = false := by simpa using c101))
           (try (have c101b2 : (t339 == t340) = false := by simpa using c101))
           (try (have c101b3 : ¬ (t339 = t340) := by simpa using c101))
           clear c101
           exact absurd (Option.some.inj H) (by rw [HRT_.out]; decide)
          rw [if_neg c101] at H
          have c101b0 : (t339 != t340) = false := by simpa using c101
          (try (have c101b1 : decide (t339 = t340) = true := by simpa using c101))
          (try (have c101b2 : (t339 == t340) = true := by simpa using c101))
          clear c101
          replace H := Option.bind_eq_some_iff.mp H
          obtain ⟨t341, A1020, H⟩ := H
          replace H : ((storagebarterref30_Twists.f (rd_L4 y335 x97_4) ((rd_T39 y329 x89_3).f0) ((rd_T39 y329 x89_3).f1)).bind fun t342 => (if (t341 != t342) = true then (some false) else (storagebarterlaw30_DeviationSteps.l1 k4 l3 a4 a5 a6 t303 y329 (y329.length : Int) x89_3 y335 (y335.length : Int) (wrap64 (x97_4 + 1)) a2_0 l2_1 t300 ba4 t309 ba1 ((rd_T39 y329 x89_3).f0) ((rd_T39 y329 x89_3).f1)))) = some r := H
          have A102 := Aside0.mk A1020
          clear A1020
          replace H := Option.bind_eq_some_iff.mp H
          obtain ⟨t342, A1030, H⟩ := H
          replace H : (if (t341 != t342) = true then (some false) else (storagebarterlaw30_DeviationSteps.l1 k4 l3 a4 a5 a6 t303 y329 (y329.length : Int) x89_3 y335 (y335.length : Int) (wrap64 (x97_4 + 1)) a2_0 l2_1 t300 ba4 t309 ba1 ((rd_T39 y329 x89_3).f0) ((rd_T39 y329 x89_3).f1))) = some r := H
          have A103 := Aside0.mk A1030
          clear A1030
          by_cases c104 : (t341 != t342) = true
          case pos =>
           rw [if_pos c104] at H
           have c104b0 : (t341 != t342) = true := c104
           (try (have c104b1 : decide (t341 = t342) = false := by simpa using c104))
           (try (have c104b2 : (t341 == t342) = false := by simpa using c104))
           (try (have c104b3 : ¬ (t341 = t342) := by simpa using c104))
           clear c104
           exact absurd (Option.some.inj H) (by rw [HRT_.out]; decide)
          rw [if_neg c104] at H
          have c104b0 : (t341 != t342) = false := by simpa using c104
          (try (have c104b1 : decide (t341 = t342) = true := by simpa using c104))
          (try (have c104b2 : (t341 == t342) = true := by simpa using c104))
          clear c104
          have H' := Aside0.mk H
          clear H
          have p338 : 0 ≤ (x97_4 : Int) := of_decide_eq_true (by first | (with_reducible assumption) | assumption)
          have q338 : x97_4 < (y335.length : Int) := of_decide_eq_true (by first | (with_reducible assumption) | assumption)
          obtain ⟨ad338, A338_0, c338_0, e338, hx338_0, hl338_0, hi338_0⟩ := at_L4 (Kd.N_reads' HO_95.out).2.2 x97_4 p338 q338
          cases e338
          obtain ⟨ce338, hce338, hMe338, hcc338⟩ := Kd.N_get HO_95.out [] x97_4 p338 (by first | exact q338 | exact of_decide_eq_true (by first | (with_reducible assumption) | assumption) | (have e_ := (Kd.N_reads' HO_95.out).1; omega))
          obtain ⟨ua338_0, uc338_0, rfl, ul338_0, ge338_0⟩ := Kd.FK_slice_open hMe338
          have hv338_0 := hcc338 0 _ rfl
          rw [Nat.add_zero, show ((Kd.slice 56 k56)).sz = 1 from rfl, Nat.mul_one] at hv338_0
          replace hv338_0 := Option.some.inj (hv338_0.symm.trans hx338_0)
          injection hv338_0 with hva_ hvn_ hvc_
          rw [hva_] at ge338_0
          rw [hvc_] at ul338_0
          have ba9 := Aside0.mk (show Kd.V k56 56 _ w.heap.size _ _ (rd_L4 y335 x97_4) from Kd.V_mk ul338_0 ge338_0)
          clear hva_ hvn_ hvc_ ge338_0 ul338_0
          clear hcc338 hce338
          have HR338_0 := Aside0.mk hi338_0
          have HC338_0 := Aside0.mk hl338_0
          clear hi338_0 hl338_0
          replace p338 := eq_true p338
          replace q338 := eq_true q338
          try go_wp2
          have n0_ := Aside0.mk (Kd.V_drew HO_3.out)
          have n1_ := Aside0.mk (Kd.R_drew HO_16.out)
          have n2_ := Aside0.mk (Kd.N_drew HO_87.out)
          have n3_ := Aside0.mk (Kd.N_drew HO_95.out)
          have n4_ := Aside0.mk (Kd.V_drew ba0.out)
          have n5_ := Aside0.mk (Kd.R_drew ba2.out)
          have n6_ := Aside0.mk (Kd.V_drew ba9.out)
          have n7_ := Aside0.mk (blk_drew BK297.out)
          have n8_ := Aside0.mk (blk_drew BK298.out)
          have n9_ := Aside0.mk (blk_drew BK314.out)
          have n10_ := Aside0.mk (blk_drew BK333.out)
          have n11_ := Aside0.mk (Kd.C_drew HR332_1.out)
          have n12_ := Aside0.mk (Kd.C_drew HR338_0.out)
          have n13_ := Aside0.mk (IsS58.drew HI302.out)
          have n14_ := Aside0.mk (below_drew1 HB.out)
          clear HO_3
          clear HO_16
          clear HO_87
          clear HO_95
          clear ba0
          clear ba2
          clear ba9
          clear BK297
          clear BK298
          clear BK314
          clear BK333
          clear HR332_1
          clear HR338_0
          clear HI302
          clear HB
          have HO_3 := n0_
          have HO_16 := n1_
          have HO_87 := n2_
          have HO_95 := n3_
          have ba0 := n4_
          have ba2 := n5_
          have ba9 := n6_
          have BK297 := n7_
          have BK298 := n8_
          have BK314 := n9_
          have BK333 := n10_
          have HR332_1 := n11_
          have HR338_0 := n12_
          have HI302 := n13_
          have HB := n14_
          clear n0_ n1_ n2_ n3_ n4_ n5_ n6_ n7_ n8_ n9_ n10_ n11_ n12_ n13_ n14_
          refine start_ (n := 16) (S := fun w' => w'.cell? ⟨gb333, 0, none⟩ = some (.int .i64 ((rd_T39 y329 x89_3).f0)) ∧ w'.cell? ⟨gb333, 1, none⟩ = some (.slice ba6 ((rd_T39 y329 x89_3).f1).length c332_1)) (ds := []) #[false, false, false, false, false, false, false, false, false, false, false, false, false, false, false, false] (by kernel_rfl) rfl rfl ⟨(blk_cell BK333.out 0).trans rfl, (blk_cell BK333.out 1).trans rfl⟩ (fun hHeld => ?_); refine with_tabW storagebarterlaw30_DeviationSteps.tab18 storagebarterlaw30_DeviationSteps.bits18 (fun HT_ HW_ => ?_)
          have n99_ := Aside0.mk (Kd.V_drew bkq.out)
          clear bkq
          have bkq := n99_
          clear n99_
          generalize wr.drew = w105 at HO_3 HO_16 HO_87 HO_95 ba0 ba2 ba9 BK297 BK298 BK314 BK333 HR332_1 HR338_0 bkq HI302 HB hHeld ⊢
          refine pure_ (i := 0) (N := some 101) (v := ?_) (a' := ?_) #[true, false, false, false, false, false, false, false, false, false, false, false, false, false, false, false] rfl rfl (any_of HT_.out (by kernel_rfl)) (fun _ _ _ h => h) (Or.inl ⟨by rfl, ?_⟩) ?_ ?_
          rotate_left
          ·intro w'
           go_simp
           with_reducible rfl
          rotate_left
          ·simp only [Act.put, List.setIfInBounds_toArray, List.set_cons_zero, List.set_cons_succ, i64_w, i32_w]
           rfl
          refine pure_ (i := 3) (N := some 104) (v := ?_) (a' := ?_) #[true, false, false, true, false, false, false, false, false, false, false, false, false, false, false, false] rfl rfl (any_of HT_.out (by kernel_rfl)) (fun _ _ _ h => h) (Or.inl ⟨by rfl, ?_⟩) ?_ ?_
          rotate_left
          ·intro w'
           go_simp
           with_reducible rfl
          rotate_left
          ·simp only [Act.put, List.setIfInBounds_toArray, List.set_cons_zero, List.set_cons_succ, i64_w, i32_w]
           rfl
          refine take_ (i := 1) (N := some 102) (v := ?_) (a' := ?_) #[true, true, false, true, false, false, false, false, false, false, false, false, false, false, false, false] rfl rfl (take_ofW HT_.out HW_.out (by kernel_rfl)) (fun _ _ _ h => h) (Or.inl ⟨by rfl, ?_⟩) hHeld ?_ ?_
          rotate_left
          ·rintro w' ⟨s0, s1⟩
           go_simp
           with_reducible rfl
          rotate_left
          ·simp only [Act.put, List.setIfInBounds_toArray, List.set_cons_zero, List.set_cons_succ, i64_w, i32_w]
           rfl
          refine take_ (i := 4) (N := some 105) (v := ?_) (a' := ?_) #[true, true, false, true, true, false, false, false, false, false, false, false, false, false, false, false] rfl rfl (take_ofW HT_.out HW_.out (by kernel_rfl)) (fun _ _ _ h => h) (Or.inl ⟨by rfl, ?_⟩) hHeld ?_ ?_
          rotate_left
          ·rintro w' ⟨s0, s1⟩
           go_simp
           with_reducible rfl
          rotate_left
          ·simp only [Act.put, List.setIfInBounds_toArray, List.set_cons_zero, List.set_cons_succ, i64_w, i32_w]
           rfl
          refine one_ (i := 2) (N := some 103) #[true, true, true, true, true, false, false, false, false, false, false, false, false, false, false, false] rfl rfl (one_of HT_.out (by kernel_rfl)) (by decide) (fun K hK => ?_)
          refine goes_ Tryd.func18 (by kernel_rfl) rfl #[.slice A338_0 (rd_L4 y335 x97_4).length c338_0, .agg #[.int .i64 ((rd_T39 y329 x89_3).f0), .slice ba6 ((rd_T39 y329 x89_3).f1).length c332_1]] (by rfl) rfl rfl (by (try simp only [List.map_toArray, List.map_cons, List.map_nil]); first | done | rfl | (simp only [List.length_drop, List.length_take]; rfl)) ?_
          with_reducible refine (deviation_Valid.calls _ _ (rd_L4 y335 x97_4) ((rd_T39 y329 x89_3).f0) _ _ ((rd_T39 y329 x89_3).f1) t339 _ ?side1 ?side2 ?side3 ?side4 A99.out (by first | exact HL_.out | exact laid_below HL_.out (by repeat (first | (with_reducible first | exact HB.out | apply below_alloc | apply pw_below_drewN | apply below_drew1) | refine below_set ?_ (Aside0.out (by assumption)) | exact HB.out)) | exact laid_drawn HL_.out HD.out | exact laid_drawn HL_.out (HD.out.step _))).mono ?_
          (case side1 => first | exact (cU6 HR338_0.out) | exact cU6 (cU6 HR338_0.out))
          (case side2 => exact HC338_0.out)
          (case side3 => first | exact (cU6 HR332_1.out) | exact cU6 (cU6 HR332_1.out))
          (case side4 => exact HC332_1.out)
          rintro e w106 ⟨rfl, hb⟩
          have bkq := Aside0.mk (Kd.V_below (vU6 bkq.out) hb)
          refine ⟨_, rfl, ?_⟩
          have n0_ := Aside0.mk (Kd.V_below (vU6 HO_3.out) hb)
          have n1_ := Aside0.mk (Kd.R_below (rU6 HO_16.out) hb)
          have n2_ := Aside0.mk (Kd.N_below (nU6 HO_87.out) hb)
          have n3_ := Aside0.mk (Kd.N_below (nU6 HO_95.out) hb)
          have n4_ := Aside0.mk (Kd.V_below (vU6 ba0.out) hb)
          have n5_ := Aside0.mk (Kd.R_below (rU6 ba2.out) hb)
          have n6_ := Aside0.mk (Kd.V_below (vU6 ba9.out) hb)
          have n7_ := Aside0.mk (blk_below (g := gb297) (o := .cells #[.int .i64 a1_0, .slice Ao77 ba3.length co77] 39 (0, 0)) (bU6 BK297.out) hb)
          have n8_ := Aside0.mk (blk_below (g := gb298) (o := .cells #[.int .i64 a2_0, .slice A2_1 l2_1.length c2_1] 39 (0, 0)) (bU6 BK298.out) hb)
          have n9_ := Aside0.mk (blk_below (g := gb314) (o := .cells #[.int .i64 t309, .slice Ao78 ba1.length co78] 39 (0, 0)) (bU6 BK314.out) hb)
          have n10_ := Aside0.mk (blk_below (g := gb333) (bU6 BK333.out) hb)
          have n11_ := Aside0.mk (IsS58.below (by repeat (first | (with_reducible first | exact HI302.out | apply IsS58.alloc | apply IsS58.drewN | apply IsS58.drew | apply IsS58.set_1 | refine IsS58.far ?_ NB302_297.out _ | refine IsS58.far ?_ NB302_298.out _ | refine IsS58.far ?_ NB302_314.out _ | refine IsS58.far ?_ NB302_333.out _) | exact HI302.out)) hb)
          have n12_ := Aside0.mk (Kd.C_below (cU6 HR332_1.out) hb)
          have n13_ := Aside0.mk (Kd.C_below (cU6 HR338_0.out) hb)
          have n14_ := Aside0.mk (below_step (by repeat (first | (with_reducible first | exact HB.out | apply below_alloc | apply pw_below_drewN | apply below_drew1 | refine below_set ?_ (IsS58.ge HI302.out) | refine below_set ?_ (Aside0.out (by assumption))) | exact HB.out)) hb)
          clear HO_3
          clear HO_16
          clear HO_87
          clear HO_95
          clear ba0
          clear ba2
          clear ba9
          clear BK297
          clear BK298
          clear BK314
          clear BK333
          clear HI302
          clear HR332_1
          clear HR338_0
          clear HB
          have HO_3 := n0_
          have HO_16 := n1_
          have HO_87 := n2_
          have HO_95 := n3_
          have ba0 := n4_
          have ba2 := n5_
          have ba9 := n6_
          have BK297 := n7_
          have BK298 := n8_
          have BK314 := n9_
          have BK333 := n10_
          have HI302 := n11_
          have HR332_1 := n12_
          have HR338_0 := n13_
          have HB := n14_
          clear n0_ n1_ n2_ n3_ n4_ n5_ n6_ n7_ n8_ n9_ n10_ n11_ n12_ n13_ n14_
          (try clear hb)
          (try clear hb2)
          (try clear hk)
          (try clear hi)
          (try clear hgw)
          refine hK.out _ _ ⟨(blk_cell BK333.out 0).trans rfl, (blk_cell BK333.out 1).trans rfl⟩ (fun hHeld => ?_)
          clear hK K
          refine norm_ (a' := ?_) ?_ ?_
          rotate_left
          ·show Act.put _ (some 103) _ = _
           simp only [Act.put, List.setIfInBounds_toArray, List.set_cons_zero, List.set_cons_succ, i64_w, i32_w]
           rfl
          refine one_ (i := 5) (N := some 106) #[true, true, true, true, true, true, false, false, false, false, false, false, false, false, false, false] rfl rfl (one_of HT_.out (by kernel_rfl)) (by decide) (fun K hK => ?_)
          refine goes_ Tryd.func21 (by kernel_rfl) rfl #[.slice A338_0 (rd_L4 y335 x97_4).length c338_0, .agg #[.int .i64 ((rd_T39 y329 x89_3).f0), .slice ba6 ((rd_T39 y329 x89_3).f1).length c332_1]] (by rfl) rfl rfl (by (try simp only [List.map_toArray, List.map_cons, List.map_nil]); first | done | rfl | (simp only [List.length_drop, List.length_take]; rfl)) ?_
          with_reducible refine (storagebarterref30_Valid.calls _ _ (rd_L4 y335 x97_4) ((rd_T39 y329 x89_3).f0) _ _ ((rd_T39 y329 x89_3).f1) t340 _ ?side1 ?side2 ?side3 ?side4 A100.out).mono ?_
          (case side1 => first | exact (cU6 HR338_0.out) | exact cU6 (cU6 HR338_0.out))
          (case side2 => exact HC338_0.out)
          (case side3 => first | exact (cU6 HR332_1.out) | exact cU6 (cU6 HR332_1.out))
          (case side4 => exact HC332_1.out)
          rintro e w107 ⟨rfl, hb⟩
          have bkq := Aside0.mk (Kd.V_below (vU6 bkq.out) hb)
          refine ⟨_, rfl, ?_⟩
          have n0_ := Aside0.mk (Kd.V_below (vU6 HO_3.out) hb)
          have n1_ := Aside0.mk (Kd.R_below (rU6 HO_16.out) hb)
          have n2_ := Aside0.mk (Kd.N_below (nU6 HO_87.out) hb)
          have n3_ := Aside0.mk (Kd.N_below (nU6 HO_95.out) hb)
          have n4_ := Aside0.mk (Kd.V_below (vU6 ba0.out) hb)
          have n5_ := Aside0.mk (Kd.R_below (rU6 ba2.out) hb)
          have n6_ := Aside0.mk (Kd.V_below (vU6 ba9.out) hb)
          have n7_ := Aside0.mk (blk_below (g := gb297) (o := .cells #[.int .i64 a1_0, .slice Ao77 ba3.length co77] 39 (0, 0)) (bU6 BK297.out) hb)
          have n8_ := Aside0.mk (blk_below (g := gb298) (o := .cells #[.int .i64 a2_0, .slice A2_1 l2_1.length c2_1] 39 (0, 0)) (bU6 BK298.out) hb)
          have n9_ := Aside0.mk (blk_below (g := gb314) (o := .cells #[.int .i64 t309, .slice Ao78 ba1.length co78] 39 (0, 0)) (bU6 BK314.out) hb)
          have n10_ := Aside0.mk (blk_below (g := gb333) (bU6 BK333.out) hb)
          have n11_ := Aside0.mk (IsS58.below (by repeat (first | (with_reducible first | exact HI302.out | apply IsS58.alloc | apply IsS58.drewN | apply IsS58.drew | apply IsS58.set_1 | refine IsS58.far ?_ NB302_297.out _ | refine IsS58.far ?_ NB302_298.out _ | refine IsS58.far ?_ NB302_314.out _ | refine IsS58.far ?_ NB302_333.out _) | exact HI302.out)) hb)
          have n12_ := Aside0.mk (Kd.C_below (cU6 HR332_1.out) hb)
          have n13_ := Aside0.mk (Kd.C_below (cU6 HR338_0.out) hb)
          have n14_ := Aside0.mk (below_step (by repeat (first | (with_reducible first | exact HB.out | apply below_alloc | apply pw_below_drewN | apply below_drew1 | refine below_set ?_ (IsS58.ge HI302.out) | refine below_set ?_ (Aside0.out (by assumption))) | exact HB.out)) hb)
          clear HO_3
          clear HO_16
          clear HO_87
          clear HO_95
          clear ba0
          clear ba2
          clear ba9
          clear BK297
          clear BK298
          clear BK314
          clear BK333
          clear HI302
          clear HR332_1
          clear HR338_0
          clear HB
          have HO_3 := n0_
          have HO_16 := n1_
          have HO_87 := n2_
          have HO_95 := n3_
          have ba0 := n4_
          have ba2 := n5_
          have ba9 := n6_
          have BK297 := n7_
          have BK298 := n8_
          have BK314 := n9_
          have BK333 := n10_
          have HI302 := n11_
          have HR332_1 := n12_
          have HR338_0 := n13_
          have HB := n14_
          clear n0_ n1_ n2_ n3_ n4_ n5_ n6_ n7_ n8_ n9_ n10_ n11_ n12_ n13_ n14_
          (try clear hb)
          (try clear hb2)
          (try clear hk)
          (try clear hi)
          (try clear hgw)
          refine hK.out _ _ ⟨(blk_cell BK333.out 0).trans rfl, (blk_cell BK333.out 1).trans rfl⟩ (fun hHeld => ?_)
          clear hK K
          refine norm_ (a' := ?_) ?_ ?_
          rotate_left
          ·show Act.put _ (some 106) _ = _
           simp only [Act.put, List.setIfInBounds_toArray, List.set_cons_zero, List.set_cons_succ, i64_w, i32_w]
           rfl
          refine pure_ (i := 6) (N := some 107) (v := ?_) (a' := ?_) #[true, true, true, true, true, true, true, false, false, false, false, false, false, false, false, false] rfl rfl (any_of HT_.out (by kernel_rfl)) (fun _ _ _ h => h) (Or.inl ⟨by rfl, ?_⟩) ?_ ?_
          rotate_left
          ·intro w'
           go_simp
           with_reducible rfl
          rotate_left
          ·simp only [Act.put, List.setIfInBounds_toArray, List.set_cons_zero, List.set_cons_succ, i64_w, i32_w]
           rfl
          refine pure_ (i := 7) (N := some 108) (v := ?_) (a' := ?_) #[true, true, true, true, true, true, true, true, false, false, false, false, false, false, false, false] rfl rfl (any_of HT_.out (by kernel_rfl)) (fun _ _ _ h => h) (Or.inl ⟨by rfl, ?_⟩) ?_ ?_
          rotate_left
          ·intro w'
           go_simp
           with_reducible rfl
          rotate_left
          ·simp only [Act.put, List.setIfInBounds_toArray, List.set_cons_zero, List.set_cons_succ, i64_w, i32_w]
           rfl
          refine pure_ (i := 8) (N := some 109) (v := ?_) (a' := ?_) #[true, true, true, true, true, true, true, true, true, false, false, false, false, false, false, false] rfl rfl (any_of HT_.out (by kernel_rfl)) (fun _ _ _ h => h) (Or.inl ⟨by rfl, ?_⟩) ?_ ?_
          rotate_left
          ·intro w'
           go_simp
           with_reducible rfl
          rotate_left
          ·simp only [Act.put, List.setIfInBounds_toArray, List.set_cons_zero, List.set_cons_succ, i64_w, i32_w]
           rfl
          refine pure_ (i := 11) (N := some 112) (v := ?_) (a' := ?_) #[true, true, true, true, true, true, true, true, true, false, false, true, false, false, false, false] rfl rfl (any_of HT_.out (by kernel_rfl)) (fun _ _ _ h => h) (Or.inl ⟨by rfl, ?_⟩) ?_ ?_
          rotate_left
          ·intro w'
           go_simp
           with_reducible rfl
          rotate_left
          ·simp only [Act.put, List.setIfInBounds_toArray, List.set_cons_zero, List.set_cons_succ, i64_w, i32_w]
           rfl
          refine take_ (i := 9) (N := some 110) (v := ?_) (a' := ?_) #[true, true, true, true, true, true, true, true, true, true, false, true, false, false, false, false] rfl rfl (take_ofW HT_.out HW_.out (by kernel_rfl)) (fun _ _ _ h => h) (Or.inl ⟨by rfl, ?_⟩) hHeld ?_ ?_
          rotate_left
          ·rintro w' ⟨s0, s1⟩
           go_simp
           with_reducible rfl
          rotate_left
          ·simp only [Act.put, List.setIfInBounds_toArray, List.set_cons_zero, List.set_cons_succ, i64_w, i32_w]
           rfl
          refine take_ (i := 12) (N := some 113) (v := ?_) (a' := ?_) #[true, true, true, true, true, true, true, true, true, true, false, true, true, false, false, false] rfl rfl (take_ofW HT_.out HW_.out (by kernel_rfl)) (fun _ _ _ h => h) (Or.inl ⟨by rfl, ?_⟩) hHeld ?_ ?_
          rotate_left
          ·rintro w' ⟨s0, s1⟩
           go_simp
           with_reducible rfl
          rotate_left
          ·simp only [Act.put, List.setIfInBounds_toArray, List.set_cons_zero, List.set_cons_succ, i64_w, i32_w]
           rfl
          refine one_ (i := 10) (N := some 111) #[true, true, true, true, true, true, true, true, true, true, true, true, true, false, false, false] rfl rfl (one_of HT_.out (by kernel_rfl)) (by decide) (fun K hK => ?_)
          refine goes_ Tryd.func22 (by kernel_rfl) rfl #[.slice A338_0 (rd_L4 y335 x97_4).length c338_0, .agg #[.int .i64 ((rd_T39 y329 x89_3).f0), .slice ba6 ((rd_T39 y329 x89_3).f1).length c332_1]] (by rfl) rfl rfl (by (try simp only [List.map_toArray, List.map_cons, List.map_nil]); first | done | rfl | (simp only [List.length_drop, List.length_take]; rfl)) ?_
          with_reducible refine (deviation_Twists.calls _ _ (rd_L4 y335 x97_4) ((rd_T39 y329 x89_3).f0) _ _ ((rd_T39 y329 x89_3).f1) t341 _ ?side1 ?side2 ?side3 ?side4 A102.out).mono ?_
          (case side1 => first | exact (cU6 HR338_0.out) | exact cU6 (cU6 HR338_0.out))
          (case side2 => exact HC338_0.out)
          (case side3 => first | exact (cU6 HR332_1.out) | exact cU6 (cU6 HR332_1.out))
          (case side4 => exact HC332_1.out)
          rintro e w108 ⟨rfl, hb⟩
          have bkq := Aside0.mk (Kd.V_below (vU6 bkq.out) hb)
          refine ⟨_, rfl, ?_⟩
          have n0_ := Aside0.mk (Kd.V_below (vU6 HO_3.out) hb)
          have n1_ := Aside0.mk (Kd.R_below (rU6 HO_16.out) hb)
          have n2_ := Aside0.mk (Kd.N_below (nU6 HO_87.out) hb)
          have n3_ := Aside0.mk (Kd.N_below (nU6 HO_95.out) hb)
          have n4_ := Aside0.mk (Kd.V_below (vU6 ba0.out) hb)
          have n5_ := Aside0.mk (Kd.R_below (rU6 ba2.out) hb)
          have n6_ := Aside0.mk (Kd.V_below (vU6 ba9.out) hb)
          have n7_ := Aside0.mk (blk_below (g := gb297) (o := .cells #[.int .i64 a1_0, .slice Ao77 ba3.length co77] 39 (0, 0)) (bU6 BK297.out) hb)
          have n8_ := Aside0.mk (blk_below (g := gb298) (o := .cells #[.int .i64 a2_0, .slice A2_1 l2_1.length c2_1] 39 (0, 0)) (bU6 BK298.out) hb)
          have n9_ := Aside0.mk (blk_below (g := gb314) (o := .cells #[.int .i64 t309, .slice Ao78 ba1.length co78] 39 (0, 0)) (bU6 BK314.out) hb)
          have n10_ := Aside0.mk (blk_below (g := gb333) (bU6 BK333.out) hb)
          have n11_ := Aside0.mk (IsS58.below (by repeat (first | (with_reducible first | exact HI302.out | apply IsS58.alloc | apply IsS58.drewN | apply IsS58.drew | apply IsS58.set_1 | refine IsS58.far ?_ NB302_297.out _ | refine IsS58.far ?_ NB302_298.out _ | refine IsS58.far ?_ NB302_314.out _ | refine IsS58.far ?_ NB302_333.out _) | exact HI302.out)) hb)
          have n12_ := Aside0.mk (Kd.C_below (cU6 HR332_1.out) hb)
          have n13_ := Aside0.mk (Kd.C_below (cU6 HR338_0.out) hb)
          have n14_ := Aside0.mk (below_step (by repeat (first | (with_reducible first | exact HB.out | apply below_alloc | apply pw_below_drewN | apply below_drew1 | refine below_set ?_ (IsS58.ge HI302.out) | refine below_set ?_ (Aside0.out (by assumption))) | exact HB.out)) hb)
          clear HO_3
          clear HO_16
          clear HO_87
          clear HO_95
          clear ba0
          clear ba2
          clear ba9
          clear BK297
          clear BK298
          clear BK314
          clear BK333
          clear HI302
          clear HR332_1
          clear HR338_0
          clear HB
          have HO_3 := n0_
          have HO_16 := n1_
          have HO_87 := n2_
          have HO_95 := n3_
          have ba0 := n4_
          have ba2 := n5_
          have ba9 := n6_
          have BK297 := n7_
          have BK298 := n8_
          have BK314 := n9_
          have BK333 := n10_
          have HI302 := n11_
          have HR332_1 := n12_
          have HR338_0 := n13_
          have HB := n14_
          clear n0_ n1_ n2_ n3_ n4_ n5_ n6_ n7_ n8_ n9_ n10_ n11_ n12_ n13_ n14_
          (try clear hb)
          (try clear hb2)
          (try clear hk)
          (try clear hi)
          (try clear hgw)
          refine hK.out _ _ ⟨(blk_cell BK333.out 0).trans rfl, (blk_cell BK333.out 1).trans rfl⟩ (fun hHeld => ?_)
          clear hK K
          refine norm_ (a' := ?_) ?_ ?_
          rotate_left
          ·show Act.put _ (some 111) _ = _
           simp only [Act.put, List.setIfInBounds_toArray, List.set_cons_zero, List.set_cons_succ, i64_w, i32_w]
           rfl
          refine one_ (i := 13) (N := some 114) #[true, true, true, true, true, true, true, true, true, true, true, true, true, true, false, false] rfl rfl (one_of HT_.out (by kernel_rfl)) (by decide) (fun K hK => ?_)
          refine goes_ Tryd.func23 (by kernel_rfl) rfl #[.slice A338_0 (rd_L4 y335 x97_4).length c338_0, .agg #[.int .i64 ((rd_T39 y329 x89_3).f0), .slice ba6 ((rd_T39 y329 x89_3).f1).length c332_1]] (by rfl) rfl rfl (by (try simp only [List.map_toArray, List.map_cons, List.map_nil]); first | done | rfl | (simp only [List.length_drop, List.length_take]; rfl)) ?_
          with_reducible refine (storagebarterref30_Twists.calls _ _ (rd_L4 y335 x97_4) ((rd_T39 y329 x89_3).f0) _ _ ((rd_T39 y329 x89_3).f1) t342 _ ?side1 ?side2 ?side3 ?side4 A103.out).mono ?_
          (case side1 => first | exact (cU6 HR338_0.out) | exact cU6 (cU6 HR338_0.out))
          (case side2 => exact HC338_0.out)
          (case side3 => first | exact (cU6 HR332_1.out) | exact cU6 (cU6 HR332_1.out))
          (case side4 => exact HC332_1.out)
          rintro e w109 ⟨rfl, hb⟩
          have bkq := Aside0.mk (Kd.V_below (vU6 bkq.out) hb)
          refine ⟨_, rfl, ?_⟩
          have n0_ := Aside0.mk (Kd.V_below (vU6 HO_3.out) hb)
          have n1_ := Aside0.mk (Kd.R_below (rU6 HO_16.out) hb)
          have n2_ := Aside0.mk (Kd.N_below (nU6 HO_87.out) hb)
          have n3_ := Aside0.mk (Kd.N_below (nU6 HO_95.out) hb)
          have n4_ := Aside0.mk (Kd.V_below (vU6 ba0.out) hb)
          have n5_ := Aside0.mk (Kd.R_below (rU6 ba2.out) hb)
          have n6_ := Aside0.mk (Kd.V_below (vU6 ba9.out) hb)
          have n7_ := Aside0.mk (blk_below (g := gb297) (o := .cells #[.int .i64 a1_0, .slice Ao77 ba3.length co77] 39 (0, 0)) (bU6 BK297.out) hb)
          have n8_ := Aside0.mk (blk_below (g := gb298) (o := .cells #[.int .i64 a2_0, .slice A2_1 l2_1.length c2_1] 39 (0, 0)) (bU6 BK298.out) hb)
          have n9_ := Aside0.mk (blk_below (g := gb314) (o := .cells #[.int .i64 t309, .slice Ao78 ba1.length co78] 39 (0, 0)) (bU6 BK314.out) hb)
          have n10_ := Aside0.mk (blk_below (g := gb333) (bU6 BK333.out) hb)
          have n11_ := Aside0.mk (IsS58.below (by repeat (first | (with_reducible first | exact HI302.out | apply IsS58.alloc | apply IsS58.drewN | apply IsS58.drew | apply IsS58.set_1 | refine IsS58.far ?_ NB302_297.out _ | refine IsS58.far ?_ NB302_298.out _ | refine IsS58.far ?_ NB302_314.out _ | refine IsS58.far ?_ NB302_333.out _) | exact HI302.out)) hb)
          have n12_ := Aside0.mk (Kd.C_below (cU6 HR332_1.out) hb)
          have n13_ := Aside0.mk (Kd.C_below (cU6 HR338_0.out) hb)
          have n14_ := Aside0.mk (below_step (by repeat (first | (with_reducible first | exact HB.out | apply below_alloc | apply pw_below_drewN | apply below_drew1 | refine below_set ?_ (IsS58.ge HI302.out) | refine below_set ?_ (Aside0.out (by assumption))) | exact HB.out)) hb)
          clear HO_3
          clear HO_16
          clear HO_87
          clear HO_95
          clear ba0
          clear ba2
          clear ba9
          clear BK297
          clear BK298
          clear BK314
          clear BK333
          clear HI302
          clear HR332_1
          clear HR338_0
          clear HB
          have HO_3 := n0_
          have HO_16 := n1_
          have HO_87 := n2_
          have HO_95 := n3_
          have ba0 := n4_
          have ba2 := n5_
          have ba9 := n6_
          have BK297 := n7_
          have BK298 := n8_
          have BK314 := n9_
          have BK333 := n10_
          have HI302 := n11_
          have HR332_1 := n12_
          have HR338_0 := n13_
          have HB := n14_
          clear n0_ n1_ n2_ n3_ n4_ n5_ n6_ n7_ n8_ n9_ n10_ n11_ n12_ n13_ n14_
          (try clear hb)
          (try clear hb2)
          (try clear hk)
          (try clear hi)
          (try clear hgw)
          refine hK.out _ _ ⟨(blk_cell BK333.out 0).trans rfl, (blk_cell BK333.out 1).trans rfl⟩ (fun hHeld => ?_)
          clear hK K
          refine norm_ (a' := ?_) ?_ ?_
          rotate_left
          ·show Act.put _ (some 114) _ = _
           simp only [Act.put, List.setIfInBounds_toArray, List.set_cons_zero, List.set_cons_succ, i64_w, i32_w]
           rfl
          refine pure_ (i := 14) (N := some 115) (v := ?_) (a' := ?_) #[true, true, true, true, true, true, true, true, true, true, true, true, true, true, true, false] rfl rfl (any_of HT_.out (by kernel_rfl)) (fun _ _ _ h => h) (Or.inl ⟨by rfl, ?_⟩) ?_ ?_
          rotate_left
          ·intro w'
           go_simp
           with_reducible rfl
          rotate_left
          ·simp only [Act.put, List.setIfInBounds_toArray, List.set_cons_zero, List.set_cons_succ, i64_w, i32_w]
           rfl
          refine pure_ (i := 15) (N := some 116) (v := ?_) (a' := ?_) #[true, true, true, true, true, true, true, true, true, true, true, true, true, true, true, true] rfl rfl (any_of HT_.out (by kernel_rfl)) (fun _ _ _ h => h) (Or.inl ⟨by rfl, ?_⟩) ?_ ?_
          rotate_left
          ·intro w'
           go_simp
           with_reducible rfl
          rotate_left
          ·simp only [Act.put, List.setIfInBounds_toArray, List.set_cons_zero, List.set_cons_succ, i64_w, i32_w]
           rfl
          refine done_ (done_of HT_.out (by kernel_rfl)) ?_
          try go_wp2
          go_roundg k4
          case measure => have := HJ9.out; have := HJ29.out; have := HK3.out; have := HK4.out; omega
          case rel => exact ⟨(wrap64 (x97_4 + 1)), (by first | rfl | (simp; done) | (simp [*]; done)), H', ⟨by have := HJ9.out; have := HJ29.out; have := HK3.out; have := HK4.out; omega⟩, ⟨by (with_reducible repeat (first | apply Kd.V_alloc | apply Kd.V_drewN | apply Kd.V_drew)); exact HO_3.out⟩, ⟨by (with_reducible repeat (first | apply Kd.R_alloc | apply Kd.R_drewN | apply Kd.R_drew)); exact HO_16.out⟩, ⟨by (with_reducible repeat (first | apply Kd.N_alloc | apply Kd.N_drewN | apply Kd.N_drew)); exact HO_87.out⟩, ⟨by (with_reducible repeat (first | apply Kd.N_alloc | apply Kd.N_drewN | apply Kd.N_drew)); exact HO_95.out⟩, ⟨by (with_reducible repeat (first | apply Kd.V_alloc | apply Kd.V_drewN | apply Kd.V_drew)); exact ba0.out⟩, ⟨by (with_reducible repeat (first | apply Kd.R_alloc | apply Kd.R_drewN | apply Kd.R_drew)); exact ba2.out⟩, ⟨by exact bU6 BK297.out⟩, ⟨by exact bU6 BK298.out⟩, ⟨by exact bU6 BK314.out⟩, ⟨by exact bU6 BK333.out⟩, ⟨by repeat (first | (with_reducible exact HR332_1.out) | (with_reducible refine Kd.C_alloc ?_ _) | (with_reducible refine Kd.C_drewN ?_ _) | (with_reducible refine Kd.C_drew ?_) | exact HR332_1.out)⟩, ⟨by (with_reducible repeat (first | apply Kd.V_alloc | apply Kd.V_drewN | apply Kd.V_drew)); exact bkq.out⟩, ⟨by repeat (first | (with_reducible first | exact HI302.out | apply IsS58.alloc | apply IsS58.drewN | apply IsS58.drew | apply IsS58.set_1 | refine IsS58.far ?_ NB302_297.out _ | refine IsS58.far ?_ NB302_298.out _ | refine IsS58.far ?_ NB302_314.out _ | refine IsS58.far ?_ NB302_333.out _) | exact HI302.out)⟩, ⟨by repeat (first | (with_reducible first | exact HB.out | apply below_alloc | apply pw_below_drewN | apply below_drew1 | refine below_set ?_ (IsS58.ge HI302.out) | refine below_set ?_ (Aside0.out (by assumption))) | exact HB.out)⟩⟩
         rw [if_neg c96] at H
         have c96b0 : decide (x97_4 < (y335.length : Int)) = false := decide_eq_false c96
         clear c96
         replace H := Option.bind_eq_some_iff.mp H
         obtain ⟨⟨t343, t344⟩, A1100, H⟩ := H
         replace H : ((some (([a4, t343] : List Int) : List Int)).bind fun y345 => (storagebarterlaw30_DeviationSteps.l2 k4 l3 a4 a5 a6 t303 y329 (y329.length : Int) x89_3 y345 (y345.length : Int) 0 a2_0 l2_1 t300 t344 t309 ba1 ((rd_T39 y329 x89_3).f0) ((rd_T39 y329 x89_3).f1))) = some r := H
         have A110 := Aside0.mk A1100
         clear A1100
         obtain ⟨y345, hy345⟩ : ∃ y_ : List Int, y_ = (([a4, t343] : List Int)) := ⟨_, rfl⟩
         replace H : (storagebarterlaw30_DeviationSteps.l2 k4 l3 a4 a5 a6 t303 y329 (y329.length : Int) x89_3 y345 (y345.length : Int) 0 a2_0 l2_1 t300 t344 t309 ba1 ((rd_T39 y329 x89_3).f0) ((rd_T39 y329 x89_3).f1)) = some r := by first | (rw [hy345]; with_reducible exact H) | (have H2_ := (Option.bind_some _ _).symm.trans H; rw [hy345]; with_reducible exact H2_) | (have H2_ := (Option.bind_some _ _).symm.trans H; with_reducible exact H2_) | with_reducible exact H | (rw [hy345]; exact H) | exact H
         have Ny345 := Aside0.mk hy345
         clear hy345
         have H' := Aside0.mk H
         clear H
         go_wp2_with (first | ((with_reducible refine gate_callee (f := 11) rfl ?_); refine goesL_ (some 120) rfl rfl Tryd.func11 (by kernel_rfl) rfl #[.pointer (some ⟨g302, 0, none⟩), .int .i64 20] rfl (by (try simp only [List.map_toArray, List.map_cons, List.map_nil]); first | done | rfl | (simp only [List.length_drop, List.length_take]; rfl)) ?_; (with_reducible refine (storagebarterplay_Dice_Pick.calls g302 t300 ba4 20 t343 t344 w _ ?side1 ?side2 A110.out).mono ?_); (case side1 => repeat (first | (with_reducible first | exact HI302.out | apply IsS58.alloc | apply IsS58.drewN | apply IsS58.drew | apply IsS58.set_1 | refine IsS58.far ?_ NB302_297.out _ | refine IsS58.far ?_ NB302_298.out _ | refine IsS58.far ?_ NB302_314.out _ | refine IsS58.far ?_ NB302_333.out _) | exact HI302.out)); (case side2 => repeat (first | (with_reducible first | exact HB.out | apply below_alloc | apply pw_below_drewN | apply below_drew1 | refine below_set ?_ (IsS58.ge HI302.out) | refine below_set ?_ (Aside0.out (by assumption))) | exact HB.out)); rintro e w111 ⟨rfl, hi, hb, hk⟩; refine ⟨_, rfl, ?_⟩; have bkq := Aside0.mk (Kd.V_keep (vU6 bkq.out) hk (fun _ h => h)); have n0_ := Aside0.mk (Kd.V_mono (Kd.V_keep (Kd.V_mono (ok := fun k_ => ((((P1_1_ k_ ∨ P3_ k_) ∨ w.heap.size ≤ k_)) ∧ (some k_ ≠ (.slice Ao34 t303.length co34 : Value).ownBlock ∧ (some k_ ≠ (.slice (some ad332) y329.length co82 : Value).ownBlock ∧ (some k_ ≠ (.slice Ao95 y335.length co95 : Value).ownBlock ∧ (some k_ ≠ (.slice Ao78 ba1.length co78 : Value).ownBlock ∧ (k_ ≠ gb297 ∧ (k_ ≠ gb298 ∧ (k_ ≠ gb314 ∧ (k_ ≠ gb333 ∧ k_ ≠ g302)))))))))) (vU6 HO_3.out) (fun k_ hk_ => (⟨hk_, hk_.2.2.2.2.2.2.2.2.2⟩ : _ ∧ k_ ≠ g302))) hk (fun _ h => h.2)) (fun _ h => h.1)); have n1_ := Aside0.mk (Kd.R_mono (Kd.R_keep (IsS58.apart (show IsS58 w _ g302 t300 ba4 from by repeat (first | (with_reducible first | exact HI302.out | apply IsS58.alloc | apply IsS58.drewN | apply IsS58.drew | apply IsS58.set_1 | refine IsS58.far ?_ NB302_297.out _ | refine IsS58.far ?_ NB302_298.out _ | refine IsS58.far ?_ NB302_314.out _ | refine IsS58.far ?_ NB302_333.out _) | exact HI302.out)) (rU6 HO_16.out) (by decide)) hk (fun _ h => h.2)) (fun _ h => h.1)); have n2_ := Aside0.mk (Kd.N_mono (Kd.N_keep (Kd.N_mono (ok := fun k_ => ((((P1_1_ k_ ∨ P3_ k_) ∨ w.heap.size ≤ k_)) ∧ (some k_ ≠ (.slice Ao34 t303.length co34 : Value).ownBlock ∧ (some k_ ≠ (.slice Ao95 y335.length co95 : Value).ownBlock ∧ (k_ ≠ gb297 ∧ (k_ ≠ gb298 ∧ (k_ ≠ gb314 ∧ (k_ ≠ gb333 ∧ k_ ≠ g302)))))))) (nU6 HO_87.out) (fun k_ hk_ => (⟨hk_, hk_.2.2.2.2.2.2.2⟩ : _ ∧ k_ ≠ g302))) hk (fun _ h => h.2)) (fun _ h => h.1)); have n3_ := Aside0.mk (Kd.N_mono (Kd.N_keep (Kd.N_mono (ok := fun k_ => ((((P1_1_ k_ ∨ P3_ k_) ∨ w.heap.size ≤ k_)) ∧ (some k_ ≠ (.slice (some ad332) y329.length co82 : Value).ownBlock ∧ (some k_ ≠ (.slice Ao78 ba1.length co78 : Value).ownBlock ∧ (k_ ≠ gb297 ∧ (k_ ≠ gb298 ∧ (k_ ≠ gb314 ∧ (k_ ≠ gb333 ∧ k_ ≠ g302)))))))) (nU6 HO_95.out) (fun k_ hk_ => (⟨hk_, hk_.2.2.2.2.2.2.2⟩ : _ ∧ k_ ≠ g302))) hk (fun _ h => h.2)) (fun _ h => h.1)); have n4_ := Aside0.mk (Kd.V_mono (Kd.V_keep (Kd.V_mono (ok := fun k_ => ((((P1_1_ k_ ∨ P3_ k_) ∨ w.heap.size ≤ k_)) ∧ (some k_ ≠ (.slice Ao34 t303.length co34 : Value).ownBlock ∧ (some k_ ≠ (.slice (some ad332) y329.length co82 : Value).ownBlock ∧ (some k_ ≠ (.slice Ao95 y335.length co95 : Value).ownBlock ∧ (some k_ ≠ (.slice Ao78 ba1.length co78 : Value).ownBlock ∧ (k_ ≠ gb297 ∧ (k_ ≠ gb298 ∧ (k_ ≠ gb314 ∧ (k_ ≠ gb333 ∧ k_ ≠ g302)))))))))) (vU6 ba0.out) (fun k_ hk_ => (⟨hk_, hk_.2.2.2.2.2.2.2.2.2⟩ : _ ∧ k_ ≠ g302))) hk (fun _ h => h.2)) (fun _ h => h.1)); have n5_ := Aside0.mk (Kd.R_mono (Kd.R_keep (IsS58.apart (show IsS58 w _ g302 t300 ba4 from by repeat (first | (with_reducible first | exact HI302.out | apply IsS58.alloc | apply IsS58.drewN | apply IsS58.drew | apply IsS58.set_1 | refine IsS58.far ?_ NB302_297.out _ | refine IsS58.far ?_ NB302_298.out _ | refine IsS58.far ?_ NB302_314.out _ | refine IsS58.far ?_ NB302_333.out _) | exact HI302.out)) (rU6 ba2.out) (by decide)) hk (fun _ h => h.2)) (fun _ h => h.1)); have n6_ := Aside0.mk (KeepBut.blk hk (g' := gb297) (o := .cells #[.int .i64 a1_0, .slice Ao77 ba3.length co77] 39 (0, 0)) (bU6 BK297.out) NB297_302.out (by simp)); have n7_ := Aside0.mk (KeepBut.blk hk (g' := gb298) (o := .cells #[.int .i64 a2_0, .slice A2_1 l2_1.length c2_1] 39 (0, 0)) (bU6 BK298.out) NB298_302.out (by simp)); have n8_ := Aside0.mk (KeepBut.blk hk (g' := gb314) (o := .cells #[.int .i64 t309, .slice Ao78 ba1.length co78] 39 (0, 0)) (bU6 BK314.out) NB314_302.out (by simp)); have n9_ := Aside0.mk (KeepBut.blk hk (g' := gb333) (o := .cells #[.int .i64 ((rd_T39 y329 x89_3).f0), .slice ba6 ((rd_T39 y329 x89_3).f1).length c332_1] 39 (0, 0)) (bU6 BK333.out) NB333_302.out (by simp)); have n10_ := Aside0.mk (hb); have n11_ := Aside0.mk (hi); clear HO_3; clear HO_16; clear HO_87; clear HO_95; clear ba0; clear ba2; clear BK297; clear BK298; clear BK314; clear BK333; clear HB; clear HI302; have HO_3 := n0_; have HO_16 := n1_; have HO_87 := n2_; have HO_95 := n3_; have ba0 := n4_; have ba2 := n5_; have BK297 := n6_; have BK298 := n7_; have BK314 := n8_; have BK333 := n9_; have HB := n10_; have HI302 := n11_; clear n0_ n1_ n2_ n3_ n4_ n5_ n6_ n7_ n8_ n9_ n10_ n11_; (try clear hb); (try clear hb2); (try clear hk); (try clear hi); (try clear hgw)) | ((with_reducible refine gate_dst (N := 121) rfl ?_); (try (refine gate_guard (by rfl) ?_; dsimp only)); refine Kd.R_lit (Kd.int .i64) _ 3 ?hg (N := 121) ?hd (xs := ([a4, t343] : List Int)) (inner := [.int .i64 a4, .int .i64 t343]) (ok := fun _ => True) (okp := fun _ => True) ?hr ?hp (fun _ hk => hk) trivial (Below.refl _ _) (Nat.le_refl _) (by simp) ?_; (case hd => rfl); (case hg => rfl); (case hr => first | (go_simp; done) | (go_simp; rfl)); (case hp => exact (Reps.one (show Kd.M (Kd.int .i64) _ _ _ a4 [.int .i64 a4] from rfl) (Reps.one (show Kd.M (Kd.int .i64) _ _ _ t343 [.int .i64 t343] from rfl) (Reps.none _ _)))); intro v346 w112 ho113 hb hg_ hnew_; have bkq := Aside0.mk (Kd.V_below (vU6 bkq.out) hb); clear hg_ hnew_; (first | rw [← Ny345.out] at ho113 | (simp only [Int.reduceToNat] at ho113; rw [← Ny345.out] at ho113)); have n0_ := Aside0.mk (Kd.V_elder' (vU6 HO_3.out) (Kd.R_base ho113) hb); have n1_ := Aside0.mk (Kd.R_below (rU6 HO_16.out) hb); have n2_ := Aside0.mk (Kd.N_elder' (nU6 HO_87.out) (Kd.R_base ho113) hb); have n3_ := Aside0.mk (Kd.N_elder' (nU6 HO_95.out) (Kd.R_base ho113) hb); have n4_ := Aside0.mk (Kd.V_elder' (vU6 ba0.out) (Kd.R_base ho113) hb); have n5_ := Aside0.mk (Kd.R_below (rU6 ba2.out) hb); have n6_ := Aside0.mk (Kd.R_lower (Kd.R_newM (M := fun k_ => (w.heap.size ≤ k_)) ho113 (below_size (by repeat (first | (with_reducible first | exact HB.out | apply below_alloc | apply pw_below_drewN | apply below_drew1 | refine below_set ?_ (IsS58.ge HI302.out) | refine below_set ?_ (Aside0.out (by assumption))) | exact HB.out))) (fun k_ h_ => h_)) (below_size (by repeat (first | (with_reducible first | exact HB.out | apply below_alloc | apply pw_below_drewN | apply below_drew1 | refine below_set ?_ (IsS58.ge HI302.out) | refine below_set ?_ (Aside0.out (by assumption))) | exact HB.out)))); have n7_ := Aside0.mk (blk_below (g := gb297) (o := .cells #[.int .i64 a1_0, .slice Ao77 ba3.length co77] 39 (0, 0)) (bU6 BK297.out) hb); have n8_ := Aside0.mk (blk_below (g := gb298) (o := .cells #[.int .i64 a2_0, .slice A2_1 l2_1.length c2_1] 39 (0, 0)) (bU6 BK298.out) hb); have n9_ := Aside0.mk (blk_below (g := gb314) (o := .cells #[.int .i64 t309, .slice Ao78 ba1.length co78] 39 (0, 0)) (bU6 BK314.out) hb); have n10_ := Aside0.mk (blk_below (g := gb333) (bU6 BK333.out) hb); have n11_ := Aside0.mk (IsS58.below (by repeat (first | (with_reducible first | exact HI302.out | apply IsS58.alloc | apply IsS58.drewN | apply IsS58.drew | apply IsS58.set_1 | refine IsS58.far ?_ NB302_297.out _ | refine IsS58.far ?_ NB302_298.out _ | refine IsS58.far ?_ NB302_314.out _ | refine IsS58.far ?_ NB302_333.out _) | exact HI302.out)) hb); have n12_ := Aside0.mk (below_step (by repeat (first | (with_reducible first | exact HB.out | apply below_alloc | apply pw_below_drewN | apply below_drew1 | refine below_set ?_ (IsS58.ge HI302.out) | refine below_set ?_ (Aside0.out (by assumption))) | exact HB.out)) hb); clear HO_3; clear HO_16; clear HO_87; clear HO_95; clear ba0; clear ba2; clear BK297; clear BK298; clear BK314; clear BK333; clear HI302; clear HB; have HO_3 := n0_; have HO_16 := n1_; have HO_87 := n2_; have HO_95 := n3_; have ba0 := n4_; have ba2 := n5_; have HO347 := n6_; have BK297 := n7_; have BK298 := n8_; have BK314 := n9_; have BK333 := n10_; have HI302 := n11_; have HB := n12_; clear n0_ n1_ n2_ n3_ n4_ n5_ n6_ n7_ n8_ n9_ n10_ n11_ n12_; clear hb ho113; obtain ⟨Ao114, co114, eo114⟩ := Kd.R_slice HO347.out; subst eo114))
         go_loopg [123] k4 (fun kq v123 w' => ∃ (baa : Int), v123 = .int .i64 baa ∧ Aside0 (storagebarterlaw30_DeviationSteps.l2 kq l3 a4 a5 a6 t303 y329 (y329.length : Int) x89_3 y345 (y345.length : Int) baa a2_0 l2_1 t300 t344 t309 ba1 ((rd_T39 y329 x89_3).f0) ((rd_T39 y329 x89_3).f1) = some r) ∧ Aside0 (kq ≤ k4) ∧ Aside0 (Kd.V k56 56 w' w.heap.size (fun k_ => ((P1_1_ k_ ∨ P3_ k_) ∨ w.heap.size ≤ k_) ∧ some k_ ≠ ((.slice Ao34 t303.length co34) : Value).ownBlock ∧ some k_ ≠ ((.slice (some ad332) y329.length co82) : Value).ownBlock ∧ some k_ ≠ ((.slice Ao114 y345.length co114) : Value).ownBlock ∧ some k_ ≠ ((.slice Ao78 ba1.length co78) : Value).ownBlock ∧ k_ ≠ gb297 ∧ k_ ≠ gb298 ∧ k_ ≠ gb314 ∧ k_ ≠ gb333 ∧ k_ ≠ g302) (.slice A3 l3.length c3) l3) ∧ Aside0 (Kd.R k56 56 w' w.heap.size (fun k_ => (w.heap.size ≤ k_)) (.slice Ao34 t303.length co34) t303) ∧ Aside0 (Kd.N k39 39 w' w.heap.size (fun k_ => ((P1_1_ k_ ∨ P3_ k_) ∨ w.heap.size ≤ k_) ∧ some k_ ≠ ((.slice Ao34 t303.length co34) : Value).ownBlock ∧ some k_ ≠ ((.slice Ao114 y345.length co114) : Value).ownBlock ∧ k_ ≠ gb297 ∧ k_ ≠ gb298 ∧ k_ ≠ gb314 ∧ k_ ≠ gb333 ∧ k_ ≠ g302) (.slice (some ad332) y329.length co82) y329) ∧ Aside0 (Kd.R (Kd.int .i64) 3 w' w.heap.size (fun k_ => (w.heap.size ≤ k_)) (.slice Ao114 y345.length co114) y345) ∧ Aside0 (Kd.V k51 51 w' w.heap.size (fun k_ => ((P1_1_ k_ ∨ P3_ k_) ∨ w.heap.size ≤ k_) ∧ some k_ ≠ ((.slice Ao34 t303.length co34) : Value).ownBlock ∧ some k_ ≠ ((.slice (some ad332) y329.length co82) : Value).ownBlock ∧ some k_ ≠ ((.slice Ao114 y345.length co114) : Value).ownBlock ∧ some k_ ≠ ((.slice Ao78 ba1.length co78) : Value).ownBlock ∧ k_ ≠ gb297 ∧ k_ ≠ gb298 ∧ k_ ≠ gb314 ∧ k_ ≠ gb333 ∧ k_ ≠ g302) (.slice Ao77 ba3.length co77) ba3) ∧ Aside0 (Kd.R k51 51 w' w.heap.size (fun k_ => (w.heap.size ≤ k_)) (.slice Ao78 ba1.length co78) ba1) ∧ Aside0 (w'.heap[gb297]? = some (.cells #[.int .i64 a1_0, (.slice Ao77 ba3.length co77)] 39 (0, 0))) ∧ Aside0 (w'.heap[gb298]? = some (.cells #[.int .i64 a2_0, (.slice A2_1 l2_1.length c2_1)] 39 (0, 0))) ∧ Aside0 (w'.heap[gb314]? = some (.cells #[.int .i64 t309, (.slice Ao78 ba1.length co78)] 39 (0, 0))) ∧ Aside0 (w'.heap[gb333]? = some (.cells #[.int .i64 ((rd_T39 y329 x89_3).f0), (.slice ba6 ((rd_T39 y329 x89_3).f1).length c332_1)] 39 (0, 0))) ∧ Aside0 (Kd.V k51 51 w' w.heap.size (fun k_ => k_ ≠ g302) (.slice ba6 ((rd_T39 y329 x89_3).f1).length c332_1) ((rd_T39 y329 x89_3).f1)) ∧ Aside0 (IsS58 w w' g302 t300 t344) ∧ Aside0 (Below w.heap.size w w'))
         case atStart => exact ⟨(0), (by first | rfl | (simp; done) | (simp [*]; done)), H', ⟨Nat.le_refl _⟩, ⟨by (with_reducible repeat (first | apply Kd.V_alloc | apply Kd.V_drewN | apply Kd.V_drew)); exact Kd.V_mono HO_3.out (fun _ hk => ⟨hk.1.1, ⟨hk.1.2.1, ⟨hk.1.2.2.1, ⟨hk.2, ⟨hk.1.2.2.2.2.1, ⟨hk.1.2.2.2.2.2.1, ⟨hk.1.2.2.2.2.2.2.1, ⟨hk.1.2.2.2.2.2.2.2.1, ⟨hk.1.2.2.2.2.2.2.2.2.1, hk.1.2.2.2.2.2.2.2.2.2⟩⟩⟩⟩⟩⟩⟩⟩⟩)⟩, ⟨by (with_reducible repeat (first | apply Kd.R_alloc | apply Kd.R_drewN | apply Kd.R_drew)); exact HO_16.out⟩, ⟨by (with_reducible repeat (first | apply Kd.N_alloc | apply Kd.N_drewN | apply Kd.N_drew)); exact Kd.N_mono HO_87.out (fun _ hk => ⟨hk.1.1, ⟨hk.1.2.1, ⟨hk.2, ⟨hk.1.2.2.2.1, ⟨hk.1.2.2.2.2.1, ⟨hk.1.2.2.2.2.2.1, ⟨hk.1.2.2.2.2.2.2.1, hk.1.2.2.2.2.2.2.2⟩⟩⟩⟩⟩⟩⟩)⟩, ⟨by (with_reducible repeat (first | apply Kd.R_alloc | apply Kd.R_drewN | apply Kd.R_drew)); exact Kd.R_mono HO347.out (fun _ hk => hk.1)⟩, ⟨by (with_reducible repeat (first | apply Kd.V_alloc | apply Kd.V_drewN | apply Kd.V_drew)); exact Kd.V_mono ba0.out (fun _ hk => ⟨hk.1.1, ⟨hk.1.2.1, ⟨hk.1.2.2.1, ⟨hk.2, ⟨hk.1.2.2.2.2.1, ⟨hk.1.2.2.2.2.2.1, ⟨hk.1.2.2.2.2.2.2.1, ⟨hk.1.2.2.2.2.2.2.2.1, ⟨hk.1.2.2.2.2.2.2.2.2.1, hk.1.2.2.2.2.2.2.2.2.2⟩⟩⟩⟩⟩⟩⟩⟩⟩)⟩, ⟨by (with_reducible repeat (first | apply Kd.R_alloc | apply Kd.R_drewN | apply Kd.R_drew)); exact ba2.out⟩, ⟨by exact bU6 BK297.out⟩, ⟨by exact bU6 BK298.out⟩, ⟨by exact bU6 BK314.out⟩, ⟨by exact bU6 BK333.out⟩, ⟨by (with_reducible repeat (first | apply Kd.V_alloc | apply Kd.V_drewN | apply Kd.V_drew)); exact bkq.out⟩, ⟨by repeat (first | (with_reducible first | exact HI302.out | apply IsS58.alloc | apply IsS58.drewN | apply IsS58.drew | apply IsS58.set_1 | refine IsS58.far ?_ NB302_297.out _ | refine IsS58.far ?_ NB302_298.out _ | refine IsS58.far ?_ NB302_314.out _ | refine IsS58.far ?_ NB302_333.out _) | exact HI302.out)⟩, ⟨by repeat (first | (with_reducible first | exact HB.out | apply below_alloc | apply pw_below_drewN | apply below_drew1 | refine below_set ?_ (IsS58.ge HI302.out) | refine below_set ?_ (Aside0.out (by assumption))) | exact HB.out)⟩⟩
         case round =>
          clear H'
          try clear c1
          try clear c2
          try clear p2
          try clear c3
          try clear p3
          try clear q3
          try clear hx3
          try clear p5
          try clear q5
          try clear hx5
          try clear p6
          try clear c9
          try clear c10
          try clear c11
          try clear c18
          try clear c21
          try clear c22
          try clear c23
          try clear p32
          try clear q32
          try clear hx32
          try clear c33
          try clear p33
          try clear q33
          try clear hx33
          try clear p59
          try clear q59
          try clear hx59
          try clear p64
          try clear c96
          try clear c96b0
          try clear c97
          try clear c97b0
          try clear c98
          try clear c98b0
          try clear c101
          try clear c101b0
          try clear c101b1
          try clear c101b2
          try clear c104
          try clear c104b0
          try clear c104b1
          try clear c104b2
          try clear hcz16_1
          try clear hcz19_0
          try clear hcz19_1
          try clear hcz20_0
          try clear hcz20_1
          try clear hcz22_0
          try clear hcz22_1
          try clear hcz23_0
          try clear hcz23_1
          try clear hcz40_0
          try clear hcz40_1
          try clear hcz47_0
          try clear hcz47_1
          try clear hcz50_0
          try clear hcz50_1
          try clear hcz53_0
          try clear hcz53_1
          try clear hcz69_0
          try clear hcz69_1
          try clear hcz73_0
          try clear hcz73_1
          try clear hcz76_0
          try clear hcz76_1
          try clear hcz91_0
          try clear hcz91_1
          try clear hfz16_0
          try clear hfz16_1
          try clear hfz19_0
          try clear hfz19_1
          try clear hfz20_0
          try clear hfz20_1
          try clear hfz22_0
          try clear hfz22_1
          try clear hfz23_0
          try clear hfz23_1
          try clear hfz40_0
          try clear hfz40_1
          try clear hfz47_0
          try clear hfz47_1
          try clear hfz50_0
          try clear hfz50_1
          try clear hfz53_0
          try clear hfz53_1
          try clear hfz69_0
          try clear hfz69_1
          try clear hfz73_0
          try clear hfz73_1
          try clear hfz76_0
          try clear hfz76_1
          try clear hfz91_0
          try clear hfz91_1
          try clear hx324_0
          try clear hx324_1
          try clear hx332_0
          try clear hx332_1
          try clear hx338_0
          try clear hx59_0
          try clear hx59_1
          try clear p2
          try clear p3
          try clear p32
          try clear p324
          try clear p332
          try clear p338
          try clear p5
          try clear p59
          try clear p6
          try clear p64
          try clear q3
          try clear q32
          try clear q324
          try clear q332
          try clear q338
          try clear q5
          try clear q59
          obtain ⟨baa, rfl, HA, HK5, HO_3, HO_16, HO_87, ba7, ba0, ba2, BK297, BK298, BK314, BK333, bkq, HI302, HB⟩ := hrel
          cases gk with
          | zero => exact absurd HA.out (by simp [storagebarterlaw30_DeviationSteps.l2])
          | succ k5 =>
           have H := HA.out
           clear HA
           simp only [storagebarterlaw30_DeviationSteps.l2] at H
           by_cases c115 : baa < (y345.length : Int)
           case pos =>
            rw [if_pos c115] at H
            have c115b0 : decide (baa < (y345.length : Int)) = true := decide_eq_true c115
            clear c115
            by_cases c116 : 0 ≤ baa
            case neg =>
             rw [if_neg c116] at H
             exact absurd H (by simp)
            rw [if_pos c116] at H
            have c116b0 : decide (0 ≤ baa) = true := decide_eq_true c116
            clear c116
            by_cases c117 : baa < (y345.length : Int)
            case neg =>
             rw [if_neg c117] at H
             exact absurd H (by simp)
            rw [if_pos c117] at H
            have c117b0 : decide (baa < (y345.length : Int)) = true := decide_eq_true c117
            clear c117
            replace H := Option.bind_eq_some_iff.mp H
            obtain ⟨t349, A1180, H⟩ := H
            replace H : ((storagebarterref30_How.f k5 ((rd_T39 y329 x89_3).f0) ((rd_T39 y329 x89_3).f1) (rd y345 baa)).bind fun t350 => (if t349 = t350 then (storagebarterlaw30_DeviationSteps.l2 k5 l3 a4 a5 a6 t303 y329 (y329.length : Int) x89_3 y345 (y345.length : Int) (wrap64 (baa + 1)) a2_0 l2_1 t300 t344 t309 ba1 ((rd_T39 y329 x89_3).f0) ((rd_T39 y329 x89_3).f1)) else (some false))) = some r := H
            have A118 := Aside0.mk A1180
            clear A1180
            replace H := Option.bind_eq_some_iff.mp H
            obtain ⟨t350, A1190, H⟩ := H
            replace H : (if t349 = t350 then (storagebarterlaw30_DeviationSteps.l2 k5 l3 a4 a5 a6 t303 y329 (y329.length : Int) x89_3 y345 (y345.length : Int) (wrap64 (baa + 1)) a2_0 l2_1 t300 t344 t309 ba1 ((rd_T39 y329 x89_3).f0) ((rd_T39 y329 x89_3).f1)) else (some false)) = some r := H
            have A119 := Aside0.mk A1190
            clear A1190
            by_cases c120 : t349 = t350
            case neg =>
             rw [if_neg c120] at H
             have c120b0 : (t349 == t350) = false := beq_eq_false_iff_ne.mpr c120
             have c120b1 : (t349 != t350) = true := bne_iff_ne.mpr c120
             exact absurd (Option.some.inj H) (by rw [HRT_.out]; decide)
            rw [if_pos c120] at H
            have c120b0 : (t349 == t350) = true := beq_iff_eq.mpr c120
            have c120b1 : (t349 != t350) = false := bne_eq_false_iff_eq.mpr c120
            clear c120
            have H' := Aside0.mk H
            clear H
            have p348 : 0 ≤ (baa : Int) := of_decide_eq_true (by first | (with_reducible assumption) | assumption)
            have q348 : baa < (y345.length : Int) := of_decide_eq_true (by first | (with_reducible assumption) | assumption)
            obtain ⟨ad348, e348, hx348_0⟩ := Kd.at_int (Kd.R_reads' ba7.out).2.2 baa p348 q348
            cases e348
            replace p348 := eq_true p348
            replace q348 := eq_true q348
            try go_wp2
            have n0_ := Aside0.mk (Kd.V_drew HO_3.out)
            have n1_ := Aside0.mk (Kd.R_drew HO_16.out)
            have n2_ := Aside0.mk (Kd.N_drew HO_87.out)
            have n3_ := Aside0.mk (Kd.R_drew ba7.out)
            have n4_ := Aside0.mk (Kd.V_drew ba0.out)
            have n5_ := Aside0.mk (Kd.R_drew ba2.out)
            have n6_ := Aside0.mk (blk_drew BK297.out)
            have n7_ := Aside0.mk (blk_drew BK298.out)
            have n8_ := Aside0.mk (blk_drew BK314.out)
            have n9_ := Aside0.mk (blk_drew BK333.out)
            have n10_ := Aside0.mk (IsS58.drew HI302.out)
            have n11_ := Aside0.mk (below_drew1 HB.out)
            clear HO_3
            clear HO_16
            clear HO_87
            clear ba7
            clear ba0
            clear ba2
            clear BK297
            clear BK298
            clear BK314
            clear BK333
            clear HI302
            clear HB
            have HO_3 := n0_
            have HO_16 := n1_
            have HO_87 := n2_
            have ba7 := n3_
            have ba0 := n4_
            have ba2 := n5_
            have BK297 := n6_
            have BK298 := n7_
            have BK314 := n8_
            have BK333 := n9_
            have HI302 := n10_
            have HB := n11_
            clear n0_ n1_ n2_ n3_ n4_ n5_ n6_ n7_ n8_ n9_ n10_ n11_
            refine start_ (n := 7) (S := fun w' => w'.cell? ⟨gb333, 0, none⟩ = some (.int .i64 ((rd_T39 y329 x89_3).f0)) ∧ w'.cell? ⟨gb333, 1, none⟩ = some (.slice ba6 ((rd_T39 y329 x89_3).f1).length c332_1)) (ds := []) #[false, false, false, false, false, false, false] (by kernel_rfl) rfl rfl ⟨(blk_cell BK333.out 0).trans rfl, (blk_cell BK333.out 1).trans rfl⟩ (fun hHeld => ?_)
            have n99_ := Aside0.mk (Kd.V_drew bkq.out)
            clear bkq
            have bkq := n99_
            clear n99_
            generalize wr.drew = w121 at HO_3 HO_16 HO_87 ba7 ba0 ba2 BK297 BK298 BK314 BK333 bkq HI302 HB hHeld ⊢
            refine pure_ (i := 1) (N := some 128) (v := ?_) (a' := ?_) #[false, true, false, false, false, false, false] rfl rfl (by kernel_rfl) (fun _ _ _ h => h) (Or.inl ⟨by rfl, ?_⟩) ?_ ?_
            rotate_left
            ·intro w'
             go_simp
             with_reducible rfl
            rotate_left
            ·simp only [Act.put, List.setIfInBounds_toArray, List.set_cons_zero, List.set_cons_succ, i64_w, i32_w]
             rfl
            refine pure_ (i := 4) (N := some 131) (v := ?_) (a' := ?_) #[false, true, false, false, true, false, false] rfl rfl (by kernel_rfl) (fun _ _ _ h => h) (Or.inl ⟨by rfl, ?_⟩) ?_ ?_
            rotate_left
            ·intro w'
             go_simp
             with_reducible rfl
            rotate_left
            ·simp only [Act.put, List.setIfInBounds_toArray, List.set_cons_zero, List.set_cons_succ, i64_w, i32_w]
             rfl
            refine take_ (i := 0) (N := some 127) (v := ?_) (a' := ?_) #[true, true, false, false, true, false, false] rfl rfl (by kernel_rfl) (fun _ _ _ h => h) (Or.inl ⟨by rfl, ?_⟩) hHeld ?_ ?_
            rotate_left
            ·rintro w' ⟨s0, s1⟩
             go_simp
             with_reducible rfl
            rotate_left
            ·simp only [Act.put, List.setIfInBounds_toArray, List.set_cons_zero, List.set_cons_succ, i64_w, i32_w]
             rfl
            refine take_ (i := 3) (N := some 130) (v := ?_) (a' := ?_) #[true, true, false, true, true, false, false] rfl rfl (by kernel_rfl) (fun _ _ _ h => h) (Or.inl ⟨by rfl, ?_⟩) hHeld ?_ ?_
            rotate_left
            ·rintro w' ⟨s0, s1⟩
             go_simp
             with_reducible rfl
            rotate_left
            ·simp only [Act.put, List.setIfInBounds_toArray, List.set_cons_zero, List.set_cons_succ, i64_w, i32_w]
             rfl
            refine one_ (i := 2) (N := some 129) #[true, true, true, true, true, false, false] rfl rfl (by kernel_rfl) (by decide) (fun K hK => ?_)
            refine goes_ Tryd.func24 (by kernel_rfl) rfl #[.agg #[.int .i64 ((rd_T39 y329 x89_3).f0), .slice ba6 ((rd_T39 y329 x89_3).f1).length c332_1], .int .i64 (rd y345 baa)] (by rfl) rfl rfl (by (try simp only [List.map_toArray, List.map_cons, List.map_nil]); first | done | rfl | (simp only [List.length_drop, List.length_take]; rfl)) ?_
            with_reducible refine (deviation_How.calls k5 ((rd_T39 y329 x89_3).f0) _ _ ((rd_T39 y329 x89_3).f1) (rd y345 baa) t349 _ ?side1 ?side2 A118.out).mono ?_
            (case side1 => first | exact ((Kd.V_reads' bkq.out).2.2) | exact cU6 ((Kd.V_reads' bkq.out).2.2))
            (case side2 => exact HC332_1.out)
            rintro e w122 ⟨rfl, hb⟩
            have bkq := Aside0.mk (Kd.V_below (vU6 bkq.out) hb)
            refine ⟨_, rfl, ?_⟩
            have n0_ := Aside0.mk (Kd.V_below (vU6 HO_3.out) hb)
            have n1_ := Aside0.mk (Kd.R_below (rU6 HO_16.out) hb)
            have n2_ := Aside0.mk (Kd.N_below (nU6 HO_87.out) hb)
            have n3_ := Aside0.mk (Kd.R_below (rU6 ba7.out) hb)
            have n4_ := Aside0.mk (Kd.V_below (vU6 ba0.out) hb)
            have n5_ := Aside0.mk (Kd.R_below (rU6 ba2.out) hb)
            have n6_ := Aside0.mk (blk_below (g := gb297) (o := .cells #[.int .i64 a1_0, .slice Ao77 ba3.length co77] 39 (0, 0)) (bU6 BK297.out) hb)
            have n7_ := Aside0.mk (blk_below (g := gb298) (o := .cells #[.int .i64 a2_0, .slice A2_1 l2_1.length c2_1] 39 (0, 0)) (bU6 BK298.out) hb)
            have n8_ := Aside0.mk (blk_below (g := gb314) (o := .cells #[.int .i64 t309, .slice Ao78 ba1.length co78] 39 (0, 0)) (bU6 BK314.out) hb)
            have n9_ := Aside0.mk (blk_below (g := gb333) (bU6 BK333.out) hb)
            have n10_ := Aside0.mk (IsS58.below (by repeat (first | (with_reducible first | exact HI302.out | apply IsS58.alloc | apply IsS58.drewN | apply IsS58.drew | apply IsS58.set_1 | refine IsS58.far ?_ NB302_297.out _ | refine IsS58.far ?_ NB302_298.out _ | refine IsS58.far ?_ NB302_314.out _ | refine IsS58.far ?_ NB302_333.out _) | exact HI302.out)) hb)
            have n11_ := Aside0.mk (below_step (by repeat (first | (with_reducible first | exact HB.out | apply below_alloc | apply pw_below_drewN | apply below_drew1 | refine below_set ?_ (IsS58.ge HI302.out) | refine below_set ?_ (Aside0.out (by assumption))) | exact HB.out)) hb)
            clear HO_3
            clear HO_16
            clear HO_87
            clear ba7
            clear ba0
            clear ba2
            clear BK297
            clear BK298
            clear BK314
            clear BK333
            clear HI302
            clear HB
            have HO_3 := n0_
            have HO_16 := n1_
            have HO_87 := n2_
            have ba7 := n3_
            have ba0 := n4_
            have ba2 := n5_
            have BK297 := n6_
            have BK298 := n7_
            have BK314 := n8_
            have BK333 := n9_
            have HI302 := n10_
            have HB := n11_
            clear n0_ n1_ n2_ n3_ n4_ n5_ n6_ n7_ n8_ n9_ n10_ n11_
            (try clear hb)
            (try clear hb2)
            (try clear hk)
            (try clear hi)
            (try clear hgw)
            refine hK.out _ _ ⟨(blk_cell BK333.out 0).trans rfl, (blk_cell BK333.out 1).trans rfl⟩ (fun hHeld => ?_)
            clear hK K
            refine norm_ (a' := ?_) ?_ ?_
            rotate_left
            ·show Act.put _ (some 129) _ = _
             simp only [Act.put, List.setIfInBounds_toArray, List.set_cons_zero, List.set_cons_succ, i64_w, i32_w]
             rfl
            refine one_ (i := 5) (N := some 132) #[true, true, true, true, true, true, false] rfl rfl (by kernel_rfl) (by decide) (fun K hK => ?_)
            refine goes_ Tryd.func25 (by kernel_rfl) rfl #[.agg #[.int .i64 ((rd_T39 y329 x89_3).f0), .slice ba6 ((rd_T39 y329 x89_3).f1).length c332_1], .int .i64 (rd y345 baa)] (by rfl) rfl rfl (by (try simp only [List.map_toArray, List.map_cons, List.map_nil]); first | done | rfl | (simp only [List.length_drop, List.length_take]; rfl)) ?_
            with_reducible refine (storagebarterref30_How.calls k5 ((rd_T39 y329 x89_3).f0) _ _ ((rd_T39 y329 x89_3).f1) (rd y345 baa) t350 _ ?side1 ?side2 A119.out).mono ?_
            (case side1 => first | exact ((Kd.V_reads' bkq.out).2.2) | exact cU6 ((Kd.V_reads' bkq.out).2.2))
            (case side2 => exact HC332_1.out)
            rintro e w123 ⟨rfl, hb⟩
            have bkq := Aside0.mk (Kd.V_below (vU6 bkq.out) hb)
            refine ⟨_, rfl, ?_⟩
            have n0_ := Aside0.mk (Kd.V_below (vU6 HO_3.out) hb)
            have n1_ := Aside0.mk (Kd.R_below (rU6 HO_16.out) hb)
            have n2_ := Aside0.mk (Kd.N_below (nU6 HO_87.out) hb)
            have n3_ := Aside0.mk (Kd.R_below (rU6 ba7.out) hb)
            have n4_ := Aside0.mk (Kd.V_below (vU6 ba0.out) hb)
            have n5_ := Aside0.mk (Kd.R_below (rU6 ba2.out) hb)
            have n6_ := Aside0.mk (blk_below (g := gb297) (o := .cells #[.int .i64 a1_0, .slice Ao77 ba3.length co77] 39 (0, 0)) (bU6 BK297.out) hb)
            have n7_ := Aside0.mk (blk_below (g := gb298) (o := .cells #[.int .i64 a2_0, .slice A2_1 l2_1.length c2_1] 39 (0, 0)) (bU6 BK298.out) hb)
            have n8_ := Aside0.mk (blk_below (g := gb314) (o := .cells #[.int .i64 t309, .slice Ao78 ba1.length co78] 39 (0, 0)) (bU6 BK314.out) hb)
            have n9_ := Aside0.mk (blk_below (g := gb333) (bU6 BK333.out) hb)
            have n10_ := Aside0.mk (IsS58.below (by repeat (first | (with_reducible first | exact HI302.out | apply IsS58.alloc | apply IsS58.drewN | apply IsS58.drew | apply IsS58.set_1 | refine IsS58.far ?_ NB302_297.out _ | refine IsS58.far ?_ NB302_298.out _ | refine IsS58.far ?_ NB302_314.out _ | refine IsS58.far ?_ NB302_333.out _) | exact HI302.out)) hb)
            have n11_ := Aside0.mk (below_step (by repeat (first | (with_reducible first | exact HB.out | apply below_alloc | apply pw_below_drewN | apply below_drew1 | refine below_set ?_ (IsS58.ge HI302.out) | refine below_set ?_ (Aside0.out (by assumption))) | exact HB.out)) hb)
            clear HO_3
            clear HO_16
            clear HO_87
            clear ba7
            clear ba0
            clear ba2
            clear BK297
            clear BK298
            clear BK314
            clear BK333
            clear HI302
            clear HB
            have HO_3 := n0_
            have HO_16 := n1_
            have HO_87 := n2_
            have ba7 := n3_
            have ba0 := n4_
            have ba2 := n5_
            have BK297 := n6_
            have BK298 := n7_
            have BK314 := n8_
            have BK333 := n9_
            have HI302 := n10_
            have HB := n11_
            clear n0_ n1_ n2_ n3_ n4_ n5_ n6_ n7_ n8_ n9_ n10_ n11_
            (try clear hb)
            (try clear hb2)
            (try clear hk)
            (try clear hi)
            (try clear hgw)
            refine hK.out _ _ ⟨(blk_cell BK333.out 0).trans rfl, (blk_cell BK333.out 1).trans rfl⟩ (fun hHeld => ?_)
            clear hK K
            refine norm_ (a' := ?_) ?_ ?_
            rotate_left
            ·show Act.put _ (some 132) _ = _
             simp only [Act.put, List.setIfInBounds_toArray, List.set_cons_zero, List.set_cons_succ, i64_w, i32_w]
             rfl
            refine pure_ (i := 6) (N := some 133) (v := ?_) (a' := ?_) #[true, true, true, true, true, true, true] rfl rfl (by kernel_rfl) (fun _ _ _ h => h) (Or.inl ⟨by rfl, ?_⟩) ?_ ?_
            rotate_left
            ·intro w'
             go_simp
             with_reducible rfl
            rotate_left
            ·simp only [Act.put, List.setIfInBounds_toArray, List.set_cons_zero, List.set_cons_succ, i64_w, i32_w]
             rfl
            refine done_ (by kernel_rfl) ?_
            try go_wp2
            go_roundg k5
            case measure => have := HJ9.out; have := HJ29.out; have := HK3.out; have := HK4.out; have := HK5.out; omega
            case rel => exact ⟨(wrap64 (baa + 1)), (by first | rfl | (simp; done) | (simp [*]; done)), H', ⟨by have := HJ9.out; have := HJ29.out; have := HK3.out; have := HK4.out; have := HK5.out; omega⟩, ⟨by (with_reducible repeat (first | apply Kd.V_alloc | apply Kd.V_drewN | apply Kd.V_drew)); exact HO_3.out⟩, ⟨by (with_reducible repeat (first | apply Kd.R_alloc | apply Kd.R_drewN | apply Kd.R_drew)); exact HO_16.out⟩, ⟨by (with_reducible repeat (first | apply Kd.N_alloc | apply Kd.N_drewN | apply Kd.N_drew)); exact HO_87.out⟩, ⟨by (with_reducible repeat (first | apply Kd.R_alloc | apply Kd.R_drewN | apply Kd.R_drew)); exact ba7.out⟩, ⟨by (with_reducible repeat (first | apply Kd.V_alloc | apply Kd.V_drewN | apply Kd.V_drew)); exact ba0.out⟩, ⟨by (with_reducible repeat (first | apply Kd.R_alloc | apply Kd.R_drewN | apply Kd.R_drew)); exact ba2.out⟩, ⟨by exact bU6 BK297.out⟩, ⟨by exact bU6 BK298.out⟩, ⟨by exact bU6 BK314.out⟩, ⟨by exact bU6 BK333.out⟩, ⟨by (with_reducible repeat (first | apply Kd.V_alloc | apply Kd.V_drewN | apply Kd.V_drew)); exact bkq.out⟩, ⟨by repeat (first | (with_reducible first | exact HI302.out | apply IsS58.alloc | apply IsS58.drewN | apply IsS58.drew | apply IsS58.set_1 | refine IsS58.far ?_ NB302_297.out _ | refine IsS58.far ?_ NB302_298.out _ | refine IsS58.far ?_ NB302_314.out _ | refine IsS58.far ?_ NB302_333.out _) | exact HI302.out)⟩, ⟨by repeat (first | (with_reducible first | exact HB.out | apply below_alloc | apply pw_below_drewN | apply below_drew1 | refine below_set ?_ (IsS58.ge HI302.out) | refine below_set ?_ (Aside0.out (by assumption))) | exact HB.out)⟩⟩
           rw [if_neg c115] at H
           have c115b0 : decide (baa < (y345.length : Int)) = false := decide_eq_false c115
           clear c115
           replace H := Option.bind_eq_some_iff.mp H
           obtain ⟨t351, A1240, H⟩ := H
           replace H : ((storagebarterref30_Same.f k5 ((rd_T39 y329 x89_3).f0) ((rd_T39 y329 x89_3).f1) a2_0 l2_1).bind fun t352 => (if (t351 != t352) = true then (some false) else ((deviation_Same.f k5 ((rd_T39 y329 x89_3).f0) ((rd_T39 y329 x89_3).f1) t309 ba1).bind fun t353 => ((storagebarterref30_Same.f k5 ((rd_T39 y329 x89_3).f0) ((rd_T39 y329 x89_3).f1) t309 ba1).bind fun t354 => (if (t353 != t354) = true then (some false) else (storagebarterlaw30_DeviationSteps.l0 k5 l3 a4 a5 a6 t303 y329 (y329.length : Int) (wrap64 (x89_3 + 1)) a2_0 l2_1 t300 t344 t309 ba1)))))) = some r := H
           have A124 := Aside0.mk A1240
           clear A1240
           replace H := Option.bind_eq_some_iff.mp H
           obtain ⟨t352, A1250, H⟩ := H
           replace H : (if (t351 != t352) = true then (some false) else ((deviation_Same.f k5 ((rd_T39 y329 x89_3).f0) ((rd_T39 y329 x89_3).f1) t309 ba1).bind fun t353 => ((storagebarterref30_Same.f k5 ((rd_T39 y329 x89_3).f0) ((rd_T39 y329 x89_3).f1) t309 ba1).bind fun t354 => (if (t353 != t354) = true then (some false) else (storagebarterlaw30_DeviationSteps.l0 k5 l3 a4 a5 a6 t303 y329 (y329.length : Int) (wrap64 (x89_3 + 1)) a2_0 l2_1 t300 t344 t309 ba1))))) = some r := H
           have A125 := Aside0.mk A1250
           clear A1250
           by_cases c126 : (t351 != t352) = true
           case pos =>
            rw [if_pos c126] at H
            have c126b0 : (t351 != t352) = true := c126
            (try (have c126b1 : decide (t351 = t352) = false := by simpa using c126))
            (try (have c126b2 : (t351 == t352) = false := by simpa using c126))
            (try (have c126b3 : ¬ (t351 = t352) := by simpa using c126))
            clear c126
            exact absurd (Option.some.inj H) (by rw [HRT_.out]; decide)
           rw [if_neg c126] at H
           have c126b0 : (t351 != t352) = false := by simpa using c126
           (try (have c126b1 : decide (t351 = t352) = true := by simpa using c126))
           (try (have c126b2 : (t351 == t352) = true := by simpa using c126))
           clear c126
           replace H := Option.bind_eq_some_iff.mp H
           obtain ⟨t353, A1270, H⟩ := H
           replace H : ((storagebarterref30_Same.f k5 ((rd_T39 y329 x89_3).f0) ((rd_T39 y329 x89_3).f1) t309 ba1).bind fun t354 => (if (t353 != t354) = true then (some false) else (storagebarterlaw30_DeviationSteps.l0 k5 l3 a4 a5 a6 t303 y329 (y329.length : Int) (wrap64 (x89_3 + 1)) a2_0 l2_1 t300 t344 t309 ba1))) = some r := H
           have A127 := Aside0.mk A1270
           clear A1270
           replace H := Option.bind_eq_some_iff.mp H
           obtain ⟨t354, A1280, H⟩ := H
           replace H : (if (t353 != t354) = true then (some false) else (storagebarterlaw30_DeviationSteps.l0 k5 l3 a4 a5 a6 t303 y329 (y329.length : Int) (wrap64 (x89_3 + 1)) a2_0 l2_1 t300 t344 t309 ba1)) = some r := H
           have A128 := Aside0.mk A1280
           clear A1280
           by_cases c129 : (t353 != t354) = true
           case pos =>
            rw [if_pos c129] at H
            have c129b0 : (t353 != t354) = true := c129
            (try (have c129b1 : decide (t353 = t354) = false := by simpa using c129))
            (try (have c129b2 : (t353 == t354) = false := by simpa using c129))
            (try (have c129b3 : ¬ (t353 = t354) := by simpa using c129))
            clear c129
            exact absurd (Option.some.inj H) (by rw [HRT_.out]; decide)
           rw [if_neg c129] at H
           have c129b0 : (t353 != t354) = false := by simpa using c129
           (try (have c129b1 : decide (t353 = t354) = true := by simpa using c129))
           (try (have c129b2 : (t353 == t354) = true := by simpa using c129))
           clear c129
           have H' := Aside0.mk H
           clear H
           try go_wp2
           have n0_ := Aside0.mk (Kd.V_drew HO_3.out)
           have n1_ := Aside0.mk (Kd.R_drew HO_16.out)
           have n2_ := Aside0.mk (Kd.N_drew HO_87.out)
           have n3_ := Aside0.mk (Kd.R_drew ba7.out)
           have n4_ := Aside0.mk (Kd.V_drew ba0.out)
           have n5_ := Aside0.mk (Kd.R_drew ba2.out)
           have n6_ := Aside0.mk (blk_drew BK297.out)
           have n7_ := Aside0.mk (blk_drew BK298.out)
           have n8_ := Aside0.mk (blk_drew BK314.out)
           have n9_ := Aside0.mk (blk_drew BK333.out)
           have n10_ := Aside0.mk (IsS58.drew HI302.out)
           have n11_ := Aside0.mk (below_drew1 HB.out)
           clear HO_3
           clear HO_16
           clear HO_87
           clear ba7
           clear ba0
           clear ba2
           clear BK297
           clear BK298
           clear BK314
           clear BK333
           clear HI302
           clear HB
           have HO_3 := n0_
           have HO_16 := n1_
           have HO_87 := n2_
           have ba7 := n3_
           have ba0 := n4_
           have ba2 := n5_
           have BK297 := n6_
           have BK298 := n7_
           have BK314 := n8_
           have BK333 := n9_
           have HI302 := n10_
           have HB := n11_
           clear n0_ n1_ n2_ n3_ n4_ n5_ n6_ n7_ n8_ n9_ n10_ n11_
           refine start_ (n := 16) (S := fun w' => w'.cell? ⟨gb333, 0, none⟩ = some (.int .i64 ((rd_T39 y329 x89_3).f0)) ∧ w'.cell? ⟨gb333, 1, none⟩ = some (.slice ba6 ((rd_T39 y329 x89_3).f1).length c332_1) ∧ w'.cell? ⟨gb298, 0, none⟩ = some (.int .i64 a2_0) ∧ w'.cell? ⟨gb298, 1, none⟩ = some (.slice A2_1 l2_1.length c2_1) ∧ w'.cell? ⟨gb314, 0, none⟩ = some (.int .i64 t309) ∧ w'.cell? ⟨gb314, 1, none⟩ = some (.slice Ao78 ba1.length co78)) (ds := []) #[false, false, false, false, false, false, false, false, false, false, false, false, false, false, false, false] (by kernel_rfl) rfl rfl ⟨(blk_cell BK333.out 0).trans rfl, (blk_cell BK333.out 1).trans rfl, (blk_cell BK298.out 0).trans rfl, (blk_cell BK298.out 1).trans rfl, (blk_cell BK314.out 0).trans rfl, (blk_cell BK314.out 1).trans rfl⟩ (fun hHeld => ?_); refine with_tabW storagebarterlaw30_DeviationSteps.tab27 storagebarterlaw30_DeviationSteps.bits27 (fun HT_ HW_ => ?_)
           have n99_ := Aside0.mk (Kd.V_drew bkq.out)
           clear bkq
           have bkq := n99_
           clear n99_
           generalize wr.drew = w130 at HO_3 HO_16 HO_87 ba7 ba0 ba2 BK297 BK298 BK314 BK333 bkq HI302 HB hHeld ⊢
           refine take_ (i := 0) (N := some 135) (v := ?_) (a' := ?_) #[true, false, false, false, false, false, false, false, false, false, false, false, false, false, false, false] rfl rfl (take_ofW HT_.out HW_.out (by kernel_rfl)) (fun _ _ _ h => h) (Or.inl ⟨by rfl, ?_⟩) hHeld ?_ ?_
           rotate_left
           ·rintro w' ⟨s0, s1, s2, s3, s4, s5⟩
            go_simp
            with_reducible rfl
           rotate_left
           ·simp only [Act.put, List.setIfInBounds_toArray, List.set_cons_zero, List.set_cons_succ, i64_w, i32_w]
            rfl
           refine take_ (i := 1) (N := some 136) (v := ?_) (a' := ?_) #[true, true, false, false, false, false, false, false, false, false, false, false, false, false, false, false] rfl rfl (take_ofW HT_.out HW_.out (by kernel_rfl)) (fun _ _ _ h => h) (Or.inl ⟨by rfl, ?_⟩) hHeld ?_ ?_
           rotate_left
           ·rintro w' ⟨s0, s1, s2, s3, s4, s5⟩
            go_simp
            with_reducible rfl
           rotate_left
           ·simp only [Act.put, List.setIfInBounds_toArray, List.set_cons_zero, List.set_cons_succ, i64_w, i32_w]
            rfl
           refine take_ (i := 3) (N := some 138) (v := ?_) (a' := ?_) #[true, true, false, true, false, false, false, false, false, false, false, false, false, false, false, false] rfl rfl (take_ofW HT_.out HW_.out (by kernel_rfl)) (fun _ _ _ h => h) (Or.inl ⟨by rfl, ?_⟩) hHeld ?_ ?_
           rotate_left
           ·rintro w' ⟨s0, s1, s2, s3, s4, s5⟩
            go_simp
            with_reducible rfl
           rotate_left
           ·simp only [Act.put, List.setIfInBounds_toArray, List.set_cons_zero, List.set_cons_succ, i64_w, i32_w]
            rfl
           refine take_ (i := 4) (N := some 139) (v := ?_) (a' := ?_) #[true, true, false, true, true, false, false, false, false, false, false, false, false, false, false, false] rfl rfl (take_ofW HT_.out HW_.out (by kernel_rfl)) (fun _ _ _ h => h) (Or.inl ⟨by rfl, ?_⟩) hHeld ?_ ?_
           rotate_left
           ·rintro w' ⟨s0, s1, s2, s3, s4, s5⟩
            go_simp
            with_reducible rfl
           rotate_left
           ·simp only [Act.put, List.setIfInBounds_toArray, List.set_cons_zero, List.set_cons_succ, i64_w, i32_w]
            rfl
           refine one_ (i := 2) (N := some 137) #[true, true, true, true, true, false, false, false, false, false, false, false, false, false, false, false] rfl rfl (one_of HT_.out (by kernel_rfl)) (by decide) (fun K hK => ?_)
           refine goes_ Tryd.func20 (by kernel_rfl) rfl #[.agg #[.int .i64 ((rd_T39 y329 x89_3).f0), .slice ba6 ((rd_T39 y329 x89_3).f1).length c332_1], .agg #[.int .i64 a2_0, .slice A2_1 l2_1.length c2_1]] (by rfl) rfl rfl (by (try simp only [List.map_toArray, List.map_cons, List.map_nil]); first | done | rfl | (simp only [List.length_drop, List.length_take]; rfl)) ?_
           with_reducible refine (deviation_Same.calls k5 ((rd_T39 y329 x89_3).f0) _ _ ((rd_T39 y329 x89_3).f1) a2_0 _ _ l2_1 t351 _ ?side1 ?side2 ?side3 ?side4 A124.out).mono ?_
           (case side1 => first | exact ((Kd.V_reads' bkq.out).2.2) | exact cU6 ((Kd.V_reads' bkq.out).2.2))
           (case side2 => exact HC332_1.out)
           (case side3 => first | exact (Kd.C_below HR2_1.out HB.out) | exact cU6 (Kd.C_below HR2_1.out HB.out))
           (case side4 => exact HC2_1.out)
           rintro e w131 ⟨rfl, hb⟩
           have bkq := Aside0.mk (Kd.V_below (vU6 bkq.out) hb)
           refine ⟨_, rfl, ?_⟩
           have n0_ := Aside0.mk (Kd.V_below (vU6 HO_3.out) hb)
           have n1_ := Aside0.mk (Kd.R_below (rU6 HO_16.out) hb)
           have n2_ := Aside0.mk (Kd.N_below (nU6 HO_87.out) hb)
           have n3_ := Aside0.mk (Kd.R_below (rU6 ba7.out) hb)
           have n4_ := Aside0.mk (Kd.V_below (vU6 ba0.out) hb)
           have n5_ := Aside0.mk (Kd.R_below (rU6 ba2.out) hb)
           have n6_ := Aside0.mk (blk_below (g := gb297) (o := .cells #[.int .i64 a1_0, .slice Ao77 ba3.length co77] 39 (0, 0)) (bU6 BK297.out) hb)
           have n7_ := Aside0.mk (blk_below (g := gb298) (o := .cells #[.int .i64 a2_0, .slice A2_1 l2_1.length c2_1] 39 (0, 0)) (bU6 BK298.out) hb)
           have n8_ := Aside0.mk (blk_below (g := gb314) (o := .cells #[.int .i64 t309, .slice Ao78 ba1.length co78] 39 (0, 0)) (bU6 BK314.out) hb)
           have n9_ := Aside0.mk (blk_below (g := gb333) (bU6 BK333.out) hb)
           have n10_ := Aside0.mk (IsS58.below (by repeat (first | (with_reducible first | exact HI302.out | apply IsS58.alloc | apply IsS58.drewN | apply IsS58.drew | apply IsS58.set_1 | refine IsS58.far ?_ NB302_297.out _ | refine IsS58.far ?_ NB302_298.out _ | refine IsS58.far ?_ NB302_314.out _ | refine IsS58.far ?_ NB302_333.out _) | exact HI302.out)) hb)
           have n11_ := Aside0.mk (below_step (by repeat (first | (with_reducible first | exact HB.out | apply below_alloc | apply pw_below_drewN | apply below_drew1 | refine below_set ?_ (IsS58.ge HI302.out) | refine below_set ?_ (Aside0.out (by assumption))) | exact HB.out)) hb)
           clear HO_3
           clear HO_16
           clear HO_87
           clear ba7
           clear ba0
           clear ba2
           clear BK297
           clear BK298
           clear BK314
           clear BK333
           clear HI302
           clear HB
           have HO_3 := n0_
           have HO_16 := n1_
           have HO_87 := n2_
           have ba7 := n3_
           have ba0 := n4_
           have ba2 := n5_
           have BK297 := n6_
           have BK298 := n7_
           have BK314 := n8_
           have BK333 := n9_
           have HI302 := n10_
           have HB := n11_
           clear n0_ n1_ n2_ n3_ n4_ n5_ n6_ n7_ n8_ n9_ n10_ n11_
           (try clear hb)
           (try clear hb2)
           (try clear hk)
           (try clear hi)
           (try clear hgw)
           refine hK.out _ _ ⟨(blk_cell BK333.out 0).trans rfl, (blk_cell BK333.out 1).trans rfl, (blk_cell BK298.out 0).trans rfl, (blk_cell BK298.out 1).trans rfl, (blk_cell BK314.out 0).trans rfl, (blk_cell BK314.out 1).trans rfl⟩ (fun hHeld => ?_)
           clear hK K
           refine norm_ (a' := ?_) ?_ ?_
           rotate_left
           ·show Act.put _ (some 137) _ = _
            simp only [Act.put, List.setIfInBounds_toArray, List.set_cons_zero, List.set_cons_succ, i64_w, i32_w]
            rfl
           refine one_ (i := 5) (N := some 140) #[true, true, true, true, true, true, false, false, false, false, false, false, false, false, false, false] rfl rfl (one_of HT_.out (by kernel_rfl)) (by decide) (fun K hK => ?_)
           refine goes_ Tryd.func14 (by kernel_rfl) rfl #[.agg #[.int .i64 ((rd_T39 y329 x89_3).f0), .slice ba6 ((rd_T39 y329 x89_3).f1).length c332_1], .agg #[.int .i64 a2_0, .slice A2_1 l2_1.length c2_1]] (by rfl) rfl rfl (by (try simp only [List.map_toArray, List.map_cons, List.map_nil]); first | done | rfl | (simp only [List.length_drop, List.length_take]; rfl)) ?_
           with_reducible refine (storagebarterref30_Same.calls k5 ((rd_T39 y329 x89_3).f0) _ _ ((rd_T39 y329 x89_3).f1) a2_0 _ _ l2_1 t352 _ ?side1 ?side2 ?side3 ?side4 A125.out).mono ?_
           (case side1 => first | exact ((Kd.V_reads' bkq.out).2.2) | exact cU6 ((Kd.V_reads' bkq.out).2.2))
           (case side2 => exact HC332_1.out)
           (case side3 => first | exact (Kd.C_below HR2_1.out HB.out) | exact cU6 (Kd.C_below HR2_1.out HB.out))
           (case side4 => exact HC2_1.out)
           rintro e w132 ⟨rfl, hb⟩
           have bkq := Aside0.mk (Kd.V_below (vU6 bkq.out) hb)
           refine ⟨_, rfl, ?_⟩
           have n0_ := Aside0.mk (Kd.V_below (vU6 HO_3.out) hb)
           have n1_ := Aside0.mk (Kd.R_below (rU6 HO_16.out) hb)
           have n2_ := Aside0.mk (Kd.N_below (nU6 HO_87.out) hb)
           have n3_ := Aside0.mk (Kd.R_below (rU6 ba7.out) hb)
           have n4_ := Aside0.mk (Kd.V_below (vU6 ba0.out) hb)
           have n5_ := Aside0.mk (Kd.R_below (rU6 ba2.out) hb)
           have n6_ := Aside0.mk (blk_below (g := gb297) (o := .cells #[.int .i64 a1_0, .slice Ao77 ba3.length co77] 39 (0, 0)) (bU6 BK297.out) hb)
           have n7_ := Aside0.mk (blk_below (g := gb298) (o := .cells #[.int .i64 a2_0, .slice A2_1 l2_1.length c2_1] 39 (0, 0)) (bU6 BK298.out) hb)
           have n8_ := Aside0.mk (blk_below (g := gb314) (o := .cells #[.int .i64 t309, .slice Ao78 ba1.length co78] 39 (0, 0)) (bU6 BK314.out) hb)
           have n9_ := Aside0.mk (blk_below (g := gb333) (bU6 BK333.out) hb)
           have n10_ := Aside0.mk (IsS58.below (by repeat (first | (with_reducible first | exact HI302.out | apply IsS58.alloc | apply IsS58.drewN | apply IsS58.drew | apply IsS58.set_1 | refine IsS58.far ?_ NB302_297.out _ | refine IsS58.far ?_ NB302_298.out _ | refine IsS58.far ?_ NB302_314.out _ | refine IsS58.far ?_ NB302_333.out _) | exact HI302.out)) hb)
           have n11_ := Aside0.mk (below_step (by repeat (first | (with_reducible first | exact HB.out | apply below_alloc | apply pw_below_drewN | apply below_drew1 | refine below_set ?_ (IsS58.ge HI302.out) | refine below_set ?_ (Aside0.out (by assumption))) | exact HB.out)) hb)
           clear HO_3
           clear HO_16
           clear HO_87
           clear ba7
           clear ba0
           clear ba2
           clear BK297
           clear BK298
           clear BK314
           clear BK333
           clear HI302
           clear HB
           have HO_3 := n0_
           have HO_16 := n1_
           have HO_87 := n2_
           have ba7 := n3_
           have ba0 := n4_
           have ba2 := n5_
           have BK297 := n6_
           have BK298 := n7_
           have BK314 := n8_
           have BK333 := n9_
           have HI302 := n10_
           have HB := n11_
           clear n0_ n1_ n2_ n3_ n4_ n5_ n6_ n7_ n8_ n9_ n10_ n11_
           (try clear hb)
           (try clear hb2)
           (try clear hk)
           (try clear hi)
           (try clear hgw)
           refine hK.out _ _ ⟨(blk_cell BK333.out 0).trans rfl, (blk_cell BK333.out 1).trans rfl, (blk_cell BK298.out 0).trans rfl, (blk_cell BK298.out 1).trans rfl, (blk_cell BK314.out 0).trans rfl, (blk_cell BK314.out 1).trans rfl⟩ (fun hHeld => ?_)
           clear hK K
           refine norm_ (a' := ?_) ?_ ?_
           rotate_left
           ·show Act.put _ (some 140) _ = _
            simp only [Act.put, List.setIfInBounds_toArray, List.set_cons_zero, List.set_cons_succ, i64_w, i32_w]
            rfl
           refine pure_ (i := 6) (N := some 141) (v := ?_) (a' := ?_) #[true, true, true, true, true, true, true, false, false, false, false, false, false, false, false, false] rfl rfl (any_of HT_.out (by kernel_rfl)) (fun _ _ _ h => h) (Or.inl ⟨by rfl, ?_⟩) ?_ ?_
           rotate_left
           ·intro w'
            go_simp
            with_reducible rfl
           rotate_left
           ·simp only [Act.put, List.setIfInBounds_toArray, List.set_cons_zero, List.set_cons_succ, i64_w, i32_w]
            rfl
           refine pure_ (i := 7) (N := some 142) (v := ?_) (a' := ?_) #[true, true, true, true, true, true, true, true, false, false, false, false, false, false, false, false] rfl rfl (any_of HT_.out (by kernel_rfl)) (fun _ _ _ h => h) (Or.inl ⟨by rfl, ?_⟩) ?_ ?_
           rotate_left
           ·intro w'
            go_simp
            with_reducible rfl
           rotate_left
           ·simp only [Act.put, List.setIfInBounds_toArray, List.set_cons_zero, List.set_cons_succ, i64_w, i32_w]
            rfl
           refine take_ (i := 8) (N := some 143) (v := ?_) (a' := ?_) #[true, true, true, true, true, true, true, true, true, false, false, false, false, false, false, false] rfl rfl (take_ofW HT_.out HW_.out (by kernel_rfl)) (fun _ _ _ h => h) (Or.inl ⟨by rfl, ?_⟩) hHeld ?_ ?_
           rotate_left
           ·rintro w' ⟨s0, s1, s2, s3, s4, s5⟩
            go_simp
            with_reducible rfl
           rotate_left
           ·simp only [Act.put, List.setIfInBounds_toArray, List.set_cons_zero, List.set_cons_succ, i64_w, i32_w]
            rfl
           refine take_ (i := 9) (N := some 144) (v := ?_) (a' := ?_) #[true, true, true, true, true, true, true, true, true, true, false, false, false, false, false, false] rfl rfl (take_ofW HT_.out HW_.out (by kernel_rfl)) (fun _ _ _ h => h) (Or.inl ⟨by rfl, ?_⟩) hHeld ?_ ?_
           rotate_left
           ·rintro w' ⟨s0, s1, s2, s3, s4, s5⟩
            go_simp
            with_reducible rfl
           rotate_left
           ·simp only [Act.put, List.setIfInBounds_toArray, List.set_cons_zero, List.set_cons_succ, i64_w, i32_w]
            rfl
           refine take_ (i := 11) (N := some 146) (v := ?_) (a' := ?_) #[true, true, true, true, true, true, true, true, true, true, false, true, false, false, false, false] rfl rfl (take_ofW HT_.out HW_.out (by kernel_rfl)) (fun _ _ _ h => h) (Or.inl ⟨by rfl, ?_⟩) hHeld ?_ ?_
           rotate_left
           ·rintro w' ⟨s0, s1, s2, s3, s4, s5⟩
            go_simp
            with_reducible rfl
           rotate_left
           ·simp only [Act.put, List.setIfInBounds_toArray, List.set_cons_zero, List.set_cons_succ, i64_w, i32_w]
            rfl
           refine take_ (i := 12) (N := some 147) (v := ?_) (a' := ?_) #[true, true, true, true, true, true, true, true, true, true, false, true, true, false, false, false] rfl rfl (take_ofW HT_.out HW_.out (by kernel_rfl)) (fun _ _ _ h => h) (Or.inl ⟨by rfl, ?_⟩) hHeld ?_ ?_
           rotate_left
           ·rintro w' ⟨s0, s1, s2, s3, s4, s5⟩
            go_simp
            with_reducible rfl
           rotate_left
           ·simp only [Act.put, List.setIfInBounds_toArray, List.set_cons_zero, List.set_cons_succ, i64_w, i32_w]
            rfl
           refine one_ (i := 10) (N := some 145) #[true, true, true, true, true, true, true, true, true, true, true, true, true, false, false, false] rfl rfl (one_of HT_.out (by kernel_rfl)) (by decide) (fun K hK => ?_)
           refine goes_ Tryd.func20 (by kernel_rfl) rfl #[.agg #[.int .i64 ((rd_T39 y329 x89_3).f0), .slice ba6 ((rd_T39 y329 x89_3).f1).length c332_1], .agg #[.int .i64 t309, .slice Ao78 ba1.length co78]] (by rfl) rfl rfl (by (try simp only [List.map_toArray, List.map_cons, List.map_nil]); first | done | rfl | (simp only [List.length_drop, List.length_take]; rfl)) ?_
           with_reducible refine (deviation_Same.calls k5 ((rd_T39 y329 x89_3).f0) _ _ ((rd_T39 y329 x89_3).f1) t309 _ _ ba1 t353 _ ?side1 ?side2 ?side3 ?side4 A127.out).mono ?_
           (case side1 => first | exact ((Kd.V_reads' bkq.out).2.2) | exact cU6 ((Kd.V_reads' bkq.out).2.2))
           (case side2 => exact HC332_1.out)
           (case side3 => first | exact (Kd.R_reads' ba2.out).2.2 | exact cU6 (Kd.R_reads' ba2.out).2.2)
           (case side4 => exact (Kd.R_reads' ba2.out).2.1)
           rintro e w133 ⟨rfl, hb⟩
           have bkq := Aside0.mk (Kd.V_below (vU6 bkq.out) hb)
           refine ⟨_, rfl, ?_⟩
           have n0_ := Aside0.mk (Kd.V_below (vU6 HO_3.out) hb)
           have n1_ := Aside0.mk (Kd.R_below (rU6 HO_16.out) hb)
           have n2_ := Aside0.mk (Kd.N_below (nU6 HO_87.out) hb)
           have n3_ := Aside0.mk (Kd.R_below (rU6 ba7.out) hb)
           have n4_ := Aside0.mk (Kd.V_below (vU6 ba0.out) hb)
           have n5_ := Aside0.mk (Kd.R_below (rU6 ba2.out) hb)
           have n6_ := Aside0.mk (blk_below (g := gb297) (o := .cells #[.int .i64 a1_0, .slice Ao77 ba3.length co77] 39 (0, 0)) (bU6 BK297.out) hb)
           have n7_ := Aside0.mk (blk_below (g := gb298) (o := .cells #[.int .i64 a2_0, .slice A2_1 l2_1.length c2_1] 39 (0, 0)) (bU6 BK298.out) hb)
           have n8_ := Aside0.mk (blk_below (g := gb314) (o := .cells #[.int .i64 t309, .slice Ao78 ba1.length co78] 39 (0, 0)) (bU6 BK314.out) hb)
           have n9_ := Aside0.mk (blk_below (g := gb333) (bU6 BK333.out) hb)
           have n10_ := Aside0.mk (IsS58.below (by repeat (first | (with_reducible first | exact HI302.out | apply IsS58.alloc | apply IsS58.drewN | apply IsS58.drew | apply IsS58.set_1 | refine IsS58.far ?_ NB302_297.out _ | refine IsS58.far ?_ NB302_298.out _ | refine IsS58.far ?_ NB302_314.out _ | refine IsS58.far ?_ NB302_333.out _) | exact HI302.out)) hb)
           have n11_ := Aside0.mk (below_step (by repeat (first | (with_reducible first | exact HB.out | apply below_alloc | apply pw_below_drewN | apply below_drew1 | refine below_set ?_ (IsS58.ge HI302.out) | refine below_set ?_ (Aside0.out (by assumption))) | exact HB.out)) hb)
           clear HO_3
           clear HO_16
           clear HO_87
           clear ba7
           clear ba0
           clear ba2
           clear BK297
           clear BK298
           clear BK314
           clear BK333
           clear HI302
           clear HB
           have HO_3 := n0_
           have HO_16 := n1_
           have HO_87 := n2_
           have ba7 := n3_
           have ba0 := n4_
           have ba2 := n5_
           have BK297 := n6_
           have BK298 := n7_
           have BK314 := n8_
           have BK333 := n9_
           have HI302 := n10_
           have HB := n11_
           clear n0_ n1_ n2_ n3_ n4_ n5_ n6_ n7_ n8_ n9_ n10_ n11_
           (try clear hb)
           (try clear hb2)
           (try clear hk)
           (try clear hi)
           (try clear hgw)
           refine hK.out _ _ ⟨(blk_cell BK333.out 0).trans rfl, (blk_cell BK333.out 1).trans rfl, (blk_cell BK298.out 0).trans rfl, (blk_cell BK298.out 1).trans rfl, (blk_cell BK314.out 0).trans rfl, (blk_cell BK314.out 1).trans rfl⟩ (fun hHeld => ?_)
           clear hK K
           refine norm_ (a' := ?_) ?_ ?_
           rotate_left
           ·show Act.put _ (some 145) _ = _
            simp only [Act.put, List.setIfInBounds_toArray, List.set_cons_zero, List.set_cons_succ, i64_w, i32_w]
            rfl
           refine one_ (i := 13) (N := some 148) #[true, true, true, true, true, true, true, true, true, true, true, true, true, true, false, false] rfl rfl (one_of HT_.out (by kernel_rfl)) (by decide) (fun K hK => ?_)
           refine goes_ Tryd.func14 (by kernel_rfl) rfl #[.agg #[.int .i64 ((rd_T39 y329 x89_3).f0), .slice ba6 ((rd_T39 y329 x89_3).f1).length c332_1], .agg #[.int .i64 t309, .slice Ao78 ba1.length co78]] (by rfl) rfl rfl (by (try simp only [List.map_toArray, List.map_cons, List.map_nil]); first | done | rfl | (simp only [List.length_drop, List.length_take]; rfl)) ?_
           with_reducible refine (storagebarterref30_Same.calls k5 ((rd_T39 y329 x89_3).f0) _ _ ((rd_T39 y329 x89_3).f1) t309 _ _ ba1 t354 _ ?side1 ?side2 ?side3 ?side4 A128.out).mono ?_
           (case side1 => first | exact ((Kd.V_reads' bkq.out).2.2) | exact cU6 ((Kd.V_reads' bkq.out).2.2))
           (case side2 => exact HC332_1.out)
           (case side3 => first | exact (Kd.R_reads' ba2.out).2.2 | exact cU6 (Kd.R_reads' ba2.out).2.2)
           (case side4 => exact (Kd.R_reads' ba2.out).2.1)
           rintro e w134 ⟨rfl, hb⟩
           have bkq := Aside0.mk (Kd.V_below (vU6 bkq.out) hb)
           refine ⟨_, rfl, ?_⟩
           have n0_ := Aside0.mk (Kd.V_below (vU6 HO_3.out) hb)
           have n1_ := Aside0.mk (Kd.R_below (rU6 HO_16.out) hb)
           have n2_ := Aside0.mk (Kd.N_below (nU6 HO_87.out) hb)
           have n3_ := Aside0.mk (Kd.R_below (rU6 ba7.out) hb)
           have n4_ := Aside0.mk (Kd.V_below (vU6 ba0.out) hb)
           have n5_ := Aside0.mk (Kd.R_below (rU6 ba2.out) hb)
           have n6_ := Aside0.mk (blk_below (g := gb297) (o := .cells #[.int .i64 a1_0, .slice Ao77 ba3.length co77] 39 (0, 0)) (bU6 BK297.out) hb)
           have n7_ := Aside0.mk (blk_below (g := gb298) (o := .cells #[.int .i64 a2_0, .slice A2_1 l2_1.length c2_1] 39 (0, 0)) (bU6 BK298.out) hb)
           have n8_ := Aside0.mk (blk_below (g := gb314) (o := .cells #[.int .i64 t309, .slice Ao78 ba1.length co78] 39 (0, 0)) (bU6 BK314.out) hb)
           have n9_ := Aside0.mk (blk_below (g := gb333) (bU6 BK333.out) hb)
           have n10_ := Aside0.mk (IsS58.below (by repeat (first | (with_reducible first | exact HI302.out | apply IsS58.alloc | apply IsS58.drewN | apply IsS58.drew | apply IsS58.set_1 | refine IsS58.far ?_ NB302_297.out _ | refine IsS58.far ?_ NB302_298.out _ | refine IsS58.far ?_ NB302_314.out _ | refine IsS58.far ?_ NB302_333.out _) | exact HI302.out)) hb)
           have n11_ := Aside0.mk (below_step (by repeat (first | (with_reducible first | exact HB.out | apply below_alloc | apply pw_below_drewN | apply below_drew1 | refine below_set ?_ (IsS58.ge HI302.out) | refine below_set ?_ (Aside0.out (by assumption))) | exact HB.out)) hb)
           clear HO_3
           clear HO_16
           clear HO_87
           clear ba7
           clear ba0
           clear ba2
           clear BK297
           clear BK298
           clear BK314
           clear BK333
           clear HI302
           clear HB
           have HO_3 := n0_
           have HO_16 := n1_
           have HO_87 := n2_
           have ba7 := n3_
           have ba0 := n4_
           have ba2 := n5_
           have BK297 := n6_
           have BK298 := n7_
           have BK314 := n8_
           have BK333 := n9_
           have HI302 := n10_
           have HB := n11_
           clear n0_ n1_ n2_ n3_ n4_ n5_ n6_ n7_ n8_ n9_ n10_ n11_
           (try clear hb)
           (try clear hb2)
           (try clear hk)
           (try clear hi)
           (try clear hgw)
           refine hK.out _ _ ⟨(blk_cell BK333.out 0).trans rfl, (blk_cell BK333.out 1).trans rfl, (blk_cell BK298.out 0).trans rfl, (blk_cell BK298.out 1).trans rfl, (blk_cell BK314.out 0).trans rfl, (blk_cell BK314.out 1).trans rfl⟩ (fun hHeld => ?_)
           clear hK K
           refine norm_ (a' := ?_) ?_ ?_
           rotate_left
           ·show Act.put _ (some 148) _ = _
            simp only [Act.put, List.setIfInBounds_toArray, List.set_cons_zero, List.set_cons_succ, i64_w, i32_w]
            rfl
           refine pure_ (i := 14) (N := some 149) (v := ?_) (a' := ?_) #[true, true, true, true, true, true, true, true, true, true, true, true, true, true, true, false] rfl rfl (any_of HT_.out (by kernel_rfl)) (fun _ _ _ h => h) (Or.inl ⟨by rfl, ?_⟩) ?_ ?_
           rotate_left
           ·intro w'
            go_simp
            with_reducible rfl
           rotate_left
           ·simp only [Act.put, List.setIfInBounds_toArray, List.set_cons_zero, List.set_cons_succ, i64_w, i32_w]
            rfl
           refine pure_ (i := 15) (N := some 150) (v := ?_) (a' := ?_) #[true, true, true, true, true, true, true, true, true, true, true, true, true, true, true, true] rfl rfl (any_of HT_.out (by kernel_rfl)) (fun _ _ _ h => h) (Or.inl ⟨by rfl, ?_⟩) ?_ ?_
           rotate_left
           ·intro w'
            go_simp
            with_reducible rfl
           rotate_left
           ·simp only [Act.put, List.setIfInBounds_toArray, List.set_cons_zero, List.set_cons_succ, i64_w, i32_w]
            rfl
           refine done_ (done_of HT_.out (by kernel_rfl)) ?_
           try go_wp2
           go_roundg k5
           case measure => have := HJ9.out; have := HJ29.out; have := HK3.out; have := HK4.out; have := HK5.out; omega
           case rel => exact ⟨(wrap64 (x89_3 + 1)), (t344), (by first | rfl | (simp; done) | (simp [*]; done)), H', ⟨by have := HJ9.out; have := HJ29.out; have := HK3.out; have := HK4.out; have := HK5.out; omega⟩, ⟨by (with_reducible repeat (first | apply Kd.V_alloc | apply Kd.V_drewN | apply Kd.V_drew)); exact Kd.V_mono HO_3.out (fun _ hk => ⟨hk.1, ⟨hk.2.1, ⟨hk.2.2.1, ⟨hk.2.2.2.2.1, ⟨hk.2.2.2.2.2.1, ⟨hk.2.2.2.2.2.2.1, ⟨hk.2.2.2.2.2.2.2.1, hk.2.2.2.2.2.2.2.2.2⟩⟩⟩⟩⟩⟩⟩)⟩, ⟨by (with_reducible repeat (first | apply Kd.R_alloc | apply Kd.R_drewN | apply Kd.R_drew)); exact HO_16.out⟩, ⟨by (with_reducible repeat (first | apply Kd.N_alloc | apply Kd.N_drewN | apply Kd.N_drew)); exact Kd.N_mono HO_87.out (fun _ hk => ⟨hk.1, ⟨hk.2.1, ⟨hk.2.2.2.1, ⟨hk.2.2.2.2.1, ⟨hk.2.2.2.2.2.1, hk.2.2.2.2.2.2.2⟩⟩⟩⟩⟩)⟩, ⟨by (with_reducible repeat (first | apply Kd.V_alloc | apply Kd.V_drewN | apply Kd.V_drew)); exact Kd.V_mono ba0.out (fun _ hk => ⟨hk.1, ⟨hk.2.1, ⟨hk.2.2.1, ⟨hk.2.2.2.2.1, ⟨hk.2.2.2.2.2.1, ⟨hk.2.2.2.2.2.2.1, ⟨hk.2.2.2.2.2.2.2.1, hk.2.2.2.2.2.2.2.2.2⟩⟩⟩⟩⟩⟩⟩)⟩, ⟨by (with_reducible repeat (first | apply Kd.R_alloc | apply Kd.R_drewN | apply Kd.R_drew)); exact ba2.out⟩, ⟨by exact bU6 BK297.out⟩, ⟨by exact bU6 BK298.out⟩, ⟨by exact bU6 BK314.out⟩, ⟨by repeat (first | (with_reducible first | exact HI302.out | apply IsS58.alloc | apply IsS58.drewN | apply IsS58.drew | apply IsS58.set_1 | refine IsS58.far ?_ NB302_297.out _ | refine IsS58.far ?_ NB302_298.out _ | refine IsS58.far ?_ NB302_314.out _ | refine IsS58.far ?_ NB302_333.out _) | exact HI302.out)⟩, ⟨by repeat (first | (with_reducible first | exact HB.out | apply below_alloc | apply pw_below_drewN | apply below_drew1 | refine below_set ?_ (IsS58.ge HI302.out) | refine below_set ?_ (Aside0.out (by assumption))) | exact HB.out)⟩⟩
/-- THE ONE PURE STATEMENT of storagebarterlaw30_DeviationSteps: yours. -/
def storagebarterlaw30_DeviationSteps.Pure : Prop := ∀ (l0 : List Int) (a1_0 : Int) (l1_1 : List (S51)) (a2_0 : Int) (l2_1 : List (S51)) (l3 : List (S56)) (a4 : Int) (a5 : Int) (a6 : Int), l0.length ≤ maxLen → l0.length * 1 ≤ 140737488351232 → (∀ x ∈ l0, (Lit.int .u8 x).wf = true) → (((Lit.int .i64 a1_0).wf = true) ∧ ((l1_1.length ≤ maxLen ∧ ∀ x0_ ∈ l1_1, (((Lit.int .i64 x0_.f0).wf = true) ∧ ((Lit.int .i64 x0_.f1).wf = true))))) → (((Lit.int .i64 a2_0).wf = true) ∧ ((l2_1.length ≤ maxLen ∧ ∀ x0_ ∈ l2_1, (((Lit.int .i64 x0_.f0).wf = true) ∧ ((Lit.int .i64 x0_.f1).wf = true))))) → (l3.length ≤ maxLen ∧ ∀ x0_ ∈ l3, (((Lit.int .i64 x0_.f0).wf = true) ∧ (((Lit.int .i64 x0_.f1).wf = true) ∧ (((Lit.int .i64 x0_.f2).wf = true) ∧ ((Lit.int .i64 x0_.f3).wf = true))))) → (Lit.int .i64 a4).wf = true → (Lit.int .i64 a5).wf = true → (Lit.int .i64 a6).wf = true → ∃ k, storagebarterlaw30_DeviationSteps.f k l0 a1_0 l1_1 a2_0 l2_1 l3 a4 a5 a6 = some true
theorem storagebarterlaw30_DeviationSteps.walk (P : storagebarterlaw30_DeviationSteps.Pure) (a0 : Option Addr) (len0 cap0 : Nat) (z0 : List Int) (a1_0 : Int) (A1_1 : Option Addr) (c1_1 : Nat) (l1_1 : List (S51)) (a2_0 : Int) (A2_1 : Option Addr) (c2_1 : Nat) (l2_1 : List (S51)) (A3 : Option Addr) (c3 : Nat) (l3 : List (S56)) (a4 : Int) (a5 : Int) (a6 : Int) (w : World) (w0 : (a0 = none ∧ len0 = 0 ∧ cap0 = 0 ∧ z0 = []) ∨ ∃ x, a0 = some x ∧ len0 ≤ cap0 ∧ cap0 ≤ maxLen ∧ z0.length = cap0 ∧ (∀ i, i < z0.length → w.cell? (x.add i) = some (.int .u8 (z0.getD i 0))) ∧ ∀ n ∈ z0, (Lit.int .u8 n).wf = true) (y0 : len0 * 1 ≤ 140737488351232) (w1 : (((Lit.int .i64 a1_0).wf = true) ∧ ((l1_1.length ≤ maxLen ∧ ∀ x0_ ∈ l1_1, (((Lit.int .i64 x0_.f0).wf = true) ∧ ((Lit.int .i64 x0_.f1).wf = true)))))) (hr1_1 : Kd.C k51 w A1_1 l1_1.length l1_1) (hc1_1 : l1_1.length ≤ c1_1) (w2 : (((Lit.int .i64 a2_0).wf = true) ∧ ((l2_1.length ≤ maxLen ∧ ∀ x0_ ∈ l2_1, (((Lit.int .i64 x0_.f0).wf = true) ∧ ((Lit.int .i64 x0_.f1).wf = true)))))) (hr2_1 : Kd.C k51 w A2_1 l2_1.length l2_1) (hc2_1 : l2_1.length ≤ c2_1) (w3 : (l3.length ≤ maxLen ∧ ∀ x0_ ∈ l3, (((Lit.int .i64 x0_.f0).wf = true) ∧ (((Lit.int .i64 x0_.f1).wf = true) ∧ (((Lit.int .i64 x0_.f2).wf = true) ∧ ((Lit.int .i64 x0_.f3).wf = true)))))) (hr3 : Kd.C k56 w A3 l3.length l3) (hc3 : l3.length ≤ c3) (w4 : (Lit.int .i64 a4).wf = true) (w5 : (Lit.int .i64 a5).wf = true) (w6 : (Lit.int .i64 a6).wf = true) (hL_ : Laid w) :
  Calls Tryd.prog 6 #[.slice a0 len0 cap0, .agg #[.int .i64 a1_0, .slice A1_1 l1_1.length c1_1], .agg #[.int .i64 a2_0, .slice A2_1 l2_1.length c2_1], .slice A3 l3.length c3, .int .i64 a4, .int .i64 a5, .int .i64 a6] w fun e w' => e = .returned (.bool true) ∧ Below w.heap.size w w' := by
 obtain ⟨l0, rfl, hr0, hm0, hw0, hc0⟩ := ReadsInt.ofRowC w0
 obtain ⟨k, h⟩ := P l0 a1_0 l1_1 a2_0 l2_1 l3 a4 a5 a6 hm0 y0 hw0 w1 w2 w3 w4 w5 w6
 refine (storagebarterlaw30_DeviationSteps.calls k _ _ l0 a1_0 (fun _ => True) A1_1 c1_1 l1_1 a2_0 A2_1 c2_1 l2_1 (fun _ => True) A3 c3 l3 a4 a5 a6 true w (Kd.C_of_reads (d := (0 : Int)) (h1 := fun _ => rfl) hr0) hc0 (Kd.V_mk hc1_1 (fun W_ hW_ => Kd.Heap.C k51_heap (fun k_ hlt_ => hW_ k_ trivial hlt_) hr1_1)) hr2_1 hc2_1 (Kd.V_mk hc3 (fun W_ hW_ => Kd.Heap.C k56_heap (fun k_ hlt_ => hW_ k_ trivial hlt_) hr3)) h rfl hL_).mono ?_
 rintro e w' ⟨rfl, hd⟩
 exact ⟨rfl, hd⟩

end Go.Proofs.YtdflpnfceajomaaDoor.PDeviationSteps
