-- Written by a program of this repository (wip/tools/myprint.py over the print of the kit): contracts and rows.
import Derived.Test.YtepffabkcbfejaaPEndingStepsx10b
namespace Go.Proofs.Ytepffabkcbfejaa.PEndingSteps
open Go.RowKit Go.Proofs.YtepffabkcbfejaaW.PrintWords Go.Proofs.YtepffabkcbfejaaW.PrintLast Go.Proofs.YtepffabkcbfejaaW.PrintMore
attribute [local go_sem] max2_int min2_int max_two min_two max_three min_three max_four min_four   -- for this text's walks alone
set_option linter.unusedVariables false
set_option linter.unusedSimpArgs false

attribute [local go_sem high] eqA39
set_option maxHeartbeats 60000000 in
set_option maxRecDepth 100000 in
theorem storagebarterlaw26_EndingSteps.calls (k : Nat) (A0 : Option Addr) (c0 : Nat) (l0 : List Int) (P1_ : Nat → Prop) (A1 : Option Addr) (c1 : Nat) (l1 : List (S44)) (a2 : Int) (a3 : Int) (a4 : Int) (a5 : Int) (a6_0 : Int) (a6_1 : Int) (a6_2 : Int) (a6_3 : Int) (a6_4 : Int) (a6_5 : Int) (a6_6 : Int) (a6_7 : Bool) (r : Bool) (w : World) (hr0 : Kd.C (Kd.int .u8) w A0 l0.length l0) (hc0 : l0.length ≤ c0) (hs1 : Kd.V k44 44 w w.heap.size (fun k_ => P1_ k_) (.slice A1 l1.length c1) l1) (h : storagebarterlaw26_EndingSteps.f k l0 l1 a2 a3 a4 a5 a6_0 a6_1 a6_2 a6_3 a6_4 a6_5 a6_6 a6_7 = some r) (hrt_ : r = true) :
  Calls Try.prog 7 #[.slice A0 l0.length c0, .slice A1 l1.length c1, .int .i64 a2, .int .i64 a3, .int .i32 a4, .int .i32 a5, .agg #[.int .i64 a6_0, .int .i64 a6_1, .int .i64 a6_2, .int .i64 a6_3, .int .i64 a6_4, .int .i64 a6_5, .int .i64 a6_6, .bool a6_7]] w fun e w' => e = .returned (.bool r) ∧ Below w.heap.size w w' := by
 have HRT_ := Aside0.mk hrt_
 clear hrt_
 have hu44 := Try.underlying44
 have hu49 := Try.underlying49
 have hu32 := Try.underlying32
 have HR0 := Aside0.mk hr0
 have HC0 := Aside0.mk hc0
 clear hr0 hc0
 have HO1 := Aside0.mk (show Kd.V k44 44 w w.heap.size (fun k_ => (P1_ k_ ∨ w.heap.size ≤ k_)) (.slice A1 l1.length c1) l1 from Kd.V_mono hs1 (fun k_ hk => .inl hk))
 have HB := Aside0.mk (Below.refl w.heap.size w)
 have H : ((storagebarterlaw26_sane.f).bind fun t245 => (if t245 = true then (if (l1.length : Int) > 8 then (some true) else (storagebarterlaw26_EndingSteps.l0 k l0 l1 a2 a3 a4 a5 l1 (l1.length : Int) 0 a6_0 a6_1 a6_2 a6_3 a6_4 a6_5 a6_6 a6_7)) else (some false))) = some r := h
 clear h
 replace H := Option.bind_eq_some_iff.mp H
 obtain ⟨t245, A80, H⟩ := H
 replace H : (if t245 = true then (if (l1.length : Int) > 8 then (some true) else (storagebarterlaw26_EndingSteps.l0 k l0 l1 a2 a3 a4 a5 l1 (l1.length : Int) 0 a6_0 a6_1 a6_2 a6_3 a6_4 a6_5 a6_6 a6_7)) else (some false)) = some r := H
 have A8 := Aside0.mk A80
 clear A80
 by_cases c9 : t245 = true
 case neg =>
  replace c9 := Bool.eq_false_iff.mpr c9
  subst c9
  have H1 : (some false) = some r := by rw [if_neg (show ¬ (false = true) by decide)] at H; exact H
  clear H
  have H := H1
  clear H1
  exact absurd (Option.some.inj H) (by rw [HRT_.out]; decide)


 subst c9
 have H1 : (if (l1.length : Int) > 8 then (some true) else (storagebarterlaw26_EndingSteps.l0 k l0 l1 a2 a3 a4 a5 l1 (l1.length : Int) 0 a6_0 a6_1 a6_2 a6_3 a6_4 a6_5 a6_6 a6_7)) = some r := by rw [if_pos rfl] at H; exact H
 clear H
 have H := H1
 clear H1
 by_cases c10 : (l1.length : Int) > 8
 case pos =>
  rw [if_pos c10] at H
  have c10b0 : decide (8 < (l1.length : Int)) = true := decide_eq_true c10
  have c10b1 : decide (8 < l1.length) = true := decide_eq_true (by omega)
  clear c10
  obtain rfl := Option.some.inj H
  go_enter Try.func7, Try.ntmps7
  go_wp2_with (first | ((with_reducible refine gate_dst (N := 13) rfl ?_); refine box_event ?hg (N := 13) ?hd (cs := #[.int .i64 a6_0, .int .i64 a6_1, .int .i64 a6_2, .int .i64 a6_3, .int .i64 a6_4, .int .i64 a6_5, .int .i64 a6_6, .bool a6_7]) (t := 44) ?hr ?_; (case hd => rfl); (case hg => rfl); (case hr => first | (go_simp; done) | (go_simp; rfl)); intro gb244 hg w11 hbox hb; have n0_ := Aside0.mk (Kd.V_below (Kd.V_elderB (vU7 HO1.out) gb244 (Nat.le_of_eq hg.symm)) hb); have n1_ := Aside0.mk (below_step (hU7 HB.out) hb); have n2_ := Aside0.mk (hbox); have n3_ := Aside0.mk ((by rw [hg]; exact (below_size (hU7 HB.out)) : w.heap.size ≤ gb244)); have n4_ := Aside0.mk ((by rw [hg]; exact (below_size (hU7 HB.out)) : w.heap.size ≤ gb244)); clear HO1; clear HB; have HO1 := n0_; have HB := n1_; have BK244 := n2_; have GW244 := n3_; have GE244 := n4_; clear n0_ n1_ n2_ n3_ n4_; clear hb hbox hg) | ((with_reducible refine gate_callee (f := 15) rfl ?_); refine goesL_ (some 47) rfl rfl Try.func15 (by kernel_rfl) rfl #[] rfl (by (try simp only [List.map_toArray, List.map_cons, List.map_nil]); first | done | rfl | (simp only [List.length_drop, List.length_take]; rfl)) ?_; (with_reducible refine (storagebarterlaw26_sane.calls  true _ A8.out).mono ?_); rintro e w12 ⟨rfl, hb⟩; refine ⟨_, rfl, ?_⟩; have n0_ := Aside0.mk (Kd.V_below (vU7 HO1.out) hb); have n1_ := Aside0.mk (blk_below (g := gb244) (bU7 BK244.out) hb); have n2_ := Aside0.mk (below_step (by repeat (first | (with_reducible first | exact HB.out | apply below_alloc | apply pw_below_drewN | apply below_drew1 | refine below_set ?_ GE244.out) | exact HB.out)) hb); clear HO1; clear BK244; clear HB; have HO1 := n0_; have BK244 := n1_; have HB := n2_; clear n0_ n1_ n2_; (try clear hb); (try clear hb2); (try clear hk); (try clear hi); (try clear hgw)))
  go_ret
  exact ⟨by first | rfl | (simp [errW_none, errW_some] <;> rfl) | (simp [*, errW_none, errW_some] <;> rfl), by repeat (first | (with_reducible first | exact HB.out | apply below_alloc | apply pw_below_drewN | apply below_drew1 | refine below_set ?_ GE244.out) | exact HB.out)⟩
 rw [if_neg c10] at H
 have c10b0 : decide (8 < (l1.length : Int)) = false := decide_eq_false c10
 have c10b1 : decide (8 < l1.length) = false := decide_eq_false (by omega)
 clear c10
 have H' := Aside0.mk H
 clear H
 go_enter Try.func7, Try.ntmps7
 go_wp2_with (first | ((with_reducible refine gate_dst (N := 13) rfl ?_); refine box_event ?hg (N := 13) ?hd (cs := #[.int .i64 a6_0, .int .i64 a6_1, .int .i64 a6_2, .int .i64 a6_3, .int .i64 a6_4, .int .i64 a6_5, .int .i64 a6_6, .bool a6_7]) (t := 44) ?hr ?_; (case hd => rfl); (case hg => rfl); (case hr => first | (go_simp; done) | (go_simp; rfl)); intro gb244 hg w13 hbox hb; have n0_ := Aside0.mk (Kd.V_below (Kd.V_elderB (vU7 HO1.out) gb244 (Nat.le_of_eq hg.symm)) hb); have n1_ := Aside0.mk (below_step (hU7 HB.out) hb); have n2_ := Aside0.mk (hbox); have n3_ := Aside0.mk ((by rw [hg]; exact (below_size (hU7 HB.out)) : w.heap.size ≤ gb244)); have n4_ := Aside0.mk ((by rw [hg]; exact (below_size (hU7 HB.out)) : w.heap.size ≤ gb244)); clear HO1; clear HB; have HO1 := n0_; have HB := n1_; have BK244 := n2_; have GW244 := n3_; have GE244 := n4_; clear n0_ n1_ n2_ n3_ n4_; clear hb hbox hg) | ((with_reducible refine gate_callee (f := 15) rfl ?_); refine goesL_ (some 47) rfl rfl Try.func15 (by kernel_rfl) rfl #[] rfl (by (try simp only [List.map_toArray, List.map_cons, List.map_nil]); first | done | rfl | (simp only [List.length_drop, List.length_take]; rfl)) ?_; (with_reducible refine (storagebarterlaw26_sane.calls  true _ A8.out).mono ?_); rintro e w14 ⟨rfl, hb⟩; refine ⟨_, rfl, ?_⟩; have n0_ := Aside0.mk (Kd.V_below (vU7 HO1.out) hb); have n1_ := Aside0.mk (blk_below (g := gb244) (bU7 BK244.out) hb); have n2_ := Aside0.mk (below_step (by repeat (first | (with_reducible first | exact HB.out | apply below_alloc | apply pw_below_drewN | apply below_drew1 | refine below_set ?_ GE244.out) | exact HB.out)) hb); clear HO1; clear BK244; clear HB; have HO1 := n0_; have BK244 := n1_; have HB := n2_; clear n0_ n1_ n2_; (try clear hb); (try clear hb2); (try clear hk); (try clear hi); (try clear hgw)))
 go_loopg [54] k (fun kq v54 w' => ∃ (x54_1 : Int), v54 = .int .i64 x54_1 ∧ Aside0 (storagebarterlaw26_EndingSteps.l0 kq l0 l1 a2 a3 a4 a5 l1 (l1.length : Int) x54_1 a6_0 a6_1 a6_2 a6_3 a6_4 a6_5 a6_6 a6_7 = some r) ∧ Aside0 (kq ≤ k) ∧ Aside0 (Kd.V k44 44 w' w.heap.size (fun k_ => (P1_ k_ ∨ w.heap.size ≤ k_) ∧ k_ ≠ gb244) (.slice A1 l1.length c1) l1) ∧ Aside0 (Kd.V k44 44 w' w.heap.size (fun k_ => (P1_ k_ ∨ w.heap.size ≤ k_) ∧ k_ ≠ gb244) (.slice A1 l1.length c1) l1) ∧ Aside0 (w'.heap[gb244]? = some (.cells #[.int .i64 a6_0, .int .i64 a6_1, .int .i64 a6_2, .int .i64 a6_3, .int .i64 a6_4, .int .i64 a6_5, .int .i64 a6_6, .bool a6_7] 44 (0, 0))) ∧ Aside0 (Below w.heap.size w w'))
 case atStart => exact ⟨(0), (by first | rfl | (simp; done) | (simp [*]; done)), H', ⟨Nat.le_refl _⟩, ⟨by (with_reducible repeat (first | apply Kd.V_alloc | apply Kd.V_drewN | apply Kd.V_drew)); exact HO1.out⟩, ⟨by (with_reducible repeat (first | apply Kd.V_alloc | apply Kd.V_drewN | apply Kd.V_drew)); exact HO1.out⟩, ⟨by exact bU7 BK244.out⟩, ⟨by repeat (first | (with_reducible first | exact HB.out | apply below_alloc | apply pw_below_drewN | apply below_drew1 | refine below_set ?_ GE244.out) | exact HB.out)⟩⟩
 case round =>
  clear H'
  try clear c1
  try clear p2
  try clear c7
  try clear c9
  try clear c10
  try clear c10b0
  try clear c10b1
  obtain ⟨x54_1, rfl, HA, HK1, HO_1, HO_52, BK244, HB⟩ := hrel
  cases gk with
  | zero => exact absurd HA.out (by simp [storagebarterlaw26_EndingSteps.l0])
  | succ k1 =>
   have H := HA.out
   clear HA
   simp only [storagebarterlaw26_EndingSteps.l0] at H
   by_cases c15 : x54_1 < (l1.length : Int)
   case pos =>
    rw [if_pos c15] at H
    have c15b0 : decide (x54_1 < (l1.length : Int)) = true := decide_eq_true c15
    clear c15
    by_cases c16 : 0 ≤ x54_1
    case neg =>
     rw [if_neg c16] at H
     exact absurd H (by simp)
    rw [if_pos c16] at H
    have c16b0 : decide (0 ≤ x54_1) = true := decide_eq_true c16
    clear c16
    by_cases c17 : x54_1 < (l1.length : Int)
    case neg =>
     rw [if_neg c17] at H
     exact absurd H (by simp)
    rw [if_pos c17] at H
    have c17b0 : decide (x54_1 < (l1.length : Int)) = true := decide_eq_true c17
    clear c17
    by_cases c18 : ((rd_T44 l1 x54_1).f4) > 1099511627776
    case pos =>
     rw [if_pos c18] at H
     have c18b0 : decide (1099511627776 < ((rd_T44 l1 x54_1).f4)) = true := decide_eq_true c18
     clear c18
     obtain rfl := Option.some.inj H
     have p246 : 0 ≤ (x54_1 : Int) := of_decide_eq_true (by first | (with_reducible assumption) | assumption)
     have q246 : x54_1 < (l1.length : Int) := of_decide_eq_true (by first | (with_reducible assumption) | assumption)
     obtain ⟨ad246, e246, hx246_0, hx246_1, hx246_2, hx246_3, hx246_4, hx246_5, hx246_6, hx246_7⟩ := at_T44 (Kd.V_reads' HO_52.out).2.2 x54_1 p246 q246
     cases e246
     replace p246 := eq_true p246
     replace q246 := eq_true q246
     go_wp2_with (first | ((with_reducible refine gate_dst (N := 16) rfl ?_); refine box_event ?hg (N := 16) ?hd (cs := #[.int .i64 0, .int .i64 0, .int .i64 0, .int .i64 0, .int .i64 0, .int .i64 0, .int .i64 0, .bool false]) (t := 44) ?hr ?_; (case hd => rfl); (case hg => rfl); (case hr => first | (go_simp; done) | (go_simp; rfl)); intro gb247 hg w19 hbox hb; have n0_ := Aside0.mk (Kd.V_below (Kd.V_elderB (vU7 HO_1.out) gb247 (Nat.le_of_eq hg.symm)) hb); have n1_ := Aside0.mk (Kd.V_below (Kd.V_elderB (vU7 HO_52.out) gb247 (Nat.le_of_eq hg.symm)) hb); have n2_ := Aside0.mk (blk_below (g := gb244) (bU7 BK244.out) hb); have n3_ := Aside0.mk (below_step (by repeat (first | (with_reducible first | exact HB.out | apply below_alloc | apply pw_below_drewN | apply below_drew1 | refine below_set ?_ GE244.out) | exact HB.out)) hb); have n4_ := Aside0.mk (hbox); have n5_ := Aside0.mk ((by rw [hg]; exact (below_size (by repeat (first | (with_reducible first | exact HB.out | apply below_alloc | apply pw_below_drewN | apply below_drew1 | refine below_set ?_ GE244.out) | exact HB.out))) : w.heap.size ≤ gb247)); have n6_ := Aside0.mk ((by rw [hg]; exact (below_size (by repeat (first | (with_reducible first | exact HB.out | apply below_alloc | apply pw_below_drewN | apply below_drew1 | refine below_set ?_ GE244.out) | exact HB.out))) : w.heap.size ≤ gb247)); have n7_ := Aside0.mk ((by rw [hg]; exact Nat.ne_of_lt (blk_lt (g := gb244) (o := .cells #[.int .i64 a6_0, .int .i64 a6_1, .int .i64 a6_2, .int .i64 a6_3, .int .i64 a6_4, .int .i64 a6_5, .int .i64 a6_6, .bool a6_7] 44 (0, 0)) (bU7 BK244.out)) : gb244 ≠ gb247)); have n8_ := Aside0.mk ((by rw [hg]; exact Nat.ne_of_gt (blk_lt (g := gb244) (o := .cells #[.int .i64 a6_0, .int .i64 a6_1, .int .i64 a6_2, .int .i64 a6_3, .int .i64 a6_4, .int .i64 a6_5, .int .i64 a6_6, .bool a6_7] 44 (0, 0)) (bU7 BK244.out)) : gb247 ≠ gb244)); clear HO_1; clear HO_52; clear BK244; clear HB; have HO_1 := n0_; have HO_52 := n1_; have BK244 := n2_; have HB := n3_; have BK247 := n4_; have GW247 := n5_; have GE247 := n6_; have NB244_247 := n7_; have NB247_244 := n8_; clear n0_ n1_ n2_ n3_ n4_ n5_ n6_ n7_ n8_; clear hb hbox hg; have hnb20 := NB247_244.out; have hnc20 := NB244_247.out; have hcz21_0 : w19.cell? ⟨gb247, 0, none⟩ = some (.int .i64 0) := (blk_cell BK247.out 0).trans rfl; have hcz21_1 : w19.cell? ⟨gb247, 1, none⟩ = some (.int .i64 0) := (blk_cell BK247.out 1).trans rfl; have hcz21_2 : w19.cell? ⟨gb247, 2, none⟩ = some (.int .i64 0) := (blk_cell BK247.out 2).trans rfl; have hcz21_3 : w19.cell? ⟨gb247, 3, none⟩ = some (.int .i64 0) := (blk_cell BK247.out 3).trans rfl; have hcz21_4 : w19.cell? ⟨gb247, 4, none⟩ = some (.int .i64 0) := (blk_cell BK247.out 4).trans rfl; have hcz21_5 : w19.cell? ⟨gb247, 5, none⟩ = some (.int .i64 0) := (blk_cell BK247.out 5).trans rfl; have hcz21_6 : w19.cell? ⟨gb247, 6, none⟩ = some (.int .i64 0) := (blk_cell BK247.out 6).trans rfl; have hcz21_7 : w19.cell? ⟨gb247, 7, none⟩ = some (.bool false) := (blk_cell BK247.out 7).trans rfl; have hfz21_0 := blk_frozen BK247.out 0; have hfz21_1 := blk_frozen BK247.out 1; have hfz21_2 := blk_frozen BK247.out 2; have hfz21_3 := blk_frozen BK247.out 3; have hfz21_4 := blk_frozen BK247.out 4; have hfz21_5 := blk_frozen BK247.out 5; have hfz21_6 := blk_frozen BK247.out 6; have hfz21_7 := blk_frozen BK247.out 7))
     go_ret
     exact ⟨by first | rfl | (simp [errW_none, errW_some] <;> rfl) | (simp [*, errW_none, errW_some] <;> rfl), by repeat (first | (with_reducible first | exact HB.out | apply below_alloc | apply pw_below_drewN | apply below_drew1 | refine below_set ?_ (Aside0.out (by assumption))) | exact HB.out)⟩
    rw [if_neg c18] at H
    have c18b0 : decide (1099511627776 < ((rd_T44 l1 x54_1).f4)) = false := decide_eq_false c18
    clear c18
    by_cases c22 : ((rd_T44 l1 x54_1).f4) < (-1099511627776)
    case pos =>
     rw [if_pos c22] at H
     have c22b0 : decide (((rd_T44 l1 x54_1).f4) < (-1099511627776)) = true := decide_eq_true c22
     clear c22
     obtain rfl := Option.some.inj H
     have p246 : 0 ≤ (x54_1 : Int) := of_decide_eq_true (by first | (with_reducible assumption) | assumption)
     have q246 : x54_1 < (l1.length : Int) := of_decide_eq_true (by first | (with_reducible assumption) | assumption)
     obtain ⟨ad246, e246, hx246_0, hx246_1, hx246_2, hx246_3, hx246_4, hx246_5, hx246_6, hx246_7⟩ := at_T44 (Kd.V_reads' HO_52.out).2.2 x54_1 p246 q246
     cases e246
     replace p246 := eq_true p246
     replace q246 := eq_true q246
     go_wp2_with (first | ((with_reducible refine gate_dst (N := 16) rfl ?_); refine box_event ?hg (N := 16) ?hd (cs := #[.int .i64 0, .int .i64 0, .int .i64 0, .int .i64 0, .int .i64 0, .int .i64 0, .int .i64 0, .bool false]) (t := 44) ?hr ?_; (case hd => rfl); (case hg => rfl); (case hr => first | (go_simp; done) | (go_simp; rfl)); intro gb247 hg w23 hbox hb; have n0_ := Aside0.mk (Kd.V_below (Kd.V_elderB (vU7 HO_1.out) gb247 (Nat.le_of_eq hg.symm)) hb); have n1_ := Aside0.mk (Kd.V_below (Kd.V_elderB (vU7 HO_52.out) gb247 (Nat.le_of_eq hg.symm)) hb); have n2_ := Aside0.mk (blk_below (g := gb244) (bU7 BK244.out) hb); have n3_ := Aside0.mk (below_step (by repeat (first | (with_reducible first | exact HB.out | apply below_alloc | apply pw_below_drewN | apply below_drew1 | refine below_set ?_ GE244.out) | exact HB.out)) hb); have n4_ := Aside0.mk (hbox); have n5_ := Aside0.mk ((by rw [hg]; exact (below_size (by repeat (first | (with_reducible first | exact HB.out | apply below_alloc | apply pw_below_drewN | apply below_drew1 | refine below_set ?_ GE244.out) | exact HB.out))) : w.heap.size ≤ gb247)); have n6_ := Aside0.mk ((by rw [hg]; exact (below_size (by repeat (first | (with_reducible first | exact HB.out | apply below_alloc | apply pw_below_drewN | apply below_drew1 | refine below_set ?_ GE244.out) | exact HB.out))) : w.heap.size ≤ gb247)); have n7_ := Aside0.mk ((by rw [hg]; exact Nat.ne_of_lt (blk_lt (g := gb244) (o := .cells #[.int .i64 a6_0, .int .i64 a6_1, .int .i64 a6_2, .int .i64 a6_3, .int .i64 a6_4, .int .i64 a6_5, .int .i64 a6_6, .bool a6_7] 44 (0, 0)) (bU7 BK244.out)) : gb244 ≠ gb247)); have n8_ := Aside0.mk ((by rw [hg]; exact Nat.ne_of_gt (blk_lt (g := gb244) (o := .cells #[.int .i64 a6_0, .int .i64 a6_1, .int .i64 a6_2, .int .i64 a6_3, .int .i64 a6_4, .int .i64 a6_5, .int .i64 a6_6, .bool a6_7] 44 (0, 0)) (bU7 BK244.out)) : gb247 ≠ gb244)); clear HO_1; clear HO_52; clear BK244; clear HB; have HO_1 := n0_; have HO_52 := n1_; have BK244 := n2_; have HB := n3_; have BK247 := n4_; have GW247 := n5_; have GE247 := n6_; have NB244_247 := n7_; have NB247_244 := n8_; clear n0_ n1_ n2_ n3_ n4_ n5_ n6_ n7_ n8_; clear hb hbox hg; have hnb24 := NB247_244.out; have hnc24 := NB244_247.out; have hcz25_0 : w23.cell? ⟨gb247, 0, none⟩ = some (.int .i64 0) := (blk_cell BK247.out 0).trans rfl; have hcz25_1 : w23.cell? ⟨gb247, 1, none⟩ = some (.int .i64 0) := (blk_cell BK247.out 1).trans rfl; have hcz25_2 : w23.cell? ⟨gb247, 2, none⟩ = some (.int .i64 0) := (blk_cell BK247.out 2).trans rfl; have hcz25_3 : w23.cell? ⟨gb247, 3, none⟩ = some (.int .i64 0) := (blk_cell BK247.out 3).trans rfl; have hcz25_4 : w23.cell? ⟨gb247, 4, none⟩ = some (.int .i64 0) := (blk_cell BK247.out 4).trans rfl; have hcz25_5 : w23.cell? ⟨gb247, 5, none⟩ = some (.int .i64 0) := (blk_cell BK247.out 5).trans rfl; have hcz25_6 : w23.cell? ⟨gb247, 6, none⟩ = some (.int .i64 0) := (blk_cell BK247.out 6).trans rfl; have hcz25_7 : w23.cell? ⟨gb247, 7, none⟩ = some (.bool false) := (blk_cell BK247.out 7).trans rfl; have hfz25_0 := blk_frozen BK247.out 0; have hfz25_1 := blk_frozen BK247.out 1; have hfz25_2 := blk_frozen BK247.out 2; have hfz25_3 := blk_frozen BK247.out 3; have hfz25_4 := blk_frozen BK247.out 4; have hfz25_5 := blk_frozen BK247.out 5; have hfz25_6 := blk_frozen BK247.out 6; have hfz25_7 := blk_frozen BK247.out 7))
     go_ret
     exact ⟨by first | rfl | (simp [errW_none, errW_some] <;> rfl) | (simp [*, errW_none, errW_some] <;> rfl), by repeat (first | (with_reducible first | exact HB.out | apply below_alloc | apply pw_below_drewN | apply below_drew1 | refine below_set ?_ (Aside0.out (by assumption))) | exact HB.out)⟩
    rw [if_neg c22] at H
    have c22b0 : decide (((rd_T44 l1 x54_1).f4) < (-1099511627776)) = false := decide_eq_false c22
    clear c22
    have H' := Aside0.mk H
    clear H
    have p246 : 0 ≤ (x54_1 : Int) := of_decide_eq_true (by first | (with_reducible assumption) | assumption)
    have q246 : x54_1 < (l1.length : Int) := of_decide_eq_true (by first | (with_reducible assumption) | assumption)
    obtain ⟨ad246, e246, hx246_0, hx246_1, hx246_2, hx246_3, hx246_4, hx246_5, hx246_6, hx246_7⟩ := at_T44 (Kd.V_reads' HO_52.out).2.2 x54_1 p246 q246
    cases e246
    replace p246 := eq_true p246
    replace q246 := eq_true q246
    go_wp2_with (first | ((with_reducible refine gate_dst (N := 16) rfl ?_); refine box_event ?hg (N := 16) ?hd (cs := #[.int .i64 0, .int .i64 0, .int .i64 0, .int .i64 0, .int .i64 0, .int .i64 0, .int .i64 0, .bool false]) (t := 44) ?hr ?_; (case hd => rfl); (case hg => rfl); (case hr => first | (go_simp; done) | (go_simp; rfl)); intro gb247 hg w26 hbox hb; have n0_ := Aside0.mk (Kd.V_below (Kd.V_elderB (vU7 HO_1.out) gb247 (Nat.le_of_eq hg.symm)) hb); have n1_ := Aside0.mk (Kd.V_below (Kd.V_elderB (vU7 HO_52.out) gb247 (Nat.le_of_eq hg.symm)) hb); have n2_ := Aside0.mk (blk_below (g := gb244) (bU7 BK244.out) hb); have n3_ := Aside0.mk (below_step (by repeat (first | (with_reducible first | exact HB.out | apply below_alloc | apply pw_below_drewN | apply below_drew1 | refine below_set ?_ GE244.out) | exact HB.out)) hb); have n4_ := Aside0.mk (hbox); have n5_ := Aside0.mk ((by rw [hg]; exact (below_size (by repeat (first | (with_reducible first | exact HB.out | apply below_alloc | apply pw_below_drewN | apply below_drew1 | refine below_set ?_ GE244.out) | exact HB.out))) : w.heap.size ≤ gb247)); have n6_ := Aside0.mk ((by rw [hg]; exact (below_size (by repeat (first | (with_reducible first | exact HB.out | apply below_alloc | apply pw_below_drewN | apply below_drew1 | refine below_set ?_ GE244.out) | exact HB.out))) : w.heap.size ≤ gb247)); have n7_ := Aside0.mk ((by rw [hg]; exact Nat.ne_of_lt (blk_lt (g := gb244) (o := .cells #[.int .i64 a6_0, .int .i64 a6_1, .int .i64 a6_2, .int .i64 a6_3, .int .i64 a6_4, .int .i64 a6_5, .int .i64 a6_6, .bool a6_7] 44 (0, 0)) (bU7 BK244.out)) : gb244 ≠ gb247)); have n8_ := Aside0.mk ((by rw [hg]; exact Nat.ne_of_gt (blk_lt (g := gb244) (o := .cells #[.int .i64 a6_0, .int .i64 a6_1, .int .i64 a6_2, .int .i64 a6_3, .int .i64 a6_4, .int .i64 a6_5, .int .i64 a6_6, .bool a6_7] 44 (0, 0)) (bU7 BK244.out)) : gb247 ≠ gb244)); clear HO_1; clear HO_52; clear BK244; clear HB; have HO_1 := n0_; have HO_52 := n1_; have BK244 := n2_; have HB := n3_; have BK247 := n4_; have GW247 := n5_; have GE247 := n6_; have NB244_247 := n7_; have NB247_244 := n8_; clear n0_ n1_ n2_ n3_ n4_ n5_ n6_ n7_ n8_; clear hb hbox hg; have hnb27 := NB247_244.out; have hnc27 := NB244_247.out; have hcz28_0 : w26.cell? ⟨gb247, 0, none⟩ = some (.int .i64 0) := (blk_cell BK247.out 0).trans rfl; have hcz28_1 : w26.cell? ⟨gb247, 1, none⟩ = some (.int .i64 0) := (blk_cell BK247.out 1).trans rfl; have hcz28_2 : w26.cell? ⟨gb247, 2, none⟩ = some (.int .i64 0) := (blk_cell BK247.out 2).trans rfl; have hcz28_3 : w26.cell? ⟨gb247, 3, none⟩ = some (.int .i64 0) := (blk_cell BK247.out 3).trans rfl; have hcz28_4 : w26.cell? ⟨gb247, 4, none⟩ = some (.int .i64 0) := (blk_cell BK247.out 4).trans rfl; have hcz28_5 : w26.cell? ⟨gb247, 5, none⟩ = some (.int .i64 0) := (blk_cell BK247.out 5).trans rfl; have hcz28_6 : w26.cell? ⟨gb247, 6, none⟩ = some (.int .i64 0) := (blk_cell BK247.out 6).trans rfl; have hcz28_7 : w26.cell? ⟨gb247, 7, none⟩ = some (.bool false) := (blk_cell BK247.out 7).trans rfl; have hfz28_0 := blk_frozen BK247.out 0; have hfz28_1 := blk_frozen BK247.out 1; have hfz28_2 := blk_frozen BK247.out 2; have hfz28_3 := blk_frozen BK247.out 3; have hfz28_4 := blk_frozen BK247.out 4; have hfz28_5 := blk_frozen BK247.out 5; have hfz28_6 := blk_frozen BK247.out 6; have hfz28_7 := blk_frozen BK247.out 7))
    go_roundg k1
    case measure => have := HK1.out; omega
    case rel => exact ⟨(wrap64 (x54_1 + 1)), (by first | rfl | (simp; done) | (simp [*]; done)), H', ⟨by have := HK1.out; omega⟩, ⟨by (with_reducible repeat (first | apply Kd.V_alloc | apply Kd.V_drewN | apply Kd.V_drew)); exact Kd.V_mono (Kd.V_far (p := ⟨gb247, 7, none⟩) (Kd.V_far (p := ⟨gb247, 6, none⟩) (Kd.V_far (p := ⟨gb247, 5, none⟩) (Kd.V_far (p := ⟨gb247, 4, none⟩) (Kd.V_far (p := ⟨gb247, 3, none⟩) (Kd.V_far (p := ⟨gb247, 2, none⟩) (Kd.V_far (p := ⟨gb247, 1, none⟩) (Kd.V_far (p := ⟨gb247, 0, none⟩) (Kd.V_mono HO_1.out (fun k_ hk => (⟨hk, hk.2⟩ : _ ∧ k_ ≠ gb247))) (fun _ hk => hk.2) (.int .i64 ((rd_T44 l1 x54_1).f0))) (fun _ hk => hk.2) (.int .i64 ((rd_T44 l1 x54_1).f1))) (fun _ hk => hk.2) (.int .i64 ((rd_T44 l1 x54_1).f2))) (fun _ hk => hk.2) (.int .i64 ((rd_T44 l1 x54_1).f3))) (fun _ hk => hk.2) (.int .i64 ((rd_T44 l1 x54_1).f4))) (fun _ hk => hk.2) (.int .i64 ((rd_T44 l1 x54_1).f5))) (fun _ hk => hk.2) (.int .i64 ((rd_T44 l1 x54_1).f6))) (fun _ hk => hk.2) (.bool ((rd_T44 l1 x54_1).f7))) (fun _ hk => ⟨hk.1.1.1, hk.1.1.2⟩)⟩, ⟨by (with_reducible repeat (first | apply Kd.V_alloc | apply Kd.V_drewN | apply Kd.V_drew)); exact Kd.V_mono (Kd.V_far (p := ⟨gb247, 7, none⟩) (Kd.V_far (p := ⟨gb247, 6, none⟩) (Kd.V_far (p := ⟨gb247, 5, none⟩) (Kd.V_far (p := ⟨gb247, 4, none⟩) (Kd.V_far (p := ⟨gb247, 3, none⟩) (Kd.V_far (p := ⟨gb247, 2, none⟩) (Kd.V_far (p := ⟨gb247, 1, none⟩) (Kd.V_far (p := ⟨gb247, 0, none⟩) (Kd.V_mono HO_52.out (fun k_ hk => (⟨hk, hk.2⟩ : _ ∧ k_ ≠ gb247))) (fun _ hk => hk.2) (.int .i64 ((rd_T44 l1 x54_1).f0))) (fun _ hk => hk.2) (.int .i64 ((rd_T44 l1 x54_1).f1))) (fun _ hk => hk.2) (.int .i64 ((rd_T44 l1 x54_1).f2))) (fun _ hk => hk.2) (.int .i64 ((rd_T44 l1 x54_1).f3))) (fun _ hk => hk.2) (.int .i64 ((rd_T44 l1 x54_1).f4))) (fun _ hk => hk.2) (.int .i64 ((rd_T44 l1 x54_1).f5))) (fun _ hk => hk.2) (.int .i64 ((rd_T44 l1 x54_1).f6))) (fun _ hk => hk.2) (.bool ((rd_T44 l1 x54_1).f7))) (fun _ hk => ⟨hk.1.1.1, hk.1.1.2⟩)⟩, ⟨by (with_reducible repeat (first | refine blk_drewN ?_ _ | refine blk_drew ?_ | refine blk_alloc ?_ _)); refine blk_far ?_ NB244_247.out _; (with_reducible repeat (first | refine blk_drewN ?_ _ | refine blk_drew ?_ | refine blk_alloc ?_ _)); refine blk_far ?_ NB244_247.out _; (with_reducible repeat (first | refine blk_drewN ?_ _ | refine blk_drew ?_ | refine blk_alloc ?_ _)); refine blk_far ?_ NB244_247.out _; (with_reducible repeat (first | refine blk_drewN ?_ _ | refine blk_drew ?_ | refine blk_alloc ?_ _)); refine blk_far ?_ NB244_247.out _; (with_reducible repeat (first | refine blk_drewN ?_ _ | refine blk_drew ?_ | refine blk_alloc ?_ _)); refine blk_far ?_ NB244_247.out _; (with_reducible repeat (first | refine blk_drewN ?_ _ | refine blk_drew ?_ | refine blk_alloc ?_ _)); refine blk_far ?_ NB244_247.out _; (with_reducible repeat (first | refine blk_drewN ?_ _ | refine blk_drew ?_ | refine blk_alloc ?_ _)); refine blk_far ?_ NB244_247.out _; (with_reducible repeat (first | refine blk_drewN ?_ _ | refine blk_drew ?_ | refine blk_alloc ?_ _)); refine blk_far ?_ NB244_247.out _; exact bU7 BK244.out⟩, ⟨by repeat (first | (with_reducible first | exact HB.out | apply below_alloc | apply pw_below_drewN | apply below_drew1 | refine below_set ?_ (Aside0.out (by assumption))) | exact HB.out)⟩⟩
   rw [if_neg c15] at H
   have c15b0 : decide (x54_1 < (l1.length : Int)) = false := decide_eq_false c15
   clear c15
   replace H := Option.bind_eq_some_iff.mp H
   obtain ⟨⟨t248, t249⟩, A290, H⟩ := H
   replace H : ((storagebarterplay_Dice_Leases.f t248 t249).bind fun bt251 => ((storagebarterplay_Dice_Pick.f t248 bt251.2 4).bind fun bt255 => ((storagebarterplay_Dice_Pick.f t248 bt255.2 4).bind fun bt257 => ((some (([l1, bt251.1] : List (List (S44))) : List (List (S44)))).bind fun y259 => (storagebarterlaw26_EndingSteps.l1 k1 l1 a2 a3 a4 a5 bt251.1 (wrap64 (1 + bt255.1)) (wrap64 (1 + bt257.1)) y259 (y259.length : Int) 0 a6_0 a6_1 a6_2 a6_3 a6_4 a6_5 a6_6 a6_7 t248 bt257.2))))) = some r := H
   have A29 := Aside0.mk A290
   clear A290
   replace H := Option.bind_eq_some_iff.mp H
   obtain ⟨⟨t251, t254⟩, A300, H⟩ := H
   replace H : ((storagebarterplay_Dice_Pick.f t248 t254 4).bind fun bt255 => ((storagebarterplay_Dice_Pick.f t248 bt255.2 4).bind fun bt257 => ((some (([l1, t251] : List (List (S44))) : List (List (S44)))).bind fun y259 => (storagebarterlaw26_EndingSteps.l1 k1 l1 a2 a3 a4 a5 t251 (wrap64 (1 + bt255.1)) (wrap64 (1 + bt257.1)) y259 (y259.length : Int) 0 a6_0 a6_1 a6_2 a6_3 a6_4 a6_5 a6_6 a6_7 t248 bt257.2)))) = some r := H
   have A30 := Aside0.mk A300
   clear A300
   replace H := Option.bind_eq_some_iff.mp H
   obtain ⟨⟨t255, t256⟩, A310, H⟩ := H
   replace H : ((storagebarterplay_Dice_Pick.f t248 t256 4).bind fun bt257 => ((some (([l1, t251] : List (List (S44))) : List (List (S44)))).bind fun y259 => (storagebarterlaw26_EndingSteps.l1 k1 l1 a2 a3 a4 a5 t251 (wrap64 (1 + t255)) (wrap64 (1 + bt257.1)) y259 (y259.length : Int) 0 a6_0 a6_1 a6_2 a6_3 a6_4 a6_5 a6_6 a6_7 t248 bt257.2))) = some r := H
   have A31 := Aside0.mk A310
   clear A310
   replace H := Option.bind_eq_some_iff.mp H
   obtain ⟨⟨t257, t258⟩, A320, H⟩ := H
   replace H : ((some (([l1, t251] : List (List (S44))) : List (List (S44)))).bind fun y259 => (storagebarterlaw26_EndingSteps.l1 k1 l1 a2 a3 a4 a5 t251 (wrap64 (1 + t255)) (wrap64 (1 + t257)) y259 (y259.length : Int) 0 a6_0 a6_1 a6_2 a6_3 a6_4 a6_5 a6_6 a6_7 t248 t258)) = some r := H
   have A32 := Aside0.mk A320
   clear A320
   obtain ⟨y259, hy259⟩ : ∃ y_ : List (List (S44)), y_ = (([l1, t251] : List (List (S44)))) := ⟨_, rfl⟩
   replace H : (storagebarterlaw26_EndingSteps.l1 k1 l1 a2 a3 a4 a5 t251 (wrap64 (1 + t255)) (wrap64 (1 + t257)) y259 (y259.length : Int) 0 a6_0 a6_1 a6_2 a6_3 a6_4 a6_5 a6_6 a6_7 t248 t258) = some r := by first | (rw [hy259]; with_reducible exact H) | (have H2_ := (Option.bind_some _ _).symm.trans H; rw [hy259]; with_reducible exact H2_) | (have H2_ := (Option.bind_some _ _).symm.trans H; with_reducible exact H2_) | with_reducible exact H | (rw [hy259]; exact H) | exact H
   have Ny259 := Aside0.mk hy259
   clear hy259
   have H' := Aside0.mk H
   clear H
   go_wp2_with (first | ((with_reducible refine gate_callee (f := 16) rfl ?_); refine goesL_ (some 68) rfl rfl Try.func16 (by kernel_rfl) rfl #[.slice A0 l0.length c0] rfl (by (try simp only [List.map_toArray, List.map_cons, List.map_nil]); first | done | rfl | (simp only [List.length_drop, List.length_take]; rfl)) ?_; (with_reducible refine (storagebarterplay_New.calls _ _ l0 t248 t249 w _ ?side1 ?side2 ?side3 A29.out).mono ?_); (case side1 => repeat (first | (with_reducible first | exact HB.out | apply below_alloc | apply pw_below_drewN | apply below_drew1 | refine below_set ?_ GE244.out) | exact HB.out)); (case side2 => exact HR0.out); (case side3 => exact HC0.out); rintro e w33 ⟨g250, rfl, hi, hb, hb2, hgw⟩; refine ⟨_, rfl, ?_⟩; have n0_ := Aside0.mk (Kd.V_below (Kd.V_elderB (vU7 HO_1.out) g250 hgw) hb2); have n1_ := Aside0.mk (Kd.V_below (Kd.V_elderB (vU7 HO_52.out) g250 hgw) hb2); have n2_ := Aside0.mk (blk_below (g := gb244) (bU7 BK244.out) hb2); have n3_ := Aside0.mk (hb); have n4_ := Aside0.mk (hi); have n5_ := Aside0.mk (IsS84.ne_blk hi (blk_below (g := gb244) (bU7 BK244.out) hb2) (by decide)); have n6_ := Aside0.mk (Ne.symm (IsS84.ne_blk hi (blk_below (g := gb244) (bU7 BK244.out) hb2) (by decide))); clear HO_1; clear HO_52; clear BK244; clear HB; have HO_1 := n0_; have HO_52 := n1_; have BK244 := n2_; have HB := n3_; have HI250 := n4_; have NB250_244 := n5_; have NB244_250 := n6_; clear n0_ n1_ n2_ n3_ n4_ n5_ n6_; (try clear hb); (try clear hb2); (try clear hk); (try clear hi); (try clear hgw)) | ((with_reducible refine gate_callee (f := 17) rfl ?_); refine goesL_ (some 70) rfl rfl Try.func17 (by kernel_rfl) rfl #[.pointer (some ⟨g250, 0, none⟩)] rfl (by (try simp only [List.map_toArray, List.map_cons, List.map_nil]); first | done | rfl | (simp only [List.length_drop, List.length_take]; rfl)) ?_; (with_reducible refine (storagebarterplay_Dice_Leases.calls g250 t248 t249 t251 t254 w _ ?side1 ?side2 A30.out).mono ?_); (case side1 => repeat (first | (with_reducible first | exact HI250.out | apply IsS84.alloc | apply IsS84.drewN | apply IsS84.drew | apply IsS84.set_1 | refine IsS84.far ?_ NB250_244.out _) | exact HI250.out)); (case side2 => repeat (first | (with_reducible first | exact HB.out | apply below_alloc | apply pw_below_drewN | apply below_drew1 | refine below_set ?_ (IsS84.ge HI250.out) | refine below_set ?_ GE244.out) | exact HB.out)); rintro e w34 ⟨v252, rfl, ho0, hi, hb, hk⟩; refine ⟨_, rfl, ?_⟩; have n0_ := Aside0.mk (Kd.V_mono (Kd.V_keep (Kd.V_mono (ok := fun k_ => ((((P1_ k_ ∨ w.heap.size ≤ k_)) ∧ k_ ≠ gb244) ∧ k_ ≠ g250)) (vU7 HO_1.out) (fun k_ hk_ => (⟨hk_, hk_.2⟩ : _ ∧ k_ ≠ g250))) hk (fun _ h => h.2)) (fun _ h => h.1)); have n1_ := Aside0.mk (Kd.V_mono (Kd.V_keep (Kd.V_mono (ok := fun k_ => ((((P1_ k_ ∨ w.heap.size ≤ k_)) ∧ k_ ≠ gb244) ∧ k_ ≠ g250)) (vU7 HO_52.out) (fun k_ hk_ => (⟨hk_, hk_.2⟩ : _ ∧ k_ ≠ g250))) hk (fun _ h => h.2)) (fun _ h => h.1)); have n2_ := Aside0.mk (KeepBut.blk hk (g' := gb244) (o := .cells #[.int .i64 a6_0, .int .i64 a6_1, .int .i64 a6_2, .int .i64 a6_3, .int .i64 a6_4, .int .i64 a6_5, .int .i64 a6_6, .bool a6_7] 44 (0, 0)) (bU7 BK244.out) NB244_250.out (by simp)); have n3_ := Aside0.mk (Kd.V_lower (Kd.V_mono (ok' := fun k_ => (P1_ k_ ∨ w.heap.size ≤ k_) ∧ k_ ≠ gb244 ∧ k_ ≠ g250) (Kd.R_V (Kd.R_bound ho0)) (fun k_ hk_ => ⟨(.inr (Nat.le_trans (below_size (by repeat (first | (with_reducible first | exact HB.out | apply below_alloc | apply pw_below_drewN | apply below_drew1 | refine below_set ?_ (IsS84.ge HI250.out) | refine below_set ?_ GE244.out) | exact HB.out))) hk_.2.1)), (Kd.freshB (g := gb244) (o := .cells #[.int .i64 a6_0, .int .i64 a6_1, .int .i64 a6_2, .int .i64 a6_3, .int .i64 a6_4, .int .i64 a6_5, .int .i64 a6_6, .bool a6_7] 44 (0, 0)) (bU7 BK244.out) k_ hk_.2.1), (IsS84.fresh (by repeat (first | (with_reducible first | exact HI250.out | apply IsS84.alloc | apply IsS84.drewN | apply IsS84.drew | apply IsS84.set_1 | refine IsS84.far ?_ NB250_244.out _) | exact HI250.out)) k_ hk_.2.1)⟩)) (below_size (by repeat (first | (with_reducible first | exact HB.out | apply below_alloc | apply pw_below_drewN | apply below_drew1 | refine below_set ?_ (IsS84.ge HI250.out) | refine below_set ?_ GE244.out) | exact HB.out)))); have n4_ := Aside0.mk (hb); have n5_ := Aside0.mk (hi); clear HO_1; clear HO_52; clear BK244; clear HB; clear HI250; have HO_1 := n0_; have HO_52 := n1_; have BK244 := n2_; have HO253 := n3_; have HB := n4_; have HI250 := n5_; clear n0_ n1_ n2_ n3_ n4_ n5_; (try clear hb); (try clear hb2); (try clear hk); (try clear hi); (try clear hgw); (try clear ho0)) | ((with_reducible refine gate_callee (f := 18) rfl ?_); refine goesL_ (some 72) rfl rfl Try.func18 (by kernel_rfl) rfl #[.pointer (some ⟨g250, 0, none⟩), .int .i64 4] rfl (by (try simp only [List.map_toArray, List.map_cons, List.map_nil]); first | done | rfl | (simp only [List.length_drop, List.length_take]; rfl)) ?_; (with_reducible refine (storagebarterplay_Dice_Pick.calls g250 t248 t254 4 t255 t256 w _ ?side1 ?side2 A31.out).mono ?_); (case side1 => repeat (first | (with_reducible first | exact HI250.out | apply IsS84.alloc | apply IsS84.drewN | apply IsS84.drew | apply IsS84.set_1 | refine IsS84.far ?_ NB250_244.out _) | exact HI250.out)); (case side2 => repeat (first | (with_reducible first | exact HB.out | apply below_alloc | apply pw_below_drewN | apply below_drew1 | refine below_set ?_ (IsS84.ge HI250.out) | refine below_set ?_ GE244.out) | exact HB.out)); rintro e w35 ⟨rfl, hi, hb, hk⟩; refine ⟨_, rfl, ?_⟩; have n0_ := Aside0.mk (Kd.V_mono (Kd.V_keep (Kd.V_mono (ok := fun k_ => ((((P1_ k_ ∨ w.heap.size ≤ k_)) ∧ k_ ≠ gb244) ∧ k_ ≠ g250)) (vU7 HO_1.out) (fun k_ hk_ => (⟨hk_, hk_.2⟩ : _ ∧ k_ ≠ g250))) hk (fun _ h => h.2)) (fun _ h => h.1)); have n1_ := Aside0.mk (Kd.V_mono (Kd.V_keep (Kd.V_mono (ok := fun k_ => ((((P1_ k_ ∨ w.heap.size ≤ k_)) ∧ k_ ≠ gb244) ∧ k_ ≠ g250)) (vU7 HO_52.out) (fun k_ hk_ => (⟨hk_, hk_.2⟩ : _ ∧ k_ ≠ g250))) hk (fun _ h => h.2)) (fun _ h => h.1)); have n2_ := Aside0.mk (KeepBut.blk hk (g' := gb244) (o := .cells #[.int .i64 a6_0, .int .i64 a6_1, .int .i64 a6_2, .int .i64 a6_3, .int .i64 a6_4, .int .i64 a6_5, .int .i64 a6_6, .bool a6_7] 44 (0, 0)) (bU7 BK244.out) NB244_250.out (by simp)); have n3_ := Aside0.mk (Kd.V_mono (Kd.V_keep (Kd.V_mono (ok := fun k_ => (((P1_ k_ ∨ w.heap.size ≤ k_)) ∧ (k_ ≠ gb244 ∧ k_ ≠ g250))) (vU7 HO253.out) (fun k_ hk_ => (⟨hk_, hk_.2.2⟩ : _ ∧ k_ ≠ g250))) hk (fun _ h => h.2)) (fun _ h => h.1)); have n4_ := Aside0.mk (hb); have n5_ := Aside0.mk (hi); clear HO_1; clear HO_52; clear BK244; clear HO253; clear HB; clear HI250; have HO_1 := n0_; have HO_52 := n1_; have BK244 := n2_; have HO253 := n3_; have HB := n4_; have HI250 := n5_; clear n0_ n1_ n2_ n3_ n4_ n5_; (try clear hb); (try clear hb2); (try clear hk); (try clear hi); (try clear hgw)) | ((with_reducible refine gate_callee (f := 18) rfl ?_); refine goesL_ (some 75) rfl rfl Try.func18 (by kernel_rfl) rfl #[.pointer (some ⟨g250, 0, none⟩), .int .i64 4] rfl (by (try simp only [List.map_toArray, List.map_cons, List.map_nil]); first | done | rfl | (simp only [List.length_drop, List.length_take]; rfl)) ?_; (with_reducible refine (storagebarterplay_Dice_Pick.calls g250 t248 t256 4 t257 t258 w _ ?side1 ?side2 A32.out).mono ?_); (case side1 => repeat (first | (with_reducible first | exact HI250.out | apply IsS84.alloc | apply IsS84.drewN | apply IsS84.drew | apply IsS84.set_1 | refine IsS84.far ?_ NB250_244.out _) | exact HI250.out)); (case side2 => repeat (first | (with_reducible first | exact HB.out | apply below_alloc | apply pw_below_drewN | apply below_drew1 | refine below_set ?_ (IsS84.ge HI250.out) | refine below_set ?_ GE244.out) | exact HB.out)); rintro e w36 ⟨rfl, hi, hb, hk⟩; refine ⟨_, rfl, ?_⟩; have n0_ := Aside0.mk (Kd.V_mono (Kd.V_keep (Kd.V_mono (ok := fun k_ => ((((P1_ k_ ∨ w.heap.size ≤ k_)) ∧ k_ ≠ gb244) ∧ k_ ≠ g250)) (vU7 HO_1.out) (fun k_ hk_ => (⟨hk_, hk_.2⟩ : _ ∧ k_ ≠ g250))) hk (fun _ h => h.2)) (fun _ h => h.1)); have n1_ := Aside0.mk (Kd.V_mono (Kd.V_keep (Kd.V_mono (ok := fun k_ => ((((P1_ k_ ∨ w.heap.size ≤ k_)) ∧ k_ ≠ gb244) ∧ k_ ≠ g250)) (vU7 HO_52.out) (fun k_ hk_ => (⟨hk_, hk_.2⟩ : _ ∧ k_ ≠ g250))) hk (fun _ h => h.2)) (fun _ h => h.1)); have n2_ := Aside0.mk (KeepBut.blk hk (g' := gb244) (o := .cells #[.int .i64 a6_0, .int .i64 a6_1, .int .i64 a6_2, .int .i64 a6_3, .int .i64 a6_4, .int .i64 a6_5, .int .i64 a6_6, .bool a6_7] 44 (0, 0)) (bU7 BK244.out) NB244_250.out (by simp)); have n3_ := Aside0.mk (Kd.V_mono (Kd.V_keep (Kd.V_mono (ok := fun k_ => (((P1_ k_ ∨ w.heap.size ≤ k_)) ∧ (k_ ≠ gb244 ∧ k_ ≠ g250))) (vU7 HO253.out) (fun k_ hk_ => (⟨hk_, hk_.2.2⟩ : _ ∧ k_ ≠ g250))) hk (fun _ h => h.2)) (fun _ h => h.1)); have n4_ := Aside0.mk (hb); have n5_ := Aside0.mk (hi); clear HO_1; clear HO_52; clear BK244; clear HO253; clear HB; clear HI250; have HO_1 := n0_; have HO_52 := n1_; have BK244 := n2_; have HO253 := n3_; have HB := n4_; have HI250 := n5_; clear n0_ n1_ n2_ n3_ n4_ n5_; (try clear hb); (try clear hb2); (try clear hk); (try clear hi); (try clear hgw); obtain ⟨Ao37, co37, eo37⟩ := Kd.V_slice HO253.out; subst eo37) | ((with_reducible refine gate_dst (N := 79) rfl ?_); have q_1 := Aside0.mk (Kd.V_mono (ok' := (fun k_ => (P1_ k_ ∨ w.heap.size ≤ k_) ∧ k_ ≠ gb244 ∧ k_ ≠ g250)) (HO_1.out) (fun k_ hk => ⟨hk.1.1, ⟨hk.1.2, hk.2⟩⟩)); have q_0 := Aside0.mk (Kd.V_mono (ok' := (fun k_ => (P1_ k_ ∨ w.heap.size ≤ k_) ∧ k_ ≠ gb244 ∧ k_ ≠ g250)) (HO253.out) (fun k_ hk => ⟨hk.1, ⟨hk.2.1, hk.2.2⟩⟩)); refine Kd.N_lit (Kd.slice 44 k44) _ 26 ?hg (N' := 79) ?hd (xs := ([l1, t251] : List (List (S44)))) (inner := [.slice A1 l1.length c1, .slice Ao37 t251.length co37]) (ok := (fun k_ => (P1_ k_ ∨ w.heap.size ≤ k_) ∧ k_ ≠ gb244 ∧ k_ ≠ g250)) (okp := (fun k_ => (P1_ k_ ∨ w.heap.size ≤ k_) ∧ k_ ≠ gb244 ∧ k_ ≠ g250)) ?hr ?hp (fun _ hk => hk) ((show ∀ k_, w36.heap.size ≤ k_ → (fun k_ => (P1_ k_ ∨ w.heap.size ≤ k_) ∧ k_ ≠ gb244 ∧ k_ ≠ g250) k_ from fun k_ hk => ⟨(.inr (Nat.le_trans (below_size (by repeat (first | (with_reducible first | exact HB.out | apply below_alloc | apply pw_below_drewN | apply below_drew1 | refine below_set ?_ (IsS84.ge HI250.out) | refine below_set ?_ GE244.out) | exact HB.out))) hk)), Kd.freshB (g := gb244) (o := .cells #[.int .i64 a6_0, .int .i64 a6_1, .int .i64 a6_2, .int .i64 a6_3, .int .i64 a6_4, .int .i64 a6_5, .int .i64 a6_6, .bool a6_7] 44 (0, 0)) (bU7 BK244.out) k_ hk, IsS84.fresh (by repeat (first | (with_reducible first | exact HI250.out | apply IsS84.alloc | apply IsS84.drewN | apply IsS84.drew | apply IsS84.set_1 | refine IsS84.far ?_ NB250_244.out _) | exact HI250.out)) k_ hk⟩) _ (Nat.le_refl _)) (Below.refl _ _) (Nat.le_refl _) (by simp) ?_; (case hd => rfl); (case hg => rfl); (case hr => first | (go_simp; done) | (go_simp; rfl)); (case hp => exact (Reps.one (show Kd.FK (Kd.slice 44 k44) _ _ l1 [.slice A1 l1.length c1] from (Kd.FK_slice_mk (Kd.V_reads' q_1.out).2.1 (Kd.V_F q_1.out))) (Reps.one (show Kd.FK (Kd.slice 44 k44) _ _ t251 [.slice Ao37 t251.length co37] from (Kd.FK_slice_mk (Kd.V_reads' q_0.out).2.1 (Kd.V_F q_0.out))) (Reps.none _ _)))); intro v260 w38 ho39 hb hg_ hnew_; clear q_1 q_0; clear hg_ hnew_; (first | rw [← Ny259.out] at ho39 | (simp only [Int.reduceToNat] at ho39; rw [← Ny259.out] at ho39)); have n0_ := Aside0.mk (Kd.V_elder' (vU7 HO_1.out) (Kd.N_base ho39) hb); have n1_ := Aside0.mk (Kd.V_elder' (vU7 HO_52.out) (Kd.N_base ho39) hb); have n2_ := Aside0.mk (Kd.V_elder' (vU7 HO253.out) (Kd.N_base ho39) hb); have n3_ := Aside0.mk (Kd.N_lower ho39 (below_size (by repeat (first | (with_reducible first | exact HB.out | apply below_alloc | apply pw_below_drewN | apply below_drew1 | refine below_set ?_ (IsS84.ge HI250.out) | refine below_set ?_ GE244.out) | exact HB.out)))); have n4_ := Aside0.mk (blk_below (g := gb244) (bU7 BK244.out) hb); have n5_ := Aside0.mk (IsS84.below (by repeat (first | (with_reducible first | exact HI250.out | apply IsS84.alloc | apply IsS84.drewN | apply IsS84.drew | apply IsS84.set_1 | refine IsS84.far ?_ NB250_244.out _) | exact HI250.out)) hb); have n6_ := Aside0.mk (below_step (by repeat (first | (with_reducible first | exact HB.out | apply below_alloc | apply pw_below_drewN | apply below_drew1 | refine below_set ?_ (IsS84.ge HI250.out) | refine below_set ?_ GE244.out) | exact HB.out)) hb); clear HO_1; clear HO_52; clear HO253; clear BK244; clear HI250; clear HB; have HO_1 := n0_; have HO_52 := n1_; have HO253 := n2_; have HO261 := n3_; have BK244 := n4_; have HI250 := n5_; have HB := n6_; clear n0_ n1_ n2_ n3_ n4_ n5_ n6_; clear hb ho39; obtain ⟨Ao40, co40, eo40⟩ := Kd.N_slice HO261.out; subst eo40))
   go_loopg [81] k1 (fun kq v81 w' => ∃ (x81_2 : Int) (ba0 : Int), v81 = .int .i64 x81_2 ∧ Aside0 (storagebarterlaw26_EndingSteps.l1 kq l1 a2 a3 a4 a5 t251 (wrap64 (1 + t255)) (wrap64 (1 + t257)) y259 (y259.length : Int) x81_2 a6_0 a6_1 a6_2 a6_3 a6_4 a6_5 a6_6 a6_7 t248 ba0 = some r) ∧ Aside0 (kq ≤ k1) ∧ Aside0 (Kd.V k44 44 w' w.heap.size (fun k_ => (P1_ k_ ∨ w.heap.size ≤ k_) ∧ some k_ ≠ ((.slice Ao40 y259.length co40) : Value).ownBlock ∧ k_ ≠ gb244 ∧ k_ ≠ g250) (.slice A1 l1.length c1) l1) ∧ Aside0 (Kd.V k44 44 w' w.heap.size (fun k_ => (P1_ k_ ∨ w.heap.size ≤ k_) ∧ some k_ ≠ ((.slice Ao40 y259.length co40) : Value).ownBlock ∧ k_ ≠ gb244 ∧ k_ ≠ g250) (.slice Ao37 t251.length co37) t251) ∧ Aside0 (Kd.N (Kd.slice 44 k44) 26 w' w.heap.size (fun k_ => (P1_ k_ ∨ w.heap.size ≤ k_) ∧ k_ ≠ gb244 ∧ k_ ≠ g250) (.slice Ao40 y259.length co40) y259) ∧ Aside0 (w'.heap[gb244]? = some (.cells #[.int .i64 a6_0, .int .i64 a6_1, .int .i64 a6_2, .int .i64 a6_3, .int .i64 a6_4, .int .i64 a6_5, .int .i64 a6_6, .bool a6_7] 44 (0, 0))) ∧ Aside0 (IsS84 w w' g250 t248 ba0) ∧ Aside0 (Below w.heap.size w w'))
   case atStart => exact ⟨(0), (t258), (by first | rfl | (simp; done) | (simp [*]; done)), H', ⟨Nat.le_refl _⟩, ⟨by (with_reducible repeat (first | apply Kd.V_alloc | apply Kd.V_drewN | apply Kd.V_drew)); exact Kd.V_mono HO_1.out (fun _ hk => ⟨hk.1.1.1, ⟨hk.2, ⟨hk.1.1.2, hk.1.2⟩⟩⟩)⟩, ⟨by (with_reducible repeat (first | apply Kd.V_alloc | apply Kd.V_drewN | apply Kd.V_drew)); exact Kd.V_mono HO253.out (fun _ hk => ⟨hk.1.1, ⟨hk.2, ⟨hk.1.2.1, hk.1.2.2⟩⟩⟩)⟩, ⟨by (with_reducible repeat (first | apply Kd.N_alloc | apply Kd.N_drewN | apply Kd.N_drew)); exact HO261.out⟩, ⟨by exact bU7 BK244.out⟩, ⟨by repeat (first | (with_reducible first | exact HI250.out | apply IsS84.alloc | apply IsS84.drewN | apply IsS84.drew | apply IsS84.set_1 | refine IsS84.far ?_ NB250_244.out _) | exact HI250.out)⟩, ⟨by repeat (first | (with_reducible first | exact HB.out | apply below_alloc | apply pw_below_drewN | apply below_drew1 | refine below_set ?_ (IsS84.ge HI250.out) | refine below_set ?_ GE244.out) | exact HB.out)⟩⟩
   case round =>
    clear H'
    try clear c1
    try clear c2
    try clear p2
    try clear q2
    try clear hx2
    try clear p6
    try clear c7
    try clear c9
    try clear c10
    try clear c10b0
    try clear c10b1
    try clear c15
    try clear c15b0
    try clear c16
    try clear c16b0
    try clear c17
    try clear c17b0
    try clear c18
    try clear c18b0
    try clear c20
    try clear c22
    try clear c22b0
    try clear c24
    try clear p24
    try clear q24
    try clear hx24
    try clear c27
    try clear hcz21_0
    try clear hcz21_1
    try clear hcz21_2
    try clear hcz21_3
    try clear hcz21_4
    try clear hcz21_5
    try clear hcz21_6
    try clear hcz21_7
    try clear hcz25_0
    try clear hcz25_1
    try clear hcz25_2
    try clear hcz25_3
    try clear hcz25_4
    try clear hcz25_5
    try clear hcz25_6
    try clear hcz25_7
    try clear hcz28_0
    try clear hcz28_1
    try clear hcz28_2
    try clear hcz28_3
    try clear hcz28_4
    try clear hcz28_5
    try clear hcz28_6
    try clear hcz28_7
    try clear hfz21_0
    try clear hfz21_1
    try clear hfz21_2
    try clear hfz21_3
    try clear hfz21_4
    try clear hfz21_5
    try clear hfz21_6
    try clear hfz21_7
    try clear hfz25_0
    try clear hfz25_1
    try clear hfz25_2
    try clear hfz25_3
    try clear hfz25_4
    try clear hfz25_5
    try clear hfz25_6
    try clear hfz25_7
    try clear hfz28_0
    try clear hfz28_1
    try clear hfz28_2
    try clear hfz28_3
    try clear hfz28_4
    try clear hfz28_5
    try clear hfz28_6
    try clear hfz28_7
    try clear hx246_0
    try clear hx246_1
    try clear hx246_2
    try clear hx246_3
    try clear hx246_4
    try clear hx246_5
    try clear hx246_6
    try clear hx246_7
    try clear p2
    try clear p246
    try clear q246
    obtain ⟨x81_2, ba0, rfl, HA, HK2, HO_1, HO_18, HO_79, BK244, HI250, HB⟩ := hrel
    cases gk with
    | zero => exact absurd HA.out (by simp [storagebarterlaw26_EndingSteps.l1])
    | succ k2 =>
     have H := HA.out
     clear HA
     simp only [storagebarterlaw26_EndingSteps.l1] at H
     by_cases c41 : x81_2 < (y259.length : Int)
     case neg =>
      rw [if_neg c41] at H
      have c41b0 : decide (x81_2 < (y259.length : Int)) = false := decide_eq_false c41
      clear c41
      replace H := Option.bind_eq_some_iff.mp H
      obtain ⟨t262, A2160, H⟩ := H
      replace H : ((storagebarterref26_Same.f k2 l1 t251).bind fun t263 => (some (t262 == t263))) = some r := H
      have A216 := Aside0.mk A2160
      clear A2160
      replace H := Option.bind_eq_some_iff.mp H
      obtain ⟨t263, A2170, H⟩ := H
      replace H : (some (t262 == t263)) = some r := H
      have A217 := Aside0.mk A2170
      clear A2170
      obtain rfl := Option.some.inj H
      go_wp2_with (first | ((with_reducible refine gate_callee (f := 34) rfl ?_); refine goesL_ (some 273) rfl rfl Try.func34 (by kernel_rfl) rfl #[.slice A1 l1.length c1, .slice Ao37 t251.length co37] rfl (by (try simp only [List.map_toArray, List.map_cons, List.map_nil]); first | done | rfl | (simp only [List.length_drop, List.length_take]; rfl)) ?_; (with_reducible refine (ending_Same.calls k2 _ _ l1 _ _ t251 t262 _ ?side1 ?side2 ?side3 ?side4 A216.out).mono ?_); (case side1 => first | exact (Kd.V_reads' HO_1.out).2.2 | exact cU7 (Kd.V_reads' HO_1.out).2.2); (case side2 => exact (Kd.V_reads' HO_1.out).2.1); (case side3 => first | exact (Kd.V_reads' HO_18.out).2.2 | exact cU7 (Kd.V_reads' HO_18.out).2.2); (case side4 => exact (Kd.V_reads' HO_18.out).2.1); rintro e w' ⟨rfl, ⟨nd, rfl⟩⟩; refine ⟨_, rfl, ?_⟩) | ((with_reducible refine gate_callee (f := 22) rfl ?_); refine goesL_ (some 276) rfl rfl Try.func22 (by kernel_rfl) rfl #[.slice A1 l1.length c1, .slice Ao37 t251.length co37] rfl (by (try simp only [List.map_toArray, List.map_cons, List.map_nil]); first | done | rfl | (simp only [List.length_drop, List.length_take]; rfl)) ?_; (with_reducible refine (storagebarterref26_Same.calls k2 _ _ l1 _ _ t251 t263 _ ?side1 ?side2 ?side3 ?side4 A217.out).mono ?_); (case side1 => first | exact (Kd.V_reads' HO_1.out).2.2 | exact cU7 (Kd.V_reads' HO_1.out).2.2); (case side2 => exact (Kd.V_reads' HO_1.out).2.1); (case side3 => first | exact (Kd.V_reads' HO_18.out).2.2 | exact cU7 (Kd.V_reads' HO_18.out).2.2); (case side4 => exact (Kd.V_reads' HO_18.out).2.1); rintro e w' ⟨rfl, ⟨nd, rfl⟩⟩; refine ⟨_, rfl, ?_⟩))
      go_ret
      exact ⟨by first | rfl | (simp [errW_none, errW_some] <;> rfl) | (simp [*, errW_none, errW_some] <;> rfl), by repeat (first | (with_reducible first | exact HB.out | apply below_alloc | apply pw_below_drewN | apply below_drew1 | refine below_set ?_ (IsS84.ge HI250.out) | refine below_set ?_ GE244.out) | exact HB.out)⟩
     rw [if_pos c41] at H
     have c41b0 : decide (x81_2 < (y259.length : Int)) = true := decide_eq_true c41
     clear c41
     by_cases c42 : 0 ≤ x81_2
     case neg =>
      rw [if_neg c42] at H
      exact absurd H (by simp)
     rw [if_pos c42] at H
     have c42b0 : decide (0 ≤ x81_2) = true := decide_eq_true c42
     clear c42
     by_cases c43 : x81_2 < (y259.length : Int)
     case neg =>
      rw [if_neg c43] at H
      exact absurd H (by simp)
     rw [if_pos c43] at H
     have c43b0 : decide (x81_2 < (y259.length : Int)) = true := decide_eq_true c43
     clear c43
     obtain ⟨y266, hy266⟩ : ∃ y_ : List (S49), y_ = (([(⟨a2, a3⟩ : S49), (⟨(wrap64 (1 + t255)), (wrap64 (1 + t257))⟩ : S49), (⟨(wrap64 (1 + t255)), (wrap64 (1 + t255))⟩ : S49)] : List (S49))) := ⟨_, rfl⟩
     replace H : (storagebarterlaw26_EndingSteps.l2 k2 l1 a2 a3 a4 a5 t251 (wrap64 (1 + t255)) (wrap64 (1 + t257)) (rd_L3 y259 x81_2) y259 (y259.length : Int) x81_2 y266 (y266.length : Int) 0 a6_0 a6_1 a6_2 a6_3 a6_4 a6_5 a6_6 a6_7 t248 ba0) = some r := by first | (rw [hy266]; with_reducible exact H) | (have H2_ := (Option.bind_some _ _).symm.trans H; rw [hy266]; with_reducible exact H2_) | (have H2_ := (Option.bind_some _ _).symm.trans H; with_reducible exact H2_) | with_reducible exact H | (rw [hy266]; exact H) | exact H
     have Ny266 := Aside0.mk hy266
     clear hy266
     have H' := Aside0.mk H
     clear H
     have p264 : 0 ≤ (x81_2 : Int) := of_decide_eq_true (by first | (with_reducible assumption) | assumption)
     have q264 : x81_2 < (y259.length : Int) := of_decide_eq_true (by first | (with_reducible assumption) | assumption)
     obtain ⟨ad264, ba2, c264_0, e264, hx264_0, hl264_0, hi264_0⟩ := at_L3 (Kd.N_reads' HO_79.out).2.2 x81_2 p264 q264
     cases e264
     obtain ⟨ce264, hce264, hMe264, hcc264⟩ := Kd.N_get HO_79.out [] x81_2 p264 (by first | exact q264 | exact of_decide_eq_true (by first | (with_reducible assumption) | assumption) | (have e_ := (Kd.N_reads' HO_79.out).1; omega))
     obtain ⟨ua264_0, uc264_0, rfl, ul264_0, ge264_0⟩ := Kd.FK_slice_open hMe264
     have hv264_0 := hcc264 0 _ rfl
     rw [Nat.add_zero, show ((Kd.slice 44 k44)).sz = 1 from rfl, Nat.mul_one] at hv264_0
     replace hv264_0 := Option.some.inj (hv264_0.symm.trans hx264_0)
     injection hv264_0 with hva_ hvn_ hvc_
     rw [hva_] at ge264_0
     rw [hvc_] at ul264_0
     have HL264_0 := Aside0.mk (show Kd.V k44 44 _ w.heap.size _ _ (rd_L3 y259 x81_2) from Kd.V_mk ul264_0 ge264_0)
     clear hva_ hvn_ hvc_ ge264_0 ul264_0
     clear hcc264 hce264
     have HR264_0 := Aside0.mk hi264_0
     have HC264_0 := Aside0.mk hl264_0
     clear hi264_0 hl264_0
     replace p264 := eq_true p264
     replace q264 := eq_true q264
     have HO265 := Aside0.mk (show Kd.V k44 44 _ w.heap.size _ (.slice ba2 (rd_L3 y259 x81_2).length c264_0) (rd_L3 y259 x81_2) from HL264_0.out)
     go_wp2_with (first | ((with_reducible refine gate_dst (N := 94) rfl ?_); refine Kd.R_lit k49 _ 49 ?hg (N := 94) ?hd (xs := ([(⟨a2, a3⟩ : S49), (⟨(wrap64 (1 + t255)), (wrap64 (1 + t257))⟩ : S49), (⟨(wrap64 (1 + t255)), (wrap64 (1 + t255))⟩ : S49)] : List (S49))) (inner := [.int .i64 a2, .int .i64 a3, .int .i64 (wrap64 (1 + t255)), .int .i64 (wrap64 (1 + t257)), .int .i64 (wrap64 (1 + t255)), .int .i64 (wrap64 (1 + t255))]) (ok := fun _ => True) (okp := fun _ => True) ?hr ?hp (fun _ hk => hk) trivial (Below.refl _ _) (Nat.le_refl _) (by simp) ?_; (case hd => rfl); (case hg => rfl); (case hr => first | (go_simp; done) | (go_simp; rfl)); (case hp => exact (Reps.c2 (show Kd.M k49 _ _ _ (⟨a2, a3⟩ : S49) [.int .i64 a2, .int .i64 a3] from (k49_mkM _ _ _ (⟨a2, a3⟩ : S49) )) (Reps.c2 (show Kd.M k49 _ _ _ (⟨(wrap64 (1 + t255)), (wrap64 (1 + t257))⟩ : S49) [.int .i64 (wrap64 (1 + t255)), .int .i64 (wrap64 (1 + t257))] from (k49_mkM _ _ _ (⟨(wrap64 (1 + t255)), (wrap64 (1 + t257))⟩ : S49) )) (Reps.c2 (show Kd.M k49 _ _ _ (⟨(wrap64 (1 + t255)), (wrap64 (1 + t255))⟩ : S49) [.int .i64 (wrap64 (1 + t255)), .int .i64 (wrap64 (1 + t255))] from (k49_mkM _ _ _ (⟨(wrap64 (1 + t255)), (wrap64 (1 + t255))⟩ : S49) )) (Reps.none _ _))))); intro v267 w44 ho45 hb hg_ hnew_; clear hg_ hnew_; (first | rw [← Ny266.out] at ho45 | (simp only [Int.reduceToNat] at ho45; rw [← Ny266.out] at ho45)); have n0_ := Aside0.mk (Kd.V_elder' (vU7 HO_1.out) (Kd.R_base ho45) hb); have n1_ := Aside0.mk (Kd.V_elder' (vU7 HO_18.out) (Kd.R_base ho45) hb); have n2_ := Aside0.mk (Kd.N_elder' (nU7 HO_79.out) (Kd.R_base ho45) hb); have n3_ := Aside0.mk (Kd.V_elder' (vU7 HL264_0.out) (Kd.R_base ho45) hb); have n4_ := Aside0.mk (Kd.V_elder' (vU7 HO265.out) (Kd.R_base ho45) hb); have n5_ := Aside0.mk (Kd.R_lower (Kd.R_newM (M := fun k_ => (w.heap.size ≤ k_)) ho45 (below_size (by repeat (first | (with_reducible first | exact HB.out | apply below_alloc | apply pw_below_drewN | apply below_drew1 | refine below_set ?_ (IsS84.ge HI250.out) | refine below_set ?_ GE244.out) | exact HB.out))) (fun k_ h_ => h_)) (below_size (by repeat (first | (with_reducible first | exact HB.out | apply below_alloc | apply pw_below_drewN | apply below_drew1 | refine below_set ?_ (IsS84.ge HI250.out) | refine below_set ?_ GE244.out) | exact HB.out)))); have n6_ := Aside0.mk (blk_below (g := gb244) (bU7 BK244.out) hb); have n7_ := Aside0.mk (IsS84.below (by repeat (first | (with_reducible first | exact HI250.out | apply IsS84.alloc | apply IsS84.drewN | apply IsS84.drew | apply IsS84.set_1 | refine IsS84.far ?_ NB250_244.out _) | exact HI250.out)) hb); have n8_ := Aside0.mk (Kd.C_below (cU7 HR264_0.out) hb); have n9_ := Aside0.mk (below_step (by repeat (first | (with_reducible first | exact HB.out | apply below_alloc | apply pw_below_drewN | apply below_drew1 | refine below_set ?_ (IsS84.ge HI250.out) | refine below_set ?_ GE244.out) | exact HB.out)) hb); clear HO_1; clear HO_18; clear HO_79; clear HL264_0; clear HO265; clear BK244; clear HI250; clear HR264_0; clear HB; have HO_1 := n0_; have HO_18 := n1_; have HO_79 := n2_; have HL264_0 := n3_; have HO265 := n4_; have HO268 := n5_; have BK244 := n6_; have HI250 := n7_; have HR264_0 := n8_; have HB := n9_; clear n0_ n1_ n2_ n3_ n4_ n5_ n6_ n7_ n8_ n9_; clear hb ho45; obtain ⟨Ao46, co46, eo46⟩ := Kd.R_slice HO268.out; subst eo46))
     go_loopg [96] k2 (fun kq v96 w' => ∃ (x96_3 : Int), v96 = .int .i64 x96_3 ∧ Aside0 (storagebarterlaw26_EndingSteps.l2 kq l1 a2 a3 a4 a5 t251 (wrap64 (1 + t255)) (wrap64 (1 + t257)) (rd_L3 y259 x81_2) y259 (y259.length : Int) x81_2 y266 (y266.length : Int) x96_3 a6_0 a6_1 a6_2 a6_3 a6_4 a6_5 a6_6 a6_7 t248 ba0 = some r) ∧ Aside0 (kq ≤ k2) ∧ Aside0 (Kd.V k44 44 w' w.heap.size (fun k_ => (P1_ k_ ∨ w.heap.size ≤ k_) ∧ some k_ ≠ ((.slice (some ad264) y259.length co40) : Value).ownBlock ∧ some k_ ≠ ((.slice Ao46 y266.length co46) : Value).ownBlock ∧ k_ ≠ gb244 ∧ k_ ≠ g250) (.slice A1 l1.length c1) l1) ∧ Aside0 (Kd.V k44 44 w' w.heap.size (fun k_ => (P1_ k_ ∨ w.heap.size ≤ k_) ∧ some k_ ≠ ((.slice (some ad264) y259.length co40) : Value).ownBlock ∧ some k_ ≠ ((.slice Ao46 y266.length co46) : Value).ownBlock ∧ k_ ≠ gb244 ∧ k_ ≠ g250) (.slice Ao37 t251.length co37) t251) ∧ Aside0 (Kd.V k44 44 w' w.heap.size (fun k_ => (P1_ k_ ∨ w.heap.size ≤ k_) ∧ some k_ ≠ ((.slice (some ad264) y259.length co40) : Value).ownBlock ∧ some k_ ≠ ((.slice Ao46 y266.length co46) : Value).ownBlock ∧ k_ ≠ gb244 ∧ k_ ≠ g250) (.slice ba2 (rd_L3 y259 x81_2).length c264_0) (rd_L3 y259 x81_2)) ∧ Aside0 (Kd.N (Kd.slice 44 k44) 26 w' w.heap.size (fun k_ => (P1_ k_ ∨ w.heap.size ≤ k_) ∧ some k_ ≠ ((.slice Ao46 y266.length co46) : Value).ownBlock ∧ k_ ≠ gb244 ∧ k_ ≠ g250) (.slice (some ad264) y259.length co40) y259) ∧ Aside0 (Kd.R k49 49 w' w.heap.size (fun k_ => (w.heap.size ≤ k_)) (.slice Ao46 y266.length co46) y266) ∧ Aside0 (w'.heap[gb244]? = some (.cells #[.int .i64 a6_0, .int .i64 a6_1, .int .i64 a6_2, .int .i64 a6_3, .int .i64 a6_4, .int .i64 a6_5, .int .i64 a6_6, .bool a6_7] 44 (0, 0))) ∧ Aside0 (IsS84 w w' g250 t248 ba0) ∧ Aside0 (Below w.heap.size w w'))
     case atStart => exact ⟨(0), (by first | rfl | (simp; done) | (simp [*]; done)), H', ⟨Nat.le_refl _⟩, ⟨by (with_reducible repeat (first | apply Kd.V_alloc | apply Kd.V_drewN | apply Kd.V_drew)); exact Kd.V_mono HO_1.out (fun _ hk => ⟨hk.1.1, ⟨hk.1.2.1, ⟨hk.2, ⟨hk.1.2.2.1, hk.1.2.2.2⟩⟩⟩⟩)⟩, ⟨by (with_reducible repeat (first | apply Kd.V_alloc | apply Kd.V_drewN | apply Kd.V_drew)); exact Kd.V_mono HO_18.out (fun _ hk => ⟨hk.1.1, ⟨hk.1.2.1, ⟨hk.2, ⟨hk.1.2.2.1, hk.1.2.2.2⟩⟩⟩⟩)⟩, ⟨by (with_reducible repeat (first | apply Kd.V_alloc | apply Kd.V_drewN | apply Kd.V_drew)); exact Kd.V_mono HO265.out (fun _ hk => ⟨hk.1.1.1, ⟨hk.1.2, ⟨hk.2, ⟨hk.1.1.2.1, hk.1.1.2.2⟩⟩⟩⟩)⟩, ⟨by (with_reducible repeat (first | apply Kd.N_alloc | apply Kd.N_drewN | apply Kd.N_drew)); exact Kd.N_mono HO_79.out (fun _ hk => ⟨hk.1.1, ⟨hk.2, ⟨hk.1.2.1, hk.1.2.2⟩⟩⟩)⟩, ⟨by (with_reducible repeat (first | apply Kd.R_alloc | apply Kd.R_drewN | apply Kd.R_drew)); exact Kd.R_mono HO268.out (fun _ hk => hk.1)⟩, ⟨by exact bU7 BK244.out⟩, ⟨by repeat (first | (with_reducible first | exact HI250.out | apply IsS84.alloc | apply IsS84.drewN | apply IsS84.drew | apply IsS84.set_1 | refine IsS84.far ?_ NB250_244.out _) | exact HI250.out)⟩, ⟨by repeat (first | (with_reducible first | exact HB.out | apply below_alloc | apply pw_below_drewN | apply below_drew1 | refine below_set ?_ (IsS84.ge HI250.out) | refine below_set ?_ GE244.out) | exact HB.out)⟩⟩
     case round =>
      clear H'
      try clear c1
      try clear c2
      try clear p2
      try clear q2
      try clear hx2
      try clear c4
      try clear p6
      try clear c7
      try clear c9
      try clear c10
      try clear c10b0
      try clear c10b1
      try clear c15
      try clear c15b0
      try clear c16
      try clear c16b0
      try clear c17
      try clear c17b0
      try clear c18
      try clear c18b0
      try clear c20
      try clear c22
      try clear c22b0
      try clear c24
      try clear p24
      try clear q24
      try clear hx24
      try clear c26
      try clear p26
      try clear q26
      try clear hx26
      try clear c27
      try clear c41
      try clear c41b0
      try clear c42
      try clear c42b0
      try clear c43
      try clear c43b0
      try clear hcz21_0
      try clear hcz21_1
      try clear hcz21_2
      try clear hcz21_3
      try clear hcz21_4
      try clear hcz21_5
      try clear hcz21_6
      try clear hcz21_7
      try clear hcz25_0
      try clear hcz25_1
      try clear hcz25_2
      try clear hcz25_3
      try clear hcz25_4
      try clear hcz25_5
      try clear hcz25_6
      try clear hcz25_7
      try clear hcz28_0
      try clear hcz28_1
      try clear hcz28_2
      try clear hcz28_3
      try clear hcz28_4
      try clear hcz28_5
      try clear hcz28_6
      try clear hcz28_7
      try clear hfz21_0
      try clear hfz21_1
      try clear hfz21_2
      try clear hfz21_3
      try clear hfz21_4
      try clear hfz21_5
      try clear hfz21_6
      try clear hfz21_7
      try clear hfz25_0
      try clear hfz25_1
      try clear hfz25_2
      try clear hfz25_3
      try clear hfz25_4
      try clear hfz25_5
      try clear hfz25_6
      try clear hfz25_7
      try clear hfz28_0
      try clear hfz28_1
      try clear hfz28_2
      try clear hfz28_3
      try clear hfz28_4
      try clear hfz28_5
      try clear hfz28_6
      try clear hfz28_7
      try clear hx246_0
      try clear hx246_1
      try clear hx246_2
      try clear hx246_3
      try clear hx246_4
      try clear hx246_5
      try clear hx246_6
      try clear hx246_7
      try clear hx264_0
      try clear p2
      try clear p24
      try clear p246
      try clear p264
      try clear p6
      try clear q2
      try clear q24
      try clear q246
      try clear q264
      obtain ⟨x96_3, rfl, HA, HK3, HO_1, HO_18, HO_22, HO_79, HO_94, BK244, HI250, HB⟩ := hrel
      cases gk with
      | zero => exact absurd HA.out (by simp [storagebarterlaw26_EndingSteps.l2])
      | succ k3 =>
       have H := HA.out
       clear HA
       simp only [storagebarterlaw26_EndingSteps.l2] at H
       by_cases c47 : x96_3 < (y266.length : Int)
       case neg =>
        rw [if_neg c47] at H
        have c47b0 : decide (x96_3 < (y266.length : Int)) = false := decide_eq_false c47
        clear c47
        replace H := Option.bind_eq_some_iff.mp H
        obtain ⟨⟨t355, t356⟩, A1960, H⟩ := H
        replace H : ((some (([wrap64 (a4), t355] : List Int) : List Int)).bind fun y357 => (storagebarterlaw26_EndingSteps.l5 k3 l1 a2 a3 a4 a5 t251 (wrap64 (1 + t255)) (wrap64 (1 + t257)) (rd_L3 y259 x81_2) y259 (y259.length : Int) x81_2 y357 (y357.length : Int) 0 a6_0 a6_1 a6_2 a6_3 a6_4 a6_5 a6_6 a6_7 t248 t356)) = some r := H
        have A196 := Aside0.mk A1960
        clear A1960
        obtain ⟨y357, hy357⟩ : ∃ y_ : List Int, y_ = (([wrap64 (a4), t355] : List Int)) := ⟨_, rfl⟩
        replace H : (storagebarterlaw26_EndingSteps.l5 k3 l1 a2 a3 a4 a5 t251 (wrap64 (1 + t255)) (wrap64 (1 + t257)) (rd_L3 y259 x81_2) y259 (y259.length : Int) x81_2 y357 (y357.length : Int) 0 a6_0 a6_1 a6_2 a6_3 a6_4 a6_5 a6_6 a6_7 t248 t356) = some r := by first | (rw [hy357]; with_reducible exact H) | (have H2_ := (Option.bind_some _ _).symm.trans H; rw [hy357]; with_reducible exact H2_) | (have H2_ := (Option.bind_some _ _).symm.trans H; with_reducible exact H2_) | with_reducible exact H | (rw [hy357]; exact H) | exact H
        have Ny357 := Aside0.mk hy357
        clear hy357
        have H' := Aside0.mk H
        clear H
        go_wp2_with (first | ((with_reducible refine gate_callee (f := 18) rfl ?_); refine goesL_ (some 240) rfl rfl Try.func18 (by kernel_rfl) rfl #[.pointer (some ⟨g250, 0, none⟩), .int .i64 14] rfl (by (try simp only [List.map_toArray, List.map_cons, List.map_nil]); first | done | rfl | (simp only [List.length_drop, List.length_take]; rfl)) ?_; (with_reducible refine (storagebarterplay_Dice_Pick.calls g250 t248 ba0 14 t355 t356 w _ ?side1 ?side2 A196.out).mono ?_); (case side1 => repeat (first | (with_reducible first | exact HI250.out | apply IsS84.alloc | apply IsS84.drewN | apply IsS84.drew | apply IsS84.set_1 | refine IsS84.far ?_ NB250_244.out _) | exact HI250.out)); (case side2 => repeat (first | (with_reducible first | exact HB.out | apply below_alloc | apply pw_below_drewN | apply below_drew1 | refine below_set ?_ (IsS84.ge HI250.out) | refine below_set ?_ GE244.out) | exact HB.out)); rintro e w197 ⟨rfl, hi, hb, hk⟩; refine ⟨_, rfl, ?_⟩; have n0_ := Aside0.mk (Kd.V_mono (Kd.V_keep (Kd.V_mono (ok := fun k_ => (((P1_ k_ ∨ w.heap.size ≤ k_)) ∧ (some k_ ≠ (.slice (some ad264) y259.length co40 : Value).ownBlock ∧ (some k_ ≠ (.slice Ao46 y266.length co46 : Value).ownBlock ∧ (k_ ≠ gb244 ∧ k_ ≠ g250))))) (vU7 HO_1.out) (fun k_ hk_ => (⟨hk_, hk_.2.2.2.2⟩ : _ ∧ k_ ≠ g250))) hk (fun _ h => h.2)) (fun _ h => h.1)); have n1_ := Aside0.mk (Kd.V_mono (Kd.V_keep (Kd.V_mono (ok := fun k_ => (((P1_ k_ ∨ w.heap.size ≤ k_)) ∧ (some k_ ≠ (.slice (some ad264) y259.length co40 : Value).ownBlock ∧ (some k_ ≠ (.slice Ao46 y266.length co46 : Value).ownBlock ∧ (k_ ≠ gb244 ∧ k_ ≠ g250))))) (vU7 HO_18.out) (fun k_ hk_ => (⟨hk_, hk_.2.2.2.2⟩ : _ ∧ k_ ≠ g250))) hk (fun _ h => h.2)) (fun _ h => h.1)); have n2_ := Aside0.mk (Kd.V_mono (Kd.V_keep (Kd.V_mono (ok := fun k_ => (((P1_ k_ ∨ w.heap.size ≤ k_)) ∧ (some k_ ≠ (.slice (some ad264) y259.length co40 : Value).ownBlock ∧ (some k_ ≠ (.slice Ao46 y266.length co46 : Value).ownBlock ∧ (k_ ≠ gb244 ∧ k_ ≠ g250))))) (vU7 HO_22.out) (fun k_ hk_ => (⟨hk_, hk_.2.2.2.2⟩ : _ ∧ k_ ≠ g250))) hk (fun _ h => h.2)) (fun _ h => h.1)); have n3_ := Aside0.mk (Kd.N_mono (Kd.N_keep (Kd.N_mono (ok := fun k_ => (((P1_ k_ ∨ w.heap.size ≤ k_)) ∧ (some k_ ≠ (.slice Ao46 y266.length co46 : Value).ownBlock ∧ (k_ ≠ gb244 ∧ k_ ≠ g250)))) (nU7 HO_79.out) (fun k_ hk_ => (⟨hk_, hk_.2.2.2⟩ : _ ∧ k_ ≠ g250))) hk (fun _ h => h.2)) (fun _ h => h.1)); have n4_ := Aside0.mk (Kd.R_mono (Kd.R_keep (IsS84.apart (show IsS84 w _ g250 t248 ba0 from by repeat (first | (with_reducible first | exact HI250.out | apply IsS84.alloc | apply IsS84.drewN | apply IsS84.drew | apply IsS84.set_1 | refine IsS84.far ?_ NB250_244.out _) | exact HI250.out)) (rU7 HO_94.out) (by decide)) hk (fun _ h => h.2)) (fun _ h => h.1)); have n5_ := Aside0.mk (KeepBut.blk hk (g' := gb244) (o := .cells #[.int .i64 a6_0, .int .i64 a6_1, .int .i64 a6_2, .int .i64 a6_3, .int .i64 a6_4, .int .i64 a6_5, .int .i64 a6_6, .bool a6_7] 44 (0, 0)) (bU7 BK244.out) NB244_250.out (by simp)); have n6_ := Aside0.mk (hb); have n7_ := Aside0.mk (hi); clear HO_1; clear HO_18; clear HO_22; clear HO_79; clear HO_94; clear BK244; clear HB; clear HI250; have HO_1 := n0_; have HO_18 := n1_; have HO_22 := n2_; have HO_79 := n3_; have HO_94 := n4_; have BK244 := n5_; have HB := n6_; have HI250 := n7_; clear n0_ n1_ n2_ n3_ n4_ n5_ n6_ n7_; (try clear hb); (try clear hb2); (try clear hk); (try clear hi); (try clear hgw)) | ((with_reducible refine gate_dst (N := 241) rfl ?_); refine Kd.R_lit (Kd.int .i64) _ 3 ?hg (N := 241) ?hd (xs := ([wrap64 (a4), t355] : List Int)) (inner := [.int .i64 (wrap64 (a4)), .int .i64 t355]) (ok := fun _ => True) (okp := fun _ => True) ?hr ?hp (fun _ hk => hk) trivial (Below.refl _ _) (Nat.le_refl _) (by simp) ?_; (case hd => rfl); (case hg => rfl); (case hr => first | (go_simp; done) | (go_simp; rfl)); (case hp => exact (Reps.one (show Kd.M (Kd.int .i64) _ _ _ (wrap64 (a4)) [.int .i64 (wrap64 (a4))] from rfl) (Reps.one (show Kd.M (Kd.int .i64) _ _ _ t355 [.int .i64 t355] from rfl) (Reps.none _ _)))); intro v358 w198 ho199 hb hg_ hnew_; clear hg_ hnew_; (first | rw [← Ny357.out] at ho199 | (simp only [Int.reduceToNat] at ho199; rw [← Ny357.out] at ho199)); have n0_ := Aside0.mk (Kd.V_elder' (vU7 HO_1.out) (Kd.R_base ho199) hb); have n1_ := Aside0.mk (Kd.V_elder' (vU7 HO_18.out) (Kd.R_base ho199) hb); have n2_ := Aside0.mk (Kd.V_elder' (vU7 HO_22.out) (Kd.R_base ho199) hb); have n3_ := Aside0.mk (Kd.N_elder' (nU7 HO_79.out) (Kd.R_base ho199) hb); have n4_ := Aside0.mk (Kd.R_below (rU7 HO_94.out) hb); have n5_ := Aside0.mk (Kd.R_lower (Kd.R_newM (M := fun k_ => (w.heap.size ≤ k_)) ho199 (below_size (by repeat (first | (with_reducible first | exact HB.out | apply below_alloc | apply pw_below_drewN | apply below_drew1 | refine below_set ?_ (IsS84.ge HI250.out) | refine below_set ?_ GE244.out) | exact HB.out))) (fun k_ h_ => h_)) (below_size (by repeat (first | (with_reducible first | exact HB.out | apply below_alloc | apply pw_below_drewN | apply below_drew1 | refine below_set ?_ (IsS84.ge HI250.out) | refine below_set ?_ GE244.out) | exact HB.out)))); have n6_ := Aside0.mk (blk_below (g := gb244) (bU7 BK244.out) hb); have n7_ := Aside0.mk (IsS84.below (by repeat (first | (with_reducible first | exact HI250.out | apply IsS84.alloc | apply IsS84.drewN | apply IsS84.drew | apply IsS84.set_1 | refine IsS84.far ?_ NB250_244.out _) | exact HI250.out)) hb); have n8_ := Aside0.mk (below_step (by repeat (first | (with_reducible first | exact HB.out | apply below_alloc | apply pw_below_drewN | apply below_drew1 | refine below_set ?_ (IsS84.ge HI250.out) | refine below_set ?_ GE244.out) | exact HB.out)) hb); clear HO_1; clear HO_18; clear HO_22; clear HO_79; clear HO_94; clear BK244; clear HI250; clear HB; have HO_1 := n0_; have HO_18 := n1_; have HO_22 := n2_; have HO_79 := n3_; have HO_94 := n4_; have HO359 := n5_; have BK244 := n6_; have HI250 := n7_; have HB := n8_; clear n0_ n1_ n2_ n3_ n4_ n5_ n6_ n7_ n8_; clear hb ho199; obtain ⟨Ao200, co200, eo200⟩ := Kd.R_slice HO359.out; subst eo200))
        go_loopg [243] k3 (fun kq v243 w' => ∃ (ba1 : Int), v243 = .int .i64 ba1 ∧ Aside0 (storagebarterlaw26_EndingSteps.l5 kq l1 a2 a3 a4 a5 t251 (wrap64 (1 + t255)) (wrap64 (1 + t257)) (rd_L3 y259 x81_2) y259 (y259.length : Int) x81_2 y357 (y357.length : Int) ba1 a6_0 a6_1 a6_2 a6_3 a6_4 a6_5 a6_6 a6_7 t248 t356 = some r) ∧ Aside0 (kq ≤ k3) ∧ Aside0 (Kd.V k44 44 w' w.heap.size (fun k_ => (P1_ k_ ∨ w.heap.size ≤ k_) ∧ some k_ ≠ ((.slice (some ad264) y259.length co40) : Value).ownBlock ∧ some k_ ≠ ((.slice Ao200 y357.length co200) : Value).ownBlock ∧ k_ ≠ gb244 ∧ k_ ≠ g250) (.slice A1 l1.length c1) l1) ∧ Aside0 (Kd.V k44 44 w' w.heap.size (fun k_ => (P1_ k_ ∨ w.heap.size ≤ k_) ∧ some k_ ≠ ((.slice (some ad264) y259.length co40) : Value).ownBlock ∧ some k_ ≠ ((.slice Ao200 y357.length co200) : Value).ownBlock ∧ k_ ≠ gb244 ∧ k_ ≠ g250) (.slice Ao37 t251.length co37) t251) ∧ Aside0 (Kd.V k44 44 w' w.heap.size (fun k_ => (P1_ k_ ∨ w.heap.size ≤ k_) ∧ some k_ ≠ ((.slice (some ad264) y259.length co40) : Value).ownBlock ∧ some k_ ≠ ((.slice Ao200 y357.length co200) : Value).ownBlock ∧ k_ ≠ gb244 ∧ k_ ≠ g250) (.slice ba2 (rd_L3 y259 x81_2).length c264_0) (rd_L3 y259 x81_2)) ∧ Aside0 (Kd.N (Kd.slice 44 k44) 26 w' w.heap.size (fun k_ => (P1_ k_ ∨ w.heap.size ≤ k_) ∧ some k_ ≠ ((.slice Ao200 y357.length co200) : Value).ownBlock ∧ k_ ≠ gb244 ∧ k_ ≠ g250) (.slice (some ad264) y259.length co40) y259) ∧ Aside0 (Kd.R (Kd.int .i64) 3 w' w.heap.size (fun k_ => (w.heap.size ≤ k_)) (.slice Ao200 y357.length co200) y357) ∧ Aside0 (w'.heap[gb244]? = some (.cells #[.int .i64 a6_0, .int .i64 a6_1, .int .i64 a6_2, .int .i64 a6_3, .int .i64 a6_4, .int .i64 a6_5, .int .i64 a6_6, .bool a6_7] 44 (0, 0))) ∧ Aside0 (IsS84 w w' g250 t248 t356) ∧ Aside0 (Below w.heap.size w w'))
        case atStart => exact ⟨(0), (by first | rfl | (simp; done) | (simp [*]; done)), H', ⟨Nat.le_refl _⟩, ⟨by (with_reducible repeat (first | apply Kd.V_alloc | apply Kd.V_drewN | apply Kd.V_drew)); exact Kd.V_mono HO_1.out (fun _ hk => ⟨hk.1.1, ⟨hk.1.2.1, ⟨hk.2, ⟨hk.1.2.2.2.1, hk.1.2.2.2.2⟩⟩⟩⟩)⟩, ⟨by (with_reducible repeat (first | apply Kd.V_alloc | apply Kd.V_drewN | apply Kd.V_drew)); exact Kd.V_mono HO_18.out (fun _ hk => ⟨hk.1.1, ⟨hk.1.2.1, ⟨hk.2, ⟨hk.1.2.2.2.1, hk.1.2.2.2.2⟩⟩⟩⟩)⟩, ⟨by (with_reducible repeat (first | apply Kd.V_alloc | apply Kd.V_drewN | apply Kd.V_drew)); exact Kd.V_mono HO_22.out (fun _ hk => ⟨hk.1.1, ⟨hk.1.2.1, ⟨hk.2, ⟨hk.1.2.2.2.1, hk.1.2.2.2.2⟩⟩⟩⟩)⟩, ⟨by (with_reducible repeat (first | apply Kd.N_alloc | apply Kd.N_drewN | apply Kd.N_drew)); exact Kd.N_mono HO_79.out (fun _ hk => ⟨hk.1.1, ⟨hk.2, ⟨hk.1.2.2.1, hk.1.2.2.2⟩⟩⟩)⟩, ⟨by (with_reducible repeat (first | apply Kd.R_alloc | apply Kd.R_drewN | apply Kd.R_drew)); exact Kd.R_mono HO359.out (fun _ hk => hk.1)⟩, ⟨by exact bU7 BK244.out⟩, ⟨by repeat (first | (with_reducible first | exact HI250.out | apply IsS84.alloc | apply IsS84.drewN | apply IsS84.drew | apply IsS84.set_1 | refine IsS84.far ?_ NB250_244.out _) | exact HI250.out)⟩, ⟨by repeat (first | (with_reducible first | exact HB.out | apply below_alloc | apply pw_below_drewN | apply below_drew1 | refine below_set ?_ (IsS84.ge HI250.out) | refine below_set ?_ GE244.out) | exact HB.out)⟩⟩
        case round =>
         clear H'
         try clear c1
         try clear c2
         try clear p2
         try clear c3
         try clear p3
         try clear q3
         try clear hx3
         try clear c4
         try clear p6
         try clear c8
         try clear c12
         try clear c13
         try clear c14
         try clear c15
         try clear c16
         try clear c17
         try clear c18
         try clear c19
         try clear c22
         try clear c25
         try clear c26
         try clear c29
         try clear c31
         try clear c32
         try clear p32
         try clear q32
         try clear hx32
         try clear p34
         try clear q34
         try clear hx34
         try clear c47
         try clear c47b0
         try clear c48
         try clear c49
         try clear p64
         try clear c82
         try clear c122
         try clear c123
         try clear c124
         try clear c125
         try clear c126
         try clear c127
         try clear c133
         try clear c133b0
         try clear c134
         try clear c134b0
         try clear c135
         try clear c135b0
         try clear c138
         try clear c138b0
         try clear c138b1
         try clear c138b2
         try clear c140
         try clear c142
         try clear c143
         try clear c144
         try clear c145
         try clear c146
         try clear c148
         try clear c149
         try clear c150
         try clear c151
         try clear c155
         try clear c156
         try clear c157
         try clear c158
         try clear c159
         try clear c160
         try clear c169
         try clear c170
         try clear c171
         try clear c172
         try clear c173
         try clear c174
         try clear c175
         try clear c184
         try clear c184b0
         try clear c185
         try clear c185b0
         try clear c186
         try clear c186b0
         try clear c190
         try clear hcz128_0
         try clear hcz128_1
         try clear hcz128_2
         try clear hcz128_3
         try clear hcz128_4
         try clear hcz128_5
         try clear hcz128_6
         try clear hcz128_7
         try clear hcz147_0
         try clear hcz147_1
         try clear hcz147_2
         try clear hcz147_3
         try clear hcz147_4
         try clear hcz147_5
         try clear hcz147_6
         try clear hcz147_7
         try clear hcz152_0
         try clear hcz152_1
         try clear hcz152_2
         try clear hcz152_3
         try clear hcz161_0
         try clear hcz161_1
         try clear hcz161_2
         try clear hcz161_3
         try clear hcz165_0
         try clear hcz165_1
         try clear hcz165_2
         try clear hcz165_3
         try clear hcz166_0
         try clear hcz166_1
         try clear hcz166_2
         try clear hcz166_3
         try clear hcz166_4
         try clear hcz166_5
         try clear hcz166_6
         try clear hcz166_7
         try clear hcz176_0
         try clear hcz176_1
         try clear hcz176_2
         try clear hcz176_3
         try clear hcz179_0
         try clear hcz179_1
         try clear hcz179_2
         try clear hcz179_3
         try clear hfz128_0
         try clear hfz128_1
         try clear hfz128_2
         try clear hfz128_3
         try clear hfz128_4
         try clear hfz128_5
         try clear hfz128_6
         try clear hfz128_7
         try clear hfz147_0
         try clear hfz147_1
         try clear hfz147_2
         try clear hfz147_3
         try clear hfz147_4
         try clear hfz147_5
         try clear hfz147_6
         try clear hfz147_7
         try clear hfz152_0
         try clear hfz152_1
         try clear hfz152_2
         try clear hfz152_3
         try clear hfz161_0
         try clear hfz161_1
         try clear hfz161_2
         try clear hfz161_3
         try clear hfz165_0
         try clear hfz165_1
         try clear hfz165_2
         try clear hfz165_3
         try clear hfz166_0
         try clear hfz166_1
         try clear hfz166_2
         try clear hfz166_3
         try clear hfz166_4
         try clear hfz166_5
         try clear hfz166_6
         try clear hfz166_7
         try clear hfz176_0
         try clear hfz176_1
         try clear hfz176_2
         try clear hfz176_3
         try clear hfz179_0
         try clear hfz179_1
         try clear hfz179_2
         try clear hfz179_3
         try clear hx321_0
         try clear hx321_1
         try clear hx321_2
         try clear hx321_3
         try clear hx321_4
         try clear hx321_5
         try clear hx321_6
         try clear hx321_7
         try clear hx347_0
         try clear p2
         try clear p3
         try clear p32
         try clear p321
         try clear p347
         try clear p6
         try clear p64
         try clear q3
         try clear q32
         try clear q321
         try clear q347
         obtain ⟨ba1, rfl, HA, HK4, HO_1, HO_18, HO_22, HO_79, HO_241, BK244, HI250, HB⟩ := hrel
         cases gk with
         | zero => exact absurd HA.out (by simp [storagebarterlaw26_EndingSteps.l5])
         | succ k4 =>
          have H := HA.out
          clear HA
          simp only [storagebarterlaw26_EndingSteps.l5] at H
          by_cases c201 : ba1 < (y357.length : Int)
          case neg =>
           rw [if_neg c201] at H
           have c201b0 : decide (ba1 < (y357.length : Int)) = false := decide_eq_false c201
           clear c201
           have H' := Aside0.mk H
           clear H
           go_wp2
           go_roundg k4
           case measure => have := HK1.out; have := HK2.out; have := HK3.out; have := HK4.out; omega
           case rel => exact ⟨(wrap64 (x81_2 + 1)), (t356), (by first | rfl | (simp; done) | (simp [*]; done)), H', ⟨by have := HK1.out; have := HK2.out; have := HK3.out; have := HK4.out; omega⟩, ⟨by (with_reducible repeat (first | apply Kd.V_alloc | apply Kd.V_drewN | apply Kd.V_drew)); exact Kd.V_mono HO_1.out (fun _ hk => ⟨hk.1, ⟨hk.2.1, ⟨hk.2.2.2.1, hk.2.2.2.2⟩⟩⟩)⟩, ⟨by (with_reducible repeat (first | apply Kd.V_alloc | apply Kd.V_drewN | apply Kd.V_drew)); exact Kd.V_mono HO_18.out (fun _ hk => ⟨hk.1, ⟨hk.2.1, ⟨hk.2.2.2.1, hk.2.2.2.2⟩⟩⟩)⟩, ⟨by (with_reducible repeat (first | apply Kd.N_alloc | apply Kd.N_drewN | apply Kd.N_drew)); exact Kd.N_mono HO_79.out (fun _ hk => ⟨hk.1, ⟨hk.2.2.1, hk.2.2.2⟩⟩)⟩, ⟨by exact bU7 BK244.out⟩, ⟨by repeat (first | (with_reducible first | exact HI250.out | apply IsS84.alloc | apply IsS84.drewN | apply IsS84.drew | apply IsS84.set_1 | refine IsS84.far ?_ NB250_244.out _) | exact HI250.out)⟩, ⟨by repeat (first | (with_reducible first | exact HB.out | apply below_alloc | apply pw_below_drewN | apply below_drew1 | refine below_set ?_ (IsS84.ge HI250.out) | refine below_set ?_ GE244.out) | exact HB.out)⟩⟩
          rw [if_pos c201] at H
          have c201b0 : decide (ba1 < (y357.length : Int)) = true := decide_eq_true c201
          clear c201
          by_cases c202 : 0 ≤ ba1
          case neg =>
           rw [if_neg c202] at H
           exact absurd H (by simp)
          rw [if_pos c202] at H
          have c202b0 : decide (0 ≤ ba1) = true := decide_eq_true c202
          clear c202
          by_cases c203 : ba1 < (y357.length : Int)
          case neg =>
           rw [if_neg c203] at H
           exact absurd H (by simp)
          rw [if_pos c203] at H
          have c203b0 : decide (ba1 < (y357.length : Int)) = true := decide_eq_true c203
          clear c203
          replace H := Option.bind_eq_some_iff.mp H
          obtain ⟨⟨t361, t362⟩, A2040, H⟩ := H
          replace H : ((storagebarterref26_Over.f k4 (rd_L3 y259 x81_2) (rd y357 ba1)).bind fun bt367 => ((storagebarterref26_Same.f k4 t361 bt367.1).bind fun t373 => (if t373 = true then ((storagebarterref26_Same.f k4 t362 bt367.2).bind fun t374 => (if t374 = true then (storagebarterlaw26_EndingSteps.l5 k4 l1 a2 a3 a4 a5 t251 (wrap64 (1 + t255)) (wrap64 (1 + t257)) (rd_L3 y259 x81_2) y259 (y259.length : Int) x81_2 y357 (y357.length : Int) (wrap64 (ba1 + 1)) a6_0 a6_1 a6_2 a6_3 a6_4 a6_5 a6_6 a6_7 t248 t356) else (some false))) else (some false)))) = some r := H
          have A204 := Aside0.mk A2040
          clear A2040
          replace H := Option.bind_eq_some_iff.mp H
          obtain ⟨⟨t367, t368⟩, A2050, H⟩ := H
          replace H : ((storagebarterref26_Same.f k4 t361 t367).bind fun t373 => (if t373 = true then ((storagebarterref26_Same.f k4 t362 t368).bind fun t374 => (if t374 = true then (storagebarterlaw26_EndingSteps.l5 k4 l1 a2 a3 a4 a5 t251 (wrap64 (1 + t255)) (wrap64 (1 + t257)) (rd_L3 y259 x81_2) y259 (y259.length : Int) x81_2 y357 (y357.length : Int) (wrap64 (ba1 + 1)) a6_0 a6_1 a6_2 a6_3 a6_4 a6_5 a6_6 a6_7 t248 t356) else (some false))) else (some false))) = some r := H
          have A205 := Aside0.mk A2050
          clear A2050
          replace H := Option.bind_eq_some_iff.mp H
          obtain ⟨t373, A2060, H⟩ := H
          replace H : (if t373 = true then ((storagebarterref26_Same.f k4 t362 t368).bind fun t374 => (if t374 = true then (storagebarterlaw26_EndingSteps.l5 k4 l1 a2 a3 a4 a5 t251 (wrap64 (1 + t255)) (wrap64 (1 + t257)) (rd_L3 y259 x81_2) y259 (y259.length : Int) x81_2 y357 (y357.length : Int) (wrap64 (ba1 + 1)) a6_0 a6_1 a6_2 a6_3 a6_4 a6_5 a6_6 a6_7 t248 t356) else (some false))) else (some false)) = some r := H
          have A206 := Aside0.mk A2060
          clear A2060
          by_cases c207 : t373 = true
          case neg =>
           replace c207 := Bool.eq_false_iff.mpr c207
           subst c207
           have H1 : (some false) = some r := by rw [if_neg (show ¬ (false = true) by decide)] at H; exact H
           clear H
           have H := H1
           clear H1
           exact absurd (Option.some.inj H) (by rw [HRT_.out]; decide)
          subst c207
          have H1 : ((storagebarterref26_Same.f k4 t362 t368).bind fun t374 => (if t374 = true then (storagebarterlaw26_EndingSteps.l5 k4 l1 a2 a3 a4 a5 t251 (wrap64 (1 + t255)) (wrap64 (1 + t257)) (rd_L3 y259 x81_2) y259 (y259.length : Int) x81_2 y357 (y357.length : Int) (wrap64 (ba1 + 1)) a6_0 a6_1 a6_2 a6_3 a6_4 a6_5 a6_6 a6_7 t248 t356) else (some false))) = some r := by rw [if_pos rfl] at H; exact H
          clear H
          have H := H1
          clear H1
          replace H := Option.bind_eq_some_iff.mp H
          obtain ⟨t374, A2080, H⟩ := H
          replace H : (if t374 = true then (storagebarterlaw26_EndingSteps.l5 k4 l1 a2 a3 a4 a5 t251 (wrap64 (1 + t255)) (wrap64 (1 + t257)) (rd_L3 y259 x81_2) y259 (y259.length : Int) x81_2 y357 (y357.length : Int) (wrap64 (ba1 + 1)) a6_0 a6_1 a6_2 a6_3 a6_4 a6_5 a6_6 a6_7 t248 t356) else (some false)) = some r := H
          have A208 := Aside0.mk A2080
          clear A2080
          by_cases c209 : t374 = true
          case neg =>
           replace c209 := Bool.eq_false_iff.mpr c209
           subst c209
           have H1 : (some false) = some r := by rw [if_neg (show ¬ (false = true) by decide)] at H; exact H
           clear H
           have H := H1
           clear H1
           exact absurd (Option.some.inj H) (by rw [HRT_.out]; decide)
          subst c209
          have H1 : (storagebarterlaw26_EndingSteps.l5 k4 l1 a2 a3 a4 a5 t251 (wrap64 (1 + t255)) (wrap64 (1 + t257)) (rd_L3 y259 x81_2) y259 (y259.length : Int) x81_2 y357 (y357.length : Int) (wrap64 (ba1 + 1)) a6_0 a6_1 a6_2 a6_3 a6_4 a6_5 a6_6 a6_7 t248 t356) = some r := by rw [if_pos rfl] at H; exact H
          clear H
          have H := H1
          clear H1
          have H' := Aside0.mk H
          clear H
          have p360 : 0 ≤ (ba1 : Int) := of_decide_eq_true (by first | (with_reducible assumption) | assumption)
          have q360 : ba1 < (y357.length : Int) := of_decide_eq_true (by first | (with_reducible assumption) | assumption)
          obtain ⟨ad360, e360, hx360_0⟩ := Kd.at_int (Kd.R_reads' HO_241.out).2.2 ba1 p360 q360
          cases e360
          replace p360 := eq_true p360
          replace q360 := eq_true q360
          go_wp2_with (first | ((with_reducible refine gate_callee (f := 19) rfl ?_); refine goesL_ (some 250) rfl rfl Try.func19 (by kernel_rfl) rfl #[.slice ba2 (rd_L3 y259 x81_2).length c264_0, .int .i64 (rd y357 ba1)] rfl (by (try simp only [List.map_toArray, List.map_cons, List.map_nil]); first | done | rfl | (simp only [List.length_drop, List.length_take]; rfl)) ?_; (with_reducible refine (ending_Over.calls _ _ (rd_L3 y259 x81_2) (rd y357 ba1) t361 t362 _ ?side1 ?side2 A204.out).mono ?_); (case side1 => first | exact (Kd.V_reads' HO_22.out).2.2 | exact cU7 (Kd.V_reads' HO_22.out).2.2); (case side2 => exact (Kd.V_reads' HO_22.out).2.1); rintro e w210 ⟨v363, v365, rfl, ho0, ho1, hb⟩; refine ⟨_, rfl, ?_⟩; have n0_ := Aside0.mk (Kd.V_below (vU7 HO_1.out) hb); have n1_ := Aside0.mk (Kd.V_below (vU7 HO_18.out) hb); have n2_ := Aside0.mk (Kd.V_below (vU7 HO_22.out) hb); have n3_ := Aside0.mk (Kd.N_below (nU7 HO_79.out) hb); have n4_ := Aside0.mk (Kd.R_below (rU7 HO_241.out) hb); have n5_ := Aside0.mk (Kd.V_lower (Kd.V_mono (ok' := fun k_ => (P1_ k_ ∨ w.heap.size ≤ k_) ∧ some k_ ≠ (.slice (some ad264) y259.length co40 : Value).ownBlock ∧ some k_ ≠ (.slice (some ad360) y357.length co200 : Value).ownBlock ∧ k_ ≠ gb244 ∧ k_ ≠ g250) (Kd.R_V (Kd.R_bound ho0)) (fun k_ hk_ => ⟨(.inr (Nat.le_trans (below_size (by repeat (first | (with_reducible first | exact HB.out | apply below_alloc | apply pw_below_drewN | apply below_drew1 | refine below_set ?_ (IsS84.ge HI250.out) | refine below_set ?_ GE244.out) | exact HB.out))) hk_.2.1)), (Kd.fresh' (Kd.N_lt (nU7 HO_79.out)) k_ hk_.2.1), (Kd.fresh' (Kd.R_lt (rU7 HO_241.out)) k_ hk_.2.1), (Kd.freshB (g := gb244) (o := .cells #[.int .i64 a6_0, .int .i64 a6_1, .int .i64 a6_2, .int .i64 a6_3, .int .i64 a6_4, .int .i64 a6_5, .int .i64 a6_6, .bool a6_7] 44 (0, 0)) (bU7 BK244.out) k_ hk_.2.1), (IsS84.fresh (by repeat (first | (with_reducible first | exact HI250.out | apply IsS84.alloc | apply IsS84.drewN | apply IsS84.drew | apply IsS84.set_1 | refine IsS84.far ?_ NB250_244.out _) | exact HI250.out)) k_ hk_.2.1)⟩)) (below_size (by repeat (first | (with_reducible first | exact HB.out | apply below_alloc | apply pw_below_drewN | apply below_drew1 | refine below_set ?_ (IsS84.ge HI250.out) | refine below_set ?_ GE244.out) | exact HB.out)))); have n6_ := Aside0.mk (Kd.V_lower (Kd.V_mono (ok' := fun k_ => (P1_ k_ ∨ w.heap.size ≤ k_) ∧ some k_ ≠ (.slice (some ad264) y259.length co40 : Value).ownBlock ∧ some k_ ≠ (.slice (some ad360) y357.length co200 : Value).ownBlock ∧ k_ ≠ gb244 ∧ k_ ≠ g250) (Kd.R_V (Kd.R_bound ho1)) (fun k_ hk_ => ⟨(.inr (Nat.le_trans (below_size (by repeat (first | (with_reducible first | exact HB.out | apply below_alloc | apply pw_below_drewN | apply below_drew1 | refine below_set ?_ (IsS84.ge HI250.out) | refine below_set ?_ GE244.out) | exact HB.out))) hk_.2.1)), (Kd.fresh' (Kd.N_lt (nU7 HO_79.out)) k_ hk_.2.1), (Kd.fresh' (Kd.R_lt (rU7 HO_241.out)) k_ hk_.2.1), (Kd.freshB (g := gb244) (o := .cells #[.int .i64 a6_0, .int .i64 a6_1, .int .i64 a6_2, .int .i64 a6_3, .int .i64 a6_4, .int .i64 a6_5, .int .i64 a6_6, .bool a6_7] 44 (0, 0)) (bU7 BK244.out) k_ hk_.2.1), (IsS84.fresh (by repeat (first | (with_reducible first | exact HI250.out | apply IsS84.alloc | apply IsS84.drewN | apply IsS84.drew | apply IsS84.set_1 | refine IsS84.far ?_ NB250_244.out _) | exact HI250.out)) k_ hk_.2.1)⟩)) (below_size (by repeat (first | (with_reducible first | exact HB.out | apply below_alloc | apply pw_below_drewN | apply below_drew1 | refine below_set ?_ (IsS84.ge HI250.out) | refine below_set ?_ GE244.out) | exact HB.out)))); have n7_ := Aside0.mk (blk_below (g := gb244) (bU7 BK244.out) hb); have n8_ := Aside0.mk (IsS84.below (by repeat (first | (with_reducible first | exact HI250.out | apply IsS84.alloc | apply IsS84.drewN | apply IsS84.drew | apply IsS84.set_1 | refine IsS84.far ?_ NB250_244.out _) | exact HI250.out)) hb); have n9_ := Aside0.mk (below_step (by repeat (first | (with_reducible first | exact HB.out | apply below_alloc | apply pw_below_drewN | apply below_drew1 | refine below_set ?_ (IsS84.ge HI250.out) | refine below_set ?_ GE244.out) | exact HB.out)) hb); clear HO_1; clear HO_18; clear HO_22; clear HO_79; clear HO_241; clear BK244; clear HI250; clear HB; have HO_1 := n0_; have HO_18 := n1_; have HO_22 := n2_; have HO_79 := n3_; have HO_241 := n4_; have HO364 := n5_; have HO366 := n6_; have BK244 := n7_; have HI250 := n8_; have HB := n9_; clear n0_ n1_ n2_ n3_ n4_ n5_ n6_ n7_ n8_ n9_; (try clear hb); (try clear hb2); (try clear hk); (try clear hi); (try clear hgw); (try clear ho0); (try clear ho1)) | ((with_reducible refine gate_callee (f := 33) rfl ?_); refine goesL_ (some 256) rfl rfl Try.func33 (by kernel_rfl) rfl #[.slice ba2 (rd_L3 y259 x81_2).length c264_0, .int .i64 (rd y357 ba1)] rfl (by (try simp only [List.map_toArray, List.map_cons, List.map_nil]); first | done | rfl | (simp only [List.length_drop, List.length_take]; rfl)) ?_; (with_reducible refine (storagebarterref26_Over.calls k4 _ _ (rd_L3 y259 x81_2) (rd y357 ba1) t367 t368 _ ?side1 ?side2 A205.out).mono ?_); (case side1 => first | exact (Kd.V_reads' HO_22.out).2.2 | exact cU7 (Kd.V_reads' HO_22.out).2.2); (case side2 => exact (Kd.V_reads' HO_22.out).2.1); rintro e w211 ⟨v369, v371, rfl, ho0, ho1, hb⟩; refine ⟨_, rfl, ?_⟩; have n0_ := Aside0.mk (Kd.V_below (vU7 HO_1.out) hb); have n1_ := Aside0.mk (Kd.V_below (vU7 HO_18.out) hb); have n2_ := Aside0.mk (Kd.V_below (vU7 HO_22.out) hb); have n3_ := Aside0.mk (Kd.N_below (nU7 HO_79.out) hb); have n4_ := Aside0.mk (Kd.R_below (rU7 HO_241.out) hb); have n5_ := Aside0.mk (Kd.V_below (vU7 HO364.out) hb); have n6_ := Aside0.mk (Kd.V_below (vU7 HO366.out) hb); have n7_ := Aside0.mk (Kd.V_lower (Kd.V_mono (ok' := fun k_ => (P1_ k_ ∨ w.heap.size ≤ k_) ∧ some k_ ≠ (.slice (some ad264) y259.length co40 : Value).ownBlock ∧ some k_ ≠ (.slice (some ad360) y357.length co200 : Value).ownBlock ∧ k_ ≠ gb244 ∧ k_ ≠ g250) (Kd.R_V (Kd.R_bound ho0)) (fun k_ hk_ => ⟨(.inr (Nat.le_trans (below_size (by repeat (first | (with_reducible first | exact HB.out | apply below_alloc | apply pw_below_drewN | apply below_drew1 | refine below_set ?_ (IsS84.ge HI250.out) | refine below_set ?_ GE244.out) | exact HB.out))) hk_.2.1)), (Kd.fresh' (Kd.N_lt (nU7 HO_79.out)) k_ hk_.2.1), (Kd.fresh' (Kd.R_lt (rU7 HO_241.out)) k_ hk_.2.1), (Kd.freshB (g := gb244) (o := .cells #[.int .i64 a6_0, .int .i64 a6_1, .int .i64 a6_2, .int .i64 a6_3, .int .i64 a6_4, .int .i64 a6_5, .int .i64 a6_6, .bool a6_7] 44 (0, 0)) (bU7 BK244.out) k_ hk_.2.1), (IsS84.fresh (by repeat (first | (with_reducible first | exact HI250.out | apply IsS84.alloc | apply IsS84.drewN | apply IsS84.drew | apply IsS84.set_1 | refine IsS84.far ?_ NB250_244.out _) | exact HI250.out)) k_ hk_.2.1)⟩)) (below_size (by repeat (first | (with_reducible first | exact HB.out | apply below_alloc | apply pw_below_drewN | apply below_drew1 | refine below_set ?_ (IsS84.ge HI250.out) | refine below_set ?_ GE244.out) | exact HB.out)))); have n8_ := Aside0.mk (Kd.V_lower (Kd.V_mono (ok' := fun k_ => (P1_ k_ ∨ w.heap.size ≤ k_) ∧ some k_ ≠ (.slice (some ad264) y259.length co40 : Value).ownBlock ∧ some k_ ≠ (.slice (some ad360) y357.length co200 : Value).ownBlock ∧ k_ ≠ gb244 ∧ k_ ≠ g250) (Kd.R_V (Kd.R_bound ho1)) (fun k_ hk_ => ⟨(.inr (Nat.le_trans (below_size (by repeat (first | (with_reducible first | exact HB.out | apply below_alloc | apply pw_below_drewN | apply below_drew1 | refine below_set ?_ (IsS84.ge HI250.out) | refine below_set ?_ GE244.out) | exact HB.out))) hk_.2.1)), (Kd.fresh' (Kd.N_lt (nU7 HO_79.out)) k_ hk_.2.1), (Kd.fresh' (Kd.R_lt (rU7 HO_241.out)) k_ hk_.2.1), (Kd.freshB (g := gb244) (o := .cells #[.int .i64 a6_0, .int .i64 a6_1, .int .i64 a6_2, .int .i64 a6_3, .int .i64 a6_4, .int .i64 a6_5, .int .i64 a6_6, .bool a6_7] 44 (0, 0)) (bU7 BK244.out) k_ hk_.2.1), (IsS84.fresh (by repeat (first | (with_reducible first | exact HI250.out | apply IsS84.alloc | apply IsS84.drewN | apply IsS84.drew | apply IsS84.set_1 | refine IsS84.far ?_ NB250_244.out _) | exact HI250.out)) k_ hk_.2.1)⟩)) (below_size (by repeat (first | (with_reducible first | exact HB.out | apply below_alloc | apply pw_below_drewN | apply below_drew1 | refine below_set ?_ (IsS84.ge HI250.out) | refine below_set ?_ GE244.out) | exact HB.out)))); have n9_ := Aside0.mk (blk_below (g := gb244) (bU7 BK244.out) hb); have n10_ := Aside0.mk (IsS84.below (by repeat (first | (with_reducible first | exact HI250.out | apply IsS84.alloc | apply IsS84.drewN | apply IsS84.drew | apply IsS84.set_1 | refine IsS84.far ?_ NB250_244.out _) | exact HI250.out)) hb); have n11_ := Aside0.mk (below_step (by repeat (first | (with_reducible first | exact HB.out | apply below_alloc | apply pw_below_drewN | apply below_drew1 | refine below_set ?_ (IsS84.ge HI250.out) | refine below_set ?_ GE244.out) | exact HB.out)) hb); clear HO_1; clear HO_18; clear HO_22; clear HO_79; clear HO_241; clear HO364; clear HO366; clear BK244; clear HI250; clear HB; have HO_1 := n0_; have HO_18 := n1_; have HO_22 := n2_; have HO_79 := n3_; have HO_241 := n4_; have HO364 := n5_; have HO366 := n6_; have HO370 := n7_; have HO372 := n8_; have BK244 := n9_; have HI250 := n10_; have HB := n11_; clear n0_ n1_ n2_ n3_ n4_ n5_ n6_ n7_ n8_ n9_ n10_ n11_; (try clear hb); (try clear hb2); (try clear hk); (try clear hi); (try clear hgw); (try clear ho0); (try clear ho1); obtain ⟨Ao212, co212, eo212⟩ := Kd.V_slice HO364.out; subst eo212; obtain ⟨Ao213, co213, eo213⟩ := Kd.V_slice HO370.out; subst eo213) | ((with_reducible refine gate_callee (f := 22) rfl ?_); refine goesL_ (some 261) rfl rfl Try.func22 (by kernel_rfl) rfl #[.slice Ao212 t361.length co212, .slice Ao213 t367.length co213] rfl (by (try simp only [List.map_toArray, List.map_cons, List.map_nil]); first | done | rfl | (simp only [List.length_drop, List.length_take]; rfl)) ?_; (with_reducible refine (storagebarterref26_Same.calls k4 _ _ t361 _ _ t367 true _ ?side1 ?side2 ?side3 ?side4 A206.out).mono ?_); (case side1 => first | exact (Kd.V_reads' HO364.out).2.2 | exact cU7 (Kd.V_reads' HO364.out).2.2); (case side2 => exact (Kd.V_reads' HO364.out).2.1); (case side3 => first | exact (Kd.V_reads' HO370.out).2.2 | exact cU7 (Kd.V_reads' HO370.out).2.2); (case side4 => exact (Kd.V_reads' HO370.out).2.1); rintro e w' ⟨rfl, ⟨nd, rfl⟩⟩; refine ⟨_, rfl, ?_⟩; obtain ⟨Ao214, co214, eo214⟩ := Kd.V_slice HO366.out; subst eo214; obtain ⟨Ao215, co215, eo215⟩ := Kd.V_slice HO372.out; subst eo215) | (go_at_call 22; (with_reducible refine (storagebarterref26_Same.calls k4 _ _ t362 _ _ t368 true _ ?side1 ?side2 ?side3 ?side4 A208.out).mono ?_); (case side1 => first | exact (Kd.V_reads' HO366.out).2.2 | exact cU7 (Kd.V_reads' HO366.out).2.2); (case side2 => exact (Kd.V_reads' HO366.out).2.1); (case side3 => first | exact (Kd.V_reads' HO372.out).2.2 | exact cU7 (Kd.V_reads' HO372.out).2.2); (case side4 => exact (Kd.V_reads' HO372.out).2.1); rintro e w' ⟨rfl, ⟨nd, rfl⟩⟩))
          go_roundg k4
          case measure => have := HK1.out; have := HK2.out; have := HK3.out; have := HK4.out; omega
          case rel => exact ⟨(wrap64 (ba1 + 1)), (by first | rfl | (simp; done) | (simp [*]; done)), H', ⟨by have := HK1.out; have := HK2.out; have := HK3.out; have := HK4.out; omega⟩, ⟨by (with_reducible repeat (first | apply Kd.V_alloc | apply Kd.V_drewN | apply Kd.V_drew)); exact HO_1.out⟩, ⟨by (with_reducible repeat (first | apply Kd.V_alloc | apply Kd.V_drewN | apply Kd.V_drew)); exact HO_18.out⟩, ⟨by (with_reducible repeat (first | apply Kd.V_alloc | apply Kd.V_drewN | apply Kd.V_drew)); exact HO_22.out⟩, ⟨by (with_reducible repeat (first | apply Kd.N_alloc | apply Kd.N_drewN | apply Kd.N_drew)); exact HO_79.out⟩, ⟨by (with_reducible repeat (first | apply Kd.R_alloc | apply Kd.R_drewN | apply Kd.R_drew)); exact HO_241.out⟩, ⟨by exact bU7 BK244.out⟩, ⟨by repeat (first | (with_reducible first | exact HI250.out | apply IsS84.alloc | apply IsS84.drewN | apply IsS84.drew | apply IsS84.set_1 | refine IsS84.far ?_ NB250_244.out _) | exact HI250.out)⟩, ⟨by repeat (first | (with_reducible first | exact HB.out | apply below_alloc | apply pw_below_drewN | apply below_drew1 | refine below_set ?_ (IsS84.ge HI250.out) | refine below_set ?_ GE244.out) | exact HB.out)⟩⟩
       rw [if_pos c47] at H
       have c47b0 : decide (x96_3 < (y266.length : Int)) = true := decide_eq_true c47
       clear c47
       by_cases c48 : 0 ≤ x96_3
       case neg =>
        rw [if_neg c48] at H
        exact absurd H (by simp)
       rw [if_pos c48] at H
       have c48b0 : decide (0 ≤ x96_3) = true := decide_eq_true c48
       clear c48
       by_cases c49 : x96_3 < (y266.length : Int)
       case neg =>
        rw [if_neg c49] at H
        exact absurd H (by simp)
       rw [if_pos c49] at H
       have c49b0 : decide (x96_3 < (y266.length : Int)) = true := decide_eq_true c49
       clear c49
       replace H := Option.bind_eq_some_iff.mp H
       obtain ⟨⟨t271, t274, t275, t276, t279⟩, A500, H⟩ := H
       replace H : ((storagebarterref26_Culprit.f k3 (rd_L3 y259 x81_2) ((rd_T49 y266 x96_3).f0) (wrap64 (a4)) (wrap64 (a5))).bind fun bt283 => ((ending_Between.f (rd_L3 y259 x81_2) ((rd_T49 y266 x96_3).f0) ((rd_T49 y266 x96_3).f1)).bind fun bt295 => ((storagebarterref26_Between.f k3 (rd_L3 y259 x81_2) ((rd_T49 y266 x96_3).f0) ((rd_T49 y266 x96_3).f1)).bind fun bt301 => ((storagebarterref26_Same.f k3 t271 bt283.1).bind fun t307 => (if t307 = true then ((storagebarterref26_SameEnding.f k3 t274 t275 t276 t279 bt283.2.1 bt283.2.2.1 bt283.2.2.2.1 bt283.2.2.2.2).bind fun t308 => (if t308 = true then ((storagebarterref26_Same.f k3 bt295.1 bt301.1).bind fun t309 => (if t309 = true then ((storagebarterref26_Same.f k3 bt295.2 bt301.2).bind fun t310 => (if t310 = true then ((ending_Room.f k3 (rd_L3 y259 x81_2) ((rd_T49 y266 x96_3).f0) ((rd_T49 y266 x96_3).f1)).bind fun bt311 => ((storagebarterref26_Room.f k3 (rd_L3 y259 x81_2) ((rd_T49 y266 x96_3).f0) ((rd_T49 y266 x96_3).f1)).bind fun bt313 => (storagebarterlaw26_EndingSteps.j3 k3 l1 a2 a3 a4 a5 t251 (wrap64 (1 + t255)) (wrap64 (1 + t257)) (rd_L3 y259 x81_2) y259 (y259.length : Int) x81_2 y266 (y266.length : Int) x96_3 (!(bt311.1 == bt313.1) || (!(bt311.2 == bt313.2))) a6_0 a6_1 a6_2 a6_3 a6_4 a6_5 a6_6 a6_7 t248 ba0 bt283.2.1 bt283.2.2.1 bt283.2.2.2.1 bt283.2.2.2.2))) else (storagebarterlaw26_EndingSteps.j3 k3 l1 a2 a3 a4 a5 t251 (wrap64 (1 + t255)) (wrap64 (1 + t257)) (rd_L3 y259 x81_2) y259 (y259.length : Int) x81_2 y266 (y266.length : Int) x96_3 true a6_0 a6_1 a6_2 a6_3 a6_4 a6_5 a6_6 a6_7 t248 ba0 bt283.2.1 bt283.2.2.1 bt283.2.2.2.1 bt283.2.2.2.2))) else (storagebarterlaw26_EndingSteps.j3 k3 l1 a2 a3 a4 a5 t251 (wrap64 (1 + t255)) (wrap64 (1 + t257)) (rd_L3 y259 x81_2) y259 (y259.length : Int) x81_2 y266 (y266.length : Int) x96_3 true a6_0 a6_1 a6_2 a6_3 a6_4 a6_5 a6_6 a6_7 t248 ba0 bt283.2.1 bt283.2.2.1 bt283.2.2.2.1 bt283.2.2.2.2))) else (storagebarterlaw26_EndingSteps.j3 k3 l1 a2 a3 a4 a5 t251 (wrap64 (1 + t255)) (wrap64 (1 + t257)) (rd_L3 y259 x81_2) y259 (y259.length : Int) x81_2 y266 (y266.length : Int) x96_3 true a6_0 a6_1 a6_2 a6_3 a6_4 a6_5 a6_6 a6_7 t248 ba0 bt283.2.1 bt283.2.2.1 bt283.2.2.2.1 bt283.2.2.2.2))) else (storagebarterlaw26_EndingSteps.j3 k3 l1 a2 a3 a4 a5 t251 (wrap64 (1 + t255)) (wrap64 (1 + t257)) (rd_L3 y259 x81_2) y259 (y259.length : Int) x81_2 y266 (y266.length : Int) x96_3 true a6_0 a6_1 a6_2 a6_3 a6_4 a6_5 a6_6 a6_7 t248 ba0 bt283.2.1 bt283.2.2.1 bt283.2.2.2.1 bt283.2.2.2.2)))))) = some r := H
       have A50 := Aside0.mk A500
       clear A500
       replace H := Option.bind_eq_some_iff.mp H
       obtain ⟨⟨t283, t286, t287, t288, t291⟩, A510, H⟩ := H
       replace H : ((ending_Between.f (rd_L3 y259 x81_2) ((rd_T49 y266 x96_3).f0) ((rd_T49 y266 x96_3).f1)).bind fun bt295 => ((storagebarterref26_Between.f k3 (rd_L3 y259 x81_2) ((rd_T49 y266 x96_3).f0) ((rd_T49 y266 x96_3).f1)).bind fun bt301 => ((storagebarterref26_Same.f k3 t271 t283).bind fun t307 => (if t307 = true then ((storagebarterref26_SameEnding.f k3 t274 t275 t276 t279 t286 t287 t288 t291).bind fun t308 => (if t308 = true then ((storagebarterref26_Same.f k3 bt295.1 bt301.1).bind fun t309 => (if t309 = true then ((storagebarterref26_Same.f k3 bt295.2 bt301.2).bind fun t310 => (if t310 = true then ((ending_Room.f k3 (rd_L3 y259 x81_2) ((rd_T49 y266 x96_3).f0) ((rd_T49 y266 x96_3).f1)).bind fun bt311 => ((storagebarterref26_Room.f k3 (rd_L3 y259 x81_2) ((rd_T49 y266 x96_3).f0) ((rd_T49 y266 x96_3).f1)).bind fun bt313 => (storagebarterlaw26_EndingSteps.j3 k3 l1 a2 a3 a4 a5 t251 (wrap64 (1 + t255)) (wrap64 (1 + t257)) (rd_L3 y259 x81_2) y259 (y259.length : Int) x81_2 y266 (y266.length : Int) x96_3 (!(bt311.1 == bt313.1) || (!(bt311.2 == bt313.2))) a6_0 a6_1 a6_2 a6_3 a6_4 a6_5 a6_6 a6_7 t248 ba0 t286 t287 t288 t291))) else (storagebarterlaw26_EndingSteps.j3 k3 l1 a2 a3 a4 a5 t251 (wrap64 (1 + t255)) (wrap64 (1 + t257)) (rd_L3 y259 x81_2) y259 (y259.length : Int) x81_2 y266 (y266.length : Int) x96_3 true a6_0 a6_1 a6_2 a6_3 a6_4 a6_5 a6_6 a6_7 t248 ba0 t286 t287 t288 t291))) else (storagebarterlaw26_EndingSteps.j3 k3 l1 a2 a3 a4 a5 t251 (wrap64 (1 + t255)) (wrap64 (1 + t257)) (rd_L3 y259 x81_2) y259 (y259.length : Int) x81_2 y266 (y266.length : Int) x96_3 true a6_0 a6_1 a6_2 a6_3 a6_4 a6_5 a6_6 a6_7 t248 ba0 t286 t287 t288 t291))) else (storagebarterlaw26_EndingSteps.j3 k3 l1 a2 a3 a4 a5 t251 (wrap64 (1 + t255)) (wrap64 (1 + t257)) (rd_L3 y259 x81_2) y259 (y259.length : Int) x81_2 y266 (y266.length : Int) x96_3 true a6_0 a6_1 a6_2 a6_3 a6_4 a6_5 a6_6 a6_7 t248 ba0 t286 t287 t288 t291))) else (storagebarterlaw26_EndingSteps.j3 k3 l1 a2 a3 a4 a5 t251 (wrap64 (1 + t255)) (wrap64 (1 + t257)) (rd_L3 y259 x81_2) y259 (y259.length : Int) x81_2 y266 (y266.length : Int) x96_3 true a6_0 a6_1 a6_2 a6_3 a6_4 a6_5 a6_6 a6_7 t248 ba0 t286 t287 t288 t291))))) = some r := H
       have A51 := Aside0.mk A510
       clear A510
       replace H := Option.bind_eq_some_iff.mp H
       obtain ⟨⟨t295, t296⟩, A520, H⟩ := H
       replace H : ((storagebarterref26_Between.f k3 (rd_L3 y259 x81_2) ((rd_T49 y266 x96_3).f0) ((rd_T49 y266 x96_3).f1)).bind fun bt301 => ((storagebarterref26_Same.f k3 t271 t283).bind fun t307 => (if t307 = true then ((storagebarterref26_SameEnding.f k3 t274 t275 t276 t279 t286 t287 t288 t291).bind fun t308 => (if t308 = true then ((storagebarterref26_Same.f k3 t295 bt301.1).bind fun t309 => (if t309 = true then ((storagebarterref26_Same.f k3 t296 bt301.2).bind fun t310 => (if t310 = true then ((ending_Room.f k3 (rd_L3 y259 x81_2) ((rd_T49 y266 x96_3).f0) ((rd_T49 y266 x96_3).f1)).bind fun bt311 => ((storagebarterref26_Room.f k3 (rd_L3 y259 x81_2) ((rd_T49 y266 x96_3).f0) ((rd_T49 y266 x96_3).f1)).bind fun bt313 => (storagebarterlaw26_EndingSteps.j3 k3 l1 a2 a3 a4 a5 t251 (wrap64 (1 + t255)) (wrap64 (1 + t257)) (rd_L3 y259 x81_2) y259 (y259.length : Int) x81_2 y266 (y266.length : Int) x96_3 (!(bt311.1 == bt313.1) || (!(bt311.2 == bt313.2))) a6_0 a6_1 a6_2 a6_3 a6_4 a6_5 a6_6 a6_7 t248 ba0 t286 t287 t288 t291))) else (storagebarterlaw26_EndingSteps.j3 k3 l1 a2 a3 a4 a5 t251 (wrap64 (1 + t255)) (wrap64 (1 + t257)) (rd_L3 y259 x81_2) y259 (y259.length : Int) x81_2 y266 (y266.length : Int) x96_3 true a6_0 a6_1 a6_2 a6_3 a6_4 a6_5 a6_6 a6_7 t248 ba0 t286 t287 t288 t291))) else (storagebarterlaw26_EndingSteps.j3 k3 l1 a2 a3 a4 a5 t251 (wrap64 (1 + t255)) (wrap64 (1 + t257)) (rd_L3 y259 x81_2) y259 (y259.length : Int) x81_2 y266 (y266.length : Int) x96_3 true a6_0 a6_1 a6_2 a6_3 a6_4 a6_5 a6_6 a6_7 t248 ba0 t286 t287 t288 t291))) else (storagebarterlaw26_EndingSteps.j3 k3 l1 a2 a3 a4 a5 t251 (wrap64 (1 + t255)) (wrap64 (1 + t257)) (rd_L3 y259 x81_2) y259 (y259.length : Int) x81_2 y266 (y266.length : Int) x96_3 true a6_0 a6_1 a6_2 a6_3 a6_4 a6_5 a6_6 a6_7 t248 ba0 t286 t287 t288 t291))) else (storagebarterlaw26_EndingSteps.j3 k3 l1 a2 a3 a4 a5 t251 (wrap64 (1 + t255)) (wrap64 (1 + t257)) (rd_L3 y259 x81_2) y259 (y259.length : Int) x81_2 y266 (y266.length : Int) x96_3 true a6_0 a6_1 a6_2 a6_3 a6_4 a6_5 a6_6 a6_7 t248 ba0 t286 t287 t288 t291)))) = some r := H
       have A52 := Aside0.mk A520
       clear A520
       replace H := Option.bind_eq_some_iff.mp H
       obtain ⟨⟨t301, t302⟩, A530, H⟩ := H
       replace H : ((storagebarterref26_Same.f k3 t271 t283).bind fun t307 => (if t307 = true then ((storagebarterref26_SameEnding.f k3 t274 t275 t276 t279 t286 t287 t288 t291).bind fun t308 => (if t308 = true then ((storagebarterref26_Same.f k3 t295 t301).bind fun t309 => (if t309 = true then ((storagebarterref26_Same.f k3 t296 t302).bind fun t310 => (if t310 = true then ((ending_Room.f k3 (rd_L3 y259 x81_2) ((rd_T49 y266 x96_3).f0) ((rd_T49 y266 x96_3).f1)).bind fun bt311 => ((storagebarterref26_Room.f k3 (rd_L3 y259 x81_2) ((rd_T49 y266 x96_3).f0) ((rd_T49 y266 x96_3).f1)).bind fun bt313 => (storagebarterlaw26_EndingSteps.j3 k3 l1 a2 a3 a4 a5 t251 (wrap64 (1 + t255)) (wrap64 (1 + t257)) (rd_L3 y259 x81_2) y259 (y259.length : Int) x81_2 y266 (y266.length : Int) x96_3 (!(bt311.1 == bt313.1) || (!(bt311.2 == bt313.2))) a6_0 a6_1 a6_2 a6_3 a6_4 a6_5 a6_6 a6_7 t248 ba0 t286 t287 t288 t291))) else (storagebarterlaw26_EndingSteps.j3 k3 l1 a2 a3 a4 a5 t251 (wrap64 (1 + t255)) (wrap64 (1 + t257)) (rd_L3 y259 x81_2) y259 (y259.length : Int) x81_2 y266 (y266.length : Int) x96_3 true a6_0 a6_1 a6_2 a6_3 a6_4 a6_5 a6_6 a6_7 t248 ba0 t286 t287 t288 t291))) else (storagebarterlaw26_EndingSteps.j3 k3 l1 a2 a3 a4 a5 t251 (wrap64 (1 + t255)) (wrap64 (1 + t257)) (rd_L3 y259 x81_2) y259 (y259.length : Int) x81_2 y266 (y266.length : Int) x96_3 true a6_0 a6_1 a6_2 a6_3 a6_4 a6_5 a6_6 a6_7 t248 ba0 t286 t287 t288 t291))) else (storagebarterlaw26_EndingSteps.j3 k3 l1 a2 a3 a4 a5 t251 (wrap64 (1 + t255)) (wrap64 (1 + t257)) (rd_L3 y259 x81_2) y259 (y259.length : Int) x81_2 y266 (y266.length : Int) x96_3 true a6_0 a6_1 a6_2 a6_3 a6_4 a6_5 a6_6 a6_7 t248 ba0 t286 t287 t288 t291))) else (storagebarterlaw26_EndingSteps.j3 k3 l1 a2 a3 a4 a5 t251 (wrap64 (1 + t255)) (wrap64 (1 + t257)) (rd_L3 y259 x81_2) y259 (y259.length : Int) x81_2 y266 (y266.length : Int) x96_3 true a6_0 a6_1 a6_2 a6_3 a6_4 a6_5 a6_6 a6_7 t248 ba0 t286 t287 t288 t291))) = some r := H
       have A53 := Aside0.mk A530
       clear A530
       have HC54 := Aside0.mk H
       clear H
       have p269 : 0 ≤ (x96_3 : Int) := of_decide_eq_true (by first | (with_reducible assumption) | assumption)
       have q269 : x96_3 < (y266.length : Int) := of_decide_eq_true (by first | (with_reducible assumption) | assumption)
       obtain ⟨ad269, e269, hx269_0, hx269_1⟩ := at_T49 (Kd.R_reads' HO_94.out).2.2 x96_3 p269 q269
       cases e269
       replace p269 := eq_true p269
       replace q269 := eq_true q269
       go_upto_region 24 with (first | ((with_reducible refine gate_dst (N := 24) rfl ?_); refine box_event ?hg (N := 24) ?hd (cs := #[.int .i64 0, .int .i64 0]) (t := 49) ?hr ?_; (case hd => rfl); (case hg => rfl); (case hr => first | (go_simp; done) | (go_simp; rfl)); intro gb270 hg w55 hbox hb; have n0_ := Aside0.mk (Kd.V_below (Kd.V_elderB (vU7 HO_1.out) gb270 (Nat.le_of_eq hg.symm)) hb); have n1_ := Aside0.mk (Kd.V_below (Kd.V_elderB (vU7 HO_18.out) gb270 (Nat.le_of_eq hg.symm)) hb); have n2_ := Aside0.mk (Kd.V_below (Kd.V_elderB (vU7 HO_22.out) gb270 (Nat.le_of_eq hg.symm)) hb); have n3_ := Aside0.mk (Kd.N_below (Kd.N_elderB (nU7 HO_79.out) gb270 (Nat.le_of_eq hg.symm)) hb); have n4_ := Aside0.mk (Kd.R_below (Kd.R_elderB (rU7 HO_94.out) gb270 (Nat.le_of_eq hg.symm)) hb); have n5_ := Aside0.mk (blk_below (g := gb244) (bU7 BK244.out) hb); have n6_ := Aside0.mk (IsS84.below (by repeat (first | (with_reducible first | exact HI250.out | apply IsS84.alloc | apply IsS84.drewN | apply IsS84.drew | apply IsS84.set_1 | refine IsS84.far ?_ NB250_244.out _) | exact HI250.out)) hb); have n7_ := Aside0.mk (below_step (by repeat (first | (with_reducible first | exact HB.out | apply below_alloc | apply pw_below_drewN | apply below_drew1 | refine below_set ?_ (IsS84.ge HI250.out) | refine below_set ?_ GE244.out) | exact HB.out)) hb); have n8_ := Aside0.mk (hbox); have n9_ := Aside0.mk ((by rw [hg]; exact (below_size (by repeat (first | (with_reducible first | exact HB.out | apply below_alloc | apply pw_below_drewN | apply below_drew1 | refine below_set ?_ (IsS84.ge HI250.out) | refine below_set ?_ GE244.out) | exact HB.out))) : w.heap.size ≤ gb270)); have n10_ := Aside0.mk ((by rw [hg]; exact (below_size (by repeat (first | (with_reducible first | exact HB.out | apply below_alloc | apply pw_below_drewN | apply below_drew1 | refine below_set ?_ (IsS84.ge HI250.out) | refine below_set ?_ GE244.out) | exact HB.out))) : w.heap.size ≤ gb270)); have n11_ := Aside0.mk ((by rw [hg]; exact Nat.ne_of_lt (blk_lt (g := gb244) (o := .cells #[.int .i64 a6_0, .int .i64 a6_1, .int .i64 a6_2, .int .i64 a6_3, .int .i64 a6_4, .int .i64 a6_5, .int .i64 a6_6, .bool a6_7] 44 (0, 0)) (bU7 BK244.out)) : gb244 ≠ gb270)); have n12_ := Aside0.mk ((by rw [hg]; exact Nat.ne_of_gt (blk_lt (g := gb244) (o := .cells #[.int .i64 a6_0, .int .i64 a6_1, .int .i64 a6_2, .int .i64 a6_3, .int .i64 a6_4, .int .i64 a6_5, .int .i64 a6_6, .bool a6_7] 44 (0, 0)) (bU7 BK244.out)) : gb270 ≠ gb244)); have n13_ := Aside0.mk ((by rw [hg]; exact Nat.ne_of_lt (IsS84.lt (show IsS84 w _ g250 t248 ba0 from by repeat (first | (with_reducible first | exact HI250.out | apply IsS84.alloc | apply IsS84.drewN | apply IsS84.drew | apply IsS84.set_1 | refine IsS84.far ?_ NB250_244.out _) | exact HI250.out))) : g250 ≠ gb270)); have n14_ := Aside0.mk ((by rw [hg]; exact Nat.ne_of_gt (IsS84.lt (show IsS84 w _ g250 t248 ba0 from by repeat (first | (with_reducible first | exact HI250.out | apply IsS84.alloc | apply IsS84.drewN | apply IsS84.drew | apply IsS84.set_1 | refine IsS84.far ?_ NB250_244.out _) | exact HI250.out))) : gb270 ≠ g250)); clear HO_1; clear HO_18; clear HO_22; clear HO_79; clear HO_94; clear BK244; clear HI250; clear HB; have HO_1 := n0_; have HO_18 := n1_; have HO_22 := n2_; have HO_79 := n3_; have HO_94 := n4_; have BK244 := n5_; have HI250 := n6_; have HB := n7_; have BK270 := n8_; have GW270 := n9_; have GE270 := n10_; have NB244_270 := n11_; have NB270_244 := n12_; have NB250_270 := n13_; have NB270_250 := n14_; clear n0_ n1_ n2_ n3_ n4_ n5_ n6_ n7_ n8_ n9_ n10_ n11_ n12_ n13_ n14_; clear hb hbox hg; have hnb56 := NB270_244.out; have hnc56 := NB244_270.out; have hnb57 := NB270_250.out; have hnc57 := NB250_270.out; have hcz58_0 : w55.cell? ⟨gb270, 0, none⟩ = some (.int .i64 0) := (blk_cell BK270.out 0).trans rfl; have hcz58_1 : w55.cell? ⟨gb270, 1, none⟩ = some (.int .i64 0) := (blk_cell BK270.out 1).trans rfl; have hfz58_0 := blk_frozen BK270.out 0; have hfz58_1 := blk_frozen BK270.out 1) | ((with_reducible refine gate_callee (f := 20) rfl ?_); have q_4 := Aside0.mk (Kd.V_mono (Kd.V_far (p := ⟨gb270, 1, none⟩) (Kd.V_far (p := ⟨gb270, 0, none⟩) (Kd.V_mono HO_22.out (fun k_ hk => (⟨hk, hk.2⟩ : _ ∧ k_ ≠ gb270))) (fun _ hk => hk.2) (.int .i64 ((rd_T49 y266 x96_3).f0))) (fun _ hk => hk.2) (.int .i64 ((rd_T49 y266 x96_3).f1))) (fun _ h_ => h_.1)); have q_3 := Aside0.mk (Kd.N_mono (Kd.N_far (p := ⟨gb270, 1, none⟩) (Kd.N_far (p := ⟨gb270, 0, none⟩) (Kd.N_mono HO_79.out (fun k_ hk => (⟨hk, hk.2⟩ : _ ∧ k_ ≠ gb270))) (fun _ hk => hk.2) (.int .i64 ((rd_T49 y266 x96_3).f0))) (fun _ hk => hk.2) (.int .i64 ((rd_T49 y266 x96_3).f1))) (fun _ h_ => h_.1)); have q_2 := Aside0.mk (Kd.R_mono (Kd.R_far (p := ⟨gb270, 1, none⟩) (Kd.R_far (p := ⟨gb270, 0, none⟩) (Kd.R_mono HO_94.out (fun k_ hk => (⟨hk, hk.2⟩ : _ ∧ k_ ≠ gb270))) (fun _ hk => hk.2) (.int .i64 ((rd_T49 y266 x96_3).f0))) (fun _ hk => hk.2) (.int .i64 ((rd_T49 y266 x96_3).f1))) (fun _ h_ => h_.1)); refine goesL_ (some 108) rfl rfl Try.func20 (by kernel_rfl) rfl #[.slice ba2 (rd_L3 y259 x81_2).length c264_0, .int .i64 ((rd_T49 y266 x96_3).f0), .int .i64 (wrap64 (a4)), .int .i64 (wrap64 (a5))] rfl (by (try simp only [List.map_toArray, List.map_cons, List.map_nil]); first | done | rfl | (simp only [List.length_drop, List.length_take]; rfl)) ?_; (with_reducible refine (ending_Culprit.calls _ _ (rd_L3 y259 x81_2) ((rd_T49 y266 x96_3).f0) (wrap64 (a4)) (wrap64 (a5)) t271 t274 t275 t276 t279 _ ?side1 ?side2 A50.out).mono ?_); (case side1 => refine (Kd.V_reads' (e := 44) (base := w.heap.size) (ok := fun k_ => (((P1_ k_ ∨ w.heap.size ≤ k_) ∧ (some k_ ≠ (.slice (some ad264) y259.length co40 : Value).ownBlock ∧ (some k_ ≠ (.slice (some ad269) y266.length co46 : Value).ownBlock ∧ (k_ ≠ gb244 ∧ k_ ≠ g250)))) ∧ k_ ≠ gb270)) (n := (rd_L3 y259 x81_2).length) (c := c264_0) ?_).2.2; exact (vU7 (q_4.out))); (case side2 => exact (Kd.V_reads' HO_22.out).2.1); rintro e w59 ⟨v272, v277, v280, rfl, ho0, ho1, ho2, hb⟩; refine ⟨_, rfl, ?_⟩; have n0_ := Aside0.mk (Kd.V_below (vU7 ((Kd.V_mono (Kd.V_far (p := ⟨gb270, 1, none⟩) (Kd.V_far (p := ⟨gb270, 0, none⟩) (Kd.V_mono HO_1.out (fun k_ hk => (⟨hk, hk.2⟩ : _ ∧ k_ ≠ gb270))) (fun _ hk => hk.2) (.int .i64 ((rd_T49 y266 x96_3).f0))) (fun _ hk => hk.2) (.int .i64 ((rd_T49 y266 x96_3).f1))) (fun _ h_ => h_.1)))) hb); have n1_ := Aside0.mk (Kd.V_below (vU7 ((Kd.V_mono (Kd.V_far (p := ⟨gb270, 1, none⟩) (Kd.V_far (p := ⟨gb270, 0, none⟩) (Kd.V_mono HO_18.out (fun k_ hk => (⟨hk, hk.2⟩ : _ ∧ k_ ≠ gb270))) (fun _ hk => hk.2) (.int .i64 ((rd_T49 y266 x96_3).f0))) (fun _ hk => hk.2) (.int .i64 ((rd_T49 y266 x96_3).f1))) (fun _ h_ => h_.1)))) hb); have n2_ := Aside0.mk (Kd.V_below (vU7 (q_4.out)) hb); have n3_ := Aside0.mk (Kd.N_below (nU7 (q_3.out)) hb); have n4_ := Aside0.mk (Kd.R_below (rU7 (q_2.out)) hb); have n5_ := Aside0.mk (Kd.V_lower (Kd.V_mono (ok' := fun k_ => (P1_ k_ ∨ w.heap.size ≤ k_) ∧ some k_ ≠ (.slice (some ad264) y259.length co40 : Value).ownBlock ∧ some k_ ≠ (.slice (some ad269) y266.length co46 : Value).ownBlock ∧ k_ ≠ gb244 ∧ k_ ≠ gb270 ∧ k_ ≠ g250) (Kd.R_V (Kd.R_bound ho0)) (fun k_ hk_ => ⟨(.inr (Nat.le_trans (below_size (by repeat (first | (with_reducible first | exact HB.out | apply below_alloc | apply pw_below_drewN | apply below_drew1 | refine below_set ?_ (IsS84.ge HI250.out) | refine below_set ?_ (Aside0.out (by assumption))) | exact HB.out))) hk_.2.1)), (Kd.fresh' (Kd.N_lt (nU7 (q_3.out))) k_ hk_.2.1), (Kd.fresh' (Kd.R_lt (rU7 (q_2.out))) k_ hk_.2.1), (Kd.freshB (g := gb244) (o := .cells #[.int .i64 a6_0, .int .i64 a6_1, .int .i64 a6_2, .int .i64 a6_3, .int .i64 a6_4, .int .i64 a6_5, .int .i64 a6_6, .bool a6_7] 44 (0, 0)) (by (with_reducible repeat (first | refine blk_drewN ?_ _ | refine blk_drew ?_ | refine blk_alloc ?_ _)); refine blk_far ?_ NB244_270.out _; (with_reducible repeat (first | refine blk_drewN ?_ _ | refine blk_drew ?_ | refine blk_alloc ?_ _)); refine blk_far ?_ NB244_270.out _; exact bU7 BK244.out) k_ hk_.2.1), (Kd.freshB (g := gb270) (o := .cells #[.int .i64 ((rd_T49 y266 x96_3).f0), .int .i64 ((rd_T49 y266 x96_3).f1)] 49 (0, 0)) (by (with_reducible repeat (first | refine blk_drewN ?_ _ | refine blk_drew ?_ | refine blk_alloc ?_ _)); refine blk_put (cs := #[.int .i64 ((rd_T49 y266 x96_3).f0), .int .i64 0]) ?_ 1 _ rfl; (with_reducible repeat (first | refine blk_drewN ?_ _ | refine blk_drew ?_ | refine blk_alloc ?_ _)); refine blk_put (cs := #[.int .i64 0, .int .i64 0]) ?_ 0 _ rfl; exact bU7 BK270.out) k_ hk_.2.1), (IsS84.fresh (by repeat (first | (with_reducible first | exact HI250.out | apply IsS84.alloc | apply IsS84.drewN | apply IsS84.drew | apply IsS84.set_1 | refine IsS84.far ?_ NB250_244.out _ | refine IsS84.far ?_ NB250_270.out _) | exact HI250.out)) k_ hk_.2.1)⟩)) (below_size (by repeat (first | (with_reducible first | exact HB.out | apply below_alloc | apply pw_below_drewN | apply below_drew1 | refine below_set ?_ (IsS84.ge HI250.out) | refine below_set ?_ (Aside0.out (by assumption))) | exact HB.out)))); have n6_ := Aside0.mk (Kd.V_lower (Kd.V_mono (ok' := fun k_ => (P1_ k_ ∨ w.heap.size ≤ k_) ∧ some k_ ≠ (.slice (some ad264) y259.length co40 : Value).ownBlock ∧ some k_ ≠ (.slice (some ad269) y266.length co46 : Value).ownBlock ∧ k_ ≠ gb244 ∧ k_ ≠ gb270 ∧ k_ ≠ g250) (Kd.R_V (Kd.R_bound ho1)) (fun k_ hk_ => ⟨(.inr (Nat.le_trans (below_size (by repeat (first | (with_reducible first | exact HB.out | apply below_alloc | apply pw_below_drewN | apply below_drew1 | refine below_set ?_ (IsS84.ge HI250.out) | refine below_set ?_ (Aside0.out (by assumption))) | exact HB.out))) hk_.2.1)), (Kd.fresh' (Kd.N_lt (nU7 (q_3.out))) k_ hk_.2.1), (Kd.fresh' (Kd.R_lt (rU7 (q_2.out))) k_ hk_.2.1), (Kd.freshB (g := gb244) (o := .cells #[.int .i64 a6_0, .int .i64 a6_1, .int .i64 a6_2, .int .i64 a6_3, .int .i64 a6_4, .int .i64 a6_5, .int .i64 a6_6, .bool a6_7] 44 (0, 0)) (by (with_reducible repeat (first | refine blk_drewN ?_ _ | refine blk_drew ?_ | refine blk_alloc ?_ _)); refine blk_far ?_ NB244_270.out _; (with_reducible repeat (first | refine blk_drewN ?_ _ | refine blk_drew ?_ | refine blk_alloc ?_ _)); refine blk_far ?_ NB244_270.out _; exact bU7 BK244.out) k_ hk_.2.1), (Kd.freshB (g := gb270) (o := .cells #[.int .i64 ((rd_T49 y266 x96_3).f0), .int .i64 ((rd_T49 y266 x96_3).f1)] 49 (0, 0)) (by (with_reducible repeat (first | refine blk_drewN ?_ _ | refine blk_drew ?_ | refine blk_alloc ?_ _)); refine blk_put (cs := #[.int .i64 ((rd_T49 y266 x96_3).f0), .int .i64 0]) ?_ 1 _ rfl; (with_reducible repeat (first | refine blk_drewN ?_ _ | refine blk_drew ?_ | refine blk_alloc ?_ _)); refine blk_put (cs := #[.int .i64 0, .int .i64 0]) ?_ 0 _ rfl; exact bU7 BK270.out) k_ hk_.2.1), (IsS84.fresh (by repeat (first | (with_reducible first | exact HI250.out | apply IsS84.alloc | apply IsS84.drewN | apply IsS84.drew | apply IsS84.set_1 | refine IsS84.far ?_ NB250_244.out _ | refine IsS84.far ?_ NB250_270.out _) | exact HI250.out)) k_ hk_.2.1)⟩)) (below_size (by repeat (first | (with_reducible first | exact HB.out | apply below_alloc | apply pw_below_drewN | apply below_drew1 | refine below_set ?_ (IsS84.ge HI250.out) | refine below_set ?_ (Aside0.out (by assumption))) | exact HB.out)))); have n7_ := Aside0.mk (Kd.V_lower (Kd.V_mono (ok' := fun k_ => (P1_ k_ ∨ w.heap.size ≤ k_) ∧ some k_ ≠ (.slice (some ad264) y259.length co40 : Value).ownBlock ∧ some k_ ≠ (.slice (some ad269) y266.length co46 : Value).ownBlock ∧ k_ ≠ gb244 ∧ k_ ≠ gb270 ∧ k_ ≠ g250) (Kd.R_V (Kd.R_bound ho2)) (fun k_ hk_ => ⟨(.inr (Nat.le_trans (below_size (by repeat (first | (with_reducible first | exact HB.out | apply below_alloc | apply pw_below_drewN | apply below_drew1 | refine below_set ?_ (IsS84.ge HI250.out) | refine below_set ?_ (Aside0.out (by assumption))) | exact HB.out))) hk_.2.1)), (Kd.fresh' (Kd.N_lt (nU7 (q_3.out))) k_ hk_.2.1), (Kd.fresh' (Kd.R_lt (rU7 (q_2.out))) k_ hk_.2.1), (Kd.freshB (g := gb244) (o := .cells #[.int .i64 a6_0, .int .i64 a6_1, .int .i64 a6_2, .int .i64 a6_3, .int .i64 a6_4, .int .i64 a6_5, .int .i64 a6_6, .bool a6_7] 44 (0, 0)) (by (with_reducible repeat (first | refine blk_drewN ?_ _ | refine blk_drew ?_ | refine blk_alloc ?_ _)); refine blk_far ?_ NB244_270.out _; (with_reducible repeat (first | refine blk_drewN ?_ _ | refine blk_drew ?_ | refine blk_alloc ?_ _)); refine blk_far ?_ NB244_270.out _; exact bU7 BK244.out) k_ hk_.2.1), (Kd.freshB (g := gb270) (o := .cells #[.int .i64 ((rd_T49 y266 x96_3).f0), .int .i64 ((rd_T49 y266 x96_3).f1)] 49 (0, 0)) (by (with_reducible repeat (first | refine blk_drewN ?_ _ | refine blk_drew ?_ | refine blk_alloc ?_ _)); refine blk_put (cs := #[.int .i64 ((rd_T49 y266 x96_3).f0), .int .i64 0]) ?_ 1 _ rfl; (with_reducible repeat (first | refine blk_drewN ?_ _ | refine blk_drew ?_ | refine blk_alloc ?_ _)); refine blk_put (cs := #[.int .i64 0, .int .i64 0]) ?_ 0 _ rfl; exact bU7 BK270.out) k_ hk_.2.1), (IsS84.fresh (by repeat (first | (with_reducible first | exact HI250.out | apply IsS84.alloc | apply IsS84.drewN | apply IsS84.drew | apply IsS84.set_1 | refine IsS84.far ?_ NB250_244.out _ | refine IsS84.far ?_ NB250_270.out _) | exact HI250.out)) k_ hk_.2.1)⟩)) (below_size (by repeat (first | (with_reducible first | exact HB.out | apply below_alloc | apply pw_below_drewN | apply below_drew1 | refine below_set ?_ (IsS84.ge HI250.out) | refine below_set ?_ (Aside0.out (by assumption))) | exact HB.out)))); have n8_ := Aside0.mk (blk_below (g := gb244) (o := .cells #[.int .i64 a6_0, .int .i64 a6_1, .int .i64 a6_2, .int .i64 a6_3, .int .i64 a6_4, .int .i64 a6_5, .int .i64 a6_6, .bool a6_7] 44 (0, 0)) (by (with_reducible repeat (first | refine blk_drewN ?_ _ | refine blk_drew ?_ | refine blk_alloc ?_ _)); refine blk_far ?_ NB244_270.out _; (with_reducible repeat (first | refine blk_drewN ?_ _ | refine blk_drew ?_ | refine blk_alloc ?_ _)); refine blk_far ?_ NB244_270.out _; exact bU7 BK244.out) hb); have n9_ := Aside0.mk (IsS84.below (show IsS84 w ((w55.setCell ⟨gb270, 0, none⟩ (.int .i64 ((rd_T49 y266 x96_3).f0))).setCell ⟨gb270, 1, none⟩ (.int .i64 ((rd_T49 y266 x96_3).f1))) g250 t248 ba0 from by repeat (first | (with_reducible first | exact HI250.out | apply IsS84.alloc | apply IsS84.drewN | apply IsS84.drew | apply IsS84.set_1 | refine IsS84.far ?_ NB250_244.out _ | refine IsS84.far ?_ NB250_270.out _) | exact HI250.out)) hb); have n10_ := Aside0.mk (blk_below (g := gb270) (o := .cells #[.int .i64 ((rd_T49 y266 x96_3).f0), .int .i64 ((rd_T49 y266 x96_3).f1)] 49 (0, 0)) (by (with_reducible repeat (first | refine blk_drewN ?_ _ | refine blk_drew ?_ | refine blk_alloc ?_ _)); refine blk_put (cs := #[.int .i64 ((rd_T49 y266 x96_3).f0), .int .i64 0]) ?_ 1 _ rfl; (with_reducible repeat (first | refine blk_drewN ?_ _ | refine blk_drew ?_ | refine blk_alloc ?_ _)); refine blk_put (cs := #[.int .i64 0, .int .i64 0]) ?_ 0 _ rfl; exact bU7 BK270.out) hb); have n11_ := Aside0.mk (below_step (by repeat (first | (with_reducible first | exact HB.out | apply below_alloc | apply pw_below_drewN | apply below_drew1 | refine below_set ?_ (IsS84.ge HI250.out) | refine below_set ?_ (Aside0.out (by assumption))) | exact HB.out)) hb); clear q_4 q_3 q_2; clear HO_1; clear HO_18; clear HO_22; clear HO_79; clear HO_94; clear BK244; clear HI250; clear BK270; clear HB; have HO_1 := n0_; have HO_18 := n1_; have HO_22 := n2_; have HO_79 := n3_; have HO_94 := n4_; have HO273 := n5_; have HO278 := n6_; have HO281 := n7_; have BK244 := n8_; have HI250 := n9_; have BK270 := n10_; have HB := n11_; clear n0_ n1_ n2_ n3_ n4_ n5_ n6_ n7_ n8_ n9_ n10_ n11_; (try clear hb); (try clear hb2); (try clear hk); (try clear hi); (try clear hgw); (try clear ho0); (try clear ho1); (try clear ho2)) | ((with_reducible refine gate_dst (N := 26) rfl ?_); refine box_event ?hg (N := 26) ?hd (cs := #[.int .i64 0, .int .i64 0, .slice none 0 0, .slice none 0 0]) (t := 32) ?hr ?_; (case hd => rfl); (case hg => rfl); (case hr => first | (go_simp; done) | (go_simp; rfl)); intro gb282 hg w60 hbox hb; have n0_ := Aside0.mk (Kd.V_below (Kd.V_elderB (vU7 HO_1.out) gb282 (Nat.le_of_eq hg.symm)) hb); have n1_ := Aside0.mk (Kd.V_below (Kd.V_elderB (vU7 HO_18.out) gb282 (Nat.le_of_eq hg.symm)) hb); have n2_ := Aside0.mk (Kd.V_below (Kd.V_elderB (vU7 HO_22.out) gb282 (Nat.le_of_eq hg.symm)) hb); have n3_ := Aside0.mk (Kd.N_below (Kd.N_elderB (nU7 HO_79.out) gb282 (Nat.le_of_eq hg.symm)) hb); have n4_ := Aside0.mk (Kd.R_below (rU7 HO_94.out) hb); have n5_ := Aside0.mk (Kd.V_below (Kd.V_elderB (vU7 HO273.out) gb282 (Nat.le_of_eq hg.symm)) hb); have n6_ := Aside0.mk (Kd.V_below (Kd.V_elderB (vU7 HO278.out) gb282 (Nat.le_of_eq hg.symm)) hb); have n7_ := Aside0.mk (Kd.V_below (Kd.V_elderB (vU7 HO281.out) gb282 (Nat.le_of_eq hg.symm)) hb); have n8_ := Aside0.mk (blk_below (g := gb244) (bU7 BK244.out) hb); have n9_ := Aside0.mk (IsS84.below (by repeat (first | (with_reducible first | exact HI250.out | apply IsS84.alloc | apply IsS84.drewN | apply IsS84.drew | apply IsS84.set_1 | refine IsS84.far ?_ NB250_244.out _ | refine IsS84.far ?_ NB250_270.out _) | exact HI250.out)) hb); have n10_ := Aside0.mk (blk_below (g := gb270) (bU7 BK270.out) hb); have n11_ := Aside0.mk (below_step (by repeat (first | (with_reducible first | exact HB.out | apply below_alloc | apply pw_below_drewN | apply below_drew1 | refine below_set ?_ (IsS84.ge HI250.out) | refine below_set ?_ (Aside0.out (by assumption))) | exact HB.out)) hb); have n12_ := Aside0.mk (hbox); have n13_ := Aside0.mk ((by rw [hg]; exact (below_size (by repeat (first | (with_reducible first | exact HB.out | apply below_alloc | apply pw_below_drewN | apply below_drew1 | refine below_set ?_ (IsS84.ge HI250.out) | refine below_set ?_ (Aside0.out (by assumption))) | exact HB.out))) : w.heap.size ≤ gb282)); have n14_ := Aside0.mk ((by rw [hg]; exact (below_size (by repeat (first | (with_reducible first | exact HB.out | apply below_alloc | apply pw_below_drewN | apply below_drew1 | refine below_set ?_ (IsS84.ge HI250.out) | refine below_set ?_ (Aside0.out (by assumption))) | exact HB.out))) : w.heap.size ≤ gb282)); have n15_ := Aside0.mk ((by rw [hg]; exact Nat.ne_of_lt (blk_lt (g := gb244) (o := .cells #[.int .i64 a6_0, .int .i64 a6_1, .int .i64 a6_2, .int .i64 a6_3, .int .i64 a6_4, .int .i64 a6_5, .int .i64 a6_6, .bool a6_7] 44 (0, 0)) (bU7 BK244.out)) : gb244 ≠ gb282)); have n16_ := Aside0.mk ((by rw [hg]; exact Nat.ne_of_gt (blk_lt (g := gb244) (o := .cells #[.int .i64 a6_0, .int .i64 a6_1, .int .i64 a6_2, .int .i64 a6_3, .int .i64 a6_4, .int .i64 a6_5, .int .i64 a6_6, .bool a6_7] 44 (0, 0)) (bU7 BK244.out)) : gb282 ≠ gb244)); have n17_ := Aside0.mk ((by rw [hg]; exact Nat.ne_of_lt (blk_lt (g := gb270) (o := .cells #[.int .i64 ((rd_T49 y266 x96_3).f0), .int .i64 ((rd_T49 y266 x96_3).f1)] 49 (0, 0)) (bU7 BK270.out)) : gb270 ≠ gb282)); have n18_ := Aside0.mk ((by rw [hg]; exact Nat.ne_of_gt (blk_lt (g := gb270) (o := .cells #[.int .i64 ((rd_T49 y266 x96_3).f0), .int .i64 ((rd_T49 y266 x96_3).f1)] 49 (0, 0)) (bU7 BK270.out)) : gb282 ≠ gb270)); have n19_ := Aside0.mk ((by rw [hg]; exact Nat.ne_of_lt (IsS84.lt (show IsS84 w _ g250 t248 ba0 from by repeat (first | (with_reducible first | exact HI250.out | apply IsS84.alloc | apply IsS84.drewN | apply IsS84.drew | apply IsS84.set_1 | refine IsS84.far ?_ NB250_244.out _ | refine IsS84.far ?_ NB250_270.out _) | exact HI250.out))) : g250 ≠ gb282)); have n20_ := Aside0.mk ((by rw [hg]; exact Nat.ne_of_gt (IsS84.lt (show IsS84 w _ g250 t248 ba0 from by repeat (first | (with_reducible first | exact HI250.out | apply IsS84.alloc | apply IsS84.drewN | apply IsS84.drew | apply IsS84.set_1 | refine IsS84.far ?_ NB250_244.out _ | refine IsS84.far ?_ NB250_270.out _) | exact HI250.out))) : gb282 ≠ g250)); clear HO_1; clear HO_18; clear HO_22; clear HO_79; clear HO_94; clear HO273; clear HO278; clear HO281; clear BK244; clear HI250; clear BK270; clear HB; have HO_1 := n0_; have HO_18 := n1_; have HO_22 := n2_; have HO_79 := n3_; have HO_94 := n4_; have HO273 := n5_; have HO278 := n6_; have HO281 := n7_; have BK244 := n8_; have HI250 := n9_; have BK270 := n10_; have HB := n11_; have BK282 := n12_; have GW282 := n13_; have GE282 := n14_; have NB244_282 := n15_; have NB282_244 := n16_; have NB270_282 := n17_; have NB282_270 := n18_; have NB250_282 := n19_; have NB282_250 := n20_; clear n0_ n1_ n2_ n3_ n4_ n5_ n6_ n7_ n8_ n9_ n10_ n11_ n12_ n13_ n14_ n15_ n16_ n17_ n18_ n19_ n20_; clear hb hbox hg; have hnb61 := NB282_244.out; have hnc61 := NB244_282.out; have hnb62 := NB282_270.out; have hnc62 := NB270_282.out; have hnb63 := NB282_250.out; have hnc63 := NB250_282.out; have hcz64_0 : w60.cell? ⟨gb282, 0, none⟩ = some (.int .i64 0) := (blk_cell BK282.out 0).trans rfl; have hcz64_1 : w60.cell? ⟨gb282, 1, none⟩ = some (.int .i64 0) := (blk_cell BK282.out 1).trans rfl; have hcz64_2 : w60.cell? ⟨gb282, 2, none⟩ = some (.slice none 0 0) := (blk_cell BK282.out 2).trans rfl; have hcz64_3 : w60.cell? ⟨gb282, 3, none⟩ = some (.slice none 0 0) := (blk_cell BK282.out 3).trans rfl; have hfz64_0 := blk_frozen BK282.out 0; have hfz64_1 := blk_frozen BK282.out 1; have hfz64_2 := blk_frozen BK282.out 2; have hfz64_3 := blk_frozen BK282.out 3; obtain ⟨Ao65, co65, eo65⟩ := Kd.V_slice HO278.out; subst eo65; obtain ⟨Ao66, co66, eo66⟩ := Kd.V_slice HO281.out; subst eo66; have hcz67_0 : w60.cell? ⟨gb270, 0, none⟩ = some (.int .i64 ((rd_T49 y266 x96_3).f0)) := (blk_cell BK270.out 0).trans rfl; have hcz67_1 : w60.cell? ⟨gb270, 1, none⟩ = some (.int .i64 ((rd_T49 y266 x96_3).f1)) := (blk_cell BK270.out 1).trans rfl; have hfz67_0 := blk_frozen BK270.out 0; have hfz67_1 := blk_frozen BK270.out 1) | ((with_reducible refine gate_callee (f := 27) rfl ?_); have q_7 := Aside0.mk (Kd.V_mono (Kd.V_far (p := ⟨gb282, 3, none⟩) (Kd.V_far (p := ⟨gb282, 2, none⟩) (Kd.V_far (p := ⟨gb282, 1, none⟩) (Kd.V_far (p := ⟨gb282, 0, none⟩) (Kd.V_mono HO_22.out (fun k_ hk => (⟨hk, hk.2⟩ : _ ∧ k_ ≠ gb282))) (fun _ hk => hk.2) (.int .i64 t274)) (fun _ hk => hk.2) (.int .i64 t275)) (fun _ hk => hk.2) (.slice Ao65 t276.length co65)) (fun _ hk => hk.2) (.slice Ao66 t279.length co66)) (fun _ h_ => h_.1)); have q_6 := Aside0.mk (Kd.R_mono (Kd.R_far (p := ⟨gb282, 3, none⟩) (Kd.R_far (p := ⟨gb282, 2, none⟩) (Kd.R_far (p := ⟨gb282, 1, none⟩) (Kd.R_far (p := ⟨gb282, 0, none⟩) (Kd.R_types HO_94.out BK282.out (by decide)) (fun _ hk => hk.2) (.int .i64 t274)) (fun _ hk => hk.2) (.int .i64 t275)) (fun _ hk => hk.2) (.slice Ao65 t276.length co65)) (fun _ hk => hk.2) (.slice Ao66 t279.length co66)) (fun _ h_ => h_.1)); have q_5 := Aside0.mk (Kd.N_mono (Kd.N_far (p := ⟨gb282, 3, none⟩) (Kd.N_far (p := ⟨gb282, 2, none⟩) (Kd.N_far (p := ⟨gb282, 1, none⟩) (Kd.N_far (p := ⟨gb282, 0, none⟩) (Kd.N_mono HO_79.out (fun k_ hk => (⟨hk, hk.2⟩ : _ ∧ k_ ≠ gb282))) (fun _ hk => hk.2) (.int .i64 t274)) (fun _ hk => hk.2) (.int .i64 t275)) (fun _ hk => hk.2) (.slice Ao65 t276.length co65)) (fun _ hk => hk.2) (.slice Ao66 t279.length co66)) (fun _ h_ => h_.1)); refine goesL_ (some 119) rfl rfl Try.func27 (by kernel_rfl) rfl #[.slice ba2 (rd_L3 y259 x81_2).length c264_0, .int .i64 ((rd_T49 y266 x96_3).f0), .int .i64 (wrap64 (a4)), .int .i64 (wrap64 (a5))] rfl (by (try simp only [List.map_toArray, List.map_cons, List.map_nil]); first | done | rfl | (simp only [List.length_drop, List.length_take]; rfl)) ?_; (with_reducible refine (storagebarterref26_Culprit.calls k3 _ _ (rd_L3 y259 x81_2) ((rd_T49 y266 x96_3).f0) (wrap64 (a4)) (wrap64 (a5)) t283 t286 t287 t288 t291 _ ?side1 ?side2 A51.out).mono ?_); (case side1 => refine (Kd.V_reads' (e := 44) (base := w.heap.size) (ok := fun k_ => ((((P1_ k_ ∨ w.heap.size ≤ k_) ∧ (some k_ ≠ (.slice (some ad264) y259.length co40 : Value).ownBlock ∧ (some k_ ≠ (.slice (some ad269) y266.length co46 : Value).ownBlock ∧ (k_ ≠ gb244 ∧ k_ ≠ g250)))) ∧ k_ ≠ gb270) ∧ k_ ≠ gb282)) (n := (rd_L3 y259 x81_2).length) (c := c264_0) ?_).2.2; exact (vU7 (q_7.out))); (case side2 => exact (Kd.V_reads' HO_22.out).2.1); rintro e w68 ⟨v284, v289, v292, rfl, ho0, ho1, ho2, hb⟩; refine ⟨_, rfl, ?_⟩; have n0_ := Aside0.mk (Kd.V_below (vU7 ((Kd.V_mono (Kd.V_far (p := ⟨gb282, 3, none⟩) (Kd.V_far (p := ⟨gb282, 2, none⟩) (Kd.V_far (p := ⟨gb282, 1, none⟩) (Kd.V_far (p := ⟨gb282, 0, none⟩) (Kd.V_mono HO_1.out (fun k_ hk => (⟨hk, hk.2⟩ : _ ∧ k_ ≠ gb282))) (fun _ hk => hk.2) (.int .i64 t274)) (fun _ hk => hk.2) (.int .i64 t275)) (fun _ hk => hk.2) (.slice Ao65 t276.length co65)) (fun _ hk => hk.2) (.slice Ao66 t279.length co66)) (fun _ h_ => h_.1)))) hb); have n1_ := Aside0.mk (Kd.V_below (vU7 ((Kd.V_mono (Kd.V_far (p := ⟨gb282, 3, none⟩) (Kd.V_far (p := ⟨gb282, 2, none⟩) (Kd.V_far (p := ⟨gb282, 1, none⟩) (Kd.V_far (p := ⟨gb282, 0, none⟩) (Kd.V_mono HO_18.out (fun k_ hk => (⟨hk, hk.2⟩ : _ ∧ k_ ≠ gb282))) (fun _ hk => hk.2) (.int .i64 t274)) (fun _ hk => hk.2) (.int .i64 t275)) (fun _ hk => hk.2) (.slice Ao65 t276.length co65)) (fun _ hk => hk.2) (.slice Ao66 t279.length co66)) (fun _ h_ => h_.1)))) hb); have n2_ := Aside0.mk (Kd.V_below (vU7 (q_7.out)) hb); have n3_ := Aside0.mk (Kd.N_below (nU7 (q_5.out)) hb); have n4_ := Aside0.mk (Kd.R_below (rU7 (q_6.out)) hb); have n5_ := Aside0.mk (Kd.V_below (vU7 ((Kd.V_mono (Kd.V_far (p := ⟨gb282, 3, none⟩) (Kd.V_far (p := ⟨gb282, 2, none⟩) (Kd.V_far (p := ⟨gb282, 1, none⟩) (Kd.V_far (p := ⟨gb282, 0, none⟩) (Kd.V_mono HO273.out (fun k_ hk => (⟨hk, hk.2⟩ : _ ∧ k_ ≠ gb282))) (fun _ hk => hk.2) (.int .i64 t274)) (fun _ hk => hk.2) (.int .i64 t275)) (fun _ hk => hk.2) (.slice Ao65 t276.length co65)) (fun _ hk => hk.2) (.slice Ao66 t279.length co66)) (fun _ h_ => h_.1)))) hb); have n6_ := Aside0.mk (Kd.V_below (vU7 ((Kd.V_mono (Kd.V_far (p := ⟨gb282, 3, none⟩) (Kd.V_far (p := ⟨gb282, 2, none⟩) (Kd.V_far (p := ⟨gb282, 1, none⟩) (Kd.V_far (p := ⟨gb282, 0, none⟩) (Kd.V_mono HO278.out (fun k_ hk => (⟨hk, hk.2⟩ : _ ∧ k_ ≠ gb282))) (fun _ hk => hk.2) (.int .i64 t274)) (fun _ hk => hk.2) (.int .i64 t275)) (fun _ hk => hk.2) (.slice Ao65 t276.length co65)) (fun _ hk => hk.2) (.slice Ao66 t279.length co66)) (fun _ h_ => h_.1)))) hb); have n7_ := Aside0.mk (Kd.V_below (vU7 ((Kd.V_mono (Kd.V_far (p := ⟨gb282, 3, none⟩) (Kd.V_far (p := ⟨gb282, 2, none⟩) (Kd.V_far (p := ⟨gb282, 1, none⟩) (Kd.V_far (p := ⟨gb282, 0, none⟩) (Kd.V_mono HO281.out (fun k_ hk => (⟨hk, hk.2⟩ : _ ∧ k_ ≠ gb282))) (fun _ hk => hk.2) (.int .i64 t274)) (fun _ hk => hk.2) (.int .i64 t275)) (fun _ hk => hk.2) (.slice Ao65 t276.length co65)) (fun _ hk => hk.2) (.slice Ao66 t279.length co66)) (fun _ h_ => h_.1)))) hb); have n8_ := Aside0.mk (Kd.V_lower (Kd.V_mono (ok' := fun k_ => (P1_ k_ ∨ w.heap.size ≤ k_) ∧ some k_ ≠ (.slice (some ad264) y259.length co40 : Value).ownBlock ∧ some k_ ≠ (.slice (some ad269) y266.length co46 : Value).ownBlock ∧ k_ ≠ gb244 ∧ k_ ≠ gb270 ∧ k_ ≠ gb282 ∧ k_ ≠ g250) (Kd.R_V (Kd.R_bound ho0)) (fun k_ hk_ => ⟨(.inr (Nat.le_trans (below_size (by repeat (first | (with_reducible first | exact HB.out | apply below_alloc | apply pw_below_drewN | apply below_drew1 | refine below_set ?_ (IsS84.ge HI250.out) | refine below_set ?_ (Aside0.out (by assumption))) | exact HB.out))) hk_.2.1)), (Kd.fresh' (Kd.N_lt (nU7 (q_5.out))) k_ hk_.2.1), (Kd.fresh' (Kd.R_lt (rU7 (q_6.out))) k_ hk_.2.1), (Kd.freshB (g := gb244) (o := .cells #[.int .i64 a6_0, .int .i64 a6_1, .int .i64 a6_2, .int .i64 a6_3, .int .i64 a6_4, .int .i64 a6_5, .int .i64 a6_6, .bool a6_7] 44 (0, 0)) (by (with_reducible repeat (first | refine blk_drewN ?_ _ | refine blk_drew ?_ | refine blk_alloc ?_ _)); refine blk_far ?_ NB244_282.out _; (with_reducible repeat (first | refine blk_drewN ?_ _ | refine blk_drew ?_ | refine blk_alloc ?_ _)); refine blk_far ?_ NB244_282.out _; (with_reducible repeat (first | refine blk_drewN ?_ _ | refine blk_drew ?_ | refine blk_alloc ?_ _)); refine blk_far ?_ NB244_282.out _; (with_reducible repeat (first | refine blk_drewN ?_ _ | refine blk_drew ?_ | refine blk_alloc ?_ _)); refine blk_far ?_ NB244_282.out _; exact bU7 BK244.out) k_ hk_.2.1), (Kd.freshB (g := gb270) (o := .cells #[.int .i64 ((rd_T49 y266 x96_3).f0), .int .i64 ((rd_T49 y266 x96_3).f1)] 49 (0, 0)) (by (with_reducible repeat (first | refine blk_drewN ?_ _ | refine blk_drew ?_ | refine blk_alloc ?_ _)); refine blk_far ?_ NB270_282.out _; (with_reducible repeat (first | refine blk_drewN ?_ _ | refine blk_drew ?_ | refine blk_alloc ?_ _)); refine blk_far ?_ NB270_282.out _; (with_reducible repeat (first | refine blk_drewN ?_ _ | refine blk_drew ?_ | refine blk_alloc ?_ _)); refine blk_far ?_ NB270_282.out _; (with_reducible repeat (first | refine blk_drewN ?_ _ | refine blk_drew ?_ | refine blk_alloc ?_ _)); refine blk_far ?_ NB270_282.out _; exact bU7 BK270.out) k_ hk_.2.1), (Kd.freshB (g := gb282) (o := .cells #[.int .i64 t274, .int .i64 t275, .slice Ao65 t276.length co65, .slice Ao66 t279.length co66] 32 (0, 0)) (by (with_reducible repeat (first | refine blk_drewN ?_ _ | refine blk_drew ?_ | refine blk_alloc ?_ _)); refine blk_put (cs := #[.int .i64 t274, .int .i64 t275, .slice Ao65 t276.length co65, .slice none 0 0]) ?_ 3 _ rfl; (with_reducible repeat (first | refine blk_drewN ?_ _ | refine blk_drew ?_ | refine blk_alloc ?_ _)); refine blk_put (cs := #[.int .i64 t274, .int .i64 t275, .slice none 0 0, .slice none 0 0]) ?_ 2 _ rfl; (with_reducible repeat (first | refine blk_drewN ?_ _ | refine blk_drew ?_ | refine blk_alloc ?_ _)); refine blk_put (cs := #[.int .i64 t274, .int .i64 0, .slice none 0 0, .slice none 0 0]) ?_ 1 _ rfl; (with_reducible repeat (first | refine blk_drewN ?_ _ | refine blk_drew ?_ | refine blk_alloc ?_ _)); refine blk_put (cs := #[.int .i64 0, .int .i64 0, .slice none 0 0, .slice none 0 0]) ?_ 0 _ rfl; exact bU7 BK282.out) k_ hk_.2.1), (IsS84.fresh (by repeat (first | (with_reducible first | exact HI250.out | apply IsS84.alloc | apply IsS84.drewN | apply IsS84.drew | apply IsS84.set_1 | refine IsS84.far ?_ NB250_244.out _ | refine IsS84.far ?_ NB250_270.out _ | refine IsS84.far ?_ NB250_282.out _) | exact HI250.out)) k_ hk_.2.1)⟩)) (below_size (by repeat (first | (with_reducible first | exact HB.out | apply below_alloc | apply pw_below_drewN | apply below_drew1 | refine below_set ?_ (IsS84.ge HI250.out) | refine below_set ?_ (Aside0.out (by assumption))) | exact HB.out)))); have n9_ := Aside0.mk (Kd.V_lower (Kd.V_mono (ok' := fun k_ => (P1_ k_ ∨ w.heap.size ≤ k_) ∧ some k_ ≠ (.slice (some ad264) y259.length co40 : Value).ownBlock ∧ some k_ ≠ (.slice (some ad269) y266.length co46 : Value).ownBlock ∧ k_ ≠ gb244 ∧ k_ ≠ gb270 ∧ k_ ≠ gb282 ∧ k_ ≠ g250) (Kd.R_V (Kd.R_bound ho1)) (fun k_ hk_ => ⟨(.inr (Nat.le_trans (below_size (by repeat (first | (with_reducible first | exact HB.out | apply below_alloc | apply pw_below_drewN | apply below_drew1 | refine below_set ?_ (IsS84.ge HI250.out) | refine below_set ?_ (Aside0.out (by assumption))) | exact HB.out))) hk_.2.1)), (Kd.fresh' (Kd.N_lt (nU7 (q_5.out))) k_ hk_.2.1), (Kd.fresh' (Kd.R_lt (rU7 (q_6.out))) k_ hk_.2.1), (Kd.freshB (g := gb244) (o := .cells #[.int .i64 a6_0, .int .i64 a6_1, .int .i64 a6_2, .int .i64 a6_3, .int .i64 a6_4, .int .i64 a6_5, .int .i64 a6_6, .bool a6_7] 44 (0, 0)) (by (with_reducible repeat (first | refine blk_drewN ?_ _ | refine blk_drew ?_ | refine blk_alloc ?_ _)); refine blk_far ?_ NB244_282.out _; (with_reducible repeat (first | refine blk_drewN ?_ _ | refine blk_drew ?_ | refine blk_alloc ?_ _)); refine blk_far ?_ NB244_282.out _; (with_reducible repeat (first | refine blk_drewN ?_ _ | refine blk_drew ?_ | refine blk_alloc ?_ _)); refine blk_far ?_ NB244_282.out _; (with_reducible repeat (first | refine blk_drewN ?_ _ | refine blk_drew ?_ | refine blk_alloc ?_ _)); refine blk_far ?_ NB244_282.out _; exact bU7 BK244.out) k_ hk_.2.1), (Kd.freshB (g := gb270) (o := .cells #[.int .i64 ((rd_T49 y266 x96_3).f0), .int .i64 ((rd_T49 y266 x96_3).f1)] 49 (0, 0)) (by (with_reducible repeat (first | refine blk_drewN ?_ _ | refine blk_drew ?_ | refine blk_alloc ?_ _)); refine blk_far ?_ NB270_282.out _; (with_reducible repeat (first | refine blk_drewN ?_ _ | refine blk_drew ?_ | refine blk_alloc ?_ _)); refine blk_far ?_ NB270_282.out _; (with_reducible repeat (first | refine blk_drewN ?_ _ | refine blk_drew ?_ | refine blk_alloc ?_ _)); refine blk_far ?_ NB270_282.out _; (with_reducible repeat (first | refine blk_drewN ?_ _ | refine blk_drew ?_ | refine blk_alloc ?_ _)); refine blk_far ?_ NB270_282.out _; exact bU7 BK270.out) k_ hk_.2.1), (Kd.freshB (g := gb282) (o := .cells #[.int .i64 t274, .int .i64 t275, .slice Ao65 t276.length co65, .slice Ao66 t279.length co66] 32 (0, 0)) (by (with_reducible repeat (first | refine blk_drewN ?_ _ | refine blk_drew ?_ | refine blk_alloc ?_ _)); refine blk_put (cs := #[.int .i64 t274, .int .i64 t275, .slice Ao65 t276.length co65, .slice none 0 0]) ?_ 3 _ rfl; (with_reducible repeat (first | refine blk_drewN ?_ _ | refine blk_drew ?_ | refine blk_alloc ?_ _)); refine blk_put (cs := #[.int .i64 t274, .int .i64 t275, .slice none 0 0, .slice none 0 0]) ?_ 2 _ rfl; (with_reducible repeat (first | refine blk_drewN ?_ _ | refine blk_drew ?_ | refine blk_alloc ?_ _)); refine blk_put (cs := #[.int .i64 t274, .int .i64 0, .slice none 0 0, .slice none 0 0]) ?_ 1 _ rfl; (with_reducible repeat (first | refine blk_drewN ?_ _ | refine blk_drew ?_ | refine blk_alloc ?_ _)); refine blk_put (cs := #[.int .i64 0, .int .i64 0, .slice none 0 0, .slice none 0 0]) ?_ 0 _ rfl; exact bU7 BK282.out) k_ hk_.2.1), (IsS84.fresh (by repeat (first | (with_reducible first | exact HI250.out | apply IsS84.alloc | apply IsS84.drewN | apply IsS84.drew | apply IsS84.set_1 | refine IsS84.far ?_ NB250_244.out _ | refine IsS84.far ?_ NB250_270.out _ | refine IsS84.far ?_ NB250_282.out _) | exact HI250.out)) k_ hk_.2.1)⟩)) (below_size (by repeat (first | (with_reducible first | exact HB.out | apply below_alloc | apply pw_below_drewN | apply below_drew1 | refine below_set ?_ (IsS84.ge HI250.out) | refine below_set ?_ (Aside0.out (by assumption))) | exact HB.out)))); have n10_ := Aside0.mk (Kd.V_lower (Kd.V_mono (ok' := fun k_ => (P1_ k_ ∨ w.heap.size ≤ k_) ∧ some k_ ≠ (.slice (some ad264) y259.length co40 : Value).ownBlock ∧ some k_ ≠ (.slice (some ad269) y266.length co46 : Value).ownBlock ∧ k_ ≠ gb244 ∧ k_ ≠ gb270 ∧ k_ ≠ gb282 ∧ k_ ≠ g250) (Kd.R_V (Kd.R_bound ho2)) (fun k_ hk_ => ⟨(.inr (Nat.le_trans (below_size (by repeat (first | (with_reducible first | exact HB.out | apply below_alloc | apply pw_below_drewN | apply below_drew1 | refine below_set ?_ (IsS84.ge HI250.out) | refine below_set ?_ (Aside0.out (by assumption))) | exact HB.out))) hk_.2.1)), (Kd.fresh' (Kd.N_lt (nU7 (q_5.out))) k_ hk_.2.1), (Kd.fresh' (Kd.R_lt (rU7 (q_6.out))) k_ hk_.2.1), (Kd.freshB (g := gb244) (o := .cells #[.int .i64 a6_0, .int .i64 a6_1, .int .i64 a6_2, .int .i64 a6_3, .int .i64 a6_4, .int .i64 a6_5, .int .i64 a6_6, .bool a6_7] 44 (0, 0)) (by (with_reducible repeat (first | refine blk_drewN ?_ _ | refine blk_drew ?_ | refine blk_alloc ?_ _)); refine blk_far ?_ NB244_282.out _; (with_reducible repeat (first | refine blk_drewN ?_ _ | refine blk_drew ?_ | refine blk_alloc ?_ _)); refine blk_far ?_ NB244_282.out _; (with_reducible repeat (first | refine blk_drewN ?_ _ | refine blk_drew ?_ | refine blk_alloc ?_ _)); refine blk_far ?_ NB244_282.out _; (with_reducible repeat (first | refine blk_drewN ?_ _ | refine blk_drew ?_ | refine blk_alloc ?_ _)); refine blk_far ?_ NB244_282.out _; exact bU7 BK244.out) k_ hk_.2.1), (Kd.freshB (g := gb270) (o := .cells #[.int .i64 ((rd_T49 y266 x96_3).f0), .int .i64 ((rd_T49 y266 x96_3).f1)] 49 (0, 0)) (by (with_reducible repeat (first | refine blk_drewN ?_ _ | refine blk_drew ?_ | refine blk_alloc ?_ _)); refine blk_far ?_ NB270_282.out _; (with_reducible repeat (first | refine blk_drewN ?_ _ | refine blk_drew ?_ | refine blk_alloc ?_ _)); refine blk_far ?_ NB270_282.out _; (with_reducible repeat (first | refine blk_drewN ?_ _ | refine blk_drew ?_ | refine blk_alloc ?_ _)); refine blk_far ?_ NB270_282.out _; (with_reducible repeat (first | refine blk_drewN ?_ _ | refine blk_drew ?_ | refine blk_alloc ?_ _)); refine blk_far ?_ NB270_282.out _; exact bU7 BK270.out) k_ hk_.2.1), (Kd.freshB (g := gb282) (o := .cells #[.int .i64 t274, .int .i64 t275, .slice Ao65 t276.length co65, .slice Ao66 t279.length co66] 32 (0, 0)) (by (with_reducible repeat (first | refine blk_drewN ?_ _ | refine blk_drew ?_ | refine blk_alloc ?_ _)); refine blk_put (cs := #[.int .i64 t274, .int .i64 t275, .slice Ao65 t276.length co65, .slice none 0 0]) ?_ 3 _ rfl; (with_reducible repeat (first | refine blk_drewN ?_ _ | refine blk_drew ?_ | refine blk_alloc ?_ _)); refine blk_put (cs := #[.int .i64 t274, .int .i64 t275, .slice none 0 0, .slice none 0 0]) ?_ 2 _ rfl; (with_reducible repeat (first | refine blk_drewN ?_ _ | refine blk_drew ?_ | refine blk_alloc ?_ _)); refine blk_put (cs := #[.int .i64 t274, .int .i64 0, .slice none 0 0, .slice none 0 0]) ?_ 1 _ rfl; (with_reducible repeat (first | refine blk_drewN ?_ _ | refine blk_drew ?_ | refine blk_alloc ?_ _)); refine blk_put (cs := #[.int .i64 0, .int .i64 0, .slice none 0 0, .slice none 0 0]) ?_ 0 _ rfl; exact bU7 BK282.out) k_ hk_.2.1), (IsS84.fresh (by repeat (first | (with_reducible first | exact HI250.out | apply IsS84.alloc | apply IsS84.drewN | apply IsS84.drew | apply IsS84.set_1 | refine IsS84.far ?_ NB250_244.out _ | refine IsS84.far ?_ NB250_270.out _ | refine IsS84.far ?_ NB250_282.out _) | exact HI250.out)) k_ hk_.2.1)⟩)) (below_size (by repeat (first | (with_reducible first | exact HB.out | apply below_alloc | apply pw_below_drewN | apply below_drew1 | refine below_set ?_ (IsS84.ge HI250.out) | refine below_set ?_ (Aside0.out (by assumption))) | exact HB.out)))); have n11_ := Aside0.mk (blk_below (g := gb244) (o := .cells #[.int .i64 a6_0, .int .i64 a6_1, .int .i64 a6_2, .int .i64 a6_3, .int .i64 a6_4, .int .i64 a6_5, .int .i64 a6_6, .bool a6_7] 44 (0, 0)) (by (with_reducible repeat (first | refine blk_drewN ?_ _ | refine blk_drew ?_ | refine blk_alloc ?_ _)); refine blk_far ?_ NB244_282.out _; (with_reducible repeat (first | refine blk_drewN ?_ _ | refine blk_drew ?_ | refine blk_alloc ?_ _)); refine blk_far ?_ NB244_282.out _; (with_reducible repeat (first | refine blk_drewN ?_ _ | refine blk_drew ?_ | refine blk_alloc ?_ _)); refine blk_far ?_ NB244_282.out _; (with_reducible repeat (first | refine blk_drewN ?_ _ | refine blk_drew ?_ | refine blk_alloc ?_ _)); refine blk_far ?_ NB244_282.out _; exact bU7 BK244.out) hb); have n12_ := Aside0.mk (IsS84.below (show IsS84 w ((((w60.setCell ⟨gb282, 0, none⟩ (.int .i64 t274)).setCell ⟨gb282, 1, none⟩ (.int .i64 t275)).setCell ⟨gb282, 2, none⟩ (.slice Ao65 t276.length co65)).setCell ⟨gb282, 3, none⟩ (.slice Ao66 t279.length co66)) g250 t248 ba0 from by repeat (first | (with_reducible first | exact HI250.out | apply IsS84.alloc | apply IsS84.drewN | apply IsS84.drew | apply IsS84.set_1 | refine IsS84.far ?_ NB250_244.out _ | refine IsS84.far ?_ NB250_270.out _ | refine IsS84.far ?_ NB250_282.out _) | exact HI250.out)) hb); have n13_ := Aside0.mk (blk_below (g := gb270) (o := .cells #[.int .i64 ((rd_T49 y266 x96_3).f0), .int .i64 ((rd_T49 y266 x96_3).f1)] 49 (0, 0)) (by (with_reducible repeat (first | refine blk_drewN ?_ _ | refine blk_drew ?_ | refine blk_alloc ?_ _)); refine blk_far ?_ NB270_282.out _; (with_reducible repeat (first | refine blk_drewN ?_ _ | refine blk_drew ?_ | refine blk_alloc ?_ _)); refine blk_far ?_ NB270_282.out _; (with_reducible repeat (first | refine blk_drewN ?_ _ | refine blk_drew ?_ | refine blk_alloc ?_ _)); refine blk_far ?_ NB270_282.out _; (with_reducible repeat (first | refine blk_drewN ?_ _ | refine blk_drew ?_ | refine blk_alloc ?_ _)); refine blk_far ?_ NB270_282.out _; exact bU7 BK270.out) hb); have n14_ := Aside0.mk (blk_below (g := gb282) (o := .cells #[.int .i64 t274, .int .i64 t275, .slice Ao65 t276.length co65, .slice Ao66 t279.length co66] 32 (0, 0)) (by (with_reducible repeat (first | refine blk_drewN ?_ _ | refine blk_drew ?_ | refine blk_alloc ?_ _)); refine blk_put (cs := #[.int .i64 t274, .int .i64 t275, .slice Ao65 t276.length co65, .slice none 0 0]) ?_ 3 _ rfl; (with_reducible repeat (first | refine blk_drewN ?_ _ | refine blk_drew ?_ | refine blk_alloc ?_ _)); refine blk_put (cs := #[.int .i64 t274, .int .i64 t275, .slice none 0 0, .slice none 0 0]) ?_ 2 _ rfl; (with_reducible repeat (first | refine blk_drewN ?_ _ | refine blk_drew ?_ | refine blk_alloc ?_ _)); refine blk_put (cs := #[.int .i64 t274, .int .i64 0, .slice none 0 0, .slice none 0 0]) ?_ 1 _ rfl; (with_reducible repeat (first | refine blk_drewN ?_ _ | refine blk_drew ?_ | refine blk_alloc ?_ _)); refine blk_put (cs := #[.int .i64 0, .int .i64 0, .slice none 0 0, .slice none 0 0]) ?_ 0 _ rfl; exact bU7 BK282.out) hb); have n15_ := Aside0.mk (below_step (by repeat (first | (with_reducible first | exact HB.out | apply below_alloc | apply pw_below_drewN | apply below_drew1 | refine below_set ?_ (IsS84.ge HI250.out) | refine below_set ?_ (Aside0.out (by assumption))) | exact HB.out)) hb); clear q_7 q_6 q_5; clear HO_1; clear HO_18; clear HO_22; clear HO_79; clear HO_94; clear HO273; clear HO278; clear HO281; clear BK244; clear HI250; clear BK270; clear BK282; clear HB; have HO_1 := n0_; have HO_18 := n1_; have HO_22 := n2_; have HO_79 := n3_; have HO_94 := n4_; have HO273 := n5_; have HO278 := n6_; have HO281 := n7_; have HO285 := n8_; have HO290 := n9_; have HO293 := n10_; have BK244 := n11_; have HI250 := n12_; have BK270 := n13_; have BK282 := n14_; have HB := n15_; clear n0_ n1_ n2_ n3_ n4_ n5_ n6_ n7_ n8_ n9_ n10_ n11_ n12_ n13_ n14_ n15_; (try clear hb); (try clear hb2); (try clear hk); (try clear hi); (try clear hgw); (try clear ho0); (try clear ho1); (try clear ho2)) | ((with_reducible refine gate_dst (N := 28) rfl ?_); refine box_event ?hg (N := 28) ?hd (cs := #[.int .i64 0, .int .i64 0, .slice none 0 0, .slice none 0 0]) (t := 32) ?hr ?_; (case hd => rfl); (case hg => rfl); (case hr => first | (go_simp; done) | (go_simp; rfl)); intro gb294 hg w69 hbox hb; have n0_ := Aside0.mk (Kd.V_below (Kd.V_elderB (vU7 HO_1.out) gb294 (Nat.le_of_eq hg.symm)) hb); have n1_ := Aside0.mk (Kd.V_below (Kd.V_elderB (vU7 HO_18.out) gb294 (Nat.le_of_eq hg.symm)) hb); have n2_ := Aside0.mk (Kd.V_below (Kd.V_elderB (vU7 HO_22.out) gb294 (Nat.le_of_eq hg.symm)) hb); have n3_ := Aside0.mk (Kd.N_below (Kd.N_elderB (nU7 HO_79.out) gb294 (Nat.le_of_eq hg.symm)) hb); have n4_ := Aside0.mk (Kd.R_below (rU7 HO_94.out) hb); have n5_ := Aside0.mk (Kd.V_below (Kd.V_elderB (vU7 HO273.out) gb294 (Nat.le_of_eq hg.symm)) hb); have n6_ := Aside0.mk (Kd.V_below (Kd.V_elderB (vU7 HO278.out) gb294 (Nat.le_of_eq hg.symm)) hb); have n7_ := Aside0.mk (Kd.V_below (Kd.V_elderB (vU7 HO281.out) gb294 (Nat.le_of_eq hg.symm)) hb); have n8_ := Aside0.mk (Kd.V_below (Kd.V_elderB (vU7 HO285.out) gb294 (Nat.le_of_eq hg.symm)) hb); have n9_ := Aside0.mk (Kd.V_below (Kd.V_elderB (vU7 HO290.out) gb294 (Nat.le_of_eq hg.symm)) hb); have n10_ := Aside0.mk (Kd.V_below (Kd.V_elderB (vU7 HO293.out) gb294 (Nat.le_of_eq hg.symm)) hb); have n11_ := Aside0.mk (blk_below (g := gb244) (bU7 BK244.out) hb); have n12_ := Aside0.mk (IsS84.below (by repeat (first | (with_reducible first | exact HI250.out | apply IsS84.alloc | apply IsS84.drewN | apply IsS84.drew | apply IsS84.set_1 | refine IsS84.far ?_ NB250_244.out _ | refine IsS84.far ?_ NB250_270.out _ | refine IsS84.far ?_ NB250_282.out _) | exact HI250.out)) hb); have n13_ := Aside0.mk (blk_below (g := gb270) (bU7 BK270.out) hb); have n14_ := Aside0.mk (blk_below (g := gb282) (bU7 BK282.out) hb); have n15_ := Aside0.mk (below_step (by repeat (first | (with_reducible first | exact HB.out | apply below_alloc | apply pw_below_drewN | apply below_drew1 | refine below_set ?_ (IsS84.ge HI250.out) | refine below_set ?_ (Aside0.out (by assumption))) | exact HB.out)) hb); have n16_ := Aside0.mk (hbox); have n17_ := Aside0.mk ((by rw [hg]; exact (below_size (by repeat (first | (with_reducible first | exact HB.out | apply below_alloc | apply pw_below_drewN | apply below_drew1 | refine below_set ?_ (IsS84.ge HI250.out) | refine below_set ?_ (Aside0.out (by assumption))) | exact HB.out))) : w.heap.size ≤ gb294)); have n18_ := Aside0.mk ((by rw [hg]; exact (below_size (by repeat (first | (with_reducible first | exact HB.out | apply below_alloc | apply pw_below_drewN | apply below_drew1 | refine below_set ?_ (IsS84.ge HI250.out) | refine below_set ?_ (Aside0.out (by assumption))) | exact HB.out))) : w.heap.size ≤ gb294)); have n19_ := Aside0.mk ((by rw [hg]; exact Nat.ne_of_lt (blk_lt (g := gb244) (o := .cells #[.int .i64 a6_0, .int .i64 a6_1, .int .i64 a6_2, .int .i64 a6_3, .int .i64 a6_4, .int .i64 a6_5, .int .i64 a6_6, .bool a6_7] 44 (0, 0)) (bU7 BK244.out)) : gb244 ≠ gb294)); have n20_ := Aside0.mk ((by rw [hg]; exact Nat.ne_of_gt (blk_lt (g := gb244) (o := .cells #[.int .i64 a6_0, .int .i64 a6_1, .int .i64 a6_2, .int .i64 a6_3, .int .i64 a6_4, .int .i64 a6_5, .int .i64 a6_6, .bool a6_7] 44 (0, 0)) (bU7 BK244.out)) : gb294 ≠ gb244)); have n21_ := Aside0.mk ((by rw [hg]; exact Nat.ne_of_lt (blk_lt (g := gb270) (o := .cells #[.int .i64 ((rd_T49 y266 x96_3).f0), .int .i64 ((rd_T49 y266 x96_3).f1)] 49 (0, 0)) (bU7 BK270.out)) : gb270 ≠ gb294)); have n22_ := Aside0.mk ((by rw [hg]; exact Nat.ne_of_gt (blk_lt (g := gb270) (o := .cells #[.int .i64 ((rd_T49 y266 x96_3).f0), .int .i64 ((rd_T49 y266 x96_3).f1)] 49 (0, 0)) (bU7 BK270.out)) : gb294 ≠ gb270)); have n23_ := Aside0.mk ((by rw [hg]; exact Nat.ne_of_lt (blk_lt (g := gb282) (o := .cells #[.int .i64 t274, .int .i64 t275, .slice Ao65 t276.length co65, .slice Ao66 t279.length co66] 32 (0, 0)) (bU7 BK282.out)) : gb282 ≠ gb294)); have n24_ := Aside0.mk ((by rw [hg]; exact Nat.ne_of_gt (blk_lt (g := gb282) (o := .cells #[.int .i64 t274, .int .i64 t275, .slice Ao65 t276.length co65, .slice Ao66 t279.length co66] 32 (0, 0)) (bU7 BK282.out)) : gb294 ≠ gb282)); have n25_ := Aside0.mk ((by rw [hg]; exact Nat.ne_of_lt (IsS84.lt (show IsS84 w _ g250 t248 ba0 from by repeat (first | (with_reducible first | exact HI250.out | apply IsS84.alloc | apply IsS84.drewN | apply IsS84.drew | apply IsS84.set_1 | refine IsS84.far ?_ NB250_244.out _ | refine IsS84.far ?_ NB250_270.out _ | refine IsS84.far ?_ NB250_282.out _) | exact HI250.out))) : g250 ≠ gb294)); have n26_ := Aside0.mk ((by rw [hg]; exact Nat.ne_of_gt (IsS84.lt (show IsS84 w _ g250 t248 ba0 from by repeat (first | (with_reducible first | exact HI250.out | apply IsS84.alloc | apply IsS84.drewN | apply IsS84.drew | apply IsS84.set_1 | refine IsS84.far ?_ NB250_244.out _ | refine IsS84.far ?_ NB250_270.out _ | refine IsS84.far ?_ NB250_282.out _) | exact HI250.out))) : gb294 ≠ g250)); clear HO_1; clear HO_18; clear HO_22; clear HO_79; clear HO_94; clear HO273; clear HO278; clear HO281; clear HO285; clear HO290; clear HO293; clear BK244; clear HI250; clear BK270; clear BK282; clear HB; have HO_1 := n0_; have HO_18 := n1_; have HO_22 := n2_; have HO_79 := n3_; have HO_94 := n4_; have HO273 := n5_; have HO278 := n6_; have HO281 := n7_; have HO285 := n8_; have HO290 := n9_; have HO293 := n10_; have BK244 := n11_; have HI250 := n12_; have BK270 := n13_; have BK282 := n14_; have HB := n15_; have BK294 := n16_; have GW294 := n17_; have GE294 := n18_; have NB244_294 := n19_; have NB294_244 := n20_; have NB270_294 := n21_; have NB294_270 := n22_; have NB282_294 := n23_; have NB294_282 := n24_; have NB250_294 := n25_; have NB294_250 := n26_; clear n0_ n1_ n2_ n3_ n4_ n5_ n6_ n7_ n8_ n9_ n10_ n11_ n12_ n13_ n14_ n15_ n16_ n17_ n18_ n19_ n20_ n21_ n22_ n23_ n24_ n25_ n26_; clear hb hbox hg; have hnb70 := NB294_244.out; have hnc70 := NB244_294.out; have hnb71 := NB294_270.out; have hnc71 := NB270_294.out; have hnb72 := NB294_282.out; have hnc72 := NB282_294.out; have hnb73 := NB294_250.out; have hnc73 := NB250_294.out; have hcz74_0 : w69.cell? ⟨gb294, 0, none⟩ = some (.int .i64 0) := (blk_cell BK294.out 0).trans rfl; have hcz74_1 : w69.cell? ⟨gb294, 1, none⟩ = some (.int .i64 0) := (blk_cell BK294.out 1).trans rfl; have hcz74_2 : w69.cell? ⟨gb294, 2, none⟩ = some (.slice none 0 0) := (blk_cell BK294.out 2).trans rfl; have hcz74_3 : w69.cell? ⟨gb294, 3, none⟩ = some (.slice none 0 0) := (blk_cell BK294.out 3).trans rfl; have hfz74_0 := blk_frozen BK294.out 0; have hfz74_1 := blk_frozen BK294.out 1; have hfz74_2 := blk_frozen BK294.out 2; have hfz74_3 := blk_frozen BK294.out 3; obtain ⟨Ao75, co75, eo75⟩ := Kd.V_slice HO290.out; subst eo75; obtain ⟨Ao76, co76, eo76⟩ := Kd.V_slice HO293.out; subst eo76; have hcz77_0 : w69.cell? ⟨gb270, 0, none⟩ = some (.int .i64 ((rd_T49 y266 x96_3).f0)) := (blk_cell BK270.out 0).trans rfl; have hcz77_1 : w69.cell? ⟨gb270, 1, none⟩ = some (.int .i64 ((rd_T49 y266 x96_3).f1)) := (blk_cell BK270.out 1).trans rfl; have hfz77_0 := blk_frozen BK270.out 0; have hfz77_1 := blk_frozen BK270.out 1) | ((with_reducible refine gate_callee (f := 21) rfl ?_); have q_10 := Aside0.mk (Kd.V_mono (Kd.V_far (p := ⟨gb294, 3, none⟩) (Kd.V_far (p := ⟨gb294, 2, none⟩) (Kd.V_far (p := ⟨gb294, 1, none⟩) (Kd.V_far (p := ⟨gb294, 0, none⟩) (Kd.V_mono HO_22.out (fun k_ hk => (⟨hk, hk.2⟩ : _ ∧ k_ ≠ gb294))) (fun _ hk => hk.2) (.int .i64 t286)) (fun _ hk => hk.2) (.int .i64 t287)) (fun _ hk => hk.2) (.slice Ao75 t288.length co75)) (fun _ hk => hk.2) (.slice Ao76 t291.length co76)) (fun _ h_ => h_.1)); have q_9 := Aside0.mk (Kd.R_mono (Kd.R_far (p := ⟨gb294, 3, none⟩) (Kd.R_far (p := ⟨gb294, 2, none⟩) (Kd.R_far (p := ⟨gb294, 1, none⟩) (Kd.R_far (p := ⟨gb294, 0, none⟩) (Kd.R_types HO_94.out BK294.out (by decide)) (fun _ hk => hk.2) (.int .i64 t286)) (fun _ hk => hk.2) (.int .i64 t287)) (fun _ hk => hk.2) (.slice Ao75 t288.length co75)) (fun _ hk => hk.2) (.slice Ao76 t291.length co76)) (fun _ h_ => h_.1)); have q_8 := Aside0.mk (Kd.N_mono (Kd.N_far (p := ⟨gb294, 3, none⟩) (Kd.N_far (p := ⟨gb294, 2, none⟩) (Kd.N_far (p := ⟨gb294, 1, none⟩) (Kd.N_far (p := ⟨gb294, 0, none⟩) (Kd.N_mono HO_79.out (fun k_ hk => (⟨hk, hk.2⟩ : _ ∧ k_ ≠ gb294))) (fun _ hk => hk.2) (.int .i64 t286)) (fun _ hk => hk.2) (.int .i64 t287)) (fun _ hk => hk.2) (.slice Ao75 t288.length co75)) (fun _ hk => hk.2) (.slice Ao76 t291.length co76)) (fun _ h_ => h_.1)); refine goesL_ (some 128) rfl rfl Try.func21 (by kernel_rfl) rfl #[.slice ba2 (rd_L3 y259 x81_2).length c264_0, .int .i64 ((rd_T49 y266 x96_3).f0), .int .i64 ((rd_T49 y266 x96_3).f1)] rfl (by (try simp only [List.map_toArray, List.map_cons, List.map_nil]); first | done | rfl | (simp only [List.length_drop, List.length_take]; rfl)) ?_; (with_reducible refine (ending_Between.calls _ _ (rd_L3 y259 x81_2) ((rd_T49 y266 x96_3).f0) ((rd_T49 y266 x96_3).f1) t295 t296 _ ?side1 ?side2 A52.out).mono ?_); (case side1 => refine (Kd.V_reads' (e := 44) (base := w.heap.size) (ok := fun k_ => (((((P1_ k_ ∨ w.heap.size ≤ k_) ∧ (some k_ ≠ (.slice (some ad264) y259.length co40 : Value).ownBlock ∧ (some k_ ≠ (.slice (some ad269) y266.length co46 : Value).ownBlock ∧ (k_ ≠ gb244 ∧ k_ ≠ g250)))) ∧ k_ ≠ gb270) ∧ k_ ≠ gb282) ∧ k_ ≠ gb294)) (n := (rd_L3 y259 x81_2).length) (c := c264_0) ?_).2.2; exact (vU7 (q_10.out))); (case side2 => exact (Kd.V_reads' HO_22.out).2.1); rintro e w78 ⟨v297, v299, rfl, ho0, ho1, hb⟩; refine ⟨_, rfl, ?_⟩; have n0_ := Aside0.mk (Kd.V_below (vU7 ((Kd.V_mono (Kd.V_far (p := ⟨gb294, 3, none⟩) (Kd.V_far (p := ⟨gb294, 2, none⟩) (Kd.V_far (p := ⟨gb294, 1, none⟩) (Kd.V_far (p := ⟨gb294, 0, none⟩) (Kd.V_mono HO_1.out (fun k_ hk => (⟨hk, hk.2⟩ : _ ∧ k_ ≠ gb294))) (fun _ hk => hk.2) (.int .i64 t286)) (fun _ hk => hk.2) (.int .i64 t287)) (fun _ hk => hk.2) (.slice Ao75 t288.length co75)) (fun _ hk => hk.2) (.slice Ao76 t291.length co76)) (fun _ h_ => h_.1)))) hb); have n1_ := Aside0.mk (Kd.V_below (vU7 ((Kd.V_mono (Kd.V_far (p := ⟨gb294, 3, none⟩) (Kd.V_far (p := ⟨gb294, 2, none⟩) (Kd.V_far (p := ⟨gb294, 1, none⟩) (Kd.V_far (p := ⟨gb294, 0, none⟩) (Kd.V_mono HO_18.out (fun k_ hk => (⟨hk, hk.2⟩ : _ ∧ k_ ≠ gb294))) (fun _ hk => hk.2) (.int .i64 t286)) (fun _ hk => hk.2) (.int .i64 t287)) (fun _ hk => hk.2) (.slice Ao75 t288.length co75)) (fun _ hk => hk.2) (.slice Ao76 t291.length co76)) (fun _ h_ => h_.1)))) hb); have n2_ := Aside0.mk (Kd.V_below (vU7 (q_10.out)) hb); have n3_ := Aside0.mk (Kd.N_below (nU7 (q_8.out)) hb); have n4_ := Aside0.mk (Kd.R_below (rU7 (q_9.out)) hb); have n5_ := Aside0.mk (Kd.V_below (vU7 ((Kd.V_mono (Kd.V_far (p := ⟨gb294, 3, none⟩) (Kd.V_far (p := ⟨gb294, 2, none⟩) (Kd.V_far (p := ⟨gb294, 1, none⟩) (Kd.V_far (p := ⟨gb294, 0, none⟩) (Kd.V_mono HO273.out (fun k_ hk => (⟨hk, hk.2⟩ : _ ∧ k_ ≠ gb294))) (fun _ hk => hk.2) (.int .i64 t286)) (fun _ hk => hk.2) (.int .i64 t287)) (fun _ hk => hk.2) (.slice Ao75 t288.length co75)) (fun _ hk => hk.2) (.slice Ao76 t291.length co76)) (fun _ h_ => h_.1)))) hb); have n6_ := Aside0.mk (Kd.V_below (vU7 ((Kd.V_mono (Kd.V_far (p := ⟨gb294, 3, none⟩) (Kd.V_far (p := ⟨gb294, 2, none⟩) (Kd.V_far (p := ⟨gb294, 1, none⟩) (Kd.V_far (p := ⟨gb294, 0, none⟩) (Kd.V_mono HO278.out (fun k_ hk => (⟨hk, hk.2⟩ : _ ∧ k_ ≠ gb294))) (fun _ hk => hk.2) (.int .i64 t286)) (fun _ hk => hk.2) (.int .i64 t287)) (fun _ hk => hk.2) (.slice Ao75 t288.length co75)) (fun _ hk => hk.2) (.slice Ao76 t291.length co76)) (fun _ h_ => h_.1)))) hb); have n7_ := Aside0.mk (Kd.V_below (vU7 ((Kd.V_mono (Kd.V_far (p := ⟨gb294, 3, none⟩) (Kd.V_far (p := ⟨gb294, 2, none⟩) (Kd.V_far (p := ⟨gb294, 1, none⟩) (Kd.V_far (p := ⟨gb294, 0, none⟩) (Kd.V_mono HO281.out (fun k_ hk => (⟨hk, hk.2⟩ : _ ∧ k_ ≠ gb294))) (fun _ hk => hk.2) (.int .i64 t286)) (fun _ hk => hk.2) (.int .i64 t287)) (fun _ hk => hk.2) (.slice Ao75 t288.length co75)) (fun _ hk => hk.2) (.slice Ao76 t291.length co76)) (fun _ h_ => h_.1)))) hb); have n8_ := Aside0.mk (Kd.V_below (vU7 ((Kd.V_mono (Kd.V_far (p := ⟨gb294, 3, none⟩) (Kd.V_far (p := ⟨gb294, 2, none⟩) (Kd.V_far (p := ⟨gb294, 1, none⟩) (Kd.V_far (p := ⟨gb294, 0, none⟩) (Kd.V_mono HO285.out (fun k_ hk => (⟨hk, hk.2⟩ : _ ∧ k_ ≠ gb294))) (fun _ hk => hk.2) (.int .i64 t286)) (fun _ hk => hk.2) (.int .i64 t287)) (fun _ hk => hk.2) (.slice Ao75 t288.length co75)) (fun _ hk => hk.2) (.slice Ao76 t291.length co76)) (fun _ h_ => h_.1)))) hb); have n9_ := Aside0.mk (Kd.V_below (vU7 ((Kd.V_mono (Kd.V_far (p := ⟨gb294, 3, none⟩) (Kd.V_far (p := ⟨gb294, 2, none⟩) (Kd.V_far (p := ⟨gb294, 1, none⟩) (Kd.V_far (p := ⟨gb294, 0, none⟩) (Kd.V_mono HO290.out (fun k_ hk => (⟨hk, hk.2⟩ : _ ∧ k_ ≠ gb294))) (fun _ hk => hk.2) (.int .i64 t286)) (fun _ hk => hk.2) (.int .i64 t287)) (fun _ hk => hk.2) (.slice Ao75 t288.length co75)) (fun _ hk => hk.2) (.slice Ao76 t291.length co76)) (fun _ h_ => h_.1)))) hb); have n10_ := Aside0.mk (Kd.V_below (vU7 ((Kd.V_mono (Kd.V_far (p := ⟨gb294, 3, none⟩) (Kd.V_far (p := ⟨gb294, 2, none⟩) (Kd.V_far (p := ⟨gb294, 1, none⟩) (Kd.V_far (p := ⟨gb294, 0, none⟩) (Kd.V_mono HO293.out (fun k_ hk => (⟨hk, hk.2⟩ : _ ∧ k_ ≠ gb294))) (fun _ hk => hk.2) (.int .i64 t286)) (fun _ hk => hk.2) (.int .i64 t287)) (fun _ hk => hk.2) (.slice Ao75 t288.length co75)) (fun _ hk => hk.2) (.slice Ao76 t291.length co76)) (fun _ h_ => h_.1)))) hb); have n11_ := Aside0.mk (Kd.V_lower (Kd.V_mono (ok' := fun k_ => (P1_ k_ ∨ w.heap.size ≤ k_) ∧ some k_ ≠ (.slice (some ad264) y259.length co40 : Value).ownBlock ∧ some k_ ≠ (.slice (some ad269) y266.length co46 : Value).ownBlock ∧ k_ ≠ gb244 ∧ k_ ≠ gb270 ∧ k_ ≠ gb282 ∧ k_ ≠ gb294 ∧ k_ ≠ g250) (Kd.R_V (Kd.R_bound ho0)) (fun k_ hk_ => ⟨(.inr (Nat.le_trans (below_size (by repeat (first | (with_reducible first | exact HB.out | apply below_alloc | apply pw_below_drewN | apply below_drew1 | refine below_set ?_ (IsS84.ge HI250.out) | refine below_set ?_ (Aside0.out (by assumption))) | exact HB.out))) hk_.2.1)), (Kd.fresh' (Kd.N_lt (nU7 (q_8.out))) k_ hk_.2.1), (Kd.fresh' (Kd.R_lt (rU7 (q_9.out))) k_ hk_.2.1), (Kd.freshB (g := gb244) (o := .cells #[.int .i64 a6_0, .int .i64 a6_1, .int .i64 a6_2, .int .i64 a6_3, .int .i64 a6_4, .int .i64 a6_5, .int .i64 a6_6, .bool a6_7] 44 (0, 0)) (by (with_reducible repeat (first | refine blk_drewN ?_ _ | refine blk_drew ?_ | refine blk_alloc ?_ _)); refine blk_far ?_ NB244_294.out _; (with_reducible repeat (first | refine blk_drewN ?_ _ | refine blk_drew ?_ | refine blk_alloc ?_ _)); refine blk_far ?_ NB244_294.out _; (with_reducible repeat (first | refine blk_drewN ?_ _ | refine blk_drew ?_ | refine blk_alloc ?_ _)); refine blk_far ?_ NB244_294.out _; (with_reducible repeat (first | refine blk_drewN ?_ _ | refine blk_drew ?_ | refine blk_alloc ?_ _)); refine blk_far ?_ NB244_294.out _; exact bU7 BK244.out) k_ hk_.2.1), (Kd.freshB (g := gb270) (o := .cells #[.int .i64 ((rd_T49 y266 x96_3).f0), .int .i64 ((rd_T49 y266 x96_3).f1)] 49 (0, 0)) (by (with_reducible repeat (first | refine blk_drewN ?_ _ | refine blk_drew ?_ | refine blk_alloc ?_ _)); refine blk_far ?_ NB270_294.out _; (with_reducible repeat (first | refine blk_drewN ?_ _ | refine blk_drew ?_ | refine blk_alloc ?_ _)); refine blk_far ?_ NB270_294.out _; (with_reducible repeat (first | refine blk_drewN ?_ _ | refine blk_drew ?_ | refine blk_alloc ?_ _)); refine blk_far ?_ NB270_294.out _; (with_reducible repeat (first | refine blk_drewN ?_ _ | refine blk_drew ?_ | refine blk_alloc ?_ _)); refine blk_far ?_ NB270_294.out _; exact bU7 BK270.out) k_ hk_.2.1), (Kd.freshB (g := gb282) (o := .cells #[.int .i64 t274, .int .i64 t275, .slice Ao65 t276.length co65, .slice Ao66 t279.length co66] 32 (0, 0)) (by (with_reducible repeat (first | refine blk_drewN ?_ _ | refine blk_drew ?_ | refine blk_alloc ?_ _)); refine blk_far ?_ NB282_294.out _; (with_reducible repeat (first | refine blk_drewN ?_ _ | refine blk_drew ?_ | refine blk_alloc ?_ _)); refine blk_far ?_ NB282_294.out _; (with_reducible repeat (first | refine blk_drewN ?_ _ | refine blk_drew ?_ | refine blk_alloc ?_ _)); refine blk_far ?_ NB282_294.out _; (with_reducible repeat (first | refine blk_drewN ?_ _ | refine blk_drew ?_ | refine blk_alloc ?_ _)); refine blk_far ?_ NB282_294.out _; exact bU7 BK282.out) k_ hk_.2.1), (Kd.freshB (g := gb294) (o := .cells #[.int .i64 t286, .int .i64 t287, .slice Ao75 t288.length co75, .slice Ao76 t291.length co76] 32 (0, 0)) (by (with_reducible repeat (first | refine blk_drewN ?_ _ | refine blk_drew ?_ | refine blk_alloc ?_ _)); refine blk_put (cs := #[.int .i64 t286, .int .i64 t287, .slice Ao75 t288.length co75, .slice none 0 0]) ?_ 3 _ rfl; (with_reducible repeat (first | refine blk_drewN ?_ _ | refine blk_drew ?_ | refine blk_alloc ?_ _)); refine blk_put (cs := #[.int .i64 t286, .int .i64 t287, .slice none 0 0, .slice none 0 0]) ?_ 2 _ rfl; (with_reducible repeat (first | refine blk_drewN ?_ _ | refine blk_drew ?_ | refine blk_alloc ?_ _)); refine blk_put (cs := #[.int .i64 t286, .int .i64 0, .slice none 0 0, .slice none 0 0]) ?_ 1 _ rfl; (with_reducible repeat (first | refine blk_drewN ?_ _ | refine blk_drew ?_ | refine blk_alloc ?_ _)); refine blk_put (cs := #[.int .i64 0, .int .i64 0, .slice none 0 0, .slice none 0 0]) ?_ 0 _ rfl; exact bU7 BK294.out) k_ hk_.2.1), (IsS84.fresh (by repeat (first | (with_reducible first | exact HI250.out | apply IsS84.alloc | apply IsS84.drewN | apply IsS84.drew | apply IsS84.set_1 | refine IsS84.far ?_ NB250_244.out _ | refine IsS84.far ?_ NB250_270.out _ | refine IsS84.far ?_ NB250_282.out _ | refine IsS84.far ?_ NB250_294.out _) | exact HI250.out)) k_ hk_.2.1)⟩)) (below_size (by repeat (first | (with_reducible first | exact HB.out | apply below_alloc | apply pw_below_drewN | apply below_drew1 | refine below_set ?_ (IsS84.ge HI250.out) | refine below_set ?_ (Aside0.out (by assumption))) | exact HB.out)))); have n12_ := Aside0.mk (Kd.V_lower (Kd.V_mono (ok' := fun k_ => (P1_ k_ ∨ w.heap.size ≤ k_) ∧ some k_ ≠ (.slice (some ad264) y259.length co40 : Value).ownBlock ∧ some k_ ≠ (.slice (some ad269) y266.length co46 : Value).ownBlock ∧ k_ ≠ gb244 ∧ k_ ≠ gb270 ∧ k_ ≠ gb282 ∧ k_ ≠ gb294 ∧ k_ ≠ g250) (Kd.R_V (Kd.R_bound ho1)) (fun k_ hk_ => ⟨(.inr (Nat.le_trans (below_size (by repeat (first | (with_reducible first | exact HB.out | apply below_alloc | apply pw_below_drewN | apply below_drew1 | refine below_set ?_ (IsS84.ge HI250.out) | refine below_set ?_ (Aside0.out (by assumption))) | exact HB.out))) hk_.2.1)), (Kd.fresh' (Kd.N_lt (nU7 (q_8.out))) k_ hk_.2.1), (Kd.fresh' (Kd.R_lt (rU7 (q_9.out))) k_ hk_.2.1), (Kd.freshB (g := gb244) (o := .cells #[.int .i64 a6_0, .int .i64 a6_1, .int .i64 a6_2, .int .i64 a6_3, .int .i64 a6_4, .int .i64 a6_5, .int .i64 a6_6, .bool a6_7] 44 (0, 0)) (by (with_reducible repeat (first | refine blk_drewN ?_ _ | refine blk_drew ?_ | refine blk_alloc ?_ _)); refine blk_far ?_ NB244_294.out _; (with_reducible repeat (first | refine blk_drewN ?_ _ | refine blk_drew ?_ | refine blk_alloc ?_ _)); refine blk_far ?_ NB244_294.out _; (with_reducible repeat (first | refine blk_drewN ?_ _ | refine blk_drew ?_ | refine blk_alloc ?_ _)); refine blk_far ?_ NB244_294.out _; (with_reducible repeat (first | refine blk_drewN ?_ _ | refine blk_drew ?_ | refine blk_alloc ?_ _)); refine blk_far ?_ NB244_294.out _; exact bU7 BK244.out) k_ hk_.2.1), (Kd.freshB (g := gb270) (o := .cells #[.int .i64 ((rd_T49 y266 x96_3).f0), .int .i64 ((rd_T49 y266 x96_3).f1)] 49 (0, 0)) (by (with_reducible repeat (first | refine blk_drewN ?_ _ | refine blk_drew ?_ | refine blk_alloc ?_ _)); refine blk_far ?_ NB270_294.out _; (with_reducible repeat (first | refine blk_drewN ?_ _ | refine blk_drew ?_ | refine blk_alloc ?_ _)); refine blk_far ?_ NB270_294.out _; (with_reducible repeat (first | refine blk_drewN ?_ _ | refine blk_drew ?_ | refine blk_alloc ?_ _)); refine blk_far ?_ NB270_294.out _; (with_reducible repeat (first | refine blk_drewN ?_ _ | refine blk_drew ?_ | refine blk_alloc ?_ _)); refine blk_far ?_ NB270_294.out _; exact bU7 BK270.out) k_ hk_.2.1), (Kd.freshB (g := gb282) (o := .cells #[.int .i64 t274, .int .i64 t275, .slice Ao65 t276.length co65, .slice Ao66 t279.length co66] 32 (0, 0)) (by (with_reducible repeat (first | refine blk_drewN ?_ _ | refine blk_drew ?_ | refine blk_alloc ?_ _)); refine blk_far ?_ NB282_294.out _; (with_reducible repeat (first | refine blk_drewN ?_ _ | refine blk_drew ?_ | refine blk_alloc ?_ _)); refine blk_far ?_ NB282_294.out _; (with_reducible repeat (first | refine blk_drewN ?_ _ | refine blk_drew ?_ | refine blk_alloc ?_ _)); refine blk_far ?_ NB282_294.out _; (with_reducible repeat (first | refine blk_drewN ?_ _ | refine blk_drew ?_ | refine blk_alloc ?_ _)); refine blk_far ?_ NB282_294.out _; exact bU7 BK282.out) k_ hk_.2.1), (Kd.freshB (g := gb294) (o := .cells #[.int .i64 t286, .int .i64 t287, .slice Ao75 t288.length co75, .slice Ao76 t291.length co76] 32 (0, 0)) (by (with_reducible repeat (first | refine blk_drewN ?_ _ | refine blk_drew ?_ | refine blk_alloc ?_ _)); refine blk_put (cs := #[.int .i64 t286, .int .i64 t287, .slice Ao75 t288.length co75, .slice none 0 0]) ?_ 3 _ rfl; (with_reducible repeat (first | refine blk_drewN ?_ _ | refine blk_drew ?_ | refine blk_alloc ?_ _)); refine blk_put (cs := #[.int .i64 t286, .int .i64 t287, .slice none 0 0, .slice none 0 0]) ?_ 2 _ rfl; (with_reducible repeat (first | refine blk_drewN ?_ _ | refine blk_drew ?_ | refine blk_alloc ?_ _)); refine blk_put (cs := #[.int .i64 t286, .int .i64 0, .slice none 0 0, .slice none 0 0]) ?_ 1 _ rfl; (with_reducible repeat (first | refine blk_drewN ?_ _ | refine blk_drew ?_ | refine blk_alloc ?_ _)); refine blk_put (cs := #[.int .i64 0, .int .i64 0, .slice none 0 0, .slice none 0 0]) ?_ 0 _ rfl; exact bU7 BK294.out) k_ hk_.2.1), (IsS84.fresh (by repeat (first | (with_reducible first | exact HI250.out | apply IsS84.alloc | apply IsS84.drewN | apply IsS84.drew | apply IsS84.set_1 | refine IsS84.far ?_ NB250_244.out _ | refine IsS84.far ?_ NB250_270.out _ | refine IsS84.far ?_ NB250_282.out _ | refine IsS84.far ?_ NB250_294.out _) | exact HI250.out)) k_ hk_.2.1)⟩)) (below_size (by repeat (first | (with_reducible first | exact HB.out | apply below_alloc | apply pw_below_drewN | apply below_drew1 | refine below_set ?_ (IsS84.ge HI250.out) | refine below_set ?_ (Aside0.out (by assumption))) | exact HB.out)))); have n13_ := Aside0.mk (blk_below (g := gb244) (o := .cells #[.int .i64 a6_0, .int .i64 a6_1, .int .i64 a6_2, .int .i64 a6_3, .int .i64 a6_4, .int .i64 a6_5, .int .i64 a6_6, .bool a6_7] 44 (0, 0)) (by (with_reducible repeat (first | refine blk_drewN ?_ _ | refine blk_drew ?_ | refine blk_alloc ?_ _)); refine blk_far ?_ NB244_294.out _; (with_reducible repeat (first | refine blk_drewN ?_ _ | refine blk_drew ?_ | refine blk_alloc ?_ _)); refine blk_far ?_ NB244_294.out _; (with_reducible repeat (first | refine blk_drewN ?_ _ | refine blk_drew ?_ | refine blk_alloc ?_ _)); refine blk_far ?_ NB244_294.out _; (with_reducible repeat (first | refine blk_drewN ?_ _ | refine blk_drew ?_ | refine blk_alloc ?_ _)); refine blk_far ?_ NB244_294.out _; exact bU7 BK244.out) hb); have n14_ := Aside0.mk (IsS84.below (show IsS84 w ((((w69.setCell ⟨gb294, 0, none⟩ (.int .i64 t286)).setCell ⟨gb294, 1, none⟩ (.int .i64 t287)).setCell ⟨gb294, 2, none⟩ (.slice Ao75 t288.length co75)).setCell ⟨gb294, 3, none⟩ (.slice Ao76 t291.length co76)) g250 t248 ba0 from by repeat (first | (with_reducible first | exact HI250.out | apply IsS84.alloc | apply IsS84.drewN | apply IsS84.drew | apply IsS84.set_1 | refine IsS84.far ?_ NB250_244.out _ | refine IsS84.far ?_ NB250_270.out _ | refine IsS84.far ?_ NB250_282.out _ | refine IsS84.far ?_ NB250_294.out _) | exact HI250.out)) hb); have n15_ := Aside0.mk (blk_below (g := gb270) (o := .cells #[.int .i64 ((rd_T49 y266 x96_3).f0), .int .i64 ((rd_T49 y266 x96_3).f1)] 49 (0, 0)) (by (with_reducible repeat (first | refine blk_drewN ?_ _ | refine blk_drew ?_ | refine blk_alloc ?_ _)); refine blk_far ?_ NB270_294.out _; (with_reducible repeat (first | refine blk_drewN ?_ _ | refine blk_drew ?_ | refine blk_alloc ?_ _)); refine blk_far ?_ NB270_294.out _; (with_reducible repeat (first | refine blk_drewN ?_ _ | refine blk_drew ?_ | refine blk_alloc ?_ _)); refine blk_far ?_ NB270_294.out _; (with_reducible repeat (first | refine blk_drewN ?_ _ | refine blk_drew ?_ | refine blk_alloc ?_ _)); refine blk_far ?_ NB270_294.out _; exact bU7 BK270.out) hb); have n16_ := Aside0.mk (blk_below (g := gb282) (o := .cells #[.int .i64 t274, .int .i64 t275, .slice Ao65 t276.length co65, .slice Ao66 t279.length co66] 32 (0, 0)) (by (with_reducible repeat (first | refine blk_drewN ?_ _ | refine blk_drew ?_ | refine blk_alloc ?_ _)); refine blk_far ?_ NB282_294.out _; (with_reducible repeat (first | refine blk_drewN ?_ _ | refine blk_drew ?_ | refine blk_alloc ?_ _)); refine blk_far ?_ NB282_294.out _; (with_reducible repeat (first | refine blk_drewN ?_ _ | refine blk_drew ?_ | refine blk_alloc ?_ _)); refine blk_far ?_ NB282_294.out _; (with_reducible repeat (first | refine blk_drewN ?_ _ | refine blk_drew ?_ | refine blk_alloc ?_ _)); refine blk_far ?_ NB282_294.out _; exact bU7 BK282.out) hb); have n17_ := Aside0.mk (blk_below (g := gb294) (o := .cells #[.int .i64 t286, .int .i64 t287, .slice Ao75 t288.length co75, .slice Ao76 t291.length co76] 32 (0, 0)) (by (with_reducible repeat (first | refine blk_drewN ?_ _ | refine blk_drew ?_ | refine blk_alloc ?_ _)); refine blk_put (cs := #[.int .i64 t286, .int .i64 t287, .slice Ao75 t288.length co75, .slice none 0 0]) ?_ 3 _ rfl; (with_reducible repeat (first | refine blk_drewN ?_ _ | refine blk_drew ?_ | refine blk_alloc ?_ _)); refine blk_put (cs := #[.int .i64 t286, .int .i64 t287, .slice none 0 0, .slice none 0 0]) ?_ 2 _ rfl; (with_reducible repeat (first | refine blk_drewN ?_ _ | refine blk_drew ?_ | refine blk_alloc ?_ _)); refine blk_put (cs := #[.int .i64 t286, .int .i64 0, .slice none 0 0, .slice none 0 0]) ?_ 1 _ rfl; (with_reducible repeat (first | refine blk_drewN ?_ _ | refine blk_drew ?_ | refine blk_alloc ?_ _)); refine blk_put (cs := #[.int .i64 0, .int .i64 0, .slice none 0 0, .slice none 0 0]) ?_ 0 _ rfl; exact bU7 BK294.out) hb); have n18_ := Aside0.mk (below_step (by repeat (first | (with_reducible first | exact HB.out | apply below_alloc | apply pw_below_drewN | apply below_drew1 | refine below_set ?_ (IsS84.ge HI250.out) | refine below_set ?_ (Aside0.out (by assumption))) | exact HB.out)) hb); clear q_10 q_9 q_8; clear HO_1; clear HO_18; clear HO_22; clear HO_79; clear HO_94; clear HO273; clear HO278; clear HO281; clear HO285; clear HO290; clear HO293; clear BK244; clear HI250; clear BK270; clear BK282; clear BK294; clear HB; have HO_1 := n0_; have HO_18 := n1_; have HO_22 := n2_; have HO_79 := n3_; have HO_94 := n4_; have HO273 := n5_; have HO278 := n6_; have HO281 := n7_; have HO285 := n8_; have HO290 := n9_; have HO293 := n10_; have HO298 := n11_; have HO300 := n12_; have BK244 := n13_; have HI250 := n14_; have BK270 := n15_; have BK282 := n16_; have BK294 := n17_; have HB := n18_; clear n0_ n1_ n2_ n3_ n4_ n5_ n6_ n7_ n8_ n9_ n10_ n11_ n12_ n13_ n14_ n15_ n16_ n17_ n18_; (try clear hb); (try clear hb2); (try clear hk); (try clear hi); (try clear hgw); (try clear ho0); (try clear ho1); have hcz79_0 : w78.cell? ⟨gb270, 0, none⟩ = some (.int .i64 ((rd_T49 y266 x96_3).f0)) := (blk_cell BK270.out 0).trans rfl; have hcz79_1 : w78.cell? ⟨gb270, 1, none⟩ = some (.int .i64 ((rd_T49 y266 x96_3).f1)) := (blk_cell BK270.out 1).trans rfl; have hfz79_0 := blk_frozen BK270.out 0; have hfz79_1 := blk_frozen BK270.out 1) | ((with_reducible refine gate_callee (f := 28) rfl ?_); refine goesL_ (some 137) rfl rfl Try.func28 (by kernel_rfl) rfl #[.slice ba2 (rd_L3 y259 x81_2).length c264_0, .int .i64 ((rd_T49 y266 x96_3).f0), .int .i64 ((rd_T49 y266 x96_3).f1)] rfl (by (try simp only [List.map_toArray, List.map_cons, List.map_nil]); first | done | rfl | (simp only [List.length_drop, List.length_take]; rfl)) ?_; (with_reducible refine (storagebarterref26_Between.calls k3 _ _ (rd_L3 y259 x81_2) ((rd_T49 y266 x96_3).f0) ((rd_T49 y266 x96_3).f1) t301 t302 _ ?side1 ?side2 A53.out).mono ?_); (case side1 => first | exact (Kd.V_reads' HO_22.out).2.2 | exact cU7 (Kd.V_reads' HO_22.out).2.2); (case side2 => exact (Kd.V_reads' HO_22.out).2.1); rintro e w80 ⟨v303, v305, rfl, ho0, ho1, hb⟩; refine ⟨_, rfl, ?_⟩; have n0_ := Aside0.mk (Kd.V_below (vU7 HO_1.out) hb); have n1_ := Aside0.mk (Kd.V_below (vU7 HO_18.out) hb); have n2_ := Aside0.mk (Kd.V_below (vU7 HO_22.out) hb); have n3_ := Aside0.mk (Kd.N_below (nU7 HO_79.out) hb); have n4_ := Aside0.mk (Kd.R_below (rU7 HO_94.out) hb); have n5_ := Aside0.mk (Kd.V_below (vU7 HO273.out) hb); have n6_ := Aside0.mk (Kd.V_below (vU7 HO278.out) hb); have n7_ := Aside0.mk (Kd.V_below (vU7 HO281.out) hb); have n8_ := Aside0.mk (Kd.V_below (vU7 HO285.out) hb); have n9_ := Aside0.mk (Kd.V_below (vU7 HO290.out) hb); have n10_ := Aside0.mk (Kd.V_below (vU7 HO293.out) hb); have n11_ := Aside0.mk (Kd.V_below (vU7 HO298.out) hb); have n12_ := Aside0.mk (Kd.V_below (vU7 HO300.out) hb); have n13_ := Aside0.mk (Kd.V_lower (Kd.V_mono (ok' := fun k_ => (P1_ k_ ∨ w.heap.size ≤ k_) ∧ some k_ ≠ (.slice (some ad264) y259.length co40 : Value).ownBlock ∧ some k_ ≠ (.slice (some ad269) y266.length co46 : Value).ownBlock ∧ k_ ≠ gb244 ∧ k_ ≠ gb270 ∧ k_ ≠ gb282 ∧ k_ ≠ gb294 ∧ k_ ≠ g250) (Kd.R_V (Kd.R_bound ho0)) (fun k_ hk_ => ⟨(.inr (Nat.le_trans (below_size (by repeat (first | (with_reducible first | exact HB.out | apply below_alloc | apply pw_below_drewN | apply below_drew1 | refine below_set ?_ (IsS84.ge HI250.out) | refine below_set ?_ (Aside0.out (by assumption))) | exact HB.out))) hk_.2.1)), (Kd.fresh' (Kd.N_lt (nU7 HO_79.out)) k_ hk_.2.1), (Kd.fresh' (Kd.R_lt (rU7 HO_94.out)) k_ hk_.2.1), (Kd.freshB (g := gb244) (o := .cells #[.int .i64 a6_0, .int .i64 a6_1, .int .i64 a6_2, .int .i64 a6_3, .int .i64 a6_4, .int .i64 a6_5, .int .i64 a6_6, .bool a6_7] 44 (0, 0)) (bU7 BK244.out) k_ hk_.2.1), (Kd.freshB (g := gb270) (o := .cells #[.int .i64 ((rd_T49 y266 x96_3).f0), .int .i64 ((rd_T49 y266 x96_3).f1)] 49 (0, 0)) (bU7 BK270.out) k_ hk_.2.1), (Kd.freshB (g := gb282) (o := .cells #[.int .i64 t274, .int .i64 t275, .slice Ao65 t276.length co65, .slice Ao66 t279.length co66] 32 (0, 0)) (bU7 BK282.out) k_ hk_.2.1), (Kd.freshB (g := gb294) (o := .cells #[.int .i64 t286, .int .i64 t287, .slice Ao75 t288.length co75, .slice Ao76 t291.length co76] 32 (0, 0)) (bU7 BK294.out) k_ hk_.2.1), (IsS84.fresh (by repeat (first | (with_reducible first | exact HI250.out | apply IsS84.alloc | apply IsS84.drewN | apply IsS84.drew | apply IsS84.set_1 | refine IsS84.far ?_ NB250_244.out _ | refine IsS84.far ?_ NB250_270.out _ | refine IsS84.far ?_ NB250_282.out _ | refine IsS84.far ?_ NB250_294.out _) | exact HI250.out)) k_ hk_.2.1)⟩)) (below_size (by repeat (first | (with_reducible first | exact HB.out | apply below_alloc | apply pw_below_drewN | apply below_drew1 | refine below_set ?_ (IsS84.ge HI250.out) | refine below_set ?_ (Aside0.out (by assumption))) | exact HB.out)))); have n14_ := Aside0.mk (Kd.V_lower (Kd.V_mono (ok' := fun k_ => (P1_ k_ ∨ w.heap.size ≤ k_) ∧ some k_ ≠ (.slice (some ad264) y259.length co40 : Value).ownBlock ∧ some k_ ≠ (.slice (some ad269) y266.length co46 : Value).ownBlock ∧ k_ ≠ gb244 ∧ k_ ≠ gb270 ∧ k_ ≠ gb282 ∧ k_ ≠ gb294 ∧ k_ ≠ g250) (Kd.R_V (Kd.R_bound ho1)) (fun k_ hk_ => ⟨(.inr (Nat.le_trans (below_size (by repeat (first | (with_reducible first | exact HB.out | apply below_alloc | apply pw_below_drewN | apply below_drew1 | refine below_set ?_ (IsS84.ge HI250.out) | refine below_set ?_ (Aside0.out (by assumption))) | exact HB.out))) hk_.2.1)), (Kd.fresh' (Kd.N_lt (nU7 HO_79.out)) k_ hk_.2.1), (Kd.fresh' (Kd.R_lt (rU7 HO_94.out)) k_ hk_.2.1), (Kd.freshB (g := gb244) (o := .cells #[.int .i64 a6_0, .int .i64 a6_1, .int .i64 a6_2, .int .i64 a6_3, .int .i64 a6_4, .int .i64 a6_5, .int .i64 a6_6, .bool a6_7] 44 (0, 0)) (bU7 BK244.out) k_ hk_.2.1), (Kd.freshB (g := gb270) (o := .cells #[.int .i64 ((rd_T49 y266 x96_3).f0), .int .i64 ((rd_T49 y266 x96_3).f1)] 49 (0, 0)) (bU7 BK270.out) k_ hk_.2.1), (Kd.freshB (g := gb282) (o := .cells #[.int .i64 t274, .int .i64 t275, .slice Ao65 t276.length co65, .slice Ao66 t279.length co66] 32 (0, 0)) (bU7 BK282.out) k_ hk_.2.1), (Kd.freshB (g := gb294) (o := .cells #[.int .i64 t286, .int .i64 t287, .slice Ao75 t288.length co75, .slice Ao76 t291.length co76] 32 (0, 0)) (bU7 BK294.out) k_ hk_.2.1), (IsS84.fresh (by repeat (first | (with_reducible first | exact HI250.out | apply IsS84.alloc | apply IsS84.drewN | apply IsS84.drew | apply IsS84.set_1 | refine IsS84.far ?_ NB250_244.out _ | refine IsS84.far ?_ NB250_270.out _ | refine IsS84.far ?_ NB250_282.out _ | refine IsS84.far ?_ NB250_294.out _) | exact HI250.out)) k_ hk_.2.1)⟩)) (below_size (by repeat (first | (with_reducible first | exact HB.out | apply below_alloc | apply pw_below_drewN | apply below_drew1 | refine below_set ?_ (IsS84.ge HI250.out) | refine below_set ?_ (Aside0.out (by assumption))) | exact HB.out)))); have n15_ := Aside0.mk (blk_below (g := gb244) (bU7 BK244.out) hb); have n16_ := Aside0.mk (IsS84.below (by repeat (first | (with_reducible first | exact HI250.out | apply IsS84.alloc | apply IsS84.drewN | apply IsS84.drew | apply IsS84.set_1 | refine IsS84.far ?_ NB250_244.out _ | refine IsS84.far ?_ NB250_270.out _ | refine IsS84.far ?_ NB250_282.out _ | refine IsS84.far ?_ NB250_294.out _) | exact HI250.out)) hb); have n17_ := Aside0.mk (blk_below (g := gb270) (bU7 BK270.out) hb); have n18_ := Aside0.mk (blk_below (g := gb282) (bU7 BK282.out) hb); have n19_ := Aside0.mk (blk_below (g := gb294) (bU7 BK294.out) hb); have n20_ := Aside0.mk (below_step (by repeat (first | (with_reducible first | exact HB.out | apply below_alloc | apply pw_below_drewN | apply below_drew1 | refine below_set ?_ (IsS84.ge HI250.out) | refine below_set ?_ (Aside0.out (by assumption))) | exact HB.out)) hb); clear HO_1; clear HO_18; clear HO_22; clear HO_79; clear HO_94; clear HO273; clear HO278; clear HO281; clear HO285; clear HO290; clear HO293; clear HO298; clear HO300; clear BK244; clear HI250; clear BK270; clear BK282; clear BK294; clear HB; have HO_1 := n0_; have HO_18 := n1_; have HO_22 := n2_; have HO_79 := n3_; have HO_94 := n4_; have HO273 := n5_; have HO278 := n6_; have HO281 := n7_; have HO285 := n8_; have HO290 := n9_; have HO293 := n10_; have HO298 := n11_; have HO300 := n12_; have HO304 := n13_; have HO306 := n14_; have BK244 := n15_; have HI250 := n16_; have BK270 := n17_; have BK282 := n18_; have BK294 := n19_; have HB := n20_; clear n0_ n1_ n2_ n3_ n4_ n5_ n6_ n7_ n8_ n9_ n10_ n11_ n12_ n13_ n14_ n15_ n16_ n17_ n18_ n19_ n20_; (try clear hb); (try clear hb2); (try clear hk); (try clear hi); (try clear hgw); (try clear ho0); (try clear ho1)))
       (try simp only [Act.put, List.setIfInBounds_toArray, List.set_cons_zero, List.set_cons_succ])
       go_cut [176] (fun v176 wc => ∃ (kq : Nat) (x176_53 : Bool), v176 = .bool x176_53 ∧ Aside0 (storagebarterlaw26_EndingSteps.j3 kq l1 a2 a3 a4 a5 t251 (wrap64 (1 + t255)) (wrap64 (1 + t257)) (rd_L3 y259 x81_2) y259 (y259.length : Int) x81_2 y266 (y266.length : Int) x96_3 x176_53 a6_0 a6_1 a6_2 a6_3 a6_4 a6_5 a6_6 a6_7 t248 ba0 t286 t287 t288 t291 = some r) ∧ Aside0 (kq ≤ k3) ∧ Aside0 (Kd.V k44 44 wc w.heap.size (fun k_ => (P1_ k_ ∨ w.heap.size ≤ k_) ∧ some k_ ≠ ((.slice (some ad264) y259.length co40) : Value).ownBlock ∧ some k_ ≠ ((.slice (some ad269) y266.length co46) : Value).ownBlock ∧ k_ ≠ gb244 ∧ k_ ≠ gb270 ∧ k_ ≠ gb282 ∧ k_ ≠ gb294 ∧ k_ ≠ g250) (.slice A1 l1.length c1) l1) ∧ Aside0 (Kd.V k44 44 wc w.heap.size (fun k_ => (P1_ k_ ∨ w.heap.size ≤ k_) ∧ some k_ ≠ ((.slice (some ad264) y259.length co40) : Value).ownBlock ∧ some k_ ≠ ((.slice (some ad269) y266.length co46) : Value).ownBlock ∧ k_ ≠ gb244 ∧ k_ ≠ gb270 ∧ k_ ≠ gb282 ∧ k_ ≠ gb294 ∧ k_ ≠ g250) (.slice Ao37 t251.length co37) t251) ∧ Aside0 (Kd.V k44 44 wc w.heap.size (fun k_ => (P1_ k_ ∨ w.heap.size ≤ k_) ∧ some k_ ≠ ((.slice (some ad264) y259.length co40) : Value).ownBlock ∧ some k_ ≠ ((.slice (some ad269) y266.length co46) : Value).ownBlock ∧ k_ ≠ gb244 ∧ k_ ≠ gb270 ∧ k_ ≠ gb282 ∧ k_ ≠ gb294 ∧ k_ ≠ g250) (.slice ba2 (rd_L3 y259 x81_2).length c264_0) (rd_L3 y259 x81_2)) ∧ Aside0 (Kd.N (Kd.slice 44 k44) 26 wc w.heap.size (fun k_ => (P1_ k_ ∨ w.heap.size ≤ k_) ∧ some k_ ≠ ((.slice (some ad269) y266.length co46) : Value).ownBlock ∧ k_ ≠ gb244 ∧ k_ ≠ gb270 ∧ k_ ≠ gb282 ∧ k_ ≠ gb294 ∧ k_ ≠ g250) (.slice (some ad264) y259.length co40) y259) ∧ Aside0 (Kd.R k49 49 wc w.heap.size (fun k_ => (w.heap.size ≤ k_) ∧ k_ ≠ gb270) (.slice (some ad269) y266.length co46) y266) ∧ Aside0 (Kd.V k44 44 wc w.heap.size (fun k_ => (P1_ k_ ∨ w.heap.size ≤ k_) ∧ some k_ ≠ ((.slice (some ad264) y259.length co40) : Value).ownBlock ∧ some k_ ≠ ((.slice (some ad269) y266.length co46) : Value).ownBlock ∧ k_ ≠ gb244 ∧ k_ ≠ gb270 ∧ k_ ≠ gb282 ∧ k_ ≠ gb294 ∧ k_ ≠ g250) (.slice Ao65 t276.length co65) t276) ∧ Aside0 (Kd.V k44 44 wc w.heap.size (fun k_ => (P1_ k_ ∨ w.heap.size ≤ k_) ∧ some k_ ≠ ((.slice (some ad264) y259.length co40) : Value).ownBlock ∧ some k_ ≠ ((.slice (some ad269) y266.length co46) : Value).ownBlock ∧ k_ ≠ gb244 ∧ k_ ≠ gb270 ∧ k_ ≠ gb282 ∧ k_ ≠ gb294 ∧ k_ ≠ g250) (.slice Ao66 t279.length co66) t279) ∧ Aside0 (Kd.V k44 44 wc w.heap.size (fun k_ => (P1_ k_ ∨ w.heap.size ≤ k_) ∧ some k_ ≠ ((.slice (some ad264) y259.length co40) : Value).ownBlock ∧ some k_ ≠ ((.slice (some ad269) y266.length co46) : Value).ownBlock ∧ k_ ≠ gb244 ∧ k_ ≠ gb270 ∧ k_ ≠ gb282 ∧ k_ ≠ gb294 ∧ k_ ≠ g250) (.slice Ao75 t288.length co75) t288) ∧ Aside0 (Kd.V k44 44 wc w.heap.size (fun k_ => (P1_ k_ ∨ w.heap.size ≤ k_) ∧ some k_ ≠ ((.slice (some ad264) y259.length co40) : Value).ownBlock ∧ some k_ ≠ ((.slice (some ad269) y266.length co46) : Value).ownBlock ∧ k_ ≠ gb244 ∧ k_ ≠ gb270 ∧ k_ ≠ gb282 ∧ k_ ≠ gb294 ∧ k_ ≠ g250) (.slice Ao76 t291.length co76) t291) ∧ Aside0 (wc.heap[gb244]? = some (.cells #[.int .i64 a6_0, .int .i64 a6_1, .int .i64 a6_2, .int .i64 a6_3, .int .i64 a6_4, .int .i64 a6_5, .int .i64 a6_6, .bool a6_7] 44 (0, 0))) ∧ Aside0 (wc.heap[gb270]? = some (.cells #[.int .i64 ((rd_T49 y266 x96_3).f0), .int .i64 ((rd_T49 y266 x96_3).f1)] 49 (0, 0))) ∧ Aside0 (wc.heap[gb282]? = some (.cells #[.int .i64 t274, .int .i64 t275, (.slice Ao65 t276.length co65), (.slice Ao66 t279.length co66)] 32 (0, 0))) ∧ Aside0 (wc.heap[gb294]? = some (.cells #[.int .i64 t286, .int .i64 t287, (.slice Ao75 t288.length co75), (.slice Ao76 t291.length co76)] 32 (0, 0))) ∧ Aside0 (IsS84 w wc g250 t248 ba0) ∧ Aside0 (Below w.heap.size w wc))
       case first =>
        have H := HC54.out
        clear HC54
        replace H := Option.bind_eq_some_iff.mp H
        obtain ⟨t307, A810, H⟩ := H
        replace H : (if t307 = true then ((storagebarterref26_SameEnding.f k3 t274 t275 t276 t279 t286 t287 t288 t291).bind fun t308 => (if t308 = true then ((storagebarterref26_Same.f k3 t295 t301).bind fun t309 => (if t309 = true then ((storagebarterref26_Same.f k3 t296 t302).bind fun t310 => (if t310 = true then ((ending_Room.f k3 (rd_L3 y259 x81_2) ((rd_T49 y266 x96_3).f0) ((rd_T49 y266 x96_3).f1)).bind fun bt311 => ((storagebarterref26_Room.f k3 (rd_L3 y259 x81_2) ((rd_T49 y266 x96_3).f0) ((rd_T49 y266 x96_3).f1)).bind fun bt313 => (storagebarterlaw26_EndingSteps.j3 k3 l1 a2 a3 a4 a5 t251 (wrap64 (1 + t255)) (wrap64 (1 + t257)) (rd_L3 y259 x81_2) y259 (y259.length : Int) x81_2 y266 (y266.length : Int) x96_3 (!(bt311.1 == bt313.1) || (!(bt311.2 == bt313.2))) a6_0 a6_1 a6_2 a6_3 a6_4 a6_5 a6_6 a6_7 t248 ba0 t286 t287 t288 t291))) else (storagebarterlaw26_EndingSteps.j3 k3 l1 a2 a3 a4 a5 t251 (wrap64 (1 + t255)) (wrap64 (1 + t257)) (rd_L3 y259 x81_2) y259 (y259.length : Int) x81_2 y266 (y266.length : Int) x96_3 true a6_0 a6_1 a6_2 a6_3 a6_4 a6_5 a6_6 a6_7 t248 ba0 t286 t287 t288 t291))) else (storagebarterlaw26_EndingSteps.j3 k3 l1 a2 a3 a4 a5 t251 (wrap64 (1 + t255)) (wrap64 (1 + t257)) (rd_L3 y259 x81_2) y259 (y259.length : Int) x81_2 y266 (y266.length : Int) x96_3 true a6_0 a6_1 a6_2 a6_3 a6_4 a6_5 a6_6 a6_7 t248 ba0 t286 t287 t288 t291))) else (storagebarterlaw26_EndingSteps.j3 k3 l1 a2 a3 a4 a5 t251 (wrap64 (1 + t255)) (wrap64 (1 + t257)) (rd_L3 y259 x81_2) y259 (y259.length : Int) x81_2 y266 (y266.length : Int) x96_3 true a6_0 a6_1 a6_2 a6_3 a6_4 a6_5 a6_6 a6_7 t248 ba0 t286 t287 t288 t291))) else (storagebarterlaw26_EndingSteps.j3 k3 l1 a2 a3 a4 a5 t251 (wrap64 (1 + t255)) (wrap64 (1 + t257)) (rd_L3 y259 x81_2) y259 (y259.length : Int) x81_2 y266 (y266.length : Int) x96_3 true a6_0 a6_1 a6_2 a6_3 a6_4 a6_5 a6_6 a6_7 t248 ba0 t286 t287 t288 t291)) = some r := H
        have A81 := Aside0.mk A810
        clear A810
        by_cases c82 : t307 = true
        case neg =>
         rw [if_neg c82] at H
         rcases k3 with _ | k9 <;> simp [storagebarterlaw26_EndingSteps.j3, HRT_.out] at H
        subst c82
        have H1 : ((storagebarterref26_SameEnding.f k3 t274 t275 t276 t279 t286 t287 t288 t291).bind fun t308 => (if t308 = true then ((storagebarterref26_Same.f k3 t295 t301).bind fun t309 => (if t309 = true then ((storagebarterref26_Same.f k3 t296 t302).bind fun t310 => (if t310 = true then ((ending_Room.f k3 (rd_L3 y259 x81_2) ((rd_T49 y266 x96_3).f0) ((rd_T49 y266 x96_3).f1)).bind fun bt311 => ((storagebarterref26_Room.f k3 (rd_L3 y259 x81_2) ((rd_T49 y266 x96_3).f0) ((rd_T49 y266 x96_3).f1)).bind fun bt313 => (storagebarterlaw26_EndingSteps.j3 k3 l1 a2 a3 a4 a5 t251 (wrap64 (1 + t255)) (wrap64 (1 + t257)) (rd_L3 y259 x81_2) y259 (y259.length : Int) x81_2 y266 (y266.length : Int) x96_3 (!(bt311.1 == bt313.1) || (!(bt311.2 == bt313.2))) a6_0 a6_1 a6_2 a6_3 a6_4 a6_5 a6_6 a6_7 t248 ba0 t286 t287 t288 t291))) else (storagebarterlaw26_EndingSteps.j3 k3 l1 a2 a3 a4 a5 t251 (wrap64 (1 + t255)) (wrap64 (1 + t257)) (rd_L3 y259 x81_2) y259 (y259.length : Int) x81_2 y266 (y266.length : Int) x96_3 true a6_0 a6_1 a6_2 a6_3 a6_4 a6_5 a6_6 a6_7 t248 ba0 t286 t287 t288 t291))) else (storagebarterlaw26_EndingSteps.j3 k3 l1 a2 a3 a4 a5 t251 (wrap64 (1 + t255)) (wrap64 (1 + t257)) (rd_L3 y259 x81_2) y259 (y259.length : Int) x81_2 y266 (y266.length : Int) x96_3 true a6_0 a6_1 a6_2 a6_3 a6_4 a6_5 a6_6 a6_7 t248 ba0 t286 t287 t288 t291))) else (storagebarterlaw26_EndingSteps.j3 k3 l1 a2 a3 a4 a5 t251 (wrap64 (1 + t255)) (wrap64 (1 + t257)) (rd_L3 y259 x81_2) y259 (y259.length : Int) x81_2 y266 (y266.length : Int) x96_3 true a6_0 a6_1 a6_2 a6_3 a6_4 a6_5 a6_6 a6_7 t248 ba0 t286 t287 t288 t291))) = some r := by rw [if_pos rfl] at H; exact H
        clear H
        have H := H1
        clear H1
        replace H := Option.bind_eq_some_iff.mp H
        obtain ⟨t308, A830, H⟩ := H
        replace H : (if t308 = true then ((storagebarterref26_Same.f k3 t295 t301).bind fun t309 => (if t309 = true then ((storagebarterref26_Same.f k3 t296 t302).bind fun t310 => (if t310 = true then ((ending_Room.f k3 (rd_L3 y259 x81_2) ((rd_T49 y266 x96_3).f0) ((rd_T49 y266 x96_3).f1)).bind fun bt311 => ((storagebarterref26_Room.f k3 (rd_L3 y259 x81_2) ((rd_T49 y266 x96_3).f0) ((rd_T49 y266 x96_3).f1)).bind fun bt313 => (storagebarterlaw26_EndingSteps.j3 k3 l1 a2 a3 a4 a5 t251 (wrap64 (1 + t255)) (wrap64 (1 + t257)) (rd_L3 y259 x81_2) y259 (y259.length : Int) x81_2 y266 (y266.length : Int) x96_3 (!(bt311.1 == bt313.1) || (!(bt311.2 == bt313.2))) a6_0 a6_1 a6_2 a6_3 a6_4 a6_5 a6_6 a6_7 t248 ba0 t286 t287 t288 t291))) else (storagebarterlaw26_EndingSteps.j3 k3 l1 a2 a3 a4 a5 t251 (wrap64 (1 + t255)) (wrap64 (1 + t257)) (rd_L3 y259 x81_2) y259 (y259.length : Int) x81_2 y266 (y266.length : Int) x96_3 true a6_0 a6_1 a6_2 a6_3 a6_4 a6_5 a6_6 a6_7 t248 ba0 t286 t287 t288 t291))) else (storagebarterlaw26_EndingSteps.j3 k3 l1 a2 a3 a4 a5 t251 (wrap64 (1 + t255)) (wrap64 (1 + t257)) (rd_L3 y259 x81_2) y259 (y259.length : Int) x81_2 y266 (y266.length : Int) x96_3 true a6_0 a6_1 a6_2 a6_3 a6_4 a6_5 a6_6 a6_7 t248 ba0 t286 t287 t288 t291))) else (storagebarterlaw26_EndingSteps.j3 k3 l1 a2 a3 a4 a5 t251 (wrap64 (1 + t255)) (wrap64 (1 + t257)) (rd_L3 y259 x81_2) y259 (y259.length : Int) x81_2 y266 (y266.length : Int) x96_3 true a6_0 a6_1 a6_2 a6_3 a6_4 a6_5 a6_6 a6_7 t248 ba0 t286 t287 t288 t291)) = some r := H
        have A83 := Aside0.mk A830
        clear A830
        by_cases c84 : t308 = true
        case neg =>
         rw [if_neg c84] at H
         rcases k3 with _ | k9 <;> simp [storagebarterlaw26_EndingSteps.j3, HRT_.out] at H
        subst c84
        have H1 : ((storagebarterref26_Same.f k3 t295 t301).bind fun t309 => (if t309 = true then ((storagebarterref26_Same.f k3 t296 t302).bind fun t310 => (if t310 = true then ((ending_Room.f k3 (rd_L3 y259 x81_2) ((rd_T49 y266 x96_3).f0) ((rd_T49 y266 x96_3).f1)).bind fun bt311 => ((storagebarterref26_Room.f k3 (rd_L3 y259 x81_2) ((rd_T49 y266 x96_3).f0) ((rd_T49 y266 x96_3).f1)).bind fun bt313 => (storagebarterlaw26_EndingSteps.j3 k3 l1 a2 a3 a4 a5 t251 (wrap64 (1 + t255)) (wrap64 (1 + t257)) (rd_L3 y259 x81_2) y259 (y259.length : Int) x81_2 y266 (y266.length : Int) x96_3 (!(bt311.1 == bt313.1) || (!(bt311.2 == bt313.2))) a6_0 a6_1 a6_2 a6_3 a6_4 a6_5 a6_6 a6_7 t248 ba0 t286 t287 t288 t291))) else (storagebarterlaw26_EndingSteps.j3 k3 l1 a2 a3 a4 a5 t251 (wrap64 (1 + t255)) (wrap64 (1 + t257)) (rd_L3 y259 x81_2) y259 (y259.length : Int) x81_2 y266 (y266.length : Int) x96_3 true a6_0 a6_1 a6_2 a6_3 a6_4 a6_5 a6_6 a6_7 t248 ba0 t286 t287 t288 t291))) else (storagebarterlaw26_EndingSteps.j3 k3 l1 a2 a3 a4 a5 t251 (wrap64 (1 + t255)) (wrap64 (1 + t257)) (rd_L3 y259 x81_2) y259 (y259.length : Int) x81_2 y266 (y266.length : Int) x96_3 true a6_0 a6_1 a6_2 a6_3 a6_4 a6_5 a6_6 a6_7 t248 ba0 t286 t287 t288 t291))) = some r := by rw [if_pos rfl] at H; exact H
        clear H
        have H := H1
        clear H1
        replace H := Option.bind_eq_some_iff.mp H
        obtain ⟨t309, A850, H⟩ := H
        replace H : (if t309 = true then ((storagebarterref26_Same.f k3 t296 t302).bind fun t310 => (if t310 = true then ((ending_Room.f k3 (rd_L3 y259 x81_2) ((rd_T49 y266 x96_3).f0) ((rd_T49 y266 x96_3).f1)).bind fun bt311 => ((storagebarterref26_Room.f k3 (rd_L3 y259 x81_2) ((rd_T49 y266 x96_3).f0) ((rd_T49 y266 x96_3).f1)).bind fun bt313 => (storagebarterlaw26_EndingSteps.j3 k3 l1 a2 a3 a4 a5 t251 (wrap64 (1 + t255)) (wrap64 (1 + t257)) (rd_L3 y259 x81_2) y259 (y259.length : Int) x81_2 y266 (y266.length : Int) x96_3 (!(bt311.1 == bt313.1) || (!(bt311.2 == bt313.2))) a6_0 a6_1 a6_2 a6_3 a6_4 a6_5 a6_6 a6_7 t248 ba0 t286 t287 t288 t291))) else (storagebarterlaw26_EndingSteps.j3 k3 l1 a2 a3 a4 a5 t251 (wrap64 (1 + t255)) (wrap64 (1 + t257)) (rd_L3 y259 x81_2) y259 (y259.length : Int) x81_2 y266 (y266.length : Int) x96_3 true a6_0 a6_1 a6_2 a6_3 a6_4 a6_5 a6_6 a6_7 t248 ba0 t286 t287 t288 t291))) else (storagebarterlaw26_EndingSteps.j3 k3 l1 a2 a3 a4 a5 t251 (wrap64 (1 + t255)) (wrap64 (1 + t257)) (rd_L3 y259 x81_2) y259 (y259.length : Int) x81_2 y266 (y266.length : Int) x96_3 true a6_0 a6_1 a6_2 a6_3 a6_4 a6_5 a6_6 a6_7 t248 ba0 t286 t287 t288 t291)) = some r := H
        have A85 := Aside0.mk A850
        clear A850
        by_cases c86 : t309 = true
        case neg =>
         rw [if_neg c86] at H
         rcases k3 with _ | k9 <;> simp [storagebarterlaw26_EndingSteps.j3, HRT_.out] at H
        subst c86
        have H1 : ((storagebarterref26_Same.f k3 t296 t302).bind fun t310 => (if t310 = true then ((ending_Room.f k3 (rd_L3 y259 x81_2) ((rd_T49 y266 x96_3).f0) ((rd_T49 y266 x96_3).f1)).bind fun bt311 => ((storagebarterref26_Room.f k3 (rd_L3 y259 x81_2) ((rd_T49 y266 x96_3).f0) ((rd_T49 y266 x96_3).f1)).bind fun bt313 => (storagebarterlaw26_EndingSteps.j3 k3 l1 a2 a3 a4 a5 t251 (wrap64 (1 + t255)) (wrap64 (1 + t257)) (rd_L3 y259 x81_2) y259 (y259.length : Int) x81_2 y266 (y266.length : Int) x96_3 (!(bt311.1 == bt313.1) || (!(bt311.2 == bt313.2))) a6_0 a6_1 a6_2 a6_3 a6_4 a6_5 a6_6 a6_7 t248 ba0 t286 t287 t288 t291))) else (storagebarterlaw26_EndingSteps.j3 k3 l1 a2 a3 a4 a5 t251 (wrap64 (1 + t255)) (wrap64 (1 + t257)) (rd_L3 y259 x81_2) y259 (y259.length : Int) x81_2 y266 (y266.length : Int) x96_3 true a6_0 a6_1 a6_2 a6_3 a6_4 a6_5 a6_6 a6_7 t248 ba0 t286 t287 t288 t291))) = some r := by rw [if_pos rfl] at H; exact H
        clear H
        have H := H1
        clear H1
        replace H := Option.bind_eq_some_iff.mp H
        obtain ⟨t310, A870, H⟩ := H
        replace H : (if t310 = true then ((ending_Room.f k3 (rd_L3 y259 x81_2) ((rd_T49 y266 x96_3).f0) ((rd_T49 y266 x96_3).f1)).bind fun bt311 => ((storagebarterref26_Room.f k3 (rd_L3 y259 x81_2) ((rd_T49 y266 x96_3).f0) ((rd_T49 y266 x96_3).f1)).bind fun bt313 => (storagebarterlaw26_EndingSteps.j3 k3 l1 a2 a3 a4 a5 t251 (wrap64 (1 + t255)) (wrap64 (1 + t257)) (rd_L3 y259 x81_2) y259 (y259.length : Int) x81_2 y266 (y266.length : Int) x96_3 (!(bt311.1 == bt313.1) || (!(bt311.2 == bt313.2))) a6_0 a6_1 a6_2 a6_3 a6_4 a6_5 a6_6 a6_7 t248 ba0 t286 t287 t288 t291))) else (storagebarterlaw26_EndingSteps.j3 k3 l1 a2 a3 a4 a5 t251 (wrap64 (1 + t255)) (wrap64 (1 + t257)) (rd_L3 y259 x81_2) y259 (y259.length : Int) x81_2 y266 (y266.length : Int) x96_3 true a6_0 a6_1 a6_2 a6_3 a6_4 a6_5 a6_6 a6_7 t248 ba0 t286 t287 t288 t291)) = some r := H
        have A87 := Aside0.mk A870
        clear A870
        by_cases c88 : t310 = true
        case neg =>
         rw [if_neg c88] at H
         rcases k3 with _ | k9 <;> simp [storagebarterlaw26_EndingSteps.j3, HRT_.out] at H
        subst c88
        have H1 : ((ending_Room.f k3 (rd_L3 y259 x81_2) ((rd_T49 y266 x96_3).f0) ((rd_T49 y266 x96_3).f1)).bind fun bt311 => ((storagebarterref26_Room.f k3 (rd_L3 y259 x81_2) ((rd_T49 y266 x96_3).f0) ((rd_T49 y266 x96_3).f1)).bind fun bt313 => (storagebarterlaw26_EndingSteps.j3 k3 l1 a2 a3 a4 a5 t251 (wrap64 (1 + t255)) (wrap64 (1 + t257)) (rd_L3 y259 x81_2) y259 (y259.length : Int) x81_2 y266 (y266.length : Int) x96_3 (!(bt311.1 == bt313.1) || (!(bt311.2 == bt313.2))) a6_0 a6_1 a6_2 a6_3 a6_4 a6_5 a6_6 a6_7 t248 ba0 t286 t287 t288 t291))) = some r := by rw [if_pos rfl] at H; exact H
        clear H
        have H := H1
        clear H1
        replace H := Option.bind_eq_some_iff.mp H
        obtain ⟨⟨t311, t312⟩, A890, H⟩ := H
        replace H : ((storagebarterref26_Room.f k3 (rd_L3 y259 x81_2) ((rd_T49 y266 x96_3).f0) ((rd_T49 y266 x96_3).f1)).bind fun bt313 => (storagebarterlaw26_EndingSteps.j3 k3 l1 a2 a3 a4 a5 t251 (wrap64 (1 + t255)) (wrap64 (1 + t257)) (rd_L3 y259 x81_2) y259 (y259.length : Int) x81_2 y266 (y266.length : Int) x96_3 (!(t311 == bt313.1) || (!(t312 == bt313.2))) a6_0 a6_1 a6_2 a6_3 a6_4 a6_5 a6_6 a6_7 t248 ba0 t286 t287 t288 t291)) = some r := H
        have A89 := Aside0.mk A890
        clear A890
        replace H := Option.bind_eq_some_iff.mp H
        obtain ⟨⟨t313, t314⟩, A900, H⟩ := H
        replace H : (storagebarterlaw26_EndingSteps.j3 k3 l1 a2 a3 a4 a5 t251 (wrap64 (1 + t255)) (wrap64 (1 + t257)) (rd_L3 y259 x81_2) y259 (y259.length : Int) x81_2 y266 (y266.length : Int) x96_3 (!(t311 == t313) || (!(t312 == t314))) a6_0 a6_1 a6_2 a6_3 a6_4 a6_5 a6_6 a6_7 t248 ba0 t286 t287 t288 t291) = some r := H
        have A90 := Aside0.mk A900
        clear A900
        have H' := Aside0.mk H
        clear H
        try go_wp2
        have n0_ := Aside0.mk (Kd.V_drew HO_1.out)
        have n1_ := Aside0.mk (Kd.V_drew HO_18.out)
        have n2_ := Aside0.mk (Kd.V_drew HO_22.out)
        have n3_ := Aside0.mk (Kd.N_drew HO_79.out)
        have n4_ := Aside0.mk (Kd.R_drew HO_94.out)
        have n5_ := Aside0.mk (Kd.V_drew HO273.out)
        have n6_ := Aside0.mk (Kd.V_drew HO278.out)
        have n7_ := Aside0.mk (Kd.V_drew HO281.out)
        have n8_ := Aside0.mk (Kd.V_drew HO285.out)
        have n9_ := Aside0.mk (Kd.V_drew HO290.out)
        have n10_ := Aside0.mk (Kd.V_drew HO293.out)
        have n11_ := Aside0.mk (Kd.V_drew HO298.out)
        have n12_ := Aside0.mk (Kd.V_drew HO300.out)
        have n13_ := Aside0.mk (Kd.V_drew HO304.out)
        have n14_ := Aside0.mk (Kd.V_drew HO306.out)
        have n15_ := Aside0.mk (blk_drew BK244.out)
        have n16_ := Aside0.mk (blk_drew BK270.out)
        have n17_ := Aside0.mk (blk_drew BK282.out)
        have n18_ := Aside0.mk (blk_drew BK294.out)
        have n19_ := Aside0.mk (IsS84.drew HI250.out)
        have n20_ := Aside0.mk (below_drew1 HB.out)
        clear HO_1
        clear HO_18
        clear HO_22
        clear HO_79
        clear HO_94
        clear HO273
        clear HO278
        clear HO281
        clear HO285
        clear HO290
        clear HO293
        clear HO298
        clear HO300
        clear HO304
        clear HO306
        clear BK244
        clear BK270
        clear BK282
        clear BK294
        clear HI250
        clear HB
        have HO_1 := n0_
        have HO_18 := n1_
        have HO_22 := n2_
        have HO_79 := n3_
        have HO_94 := n4_
        have HO273 := n5_
        have HO278 := n6_
        have HO281 := n7_
        have HO285 := n8_
        have HO290 := n9_
        have HO293 := n10_
        have HO298 := n11_
        have HO300 := n12_
        have HO304 := n13_
        have HO306 := n14_
        have BK244 := n15_
        have BK270 := n16_
        have BK282 := n17_
        have BK294 := n18_
        have HI250 := n19_
        have HB := n20_
        clear n0_ n1_ n2_ n3_ n4_ n5_ n6_ n7_ n8_ n9_ n10_ n11_ n12_ n13_ n14_ n15_ n16_ n17_ n18_ n19_ n20_
        obtain ⟨Ao92, co92, eo92⟩ := Kd.V_slice HO273.out
        (first | subst eo92 | (injection eo92 with f1_ f2_ f3_; have f4_ := f1_.symm; have f5_ := f3_.symm; clear f1_ f2_ f3_; subst f4_; subst f5_))
        obtain ⟨Ao93, co93, eo93⟩ := Kd.V_slice HO285.out
        (first | subst eo93 | (injection eo93 with f1_ f2_ f3_; have f4_ := f1_.symm; have f5_ := f3_.symm; clear f1_ f2_ f3_; subst f4_; subst f5_))
        refine start_ (n := 37) (S := fun w' => w'.cell? ⟨gb282, 0, none⟩ = some (.int .i64 t274) ∧ w'.cell? ⟨gb282, 1, none⟩ = some (.int .i64 t275) ∧ w'.cell? ⟨gb282, 2, none⟩ = some (.slice Ao65 t276.length co65) ∧ w'.cell? ⟨gb282, 3, none⟩ = some (.slice Ao66 t279.length co66) ∧ w'.cell? ⟨gb294, 0, none⟩ = some (.int .i64 t286) ∧ w'.cell? ⟨gb294, 1, none⟩ = some (.int .i64 t287) ∧ w'.cell? ⟨gb294, 2, none⟩ = some (.slice Ao75 t288.length co75) ∧ w'.cell? ⟨gb294, 3, none⟩ = some (.slice Ao76 t291.length co76) ∧ w'.cell? ⟨gb270, 0, none⟩ = some (.int .i64 ((rd_T49 y266 x96_3).f0)) ∧ w'.cell? ⟨gb270, 1, none⟩ = some (.int .i64 ((rd_T49 y266 x96_3).f1))) (ds := []) #[false, false, false, false, false, false, false, false, false, false, false, false, false, false, false, false, false, false, false, false, false, false, false, false, false, false, false, false, false, false, false, false, false, false, false, false, false] (by kernel_rfl) rfl rfl ⟨(blk_cell BK282.out 0).trans rfl, (blk_cell BK282.out 1).trans rfl, (blk_cell BK282.out 2).trans rfl, (blk_cell BK282.out 3).trans rfl, (blk_cell BK294.out 0).trans rfl, (blk_cell BK294.out 1).trans rfl, (blk_cell BK294.out 2).trans rfl, (blk_cell BK294.out 3).trans rfl, (blk_cell BK270.out 0).trans rfl, (blk_cell BK270.out 1).trans rfl⟩ (fun hHeld => ?_); refine with_tabW storagebarterlaw26_EndingSteps.tab24 storagebarterlaw26_EndingSteps.bits24 (fun HT_ HW_ => ?_)
        generalize w80.drew = w91 at HO_1 HO_18 HO_22 HO_79 HO_94 HO273 HO278 HO281 HO285 HO290 HO293 HO298 HO300 HO304 HO306 BK244 BK270 BK282 BK294 HI250 HB hHeld ⊢
        refine pure_ (i := 0) (N := some 140) (v := ?_) (a' := ?_) #[true, false, false, false, false, false, false, false, false, false, false, false, false, false, false, false, false, false, false, false, false, false, false, false, false, false, false, false, false, false, false, false, false, false, false, false, false] rfl rfl (any_of HT_.out (by kernel_rfl)) (fun _ _ _ h => h) (Or.inl ⟨by rfl, ?_⟩) ?_ ?_
        rotate_left
        ·intro w'
         go_simp
         with_reducible rfl
        rotate_left
        ·simp only [Act.put, List.setIfInBounds_toArray, List.set_cons_zero, List.set_cons_succ, i64_w, i32_w]
         rfl
        refine pure_ (i := 1) (N := some 141) (v := ?_) (a' := ?_) #[true, true, false, false, false, false, false, false, false, false, false, false, false, false, false, false, false, false, false, false, false, false, false, false, false, false, false, false, false, false, false, false, false, false, false, false, false] rfl rfl (any_of HT_.out (by kernel_rfl)) (fun _ _ _ h => h) (Or.inl ⟨by rfl, ?_⟩) ?_ ?_
        rotate_left
        ·intro w'
         go_simp
         with_reducible rfl
        rotate_left
        ·simp only [Act.put, List.setIfInBounds_toArray, List.set_cons_zero, List.set_cons_succ, i64_w, i32_w]
         rfl
        refine one_ (i := 2) (N := some 142) #[true, true, true, false, false, false, false, false, false, false, false, false, false, false, false, false, false, false, false, false, false, false, false, false, false, false, false, false, false, false, false, false, false, false, false, false, false] rfl rfl (one_of HT_.out (by kernel_rfl)) (by decide) (fun K hK => ?_)
        refine goes_ Try.func22 (by kernel_rfl) rfl #[.slice Ao92 t271.length co92, .slice Ao93 t283.length co93] (by rfl) rfl rfl (by (try simp only [List.map_toArray, List.map_cons, List.map_nil]); first | done | rfl | (simp only [List.length_drop, List.length_take]; rfl)) ?_
        with_reducible refine (storagebarterref26_Same.calls k3 _ _ t271 _ _ t283 true _ ?side1 ?side2 ?side3 ?side4 A81.out).mono ?_
        (case side1 => first | exact (Kd.V_reads' HO273.out).2.2 | exact cU7 (Kd.V_reads' HO273.out).2.2)
        (case side2 => exact (Kd.V_reads' HO273.out).2.1)
        (case side3 => first | exact (Kd.V_reads' HO285.out).2.2 | exact cU7 (Kd.V_reads' HO285.out).2.2)
        (case side4 => exact (Kd.V_reads' HO285.out).2.1)
        rintro e w' ⟨rfl, ⟨nd, rfl⟩⟩
        refine ⟨_, rfl, ?_⟩
        refine hK.out _ _ ⟨(blk_cell BK282.out 0).trans rfl, (blk_cell BK282.out 1).trans rfl, (blk_cell BK282.out 2).trans rfl, (blk_cell BK282.out 3).trans rfl, (blk_cell BK294.out 0).trans rfl, (blk_cell BK294.out 1).trans rfl, (blk_cell BK294.out 2).trans rfl, (blk_cell BK294.out 3).trans rfl, (blk_cell BK270.out 0).trans rfl, (blk_cell BK270.out 1).trans rfl⟩ (fun hHeld => ?_)
        clear hK K
        refine norm_ (a' := ?_) ?_ ?_
        rotate_left
        ·show Act.put _ (some 142) _ = _
         simp only [Act.put, List.setIfInBounds_toArray, List.set_cons_zero, List.set_cons_succ, i64_w, i32_w]
         rfl
        refine pure_ (i := 3) (N := some 143) (v := ?_) (a' := ?_) #[true, true, true, true, false, false, false, false, false, false, false, false, false, false, false, false, false, false, false, false, false, false, false, false, false, false, false, false, false, false, false, false, false, false, false, false, false] rfl rfl (any_of HT_.out (by kernel_rfl)) (fun _ _ _ h => h) (Or.inl ⟨by rfl, ?_⟩) ?_ ?_
        rotate_left
        ·intro w'
         go_simp
         with_reducible rfl
        rotate_left
        ·simp only [Act.put, List.setIfInBounds_toArray, List.set_cons_zero, List.set_cons_succ, i64_w, i32_w]
         rfl
        refine pure_ (i := 4) (N := some 144) (v := ?_) (a' := ?_) #[true, true, true, true, true, false, false, false, false, false, false, false, false, false, false, false, false, false, false, false, false, false, false, false, false, false, false, false, false, false, false, false, false, false, false, false, false] rfl rfl (any_of HT_.out (by kernel_rfl)) (fun _ _ _ h => h) (Or.inl ⟨by rfl, ?_⟩) ?_ ?_
        rotate_left
        ·intro w'
         go_simp
         with_reducible rfl
        rotate_left
        ·simp only [Act.put, List.setIfInBounds_toArray, List.set_cons_zero, List.set_cons_succ, i64_w, i32_w]
         rfl
        refine take_ (i := 5) (N := some 145) (v := ?_) (a' := ?_) #[true, true, true, true, true, true, false, false, false, false, false, false, false, false, false, false, false, false, false, false, false, false, false, false, false, false, false, false, false, false, false, false, false, false, false, false, false] rfl rfl (take_ofW HT_.out HW_.out (by kernel_rfl)) (fun _ _ _ h => h) (Or.inl ⟨by rfl, ?_⟩) hHeld ?_ ?_
        rotate_left
        ·rintro w' ⟨s0, s1, s2, s3, s4, s5, s6, s7, s8, s9⟩
         go_simp
         with_reducible rfl
        rotate_left
        ·simp only [Act.put, List.setIfInBounds_toArray, List.set_cons_zero, List.set_cons_succ, i64_w, i32_w]
         rfl
        refine take_ (i := 6) (N := some 146) (v := ?_) (a' := ?_) #[true, true, true, true, true, true, true, false, false, false, false, false, false, false, false, false, false, false, false, false, false, false, false, false, false, false, false, false, false, false, false, false, false, false, false, false, false] rfl rfl (take_ofW HT_.out HW_.out (by kernel_rfl)) (fun _ _ _ h => h) (Or.inl ⟨by rfl, ?_⟩) hHeld ?_ ?_
        rotate_left
        ·rintro w' ⟨s0, s1, s2, s3, s4, s5, s6, s7, s8, s9⟩
         go_simp
         with_reducible rfl
        rotate_left
        ·simp only [Act.put, List.setIfInBounds_toArray, List.set_cons_zero, List.set_cons_succ, i64_w, i32_w]
         rfl
        refine one_ (i := 7) (N := some 147) #[true, true, true, true, true, true, true, true, false, false, false, false, false, false, false, false, false, false, false, false, false, false, false, false, false, false, false, false, false, false, false, false, false, false, false, false, false] rfl rfl (one_of HT_.out (by kernel_rfl)) (by decide) (fun K hK => ?_)
        refine goes_ Try.func29 (by kernel_rfl) rfl #[.agg #[.int .i64 t274, .int .i64 t275, .slice Ao65 t276.length co65, .slice Ao66 t279.length co66], .agg #[.int .i64 t286, .int .i64 t287, .slice Ao75 t288.length co75, .slice Ao76 t291.length co76]] (by rfl) rfl rfl (by (try simp only [List.map_toArray, List.map_cons, List.map_nil]); first | done | rfl | (simp only [List.length_drop, List.length_take]; rfl)) ?_
        with_reducible refine (storagebarterref26_SameEnding.calls k3 t274 t275 _ _ t276 _ _ t279 t286 t287 _ _ t288 _ _ t291 true _ ?side1 ?side2 ?side3 ?side4 ?side5 ?side6 ?side7 ?side8 A83.out).mono ?_
        (case side1 => first | exact (Kd.V_reads' HO278.out).2.2 | exact cU7 (Kd.V_reads' HO278.out).2.2)
        (case side2 => exact (Kd.V_reads' HO278.out).2.1)
        (case side3 => first | exact (Kd.V_reads' HO281.out).2.2 | exact cU7 (Kd.V_reads' HO281.out).2.2)
        (case side4 => exact (Kd.V_reads' HO281.out).2.1)
        (case side5 => first | exact (Kd.V_reads' HO290.out).2.2 | exact cU7 (Kd.V_reads' HO290.out).2.2)
        (case side6 => exact (Kd.V_reads' HO290.out).2.1)
        (case side7 => first | exact (Kd.V_reads' HO293.out).2.2 | exact cU7 (Kd.V_reads' HO293.out).2.2)
        (case side8 => exact (Kd.V_reads' HO293.out).2.1)
        rintro e w94 ⟨rfl, hb⟩
        refine ⟨_, rfl, ?_⟩
        have n0_ := Aside0.mk (Kd.V_below (vU7 HO_1.out) hb)
        have n1_ := Aside0.mk (Kd.V_below (vU7 HO_18.out) hb)
        have n2_ := Aside0.mk (Kd.V_below (vU7 HO_22.out) hb)
        have n3_ := Aside0.mk (Kd.N_below (nU7 HO_79.out) hb)
        have n4_ := Aside0.mk (Kd.R_below (rU7 HO_94.out) hb)
        have n5_ := Aside0.mk (Kd.V_below (vU7 HO273.out) hb)
        have n6_ := Aside0.mk (Kd.V_below (vU7 HO278.out) hb)
        have n7_ := Aside0.mk (Kd.V_below (vU7 HO281.out) hb)
        have n8_ := Aside0.mk (Kd.V_below (vU7 HO285.out) hb)
        have n9_ := Aside0.mk (Kd.V_below (vU7 HO290.out) hb)
        have n10_ := Aside0.mk (Kd.V_below (vU7 HO293.out) hb)
        have n11_ := Aside0.mk (Kd.V_below (vU7 HO298.out) hb)
        have n12_ := Aside0.mk (Kd.V_below (vU7 HO300.out) hb)
        have n13_ := Aside0.mk (Kd.V_below (vU7 HO304.out) hb)
        have n14_ := Aside0.mk (Kd.V_below (vU7 HO306.out) hb)
        have n15_ := Aside0.mk (blk_below (g := gb244) (bU7 BK244.out) hb)
        have n16_ := Aside0.mk (IsS84.below (by repeat (first | (with_reducible first | exact HI250.out | apply IsS84.alloc | apply IsS84.drewN | apply IsS84.drew | apply IsS84.set_1 | refine IsS84.far ?_ NB250_244.out _ | refine IsS84.far ?_ NB250_270.out _ | refine IsS84.far ?_ NB250_282.out _ | refine IsS84.far ?_ NB250_294.out _) | exact HI250.out)) hb)
        have n17_ := Aside0.mk (blk_below (g := gb270) (bU7 BK270.out) hb)
        have n18_ := Aside0.mk (blk_below (g := gb282) (bU7 BK282.out) hb)
        have n19_ := Aside0.mk (blk_below (g := gb294) (bU7 BK294.out) hb)
        have n20_ := Aside0.mk (below_step (by repeat (first | (with_reducible first | exact HB.out | apply below_alloc | apply pw_below_drewN | apply below_drew1 | refine below_set ?_ (IsS84.ge HI250.out) | refine below_set ?_ (Aside0.out (by assumption))) | exact HB.out)) hb)
        clear HO_1
        clear HO_18
        clear HO_22
        clear HO_79
        clear HO_94
        clear HO273
        clear HO278
        clear HO281
        clear HO285
        clear HO290
        clear HO293
        clear HO298
        clear HO300
        clear HO304
        clear HO306
        clear BK244
        clear HI250
        clear BK270
        clear BK282
        clear BK294
        clear HB
        have HO_1 := n0_
        have HO_18 := n1_
        have HO_22 := n2_
        have HO_79 := n3_
        have HO_94 := n4_
        have HO273 := n5_
        have HO278 := n6_
        have HO281 := n7_
        have HO285 := n8_
        have HO290 := n9_
        have HO293 := n10_
        have HO298 := n11_
        have HO300 := n12_
        have HO304 := n13_
        have HO306 := n14_
        have BK244 := n15_
        have HI250 := n16_
        have BK270 := n17_
        have BK282 := n18_
        have BK294 := n19_
        have HB := n20_
        clear n0_ n1_ n2_ n3_ n4_ n5_ n6_ n7_ n8_ n9_ n10_ n11_ n12_ n13_ n14_ n15_ n16_ n17_ n18_ n19_ n20_
        (try clear hb)
        (try clear hb2)
        (try clear hk)
        (try clear hi)
        (try clear hgw)
        obtain ⟨Ao95, co95, eo95⟩ := Kd.V_slice HO298.out
        (first | subst eo95 | (injection eo95 with f1_ f2_ f3_; have f4_ := f1_.symm; have f5_ := f3_.symm; clear f1_ f2_ f3_; subst f4_; subst f5_))
        obtain ⟨Ao96, co96, eo96⟩ := Kd.V_slice HO304.out
        (first | subst eo96 | (injection eo96 with f1_ f2_ f3_; have f4_ := f1_.symm; have f5_ := f3_.symm; clear f1_ f2_ f3_; subst f4_; subst f5_))
        refine hK.out _ _ ⟨(blk_cell BK282.out 0).trans rfl, (blk_cell BK282.out 1).trans rfl, (blk_cell BK282.out 2).trans rfl, (blk_cell BK282.out 3).trans rfl, (blk_cell BK294.out 0).trans rfl, (blk_cell BK294.out 1).trans rfl, (blk_cell BK294.out 2).trans rfl, (blk_cell BK294.out 3).trans rfl, (blk_cell BK270.out 0).trans rfl, (blk_cell BK270.out 1).trans rfl⟩ (fun hHeld => ?_)
        clear hK K
        refine norm_ (a' := ?_) ?_ ?_
        rotate_left
        ·show Act.put _ (some 147) _ = _
         simp only [Act.put, List.setIfInBounds_toArray, List.set_cons_zero, List.set_cons_succ, i64_w, i32_w]
         rfl
        refine pure_ (i := 8) (N := some 148) (v := ?_) (a' := ?_) #[true, true, true, true, true, true, true, true, true, false, false, false, false, false, false, false, false, false, false, false, false, false, false, false, false, false, false, false, false, false, false, false, false, false, false, false, false] rfl rfl (any_of HT_.out (by kernel_rfl)) (fun _ _ _ h => h) (Or.inl ⟨by rfl, ?_⟩) ?_ ?_
        rotate_left
        ·intro w'
         go_simp
         with_reducible rfl
        rotate_left
        ·simp only [Act.put, List.setIfInBounds_toArray, List.set_cons_zero, List.set_cons_succ, i64_w, i32_w]
         rfl
        refine pure_ (i := 9) (N := some 149) (v := ?_) (a' := ?_) #[true, true, true, true, true, true, true, true, true, true, false, false, false, false, false, false, false, false, false, false, false, false, false, false, false, false, false, false, false, false, false, false, false, false, false, false, false] rfl rfl (any_of HT_.out (by kernel_rfl)) (fun _ _ _ h => h) (Or.inl ⟨by rfl, ?_⟩) ?_ ?_
        rotate_left
        ·intro w'
         go_simp
         with_reducible rfl
        rotate_left
        ·simp only [Act.put, List.setIfInBounds_toArray, List.set_cons_zero, List.set_cons_succ, i64_w, i32_w]
         rfl
        refine pure_ (i := 10) (N := some 150) (v := ?_) (a' := ?_) #[true, true, true, true, true, true, true, true, true, true, true, false, false, false, false, false, false, false, false, false, false, false, false, false, false, false, false, false, false, false, false, false, false, false, false, false, false] rfl rfl (any_of HT_.out (by kernel_rfl)) (fun _ _ _ h => h) (Or.inl ⟨by rfl, ?_⟩) ?_ ?_
        rotate_left
        ·intro w'
         go_simp
         with_reducible rfl
        rotate_left
        ·simp only [Act.put, List.setIfInBounds_toArray, List.set_cons_zero, List.set_cons_succ, i64_w, i32_w]
         rfl
        refine pure_ (i := 11) (N := some 151) (v := ?_) (a' := ?_) #[true, true, true, true, true, true, true, true, true, true, true, true, false, false, false, false, false, false, false, false, false, false, false, false, false, false, false, false, false, false, false, false, false, false, false, false, false] rfl rfl (any_of HT_.out (by kernel_rfl)) (fun _ _ _ h => h) (Or.inl ⟨by rfl, ?_⟩) ?_ ?_
        rotate_left
        ·intro w'
         go_simp
         with_reducible rfl
        rotate_left
        ·simp only [Act.put, List.setIfInBounds_toArray, List.set_cons_zero, List.set_cons_succ, i64_w, i32_w]
         rfl
        refine pure_ (i := 12) (N := some 152) (v := ?_) (a' := ?_) #[true, true, true, true, true, true, true, true, true, true, true, true, true, false, false, false, false, false, false, false, false, false, false, false, false, false, false, false, false, false, false, false, false, false, false, false, false] rfl rfl (any_of HT_.out (by kernel_rfl)) (fun _ _ _ h => h) (Or.inl ⟨by rfl, ?_⟩) ?_ ?_
        rotate_left
        ·intro w'
         go_simp
         with_reducible rfl
        rotate_left
        ·simp only [Act.put, List.setIfInBounds_toArray, List.set_cons_zero, List.set_cons_succ, i64_w, i32_w]
         rfl
        refine one_ (i := 13) (N := some 153) #[true, true, true, true, true, true, true, true, true, true, true, true, true, true, false, false, false, false, false, false, false, false, false, false, false, false, false, false, false, false, false, false, false, false, false, false, false] rfl rfl (one_of HT_.out (by kernel_rfl)) (by decide) (fun K hK => ?_)
        refine goes_ Try.func22 (by kernel_rfl) rfl #[.slice Ao95 t295.length co95, .slice Ao96 t301.length co96] (by rfl) rfl rfl (by (try simp only [List.map_toArray, List.map_cons, List.map_nil]); first | done | rfl | (simp only [List.length_drop, List.length_take]; rfl)) ?_
        with_reducible refine (storagebarterref26_Same.calls k3 _ _ t295 _ _ t301 true _ ?side1 ?side2 ?side3 ?side4 A85.out).mono ?_
        (case side1 => first | exact (Kd.V_reads' HO298.out).2.2 | exact cU7 (Kd.V_reads' HO298.out).2.2)
        (case side2 => exact (Kd.V_reads' HO298.out).2.1)
        (case side3 => first | exact (Kd.V_reads' HO304.out).2.2 | exact cU7 (Kd.V_reads' HO304.out).2.2)
        (case side4 => exact (Kd.V_reads' HO304.out).2.1)
        rintro e w' ⟨rfl, ⟨nd, rfl⟩⟩
        refine ⟨_, rfl, ?_⟩
        obtain ⟨Ao97, co97, eo97⟩ := Kd.V_slice HO300.out
        (first | subst eo97 | (injection eo97 with f1_ f2_ f3_; have f4_ := f1_.symm; have f5_ := f3_.symm; clear f1_ f2_ f3_; subst f4_; subst f5_))
        obtain ⟨Ao98, co98, eo98⟩ := Kd.V_slice HO306.out
        (first | subst eo98 | (injection eo98 with f1_ f2_ f3_; have f4_ := f1_.symm; have f5_ := f3_.symm; clear f1_ f2_ f3_; subst f4_; subst f5_))
        refine hK.out _ _ ⟨(blk_cell BK282.out 0).trans rfl, (blk_cell BK282.out 1).trans rfl, (blk_cell BK282.out 2).trans rfl, (blk_cell BK282.out 3).trans rfl, (blk_cell BK294.out 0).trans rfl, (blk_cell BK294.out 1).trans rfl, (blk_cell BK294.out 2).trans rfl, (blk_cell BK294.out 3).trans rfl, (blk_cell BK270.out 0).trans rfl, (blk_cell BK270.out 1).trans rfl⟩ (fun hHeld => ?_)
        clear hK K
        refine norm_ (a' := ?_) ?_ ?_
        rotate_left
        ·show Act.put _ (some 153) _ = _
         simp only [Act.put, List.setIfInBounds_toArray, List.set_cons_zero, List.set_cons_succ, i64_w, i32_w]
         rfl
        refine pure_ (i := 14) (N := some 154) (v := ?_) (a' := ?_) #[true, true, true, true, true, true, true, true, true, true, true, true, true, true, true, false, false, false, false, false, false, false, false, false, false, false, false, false, false, false, false, false, false, false, false, false, false] rfl rfl (any_of HT_.out (by kernel_rfl)) (fun _ _ _ h => h) (Or.inl ⟨by rfl, ?_⟩) ?_ ?_
        rotate_left
        ·intro w'
         go_simp
         with_reducible rfl
        rotate_left
        ·simp only [Act.put, List.setIfInBounds_toArray, List.set_cons_zero, List.set_cons_succ, i64_w, i32_w]
         rfl
        refine pure_ (i := 15) (N := some 155) (v := ?_) (a' := ?_) #[true, true, true, true, true, true, true, true, true, true, true, true, true, true, true, true, false, false, false, false, false, false, false, false, false, false, false, false, false, false, false, false, false, false, false, false, false] rfl rfl (any_of HT_.out (by kernel_rfl)) (fun _ _ _ h => h) (Or.inl ⟨by rfl, ?_⟩) ?_ ?_
        rotate_left
        ·intro w'
         go_simp
         with_reducible rfl
        rotate_left
        ·simp only [Act.put, List.setIfInBounds_toArray, List.set_cons_zero, List.set_cons_succ, i64_w, i32_w]
         rfl
        refine pure_ (i := 16) (N := some 156) (v := ?_) (a' := ?_) #[true, true, true, true, true, true, true, true, true, true, true, true, true, true, true, true, true, false, false, false, false, false, false, false, false, false, false, false, false, false, false, false, false, false, false, false, false] rfl rfl (any_of HT_.out (by kernel_rfl)) (fun _ _ _ h => h) (Or.inl ⟨by rfl, ?_⟩) ?_ ?_
        rotate_left
        ·intro w'
         go_simp
         with_reducible rfl
        rotate_left
        ·simp only [Act.put, List.setIfInBounds_toArray, List.set_cons_zero, List.set_cons_succ, i64_w, i32_w]
         rfl
        refine pure_ (i := 17) (N := some 157) (v := ?_) (a' := ?_) #[true, true, true, true, true, true, true, true, true, true, true, true, true, true, true, true, true, true, false, false, false, false, false, false, false, false, false, false, false, false, false, false, false, false, false, false, false] rfl rfl (any_of HT_.out (by kernel_rfl)) (fun _ _ _ h => h) (Or.inl ⟨by rfl, ?_⟩) ?_ ?_
        rotate_left
        ·intro w'
         go_simp
         with_reducible rfl
        rotate_left
        ·simp only [Act.put, List.setIfInBounds_toArray, List.set_cons_zero, List.set_cons_succ, i64_w, i32_w]
         rfl
        refine pure_ (i := 18) (N := some 158) (v := ?_) (a' := ?_) #[true, true, true, true, true, true, true, true, true, true, true, true, true, true, true, true, true, true, true, false, false, false, false, false, false, false, false, false, false, false, false, false, false, false, false, false, false] rfl rfl (any_of HT_.out (by kernel_rfl)) (fun _ _ _ h => h) (Or.inl ⟨by rfl, ?_⟩) ?_ ?_
        rotate_left
        ·intro w'
         go_simp
         with_reducible rfl
        rotate_left
        ·simp only [Act.put, List.setIfInBounds_toArray, List.set_cons_zero, List.set_cons_succ, i64_w, i32_w]
         rfl
        refine one_ (i := 19) (N := some 159) #[true, true, true, true, true, true, true, true, true, true, true, true, true, true, true, true, true, true, true, true, false, false, false, false, false, false, false, false, false, false, false, false, false, false, false, false, false] rfl rfl (one_of HT_.out (by kernel_rfl)) (by decide) (fun K hK => ?_)
        refine goes_ Try.func22 (by kernel_rfl) rfl #[.slice Ao97 t296.length co97, .slice Ao98 t302.length co98] (by rfl) rfl rfl (by (try simp only [List.map_toArray, List.map_cons, List.map_nil]); first | done | rfl | (simp only [List.length_drop, List.length_take]; rfl)) ?_
        with_reducible refine (storagebarterref26_Same.calls k3 _ _ t296 _ _ t302 true _ ?side1 ?side2 ?side3 ?side4 A87.out).mono ?_
        (case side1 => first | exact (Kd.V_reads' HO300.out).2.2 | exact cU7 (Kd.V_reads' HO300.out).2.2)
        (case side2 => exact (Kd.V_reads' HO300.out).2.1)
        (case side3 => first | exact (Kd.V_reads' HO306.out).2.2 | exact cU7 (Kd.V_reads' HO306.out).2.2)
        (case side4 => exact (Kd.V_reads' HO306.out).2.1)
        rintro e w' ⟨rfl, ⟨nd, rfl⟩⟩
        refine ⟨_, rfl, ?_⟩
        refine hK.out _ _ ⟨(blk_cell BK282.out 0).trans rfl, (blk_cell BK282.out 1).trans rfl, (blk_cell BK282.out 2).trans rfl, (blk_cell BK282.out 3).trans rfl, (blk_cell BK294.out 0).trans rfl, (blk_cell BK294.out 1).trans rfl, (blk_cell BK294.out 2).trans rfl, (blk_cell BK294.out 3).trans rfl, (blk_cell BK270.out 0).trans rfl, (blk_cell BK270.out 1).trans rfl⟩ (fun hHeld => ?_)
        clear hK K
        refine norm_ (a' := ?_) ?_ ?_
        rotate_left
        ·show Act.put _ (some 159) _ = _
         simp only [Act.put, List.setIfInBounds_toArray, List.set_cons_zero, List.set_cons_succ, i64_w, i32_w]
         rfl
        refine pure_ (i := 20) (N := some 160) (v := ?_) (a' := ?_) #[true, true, true, true, true, true, true, true, true, true, true, true, true, true, true, true, true, true, true, true, true, false, false, false, false, false, false, false, false, false, false, false, false, false, false, false, false] rfl rfl (any_of HT_.out (by kernel_rfl)) (fun _ _ _ h => h) (Or.inl ⟨by rfl, ?_⟩) ?_ ?_
        rotate_left
        ·intro w'
         go_simp
         with_reducible rfl
        rotate_left
        ·simp only [Act.put, List.setIfInBounds_toArray, List.set_cons_zero, List.set_cons_succ, i64_w, i32_w]
         rfl
        refine pure_ (i := 21) (N := some 161) (v := ?_) (a' := ?_) #[true, true, true, true, true, true, true, true, true, true, true, true, true, true, true, true, true, true, true, true, true, true, false, false, false, false, false, false, false, false, false, false, false, false, false, false, false] rfl rfl (any_of HT_.out (by kernel_rfl)) (fun _ _ _ h => h) (Or.inl ⟨by rfl, ?_⟩) ?_ ?_
        rotate_left
        ·intro w'
         go_simp
         with_reducible rfl
        rotate_left
        ·simp only [Act.put, List.setIfInBounds_toArray, List.set_cons_zero, List.set_cons_succ, i64_w, i32_w]
         rfl
        refine pure_ (i := 22) (N := some 162) (v := ?_) (a' := ?_) #[true, true, true, true, true, true, true, true, true, true, true, true, true, true, true, true, true, true, true, true, true, true, true, false, false, false, false, false, false, false, false, false, false, false, false, false, false] rfl rfl (any_of HT_.out (by kernel_rfl)) (fun _ _ _ h => h) (Or.inl ⟨by rfl, ?_⟩) ?_ ?_
        rotate_left
        ·intro w'
         go_simp
         with_reducible rfl
        rotate_left
        ·simp only [Act.put, List.setIfInBounds_toArray, List.set_cons_zero, List.set_cons_succ, i64_w, i32_w]
         rfl
        refine pure_ (i := 23) (N := some 163) (v := ?_) (a' := ?_) #[true, true, true, true, true, true, true, true, true, true, true, true, true, true, true, true, true, true, true, true, true, true, true, true, false, false, false, false, false, false, false, false, false, false, false, false, false] rfl rfl (any_of HT_.out (by kernel_rfl)) (fun _ _ _ h => h) (Or.inl ⟨by rfl, ?_⟩) ?_ ?_
        rotate_left
        ·intro w'
         go_simp
         with_reducible rfl
        rotate_left
        ·simp only [Act.put, List.setIfInBounds_toArray, List.set_cons_zero, List.set_cons_succ, i64_w, i32_w]
         rfl
        refine pure_ (i := 24) (N := some 164) (v := ?_) (a' := ?_) #[true, true, true, true, true, true, true, true, true, true, true, true, true, true, true, true, true, true, true, true, true, true, true, true, true, false, false, false, false, false, false, false, false, false, false, false, false] rfl rfl (any_of HT_.out (by kernel_rfl)) (fun _ _ _ h => h) (Or.inl ⟨by rfl, ?_⟩) ?_ ?_
        rotate_left
        ·intro w'
         go_simp
         with_reducible rfl
        rotate_left
        ·simp only [Act.put, List.setIfInBounds_toArray, List.set_cons_zero, List.set_cons_succ, i64_w, i32_w]
         rfl
        refine pure_ (i := 26) (N := some 166) (v := ?_) (a' := ?_) #[true, true, true, true, true, true, true, true, true, true, true, true, true, true, true, true, true, true, true, true, true, true, true, true, true, false, true, false, false, false, false, false, false, false, false, false, false] rfl rfl (any_of HT_.out (by kernel_rfl)) (fun _ _ _ h => h) (Or.inl ⟨by rfl, ?_⟩) ?_ ?_
        rotate_left
        ·intro w'
         go_simp
         with_reducible rfl
        rotate_left
        ·simp only [Act.put, List.setIfInBounds_toArray, List.set_cons_zero, List.set_cons_succ, i64_w, i32_w]
         rfl
        refine pure_ (i := 29) (N := some 169) (v := ?_) (a' := ?_) #[true, true, true, true, true, true, true, true, true, true, true, true, true, true, true, true, true, true, true, true, true, true, true, true, true, false, true, false, false, true, false, false, false, false, false, false, false] rfl rfl (any_of HT_.out (by kernel_rfl)) (fun _ _ _ h => h) (Or.inl ⟨by rfl, ?_⟩) ?_ ?_
        rotate_left
        ·intro w'
         go_simp
         with_reducible rfl
        rotate_left
        ·simp only [Act.put, List.setIfInBounds_toArray, List.set_cons_zero, List.set_cons_succ, i64_w, i32_w]
         rfl
        refine pure_ (i := 30) (N := some 170) (v := ?_) (a' := ?_) #[true, true, true, true, true, true, true, true, true, true, true, true, true, true, true, true, true, true, true, true, true, true, true, true, true, false, true, false, false, true, true, false, false, false, false, false, false] rfl rfl (any_of HT_.out (by kernel_rfl)) (fun _ _ _ h => h) (Or.inl ⟨by rfl, ?_⟩) ?_ ?_
        rotate_left
        ·intro w'
         go_simp
         with_reducible rfl
        rotate_left
        ·simp only [Act.put, List.setIfInBounds_toArray, List.set_cons_zero, List.set_cons_succ, i64_w, i32_w]
         rfl
        refine pure_ (i := 32) (N := some 172) (v := ?_) (a' := ?_) #[true, true, true, true, true, true, true, true, true, true, true, true, true, true, true, true, true, true, true, true, true, true, true, true, true, false, true, false, false, true, true, false, true, false, false, false, false] rfl rfl (any_of HT_.out (by kernel_rfl)) (fun _ _ _ h => h) (Or.inl ⟨by rfl, ?_⟩) ?_ ?_
        rotate_left
        ·intro w'
         go_simp
         with_reducible rfl
        rotate_left
        ·simp only [Act.put, List.setIfInBounds_toArray, List.set_cons_zero, List.set_cons_succ, i64_w, i32_w]
         rfl
        refine take_ (i := 25) (N := some 165) (v := ?_) (a' := ?_) #[true, true, true, true, true, true, true, true, true, true, true, true, true, true, true, true, true, true, true, true, true, true, true, true, true, true, true, false, false, true, true, false, true, false, false, false, false] rfl rfl (take_ofW HT_.out HW_.out (by kernel_rfl)) (fun _ _ _ h => h) (Or.inl ⟨by rfl, ?_⟩) hHeld ?_ ?_
        rotate_left
        ·rintro w' ⟨s0, s1, s2, s3, s4, s5, s6, s7, s8, s9⟩
         go_simp
         with_reducible rfl
        rotate_left
        ·simp only [Act.put, List.setIfInBounds_toArray, List.set_cons_zero, List.set_cons_succ, i64_w, i32_w]
         rfl
        refine take_ (i := 27) (N := some 167) (v := ?_) (a' := ?_) #[true, true, true, true, true, true, true, true, true, true, true, true, true, true, true, true, true, true, true, true, true, true, true, true, true, true, true, true, false, true, true, false, true, false, false, false, false] rfl rfl (take_ofW HT_.out HW_.out (by kernel_rfl)) (fun _ _ _ h => h) (Or.inl ⟨by rfl, ?_⟩) hHeld ?_ ?_
        rotate_left
        ·rintro w' ⟨s0, s1, s2, s3, s4, s5, s6, s7, s8, s9⟩
         go_simp
         with_reducible rfl
        rotate_left
        ·simp only [Act.put, List.setIfInBounds_toArray, List.set_cons_zero, List.set_cons_succ, i64_w, i32_w]
         rfl
        refine take_ (i := 31) (N := some 171) (v := ?_) (a' := ?_) #[true, true, true, true, true, true, true, true, true, true, true, true, true, true, true, true, true, true, true, true, true, true, true, true, true, true, true, true, false, true, true, true, true, false, false, false, false] rfl rfl (take_ofW HT_.out HW_.out (by kernel_rfl)) (fun _ _ _ h => h) (Or.inl ⟨by rfl, ?_⟩) hHeld ?_ ?_
        rotate_left
        ·rintro w' ⟨s0, s1, s2, s3, s4, s5, s6, s7, s8, s9⟩
         go_simp
         with_reducible rfl
        rotate_left
        ·simp only [Act.put, List.setIfInBounds_toArray, List.set_cons_zero, List.set_cons_succ, i64_w, i32_w]
         rfl
        refine take_ (i := 33) (N := some 173) (v := ?_) (a' := ?_) #[true, true, true, true, true, true, true, true, true, true, true, true, true, true, true, true, true, true, true, true, true, true, true, true, true, true, true, true, false, true, true, true, true, true, false, false, false] rfl rfl (take_ofW HT_.out HW_.out (by kernel_rfl)) (fun _ _ _ h => h) (Or.inl ⟨by rfl, ?_⟩) hHeld ?_ ?_
        rotate_left
        ·rintro w' ⟨s0, s1, s2, s3, s4, s5, s6, s7, s8, s9⟩
         go_simp
         with_reducible rfl
        rotate_left
        ·simp only [Act.put, List.setIfInBounds_toArray, List.set_cons_zero, List.set_cons_succ, i64_w, i32_w]
         rfl
        refine one_ (i := 28) (N := some 168) #[true, true, true, true, true, true, true, true, true, true, true, true, true, true, true, true, true, true, true, true, true, true, true, true, true, true, true, true, true, true, true, true, true, true, false, false, false] rfl rfl (one_of HT_.out (by kernel_rfl)) (by decide) (fun K hK => ?_)
        refine goes_ Try.func23 (by kernel_rfl) rfl #[.slice ba2 (rd_L3 y259 x81_2).length c264_0, .int .i64 ((rd_T49 y266 x96_3).f0), .int .i64 ((rd_T49 y266 x96_3).f1)] (by rfl) rfl rfl (by (try simp only [List.map_toArray, List.map_cons, List.map_nil]); first | done | rfl | (simp only [List.length_drop, List.length_take]; rfl)) ?_
        with_reducible refine (ending_Room.calls k3 _ _ (rd_L3 y259 x81_2) ((rd_T49 y266 x96_3).f0) ((rd_T49 y266 x96_3).f1) t311 t312 _ ?side1 ?side2 A89.out).mono ?_
        (case side1 => first | exact (Kd.V_reads' HO_22.out).2.2 | exact cU7 (Kd.V_reads' HO_22.out).2.2)
        (case side2 => exact (Kd.V_reads' HO_22.out).2.1)
        rintro e w99 ⟨rfl, hb⟩
        refine ⟨_, rfl, ?_⟩
        have n0_ := Aside0.mk (Kd.V_below (vU7 HO_1.out) hb)
        have n1_ := Aside0.mk (Kd.V_below (vU7 HO_18.out) hb)
        have n2_ := Aside0.mk (Kd.V_below (vU7 HO_22.out) hb)
        have n3_ := Aside0.mk (Kd.N_below (nU7 HO_79.out) hb)
        have n4_ := Aside0.mk (Kd.R_below (rU7 HO_94.out) hb)
        have n5_ := Aside0.mk (Kd.V_below (vU7 HO273.out) hb)
        have n6_ := Aside0.mk (Kd.V_below (vU7 HO278.out) hb)
        have n7_ := Aside0.mk (Kd.V_below (vU7 HO281.out) hb)
        have n8_ := Aside0.mk (Kd.V_below (vU7 HO285.out) hb)
        have n9_ := Aside0.mk (Kd.V_below (vU7 HO290.out) hb)
        have n10_ := Aside0.mk (Kd.V_below (vU7 HO293.out) hb)
        have n11_ := Aside0.mk (Kd.V_below (vU7 HO298.out) hb)
        have n12_ := Aside0.mk (Kd.V_below (vU7 HO300.out) hb)
        have n13_ := Aside0.mk (Kd.V_below (vU7 HO304.out) hb)
        have n14_ := Aside0.mk (Kd.V_below (vU7 HO306.out) hb)
        have n15_ := Aside0.mk (blk_below (g := gb244) (bU7 BK244.out) hb)
        have n16_ := Aside0.mk (IsS84.below (by repeat (first | (with_reducible first | exact HI250.out | apply IsS84.alloc | apply IsS84.drewN | apply IsS84.drew | apply IsS84.set_1 | refine IsS84.far ?_ NB250_244.out _ | refine IsS84.far ?_ NB250_270.out _ | refine IsS84.far ?_ NB250_282.out _ | refine IsS84.far ?_ NB250_294.out _) | exact HI250.out)) hb)
        have n17_ := Aside0.mk (blk_below (g := gb270) (bU7 BK270.out) hb)
        have n18_ := Aside0.mk (blk_below (g := gb282) (bU7 BK282.out) hb)
        have n19_ := Aside0.mk (blk_below (g := gb294) (bU7 BK294.out) hb)
        have n20_ := Aside0.mk (below_step (by repeat (first | (with_reducible first | exact HB.out | apply below_alloc | apply pw_below_drewN | apply below_drew1 | refine below_set ?_ (IsS84.ge HI250.out) | refine below_set ?_ (Aside0.out (by assumption))) | exact HB.out)) hb)
        clear HO_1
        clear HO_18
        clear HO_22
        clear HO_79
        clear HO_94
        clear HO273
        clear HO278
        clear HO281
        clear HO285
        clear HO290
        clear HO293
        clear HO298
        clear HO300
        clear HO304
        clear HO306
        clear BK244
        clear HI250
        clear BK270
        clear BK282
        clear BK294
        clear HB
        have HO_1 := n0_
        have HO_18 := n1_
        have HO_22 := n2_
        have HO_79 := n3_
        have HO_94 := n4_
        have HO273 := n5_
        have HO278 := n6_
        have HO281 := n7_
        have HO285 := n8_
        have HO290 := n9_
        have HO293 := n10_
        have HO298 := n11_
        have HO300 := n12_
        have HO304 := n13_
        have HO306 := n14_
        have BK244 := n15_
        have HI250 := n16_
        have BK270 := n17_
        have BK282 := n18_
        have BK294 := n19_
        have HB := n20_
        clear n0_ n1_ n2_ n3_ n4_ n5_ n6_ n7_ n8_ n9_ n10_ n11_ n12_ n13_ n14_ n15_ n16_ n17_ n18_ n19_ n20_
        (try clear hb)
        (try clear hb2)
        (try clear hk)
        (try clear hi)
        (try clear hgw)
        refine hK.out _ _ ⟨(blk_cell BK282.out 0).trans rfl, (blk_cell BK282.out 1).trans rfl, (blk_cell BK282.out 2).trans rfl, (blk_cell BK282.out 3).trans rfl, (blk_cell BK294.out 0).trans rfl, (blk_cell BK294.out 1).trans rfl, (blk_cell BK294.out 2).trans rfl, (blk_cell BK294.out 3).trans rfl, (blk_cell BK270.out 0).trans rfl, (blk_cell BK270.out 1).trans rfl⟩ (fun hHeld => ?_)
        clear hK K
        refine norm_ (a' := ?_) ?_ ?_
        rotate_left
        ·show Act.put _ (some 168) _ = _
         simp only [Act.put, List.setIfInBounds_toArray, List.set_cons_zero, List.set_cons_succ, i64_w, i32_w]
         rfl
        refine one_ (i := 34) (N := some 174) #[true, true, true, true, true, true, true, true, true, true, true, true, true, true, true, true, true, true, true, true, true, true, true, true, true, true, true, true, true, true, true, true, true, true, true, false, false] rfl rfl (one_of HT_.out (by kernel_rfl)) (by decide) (fun K hK => ?_)
        refine goes_ Try.func30 (by kernel_rfl) rfl #[.slice ba2 (rd_L3 y259 x81_2).length c264_0, .int .i64 ((rd_T49 y266 x96_3).f0), .int .i64 ((rd_T49 y266 x96_3).f1)] (by rfl) rfl rfl (by (try simp only [List.map_toArray, List.map_cons, List.map_nil]); first | done | rfl | (simp only [List.length_drop, List.length_take]; rfl)) ?_
        with_reducible refine (storagebarterref26_Room.calls k3 _ _ (rd_L3 y259 x81_2) ((rd_T49 y266 x96_3).f0) ((rd_T49 y266 x96_3).f1) t313 t314 _ ?side1 ?side2 A90.out).mono ?_
        (case side1 => first | exact (Kd.V_reads' HO_22.out).2.2 | exact cU7 (Kd.V_reads' HO_22.out).2.2)
        (case side2 => exact (Kd.V_reads' HO_22.out).2.1)
        rintro e w100 ⟨rfl, hb⟩
        refine ⟨_, rfl, ?_⟩
        have n0_ := Aside0.mk (Kd.V_below (vU7 HO_1.out) hb)
        have n1_ := Aside0.mk (Kd.V_below (vU7 HO_18.out) hb)
        have n2_ := Aside0.mk (Kd.V_below (vU7 HO_22.out) hb)
        have n3_ := Aside0.mk (Kd.N_below (nU7 HO_79.out) hb)
        have n4_ := Aside0.mk (Kd.R_below (rU7 HO_94.out) hb)
        have n5_ := Aside0.mk (Kd.V_below (vU7 HO273.out) hb)
        have n6_ := Aside0.mk (Kd.V_below (vU7 HO278.out) hb)
        have n7_ := Aside0.mk (Kd.V_below (vU7 HO281.out) hb)
        have n8_ := Aside0.mk (Kd.V_below (vU7 HO285.out) hb)
        have n9_ := Aside0.mk (Kd.V_below (vU7 HO290.out) hb)
        have n10_ := Aside0.mk (Kd.V_below (vU7 HO293.out) hb)
        have n11_ := Aside0.mk (Kd.V_below (vU7 HO298.out) hb)
        have n12_ := Aside0.mk (Kd.V_below (vU7 HO300.out) hb)
        have n13_ := Aside0.mk (Kd.V_below (vU7 HO304.out) hb)
        have n14_ := Aside0.mk (Kd.V_below (vU7 HO306.out) hb)
        have n15_ := Aside0.mk (blk_below (g := gb244) (bU7 BK244.out) hb)
        have n16_ := Aside0.mk (IsS84.below (by repeat (first | (with_reducible first | exact HI250.out | apply IsS84.alloc | apply IsS84.drewN | apply IsS84.drew | apply IsS84.set_1 | refine IsS84.far ?_ NB250_244.out _ | refine IsS84.far ?_ NB250_270.out _ | refine IsS84.far ?_ NB250_282.out _ | refine IsS84.far ?_ NB250_294.out _) | exact HI250.out)) hb)
        have n17_ := Aside0.mk (blk_below (g := gb270) (bU7 BK270.out) hb)
        have n18_ := Aside0.mk (blk_below (g := gb282) (bU7 BK282.out) hb)
        have n19_ := Aside0.mk (blk_below (g := gb294) (bU7 BK294.out) hb)
        have n20_ := Aside0.mk (below_step (by repeat (first | (with_reducible first | exact HB.out | apply below_alloc | apply pw_below_drewN | apply below_drew1 | refine below_set ?_ (IsS84.ge HI250.out) | refine below_set ?_ (Aside0.out (by assumption))) | exact HB.out)) hb)
        clear HO_1
        clear HO_18
        clear HO_22
        clear HO_79
        clear HO_94
        clear HO273
        clear HO278
        clear HO281
        clear HO285
        clear HO290
        clear HO293
        clear HO298
        clear HO300
        clear HO304
        clear HO306
        clear BK244
        clear HI250
        clear BK270
        clear BK282
        clear BK294
        clear HB
        have HO_1 := n0_
        have HO_18 := n1_
        have HO_22 := n2_
        have HO_79 := n3_
        have HO_94 := n4_
        have HO273 := n5_
        have HO278 := n6_
        have HO281 := n7_
        have HO285 := n8_
        have HO290 := n9_
        have HO293 := n10_
        have HO298 := n11_
        have HO300 := n12_
        have HO304 := n13_
        have HO306 := n14_
        have BK244 := n15_
        have HI250 := n16_
        have BK270 := n17_
        have BK282 := n18_
        have BK294 := n19_
        have HB := n20_
        clear n0_ n1_ n2_ n3_ n4_ n5_ n6_ n7_ n8_ n9_ n10_ n11_ n12_ n13_ n14_ n15_ n16_ n17_ n18_ n19_ n20_
        (try clear hb)
        (try clear hb2)
        (try clear hk)
        (try clear hi)
        (try clear hgw)
        refine hK.out _ _ ⟨(blk_cell BK282.out 0).trans rfl, (blk_cell BK282.out 1).trans rfl, (blk_cell BK282.out 2).trans rfl, (blk_cell BK282.out 3).trans rfl, (blk_cell BK294.out 0).trans rfl, (blk_cell BK294.out 1).trans rfl, (blk_cell BK294.out 2).trans rfl, (blk_cell BK294.out 3).trans rfl, (blk_cell BK270.out 0).trans rfl, (blk_cell BK270.out 1).trans rfl⟩ (fun hHeld => ?_)
        clear hK K
        refine norm_ (a' := ?_) ?_ ?_
        rotate_left
        ·show Act.put _ (some 174) _ = _
         simp only [Act.put, List.setIfInBounds_toArray, List.set_cons_zero, List.set_cons_succ, i64_w, i32_w]
         rfl
        refine pure_ (i := 35) (N := some 175) (v := ?_) (a' := ?_) #[true, true, true, true, true, true, true, true, true, true, true, true, true, true, true, true, true, true, true, true, true, true, true, true, true, true, true, true, true, true, true, true, true, true, true, true, false] rfl rfl (any_of HT_.out (by kernel_rfl)) (fun _ _ _ h => h) (Or.inl ⟨by rfl, ?_⟩) ?_ ?_
        rotate_left
        ·intro w'
         go_simp
         with_reducible rfl
        rotate_left
        ·simp only [Act.put, List.setIfInBounds_toArray, List.set_cons_zero, List.set_cons_succ, i64_w, i32_w]
         rfl
        refine pure_ (i := 36) (N := some 176) (v := ?_) (a' := ?_) #[true, true, true, true, true, true, true, true, true, true, true, true, true, true, true, true, true, true, true, true, true, true, true, true, true, true, true, true, true, true, true, true, true, true, true, true, true] rfl rfl (any_of HT_.out (by kernel_rfl)) (fun _ _ _ h => h) (Or.inl ⟨by rfl, ?_⟩) ?_ ?_
        rotate_left
        ·intro w'
         go_simp
         with_reducible rfl
        rotate_left
        ·simp only [Act.put, List.setIfInBounds_toArray, List.set_cons_zero, List.set_cons_succ, i64_w, i32_w]
         rfl
        refine done_ (done_of HT_.out (by kernel_rfl)) ?_
        try go_wp2
        go_meet
        case rel => exact ⟨_, ((!(t311 == t313) || (!(t312 == t314)))), (by first | rfl | (simp; done) | (simp [*]; done)), H', ⟨by have := HK1.out; have := HK2.out; have := HK3.out; first | omega | exact Nat.le_refl _⟩, ⟨by (with_reducible repeat (first | apply Kd.V_alloc | apply Kd.V_drewN | apply Kd.V_drew)); exact Kd.V_mono HO_1.out (fun _ hk => ⟨hk.1.1.1.1, ⟨hk.1.1.1.2.1, ⟨hk.1.1.1.2.2.1, ⟨hk.1.1.1.2.2.2.1, ⟨hk.1.1.2, ⟨hk.1.2, ⟨hk.2, hk.1.1.1.2.2.2.2⟩⟩⟩⟩⟩⟩⟩)⟩, ⟨by (with_reducible repeat (first | apply Kd.V_alloc | apply Kd.V_drewN | apply Kd.V_drew)); exact Kd.V_mono HO_18.out (fun _ hk => ⟨hk.1.1.1.1, ⟨hk.1.1.1.2.1, ⟨hk.1.1.1.2.2.1, ⟨hk.1.1.1.2.2.2.1, ⟨hk.1.1.2, ⟨hk.1.2, ⟨hk.2, hk.1.1.1.2.2.2.2⟩⟩⟩⟩⟩⟩⟩)⟩, ⟨by (with_reducible repeat (first | apply Kd.V_alloc | apply Kd.V_drewN | apply Kd.V_drew)); exact Kd.V_mono HO_22.out (fun _ hk => ⟨hk.1.1.1.1, ⟨hk.1.1.1.2.1, ⟨hk.1.1.1.2.2.1, ⟨hk.1.1.1.2.2.2.1, ⟨hk.1.1.2, ⟨hk.1.2, ⟨hk.2, hk.1.1.1.2.2.2.2⟩⟩⟩⟩⟩⟩⟩)⟩, ⟨by (with_reducible repeat (first | apply Kd.N_alloc | apply Kd.N_drewN | apply Kd.N_drew)); exact Kd.N_mono HO_79.out (fun _ hk => ⟨hk.1.1.1.1, ⟨hk.1.1.1.2.1, ⟨hk.1.1.1.2.2.1, ⟨hk.1.1.2, ⟨hk.1.2, ⟨hk.2, hk.1.1.1.2.2.2⟩⟩⟩⟩⟩⟩)⟩, ⟨by (with_reducible repeat (first | apply Kd.R_alloc | apply Kd.R_drewN | apply Kd.R_drew)); exact HO_94.out⟩, ⟨by (with_reducible repeat (first | apply Kd.V_alloc | apply Kd.V_drewN | apply Kd.V_drew)); exact Kd.V_mono HO278.out (fun _ hk => ⟨hk.1.1.1, ⟨hk.1.1.2.1, ⟨hk.1.1.2.2.1, ⟨hk.1.1.2.2.2.1, ⟨hk.1.1.2.2.2.2.1, ⟨hk.1.2, ⟨hk.2, hk.1.1.2.2.2.2.2⟩⟩⟩⟩⟩⟩⟩)⟩, ⟨by (with_reducible repeat (first | apply Kd.V_alloc | apply Kd.V_drewN | apply Kd.V_drew)); exact Kd.V_mono HO281.out (fun _ hk => ⟨hk.1.1.1, ⟨hk.1.1.2.1, ⟨hk.1.1.2.2.1, ⟨hk.1.1.2.2.2.1, ⟨hk.1.1.2.2.2.2.1, ⟨hk.1.2, ⟨hk.2, hk.1.1.2.2.2.2.2⟩⟩⟩⟩⟩⟩⟩)⟩, ⟨by (with_reducible repeat (first | apply Kd.V_alloc | apply Kd.V_drewN | apply Kd.V_drew)); exact Kd.V_mono HO290.out (fun _ hk => ⟨hk.1.1, ⟨hk.1.2.1, ⟨hk.1.2.2.1, ⟨hk.1.2.2.2.1, ⟨hk.1.2.2.2.2.1, ⟨hk.1.2.2.2.2.2.1, ⟨hk.2, hk.1.2.2.2.2.2.2⟩⟩⟩⟩⟩⟩⟩)⟩, ⟨by (with_reducible repeat (first | apply Kd.V_alloc | apply Kd.V_drewN | apply Kd.V_drew)); exact Kd.V_mono HO293.out (fun _ hk => ⟨hk.1.1, ⟨hk.1.2.1, ⟨hk.1.2.2.1, ⟨hk.1.2.2.2.1, ⟨hk.1.2.2.2.2.1, ⟨hk.1.2.2.2.2.2.1, ⟨hk.2, hk.1.2.2.2.2.2.2⟩⟩⟩⟩⟩⟩⟩)⟩, ⟨by exact bU7 BK244.out⟩, ⟨by exact bU7 BK270.out⟩, ⟨by exact bU7 BK282.out⟩, ⟨by exact bU7 BK294.out⟩, ⟨by repeat (first | (with_reducible first | exact HI250.out | apply IsS84.alloc | apply IsS84.drewN | apply IsS84.drew | apply IsS84.set_1 | refine IsS84.far ?_ NB250_244.out _ | refine IsS84.far ?_ NB250_270.out _ | refine IsS84.far ?_ NB250_282.out _ | refine IsS84.far ?_ NB250_294.out _) | exact HI250.out)⟩, ⟨by repeat (first | (with_reducible first | exact HB.out | apply below_alloc | apply pw_below_drewN | apply below_drew1 | refine below_set ?_ (IsS84.ge HI250.out) | refine below_set ?_ (Aside0.out (by assumption))) | exact HB.out)⟩⟩
       case rest =>
        clear HC54
        try clear c2
        try clear p2
        try clear p6
        try clear c8
        try clear c22
        try clear c29
        try clear p64
        try clear c82
        obtain ⟨kq, x176_53, rfl, HA, HJ53, HO_1, HO_18, HO_22, HO_79, HO_94, HO_283002, HO_283003, HO_295002, HO_295003, BK244, BK270, BK282, BK294, HI250, HB⟩ := hcut
        rename_i iQp_0_ iBK244_3_ iHB_3_ iK_10_ iwr_1_ iu14_1_ iJ_2_ iK_9_ ia_12_ ia_11_ iK_8_ ia_10_ iK_7_ ia_9_ iBK244_2_ iHI250_2_ iHB_2_ iwr_0_ iu14_0_ iu24_0_ iu25_0_ iu26_0_ iu27_0_ iu28_0_ iu29_0_ iu30_0_ iu31_0_ iu32_0_ iu34_0_ iu35_0_ iu36_0_ iu37_0_ iu38_0_ iu40_0_ iu97_1_ iu98_1_ iu99_1_ iu100_1_ iu101_1_ iu102_1_ iu103_1_ iu104_1_ iu105_1_ iu106_1_ iu107_1_ iu108_1_ iu109_1_ iu110_1_ iu111_1_ iu112_1_ iu113_1_ iu114_1_ iu115_1_ iu116_1_ iu117_1_ iu118_1_ iu119_1_ iu120_1_ iu121_1_ iu122_1_ iu123_1_ iu124_1_ iu125_1_ iu126_1_ iu127_1_ iu128_1_ iu129_1_ iu130_1_ iu131_1_ iu132_1_ iu133_1_ iu134_1_ iu135_1_ iu136_1_ iu137_1_ iu138_1_ iu139_1_ iu140_1_ iu141_1_ iu142_1_ iu143_1_ iu144_1_ iu145_1_ iu146_1_ iu147_1_ iu148_1_ iu149_1_ iu150_1_ iu151_1_ iu152_1_ iu153_1_ iu154_1_ iu155_1_ iu156_1_ iu157_1_ iu158_1_ iu159_1_ iu160_1_ iu161_1_ iu162_1_ iu163_1_ iu164_1_ iu165_1_ iu166_1_ iu167_1_ iu168_1_ iu169_1_ iu170_1_ iu171_1_ iu172_1_ iu173_1_ iu174_1_ iu175_1_ iu176_0_ iu177_1_ iu178_1_ iu179_1_ iu180_0_ iu181_0_ iu182_0_ iu183_1_ iu184_1_ iu185_1_ iu186_1_ iu187_1_ iu188_1_ iu189_1_ iu190_1_ iu191_1_ iu192_1_ iu193_1_ iu194_1_ iu195_1_ iu196_1_ iu197_1_ iu198_1_ iu199_1_ iu200_1_ iu201_1_ iu202_1_ iu203_1_ iu204_1_ iu205_1_ iu206_1_ iu207_1_ iu208_1_ iu209_1_ iu210_1_ iu211_1_ iu212_1_ iu213_1_ iu214_1_ iu215_1_ iu216_1_ iu217_1_ iu218_1_ iu219_1_ iu220_1_ iu221_0_ iu222_0_ iu223_0_ iu224_1_ iu225_1_ iu226_1_ iu227_1_ iu228_1_ iu229_1_ iu230_1_ iu231_1_ iu232_1_ iu233_1_ iu234_1_ iu235_1_ iu236_1_ iJ_1_ iK_6_ ia_8_ iHO_1_2_ ia_7_ iK_5_ ia_6_ iK_4_ ia_5_ iBK244_1_ iHI250_1_ iHB_1_ iu97_0_ iu98_0_ iu99_0_ iu100_0_ iu101_0_ iu102_0_ iu103_0_ iu104_0_ iu105_0_ iu106_0_ iu107_0_ iu108_0_ iu109_0_ iu110_0_ iu111_0_ iu112_0_ iu113_0_ iu114_0_ iu115_0_ iu116_0_ iu117_0_ iu118_0_ iu119_0_ iu120_0_ iu121_0_ iu122_0_ iu123_0_ iu124_0_ iu125_0_ iu126_0_ iu127_0_ iu128_0_ iu129_0_ iu130_0_ iu131_0_ iu132_0_ iu133_0_ iu134_0_ iu135_0_ iu136_0_ iu137_0_ iu138_0_ iu139_0_ iu140_0_ iu141_0_ iu142_0_ iu143_0_ iu144_0_ iu145_0_ iu146_0_ iu147_0_ iu148_0_ iu149_0_ iu150_0_ iu151_0_ iu152_0_ iu153_0_ iu154_0_ iu155_0_ iu156_0_ iu157_0_ iu158_0_ iu159_0_ iu160_0_ iu161_0_ iu162_0_ iu163_0_ iu164_0_ iu165_0_ iu166_0_ iu167_0_ iu168_0_ iu169_0_ iu170_0_ iu171_0_ iu172_0_ iu173_0_ iu174_0_ iu175_0_ iu177_0_ iu178_0_ iu179_0_ iu183_0_ iu184_0_ iu185_0_ iu186_0_ iu187_0_ iu188_0_ iu189_0_ iu190_0_ iu191_0_ iu192_0_ iu193_0_ iu194_0_ iu195_0_ iu196_0_ iu197_0_ iu198_0_ iu199_0_ iu200_0_ iu201_0_ iu202_0_ iu203_0_ iu204_0_ iu205_0_ iu206_0_ iu207_0_ iu208_0_ iu209_0_ iu210_0_ iu211_0_ iu212_0_ iu213_0_ iu214_0_ iu215_0_ iu216_0_ iu217_0_ iu218_0_ iu219_0_ iu220_0_ iu224_0_ iu225_0_ iu226_0_ iu227_0_ iu228_0_ iu229_0_ iu230_0_ iu231_0_ iu232_0_ iu233_0_ iu234_0_ iu235_0_ iu236_0_ iJ_0_ iK_3_ ia_4_ iHO_1_1_ iHO_18_1_ iHO_79_1_ ia_3_ iK_2_ ia_2_ iHO_1_0_ iHO_18_0_ iHO_22_0_ iHO_79_0_ iHO_94_0_ iBK244_0_ iHI250_0_ iBK270_0_ iBK282_0_ iBK294_0_ iHB_0_ iK_1_ ia_1_ iK_0_ ia_0_
        exact storagebarterlaw26_EndingSteps.seg1 k A0 c0 l0 P1_ A1 c1 l1 a2 a3 a4 a5 a6_0 a6_1 a6_2 a6_3 a6_4 a6_5 a6_6 a6_7 r w HRT_ hu44 hu49 hu32 HR0 HC0 iQp_0_ ⟨rfl⟩ gb244 GW244 GE244 iK_10_ u16 u55 u56 u57 u58 u59 u60 u61 u62 u63 u64 u65 u66 iJ_2_ iK_9_ ia_12_ x54_1 k1 ia_11_ HK1 t248 t251 t255 t257 y259 iK_8_ ia_10_ g250 NB250_244 NB244_250 Ao37 co37 iK_7_ ia_9_ co40 u22 u42 u43 u44 u45 u46 u82 u83 u84 u85 u86 u87 u88 u89 u90 u91 u92 u93 u94 u95 u96 u237 u238 u239 u240 u241 u242 u243 u244 u245 u246 u247 u248 u249 u250 u251 u252 u253 u254 u255 u256 u257 u258 u259 u260 u261 u262 u263 u264 u265 u266 u267 u268 u269 u270 iJ_1_ iK_6_ x81_2 ba0 k2 ia_8_ HK2 y266 ad264 ba2 c264_0 ia_7_ HC264_0 iK_5_ ia_6_ iK_4_ ia_5_ w44 HR264_0 co46 wr u14 u24 u25 u26 u27 u28 u29 u30 u31 u32 u34 u35 u36 u37 u38 u40 u176 u180 u181 u182 u221 u222 u223 iJ_0_ iK_3_ x96_3 k3 ia_4_ HK3 t274 t275 t276 t279 t286 t287 t288 t291 ad269 HL264_0 ia_3_ iK_2_ ia_2_ gb270 GW270 GE270 NB244_270 NB270_244 NB250_270 NB270_250 v272 gb282 GW282 GE282 NB244_282 NB282_244 NB270_282 NB282_270 NB250_282 NB282_250 Ao65 co65 Ao66 co66 v284 gb294 GW294 GE294 NB244_294 NB294_244 NB270_294 NB294_270 NB282_294 NB294_282 NB250_294 NB294_250 Ao75 co75 Ao76 co76 v297 v299 v303 v305 iK_1_ ia_1_ iK_0_ ia_0_ wc u97 u98 u99 u100 u101 u102 u103 u104 u105 u106 u107 u108 u109 u110 u111 u112 u113 u114 u115 u116 u117 u118 u119 u120 u121 u122 u123 u124 u125 u126 u127 u128 u129 u130 u131 u132 u133 u134 u135 u136 u137 u138 u139 u140 u141 u142 u143 u144 u145 u146 u147 u148 u149 u150 u151 u152 u153 u154 u155 u156 u157 u158 u159 u160 u161 u162 u163 u164 u165 u166 u167 u168 u169 u170 u171 u172 u173 u174 u175 u177 u178 u179 u183 u184 u185 u186 u187 u188 u189 u190 u191 u192 u193 u194 u195 u196 u197 u198 u199 u200 u201 u202 u203 u204 u205 u206 u207 u208 u209 u210 u211 u212 u213 u214 u215 u216 u217 u218 u219 u220 u224 u225 u226 u227 u228 u229 u230 u231 u232 u233 u234 u235 u236 kq x176_53 HA HJ53 HO_1 HO_18 HO_22 HO_79 HO_94 HO_283002 HO_283003 HO_295002 HO_295003 BK244 BK270 BK282 BK294 HI250 HB
/-- THE ONE PURE STATEMENT of storagebarterlaw26_EndingSteps: yours. -/
def storagebarterlaw26_EndingSteps.Pure : Prop := ∀ (l0 : List Int) (l1 : List (S44)) (a2 : Int) (a3 : Int) (a4 : Int) (a5 : Int) (a6_0 : Int) (a6_1 : Int) (a6_2 : Int) (a6_3 : Int) (a6_4 : Int) (a6_5 : Int) (a6_6 : Int) (a6_7 : Bool), l0.length ≤ maxLen → l0.length * 1 ≤ 140737488351232 → (∀ x ∈ l0, (Lit.int .u8 x).wf = true) → (l1.length ≤ maxLen ∧ ∀ x0_ ∈ l1, (((Lit.int .i64 x0_.f0).wf = true) ∧ (((Lit.int .i64 x0_.f1).wf = true) ∧ (((Lit.int .i64 x0_.f2).wf = true) ∧ (((Lit.int .i64 x0_.f3).wf = true) ∧ (((Lit.int .i64 x0_.f4).wf = true) ∧ (((Lit.int .i64 x0_.f5).wf = true) ∧ (((Lit.int .i64 x0_.f6).wf = true) ∧ (True))))))))) → (Lit.int .i64 a2).wf = true → (Lit.int .i64 a3).wf = true → (Lit.int .i32 a4).wf = true → (Lit.int .i32 a5).wf = true → (((Lit.int .i64 a6_0).wf = true) ∧ (((Lit.int .i64 a6_1).wf = true) ∧ (((Lit.int .i64 a6_2).wf = true) ∧ (((Lit.int .i64 a6_3).wf = true) ∧ (((Lit.int .i64 a6_4).wf = true) ∧ (((Lit.int .i64 a6_5).wf = true) ∧ (((Lit.int .i64 a6_6).wf = true) ∧ (True)))))))) → ∃ k, storagebarterlaw26_EndingSteps.f k l0 l1 a2 a3 a4 a5 a6_0 a6_1 a6_2 a6_3 a6_4 a6_5 a6_6 a6_7 = some true
theorem storagebarterlaw26_EndingSteps.walk (P : storagebarterlaw26_EndingSteps.Pure) (a0 : Option Addr) (len0 cap0 : Nat) (z0 : List Int) (A1 : Option Addr) (c1 : Nat) (l1 : List (S44)) (a2 : Int) (a3 : Int) (a4 : Int) (a5 : Int) (a6_0 : Int) (a6_1 : Int) (a6_2 : Int) (a6_3 : Int) (a6_4 : Int) (a6_5 : Int) (a6_6 : Int) (a6_7 : Bool) (w : World) (w0 : (a0 = none ∧ len0 = 0 ∧ cap0 = 0 ∧ z0 = []) ∨ ∃ x, a0 = some x ∧ len0 ≤ cap0 ∧ cap0 ≤ maxLen ∧ z0.length = cap0 ∧ (∀ i, i < z0.length → w.cell? (x.add i) = some (.int .u8 (z0.getD i 0))) ∧ ∀ n ∈ z0, (Lit.int .u8 n).wf = true) (y0 : len0 * 1 ≤ 140737488351232) (w1 : (l1.length ≤ maxLen ∧ ∀ x0_ ∈ l1, (((Lit.int .i64 x0_.f0).wf = true) ∧ (((Lit.int .i64 x0_.f1).wf = true) ∧ (((Lit.int .i64 x0_.f2).wf = true) ∧ (((Lit.int .i64 x0_.f3).wf = true) ∧ (((Lit.int .i64 x0_.f4).wf = true) ∧ (((Lit.int .i64 x0_.f5).wf = true) ∧ (((Lit.int .i64 x0_.f6).wf = true) ∧ (True)))))))))) (hr1 : Kd.C k44 w A1 l1.length l1) (hc1 : l1.length ≤ c1) (w2 : (Lit.int .i64 a2).wf = true) (w3 : (Lit.int .i64 a3).wf = true) (w4 : (Lit.int .i32 a4).wf = true) (w5 : (Lit.int .i32 a5).wf = true) (w6 : (((Lit.int .i64 a6_0).wf = true) ∧ (((Lit.int .i64 a6_1).wf = true) ∧ (((Lit.int .i64 a6_2).wf = true) ∧ (((Lit.int .i64 a6_3).wf = true) ∧ (((Lit.int .i64 a6_4).wf = true) ∧ (((Lit.int .i64 a6_5).wf = true) ∧ (((Lit.int .i64 a6_6).wf = true) ∧ (True))))))))) :
    Calls Try.prog 7 #[.slice a0 len0 cap0, .slice A1 l1.length c1, .int .i64 a2, .int .i64 a3, .int .i32 a4, .int .i32 a5, .agg #[.int .i64 a6_0, .int .i64 a6_1, .int .i64 a6_2, .int .i64 a6_3, .int .i64 a6_4, .int .i64 a6_5, .int .i64 a6_6, .bool a6_7]] w fun e w' => e = .returned (.bool true) ∧ Below w.heap.size w w' := by
  obtain ⟨l0, rfl, hr0, hm0, hw0, hc0⟩ := ReadsInt.ofRowC w0
  obtain ⟨k, h⟩ := P l0 l1 a2 a3 a4 a5 a6_0 a6_1 a6_2 a6_3 a6_4 a6_5 a6_6 a6_7 hm0 y0 hw0 w1 w2 w3 w4 w5 w6
  refine (storagebarterlaw26_EndingSteps.calls k _ _ l0 (fun _ => True) A1 c1 l1 a2 a3 a4 a5 a6_0 a6_1 a6_2 a6_3 a6_4 a6_5 a6_6 a6_7 true w (Kd.C_of_reads (d := (0 : Int)) (h1 := fun _ => rfl) hr0) hc0 (Kd.V_mk hc1 (fun W_ hW_ => Kd.Heap.C k44_heap (fun k_ hlt_ => hW_ k_ trivial hlt_) hr1)) h rfl).mono ?_
  rintro e w' ⟨rfl, hd⟩
  exact ⟨rfl, hd⟩


end Go.Proofs.Ytepffabkcbfejaa.PEndingSteps
