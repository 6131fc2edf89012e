-- Written by a program of this repository (wip/tools/myprint.py over the print of the kit): contracts and rows.
import Derived.Test.YtepffabkcbfejaaPChunkJoinsx0
namespace Go.Proofs.Ytepffabkcbfejaa.PChunkJoins
open Go.RowKit Go.Proofs.YtepffabkcbfejaaW.PrintWords Go.Proofs.YtepffabkcbfejaaW.PrintLast Go.Proofs.YtepffabkcbfejaaW.PrintMore
attribute [local go_sem] max2_int min2_int max_two min_two max_three min_three max_four min_four   -- for this text's walks alone
set_option linter.unusedVariables false
set_option linter.unusedSimpArgs false

/-! ### chunk_Check: function 46 -/
def chunk_Check.f (a0_0 : Int) (a0_1 : Int) (a0_2 : Int) (a0_3 : Int) : Option (Int) := if a0_0 < 4 then (some 1) else (if a0_0 > a0_1 then (some 1) else (if a0_1 > 256 then (some 1) else (if a0_2 < 1 then (some 1) else (if a0_2 > a0_0 then (some 1) else (if a0_3 < 1 then (some 1) else (if a0_3 > 1024 then (some 1) else (some 0)))))))
set_option maxHeartbeats 8000000 in
set_option maxRecDepth 100000 in
theorem chunk_Check.calls (a0_0 : Int) (a0_1 : Int) (a0_2 : Int) (a0_3 : Int) (r : Int) (w : World) (h : chunk_Check.f a0_0 a0_1 a0_2 a0_3 = some r) :
    Calls Try.prog 46 #[.agg #[.int .i64 a0_0, .int .i64 a0_1, .int .i64 a0_2, .int .i64 a0_3]] w fun e w' => e = .returned (.int .i64 r) ∧ Below w.heap.size w w' := by
  have hu58 := Try.underlying58
  have HB := Aside0.mk (Below.refl w.heap.size w)
  have H : (if a0_0 < 4 then (some 1) else (if a0_0 > a0_1 then (some 1) else (if a0_1 > 256 then (some 1) else (if a0_2 < 1 then (some 1) else (if a0_2 > a0_0 then (some 1) else (if a0_3 < 1 then (some 1) else (if a0_3 > 1024 then (some 1) else (some 0)))))))) = some r := h
  clear h
  by_cases c2 : a0_0 < 4
  · rw [if_pos c2] at H
    have c2b0 : decide (a0_0 < 4) = true := decide_eq_true c2
    clear c2
    obtain rfl := Option.some.inj H
    go_enter Try.func46, Try.ntmps46
    go_wp2_with (first | ((with_reducible refine gate_dst (N := 1) rfl ?_); refine box_event ?hg (N := 1) ?hd (cs := #[.int .i64 a0_0, .int .i64 a0_1, .int .i64 a0_2, .int .i64 a0_3]) (t := 58) ?hr ?_; (case hd => rfl); (case hg => rfl); (case hr => first | (go_simp; done) | (go_simp; rfl)); intro gb101 hg w3 hbox hb; have n0_ := Aside0.mk (below_step (by repeat (first | (with_reducible first | exact HB.out | apply below_alloc | apply pw_below_drewN | apply below_drew1) | exact HB.out)) hb); have n1_ := Aside0.mk (hbox); have n2_ := Aside0.mk ((by rw [hg]; exact (below_size (by repeat (first | (with_reducible first | exact HB.out | apply below_alloc | apply pw_below_drewN | apply below_drew1) | exact HB.out))) : w.heap.size ≤ gb101)); have n3_ := Aside0.mk ((by rw [hg]; exact (below_size (by repeat (first | (with_reducible first | exact HB.out | apply below_alloc | apply pw_below_drewN | apply below_drew1) | exact HB.out))) : w.heap.size ≤ gb101)); clear HB; have HB := n0_; have BK101 := n1_; have GW101 := n2_; have GE101 := n3_; clear n0_ n1_ n2_ n3_; clear hb hbox hg; have hcz4_0 : w3.cell? ⟨gb101, 0, none⟩ = some (.int .i64 a0_0) := (blk_cell BK101.out 0).trans rfl; have hcz4_1 : w3.cell? ⟨gb101, 1, none⟩ = some (.int .i64 a0_1) := (blk_cell BK101.out 1).trans rfl; have hcz4_2 : w3.cell? ⟨gb101, 2, none⟩ = some (.int .i64 a0_2) := (blk_cell BK101.out 2).trans rfl; have hcz4_3 : w3.cell? ⟨gb101, 3, none⟩ = some (.int .i64 a0_3) := (blk_cell BK101.out 3).trans rfl; have hfz4_0 := blk_frozen BK101.out 0; have hfz4_1 := blk_frozen BK101.out 1; have hfz4_2 := blk_frozen BK101.out 2; have hfz4_3 := blk_frozen BK101.out 3))
    go_ret
    exact ⟨by first | rfl | (simp [errW_none, errW_some] <;> rfl) | (simp [*, errW_none, errW_some] <;> rfl), by repeat (first | (with_reducible first | exact HB.out | apply below_alloc | apply pw_below_drewN | apply below_drew1 | refine below_set ?_ GE101.out) | exact HB.out)⟩
  · rw [if_neg c2] at H
    have c2b0 : decide (a0_0 < 4) = false := decide_eq_false c2
    clear c2
    by_cases c5 : a0_0 > a0_1
    · rw [if_pos c5] at H
      have c5b0 : decide (a0_1 < a0_0) = true := decide_eq_true c5
      clear c5
      obtain rfl := Option.some.inj H
      go_enter Try.func46, Try.ntmps46
      go_wp2_with (first | ((with_reducible refine gate_dst (N := 1) rfl ?_); refine box_event ?hg (N := 1) ?hd (cs := #[.int .i64 a0_0, .int .i64 a0_1, .int .i64 a0_2, .int .i64 a0_3]) (t := 58) ?hr ?_; (case hd => rfl); (case hg => rfl); (case hr => first | (go_simp; done) | (go_simp; rfl)); intro gb101 hg w6 hbox hb; have n0_ := Aside0.mk (below_step (by repeat (first | (with_reducible first | exact HB.out | apply below_alloc | apply pw_below_drewN | apply below_drew1) | exact HB.out)) hb); have n1_ := Aside0.mk (hbox); have n2_ := Aside0.mk ((by rw [hg]; exact (below_size (by repeat (first | (with_reducible first | exact HB.out | apply below_alloc | apply pw_below_drewN | apply below_drew1) | exact HB.out))) : w.heap.size ≤ gb101)); have n3_ := Aside0.mk ((by rw [hg]; exact (below_size (by repeat (first | (with_reducible first | exact HB.out | apply below_alloc | apply pw_below_drewN | apply below_drew1) | exact HB.out))) : w.heap.size ≤ gb101)); clear HB; have HB := n0_; have BK101 := n1_; have GW101 := n2_; have GE101 := n3_; clear n0_ n1_ n2_ n3_; clear hb hbox hg; have hcz7_0 : w6.cell? ⟨gb101, 0, none⟩ = some (.int .i64 a0_0) := (blk_cell BK101.out 0).trans rfl; have hcz7_1 : w6.cell? ⟨gb101, 1, none⟩ = some (.int .i64 a0_1) := (blk_cell BK101.out 1).trans rfl; have hcz7_2 : w6.cell? ⟨gb101, 2, none⟩ = some (.int .i64 a0_2) := (blk_cell BK101.out 2).trans rfl; have hcz7_3 : w6.cell? ⟨gb101, 3, none⟩ = some (.int .i64 a0_3) := (blk_cell BK101.out 3).trans rfl; have hfz7_0 := blk_frozen BK101.out 0; have hfz7_1 := blk_frozen BK101.out 1; have hfz7_2 := blk_frozen BK101.out 2; have hfz7_3 := blk_frozen BK101.out 3))
      go_ret
      exact ⟨by first | rfl | (simp [errW_none, errW_some] <;> rfl) | (simp [*, errW_none, errW_some] <;> rfl), by repeat (first | (with_reducible first | exact HB.out | apply below_alloc | apply pw_below_drewN | apply below_drew1 | refine below_set ?_ GE101.out) | exact HB.out)⟩
    · rw [if_neg c5] at H
      have c5b0 : decide (a0_1 < a0_0) = false := decide_eq_false c5
      clear c5
      by_cases c8 : a0_1 > 256
      · rw [if_pos c8] at H
        have c8b0 : decide (256 < a0_1) = true := decide_eq_true c8
        clear c8
        obtain rfl := Option.some.inj H
        go_enter Try.func46, Try.ntmps46
        go_wp2_with (first | ((with_reducible refine gate_dst (N := 1) rfl ?_); refine box_event ?hg (N := 1) ?hd (cs := #[.int .i64 a0_0, .int .i64 a0_1, .int .i64 a0_2, .int .i64 a0_3]) (t := 58) ?hr ?_; (case hd => rfl); (case hg => rfl); (case hr => first | (go_simp; done) | (go_simp; rfl)); intro gb101 hg w9 hbox hb; have n0_ := Aside0.mk (below_step (by repeat (first | (with_reducible first | exact HB.out | apply below_alloc | apply pw_below_drewN | apply below_drew1) | exact HB.out)) hb); have n1_ := Aside0.mk (hbox); have n2_ := Aside0.mk ((by rw [hg]; exact (below_size (by repeat (first | (with_reducible first | exact HB.out | apply below_alloc | apply pw_below_drewN | apply below_drew1) | exact HB.out))) : w.heap.size ≤ gb101)); have n3_ := Aside0.mk ((by rw [hg]; exact (below_size (by repeat (first | (with_reducible first | exact HB.out | apply below_alloc | apply pw_below_drewN | apply below_drew1) | exact HB.out))) : w.heap.size ≤ gb101)); clear HB; have HB := n0_; have BK101 := n1_; have GW101 := n2_; have GE101 := n3_; clear n0_ n1_ n2_ n3_; clear hb hbox hg; have hcz10_0 : w9.cell? ⟨gb101, 0, none⟩ = some (.int .i64 a0_0) := (blk_cell BK101.out 0).trans rfl; have hcz10_1 : w9.cell? ⟨gb101, 1, none⟩ = some (.int .i64 a0_1) := (blk_cell BK101.out 1).trans rfl; have hcz10_2 : w9.cell? ⟨gb101, 2, none⟩ = some (.int .i64 a0_2) := (blk_cell BK101.out 2).trans rfl; have hcz10_3 : w9.cell? ⟨gb101, 3, none⟩ = some (.int .i64 a0_3) := (blk_cell BK101.out 3).trans rfl; have hfz10_0 := blk_frozen BK101.out 0; have hfz10_1 := blk_frozen BK101.out 1; have hfz10_2 := blk_frozen BK101.out 2; have hfz10_3 := blk_frozen BK101.out 3))
        go_ret
        exact ⟨by first | rfl | (simp [errW_none, errW_some] <;> rfl) | (simp [*, errW_none, errW_some] <;> rfl), by repeat (first | (with_reducible first | exact HB.out | apply below_alloc | apply pw_below_drewN | apply below_drew1 | refine below_set ?_ GE101.out) | exact HB.out)⟩
      · rw [if_neg c8] at H
        have c8b0 : decide (256 < a0_1) = false := decide_eq_false c8
        clear c8
        by_cases c11 : a0_2 < 1
        · rw [if_pos c11] at H
          have c11b0 : decide (a0_2 < 1) = true := decide_eq_true c11
          clear c11
          obtain rfl := Option.some.inj H
          go_enter Try.func46, Try.ntmps46
          go_wp2_with (first | ((with_reducible refine gate_dst (N := 1) rfl ?_); refine box_event ?hg (N := 1) ?hd (cs := #[.int .i64 a0_0, .int .i64 a0_1, .int .i64 a0_2, .int .i64 a0_3]) (t := 58) ?hr ?_; (case hd => rfl); (case hg => rfl); (case hr => first | (go_simp; done) | (go_simp; rfl)); intro gb101 hg w12 hbox hb; have n0_ := Aside0.mk (below_step (by repeat (first | (with_reducible first | exact HB.out | apply below_alloc | apply pw_below_drewN | apply below_drew1) | exact HB.out)) hb); have n1_ := Aside0.mk (hbox); have n2_ := Aside0.mk ((by rw [hg]; exact (below_size (by repeat (first | (with_reducible first | exact HB.out | apply below_alloc | apply pw_below_drewN | apply below_drew1) | exact HB.out))) : w.heap.size ≤ gb101)); have n3_ := Aside0.mk ((by rw [hg]; exact (below_size (by repeat (first | (with_reducible first | exact HB.out | apply below_alloc | apply pw_below_drewN | apply below_drew1) | exact HB.out))) : w.heap.size ≤ gb101)); clear HB; have HB := n0_; have BK101 := n1_; have GW101 := n2_; have GE101 := n3_; clear n0_ n1_ n2_ n3_; clear hb hbox hg; have hcz13_0 : w12.cell? ⟨gb101, 0, none⟩ = some (.int .i64 a0_0) := (blk_cell BK101.out 0).trans rfl; have hcz13_1 : w12.cell? ⟨gb101, 1, none⟩ = some (.int .i64 a0_1) := (blk_cell BK101.out 1).trans rfl; have hcz13_2 : w12.cell? ⟨gb101, 2, none⟩ = some (.int .i64 a0_2) := (blk_cell BK101.out 2).trans rfl; have hcz13_3 : w12.cell? ⟨gb101, 3, none⟩ = some (.int .i64 a0_3) := (blk_cell BK101.out 3).trans rfl; have hfz13_0 := blk_frozen BK101.out 0; have hfz13_1 := blk_frozen BK101.out 1; have hfz13_2 := blk_frozen BK101.out 2; have hfz13_3 := blk_frozen BK101.out 3))
          go_ret
          exact ⟨by first | rfl | (simp [errW_none, errW_some] <;> rfl) | (simp [*, errW_none, errW_some] <;> rfl), by repeat (first | (with_reducible first | exact HB.out | apply below_alloc | apply pw_below_drewN | apply below_drew1 | refine below_set ?_ GE101.out) | exact HB.out)⟩
        · rw [if_neg c11] at H
          have c11b0 : decide (a0_2 < 1) = false := decide_eq_false c11
          clear c11
          by_cases c14 : a0_2 > a0_0
          · rw [if_pos c14] at H
            have c14b0 : decide (a0_0 < a0_2) = true := decide_eq_true c14
            clear c14
            obtain rfl := Option.some.inj H
            go_enter Try.func46, Try.ntmps46
            go_wp2_with (first | ((with_reducible refine gate_dst (N := 1) rfl ?_); refine box_event ?hg (N := 1) ?hd (cs := #[.int .i64 a0_0, .int .i64 a0_1, .int .i64 a0_2, .int .i64 a0_3]) (t := 58) ?hr ?_; (case hd => rfl); (case hg => rfl); (case hr => first | (go_simp; done) | (go_simp; rfl)); intro gb101 hg w15 hbox hb; have n0_ := Aside0.mk (below_step (by repeat (first | (with_reducible first | exact HB.out | apply below_alloc | apply pw_below_drewN | apply below_drew1) | exact HB.out)) hb); have n1_ := Aside0.mk (hbox); have n2_ := Aside0.mk ((by rw [hg]; exact (below_size (by repeat (first | (with_reducible first | exact HB.out | apply below_alloc | apply pw_below_drewN | apply below_drew1) | exact HB.out))) : w.heap.size ≤ gb101)); have n3_ := Aside0.mk ((by rw [hg]; exact (below_size (by repeat (first | (with_reducible first | exact HB.out | apply below_alloc | apply pw_below_drewN | apply below_drew1) | exact HB.out))) : w.heap.size ≤ gb101)); clear HB; have HB := n0_; have BK101 := n1_; have GW101 := n2_; have GE101 := n3_; clear n0_ n1_ n2_ n3_; clear hb hbox hg; have hcz16_0 : w15.cell? ⟨gb101, 0, none⟩ = some (.int .i64 a0_0) := (blk_cell BK101.out 0).trans rfl; have hcz16_1 : w15.cell? ⟨gb101, 1, none⟩ = some (.int .i64 a0_1) := (blk_cell BK101.out 1).trans rfl; have hcz16_2 : w15.cell? ⟨gb101, 2, none⟩ = some (.int .i64 a0_2) := (blk_cell BK101.out 2).trans rfl; have hcz16_3 : w15.cell? ⟨gb101, 3, none⟩ = some (.int .i64 a0_3) := (blk_cell BK101.out 3).trans rfl; have hfz16_0 := blk_frozen BK101.out 0; have hfz16_1 := blk_frozen BK101.out 1; have hfz16_2 := blk_frozen BK101.out 2; have hfz16_3 := blk_frozen BK101.out 3))
            go_ret
            exact ⟨by first | rfl | (simp [errW_none, errW_some] <;> rfl) | (simp [*, errW_none, errW_some] <;> rfl), by repeat (first | (with_reducible first | exact HB.out | apply below_alloc | apply pw_below_drewN | apply below_drew1 | refine below_set ?_ GE101.out) | exact HB.out)⟩
          · rw [if_neg c14] at H
            have c14b0 : decide (a0_0 < a0_2) = false := decide_eq_false c14
            clear c14
            by_cases c17 : a0_3 < 1
            · rw [if_pos c17] at H
              have c17b0 : decide (a0_3 < 1) = true := decide_eq_true c17
              clear c17
              obtain rfl := Option.some.inj H
              go_enter Try.func46, Try.ntmps46
              go_wp2_with (first | ((with_reducible refine gate_dst (N := 1) rfl ?_); refine box_event ?hg (N := 1) ?hd (cs := #[.int .i64 a0_0, .int .i64 a0_1, .int .i64 a0_2, .int .i64 a0_3]) (t := 58) ?hr ?_; (case hd => rfl); (case hg => rfl); (case hr => first | (go_simp; done) | (go_simp; rfl)); intro gb101 hg w18 hbox hb; have n0_ := Aside0.mk (below_step (by repeat (first | (with_reducible first | exact HB.out | apply below_alloc | apply pw_below_drewN | apply below_drew1) | exact HB.out)) hb); have n1_ := Aside0.mk (hbox); have n2_ := Aside0.mk ((by rw [hg]; exact (below_size (by repeat (first | (with_reducible first | exact HB.out | apply below_alloc | apply pw_below_drewN | apply below_drew1) | exact HB.out))) : w.heap.size ≤ gb101)); have n3_ := Aside0.mk ((by rw [hg]; exact (below_size (by repeat (first | (with_reducible first | exact HB.out | apply below_alloc | apply pw_below_drewN | apply below_drew1) | exact HB.out))) : w.heap.size ≤ gb101)); clear HB; have HB := n0_; have BK101 := n1_; have GW101 := n2_; have GE101 := n3_; clear n0_ n1_ n2_ n3_; clear hb hbox hg; have hcz19_0 : w18.cell? ⟨gb101, 0, none⟩ = some (.int .i64 a0_0) := (blk_cell BK101.out 0).trans rfl; have hcz19_1 : w18.cell? ⟨gb101, 1, none⟩ = some (.int .i64 a0_1) := (blk_cell BK101.out 1).trans rfl; have hcz19_2 : w18.cell? ⟨gb101, 2, none⟩ = some (.int .i64 a0_2) := (blk_cell BK101.out 2).trans rfl; have hcz19_3 : w18.cell? ⟨gb101, 3, none⟩ = some (.int .i64 a0_3) := (blk_cell BK101.out 3).trans rfl; have hfz19_0 := blk_frozen BK101.out 0; have hfz19_1 := blk_frozen BK101.out 1; have hfz19_2 := blk_frozen BK101.out 2; have hfz19_3 := blk_frozen BK101.out 3))
              go_ret
              exact ⟨by first | rfl | (simp [errW_none, errW_some] <;> rfl) | (simp [*, errW_none, errW_some] <;> rfl), by repeat (first | (with_reducible first | exact HB.out | apply below_alloc | apply pw_below_drewN | apply below_drew1 | refine below_set ?_ GE101.out) | exact HB.out)⟩
            · rw [if_neg c17] at H
              have c17b0 : decide (a0_3 < 1) = false := decide_eq_false c17
              clear c17
              by_cases c20 : a0_3 > 1024
              · rw [if_pos c20] at H
                have c20b0 : decide (1024 < a0_3) = true := decide_eq_true c20
                clear c20
                obtain rfl := Option.some.inj H
                go_enter Try.func46, Try.ntmps46
                go_wp2_with (first | ((with_reducible refine gate_dst (N := 1) rfl ?_); refine box_event ?hg (N := 1) ?hd (cs := #[.int .i64 a0_0, .int .i64 a0_1, .int .i64 a0_2, .int .i64 a0_3]) (t := 58) ?hr ?_; (case hd => rfl); (case hg => rfl); (case hr => first | (go_simp; done) | (go_simp; rfl)); intro gb101 hg w21 hbox hb; have n0_ := Aside0.mk (below_step (by repeat (first | (with_reducible first | exact HB.out | apply below_alloc | apply pw_below_drewN | apply below_drew1) | exact HB.out)) hb); have n1_ := Aside0.mk (hbox); have n2_ := Aside0.mk ((by rw [hg]; exact (below_size (by repeat (first | (with_reducible first | exact HB.out | apply below_alloc | apply pw_below_drewN | apply below_drew1) | exact HB.out))) : w.heap.size ≤ gb101)); have n3_ := Aside0.mk ((by rw [hg]; exact (below_size (by repeat (first | (with_reducible first | exact HB.out | apply below_alloc | apply pw_below_drewN | apply below_drew1) | exact HB.out))) : w.heap.size ≤ gb101)); clear HB; have HB := n0_; have BK101 := n1_; have GW101 := n2_; have GE101 := n3_; clear n0_ n1_ n2_ n3_; clear hb hbox hg; have hcz22_0 : w21.cell? ⟨gb101, 0, none⟩ = some (.int .i64 a0_0) := (blk_cell BK101.out 0).trans rfl; have hcz22_1 : w21.cell? ⟨gb101, 1, none⟩ = some (.int .i64 a0_1) := (blk_cell BK101.out 1).trans rfl; have hcz22_2 : w21.cell? ⟨gb101, 2, none⟩ = some (.int .i64 a0_2) := (blk_cell BK101.out 2).trans rfl; have hcz22_3 : w21.cell? ⟨gb101, 3, none⟩ = some (.int .i64 a0_3) := (blk_cell BK101.out 3).trans rfl; have hfz22_0 := blk_frozen BK101.out 0; have hfz22_1 := blk_frozen BK101.out 1; have hfz22_2 := blk_frozen BK101.out 2; have hfz22_3 := blk_frozen BK101.out 3))
                go_ret
                exact ⟨by first | rfl | (simp [errW_none, errW_some] <;> rfl) | (simp [*, errW_none, errW_some] <;> rfl), by repeat (first | (with_reducible first | exact HB.out | apply below_alloc | apply pw_below_drewN | apply below_drew1 | refine below_set ?_ GE101.out) | exact HB.out)⟩
              · rw [if_neg c20] at H
                have c20b0 : decide (1024 < a0_3) = false := decide_eq_false c20
                clear c20
                obtain rfl := Option.some.inj H
                go_enter Try.func46, Try.ntmps46
                go_wp2_with (first | ((with_reducible refine gate_dst (N := 1) rfl ?_); refine box_event ?hg (N := 1) ?hd (cs := #[.int .i64 a0_0, .int .i64 a0_1, .int .i64 a0_2, .int .i64 a0_3]) (t := 58) ?hr ?_; (case hd => rfl); (case hg => rfl); (case hr => first | (go_simp; done) | (go_simp; rfl)); intro gb101 hg w23 hbox hb; have n0_ := Aside0.mk (below_step (by repeat (first | (with_reducible first | exact HB.out | apply below_alloc | apply pw_below_drewN | apply below_drew1) | exact HB.out)) hb); have n1_ := Aside0.mk (hbox); have n2_ := Aside0.mk ((by rw [hg]; exact (below_size (by repeat (first | (with_reducible first | exact HB.out | apply below_alloc | apply pw_below_drewN | apply below_drew1) | exact HB.out))) : w.heap.size ≤ gb101)); have n3_ := Aside0.mk ((by rw [hg]; exact (below_size (by repeat (first | (with_reducible first | exact HB.out | apply below_alloc | apply pw_below_drewN | apply below_drew1) | exact HB.out))) : w.heap.size ≤ gb101)); clear HB; have HB := n0_; have BK101 := n1_; have GW101 := n2_; have GE101 := n3_; clear n0_ n1_ n2_ n3_; clear hb hbox hg; have hcz24_0 : w23.cell? ⟨gb101, 0, none⟩ = some (.int .i64 a0_0) := (blk_cell BK101.out 0).trans rfl; have hcz24_1 : w23.cell? ⟨gb101, 1, none⟩ = some (.int .i64 a0_1) := (blk_cell BK101.out 1).trans rfl; have hcz24_2 : w23.cell? ⟨gb101, 2, none⟩ = some (.int .i64 a0_2) := (blk_cell BK101.out 2).trans rfl; have hcz24_3 : w23.cell? ⟨gb101, 3, none⟩ = some (.int .i64 a0_3) := (blk_cell BK101.out 3).trans rfl; have hfz24_0 := blk_frozen BK101.out 0; have hfz24_1 := blk_frozen BK101.out 1; have hfz24_2 := blk_frozen BK101.out 2; have hfz24_3 := blk_frozen BK101.out 3))
                go_ret
                exact ⟨by first | rfl | (simp [errW_none, errW_some] <;> rfl) | (simp [*, errW_none, errW_some] <;> rfl), by repeat (first | (with_reducible first | exact HB.out | apply below_alloc | apply pw_below_drewN | apply below_drew1 | refine below_set ?_ GE101.out) | exact HB.out)⟩

open Kd in
theorem R_make0 {P : Program} {ops : Array Oper} {rest : List Oper} {o : Oper} {a : Act} {Q : Exit → Act → World → Prop} {α : Type} (d : Kd α) {w0 W : World} (base e : Nat) (hgd : o.guard = none) {N : Tmp} (_hd : o.dst = some N) (t : TypeId) (x y : Operand) (ho : o.op = .makeSlice t x y) (n : Int) (hx : a.eval x = .int .i64 0) (hy : a.eval y = .int .i64 n)
    (ht : P.underlying t = some (.slice e)) (z : Value) (bytes : Nat) (hinfo : (P.info? e).map (fun i => (i.zero, i.size, i.bytes)) = some (some z, d.sz, bytes)) (hb0 : 0 < bytes) {ok : Nat → Prop} (hfresh : ok W.heap.size) (h0 : 0 ≤ n) (hl : n.toNat * bytes ≤ 281474976710656) (HB : Below base w0 W) (hbase : base ≤ W.heap.size)
    (h : ∀ v1 w1, d.R e w1 base ok v1 [] → Below base w0 w1 → W.grownBy w1 none → (∃ b, v1.ownBlock = some b ∧ W.heap.size ≤ b) → wpList P ops Q rest (a.put o.dst v1) w1) : wpList P ops Q (o :: rest) a W := by
  obtain ⟨m, rfl⟩ := Int.eq_ofNat_of_zero_le h0
  simp only [Int.toNat_natCast] at hl
  obtain ⟨i0, hi, hzz⟩ := Option.map_eq_some_iff.1 hinfo
  simp only [Prod.mk.injEq] at hzz
  obtain ⟨hz0, hz1, hz2⟩ := hzz
  have hm : m ≤ 281474976710656 := Nat.le_trans (Nat.le_mul_of_pos_right _ hb0) hl
  have hr := run_make (P := P) W t e i0 z ht hi hz0 .i64 .i64 0 (m : Int) (Int.le_refl _) (by omega)
    (by
      have h3 : ((i0.bytes * m : Nat) : Int) ≤ 281474976710656 := by rw [hz2, Nat.mul_comm]; omega
      rwa [Int.natCast_mul] at h3) (by omega)
  simp only [Int.toNat_natCast, Int.toNat_zero] at hr
  rw [hz1] at hr
  have hown := World.ownsRow_made (base := base) (e := e) (size := d.sz) W (madeCells z.cells (m * d.sz)) m hbase (by simp [maxLen]; omega) (size_madeCells _ _)
  refine event_run hgd (v := .slice (some ⟨W.heap.size, 0, none⟩) 0 m) (by simp [execOp, ho, hx, hy, hr]) (h _ _ ⟨fun k hk => ?_, [], hown, Reps.none _ _⟩ (HB.alloc hbase _) (World.grownBy_alloc W _ none) ⟨W.heap.size, by simp [Value.ownBlock], Nat.le_refl _⟩)
  have : W.heap.size = k := by simpa [Value.ownBlock] using hk
  subst this
  exact hfresh

/-! ### chunk_Weight: function 41 -/
def weightL : List Int → Int → Int → Int
  | [], _, acc => acc
  | b :: l, i, acc => weightL l (i + 1) (wrap64 (acc + (b + 1) * (i + 1)))
/-- the last bytes that count -/
def lastOf (s : ByteArray) (n : Int) : ByteArray := s.extract ((s.size : Int) - mx 0 (mn n s.size)).toNat s.size
theorem lastOf_none (s : ByteArray) (n : Int) (h : n ≤ 0) : lastOf s n = ByteArray.empty := by
  have e : mx 0 (mn n s.size) = 0 := by unfold mx mn; omega
  unfold lastOf
  rw [e]
  apply ByteArray.ext
  simp
theorem lastOf_some (s : ByteArray) (n : Int) (h0 : 0 < n) (h : n ≤ s.size) : lastOf s n = s.extract ((s.size : Int) - n).toNat s.size := by
  have e : mx 0 (mn n s.size) = n := by unfold mx mn; omega
  unfold lastOf
  rw [e]
theorem lastOf_all (s : ByteArray) (n : Int) (h : (s.size : Int) < n) : lastOf s n = s := by
  have e : mx 0 (mn n s.size) = s.size := by unfold mx mn; omega
  unfold lastOf
  rw [e]
  simp
theorem lastOf_zero (s : ByteArray) (n : Int) (h : (s.size : Int) < n) (h0 : ¬ 0 < s.size) : lastOf s n = ByteArray.empty := by
  rw [lastOf_all s n h]
  apply ByteArray.ext
  have : s.data.size = 0 := by have : s.data.size = s.size := rfl; omega
  exact Array.eq_empty_of_size_eq_zero this
def chunk_Weight.f (a0 : ByteArray) (a1 : Int) : Option Int := if a0.size ≤ 140737488355327 then some (weightL (bytesOf (lastOf a0 a1)) 0 0) else none
set_option maxHeartbeats 4000000 in
set_option maxRecDepth 100000 in
theorem chunk_Weight.calls (a0 : ByteArray) (a1 : Int) (r : Int) (w : World) (h : chunk_Weight.f a0 a1 = some r) :
    Calls Try.prog 41 #[.string a0, .int .i64 a1] w fun e w' => e = .returned (.int .i64 r) ∧ Below w.heap.size w w' := by
  unfold chunk_Weight.f at h
  split at h
  · rename_i hs
    have H := Aside0.mk (Option.some.inj h)
    clear h
    have hsz : ∀ b i : Int, 0 ≤ b → b ≤ 255 → 0 ≤ i → i < 140737488355328 → IntKind.i64.wrap ((b + 1) * (i + 1)) = (b + 1) * (i + 1) := fun b i h0 h1 h2 h3 => by
      have a := Int.mul_nonneg (show (0 : Int) ≤ b + 1 by omega) (show (0 : Int) ≤ i + 1 by omega)
      have c := Int.mul_le_mul (show b + 1 ≤ 256 by omega) (show i + 1 ≤ 140737488355328 by omega) (by omega) (by omega)
      exact IntWalk.i64_in _ (by omega)
    have HW := Aside0.mk hsz
    clear hsz
    rcases (show a1 < 0 ∨ a1 = 0 ∨ (0 < a1 ∧ a1 ≤ a0.size) ∨ ((a0.size : Int) < a1 ∧ 0 < a0.size) ∨ ((a0.size : Int) < a1 ∧ ¬ 0 < a0.size) by omega) with h1 | rfl | ⟨h1, h2⟩ | ⟨h1, h2⟩ | ⟨h1, h2⟩
    · skip
      have hf := lastOf_none a0 a1 (by omega)
      obtain ⟨t, ht⟩ : ∃ t, t = ByteArray.empty := ⟨_, rfl⟩
      rw [← ht] at hf
      have hts : t.size ≤ 140737488355327 := by rw [ht]; first | (simp; done) | (simp; omega)
      have HT := Aside0.mk ht
      clear ht
      rw [hf] at H
      skip
      clear hf
      have HKB := Aside0.mk (fun W => print_bytes (P := Try.prog) 9 22 5 Try.underlying9 Try.underlying22 Try.underlying5 t W)
      go_enter Try.func41, Try.ntmps41
      go_wp2_with ((with_reducible refine gate_dst (N := 18) rfl ?_); rw [← HT.out]; refine Kd.event_run rfl (v := .slice (some ⟨w.heap.size, 0, none⟩) t.size (grownCap w t.size 0 5)) (w1 := Lib.bytesWorld w 5 t) ?hr ?_; (case hr => have kb := HKB.out; first | (go_simp; done) | (go_simp; rfl)))
      clear HKB
      go_loop [5, 20] (fun v5 v20 => ∃ i acc : Int, 0 ≤ i ∧ i ≤ t.size ∧ v20 = .int .i64 i ∧ v5 = .int .i64 acc ∧ Aside0 (weightL ((bytesOf t).drop i.toNat) i acc = r)) (fun _ v20 => t.size - (intOf v20).toNat)
      case atStart => exact ⟨0, 0, by omega, by omega, rfl, rfl, H⟩
      case round =>
        clear H
        obtain ⟨i, acc, hi0, hi1, rfl, rfl, H⟩ := hrel
        by_cases hlt : i < (t.size : Int)
        · obtain ⟨ad, e, hc⟩ := (bytes_reads w 5 t (by omega)).at_ i hi0 hlt
          cases e
          rw [add_plain] at hc
          have hb : 0 ≤ rd (bytesOf t) i ∧ rd (bytesOf t) i ≤ 255 := by rw [rd_bytesOf]; exact bt_range t i
          have hd : (bytesOf t).drop i.toNat = rd (bytesOf t) i :: (bytesOf t).drop (i + 1).toNat := by
            have hl := bytesOf_length t
            rw [List.drop_eq_getElem_cons (by omega), show (i + 1).toNat = i.toNat + 1 from by omega]
            unfold rd
            rw [List.getD_eq_getElem?_getD, List.getElem?_eq_getElem (by omega)]; rfl
          rw [hd] at H
          clear hd
          obtain ⟨b, eb⟩ : ∃ b, b = rd (bytesOf t) i := ⟨_, rfl⟩
          rw [← eb] at H hb hc
          clear eb
          have hm := HW.out b i hb.1 hb.2 hi0 (by omega)
          go_wp2
          go_round
          case rel => exact ⟨i + 1, _, by omega, by omega, by go_num, rfl, ⟨H.out⟩⟩
          case measure => simp [intOf]; omega
        · go_wp2
          go_ret
          have H := H.out
          rw [List.drop_of_length_le (by rw [bytesOf_length]; omega)] at H
          exact ⟨by rw [← H]; rfl, bytes_below (Below.refl _ _) (Nat.le_refl _) _ _⟩
    · skip
      have hf := lastOf_none a0 0 (by omega)
      obtain ⟨t, ht⟩ : ∃ t, t = ByteArray.empty := ⟨_, rfl⟩
      rw [← ht] at hf
      have hts : t.size ≤ 140737488355327 := by rw [ht]; first | (simp; done) | (simp; omega)
      have HT := Aside0.mk ht
      clear ht
      rw [hf] at H
      skip
      clear hf
      have HKB := Aside0.mk (fun W => print_bytes (P := Try.prog) 9 22 5 Try.underlying9 Try.underlying22 Try.underlying5 t W)
      go_enter Try.func41, Try.ntmps41
      go_wp2_with ((with_reducible refine gate_dst (N := 18) rfl ?_); rw [← HT.out]; refine Kd.event_run rfl (v := .slice (some ⟨w.heap.size, 0, none⟩) t.size (grownCap w t.size 0 5)) (w1 := Lib.bytesWorld w 5 t) ?hr ?_; (case hr => have kb := HKB.out; first | (go_simp; done) | (go_simp; rfl)))
      clear HKB
      go_loop [5, 20] (fun v5 v20 => ∃ i acc : Int, 0 ≤ i ∧ i ≤ t.size ∧ v20 = .int .i64 i ∧ v5 = .int .i64 acc ∧ Aside0 (weightL ((bytesOf t).drop i.toNat) i acc = r)) (fun _ v20 => t.size - (intOf v20).toNat)
      case atStart => exact ⟨0, 0, by omega, by omega, rfl, rfl, H⟩
      case round =>
        clear H
        obtain ⟨i, acc, hi0, hi1, rfl, rfl, H⟩ := hrel
        by_cases hlt : i < (t.size : Int)
        · obtain ⟨ad, e, hc⟩ := (bytes_reads w 5 t (by omega)).at_ i hi0 hlt
          cases e
          rw [add_plain] at hc
          have hb : 0 ≤ rd (bytesOf t) i ∧ rd (bytesOf t) i ≤ 255 := by rw [rd_bytesOf]; exact bt_range t i
          have hd : (bytesOf t).drop i.toNat = rd (bytesOf t) i :: (bytesOf t).drop (i + 1).toNat := by
            have hl := bytesOf_length t
            rw [List.drop_eq_getElem_cons (by omega), show (i + 1).toNat = i.toNat + 1 from by omega]
            unfold rd
            rw [List.getD_eq_getElem?_getD, List.getElem?_eq_getElem (by omega)]; rfl
          rw [hd] at H
          clear hd
          obtain ⟨b, eb⟩ : ∃ b, b = rd (bytesOf t) i := ⟨_, rfl⟩
          rw [← eb] at H hb hc
          clear eb
          have hm := HW.out b i hb.1 hb.2 hi0 (by omega)
          go_wp2
          go_round
          case rel => exact ⟨i + 1, _, by omega, by omega, by go_num, rfl, ⟨H.out⟩⟩
          case measure => simp [intOf]; omega
        · go_wp2
          go_ret
          have H := H.out
          rw [List.drop_of_length_le (by rw [bytesOf_length]; omega)] at H
          exact ⟨by rw [← H]; rfl, bytes_below (Below.refl _ _) (Nat.le_refl _) _ _⟩
    · skip
      have hf := lastOf_some a0 a1 h1 h2
      obtain ⟨t, ht⟩ : ∃ t, t = a0.extract ((a0.size : Int) - a1).toNat a0.size := ⟨_, rfl⟩
      rw [← ht] at hf
      have hts : t.size ≤ 140737488355327 := by rw [ht]; first | (simp; done) | (simp; omega)
      have HT := Aside0.mk ht
      clear ht
      rw [hf] at H
      skip
      clear hf
      have HKB := Aside0.mk (fun W => print_bytes (P := Try.prog) 9 22 5 Try.underlying9 Try.underlying22 Try.underlying5 t W)
      go_enter Try.func41, Try.ntmps41
      go_wp2_with ((with_reducible refine gate_dst (N := 18) rfl ?_); rw [← HT.out]; refine Kd.event_run rfl (v := .slice (some ⟨w.heap.size, 0, none⟩) t.size (grownCap w t.size 0 5)) (w1 := Lib.bytesWorld w 5 t) ?hr ?_; (case hr => have kb := HKB.out; first | (go_simp; done) | (go_simp; rfl)))
      clear HKB
      go_loop [5, 20] (fun v5 v20 => ∃ i acc : Int, 0 ≤ i ∧ i ≤ t.size ∧ v20 = .int .i64 i ∧ v5 = .int .i64 acc ∧ Aside0 (weightL ((bytesOf t).drop i.toNat) i acc = r)) (fun _ v20 => t.size - (intOf v20).toNat)
      case atStart => exact ⟨0, 0, by omega, by omega, rfl, rfl, H⟩
      case round =>
        clear H
        obtain ⟨i, acc, hi0, hi1, rfl, rfl, H⟩ := hrel
        by_cases hlt : i < (t.size : Int)
        · obtain ⟨ad, e, hc⟩ := (bytes_reads w 5 t (by omega)).at_ i hi0 hlt
          cases e
          rw [add_plain] at hc
          have hb : 0 ≤ rd (bytesOf t) i ∧ rd (bytesOf t) i ≤ 255 := by rw [rd_bytesOf]; exact bt_range t i
          have hd : (bytesOf t).drop i.toNat = rd (bytesOf t) i :: (bytesOf t).drop (i + 1).toNat := by
            have hl := bytesOf_length t
            rw [List.drop_eq_getElem_cons (by omega), show (i + 1).toNat = i.toNat + 1 from by omega]
            unfold rd
            rw [List.getD_eq_getElem?_getD, List.getElem?_eq_getElem (by omega)]; rfl
          rw [hd] at H
          clear hd
          obtain ⟨b, eb⟩ : ∃ b, b = rd (bytesOf t) i := ⟨_, rfl⟩
          rw [← eb] at H hb hc
          clear eb
          have hm := HW.out b i hb.1 hb.2 hi0 (by omega)
          go_wp2
          go_round
          case rel => exact ⟨i + 1, _, by omega, by omega, by go_num, rfl, ⟨H.out⟩⟩
          case measure => simp [intOf]; omega
        · go_wp2
          go_ret
          have H := H.out
          rw [List.drop_of_length_le (by rw [bytesOf_length]; omega)] at H
          exact ⟨by rw [← H]; rfl, bytes_below (Below.refl _ _) (Nat.le_refl _) _ _⟩
    · skip
      have hf := lastOf_all a0 a1 h1
      rw [hf] at H
      have hts := hs
      clear hf
      have HKB := Aside0.mk (fun W => print_bytes (P := Try.prog) 9 22 5 Try.underlying9 Try.underlying22 Try.underlying5 a0 W)
      go_enter Try.func41, Try.ntmps41
      go_wp2_with ((with_reducible refine gate_dst (N := 18) rfl ?_); refine Kd.event_run rfl (v := .slice (some ⟨w.heap.size, 0, none⟩) a0.size (grownCap w a0.size 0 5)) (w1 := Lib.bytesWorld w 5 a0) ?hr ?_; (case hr => have kb := HKB.out; first | (go_simp; done) | (go_simp; rfl)))
      clear HKB
      go_loop [5, 20] (fun v5 v20 => ∃ i acc : Int, 0 ≤ i ∧ i ≤ a0.size ∧ v20 = .int .i64 i ∧ v5 = .int .i64 acc ∧ Aside0 (weightL ((bytesOf a0).drop i.toNat) i acc = r)) (fun _ v20 => a0.size - (intOf v20).toNat)
      case atStart => exact ⟨0, 0, by omega, by omega, rfl, rfl, H⟩
      case round =>
        clear H
        obtain ⟨i, acc, hi0, hi1, rfl, rfl, H⟩ := hrel
        by_cases hlt : i < (a0.size : Int)
        · obtain ⟨ad, e, hc⟩ := (bytes_reads w 5 a0 (by omega)).at_ i hi0 hlt
          cases e
          rw [add_plain] at hc
          have hb : 0 ≤ rd (bytesOf a0) i ∧ rd (bytesOf a0) i ≤ 255 := by rw [rd_bytesOf]; exact bt_range a0 i
          have hd : (bytesOf a0).drop i.toNat = rd (bytesOf a0) i :: (bytesOf a0).drop (i + 1).toNat := by
            have hl := bytesOf_length a0
            rw [List.drop_eq_getElem_cons (by omega), show (i + 1).toNat = i.toNat + 1 from by omega]
            unfold rd
            rw [List.getD_eq_getElem?_getD, List.getElem?_eq_getElem (by omega)]; rfl
          rw [hd] at H
          clear hd
          obtain ⟨b, eb⟩ : ∃ b, b = rd (bytesOf a0) i := ⟨_, rfl⟩
          rw [← eb] at H hb hc
          clear eb
          have hm := HW.out b i hb.1 hb.2 hi0 (by omega)
          go_wp2
          go_round
          case rel => exact ⟨i + 1, _, by omega, by omega, by go_num, rfl, ⟨H.out⟩⟩
          case measure => simp [intOf]; omega
        · go_wp2
          go_ret
          have H := H.out
          rw [List.drop_of_length_le (by rw [bytesOf_length]; omega)] at H
          exact ⟨by rw [← H]; rfl, bytes_below (Below.refl _ _) (Nat.le_refl _) _ _⟩
    · skip
      have hf := lastOf_zero a0 a1 h1 h2
      obtain ⟨t, ht⟩ : ∃ t, t = ByteArray.empty := ⟨_, rfl⟩
      rw [← ht] at hf
      have hts : t.size ≤ 140737488355327 := by rw [ht]; first | (simp; done) | (simp; omega)
      have HT := Aside0.mk ht
      clear ht
      rw [hf] at H
      skip
      clear hf
      have HKB := Aside0.mk (fun W => print_bytes (P := Try.prog) 9 22 5 Try.underlying9 Try.underlying22 Try.underlying5 t W)
      go_enter Try.func41, Try.ntmps41
      go_wp2_with ((with_reducible refine gate_dst (N := 18) rfl ?_); rw [← HT.out]; refine Kd.event_run rfl (v := .slice (some ⟨w.heap.size, 0, none⟩) t.size (grownCap w t.size 0 5)) (w1 := Lib.bytesWorld w 5 t) ?hr ?_; (case hr => have kb := HKB.out; first | (go_simp; done) | (go_simp; rfl)))
      clear HKB
      go_loop [5, 20] (fun v5 v20 => ∃ i acc : Int, 0 ≤ i ∧ i ≤ t.size ∧ v20 = .int .i64 i ∧ v5 = .int .i64 acc ∧ Aside0 (weightL ((bytesOf t).drop i.toNat) i acc = r)) (fun _ v20 => t.size - (intOf v20).toNat)
      case atStart => exact ⟨0, 0, by omega, by omega, rfl, rfl, H⟩
      case round =>
        clear H
        obtain ⟨i, acc, hi0, hi1, rfl, rfl, H⟩ := hrel
        by_cases hlt : i < (t.size : Int)
        · obtain ⟨ad, e, hc⟩ := (bytes_reads w 5 t (by omega)).at_ i hi0 hlt
          cases e
          rw [add_plain] at hc
          have hb : 0 ≤ rd (bytesOf t) i ∧ rd (bytesOf t) i ≤ 255 := by rw [rd_bytesOf]; exact bt_range t i
          have hd : (bytesOf t).drop i.toNat = rd (bytesOf t) i :: (bytesOf t).drop (i + 1).toNat := by
            have hl := bytesOf_length t
            rw [List.drop_eq_getElem_cons (by omega), show (i + 1).toNat = i.toNat + 1 from by omega]
            unfold rd
            rw [List.getD_eq_getElem?_getD, List.getElem?_eq_getElem (by omega)]; rfl
          rw [hd] at H
          clear hd
          obtain ⟨b, eb⟩ : ∃ b, b = rd (bytesOf t) i := ⟨_, rfl⟩
          rw [← eb] at H hb hc
          clear eb
          have hm := HW.out b i hb.1 hb.2 hi0 (by omega)
          go_wp2
          go_round
          case rel => exact ⟨i + 1, _, by omega, by omega, by go_num, rfl, ⟨H.out⟩⟩
          case measure => simp [intOf]; omega
        · go_wp2
          go_ret
          have H := H.out
          rw [List.drop_of_length_le (by rw [bytesOf_length]; omega)] at H
          exact ⟨by rw [← H]; rfl, bytes_below (Below.refl _ _) (Nat.le_refl _) _ _⟩
  · cases h


-- NOT PRINTED: function 65 (chunk_cursor_step)

end Go.Proofs.Ytepffabkcbfejaa.PChunkJoins
