-- Written by a program of this repository (wip/tools/myprint.py over the print of the kit): contracts and rows.
import Derived.Test.YtdflpnfceajomaaDoorPDeviationStepsx0
import Derived.Test.YtdflpnfceajomaaDoorPDeviationStepsx1
import Derived.Test.YtdflpnfceajomaaDoorPDeviationStepsx2
import Derived.Test.YtdflpnfceajomaaDoorPDeviationStepsx8
namespace Go.Proofs.YtdflpnfceajomaaDoor.PDeviationSteps
open Go.RowKit Go.Proofs.YtdflpnfceajomaaDoorW.PrintWords Go.Proofs.YtdflpnfceajomaaDoorW.PrintLast Go.Proofs.YtdflpnfceajomaaDoorW.PrintMore
attribute [local go_sem] max2_int min2_int max_two min_two max_three min_three max_four min_four   -- for this text's walks alone
set_option linter.unusedVariables false
set_option linter.unusedSimpArgs false

attribute [local go_sem high] eqA51
/-! ### api_Act_34: function 34 -/
def api_Act_34.l0 : Nat → List (S51) → List (S51) → Int → Int → Option (Bool)
  | 0, _, _, _, _ => none
  | k + 1, x0, x1, x12, x13 => if x13 < x12 then (if 0 ≤ x13 then (if x13 < (x0.length : Int) then (if x13 < (x1.length : Int) then (if (!(((rd_T51 x0 x13).f0) == ((rd_T51 x1 x13).f0)) || (!(((rd_T51 x0 x13).f1) == ((rd_T51 x1 x13).f1)))) = true then (some false) else (api_Act_34.l0 k x0 x1 x12 (wrap64 (x13 + 1)))) else (none)) else (none)) else (none)) else (some true)
def api_Act_34.f (k : Nat) (l0 : List (S51)) (l1 : List (S51)) : Option (Bool) := if (l0.length : Int) = (l1.length : Int) then (api_Act_34.l0 k l0 l1 (l0.length : Int) 0) else (some false)
theorem api_Act_34.mono_l : ∀ k, (∀ y0 y1 y2 y3, LeO (api_Act_34.l0 k y0 y1 y2 y3) (api_Act_34.l0 (k + 1) y0 y1 y2 y3))
  | 0 => fun _ _ _ _ r h => by simp [api_Act_34.l0] at h
  | k + 1 => by
    have ih0 := api_Act_34.mono_l k
    · intro y0 y1 y2 y3
      unfold api_Act_34.l0
      repeat' first
      | (with_reducible exact ih0 _ _ _ _)
      | (with_reducible exact LeO.refl _)
      | (with_reducible exact LeO.none _)
      | (with_reducible refine LeO.ite ?_ ?_)
      | (with_reducible refine LeO.bind ?_ (fun _ => ?_))
      | exact ih0 _ _ _ _
      | exact LeO.none _
      | refine LeO.ite ?_ ?_
      | refine LeO.bind ?_ (fun _ => ?_)
theorem api_Act_34.mono : ∀ a0 a1 k, LeO (api_Act_34.f k a0 a1) (api_Act_34.f (k + 1) a0 a1) := by
  intro a0 a1 k
  have ih0 := api_Act_34.mono_l k
  unfold api_Act_34.f
  repeat' first
      | (with_reducible exact ih0 _ _ _ _)
      | (with_reducible exact LeO.refl _)
      | (with_reducible exact LeO.none _)
      | (with_reducible refine LeO.ite ?_ ?_)
      | (with_reducible refine LeO.bind ?_ (fun _ => ?_))
      | exact ih0 _ _ _ _
      | exact LeO.none _
      | refine LeO.ite ?_ ?_
      | refine LeO.bind ?_ (fun _ => ?_)
set_option maxHeartbeats 8000000 in
set_option maxRecDepth 100000 in
theorem api_Act_34.calls (k : Nat) (A0 : Option Addr) (c0 : Nat) (l0 : List (S51)) (A1 : Option Addr) (c1 : Nat) (l1 : List (S51)) (r : Bool) (w : World) (hr0 : Kd.C k51 w A0 l0.length l0) (hc0 : l0.length ≤ c0) (hr1 : Kd.C k51 w A1 l1.length l1) (hc1 : l1.length ≤ c1) (h : api_Act_34.f k l0 l1 = some r) :
    Calls Tryd.prog 34 #[.slice A0 l0.length c0, .slice A1 l1.length c1] w fun e w' => e = .returned (.bool r) ∧ Drawn0 w w' := by
  have hu51 := Tryd.underlying51
  have HR0 := Aside0.mk hr0
  have HC0 := Aside0.mk hc0
  clear hr0 hc0
  have HR1 := Aside0.mk hr1
  have HC1 := Aside0.mk hc1
  clear hr1 hc1
  have H : (if (l0.length : Int) = (l1.length : Int) then (api_Act_34.l0 k l0 l1 (l0.length : Int) 0) else (some false)) = some r := h
  clear h
  by_cases c3 : (l0.length : Int) = (l1.length : Int)
  · rw [if_pos c3] at H
    have c3b0 : ((l0.length : Int) == (l1.length : Int)) = true := beq_iff_eq.mpr c3
    have c3b1 : ((l0.length : Int) != (l1.length : Int)) = false := bne_eq_false_iff_eq.mpr c3
    have c3b2 : (l0.length == l1.length) = true := by first | simpa using c3 | (simp at c3 ⊢; omega)
    clear c3
    have H' := Aside0.mk H
    clear H
    go_enter Tryd.func34, Tryd.ntmps34
    go_wp2
    repeat (go_quiet (fail); try go_wp2)
    go_loopg [13] k (fun kq v13 w' => ∃ (x13_1 : Int), v13 = .int .i64 x13_1 ∧ Aside0 (api_Act_34.l0 kq l0 l1 (l0.length : Int) x13_1 = some r) ∧ Aside0 (kq ≤ k) ∧ Drawn0 w w')
    case atStart => exact ⟨(0), (by first | rfl | (simp; done) | (simp [*]; done)), H', ⟨Nat.le_refl _⟩, by repeat (first | exact Drawn0.refl _ | apply Drawn0.step)⟩
    case round =>
      clear H'
      try clear c1
      try clear p2
      try clear c3
      try clear c3b0
      try clear c3b1
      try clear c3b2
      obtain ⟨x13_1, rfl, HA, HK1, ⟨m1, rfl⟩⟩ := hrel
      cases gk with
      | zero => exact absurd HA.out (by simp [api_Act_34.l0])
      | succ k1 =>
        have H := HA.out
        clear HA
        simp only [api_Act_34.l0] at H
        by_cases c4 : x13_1 < (l0.length : Int)
        · rw [if_pos c4] at H
          have c4b0 : decide (x13_1 < (l0.length : Int)) = true := decide_eq_true c4
          clear c4
          by_cases c5 : 0 ≤ x13_1
          · rw [if_pos c5] at H
            have c5b0 : decide (0 ≤ x13_1) = true := decide_eq_true c5
            clear c5
            by_cases c6 : x13_1 < (l0.length : Int)
            · rw [if_pos c6] at H
              have c6b0 : decide (x13_1 < (l0.length : Int)) = true := decide_eq_true c6
              clear c6
              by_cases c7 : x13_1 < (l1.length : Int)
              · rw [if_pos c7] at H
                have c7b0 : decide (x13_1 < (l1.length : Int)) = true := decide_eq_true c7
                clear c7
                by_cases c8 : (!(((rd_T51 l0 x13_1).f0) == ((rd_T51 l1 x13_1).f0)) || (!(((rd_T51 l0 x13_1).f1) == ((rd_T51 l1 x13_1).f1)))) = true
                · rw [if_pos c8] at H
                  have c8b0 : (!(((rd_T51 l0 x13_1).f0) == ((rd_T51 l1 x13_1).f0)) || (!(((rd_T51 l0 x13_1).f1) == ((rd_T51 l1 x13_1).f1)))) = true := c8
                  clear c8
                  obtain rfl := Option.some.inj H
                  have p286 : 0 ≤ (x13_1 : Int) := of_decide_eq_true (by first | (with_reducible assumption) | assumption)
                  have q286 : x13_1 < (l0.length : Int) := of_decide_eq_true (by first | (with_reducible assumption) | assumption)
                  obtain ⟨ad286, e286, hx286_0, hx286_1⟩ := at_T51 HR0.out x13_1 p286 q286
                  cases e286
                  replace p286 := eq_true p286
                  replace q286 := eq_true q286
                  have p287 : 0 ≤ (x13_1 : Int) := of_decide_eq_true (by first | (with_reducible assumption) | assumption)
                  have q287 : x13_1 < (l1.length : Int) := of_decide_eq_true (by first | (with_reducible assumption) | assumption)
                  obtain ⟨ad287, e287, hx287_0, hx287_1⟩ := at_T51 HR1.out x13_1 p287 q287
                  cases e287
                  replace p287 := eq_true p287
                  replace q287 := eq_true q287
                  go_wp2
                  repeat (go_quiet (fail); try go_wp2)
                  go_ret
                  exact ⟨by first | rfl | (simp; done) | (simp [*]; done), by repeat (first | exact Drawn0.refl _ | apply Drawn0.step)⟩
                · rw [if_neg c8] at H
                  have c8b0 : (!(((rd_T51 l0 x13_1).f0) == ((rd_T51 l1 x13_1).f0)) || (!(((rd_T51 l0 x13_1).f1) == ((rd_T51 l1 x13_1).f1)))) = false := by simpa using c8
                  clear c8
                  have H' := Aside0.mk H
                  clear H
                  have p286 : 0 ≤ (x13_1 : Int) := of_decide_eq_true (by first | (with_reducible assumption) | assumption)
                  have q286 : x13_1 < (l0.length : Int) := of_decide_eq_true (by first | (with_reducible assumption) | assumption)
                  obtain ⟨ad286, e286, hx286_0, hx286_1⟩ := at_T51 HR0.out x13_1 p286 q286
                  cases e286
                  replace p286 := eq_true p286
                  replace q286 := eq_true q286
                  have p287 : 0 ≤ (x13_1 : Int) := of_decide_eq_true (by first | (with_reducible assumption) | assumption)
                  have q287 : x13_1 < (l1.length : Int) := of_decide_eq_true (by first | (with_reducible assumption) | assumption)
                  obtain ⟨ad287, e287, hx287_0, hx287_1⟩ := at_T51 HR1.out x13_1 p287 q287
                  cases e287
                  replace p287 := eq_true p287
                  replace q287 := eq_true q287
                  go_wp2
                  repeat (go_quiet (fail); try go_wp2)
                  go_roundg k1
                  case measure => have := HK1.out; omega
                  case rel => exact ⟨(wrap64 (x13_1 + 1)), (by first | rfl | (simp; done) | (simp [*]; done)), H', ⟨by have := HK1.out; omega⟩, by repeat (first | exact Drawn0.refl _ | apply Drawn0.step)⟩
              · rw [if_neg c7] at H
                exact absurd H (by simp)
            · rw [if_neg c6] at H
              exact absurd H (by simp)
          · rw [if_neg c5] at H
            exact absurd H (by simp)
        · rw [if_neg c4] at H
          have c4b0 : decide (x13_1 < (l0.length : Int)) = false := decide_eq_false c4
          clear c4
          obtain rfl := Option.some.inj H
          go_wp2
          repeat (go_quiet (fail); try go_wp2)
          go_ret
          exact ⟨by first | rfl | (simp; done) | (simp [*]; done), by repeat (first | exact Drawn0.refl _ | apply Drawn0.step)⟩
  · rw [if_neg c3] at H
    have c3b0 : ((l0.length : Int) == (l1.length : Int)) = false := beq_eq_false_iff_ne.mpr c3
    have c3b1 : ((l0.length : Int) != (l1.length : Int)) = true := bne_iff_ne.mpr c3
    have c3b2 : (l0.length == l1.length) = false := by first | simpa using c3 | (simp at c3 ⊢; omega)
    obtain rfl := Option.some.inj H
    go_enter Tryd.func34, Tryd.ntmps34
    go_wp2
    repeat (go_quiet (fail); try go_wp2)
    go_ret
    exact ⟨by first | rfl | (simp; done) | (simp [*]; done), by repeat (first | exact Drawn0.refl _ | apply Drawn0.step)⟩

/-! ### deviation_Same: function 20 -/
def deviation_Same.f (k : Nat) (a0_0 : Int) (l0_1 : List (S51)) (a1_0 : Int) (l1_1 : List (S51)) : Option (Bool) := if a0_0 = a1_0 then ((api_Act_34.f k l0_1 l1_1).bind fun t290 => (some t290)) else (some false)
theorem deviation_Same.mono : ∀ a0 a1 a2 a3 k, LeO (deviation_Same.f k a0 a1 a2 a3) (deviation_Same.f (k + 1) a0 a1 a2 a3) := by
  intro a0 a1 a2 a3 k
  unfold deviation_Same.f
  repeat' first
      | (with_reducible exact api_Act_34.mono _ _ _)
      | (with_reducible exact LeO.refl _)
      | (with_reducible exact LeO.none _)
      | (with_reducible refine LeO.ite ?_ ?_)
      | (with_reducible refine LeO.bind ?_ (fun _ => ?_))
      | exact api_Act_34.mono _ _ _
      | exact LeO.none _
      | refine LeO.ite ?_ ?_
      | refine LeO.bind ?_ (fun _ => ?_)
set_option maxHeartbeats 8000000 in
set_option maxRecDepth 100000 in
theorem deviation_Same.calls (k : Nat) (a0_0 : Int) (A0_1 : Option Addr) (c0_1 : Nat) (l0_1 : List (S51)) (a1_0 : Int) (A1_1 : Option Addr) (c1_1 : Nat) (l1_1 : List (S51)) (r : Bool) (w : World) (hr0_1 : Kd.C k51 w A0_1 l0_1.length l0_1) (hc0_1 : l0_1.length ≤ c0_1) (hr1_1 : Kd.C k51 w A1_1 l1_1.length l1_1) (hc1_1 : l1_1.length ≤ c1_1) (h : deviation_Same.f k a0_0 l0_1 a1_0 l1_1 = some r) :
    Calls Tryd.prog 20 #[.agg #[.int .i64 a0_0, .slice A0_1 l0_1.length c0_1], .agg #[.int .i64 a1_0, .slice A1_1 l1_1.length c1_1]] w fun e w' => e = .returned (.bool r) ∧ Below w.heap.size w w' := by
  have hu39 := Tryd.underlying39
  have HR0_1 := Aside0.mk hr0_1
  have HC0_1 := Aside0.mk hc0_1
  clear hr0_1 hc0_1
  have HR1_1 := Aside0.mk hr1_1
  have HC1_1 := Aside0.mk hc1_1
  clear hr1_1 hc1_1
  have HB := Aside0.mk (Below.refl w.heap.size w)
  have H : (if a0_0 = a1_0 then ((api_Act_34.f k l0_1 l1_1).bind fun t290 => (some t290)) else (some false)) = some r := h
  clear h
  by_cases c3 : a0_0 = a1_0
  · rw [if_pos c3] at H
    have c3b0 : (a0_0 == a1_0) = true := beq_iff_eq.mpr c3
    have c3b1 : (a0_0 != a1_0) = false := bne_eq_false_iff_eq.mpr c3
    clear c3
    replace H := Option.bind_eq_some_iff.mp H
    obtain ⟨t290, A40, H⟩ := H
    replace H : (some t290) = some r := H
    have A4 := Aside0.mk A40
    clear A40
    obtain rfl := Option.some.inj H
    go_enter Tryd.func20, Tryd.ntmps20
    go_wp2_with (first | ((with_reducible refine gate_dst (N := 2) rfl ?_); refine box_event ?hg (N := 2) ?hd (cs := #[.int .i64 a0_0, .slice A0_1 l0_1.length c0_1]) (t := 39) ?hr ?_; (case hd => rfl); (case hg => rfl); (case hr => first | (go_simp; done) | (go_simp; rfl)); intro gb288 hg w5 hbox hb; have n0_ := Aside0.mk (below_step (by repeat (first | (with_reducible first | exact HB.out | apply below_alloc | apply pw_below_drewN | apply below_drew1) | exact HB.out)) hb); have n1_ := Aside0.mk (hbox); have n2_ := Aside0.mk ((by rw [hg]; exact (below_size (by repeat (first | (with_reducible first | exact HB.out | apply below_alloc | apply pw_below_drewN | apply below_drew1) | exact HB.out))) : w.heap.size ≤ gb288)); have n3_ := Aside0.mk ((by rw [hg]; exact (below_size (by repeat (first | (with_reducible first | exact HB.out | apply below_alloc | apply pw_below_drewN | apply below_drew1) | exact HB.out))) : w.heap.size ≤ gb288)); clear HB; have HB := n0_; have BK288 := n1_; have GW288 := n2_; have GE288 := n3_; clear n0_ n1_ n2_ n3_; clear hb hbox hg) | ((with_reducible refine gate_dst (N := 3) rfl ?_); refine box_event ?hg (N := 3) ?hd (cs := #[.int .i64 a1_0, .slice A1_1 l1_1.length c1_1]) (t := 39) ?hr ?_; (case hd => rfl); (case hg => rfl); (case hr => first | (go_simp; done) | (go_simp; rfl)); intro gb289 hg w6 hbox hb; have n0_ := Aside0.mk (blk_below (g := gb288) (o := .cells #[.int .i64 a0_0, .slice A0_1 l0_1.length c0_1] 39 (0, 0)) (by (with_reducible repeat (first | refine blk_drewN ?_ _ | refine blk_drew ?_ | refine blk_alloc ?_ _)); exact BK288.out) hb); have n1_ := Aside0.mk (below_step (by repeat (first | (with_reducible first | exact HB.out | apply below_alloc | apply pw_below_drewN | apply below_drew1 | refine below_set ?_ GE288.out) | exact HB.out)) hb); have n2_ := Aside0.mk (hbox); have n3_ := Aside0.mk ((by rw [hg]; exact (below_size (by repeat (first | (with_reducible first | exact HB.out | apply below_alloc | apply pw_below_drewN | apply below_drew1 | refine below_set ?_ GE288.out) | exact HB.out))) : w.heap.size ≤ gb289)); have n4_ := Aside0.mk ((by rw [hg]; exact (below_size (by repeat (first | (with_reducible first | exact HB.out | apply below_alloc | apply pw_below_drewN | apply below_drew1 | refine below_set ?_ GE288.out) | exact HB.out))) : w.heap.size ≤ gb289)); have n5_ := Aside0.mk ((by rw [hg]; exact Nat.ne_of_lt (blk_lt (g := gb288) (o := .cells #[.int .i64 a0_0, .slice A0_1 l0_1.length c0_1] 39 (0, 0)) (by (with_reducible repeat (first | refine blk_drewN ?_ _ | refine blk_drew ?_ | refine blk_alloc ?_ _)); exact BK288.out)) : gb288 ≠ gb289)); have n6_ := Aside0.mk ((by rw [hg]; exact Nat.ne_of_gt (blk_lt (g := gb288) (o := .cells #[.int .i64 a0_0, .slice A0_1 l0_1.length c0_1] 39 (0, 0)) (by (with_reducible repeat (first | refine blk_drewN ?_ _ | refine blk_drew ?_ | refine blk_alloc ?_ _)); exact BK288.out)) : gb289 ≠ gb288)); clear BK288; clear HB; have BK288 := n0_; have HB := n1_; have BK289 := n2_; have GW289 := n3_; have GE289 := n4_; have NB288_289 := n5_; have NB289_288 := n6_; clear n0_ n1_ n2_ n3_ n4_ n5_ n6_; clear hb hbox hg; have hnb7 := NB288_289.out; have hnc7 := NB289_288.out; have hcz8_0 : w6.cell? ⟨gb288, 0, none⟩ = some (.int .i64 a0_0) := (blk_cell BK288.out 0).trans rfl; have hcz8_1 : w6.cell? ⟨gb288, 1, none⟩ = some (.slice A0_1 l0_1.length c0_1) := (blk_cell BK288.out 1).trans rfl; have hfz8_0 := blk_frozen BK288.out 0; have hfz8_1 := blk_frozen BK288.out 1; have hcz9_0 : w6.cell? ⟨gb289, 0, none⟩ = some (.int .i64 a1_0) := (blk_cell BK289.out 0).trans rfl; have hcz9_1 : w6.cell? ⟨gb289, 1, none⟩ = some (.slice A1_1 l1_1.length c1_1) := (blk_cell BK289.out 1).trans rfl; have hfz9_0 := blk_frozen BK289.out 0; have hfz9_1 := blk_frozen BK289.out 1) | (go_at_call 34; (with_reducible refine (api_Act_34.calls k _ _ l0_1 _ _ l1_1 t290 _ ?side1 ?side2 ?side3 ?side4 A4.out).mono ?_); (case side1 => repeat (first | exact (Kd.C_below HR0_1.out HB.out) | (with_reducible refine Kd.C_alloc ?_ _) | (with_reducible refine Kd.C_drewN ?_ _) | (with_reducible refine Kd.C_drew ?_))); (case side2 => exact HC0_1.out); (case side3 => repeat (first | exact (Kd.C_below HR1_1.out HB.out) | (with_reducible refine Kd.C_alloc ?_ _) | (with_reducible refine Kd.C_drewN ?_ _) | (with_reducible refine Kd.C_drew ?_))); (case side4 => exact HC1_1.out); rintro e w' ⟨rfl, ⟨nd, rfl⟩⟩))
    go_ret
    exact ⟨by first | rfl | (simp [errW_none, errW_some] <;> rfl) | (simp [*, errW_none, errW_some] <;> rfl), by repeat (first | (with_reducible first | exact HB.out | apply below_alloc | apply pw_below_drewN | apply below_drew1 | refine below_set ?_ GE288.out | refine below_set ?_ GE289.out) | exact HB.out)⟩
  · rw [if_neg c3] at H
    have c3b0 : (a0_0 == a1_0) = false := beq_eq_false_iff_ne.mpr c3
    have c3b1 : (a0_0 != a1_0) = true := bne_iff_ne.mpr c3
    obtain rfl := Option.some.inj H
    go_enter Tryd.func20, Tryd.ntmps20
    go_wp2_with (first | ((with_reducible refine gate_dst (N := 2) rfl ?_); refine box_event ?hg (N := 2) ?hd (cs := #[.int .i64 a0_0, .slice A0_1 l0_1.length c0_1]) (t := 39) ?hr ?_; (case hd => rfl); (case hg => rfl); (case hr => first | (go_simp; done) | (go_simp; rfl)); intro gb288 hg w10 hbox hb; have n0_ := Aside0.mk (below_step (by repeat (first | (with_reducible first | exact HB.out | apply below_alloc | apply pw_below_drewN | apply below_drew1) | exact HB.out)) hb); have n1_ := Aside0.mk (hbox); have n2_ := Aside0.mk ((by rw [hg]; exact (below_size (by repeat (first | (with_reducible first | exact HB.out | apply below_alloc | apply pw_below_drewN | apply below_drew1) | exact HB.out))) : w.heap.size ≤ gb288)); have n3_ := Aside0.mk ((by rw [hg]; exact (below_size (by repeat (first | (with_reducible first | exact HB.out | apply below_alloc | apply pw_below_drewN | apply below_drew1) | exact HB.out))) : w.heap.size ≤ gb288)); clear HB; have HB := n0_; have BK288 := n1_; have GW288 := n2_; have GE288 := n3_; clear n0_ n1_ n2_ n3_; clear hb hbox hg) | ((with_reducible refine gate_dst (N := 3) rfl ?_); refine box_event ?hg (N := 3) ?hd (cs := #[.int .i64 a1_0, .slice A1_1 l1_1.length c1_1]) (t := 39) ?hr ?_; (case hd => rfl); (case hg => rfl); (case hr => first | (go_simp; done) | (go_simp; rfl)); intro gb289 hg w11 hbox hb; have n0_ := Aside0.mk (blk_below (g := gb288) (o := .cells #[.int .i64 a0_0, .slice A0_1 l0_1.length c0_1] 39 (0, 0)) (by (with_reducible repeat (first | refine blk_drewN ?_ _ | refine blk_drew ?_ | refine blk_alloc ?_ _)); exact BK288.out) hb); have n1_ := Aside0.mk (below_step (by repeat (first | (with_reducible first | exact HB.out | apply below_alloc | apply pw_below_drewN | apply below_drew1 | refine below_set ?_ GE288.out) | exact HB.out)) hb); have n2_ := Aside0.mk (hbox); have n3_ := Aside0.mk ((by rw [hg]; exact (below_size (by repeat (first | (with_reducible first | exact HB.out | apply below_alloc | apply pw_below_drewN | apply below_drew1 | refine below_set ?_ GE288.out) | exact HB.out))) : w.heap.size ≤ gb289)); have n4_ := Aside0.mk ((by rw [hg]; exact (below_size (by repeat (first | (with_reducible first | exact HB.out | apply below_alloc | apply pw_below_drewN | apply below_drew1 | refine below_set ?_ GE288.out) | exact HB.out))) : w.heap.size ≤ gb289)); have n5_ := Aside0.mk ((by rw [hg]; exact Nat.ne_of_lt (blk_lt (g := gb288) (o := .cells #[.int .i64 a0_0, .slice A0_1 l0_1.length c0_1] 39 (0, 0)) (by (with_reducible repeat (first | refine blk_drewN ?_ _ | refine blk_drew ?_ | refine blk_alloc ?_ _)); exact BK288.out)) : gb288 ≠ gb289)); have n6_ := Aside0.mk ((by rw [hg]; exact Nat.ne_of_gt (blk_lt (g := gb288) (o := .cells #[.int .i64 a0_0, .slice A0_1 l0_1.length c0_1] 39 (0, 0)) (by (with_reducible repeat (first | refine blk_drewN ?_ _ | refine blk_drew ?_ | refine blk_alloc ?_ _)); exact BK288.out)) : gb289 ≠ gb288)); clear BK288; clear HB; have BK288 := n0_; have HB := n1_; have BK289 := n2_; have GW289 := n3_; have GE289 := n4_; have NB288_289 := n5_; have NB289_288 := n6_; clear n0_ n1_ n2_ n3_ n4_ n5_ n6_; clear hb hbox hg; have hnb12 := NB288_289.out; have hnc12 := NB289_288.out; have hcz13_0 : w11.cell? ⟨gb288, 0, none⟩ = some (.int .i64 a0_0) := (blk_cell BK288.out 0).trans rfl; have hcz13_1 : w11.cell? ⟨gb288, 1, none⟩ = some (.slice A0_1 l0_1.length c0_1) := (blk_cell BK288.out 1).trans rfl; have hfz13_0 := blk_frozen BK288.out 0; have hfz13_1 := blk_frozen BK288.out 1; have hcz14_0 : w11.cell? ⟨gb289, 0, none⟩ = some (.int .i64 a1_0) := (blk_cell BK289.out 0).trans rfl; have hcz14_1 : w11.cell? ⟨gb289, 1, none⟩ = some (.slice A1_1 l1_1.length c1_1) := (blk_cell BK289.out 1).trans rfl; have hfz14_0 := blk_frozen BK289.out 0; have hfz14_1 := blk_frozen BK289.out 1))
    go_ret
    exact ⟨by first | rfl | (simp [errW_none, errW_some] <;> rfl) | (simp [*, errW_none, errW_some] <;> rfl), by repeat (first | (with_reducible first | exact HB.out | apply below_alloc | apply pw_below_drewN | apply below_drew1 | refine below_set ?_ GE288.out | refine below_set ?_ GE289.out) | exact HB.out)⟩

/-! ### storagebarterref30_Valid: function 21 -/
def storagebarterref30_Valid.f (l0 : List S56) (a1_0 : Int) (l1_1 : List S51) : Option Bool := deviation_Valid.f l0 a1_0 l1_1
set_option maxHeartbeats 4000000 in
set_option maxRecDepth 100000 in
theorem storagebarterref30_Valid.calls (A0 : Option Addr) (c0 : Nat) (l0 : List S56) (a1_0 : Int) (A1_1 : Option Addr) (c1_1 : Nat) (l1_1 : List S51) (r : Bool) (w : World) (hr0 : Kd.C k56 w A0 l0.length l0) (hc0 : l0.length ≤ c0) (hr1_1 : Kd.C k51 w A1_1 l1_1.length l1_1) (hc1_1 : l1_1.length ≤ c1_1) (h : storagebarterref30_Valid.f l0 a1_0 l1_1 = some r) :
    Calls Tryd.prog 21 #[.slice A0 l0.length c0, .agg #[.int .i64 a1_0, .slice A1_1 l1_1.length c1_1]] w fun e w' => e = .returned (.bool r) ∧ Below w.heap.size w w' := by
  unfold storagebarterref30_Valid.f deviation_Valid.f at h
  split at h
  · rename_i hl
    obtain rfl := Option.some.inj h
    have HB := Aside0.mk (below_alloc (Below.refl w.heap.size w) (.cells #[.int .i64 a1_0, .slice A1_1 l1_1.length c1_1] 39))
    have HG := Aside0.mk (heap_alloc_new w (.cells #[.int .i64 a1_0, .slice A1_1 l1_1.length c1_1] 39))
    have HR0 := Aside0.mk hr0
    have HR1 := Aside0.mk hr1_1
    have HL := Aside0.mk hl
    have hu := Tryd.underlying51
    obtain ⟨g, hg⟩ : ∃ g, g = w.heap.size := ⟨_, rfl⟩
    have HGE := Aside0.mk (Nat.le_of_eq hg.symm)
    clear hr0 hc0 hr1_1 hc1_1 h hl
    go_enter Tryd.func21, Tryd.ntmps21
    go_wp2
    rw [← hg] at HG ⊢
    clear hg
    go_loopw [5] (fun v5 w' => ∃ i : Int, 0 ≤ i ∧ i ≤ l1_1.length ∧ v5 = .int .i64 i ∧ Aside0 ((List.range i.toNat).all (fun k => deviation_ok l0 a1_0 l1_1 (k : Int)) = true) ∧ Aside0 (w'.heap[g]? = some (.cells #[.int .i64 a1_0, .slice A1_1 l1_1.length c1_1] 39 (0, 0))) ∧ Aside0 (Below w.heap.size w w')) (fun v5 _ => l1_1.length - (intOf v5).toNat)
    case atStart => exact ⟨0, by omega, by omega, rfl, ⟨rfl⟩, HG, HB⟩
    case round =>
      clear HG HB
      obtain ⟨i, hi0, hi, rfl, HA, HG, HB⟩ := hrel
      by_cases hlt : i < (l1_1.length : Int)
      · obtain ⟨ad, e0, q0, q1⟩ := at_T51 (Kd.C_below HR1.out HB.out) i hi0 hlt
        subst e0
        obtain ⟨x0, hx0⟩ : ∃ x0, x0 = (rd_T51 l1_1 i).f0 := ⟨_, rfl⟩
        obtain ⟨x1, hx1⟩ : ∃ x1, x1 = (rd_T51 l1_1 i).f1 := ⟨_, rfl⟩
        have HX0 := Aside0.mk hx0
        have HX1 := Aside0.mk hx1
        rw [← hx0] at q0
        rw [← hx1] at q1
        clear hx0 hx1
        have i0 : (0 ≤ i) = True := eq_true (by omega)
        have i1 : (i < (l1_1.length : Int)) = True := eq_true (by omega)
        have i2 : decide (i < (l1_1.length : Int)) = true := decide_eq_true hlt
        have hm : wr.cell? ⟨g, 1, none⟩ = some (.slice (some ad) l1_1.length c1_1) := blk_cell HG.out 1
        go_upto_region 5 with (fail)
        have HB2 := Aside0.mk (HB.out.alloc HB.out.size (.cells #[.int .i64 x0, .int .i64 x1] 51))
        have HG2 := Aside0.mk (((below_alloc (Below.refl wr.heap.size wr) (.cells #[.int .i64 x0, .int .i64 x1] 51)).block g (blk_lt HG.out)).trans HG.out)
        have hn := heap_alloc_new wr (.cells #[.int .i64 x0, .int .i64 x1] 51)
        have HN := Aside0.mk hn
        clear hn hm q0 q1 HB HG
        generalize wr.alloc (.cells #[.int .i64 x0, .int .i64 x1] 51) = W at *
        obtain ⟨gn, hgn⟩ : ∃ gn, gn = wr.heap.size := ⟨_, rfl⟩
        rw [← hgn] at HN ⊢
        clear hgn
        have m0 : W.cell? ⟨g, 0, none⟩ = some (.int .i64 a1_0) := blk_cell HG2.out 0
        have m1 : W.cell? ⟨g, 1, none⟩ = some (.slice (some ad) l1_1.length c1_1) := blk_cell HG2.out 1
        have n0 : W.cell? ⟨gn, 0, none⟩ = some (.int .i64 x0) := blk_cell HN.out 0
        have n1 : W.cell? ⟨gn, 1, none⟩ = some (.int .i64 x1) := blk_cell HN.out 1
        by_cases q0 : x1 < 1
        · have f0 : deviation_ok l0 a1_0 l1_1 i = false := by unfold deviation_ok; rw [← HX1.out, beq_eq_false_iff_ne.mpr (show x1 ≠ 1 by omega), beq_eq_false_iff_ne.mpr (show x1 ≠ 2 by omega), beq_eq_false_iff_ne.mpr (show x1 ≠ 3 by omega)]; simp
          have HF := Aside0.mk (deviation_all_false hi0 hlt f0)
          clear f0
          have q0b : decide (x1 < 1) = true := decide_eq_true q0
          go_quiet (fail)
          go_wp2
          go_ret
          exact ⟨by rw [HF.out]; rfl, pw_below_drewN HB2.out _⟩
        have q0b : decide (x1 < 1) = false := decide_eq_false q0
        by_cases q1 : 3 < x1
        · have f0 : deviation_ok l0 a1_0 l1_1 i = false := by unfold deviation_ok; rw [← HX1.out, beq_eq_false_iff_ne.mpr (show x1 ≠ 1 by omega), beq_eq_false_iff_ne.mpr (show x1 ≠ 2 by omega), beq_eq_false_iff_ne.mpr (show x1 ≠ 3 by omega)]; simp
          have HF := Aside0.mk (deviation_all_false hi0 hlt f0)
          clear f0
          have q1b : decide (3 < x1) = true := decide_eq_true q1
          go_quiet (fail)
          go_wp2
          go_ret
          exact ⟨by rw [HF.out]; rfl, pw_below_drewN HB2.out _⟩
        have q1b : decide (3 < x1) = false := decide_eq_false q1
        have d3 : (x1 == 1 || (x1 == 2 || x1 == 3)) = true := by
          rcases (show x1 = 1 ∨ x1 = 2 ∨ x1 = 3 by omega) with h | h | h <;> rw [h] <;> rfl
        have D3 := Aside0.mk d3
        clear d3
        by_cases d0 : x0 < 0
        · have f0 : deviation_ok l0 a1_0 l1_1 i = false := by unfold deviation_ok; rw [← HX0.out, decide_eq_false (by omega : ¬ 0 ≤ x0)]; rfl
          have HF := Aside0.mk (deviation_all_false hi0 hlt f0)
          clear f0
          have d0b : decide (x0 < 0) = true := decide_eq_true d0
          go_quiet (fail)
          go_wp2
          go_ret
          exact ⟨by rw [HF.out]; rfl, pw_below_drewN HB2.out _⟩
        · have d0b : decide (x0 < 0) = false := decide_eq_false d0
          by_cases d1 : (l0.length : Int) ≤ x0
          · have f0 : deviation_ok l0 a1_0 l1_1 i = false := by unfold deviation_ok; rw [← HX0.out, decide_eq_false (by omega : ¬ x0 < (l0.length : Int))]; simp
            have HF := Aside0.mk (deviation_all_false hi0 hlt f0)
            clear f0
            have d1b : decide ((l0.length : Int) ≤ x0) = true := decide_eq_true d1
            go_quiet (fail)
            go_wp2
            go_ret
            exact ⟨by rw [HF.out]; rfl, pw_below_drewN HB2.out _⟩
          · have d1b : decide ((l0.length : Int) ≤ x0) = false := decide_eq_false d1
            obtain ⟨ad2, ea, _, _, q2, _⟩ := at_T56 (Kd.C_below HR0.out HB2.out) x0 (by omega) (by omega)
            subst ea
            have j0 : (0 ≤ x0) = True := eq_true (by omega)
            have j1 : (x0 < (l0.length : Int)) = True := eq_true (by omega)
            obtain ⟨pr, hpr⟩ : ∃ pr, pr = (rd_T56 l0 x0).f2 := ⟨_, rfl⟩
            have HPR := Aside0.mk hpr
            rw [← hpr] at q2
            clear hpr
            cases d2 : pr == a1_0
            · have f0 : deviation_ok l0 a1_0 l1_1 i = false := by unfold deviation_ok; rw [← HX0.out, ← HPR.out, d2]; simp
              have HF := Aside0.mk (deviation_all_false hi0 hlt f0)
              clear f0
              have d2b : (pr != a1_0) = true := by simp only [bne, d2]; rfl
              go_quiet (fail)
              go_wp2
              go_ret
              exact ⟨by rw [HF.out]; rfl, pw_below_drewN HB2.out _⟩
            · have d2b : (pr != a1_0) = false := by simp only [bne, d2]; rfl
              have wi : wrap64 (i + 1) = i + 1 := by have := HL.out; unfold wrap64; omega
              by_cases d4 : i ≤ 0
              · have f0 : deviation_ok l0 a1_0 l1_1 i = true := by unfold deviation_ok; rw [← HX0.out, ← HX1.out, ← HPR.out, d2, D3.out, decide_eq_true (by omega : 0 ≤ x0), decide_eq_true (by omega : x0 < (l0.length : Int)), decide_eq_true d4]; rfl
                have HF := Aside0.mk (deviation_all_next hi0 f0 HA.out)
                clear f0
                have d4b : decide (0 < i) = false := decide_eq_false (by omega)
                go_quiet (fail)
                go_wp2
                go_roundw
                case rel => exact ⟨i + 1, by omega, by omega, by first | rfl | go_num, HF, ⟨HG2.out⟩, ⟨pw_below_drewN HB2.out _⟩⟩
                case measure => simp [intOf] <;> omega
              · have d4b : decide (0 < i) = true := decide_eq_true (by omega)
                obtain ⟨im, him⟩ : ∃ im, im = i - 1 := ⟨_, rfl⟩
                obtain ⟨ad3, ec, q3, _⟩ := at_T51 (Kd.C_below HR1.out HB2.out) im (by omega) (by omega)
                cases ec
                have w1 : wrap64 (i - 1) = im := by have := HL.out; unfold wrap64; omega
                have w2 : IntKind.i64.wrap (i - 1) = im := by rw [IntWalk.i64_in _ (by have := HL.out; omega), him]
                have k0 : (0 ≤ im) = True := eq_true (by omega)
                have k1 : (im < (l1_1.length : Int)) = True := eq_true (by omega)
                obtain ⟨y0, hy0⟩ : ∃ y0, y0 = (rd_T51 l1_1 (i - 1)).f0 := ⟨_, rfl⟩
                have HY0 := Aside0.mk hy0
                rw [show rd_T51 l1_1 im = rd_T51 l1_1 (i - 1) by rw [him], ← hy0] at q3
                clear hy0 him
                by_cases d5 : x0 ≤ y0
                · have f0 : deviation_ok l0 a1_0 l1_1 i = false := by unfold deviation_ok; rw [← HX0.out, ← HX1.out, ← HPR.out, ← HY0.out, d2, D3.out, decide_eq_false d4, decide_eq_false (by omega : ¬ y0 < x0)]; simp
                  have HF := Aside0.mk (deviation_all_false hi0 hlt f0)
                  clear f0
                  have d5b : decide (x0 ≤ y0) = true := decide_eq_true d5
                  go_quiet (fail)
                  go_wp2
                  go_ret
                  exact ⟨by rw [HF.out]; rfl, pw_below_drewN HB2.out _⟩
                · have f0 : deviation_ok l0 a1_0 l1_1 i = true := by unfold deviation_ok; rw [← HX0.out, ← HX1.out, ← HPR.out, ← HY0.out, d2, D3.out, decide_eq_true (by omega : 0 ≤ x0), decide_eq_true (by omega : x0 < (l0.length : Int)), decide_eq_false d4, decide_eq_true (by omega : y0 < x0)]; rfl
                  have HF := Aside0.mk (deviation_all_next hi0 f0 HA.out)
                  clear f0
                  have d5b : decide (x0 ≤ y0) = false := decide_eq_false d5
                  go_quiet (fail)
                  go_wp2
                  go_roundw
                  case rel => exact ⟨i + 1, by omega, by omega, by first | rfl | go_num, HF, ⟨HG2.out⟩, ⟨pw_below_drewN HB2.out _⟩⟩
                  case measure => simp [intOf] <;> omega
      · have i2 : decide (i < (l1_1.length : Int)) = false := decide_eq_false hlt
        have hm : wr.cell? ⟨g, 1, none⟩ = some (.slice A1_1 l1_1.length c1_1) := blk_cell HG.out 1
        go_wp2
        go_ret
        refine ⟨?_, HB.out⟩
        have h1 := HA.out
        rw [show i.toNat = l1_1.length by omega] at h1
        rw [h1]
        rfl
  · cases h

/-! ### storagebarterref30_Twists: function 23 -/
def storagebarterref30_Twists.f (l0 : List S56) (a1_0 : Int) (l1_1 : List S51) : Option Bool := deviation_Twists.f l0 a1_0 l1_1
set_option maxHeartbeats 4000000 in
set_option maxRecDepth 100000 in
theorem storagebarterref30_Twists.calls (A0 : Option Addr) (c0 : Nat) (l0 : List S56) (a1_0 : Int) (A1_1 : Option Addr) (c1_1 : Nat) (l1_1 : List S51) (r : Bool) (w : World) (hr0 : Kd.C k56 w A0 l0.length l0) (hc0 : l0.length ≤ c0) (hr1_1 : Kd.C k51 w A1_1 l1_1.length l1_1) (hc1_1 : l1_1.length ≤ c1_1) (h : storagebarterref30_Twists.f l0 a1_0 l1_1 = some r) :
    Calls Tryd.prog 23 #[.slice A0 l0.length c0, .agg #[.int .i64 a1_0, .slice A1_1 l1_1.length c1_1]] w fun e w' => e = .returned (.bool r) ∧ Below w.heap.size w w' := by
  unfold storagebarterref30_Twists.f deviation_Twists.f at h
  split at h
  · rename_i hl
    obtain rfl := Option.some.inj h
    have HB := Aside0.mk (below_alloc (Below.refl w.heap.size w) (.cells #[.int .i64 a1_0, .slice A1_1 l1_1.length c1_1] 39))
    have HG := Aside0.mk (heap_alloc_new w (.cells #[.int .i64 a1_0, .slice A1_1 l1_1.length c1_1] 39))
    have HR0 := Aside0.mk hr0
    have HR1 := Aside0.mk hr1_1
    have HL := Aside0.mk hl
    have hu := Tryd.underlying51
    obtain ⟨g, hg⟩ : ∃ g, g = w.heap.size := ⟨_, rfl⟩
    clear hr0 hc0 hr1_1 hc1_1 h hl
    go_enter Tryd.func23, Tryd.ntmps23
    go_wp2
    rw [← hg] at HG ⊢
    clear hg
    go_loopw [5] (fun v5 w' => ∃ i : Int, 0 ≤ i ∧ i ≤ l1_1.length ∧ v5 = .int .i64 i ∧ Aside0 ((l1_1.take i.toNat).any (deviation_twist l0) = false) ∧ Aside0 (w'.heap[g]? = some (.cells #[.int .i64 a1_0, .slice A1_1 l1_1.length c1_1] 39 (0, 0))) ∧ Aside0 (Below w.heap.size w w')) (fun v5 _ => l1_1.length - (intOf v5).toNat)
    case atStart => exact ⟨0, by omega, by omega, rfl, ⟨rfl⟩, HG, HB⟩
    case round =>
      clear HG HB
      obtain ⟨i, hi0, hi, rfl, HA, HG, HB⟩ := hrel
      by_cases hlt : i < (l1_1.length : Int)
      · obtain ⟨ad, e0, q0, q1⟩ := at_T51 (Kd.C_below HR1.out HB.out) i hi0 hlt
        subst e0
        obtain ⟨x0, hx0⟩ : ∃ x0, x0 = (rd_T51 l1_1 i).f0 := ⟨_, rfl⟩
        obtain ⟨x1, hx1⟩ : ∃ x1, x1 = (rd_T51 l1_1 i).f1 := ⟨_, rfl⟩
        have HT : Aside0 ((l1_1.take (i + 1).toNat).any (deviation_twist l0) = ((l1_1.take i.toNat).any (deviation_twist l0) || deviation_twist l0 ⟨x0, x1⟩)) := ⟨by
          have e : (i + 1).toNat = i.toNat + 1 := by omega
          rw [e, List.take_succ_eq_append_getElem (by omega), List.any_append, hx0, hx1]
          simp [rd_T51, List.getD_eq_getElem?_getD, List.getElem?_eq_getElem (show i.toNat < l1_1.length by omega)]⟩
        rw [← hx0] at q0
        rw [← hx1] at q1
        clear hx0 hx1
        have i0 : (0 ≤ i) = True := eq_true (by omega)
        have i1 : (i < (l1_1.length : Int)) = True := eq_true (by omega)
        have i2 : decide (i < (l1_1.length : Int)) = true := decide_eq_true hlt
        have hm : wr.cell? ⟨g, 1, none⟩ = some (.slice (some ad) l1_1.length c1_1) := blk_cell HG.out 1
        go_upto_region 5 with (fail)
        have HB2 := Aside0.mk (HB.out.alloc HB.out.size (.cells #[.int .i64 x0, .int .i64 x1] 51))
        have HG2 := Aside0.mk (((below_alloc (Below.refl wr.heap.size wr) (.cells #[.int .i64 x0, .int .i64 x1] 51)).block g (blk_lt HG.out)).trans HG.out)
        have HN := Aside0.mk (heap_alloc_new wr (.cells #[.int .i64 x0, .int .i64 x1] 51))
        clear hm q0 q1 HB HG
        generalize wr.alloc (.cells #[.int .i64 x0, .int .i64 x1] 51) = W at *
        obtain ⟨gn, hgn⟩ : ∃ gn, gn = wr.heap.size := ⟨_, rfl⟩
        rw [← hgn] at HN ⊢
        clear hgn
        have n0 : W.cell? ⟨gn, 0, none⟩ = some (.int .i64 x0) := blk_cell HN.out 0
        have n1 : W.cell? ⟨gn, 1, none⟩ = some (.int .i64 x1) := blk_cell HN.out 1
        have wi : wrap64 (i + 1) = i + 1 := by have := HL.out; unfold wrap64; omega
        by_cases d1 : x1 = 3 ∧ 0 ≤ x0 ∧ x0 < (l0.length : Int)
        · obtain ⟨d1, d2, d3⟩ := d1
          obtain ⟨ad2, ea, _, _, _, q2⟩ := at_T56 (Kd.C_below HR0.out HB2.out) x0 d2 d3
          subst ea
          have j0 : (0 ≤ x0) = True := eq_true d2
          have j1 : (x0 < (l0.length : Int)) = True := eq_true d3
          have j2 : decide (0 ≤ x0) = true := decide_eq_true d2
          have j3 : decide (x0 < (l0.length : Int)) = true := decide_eq_true d3
          have j4 : (x1 == 3) = true := beq_iff_eq.mpr d1
          obtain ⟨pr, hpr⟩ : ∃ pr, pr = (rd_T56 l0 x0).f3 := ⟨_, rfl⟩
          have HV := Aside0.mk (show deviation_twist l0 ⟨x0, x1⟩ = (pr == 2 || (pr == 3 || pr == 4)) by unfold deviation_twist; simp only; rw [j4, decide_eq_false (show ¬ x0 < 0 by omega), decide_eq_false (show ¬ (l0.length : Int) ≤ x0 by omega), ← hpr]; rfl)
          rw [← hpr] at q2
          clear hpr
          by_cases k0 : 2 ≤ pr ∧ pr ≤ 4
          · obtain ⟨k0, k1⟩ := k0
            have k2 : decide (2 ≤ pr) = true := decide_eq_true k0
            have k3 : decide (pr ≤ 4) = true := decide_eq_true k1
            have HF := Aside0.mk (show l1_1.any (deviation_twist l0) = true by
              have h1 : (l1_1.take (i + 1).toNat).any (deviation_twist l0) = true := by
                rw [HT.out, HV.out]
                rcases (show pr = 2 ∨ pr = 3 ∨ pr = 4 by omega) with h | h | h <;> rw [h] <;> simp
              obtain ⟨y, hy, hz⟩ := List.any_eq_true.mp h1
              exact List.any_eq_true.mpr ⟨y, List.mem_of_mem_take hy, hz⟩)
            go_wp2
            go_ret
            exact ⟨by rw [HF.out]; rfl, HB2.out⟩
          · have HF := Aside0.mk (show (l1_1.take (i + 1).toNat).any (deviation_twist l0) = false by
              rw [HT.out, HA.out, HV.out, beq_eq_false_iff_ne.mpr (show pr ≠ 2 by omega), beq_eq_false_iff_ne.mpr (show pr ≠ 3 by omega), beq_eq_false_iff_ne.mpr (show pr ≠ 4 by omega)]; rfl)
            cases k2 : decide (2 ≤ pr)
            · clear k0
              go_wp2
              go_roundw
              case rel => exact ⟨i + 1, by omega, by omega, by first | rfl | go_num, HF, ⟨HG2.out⟩, HB2⟩
              case measure => simp [intOf] <;> omega
            · have k3 : decide (pr ≤ 4) = false := decide_eq_false (by have := of_decide_eq_true k2; omega)
              clear k0
              go_wp2
              go_roundw
              case rel => exact ⟨i + 1, by omega, by omega, by first | rfl | go_num, HF, ⟨HG2.out⟩, HB2⟩
              case measure => simp [intOf] <;> omega
        · have HF := Aside0.mk (show (l1_1.take (i + 1).toNat).any (deviation_twist l0) = false by
            rw [HT.out, HA.out]
            unfold deviation_twist
            simp only
            by_cases c1 : x1 = 3
            · by_cases c2 : x0 < 0
              · rw [decide_eq_true c2]; simp
              · rw [decide_eq_true (show (l0.length : Int) ≤ x0 by omega)]; simp
            · rw [beq_eq_false_iff_ne.mpr c1]; simp)
          cases c1 : x1 == 3
          · clear d1
            go_wp2
            go_roundw
            case rel => exact ⟨i + 1, by omega, by omega, by first | rfl | go_num, HF, ⟨HG2.out⟩, HB2⟩
            case measure => simp [intOf] <;> omega
          · cases c2 : decide (0 ≤ x0)
            · clear d1
              go_wp2
              go_roundw
              case rel => exact ⟨i + 1, by omega, by omega, by first | rfl | go_num, HF, ⟨HG2.out⟩, HB2⟩
              case measure => simp [intOf] <;> omega
            · have c3 : decide (x0 < (l0.length : Int)) = false := decide_eq_false (fun h => d1 ⟨beq_iff_eq.mp c1, of_decide_eq_true c2, h⟩)
              clear d1
              go_wp2
              go_roundw
              case rel => exact ⟨i + 1, by omega, by omega, by first | rfl | go_num, HF, ⟨HG2.out⟩, HB2⟩
              case measure => simp [intOf] <;> omega
      · have i2 : decide (i < (l1_1.length : Int)) = false := decide_eq_false hlt
        have hm : wr.cell? ⟨g, 1, none⟩ = some (.slice A1_1 l1_1.length c1_1) := blk_cell HG.out 1
        go_wp2
        go_ret
        refine ⟨?_, HB.out⟩
        have h1 := HA.out
        rw [List.take_of_length_le (by omega)] at h1
        rw [h1]
        rfl
  · cases h

/-! ### deviation_How: function 24 -/
def deviation_How.l0 : Nat → Int → List (S51) → Int → Int → Option (Int)
  | 0, _, _, _, _ => none
  | k + 1, x1, x8, x9, x10 => if x10 < x9 then (if 0 ≤ x10 then (if x10 < (x8.length : Int) then (if ((rd_T51 x8 x10).f0) = x1 then (some ((rd_T51 x8 x10).f1)) else (deviation_How.l0 k x1 x8 x9 (wrap64 (x10 + 1)))) else (none)) else (none)) else (some 0)
def deviation_How.f (k : Nat) (a0_0 : Int) (l0_1 : List (S51)) (a1 : Int) : Option (Int) := deviation_How.l0 k a1 l0_1 (l0_1.length : Int) 0
theorem deviation_How.mono_l : ∀ k, (∀ y0 y1 y2 y3, LeO (deviation_How.l0 k y0 y1 y2 y3) (deviation_How.l0 (k + 1) y0 y1 y2 y3))
  | 0 => fun _ _ _ _ r h => by simp [deviation_How.l0] at h
  | k + 1 => by
    have ih0 := deviation_How.mono_l k
    · intro y0 y1 y2 y3
      unfold deviation_How.l0
      repeat' first
      | (with_reducible exact ih0 _ _ _ _)
      | (with_reducible exact LeO.refl _)
      | (with_reducible exact LeO.none _)
      | (with_reducible refine LeO.ite ?_ ?_)
      | (with_reducible refine LeO.bind ?_ (fun _ => ?_))
      | exact ih0 _ _ _ _
      | exact LeO.none _
      | refine LeO.ite ?_ ?_
      | refine LeO.bind ?_ (fun _ => ?_)
theorem deviation_How.mono : ∀ a0 a1 a2 k, LeO (deviation_How.f k a0 a1 a2) (deviation_How.f (k + 1) a0 a1 a2) := by
  intro a0 a1 a2 k
  have ih0 := deviation_How.mono_l k
  unfold deviation_How.f
  repeat' first
      | (with_reducible exact ih0 _ _ _ _)
      | (with_reducible exact LeO.refl _)
      | (with_reducible exact LeO.none _)
      | (with_reducible refine LeO.ite ?_ ?_)
      | (with_reducible refine LeO.bind ?_ (fun _ => ?_))
      | exact ih0 _ _ _ _
      | exact LeO.none _
      | refine LeO.ite ?_ ?_
      | refine LeO.bind ?_ (fun _ => ?_)
set_option maxHeartbeats 8000000 in
set_option maxRecDepth 100000 in
theorem deviation_How.calls (k : Nat) (a0_0 : Int) (A0_1 : Option Addr) (c0_1 : Nat) (l0_1 : List (S51)) (a1 : Int) (r : Int) (w : World) (hr0_1 : Kd.C k51 w A0_1 l0_1.length l0_1) (hc0_1 : l0_1.length ≤ c0_1) (h : deviation_How.f k a0_0 l0_1 a1 = some r) :
    Calls Tryd.prog 24 #[.agg #[.int .i64 a0_0, .slice A0_1 l0_1.length c0_1], .int .i64 a1] w fun e w' => e = .returned (.int .i64 r) ∧ Below w.heap.size w w' := by
  have hu39 := Tryd.underlying39
  have hu51 := Tryd.underlying51
  have HR0_1 := Aside0.mk hr0_1
  have HC0_1 := Aside0.mk hc0_1
  clear hr0_1 hc0_1
  have HB := Aside0.mk (Below.refl w.heap.size w)
  have H : (deviation_How.l0 k a1 l0_1 (l0_1.length : Int) 0) = some r := h
  clear h
  have H' := Aside0.mk H
  clear H
  go_enter Tryd.func24, Tryd.ntmps24
  go_wp2_with (first | ((with_reducible refine gate_dst (N := 2) rfl ?_); refine box_event ?hg (N := 2) ?hd (cs := #[.int .i64 a0_0, .slice A0_1 l0_1.length c0_1]) (t := 39) ?hr ?_; (case hd => rfl); (case hg => rfl); (case hr => first | (go_simp; done) | (go_simp; rfl)); intro gb291 hg w3 hbox hb; have n0_ := Aside0.mk (below_step (by repeat (first | (with_reducible first | exact HB.out | apply below_alloc | apply pw_below_drewN | apply below_drew1) | exact HB.out)) hb); have n1_ := Aside0.mk (hbox); have n2_ := Aside0.mk ((by rw [hg]; exact (below_size (by repeat (first | (with_reducible first | exact HB.out | apply below_alloc | apply pw_below_drewN | apply below_drew1) | exact HB.out))) : w.heap.size ≤ gb291)); have n3_ := Aside0.mk ((by rw [hg]; exact (below_size (by repeat (first | (with_reducible first | exact HB.out | apply below_alloc | apply pw_below_drewN | apply below_drew1) | exact HB.out))) : w.heap.size ≤ gb291)); clear HB; have HB := n0_; have BK291 := n1_; have GW291 := n2_; have GE291 := n3_; clear n0_ n1_ n2_ n3_; clear hb hbox hg; have hcz4_0 : w3.cell? ⟨gb291, 0, none⟩ = some (.int .i64 a0_0) := (blk_cell BK291.out 0).trans rfl; have hcz4_1 : w3.cell? ⟨gb291, 1, none⟩ = some (.slice A0_1 l0_1.length c0_1) := (blk_cell BK291.out 1).trans rfl; have hfz4_0 := blk_frozen BK291.out 0; have hfz4_1 := blk_frozen BK291.out 1))
  go_loopg [10] k (fun kq v10 w' => ∃ (x10_1 : Int), v10 = .int .i64 x10_1 ∧ Aside0 (deviation_How.l0 kq a1 l0_1 (l0_1.length : Int) x10_1 = some r) ∧ Aside0 (kq ≤ k) ∧ Aside0 (w'.heap[gb291]? = some (.cells #[.int .i64 a0_0, (.slice A0_1 l0_1.length c0_1)] 39 (0, 0))) ∧ Aside0 (Below w.heap.size w w'))
  case atStart => exact ⟨(0), (by first | rfl | (simp; done) | (simp [*]; done)), H', ⟨Nat.le_refl _⟩, ⟨by (with_reducible repeat (first | refine blk_drewN ?_ _ | refine blk_drew ?_ | refine blk_alloc ?_ _)); exact BK291.out⟩, ⟨by repeat (first | (with_reducible first | exact HB.out | apply below_alloc | apply pw_below_drewN | apply below_drew1 | refine below_set ?_ GE291.out) | exact HB.out)⟩⟩
  case round =>
    clear H'
    try clear c2
    try clear p2
    try clear hcz4_0
    try clear hcz4_1
    try clear hfz4_0
    try clear hfz4_1
    obtain ⟨x10_1, rfl, HA, HK1, BK291, HB⟩ := hrel
    cases gk with
    | zero => exact absurd HA.out (by simp [deviation_How.l0])
    | succ k1 =>
      have H := HA.out
      clear HA
      simp only [deviation_How.l0] at H
      by_cases c5 : x10_1 < (l0_1.length : Int)
      · rw [if_pos c5] at H
        have c5b0 : decide (x10_1 < (l0_1.length : Int)) = true := decide_eq_true c5
        clear c5
        by_cases c6 : 0 ≤ x10_1
        · rw [if_pos c6] at H
          have c6b0 : decide (0 ≤ x10_1) = true := decide_eq_true c6
          clear c6
          by_cases c7 : x10_1 < (l0_1.length : Int)
          · rw [if_pos c7] at H
            have c7b0 : decide (x10_1 < (l0_1.length : Int)) = true := decide_eq_true c7
            clear c7
            by_cases c8 : ((rd_T51 l0_1 x10_1).f0) = a1
            · rw [if_pos c8] at H
              have c8b0 : (((rd_T51 l0_1 x10_1).f0) == a1) = true := beq_iff_eq.mpr c8
              have c8b1 : (((rd_T51 l0_1 x10_1).f0) != a1) = false := bne_eq_false_iff_eq.mpr c8
              clear c8
              obtain rfl := Option.some.inj H
              have p292 : 0 ≤ (x10_1 : Int) := of_decide_eq_true (by first | (with_reducible assumption) | assumption)
              have q292 : x10_1 < (l0_1.length : Int) := of_decide_eq_true (by first | (with_reducible assumption) | assumption)
              obtain ⟨ad292, e292, hx292_0, hx292_1⟩ := at_T51 HR0_1.out x10_1 p292 q292
              cases e292
              replace hx292_0 := (HB.out.cell (World.block_lt_of_cell? w _ hx292_0)).trans hx292_0
              replace hx292_1 := (HB.out.cell (World.block_lt_of_cell? w _ hx292_1)).trans hx292_1
              replace p292 := eq_true p292
              replace q292 := eq_true q292
              go_wp2_with (first | ((with_reducible refine gate_dst (N := 6) rfl ?_); refine box_event ?hg (N := 6) ?hd (cs := #[.int .i64 0, .int .i64 0]) (t := 51) ?hr ?_; (case hd => rfl); (case hg => rfl); (case hr => first | (go_simp; done) | (go_simp; rfl)); intro gb293 hg w9 hbox hb; have n0_ := Aside0.mk (blk_below (g := gb291) (o := .cells #[.int .i64 a0_0, .slice (some ad292) l0_1.length c0_1] 39 (0, 0)) (by (with_reducible repeat (first | refine blk_drewN ?_ _ | refine blk_drew ?_ | refine blk_alloc ?_ _)); exact BK291.out) hb); have n1_ := Aside0.mk (below_step (by repeat (first | (with_reducible first | exact HB.out | apply below_alloc | apply pw_below_drewN | apply below_drew1 | refine below_set ?_ GE291.out) | exact HB.out)) hb); have n2_ := Aside0.mk (hbox); have n3_ := Aside0.mk ((by rw [hg]; exact (below_size (by repeat (first | (with_reducible first | exact HB.out | apply below_alloc | apply pw_below_drewN | apply below_drew1 | refine below_set ?_ GE291.out) | exact HB.out))) : w.heap.size ≤ gb293)); have n4_ := Aside0.mk ((by rw [hg]; exact (below_size (by repeat (first | (with_reducible first | exact HB.out | apply below_alloc | apply pw_below_drewN | apply below_drew1 | refine below_set ?_ GE291.out) | exact HB.out))) : w.heap.size ≤ gb293)); have n5_ := Aside0.mk ((by rw [hg]; exact Nat.ne_of_lt (blk_lt (g := gb291) (o := .cells #[.int .i64 a0_0, .slice (some ad292) l0_1.length c0_1] 39 (0, 0)) (by (with_reducible repeat (first | refine blk_drewN ?_ _ | refine blk_drew ?_ | refine blk_alloc ?_ _)); exact BK291.out)) : gb291 ≠ gb293)); have n6_ := Aside0.mk ((by rw [hg]; exact Nat.ne_of_gt (blk_lt (g := gb291) (o := .cells #[.int .i64 a0_0, .slice (some ad292) l0_1.length c0_1] 39 (0, 0)) (by (with_reducible repeat (first | refine blk_drewN ?_ _ | refine blk_drew ?_ | refine blk_alloc ?_ _)); exact BK291.out)) : gb293 ≠ gb291)); clear BK291; clear HB; have BK291 := n0_; have HB := n1_; have BK293 := n2_; have GW293 := n3_; have GE293 := n4_; have NB291_293 := n5_; have NB293_291 := n6_; clear n0_ n1_ n2_ n3_ n4_ n5_ n6_; clear hb hbox hg; have hnb10 := NB293_291.out; have hnc10 := NB291_293.out; have hcz11_0 : w9.cell? ⟨gb293, 0, none⟩ = some (.int .i64 0) := (blk_cell BK293.out 0).trans rfl; have hcz11_1 : w9.cell? ⟨gb293, 1, none⟩ = some (.int .i64 0) := (blk_cell BK293.out 1).trans rfl; have hfz11_0 := blk_frozen BK293.out 0; have hfz11_1 := blk_frozen BK293.out 1))
              go_ret
              exact ⟨by first | rfl | (simp [errW_none, errW_some] <;> rfl) | (simp [*, errW_none, errW_some] <;> rfl), by repeat (first | (with_reducible first | exact HB.out | apply below_alloc | apply pw_below_drewN | apply below_drew1 | refine below_set ?_ GE291.out | refine below_set ?_ GE293.out) | exact HB.out)⟩
            · rw [if_neg c8] at H
              have c8b0 : (((rd_T51 l0_1 x10_1).f0) == a1) = false := beq_eq_false_iff_ne.mpr c8
              have c8b1 : (((rd_T51 l0_1 x10_1).f0) != a1) = true := bne_iff_ne.mpr c8
              have H' := Aside0.mk H
              clear H
              have p292 : 0 ≤ (x10_1 : Int) := of_decide_eq_true (by first | (with_reducible assumption) | assumption)
              have q292 : x10_1 < (l0_1.length : Int) := of_decide_eq_true (by first | (with_reducible assumption) | assumption)
              obtain ⟨ad292, e292, hx292_0, hx292_1⟩ := at_T51 HR0_1.out x10_1 p292 q292
              cases e292
              replace hx292_0 := (HB.out.cell (World.block_lt_of_cell? w _ hx292_0)).trans hx292_0
              replace hx292_1 := (HB.out.cell (World.block_lt_of_cell? w _ hx292_1)).trans hx292_1
              replace p292 := eq_true p292
              replace q292 := eq_true q292
              go_wp2_with (first | ((with_reducible refine gate_dst (N := 6) rfl ?_); refine box_event ?hg (N := 6) ?hd (cs := #[.int .i64 0, .int .i64 0]) (t := 51) ?hr ?_; (case hd => rfl); (case hg => rfl); (case hr => first | (go_simp; done) | (go_simp; rfl)); intro gb293 hg w12 hbox hb; have n0_ := Aside0.mk (blk_below (g := gb291) (o := .cells #[.int .i64 a0_0, .slice (some ad292) l0_1.length c0_1] 39 (0, 0)) (by (with_reducible repeat (first | refine blk_drewN ?_ _ | refine blk_drew ?_ | refine blk_alloc ?_ _)); exact BK291.out) hb); have n1_ := Aside0.mk (below_step (by repeat (first | (with_reducible first | exact HB.out | apply below_alloc | apply pw_below_drewN | apply below_drew1 | refine below_set ?_ GE291.out) | exact HB.out)) hb); have n2_ := Aside0.mk (hbox); have n3_ := Aside0.mk ((by rw [hg]; exact (below_size (by repeat (first | (with_reducible first | exact HB.out | apply below_alloc | apply pw_below_drewN | apply below_drew1 | refine below_set ?_ GE291.out) | exact HB.out))) : w.heap.size ≤ gb293)); have n4_ := Aside0.mk ((by rw [hg]; exact (below_size (by repeat (first | (with_reducible first | exact HB.out | apply below_alloc | apply pw_below_drewN | apply below_drew1 | refine below_set ?_ GE291.out) | exact HB.out))) : w.heap.size ≤ gb293)); have n5_ := Aside0.mk ((by rw [hg]; exact Nat.ne_of_lt (blk_lt (g := gb291) (o := .cells #[.int .i64 a0_0, .slice (some ad292) l0_1.length c0_1] 39 (0, 0)) (by (with_reducible repeat (first | refine blk_drewN ?_ _ | refine blk_drew ?_ | refine blk_alloc ?_ _)); exact BK291.out)) : gb291 ≠ gb293)); have n6_ := Aside0.mk ((by rw [hg]; exact Nat.ne_of_gt (blk_lt (g := gb291) (o := .cells #[.int .i64 a0_0, .slice (some ad292) l0_1.length c0_1] 39 (0, 0)) (by (with_reducible repeat (first | refine blk_drewN ?_ _ | refine blk_drew ?_ | refine blk_alloc ?_ _)); exact BK291.out)) : gb293 ≠ gb291)); clear BK291; clear HB; have BK291 := n0_; have HB := n1_; have BK293 := n2_; have GW293 := n3_; have GE293 := n4_; have NB291_293 := n5_; have NB293_291 := n6_; clear n0_ n1_ n2_ n3_ n4_ n5_ n6_; clear hb hbox hg; have hnb13 := NB293_291.out; have hnc13 := NB291_293.out; have hcz14_0 : w12.cell? ⟨gb293, 0, none⟩ = some (.int .i64 0) := (blk_cell BK293.out 0).trans rfl; have hcz14_1 : w12.cell? ⟨gb293, 1, none⟩ = some (.int .i64 0) := (blk_cell BK293.out 1).trans rfl; have hfz14_0 := blk_frozen BK293.out 0; have hfz14_1 := blk_frozen BK293.out 1))
              go_roundg k1
              case measure => have := HK1.out; omega
              case rel => exact ⟨(wrap64 (x10_1 + 1)), (by first | rfl | (simp; done) | (simp [*]; done)), H', ⟨by have := HK1.out; omega⟩, ⟨by (with_reducible repeat (first | refine blk_drewN ?_ _ | refine blk_drew ?_ | refine blk_alloc ?_ _)); refine blk_far ?_ NB291_293.out _; (with_reducible repeat (first | refine blk_drewN ?_ _ | refine blk_drew ?_ | refine blk_alloc ?_ _)); refine blk_far ?_ NB291_293.out _; (with_reducible repeat (first | refine blk_drewN ?_ _ | refine blk_drew ?_ | refine blk_alloc ?_ _)); exact BK291.out⟩, ⟨by repeat (first | (with_reducible first | exact HB.out | apply below_alloc | apply pw_below_drewN | apply below_drew1 | refine below_set ?_ GE291.out | refine below_set ?_ GE293.out) | exact HB.out)⟩⟩
          · rw [if_neg c7] at H
            exact absurd H (by simp)
        · rw [if_neg c6] at H
          exact absurd H (by simp)
      · rw [if_neg c5] at H
        have c5b0 : decide (x10_1 < (l0_1.length : Int)) = false := decide_eq_false c5
        clear c5
        obtain rfl := Option.some.inj H
        go_wp2
        go_ret
        exact ⟨by first | rfl | (simp [errW_none, errW_some] <;> rfl) | (simp [*, errW_none, errW_some] <;> rfl), by repeat (first | (with_reducible first | exact HB.out | apply below_alloc | apply pw_below_drewN | apply below_drew1 | refine below_set ?_ GE291.out) | exact HB.out)⟩

/-! ### storagebarterref30_How: function 25 -/
def storagebarterref30_How.l0 : Nat → Int → Int → Int → List (S51) → Option (Int)
  | 0, _, _, _, _ => none
  | k + 1, x1, x5, x295000, x295001 => if x5 < (x295001.length : Int) then (if 0 ≤ x5 then (if ((rd_T51 x295001 x5).f0) = x1 then (some ((rd_T51 x295001 x5).f1)) else (storagebarterref30_How.l0 k x1 (wrap64 (x5 + 1)) x295000 x295001)) else (none)) else (some 0)
def storagebarterref30_How.f (k : Nat) (a0_0 : Int) (l0_1 : List (S51)) (a1 : Int) : Option (Int) := storagebarterref30_How.l0 k a1 0 a0_0 l0_1
theorem storagebarterref30_How.mono_l : ∀ k, (∀ y0 y1 y2 y3, LeO (storagebarterref30_How.l0 k y0 y1 y2 y3) (storagebarterref30_How.l0 (k + 1) y0 y1 y2 y3))
  | 0 => fun _ _ _ _ r h => by simp [storagebarterref30_How.l0] at h
  | k + 1 => by
    have ih0 := storagebarterref30_How.mono_l k
    · intro y0 y1 y2 y3
      unfold storagebarterref30_How.l0
      repeat' first
      | (with_reducible exact ih0 _ _ _ _)
      | (with_reducible exact LeO.refl _)
      | (with_reducible exact LeO.none _)
      | (with_reducible refine LeO.ite ?_ ?_)
      | (with_reducible refine LeO.bind ?_ (fun _ => ?_))
      | exact ih0 _ _ _ _
      | exact LeO.none _
      | refine LeO.ite ?_ ?_
      | refine LeO.bind ?_ (fun _ => ?_)
theorem storagebarterref30_How.mono : ∀ a0 a1 a2 k, LeO (storagebarterref30_How.f k a0 a1 a2) (storagebarterref30_How.f (k + 1) a0 a1 a2) := by
  intro a0 a1 a2 k
  have ih0 := storagebarterref30_How.mono_l k
  unfold storagebarterref30_How.f
  repeat' first
      | (with_reducible exact ih0 _ _ _ _)
      | (with_reducible exact LeO.refl _)
      | (with_reducible exact LeO.none _)
      | (with_reducible refine LeO.ite ?_ ?_)
      | (with_reducible refine LeO.bind ?_ (fun _ => ?_))
      | exact ih0 _ _ _ _
      | exact LeO.none _
      | refine LeO.ite ?_ ?_
      | refine LeO.bind ?_ (fun _ => ?_)
set_option maxHeartbeats 8000000 in
set_option maxRecDepth 100000 in
theorem storagebarterref30_How.calls (k : Nat) (a0_0 : Int) (A0_1 : Option Addr) (c0_1 : Nat) (l0_1 : List (S51)) (a1 : Int) (r : Int) (w : World) (hr0_1 : Kd.C k51 w A0_1 l0_1.length l0_1) (hc0_1 : l0_1.length ≤ c0_1) (h : storagebarterref30_How.f k a0_0 l0_1 a1 = some r) :
    Calls Tryd.prog 25 #[.agg #[.int .i64 a0_0, .slice A0_1 l0_1.length c0_1], .int .i64 a1] w fun e w' => e = .returned (.int .i64 r) ∧ Below w.heap.size w w' := by
  have hu39 := Tryd.underlying39
  have HR0_1 := Aside0.mk hr0_1
  have HC0_1 := Aside0.mk hc0_1
  clear hr0_1 hc0_1
  have HB := Aside0.mk (Below.refl w.heap.size w)
  have H : (storagebarterref30_How.l0 k a1 0 a0_0 l0_1) = some r := h
  clear h
  have H' := Aside0.mk H
  clear H
  go_enter Tryd.func25, Tryd.ntmps25
  go_wp2_with (first | ((with_reducible refine gate_dst (N := 2) rfl ?_); refine box_event ?hg (N := 2) ?hd (cs := #[.int .i64 a0_0, .slice A0_1 l0_1.length c0_1]) (t := 39) ?hr ?_; (case hd => rfl); (case hg => rfl); (case hr => first | (go_simp; done) | (go_simp; rfl)); intro gb294 hg w3 hbox hb; have n0_ := Aside0.mk (below_step (by repeat (first | (with_reducible first | exact HB.out | apply below_alloc | apply pw_below_drewN | apply below_drew1) | exact HB.out)) hb); have n1_ := Aside0.mk (hbox); have n2_ := Aside0.mk ((by rw [hg]; exact (below_size (by repeat (first | (with_reducible first | exact HB.out | apply below_alloc | apply pw_below_drewN | apply below_drew1) | exact HB.out))) : w.heap.size ≤ gb294)); have n3_ := Aside0.mk ((by rw [hg]; exact (below_size (by repeat (first | (with_reducible first | exact HB.out | apply below_alloc | apply pw_below_drewN | apply below_drew1) | exact HB.out))) : w.heap.size ≤ gb294)); clear HB; have HB := n0_; have BK294 := n1_; have GW294 := n2_; have GE294 := n3_; clear n0_ n1_ n2_ n3_; clear hb hbox hg))
  go_loopg [5] k (fun kq v5 w' => ∃ (x5_1 : Int), v5 = .int .i64 x5_1 ∧ Aside0 (storagebarterref30_How.l0 kq a1 x5_1 a0_0 l0_1 = some r) ∧ Aside0 (kq ≤ k) ∧ Aside0 (w'.heap[gb294]? = some (.cells #[.int .i64 a0_0, (.slice A0_1 l0_1.length c0_1)] 39 (0, 0))) ∧ Aside0 (Below w.heap.size w w'))
  case atStart => exact ⟨(0), (by first | rfl | (simp; done) | (simp [*]; done)), H', ⟨Nat.le_refl _⟩, ⟨by (with_reducible repeat (first | refine blk_drewN ?_ _ | refine blk_drew ?_ | refine blk_alloc ?_ _)); exact BK294.out⟩, ⟨by repeat (first | (with_reducible first | exact HB.out | apply below_alloc | apply pw_below_drewN | apply below_drew1 | refine below_set ?_ GE294.out) | exact HB.out)⟩⟩
  case round =>
    clear H'
    try clear c2
    try clear p2
    obtain ⟨x5_1, rfl, HA, HK1, BK294, HB⟩ := hrel
    cases gk with
    | zero => exact absurd HA.out (by simp [storagebarterref30_How.l0])
    | succ k1 =>
      have H := HA.out
      clear HA
      simp only [storagebarterref30_How.l0] at H
      by_cases c4 : x5_1 < (l0_1.length : Int)
      · rw [if_pos c4] at H
        have c4b0 : decide (x5_1 < (l0_1.length : Int)) = true := decide_eq_true c4
        clear c4
        by_cases c5 : 0 ≤ x5_1
        · rw [if_pos c5] at H
          have c5b0 : decide (0 ≤ x5_1) = true := decide_eq_true c5
          clear c5
          by_cases c6 : ((rd_T51 l0_1 x5_1).f0) = a1
          · rw [if_pos c6] at H
            have c6b0 : (((rd_T51 l0_1 x5_1).f0) == a1) = true := beq_iff_eq.mpr c6
            have c6b1 : (((rd_T51 l0_1 x5_1).f0) != a1) = false := bne_eq_false_iff_eq.mpr c6
            clear c6
            obtain rfl := Option.some.inj H
            have hcz7_0 : wr.cell? ⟨gb294, 0, none⟩ = some (.int .i64 a0_0) := (blk_cell BK294.out 0).trans rfl
            have hcz7_1 : wr.cell? ⟨gb294, 1, none⟩ = some (.slice A0_1 l0_1.length c0_1) := (blk_cell BK294.out 1).trans rfl
            have hfz7_0 := blk_frozen BK294.out 0
            have hfz7_1 := blk_frozen BK294.out 1
            have p295 : 0 ≤ (x5_1 : Int) := of_decide_eq_true (by first | (with_reducible assumption) | assumption)
            have q295 : x5_1 < (l0_1.length : Int) := of_decide_eq_true (by first | (with_reducible assumption) | assumption)
            obtain ⟨ad295, e295, hx295_0, hx295_1⟩ := at_T51 HR0_1.out x5_1 p295 q295
            cases e295
            replace hx295_0 := (HB.out.cell (World.block_lt_of_cell? w _ hx295_0)).trans hx295_0
            replace hx295_1 := (HB.out.cell (World.block_lt_of_cell? w _ hx295_1)).trans hx295_1
            replace p295 := eq_true p295
            replace q295 := eq_true q295
            have p296 : 0 ≤ (x5_1 : Int) := of_decide_eq_true (by first | (with_reducible assumption) | assumption)
            have q296 : x5_1 < (l0_1.length : Int) := of_decide_eq_true (by first | (with_reducible assumption) | assumption)
            obtain ⟨ad296, e296, hx296_0, hx296_1⟩ := at_T51 HR0_1.out x5_1 p296 q296
            obtain rfl : ad295 = ad296 := (by injection e296)
            replace hx296_0 := (HB.out.cell (World.block_lt_of_cell? w _ hx296_0)).trans hx296_0
            replace hx296_1 := (HB.out.cell (World.block_lt_of_cell? w _ hx296_1)).trans hx296_1
            replace p296 := eq_true p296
            replace q296 := eq_true q296
            go_wp2
            go_ret
            exact ⟨by first | rfl | (simp [errW_none, errW_some] <;> rfl) | (simp [*, errW_none, errW_some] <;> rfl), by repeat (first | (with_reducible first | exact HB.out | apply below_alloc | apply pw_below_drewN | apply below_drew1 | refine below_set ?_ GE294.out) | exact HB.out)⟩
          · rw [if_neg c6] at H
            have c6b0 : (((rd_T51 l0_1 x5_1).f0) == a1) = false := beq_eq_false_iff_ne.mpr c6
            have c6b1 : (((rd_T51 l0_1 x5_1).f0) != a1) = true := bne_iff_ne.mpr c6
            have H' := Aside0.mk H
            clear H
            have hcz8_0 : wr.cell? ⟨gb294, 0, none⟩ = some (.int .i64 a0_0) := (blk_cell BK294.out 0).trans rfl
            have hcz8_1 : wr.cell? ⟨gb294, 1, none⟩ = some (.slice A0_1 l0_1.length c0_1) := (blk_cell BK294.out 1).trans rfl
            have hfz8_0 := blk_frozen BK294.out 0
            have hfz8_1 := blk_frozen BK294.out 1
            have p295 : 0 ≤ (x5_1 : Int) := of_decide_eq_true (by first | (with_reducible assumption) | assumption)
            have q295 : x5_1 < (l0_1.length : Int) := of_decide_eq_true (by first | (with_reducible assumption) | assumption)
            obtain ⟨ad295, e295, hx295_0, hx295_1⟩ := at_T51 HR0_1.out x5_1 p295 q295
            cases e295
            replace hx295_0 := (HB.out.cell (World.block_lt_of_cell? w _ hx295_0)).trans hx295_0
            replace hx295_1 := (HB.out.cell (World.block_lt_of_cell? w _ hx295_1)).trans hx295_1
            replace p295 := eq_true p295
            replace q295 := eq_true q295
            go_wp2
            go_roundg k1
            case measure => have := HK1.out; omega
            case rel => exact ⟨(wrap64 (x5_1 + 1)), (by first | rfl | (simp; done) | (simp [*]; done)), H', ⟨by have := HK1.out; omega⟩, ⟨by (with_reducible repeat (first | refine blk_drewN ?_ _ | refine blk_drew ?_ | refine blk_alloc ?_ _)); exact BK294.out⟩, ⟨by repeat (first | (with_reducible first | exact HB.out | apply below_alloc | apply pw_below_drewN | apply below_drew1 | refine below_set ?_ GE294.out) | exact HB.out)⟩⟩
        · rw [if_neg c5] at H
          exact absurd H (by simp)
      · rw [if_neg c4] at H
        have c4b0 : decide (x5_1 < (l0_1.length : Int)) = false := decide_eq_false c4
        clear c4
        obtain rfl := Option.some.inj H
        have hcz9_0 : wr.cell? ⟨gb294, 0, none⟩ = some (.int .i64 a0_0) := (blk_cell BK294.out 0).trans rfl
        have hcz9_1 : wr.cell? ⟨gb294, 1, none⟩ = some (.slice A0_1 l0_1.length c0_1) := (blk_cell BK294.out 1).trans rfl
        have hfz9_0 := blk_frozen BK294.out 0
        have hfz9_1 := blk_frozen BK294.out 1
        go_wp2
        go_ret
        exact ⟨by first | rfl | (simp [errW_none, errW_some] <;> rfl) | (simp [*, errW_none, errW_some] <;> rfl), by repeat (first | (with_reducible first | exact HB.out | apply below_alloc | apply pw_below_drewN | apply below_drew1 | refine below_set ?_ GE294.out) | exact HB.out)⟩

end Go.Proofs.YtdflpnfceajomaaDoor.PDeviationSteps
