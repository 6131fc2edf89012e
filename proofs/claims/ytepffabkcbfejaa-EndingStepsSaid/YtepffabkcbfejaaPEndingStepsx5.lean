-- Written by a program of this repository (wip/tools/myprint.py over the print of the kit): contracts and rows.
import Derived.Test.YtepffabkcbfejaaPEndingStepsx0
import Derived.Test.YtepffabkcbfejaaPEndingStepsx2
import Derived.Test.YtepffabkcbfejaaPEndingStepsx3
import Derived.Test.YtepffabkcbfejaaPEndingStepsx4
namespace Go.Proofs.Ytepffabkcbfejaa.PEndingSteps
open Go.RowKit Go.Proofs.YtepffabkcbfejaaW.PrintWords Go.Proofs.YtepffabkcbfejaaW.PrintLast Go.Proofs.YtepffabkcbfejaaW.PrintMore
attribute [local go_sem] max2_int min2_int max_two min_two max_three min_three max_four min_four   -- for this text's walks alone
set_option linter.unusedVariables false
set_option linter.unusedSimpArgs false

attribute [local go_sem high] eqA44
def room1 (a b : Int) (acc : Int) (x : S44) : Int := if x.f1 = a ∧ x.f0 = b then wrap64 (acc + x.f4) else acc
/-- what a keeps for b -/
def room (a b : Int) (l : List S44) : Int := l.foldl (room1 a b) 0
theorem ending_Room.loop (a b : Int) (l : List S44) (hl : l.length < 2199023255552) : ∀ (d : Nat) (i u v : Int), 0 ≤ i → (l.length : Int) - i = d →
    ending_Room.l0 (2 * d + 1) a b l (l.length : Int) i u v = some ((l.drop i.toNat).foldl (room1 a b) u, (l.drop i.toNat).foldl (room1 b a) v) := by
  intro d
  induction d with
  | zero =>
    intro i u v h0 h1
    simp only [ending_Room.l0]
    rw [if_neg (by omega), List.drop_of_length_le (by omega)]; rfl
  | succ d ih =>
    intro i u v h0 h1
    have e : wrap64 (i + 1) = i + 1 := by unfold wrap64; omega
    have ht : (i + 1).toNat = i.toNat + 1 := by omega
    have hd : l.drop i.toNat = rd_T44 l i :: l.drop (i + 1).toNat := by
      rw [List.drop_eq_getElem_cons (by omega), ht]
      unfold rd_T44
      rw [List.getD_eq_getElem?_getD, List.getElem?_eq_getElem (by omega)]; rfl
    rw [hd, List.foldl_cons, List.foldl_cons, show 2 * (d + 1) + 1 = (2 * d + 1) + 1 + 1 from by omega, ending_Room.l0, if_pos (by omega), if_pos h0, if_pos (by omega)]
    have ihx := fun u v => ih (i + 1) u v (by omega) (by omega)
    generalize rd_T44 l i = x at *
    simp only [room1, ending_Room.j1, e]
    have b2 : (x.f0 == b) = decide (x.f0 = b) := rfl
    rw [b2]
    clear ih b2 hd
    by_cases h1 : x.f1 = a <;> by_cases h2 : x.f0 = b <;> by_cases h3 : x.f1 = b <;> by_cases h4 : x.f0 = a <;>
      ((first | have q1 := eq_false h1 | have q1 := eq_true h1); (first | have q2 := eq_false h2 | have q2 := eq_true h2); (first | have q3 := eq_false h3 | have q3 := eq_true h3); (first | have q4 := eq_false h4 | have q4 := eq_true h4)
       simp only [q1, q2, q3, q4, if_true, if_false, and_true, true_and, and_false, false_and, and_self, decide_true, decide_false, Bool.false_eq_true, reduceIte]
       exact ihx _ _)
theorem ending_Room.some_ (l : List S44) (a b : Int) (hl : l.length < 2199023255552) : ending_Room.f (2 * l.length + 1) l a b = some (room a b l, room b a l) := ending_Room.loop a b l hl l.length 0 0 0 (by omega) (by omega)
theorem room1_add (a b u v : Int) (x : S44) : room1 a b (wrap64 (u + v)) x = wrap64 (u + room1 a b v x) := by
  unfold room1
  split
  · unfold wrap64; omega
  · rfl
theorem room_from (a b : Int) : ∀ (l : List S44) (u v : Int), l.foldl (room1 a b) (wrap64 (u + v)) = wrap64 (u + l.foldl (room1 a b) v)
  | [], u, v => rfl
  | x :: l, u, v => by rw [List.foldl_cons, List.foldl_cons, room1_add, room_from a b l]
theorem room1_wrap (a b u : Int) (x : S44) (h : wrap64 u = u) : wrap64 (room1 a b u x) = room1 a b u x := by
  unfold room1
  split
  · unfold wrap64; omega
  · exact h
theorem room_wrap (a b : Int) : ∀ (l : List S44) (u : Int), wrap64 u = u → wrap64 (l.foldl (room1 a b) u) = l.foldl (room1 a b) u
  | [], u, h => h
  | x :: l, u, h => room_wrap a b l _ (room1_wrap a b u x h)
theorem room_cut (a b : Int) (l : List S44) (k : Nat) : room a b l = wrap64 (room a b (l.take k) + room a b (l.drop k)) := by
  unfold room
  have h := room_from a b (l.drop k) ((l.take k).foldl (room1 a b) 0) 0
  rw [← h, Int.add_zero, room_wrap a b (l.take k) 0 (by unfold wrap64; omega), ← List.foldl_append, List.take_append_drop]

/-! ### api_Lease_61: function 61 -/
def api_Lease_61.l0 : Nat → List (S44) → Int → Int → Int → Int → Int → Int → Int → Int → Int → Bool → Option (Int)
  | 0, _, _, _, _, _, _, _, _, _, _, _ => none
  | k + 1, x0, x7, x8, x139000, x139001, x139002, x139003, x139004, x139005, x139006, x139007 => if x8 < x7 then (if 0 ≤ x8 then (if x8 < (x0.length : Int) then (if (x139000 == ((rd_T44 x0 x8).f0) && (x139001 == ((rd_T44 x0 x8).f1) && (x139002 == ((rd_T44 x0 x8).f2) && (x139003 == ((rd_T44 x0 x8).f3) && (x139004 == ((rd_T44 x0 x8).f4) && (x139005 == ((rd_T44 x0 x8).f5) && (x139006 == ((rd_T44 x0 x8).f6) && (x139007 == ((rd_T44 x0 x8).f7))))))))) = true then (some x8) else (api_Lease_61.l0 k x0 x7 (wrap64 (x8 + 1)) x139000 x139001 x139002 x139003 x139004 x139005 x139006 x139007)) else (none)) else (none)) else (some (-1))
def api_Lease_61.f (k : Nat) (l0 : List (S44)) (a1_0 : Int) (a1_1 : Int) (a1_2 : Int) (a1_3 : Int) (a1_4 : Int) (a1_5 : Int) (a1_6 : Int) (a1_7 : Bool) : Option (Int) := api_Lease_61.l0 k l0 (l0.length : Int) 0 a1_0 a1_1 a1_2 a1_3 a1_4 a1_5 a1_6 a1_7
theorem api_Lease_61.mono_l : ∀ k, (∀ y0 y1 y2 y3 y4 y5 y6 y7 y8 y9 y10, LeO (api_Lease_61.l0 k y0 y1 y2 y3 y4 y5 y6 y7 y8 y9 y10) (api_Lease_61.l0 (k + 1) y0 y1 y2 y3 y4 y5 y6 y7 y8 y9 y10))
  | 0 => fun _ _ _ _ _ _ _ _ _ _ _ r h => by simp [api_Lease_61.l0] at h
  | k + 1 => by
    have ih0 := api_Lease_61.mono_l k
    · intro y0 y1 y2 y3 y4 y5 y6 y7 y8 y9 y10
      unfold api_Lease_61.l0
      repeat' first
      | (with_reducible exact ih0 _ _ _ _ _ _ _ _ _ _ _)
      | (with_reducible exact LeO.refl _)
      | (with_reducible exact LeO.none _)
      | (with_reducible refine LeO.ite ?_ ?_)
      | (with_reducible refine LeO.bind ?_ (fun _ => ?_))
      | exact ih0 _ _ _ _ _ _ _ _ _ _ _
      | exact LeO.none _
      | refine LeO.ite ?_ ?_
      | refine LeO.bind ?_ (fun _ => ?_)
theorem api_Lease_61.mono : ∀ a0 a1 a2 a3 a4 a5 a6 a7 a8 k, LeO (api_Lease_61.f k a0 a1 a2 a3 a4 a5 a6 a7 a8) (api_Lease_61.f (k + 1) a0 a1 a2 a3 a4 a5 a6 a7 a8) := by
  intro a0 a1 a2 a3 a4 a5 a6 a7 a8 k
  have ih0 := api_Lease_61.mono_l k
  unfold api_Lease_61.f
  repeat' first
      | (with_reducible exact ih0 _ _ _ _ _ _ _ _ _ _ _)
      | (with_reducible exact LeO.refl _)
      | (with_reducible exact LeO.none _)
      | (with_reducible refine LeO.ite ?_ ?_)
      | (with_reducible refine LeO.bind ?_ (fun _ => ?_))
      | exact ih0 _ _ _ _ _ _ _ _ _ _ _
      | exact LeO.none _
      | refine LeO.ite ?_ ?_
      | refine LeO.bind ?_ (fun _ => ?_)
set_option maxHeartbeats 8000000 in
set_option maxRecDepth 100000 in
theorem api_Lease_61.calls (k : Nat) (A0 : Option Addr) (c0 : Nat) (l0 : List (S44)) (a1_0 : Int) (a1_1 : Int) (a1_2 : Int) (a1_3 : Int) (a1_4 : Int) (a1_5 : Int) (a1_6 : Int) (a1_7 : Bool) (r : Int) (w : World) (hr0 : Kd.C k44 w A0 l0.length l0) (hc0 : l0.length ≤ c0) (h : api_Lease_61.f k l0 a1_0 a1_1 a1_2 a1_3 a1_4 a1_5 a1_6 a1_7 = some r) :
    Calls Try.prog 61 #[.slice A0 l0.length c0, .agg #[.int .i64 a1_0, .int .i64 a1_1, .int .i64 a1_2, .int .i64 a1_3, .int .i64 a1_4, .int .i64 a1_5, .int .i64 a1_6, .bool a1_7]] w fun e w' => e = .returned (.int .i64 r) ∧ Below w.heap.size w w' := by
  have hu44 := Try.underlying44
  have HR0 := Aside0.mk hr0
  have HC0 := Aside0.mk hc0
  clear hr0 hc0
  have HB := Aside0.mk (Below.refl w.heap.size w)
  have H : (api_Lease_61.l0 k l0 (l0.length : Int) 0 a1_0 a1_1 a1_2 a1_3 a1_4 a1_5 a1_6 a1_7) = some r := h
  clear h
  have H' := Aside0.mk H
  clear H
  go_enter Try.func61, Try.ntmps61
  go_wp2_with (first | ((with_reducible refine gate_dst (N := 3) rfl ?_); refine box_event ?hg (N := 3) ?hd (cs := #[.int .i64 a1_0, .int .i64 a1_1, .int .i64 a1_2, .int .i64 a1_3, .int .i64 a1_4, .int .i64 a1_5, .int .i64 a1_6, .bool a1_7]) (t := 44) ?hr ?_; (case hd => rfl); (case hg => rfl); (case hr => first | (go_simp; done) | (go_simp; rfl)); intro gb138 hg w3 hbox hb; have n0_ := Aside0.mk (below_step (by repeat (first | (with_reducible first | exact HB.out | apply below_alloc | apply pw_below_drewN | apply below_drew1) | exact HB.out)) hb); have n1_ := Aside0.mk (hbox); have n2_ := Aside0.mk ((by rw [hg]; exact (below_size (by repeat (first | (with_reducible first | exact HB.out | apply below_alloc | apply pw_below_drewN | apply below_drew1) | exact HB.out))) : w.heap.size ≤ gb138)); have n3_ := Aside0.mk ((by rw [hg]; exact (below_size (by repeat (first | (with_reducible first | exact HB.out | apply below_alloc | apply pw_below_drewN | apply below_drew1) | exact HB.out))) : w.heap.size ≤ gb138)); clear HB; have HB := n0_; have BK138 := n1_; have GW138 := n2_; have GE138 := n3_; clear n0_ n1_ n2_ n3_; clear hb hbox hg))
  repeat (go_quiet (first | ((with_reducible refine gate_dst (N := 3) rfl ?_); refine box_event ?hg (N := 3) ?hd (cs := #[.int .i64 a1_0, .int .i64 a1_1, .int .i64 a1_2, .int .i64 a1_3, .int .i64 a1_4, .int .i64 a1_5, .int .i64 a1_6, .bool a1_7]) (t := 44) ?hr ?_; (case hd => rfl); (case hg => rfl); (case hr => first | (go_simp; done) | (go_simp; rfl)); intro gb138 hg w3 hbox hb; have n0_ := Aside0.mk (below_step (by repeat (first | (with_reducible first | exact HB.out | apply below_alloc | apply pw_below_drewN | apply below_drew1) | exact HB.out)) hb); have n1_ := Aside0.mk (hbox); have n2_ := Aside0.mk ((by rw [hg]; exact (below_size (by repeat (first | (with_reducible first | exact HB.out | apply below_alloc | apply pw_below_drewN | apply below_drew1) | exact HB.out))) : w.heap.size ≤ gb138)); have n3_ := Aside0.mk ((by rw [hg]; exact (below_size (by repeat (first | (with_reducible first | exact HB.out | apply below_alloc | apply pw_below_drewN | apply below_drew1) | exact HB.out))) : w.heap.size ≤ gb138)); clear HB; have HB := n0_; have BK138 := n1_; have GW138 := n2_; have GE138 := n3_; clear n0_ n1_ n2_ n3_; clear hb hbox hg)); try go_wp2_with (first | ((with_reducible refine gate_dst (N := 3) rfl ?_); refine box_event ?hg (N := 3) ?hd (cs := #[.int .i64 a1_0, .int .i64 a1_1, .int .i64 a1_2, .int .i64 a1_3, .int .i64 a1_4, .int .i64 a1_5, .int .i64 a1_6, .bool a1_7]) (t := 44) ?hr ?_; (case hd => rfl); (case hg => rfl); (case hr => first | (go_simp; done) | (go_simp; rfl)); intro gb138 hg w3 hbox hb; have n0_ := Aside0.mk (below_step (by repeat (first | (with_reducible first | exact HB.out | apply below_alloc | apply pw_below_drewN | apply below_drew1) | exact HB.out)) hb); have n1_ := Aside0.mk (hbox); have n2_ := Aside0.mk ((by rw [hg]; exact (below_size (by repeat (first | (with_reducible first | exact HB.out | apply below_alloc | apply pw_below_drewN | apply below_drew1) | exact HB.out))) : w.heap.size ≤ gb138)); have n3_ := Aside0.mk ((by rw [hg]; exact (below_size (by repeat (first | (with_reducible first | exact HB.out | apply below_alloc | apply pw_below_drewN | apply below_drew1) | exact HB.out))) : w.heap.size ≤ gb138)); clear HB; have HB := n0_; have BK138 := n1_; have GW138 := n2_; have GE138 := n3_; clear n0_ n1_ n2_ n3_; clear hb hbox hg)))
  go_loopg [8] k (fun kq v8 w' => ∃ (x8_1 : Int), v8 = .int .i64 x8_1 ∧ Aside0 (api_Lease_61.l0 kq l0 (l0.length : Int) x8_1 a1_0 a1_1 a1_2 a1_3 a1_4 a1_5 a1_6 a1_7 = some r) ∧ Aside0 (kq ≤ k) ∧ Aside0 (w'.heap[gb138]? = some (.cells #[.int .i64 a1_0, .int .i64 a1_1, .int .i64 a1_2, .int .i64 a1_3, .int .i64 a1_4, .int .i64 a1_5, .int .i64 a1_6, .bool a1_7] 44 (0, 0))) ∧ Aside0 (Below w.heap.size w w'))
  case atStart => exact ⟨(0), (by first | rfl | (simp; done) | (simp [*]; done)), H', ⟨Nat.le_refl _⟩, ⟨by (with_reducible repeat (first | refine blk_drewN ?_ _ | refine blk_drew ?_ | refine blk_alloc ?_ _)); exact BK138.out⟩, ⟨by repeat (first | (with_reducible first | exact HB.out | apply below_alloc | apply pw_below_drewN | apply below_drew1 | refine below_set ?_ GE138.out) | exact HB.out)⟩⟩
  case round =>
    clear H'
    try clear p2
    obtain ⟨x8_1, rfl, HA, HK1, BK138, HB⟩ := hrel
    cases gk with
    | zero => exact absurd HA.out (by simp [api_Lease_61.l0])
    | succ k1 =>
      have H := HA.out
      clear HA
      simp only [api_Lease_61.l0] at H
      by_cases c4 : x8_1 < (l0.length : Int)
      · rw [if_pos c4] at H
        have c4b0 : decide (x8_1 < (l0.length : Int)) = true := decide_eq_true c4
        clear c4
        by_cases c5 : 0 ≤ x8_1
        · rw [if_pos c5] at H
          have c5b0 : decide (0 ≤ x8_1) = true := decide_eq_true c5
          clear c5
          by_cases c6 : x8_1 < (l0.length : Int)
          · rw [if_pos c6] at H
            have c6b0 : decide (x8_1 < (l0.length : Int)) = true := decide_eq_true c6
            clear c6
            by_cases c7 : (a1_0 == ((rd_T44 l0 x8_1).f0) && (a1_1 == ((rd_T44 l0 x8_1).f1) && (a1_2 == ((rd_T44 l0 x8_1).f2) && (a1_3 == ((rd_T44 l0 x8_1).f3) && (a1_4 == ((rd_T44 l0 x8_1).f4) && (a1_5 == ((rd_T44 l0 x8_1).f5) && (a1_6 == ((rd_T44 l0 x8_1).f6) && (a1_7 == ((rd_T44 l0 x8_1).f7))))))))) = true
            · rw [if_pos c7] at H
              have c7b0 : (a1_0 == ((rd_T44 l0 x8_1).f0) && (a1_1 == ((rd_T44 l0 x8_1).f1) && (a1_2 == ((rd_T44 l0 x8_1).f2) && (a1_3 == ((rd_T44 l0 x8_1).f3) && (a1_4 == ((rd_T44 l0 x8_1).f4) && (a1_5 == ((rd_T44 l0 x8_1).f5) && (a1_6 == ((rd_T44 l0 x8_1).f6) && (a1_7 == ((rd_T44 l0 x8_1).f7))))))))) = true := c7
              (try (have c7b1 : decide (a1_0 = ((rd_T44 l0 x8_1).f0) && (a1_1 == ((rd_T44 l0 x8_1).f1) && (a1_2 == ((rd_T44 l0 x8_1).f2) && (a1_3 == ((rd_T44 l0 x8_1).f3) && (a1_4 == ((rd_T44 l0 x8_1).f4) && (a1_5 == ((rd_T44 l0 x8_1).f5) && (a1_6 == ((rd_T44 l0 x8_1).f6) && (a1_7 == ((rd_T44 l0 x8_1).f7))))))))) = true := by simpa using c7))
              (try (have c7b2 : (a1_0 == ((rd_T44 l0 x8_1).f0) && (a1_1 == ((rd_T44 l0 x8_1).f1) && (a1_2 == ((rd_T44 l0 x8_1).f2) && (a1_3 == ((rd_T44 l0 x8_1).f3) && (a1_4 == ((rd_T44 l0 x8_1).f4) && (a1_5 == ((rd_T44 l0 x8_1).f5) && (a1_6 == ((rd_T44 l0 x8_1).f6) && (a1_7 == ((rd_T44 l0 x8_1).f7))))))))) = true := by simpa using c7))
              clear c7
              obtain rfl := Option.some.inj H
              have hcz8_0 : wr.cell? ⟨gb138, 0, none⟩ = some (.int .i64 a1_0) := (blk_cell BK138.out 0).trans rfl
              have hcz8_1 : wr.cell? ⟨gb138, 1, none⟩ = some (.int .i64 a1_1) := (blk_cell BK138.out 1).trans rfl
              have hcz8_2 : wr.cell? ⟨gb138, 2, none⟩ = some (.int .i64 a1_2) := (blk_cell BK138.out 2).trans rfl
              have hcz8_3 : wr.cell? ⟨gb138, 3, none⟩ = some (.int .i64 a1_3) := (blk_cell BK138.out 3).trans rfl
              have hcz8_4 : wr.cell? ⟨gb138, 4, none⟩ = some (.int .i64 a1_4) := (blk_cell BK138.out 4).trans rfl
              have hcz8_5 : wr.cell? ⟨gb138, 5, none⟩ = some (.int .i64 a1_5) := (blk_cell BK138.out 5).trans rfl
              have hcz8_6 : wr.cell? ⟨gb138, 6, none⟩ = some (.int .i64 a1_6) := (blk_cell BK138.out 6).trans rfl
              have hcz8_7 : wr.cell? ⟨gb138, 7, none⟩ = some (.bool a1_7) := (blk_cell BK138.out 7).trans rfl
              have hfz8_0 := blk_frozen BK138.out 0
              have hfz8_1 := blk_frozen BK138.out 1
              have hfz8_2 := blk_frozen BK138.out 2
              have hfz8_3 := blk_frozen BK138.out 3
              have hfz8_4 := blk_frozen BK138.out 4
              have hfz8_5 := blk_frozen BK138.out 5
              have hfz8_6 := blk_frozen BK138.out 6
              have hfz8_7 := blk_frozen BK138.out 7
              have p139 : 0 ≤ (x8_1 : Int) := of_decide_eq_true (by first | (with_reducible assumption) | assumption)
              have q139 : x8_1 < (l0.length : Int) := of_decide_eq_true (by first | (with_reducible assumption) | assumption)
              obtain ⟨ad139, e139, hx139_0, hx139_1, hx139_2, hx139_3, hx139_4, hx139_5, hx139_6, hx139_7⟩ := at_T44 HR0.out x8_1 p139 q139
              cases e139
              replace hx139_0 := (HB.out.cell (World.block_lt_of_cell? w _ hx139_0)).trans hx139_0
              replace hx139_1 := (HB.out.cell (World.block_lt_of_cell? w _ hx139_1)).trans hx139_1
              replace hx139_2 := (HB.out.cell (World.block_lt_of_cell? w _ hx139_2)).trans hx139_2
              replace hx139_3 := (HB.out.cell (World.block_lt_of_cell? w _ hx139_3)).trans hx139_3
              replace hx139_4 := (HB.out.cell (World.block_lt_of_cell? w _ hx139_4)).trans hx139_4
              replace hx139_5 := (HB.out.cell (World.block_lt_of_cell? w _ hx139_5)).trans hx139_5
              replace hx139_6 := (HB.out.cell (World.block_lt_of_cell? w _ hx139_6)).trans hx139_6
              replace hx139_7 := (HB.out.cell (World.block_lt_of_cell? w _ hx139_7)).trans hx139_7
              replace p139 := eq_true p139
              replace q139 := eq_true q139
              go_wp2
              repeat (go_quiet (fail); try go_wp2)
              go_ret
              exact ⟨by first | rfl | (simp [errW_none, errW_some] <;> rfl) | (simp [*, errW_none, errW_some] <;> rfl), by repeat (first | (with_reducible first | exact HB.out | apply below_alloc | apply pw_below_drewN | apply below_drew1 | refine below_set ?_ GE138.out) | exact HB.out)⟩
            · rw [if_neg c7] at H
              have c7b0 : (a1_0 == ((rd_T44 l0 x8_1).f0) && (a1_1 == ((rd_T44 l0 x8_1).f1) && (a1_2 == ((rd_T44 l0 x8_1).f2) && (a1_3 == ((rd_T44 l0 x8_1).f3) && (a1_4 == ((rd_T44 l0 x8_1).f4) && (a1_5 == ((rd_T44 l0 x8_1).f5) && (a1_6 == ((rd_T44 l0 x8_1).f6) && (a1_7 == ((rd_T44 l0 x8_1).f7))))))))) = false := by simpa using c7
              (try (have c7b1 : decide (a1_0 = ((rd_T44 l0 x8_1).f0) && (a1_1 == ((rd_T44 l0 x8_1).f1) && (a1_2 == ((rd_T44 l0 x8_1).f2) && (a1_3 == ((rd_T44 l0 x8_1).f3) && (a1_4 == ((rd_T44 l0 x8_1).f4) && (a1_5 == ((rd_T44 l0 x8_1).f5) && (a1_6 == ((rd_T44 l0 x8_1).f6) && (a1_7 == ((rd_T44 l0 x8_1).f7))))))))) = false := by simpa using c7))
              (try (have c7b2 : (a1_0 == ((rd_T44 l0 x8_1).f0) && (a1_1 == ((rd_T44 l0 x8_1).f1) && (a1_2 == ((rd_T44 l0 x8_1).f2) && (a1_3 == ((rd_T44 l0 x8_1).f3) && (a1_4 == ((rd_T44 l0 x8_1).f4) && (a1_5 == ((rd_T44 l0 x8_1).f5) && (a1_6 == ((rd_T44 l0 x8_1).f6) && (a1_7 == ((rd_T44 l0 x8_1).f7))))))))) = false := by simpa using c7))
              (try (have c7b3 : ¬ (a1_0 = ((rd_T44 l0 x8_1).f0) && (a1_1 == ((rd_T44 l0 x8_1).f1) && (a1_2 == ((rd_T44 l0 x8_1).f2) && (a1_3 == ((rd_T44 l0 x8_1).f3) && (a1_4 == ((rd_T44 l0 x8_1).f4) && (a1_5 == ((rd_T44 l0 x8_1).f5) && (a1_6 == ((rd_T44 l0 x8_1).f6) && (a1_7 == ((rd_T44 l0 x8_1).f7))))))))) := by simpa using c7))
              clear c7
              have H' := Aside0.mk H
              clear H
              have hcz9_0 : wr.cell? ⟨gb138, 0, none⟩ = some (.int .i64 a1_0) := (blk_cell BK138.out 0).trans rfl
              have hcz9_1 : wr.cell? ⟨gb138, 1, none⟩ = some (.int .i64 a1_1) := (blk_cell BK138.out 1).trans rfl
              have hcz9_2 : wr.cell? ⟨gb138, 2, none⟩ = some (.int .i64 a1_2) := (blk_cell BK138.out 2).trans rfl
              have hcz9_3 : wr.cell? ⟨gb138, 3, none⟩ = some (.int .i64 a1_3) := (blk_cell BK138.out 3).trans rfl
              have hcz9_4 : wr.cell? ⟨gb138, 4, none⟩ = some (.int .i64 a1_4) := (blk_cell BK138.out 4).trans rfl
              have hcz9_5 : wr.cell? ⟨gb138, 5, none⟩ = some (.int .i64 a1_5) := (blk_cell BK138.out 5).trans rfl
              have hcz9_6 : wr.cell? ⟨gb138, 6, none⟩ = some (.int .i64 a1_6) := (blk_cell BK138.out 6).trans rfl
              have hcz9_7 : wr.cell? ⟨gb138, 7, none⟩ = some (.bool a1_7) := (blk_cell BK138.out 7).trans rfl
              have hfz9_0 := blk_frozen BK138.out 0
              have hfz9_1 := blk_frozen BK138.out 1
              have hfz9_2 := blk_frozen BK138.out 2
              have hfz9_3 := blk_frozen BK138.out 3
              have hfz9_4 := blk_frozen BK138.out 4
              have hfz9_5 := blk_frozen BK138.out 5
              have hfz9_6 := blk_frozen BK138.out 6
              have hfz9_7 := blk_frozen BK138.out 7
              have p139 : 0 ≤ (x8_1 : Int) := of_decide_eq_true (by first | (with_reducible assumption) | assumption)
              have q139 : x8_1 < (l0.length : Int) := of_decide_eq_true (by first | (with_reducible assumption) | assumption)
              obtain ⟨ad139, e139, hx139_0, hx139_1, hx139_2, hx139_3, hx139_4, hx139_5, hx139_6, hx139_7⟩ := at_T44 HR0.out x8_1 p139 q139
              cases e139
              replace hx139_0 := (HB.out.cell (World.block_lt_of_cell? w _ hx139_0)).trans hx139_0
              replace hx139_1 := (HB.out.cell (World.block_lt_of_cell? w _ hx139_1)).trans hx139_1
              replace hx139_2 := (HB.out.cell (World.block_lt_of_cell? w _ hx139_2)).trans hx139_2
              replace hx139_3 := (HB.out.cell (World.block_lt_of_cell? w _ hx139_3)).trans hx139_3
              replace hx139_4 := (HB.out.cell (World.block_lt_of_cell? w _ hx139_4)).trans hx139_4
              replace hx139_5 := (HB.out.cell (World.block_lt_of_cell? w _ hx139_5)).trans hx139_5
              replace hx139_6 := (HB.out.cell (World.block_lt_of_cell? w _ hx139_6)).trans hx139_6
              replace hx139_7 := (HB.out.cell (World.block_lt_of_cell? w _ hx139_7)).trans hx139_7
              replace p139 := eq_true p139
              replace q139 := eq_true q139
              go_wp2
              repeat (go_quiet (fail); try go_wp2)
              go_roundg k1
              case measure => have := HK1.out; omega
              case rel => exact ⟨(wrap64 (x8_1 + 1)), (by first | rfl | (simp; done) | (simp [*]; done)), H', ⟨by have := HK1.out; omega⟩, ⟨by (with_reducible repeat (first | refine blk_drewN ?_ _ | refine blk_drew ?_ | refine blk_alloc ?_ _)); exact BK138.out⟩, ⟨by repeat (first | (with_reducible first | exact HB.out | apply below_alloc | apply pw_below_drewN | apply below_drew1 | refine below_set ?_ GE138.out) | exact HB.out)⟩⟩
          · rw [if_neg c6] at H
            exact absurd H (by simp)
        · rw [if_neg c5] at H
          exact absurd H (by simp)
      · rw [if_neg c4] at H
        have c4b0 : decide (x8_1 < (l0.length : Int)) = false := decide_eq_false c4
        clear c4
        obtain rfl := Option.some.inj H
        go_wp2
        repeat (go_quiet (fail); try go_wp2)
        go_ret
        exact ⟨by first | rfl | (simp [errW_none, errW_some] <;> rfl) | (simp [*, errW_none, errW_some] <;> rfl), by repeat (first | (with_reducible first | exact HB.out | apply below_alloc | apply pw_below_drewN | apply below_drew1 | refine below_set ?_ GE138.out) | exact HB.out)⟩

-- NOT PRINTED: function 62 (api_Lease_62)

/-- A state of type 32 at block g of W; what its slices lead to came in by w0. -/
def IsS32 (w0 W : World) (g : Nat) (f0 : Int) (f1 : Int) (f2 : List (S44)) (f3 : List (S44)) : Prop := ∃ A2 c2, ∃ A3 c3, W.heap[g]? = some (.cells #[.int .i64 f0, .int .i64 f1, .slice A2 f2.length c2, .slice A3 f3.length c3] 32 (0, 0)) ∧ w0.heap.size ≤ g ∧ Kd.C k44 w0 A2 f2.length f2 ∧ Kd.C k44 w0 A3 f3.length f3
theorem IsS32.grown {w0 W : World} {g : Nat} {f0 : Int} {f1 : Int} {f2 : List (S44)} {f3 : List (S44)} {W1 : World} {row : Option Nat} (h : IsS32 w0 W g f0 f1 f2 f3) (hw : W.grownBy W1 row) (hne : some g ≠ row) : IsS32 w0 W1 g f0 f1 f2 f3 := by
  obtain ⟨A2, c2, A3, c3, hb, hg, hr2, hr3⟩ := h
  exact ⟨A2, c2, A3, c3, blk_grown hb hw hne, hg, hr2, hr3⟩
theorem IsS32.own_neN {w0 W : World} {g : Nat} {f0 : Int} {f1 : Int} {f2 : List (S44)} {f3 : List (S44)} {α : Type} {d : Kd α} {e : Nat} {base : Nat} {ok : Nat → Prop} {v : Value} {xs : List α} (h : IsS32 w0 W g f0 f1 f2 f3) (ho : Kd.N d e W base ok v xs) (ht : e ≠ 32) : some g ≠ v.ownBlock := by
  obtain ⟨A2, c2, A3, c3, hb, hg, hr2, hr3⟩ := h
  exact Kd.N_ne ho hb ht
theorem IsS32.fresh {w0 W : World} {g : Nat} {f0 : Int} {f1 : Int} {f2 : List (S44)} {f3 : List (S44)} (h : IsS32 w0 W g f0 f1 f2 f3) : ∀ k, W.heap.size ≤ k → k ≠ g := by
  obtain ⟨A2, c2, A3, c3, hb, hg, hr2, hr3⟩ := h
  exact Kd.freshB hb
theorem IsS32.kept {w0 W : World} {g : Nat} {f0 : Int} {f1 : Int} {f2 : List (S44)} {f3 : List (S44)} {W1 : World} {S : Nat → Prop} (h : IsS32 w0 W g f0 f1 f2 f3) (hk : Kept W W1 S) (hne : ¬ S g) : IsS32 w0 W1 g f0 f1 f2 f3 := by
  obtain ⟨A2, c2, A3, c3, hb, hg, hr2, hr3⟩ := h
  exact ⟨A2, c2, A3, c3, blk_kept hb hk hne, hg, hr2, hr3⟩
theorem IsS32.below {w0 W : World} {g : Nat} {f0 : Int} {f1 : Int} {f2 : List (S44)} {f3 : List (S44)} {W1 : World} (h : IsS32 w0 W g f0 f1 f2 f3) (hw : Below W.heap.size W W1) : IsS32 w0 W1 g f0 f1 f2 f3 := h.grown (grown_of_below hw none) (by simp)
theorem IsS32.alloc {w0 W : World} {g : Nat} {f0 : Int} {f1 : Int} {f2 : List (S44)} {f3 : List (S44)} (h : IsS32 w0 W g f0 f1 f2 f3) (o : Obj) : IsS32 w0 (W.alloc o) g f0 f1 f2 f3 := h.below (below_alloc (Below.refl _ _) o)
theorem IsS32.drewN {w0 W : World} {g : Nat} {f0 : Int} {f1 : Int} {f2 : List (S44)} {f3 : List (S44)} (h : IsS32 w0 W g f0 f1 f2 f3) (m : Nat) : IsS32 w0 (W.drewN m) g f0 f1 f2 f3 := h
theorem IsS32.drew {w0 W : World} {g : Nat} {f0 : Int} {f1 : Int} {f2 : List (S44)} {f3 : List (S44)} (h : IsS32 w0 W g f0 f1 f2 f3) : IsS32 w0 W.drew g f0 f1 f2 f3 := h
theorem IsS32.at_ {w0 W : World} {g : Nat} {f0 : Int} {f1 : Int} {f2 : List (S44)} {f3 : List (S44)} {w' : World} {m : Nat} (hq : W.drewN m = w') (h : IsS32 w0 W g f0 f1 f2 f3) : IsS32 w0 w' g f0 f1 f2 f3 := by subst hq; exact IsS32.drewN h m
theorem IsS32.apart {w0 W : World} {g : Nat} {f0 : Int} {f1 : Int} {f2 : List (S44)} {f3 : List (S44)} {α : Type} {d : Kd α} {e : Nat} {base : Nat} {ok : Nat → Prop} {v : Value} {xs : List α} (h : IsS32 w0 W g f0 f1 f2 f3) (ho : d.R e W base ok v xs) (ht : ∀ q, q ∈ e :: d.E → q ≠ 32) : d.R e W base (fun k => ok k ∧ k ≠ g) v xs := by
  obtain ⟨A2, c2, A3, c3, hb, hg, hr2, hr3⟩ := h
  exact Kd.R_types ho hb ht
theorem IsS32.own_ne {w0 W : World} {g : Nat} {f0 : Int} {f1 : Int} {f2 : List (S44)} {f3 : List (S44)} {α : Type} {d : Kd α} {e : Nat} {base : Nat} {ok : Nat → Prop} {v : Value} {xs : List α} (h : IsS32 w0 W g f0 f1 f2 f3) (ho : d.R e W base ok v xs) (ht : e ≠ 32) : some g ≠ v.ownBlock := by
  obtain ⟨A2, c2, A3, c3, hb, hg, hr2, hr3⟩ := h
  exact Kd.R_ne ho hb ht
theorem IsS32.apartQ {w0 W : World} {g : Nat} {f0 : Int} {f1 : Int} {f2 : List (S44)} {f3 : List (S44)} {α : Type} {d : Kd α} {e : Nat} {base : Nat} {ok : Nat → Prop} {v : Value} {xs : List α} (h : IsS32 w0 W g f0 f1 f2 f3) (ho : d.Q e W base ok v xs) (ht : ∀ q, q ∈ e :: d.E → q ≠ 32) : d.Q e W base (fun k => ok k ∧ k ≠ g) v xs := by
  obtain ⟨A2, c2, A3, c3, hb, hg, hr2, hr3⟩ := h
  exact Kd.Q_types ho hb ht
theorem IsS32.own_neQ {w0 W : World} {g : Nat} {f0 : Int} {f1 : Int} {f2 : List (S44)} {f3 : List (S44)} {α : Type} {d : Kd α} {e : Nat} {base : Nat} {ok : Nat → Prop} {v : Value} {xs : List α} (h : IsS32 w0 W g f0 f1 f2 f3) (ho : d.Q e W base ok v xs) (ht : e ≠ 32) : some g ≠ v.ownBlock := by
  obtain ⟨A2, c2, A3, c3, hb, hg, hr2, hr3⟩ := h
  exact Kd.Q_ne ho hb ht
theorem IsS32.apartS {w0 W : World} {g : Nat} {f0 : Int} {f1 : Int} {f2 : List (S44)} {f3 : List (S44)} {α : Type} {d : Kd α} {e : Nat} {base : Nat} {ok : Nat → Prop} {v : Value} {xs : List α} (h : IsS32 w0 W g f0 f1 f2 f3) (ho : d.S e W base ok v xs) (ht : ∀ q, q ∈ e :: d.E → q ≠ 32) : d.S e W base (fun k => ok k ∧ k ≠ g) v xs := by
  obtain ⟨A2, c2, A3, c3, hb, hg, hr2, hr3⟩ := h
  exact Kd.S_types ho hb ht
theorem IsS32.own_neS {w0 W : World} {g : Nat} {f0 : Int} {f1 : Int} {f2 : List (S44)} {f3 : List (S44)} {α : Type} {d : Kd α} {e : Nat} {base : Nat} {ok : Nat → Prop} {v : Value} {xs : List α} (h : IsS32 w0 W g f0 f1 f2 f3) (ho : d.S e W base ok v xs) (ht : e ≠ 32) : some g ≠ v.ownBlock := by
  obtain ⟨A2, c2, A3, c3, hb, hg, hr2, hr3⟩ := h
  exact Kd.S_ne ho hb ht
theorem IsS32.lt {w0 W : World} {g : Nat} {f0 : Int} {f1 : Int} {f2 : List (S44)} {f3 : List (S44)} (h : IsS32 w0 W g f0 f1 f2 f3) : g < W.heap.size := by
  obtain ⟨A2, c2, A3, c3, hb, hg, hr2, hr3⟩ := h
  exact blk_lt hb
theorem IsS32.ge {w0 W : World} {g : Nat} {f0 : Int} {f1 : Int} {f2 : List (S44)} {f3 : List (S44)} (h : IsS32 w0 W g f0 f1 f2 f3) : w0.heap.size ≤ g := by
  obtain ⟨A2, c2, A3, c3, hb, hg, hr2, hr3⟩ := h
  exact hg
theorem IsS32.ne_blk {w0 W : World} {g : Nat} {f0 : Int} {f1 : Int} {f2 : List (S44)} {f3 : List (S44)} {a : Nat} {cs : Array Value} {t : TypeId} {fr : Nat × Nat} (h : IsS32 w0 W g f0 f1 f2 f3) (hb2 : W.heap[a]? = some (.cells cs t fr)) (ht : t ≠ 32) : g ≠ a := by
  obtain ⟨A2, c2, A3, c3, hb, hg, hr2, hr3⟩ := h
  rintro rfl
  rw [hb] at hb2
  injection hb2 with hb2
  injection hb2 with _ ht2
  exact ht ht2.symm
theorem IsS32.far {w0 W : World} {g : Nat} {f0 : Int} {f1 : Int} {f2 : List (S44)} {f3 : List (S44)} {p : Addr} (h : IsS32 w0 W g f0 f1 f2 f3) (hne : g ≠ p.block) (u : Value) : IsS32 w0 (W.setCell p u) g f0 f1 f2 f3 := by
  obtain ⟨A2, c2, A3, c3, hb, hg, hr2, hr3⟩ := h
  exact ⟨A2, c2, A3, c3, blk_far hb hne u, hg, hr2, hr3⟩
theorem cellS32_0 {W : World} {g : Nat} {A2 : Option Addr} {c2 : Nat} {A3 : Option Addr} {c3 : Nat} {f0 : Int} {f1 : Int} {f2 : List (S44)} {f3 : List (S44)} (h : W.heap[g]? = some (.cells #[.int .i64 f0, .int .i64 f1, .slice A2 f2.length c2, .slice A3 f3.length c3] 32 (0, 0))) : W.cell? ⟨g, 0, none⟩ = some (.int .i64 f0) := (blk_cell h 0).trans rfl
theorem IsS32.set_0 {w0 W : World} {g : Nat} {f0 : Int} {f1 : Int} {f2 : List (S44)} {f3 : List (S44)} (h : IsS32 w0 W g f0 f1 f2 f3) (x : Int) : IsS32 w0 (W.setCell ⟨g, 0, none⟩ (.int .i64 x)) g x f1 f2 f3 := by
  obtain ⟨A2, c2, A3, c3, hb, hg, hr2, hr3⟩ := h
  exact ⟨A2, c2, A3, c3, by simpa using blk_set hb 0 (.int .i64 x), hg, hr2, hr3⟩
theorem cellS32_1 {W : World} {g : Nat} {A2 : Option Addr} {c2 : Nat} {A3 : Option Addr} {c3 : Nat} {f0 : Int} {f1 : Int} {f2 : List (S44)} {f3 : List (S44)} (h : W.heap[g]? = some (.cells #[.int .i64 f0, .int .i64 f1, .slice A2 f2.length c2, .slice A3 f3.length c3] 32 (0, 0))) : W.cell? ⟨g, 1, none⟩ = some (.int .i64 f1) := (blk_cell h 1).trans rfl
theorem IsS32.set_1 {w0 W : World} {g : Nat} {f0 : Int} {f1 : Int} {f2 : List (S44)} {f3 : List (S44)} (h : IsS32 w0 W g f0 f1 f2 f3) (x : Int) : IsS32 w0 (W.setCell ⟨g, 1, none⟩ (.int .i64 x)) g f0 x f2 f3 := by
  obtain ⟨A2, c2, A3, c3, hb, hg, hr2, hr3⟩ := h
  exact ⟨A2, c2, A3, c3, by simpa using blk_set hb 1 (.int .i64 x), hg, hr2, hr3⟩
theorem cellS32_2 {W : World} {g : Nat} {A2 : Option Addr} {c2 : Nat} {A3 : Option Addr} {c3 : Nat} {f0 : Int} {f1 : Int} {f2 : List (S44)} {f3 : List (S44)} (h : W.heap[g]? = some (.cells #[.int .i64 f0, .int .i64 f1, .slice A2 f2.length c2, .slice A3 f3.length c3] 32 (0, 0))) : W.cell? ⟨g, 2, none⟩ = some (.slice A2 f2.length c2) := (blk_cell h 2).trans rfl
theorem cellS32_3 {W : World} {g : Nat} {A2 : Option Addr} {c2 : Nat} {A3 : Option Addr} {c3 : Nat} {f0 : Int} {f1 : Int} {f2 : List (S44)} {f3 : List (S44)} (h : W.heap[g]? = some (.cells #[.int .i64 f0, .int .i64 f1, .slice A2 f2.length c2, .slice A3 f3.length c3] 32 (0, 0))) : W.cell? ⟨g, 3, none⟩ = some (.slice A3 f3.length c3) := (blk_cell h 3).trans rfl
theorem IsS32.new (w0 W : World) (A2 : Option Addr) (c2 : Nat) (A3 : Option Addr) (c3 : Nat) (f0 : Int) (f1 : Int) (f2 : List (S44)) (f3 : List (S44)) (hB : Below w0.heap.size w0 W) (hr2 : Kd.C k44 w0 A2 f2.length f2) (hr3 : Kd.C k44 w0 A3 f3.length f3) : IsS32 w0 (W.alloc (.cells #[.int .i64 f0, .int .i64 f1, .slice A2 f2.length c2, .slice A3 f3.length c3] 32)) W.heap.size f0 f1 f2 f3 := ⟨A2, c2, A3, c3, by simpa using heap_alloc_new W _, hB.size, hr2, hr3⟩

/-! ### ending_Fetch: function 25 -/
/-- 'clear(s)' of one element of several cells. -/
theorem run_clear_one {P : Program} (w : World) (t e ty : TypeId) (z : Value) (zs : List Value) (ht : P.underlying t = some (.slice e)) (hv : ∀ w, (zeroValue e).run P w = .ok z w) (hz : z.cells.toList = zs) (hl : 0 < zs.length) (h1 : ∀ u ∈ zs, u.oneCell' = true) (b o c : Nat)
    (hc : ∀ j, j < zs.length → (w.cell? ⟨b, o + j, none⟩).isSome = true) (hf : ∀ j, j < zs.length → w.frozen? ⟨b, o + j, none⟩ = false) :
    (Builtin.clear_ #[t] ty #[.slice (some ⟨b, o, none⟩) 1 c]).run P w = .ok (.tuple #[]) (w.setCells b o zs) := by
  have hs : z.cells.size = zs.length := by rw [← hz, Array.length_toList]
  have hzc : (Builtin.zeroCells z.cells 1).toList = zs := by
    rw [← hz]
    apply List.ext_getElem
    · simp [Builtin.zeroCells]
    · intro i h1 h2
      simp [Builtin.zeroCells] at h1 ⊢
      have hi : i % z.cells.size = i := Nat.mod_eq_of_lt h1
      simp [hi, getElem!_pos z.cells i (by omega)]
  have hst := run_storeCells_cells (P := P) b o zs 0 w (by simpa using hc) (by simpa using hf) h1
  simp only [Nat.add_zero] at hst
  simp [Builtin.clear_, run_underlying ht, hv, hzc, hst]
set_option maxHeartbeats 4000000 in
set_option maxRecDepth 100000 in
theorem lease_delete (g n cap i m q : Nat) (ii jj : Int) (cur : Array Value) (w : World) (hg : w.heap[g]? = some (.cells cur 44 (0, 0))) (hs : cur.size = cap * 8) (h1 : ∀ u ∈ cur.toList.take (n * 8), u.oneCell' = true) (hnm : n = i + (1 + m)) (hq : i + m = q) (hii : ii = (i : Int)) (hjj : jj = (i : Int) + 1) (hn : n ≤ cap) (hm : cap ≤ maxLen) :
    Calls Try.prog 62 #[.slice (some ⟨g, 0, none⟩) n cap, .int .i64 ii, .int .i64 jj] w fun e w' => e = .returned (.slice (some ⟨g, 0, none⟩) q cap) ∧ ∃ cur', w'.heap[g]? = some (.cells cur' 44 (0, 0)) ∧ cur'.size = cur.size ∧ cur'.toList.take (q * 8) = cur.toList.take (i * 8) ++ (cur.toList.take (n * 8)).drop ((i + 1) * 8) ∧ w.grownBy w' (some g) := by
  obtain ⟨i0, hi0, hzz, hsz, hby⟩ := info_parts info44
  obtain ⟨news, hnews⟩ : ∃ news, news = (cur.toList.take (n * 8)).drop ((i + 1) * 8) := ⟨_, rfl⟩
  have hll : cur.toList.length = cap * 8 := by rw [Array.length_toList, hs]
  have hlen : news.length = m * 8 := by rw [hnews, List.length_drop, List.length_take]; omega
  have hget : ∀ t u, news[t]? = some u → w.drew.cell? ⟨g, (i + 1) * 8 + t, none⟩ = some u := by
    intro t u hu
    rw [hnews, List.getElem?_drop] at hu
    have := (List.getElem?_eq_some_iff.1 hu).1
    rw [List.length_take] at this
    rw [List.getElem?_take_of_lt (by omega), Array.getElem?_toList] at hu
    have hc := blk_cell hg ((i + 1) * 8 + t)
    exact hc.trans hu
  obtain ⟨A, hA, hsrc⟩ : ∃ A : Addr, (if cap = jj.toNat then (some ⟨g, 0, none⟩ : Option Addr) else (some (⟨g, 0, none⟩ : Addr)).map (·.add (jj.toNat * 8))) = some A ∧ Hid (∀ t u, news[t]? = some u → w.drew.cell? (A.add t) = some u) := by
    by_cases h : cap = jj.toNat
    · refine ⟨⟨g, 0, none⟩, by rw [if_pos h], fun t u hu => ?_⟩
      have h0 : news.length = 0 := by rw [hlen]; omega
      rw [List.length_eq_zero_iff.1 h0] at hu
      simp at hu
    · refine ⟨⟨g, (i + 1) * 8, none⟩, by rw [if_neg h, show jj.toNat = i + 1 by omega]; simp [Addr.add], fun t u hu => ?_⟩
      rw [Addr.add_lit]
      exact hget t u hu
  have k1 := cut_to (P := Try.prog) 26 44 .i64 Try.underlying26 hi0 (some ⟨g, 0, none⟩) n cap ii (by omega) (by omega) hn
  have k2 := cut_from (P := Try.prog) 26 44 .i64 Try.underlying26 hi0 8 hsz (some ⟨g, 0, none⟩) n cap jj (by omega) (by omega)
  rw [hA, show n - jj.toNat = m by omega] at k2
  rw [show ii.toNat = i by omega] at k1
  obtain ⟨c2, hc2⟩ : ∃ c2, c2 = cap - jj.toNat := ⟨_, rfl⟩
  rw [← hc2] at k2
  have s1 : Hid (news.length = m * 8) := hlen
  have s2 : Hid (∀ u ∈ news, u.oneCell' = true) := by
    intro u hu
    rw [hnews] at hu
    exact h1 u (List.mem_of_mem_drop hu)
  have s3 : Hid (∀ t, t < news.length → (w.drew.cell? ⟨g, 0 + i * 8 + t, none⟩).isSome = true ∧ w.drew.frozen? ⟨g, 0 + i * 8 + t, none⟩ = false) := by
    intro t ht
    rw [hlen] at ht
    have hc := blk_cell hg (0 + i * 8 + t)
    have hf := blk_frozen hg (0 + i * 8 + t)
    refine ⟨?_, hf⟩
    show (w.cell? _).isSome = true
    rw [hc, Array.getElem?_eq_getElem (by omega)]
    rfl
  obtain ⟨W1, hW1⟩ : ∃ W1, W1 = w.drew.setCells g (0 + i * 8) news := ⟨_, rfl⟩
  obtain ⟨cur1, hg1, hs1, hl1⟩ := setCells_row news (0 + i * 8) w.drew cur hg (by rw [hlen]; omega)
  rw [← hW1] at hg1
  obtain ⟨zs, hzs⟩ : ∃ zs : List Value, zs = [.int .i64 0, .int .i64 0, .int .i64 0, .int .i64 0, .int .i64 0, .int .i64 0, .int .i64 0, .bool false] := ⟨_, rfl⟩
  have hz8 : zs.length = 8 := by rw [hzs]; rfl
  have k3 : ∀ W : World, (Instr.slice 26 (.slice (some ⟨g, 0, none⟩) q cap) (some (.int .i64 (q : Int))) (some (.int .i64 (n : Int))) none).run Try.prog W = .ok (.slice (some ⟨g, q * 8, none⟩) 1 (cap - q)) W := by
    intro W
    have hel : Try.prog.elem 26 = 44 := by simp [Program.elem, Try.underlying26]
    have hu : Try.prog.underlying 26 = some (.slice (Try.prog.elem 26)) := by rw [hel]; exact Try.underlying26
    rw [run_slice_lh W 26 (some ⟨g, 0, none⟩) q cap hu .i64 .i64 (q : Int) (n : Int) (by omega) (by omega) (by omega), hel]
    have e1 : n - q = 1 := by omega
    have e2 : ¬ cap = q := by omega
    have e3 : ((q : Nat) : Int).toNat = q := by omega
    have e4 : (n : Int).toNat = n := by omega
    simp only [e3, e4]
    simp [sizeOf, typeInfo, hi0, hsz, sliced, Result.andThen, e1, e2, Addr.add]
    intro h; omega
  have hcl : ∀ ty, (Builtin.clear_ #[26] ty #[.slice (some ⟨g, q * 8, none⟩) 1 (cap - q)]).run Try.prog W1 = .ok (.tuple #[]) (W1.setCells g (q * 8) zs) := fun ty =>
    run_clear_one W1 _ 44 ty (.agg #[(.int .i64 0), (.int .i64 0), (.int .i64 0), (.int .i64 0), (.int .i64 0), (.int .i64 0), (.int .i64 0), (.bool false)]) zs Try.underlying26 (fun w => by simp [zeroValue, hi0, hzz, typeInfo, go_sem]) (by rw [hzs]; rfl) (by omega) (by intro u hu; rw [hzs] at hu; simp at hu; rcases hu with rfl | rfl <;> rfl) g (q * 8) (cap - q) (fun j hj => by
      have hc := blk_cell hg1 (q * 8 + j)
      rw [hc, Array.getElem?_eq_getElem (by omega)]; rfl) (fun j hj => blk_frozen hg1 _)
  have X : Aside0 (W1 = w.drew.setCells g (0 + i * 8) news) := ⟨hW1⟩
  have hW : Hid (W1 = w.drew.setCells g (0 + i * 8) news) := hW1
  have HS1 := Aside0.mk hg1
  have HG := Aside0.mk hg
  have hne : ¬ ii = jj := by omega
  have HNM := Aside0.mk hnm; have HQ := Aside0.mk hq; have HN := Aside0.mk hnews; have HC2 := Aside0.mk hc2; have HII := Aside0.mk hii; have HJJ := Aside0.mk hjj; have HLL := Aside0.mk hlen; have HS := Aside0.mk hs; have HS2 := Aside0.mk hs1; have HL1 := Aside0.mk hl1; have HZS := Aside0.mk hzs; have HZ8 := Aside0.mk hz8; have HLC := Aside0.mk hll
  have b0 : 0 ≤ ii := by omega
  have b1 : ii ≤ (n : Int) := by omega
  have b2 : 0 ≤ jj := by omega
  have b3 : jj ≤ (n : Int) := by omega
  have b4 : ii ≤ jj := by omega
  have b5 : (n : Int) ≤ (cap : Int) := by omega
  have hroom : Hid (i + m ≤ cap) := by show i + m ≤ cap; omega
  have hqe : Hid (i + m = q) := hq
  clear hW1 hg1 hg hget hnews hnm hq hc2 hii hjj hlen hs hs1 hl1 hzs hz8 hll hA
  go_enter Try.func62, Try.ntmps62
  go_wp2_with fail
  go_region_law (refine step_append_room rfl (.tmp 22) (.tmp 25) 26 rfl 44 i0 8 Try.underlying26 hi0 hsz g 0 i cap (by simp [Act.eval, Act.put]) A m c2 news (by simp [Act.eval, Act.put]) s1.out hsrc.out s2.out hroom.out s3.out ?_; rw [← hW.out, hqe.out])
  go_wp2
  go_ret
  have hlen := HLL.out; have hq := HQ.out; have hz8 := HZ8.out; have hs := HS.out; have hs1 := HS2.out; have hnm := HNM.out; have hll := HLC.out
  obtain ⟨cur2, hg2, hs2, hl2⟩ := setCells_row zs (q * 8) W1 cur1 HS1.out (by omega)
  refine ⟨rfl, cur2, hg2, hs2.trans hs1, ?_, ?_⟩
  · have hl1 := HL1.out
    have h1l : (cur1.toList.take (q * 8)).length = q * 8 := by rw [List.length_take, Array.length_toList]; omega
    rw [hl2, List.append_assoc, List.take_append_of_le_length (by omega), List.take_take, Nat.min_self, hl1, Nat.zero_add, List.take_append_of_le_length (by rw [List.length_append, List.length_take]; omega), List.take_of_length_le (by rw [List.length_append, List.length_take]; omega), HN.out]
  · have a1 := setCells_same g news (0 + i * 8) w.drew
    have a2 := setCells_same g zs (q * 8) W1
    rw [← X.out] at a1
    refine ⟨a2.1.trans a1.1, a2.2.1.trans a1.2.1, a2.2.2.1.trans a1.2.2.1, ?_, fun k hk hne => ?_⟩
    · rw [a2.2.2.2, a1.2.2.2]; exact Nat.le_refl _
    · have hkg : k ≠ g := fun e => hne (by rw [e])
      rw [setCells_far zs (q * 8) k hkg, X.out, setCells_far news (0 + i * 8) k hkg]; rfl
theorem lease_R_open {w : World} {base n c : Nat} {ok : Nat → Prop} {A : Option Addr} {xs : List S44} (h : Kd.R k44 44 w base ok (.slice A n c) xs) (hn : 0 < n) :
    ∃ g cur, A = some ⟨g, 0, none⟩ ∧ w.heap[g]? = some (.cells cur 44 (0, 0)) ∧ n ≤ c ∧ c ≤ maxLen ∧ cur.size = c * 8 ∧ xs.length = n ∧ (∀ u ∈ cur.toList.take (n * 8), u.oneCell' = true) := by
  obtain ⟨h0, inner, ⟨hl, ho⟩, hr⟩ := h
  rcases ho with ⟨he, hz⟩ | ⟨g, cap, cur, he, hb, hh, h1, h2, h3, h4⟩
  · injection he; omega
  · injection he with e1 e2 e3
    subst e1 e2 e3
    refine ⟨g, cur, rfl, hh, h1, h2, h3, rfl, fun u hu => ?_⟩
    have h4' : cur.toList.take (xs.length * 8) = inner := h4
    rw [h4'] at hu
    obtain ⟨j, hj, rfl⟩ := List.mem_iff_getElem.1 hu
    have hl' : inner.length = xs.length * 8 := hl
    have hx : j / 8 < xs.length := by omega
    have hm := hr.2 (j / 8) _ (List.getElem?_eq_getElem hx)
    have hk := k44_open (Kd.K_of_M _ hm)
    have hmem : inner[j] ∈ (inner.drop (j / 8 * 8)).take 8 := by
      rw [List.mem_iff_getElem]
      refine ⟨j % 8, by rw [List.length_take, List.length_drop]; omega, ?_⟩
      rw [List.getElem_take, List.getElem_drop]
      congr 1
      omega
    have hk' : (inner.drop (j / 8 * 8)).take 8 = _ := hk
    rw [hk'] at hmem
    simp only [List.mem_cons, List.not_mem_nil, or_false] at hmem
    rcases hmem with h | h | h | h | h | h | h | h <;> rw [h] <;> rfl
theorem lease_R_deleted {w w' : World} {base g n c i m q : Nat} {ok : Nat → Prop} {xs : List S44} {cur cur' : Array Value} (h : Kd.R k44 44 w base ok (.slice (some ⟨g, 0, none⟩) n c) xs) (hn : 0 < n) (hg : w.heap[g]? = some (.cells cur 44 (0, 0)))
    (hg' : w'.heap[g]? = some (.cells cur' 44 (0, 0))) (hs : cur'.size = cur.size) (hnm : n = i + (1 + m)) (hq : i + m = q) (ht : cur'.toList.take (q * 8) = cur.toList.take (i * 8) ++ (cur.toList.take (n * 8)).drop ((i + 1) * 8)) :
    Kd.R k44 44 w' base ok (.slice (some ⟨g, 0, none⟩) q c) (xs.take i ++ xs.drop (i + 1)) := by
  obtain ⟨h0, inner, ⟨hl, ho⟩, hr⟩ := h
  rcases ho with ⟨he, hz⟩ | ⟨g', cap, cur0, he, hb, hh, h1, h2, h3, h4⟩
  · injection he; omega
  · injection he with e1 e2 e3
    injection e1 with e1
    injection e1 with e1
    subst e1 e3
    rw [hg] at hh
    injection hh with hh
    injection hh with hh
    subst hh
    have h4' : cur.toList.take (xs.length * 8) = inner := h4
    have hl' : inner.length = xs.length * 8 := hl
    have h3' : cur.size = c * 8 := h3
    rw [← e2] at h4' hl'
    have hlq : (xs.take i ++ xs.drop (i + 1)).length = q := by rw [List.length_append, List.length_take, List.length_drop]; omega
    rw [h4'] at ht
    have hti : cur.toList.take (i * 8) = inner.take (i * 8) := by rw [← h4', List.take_take, Nat.min_eq_left (by omega)]
    rw [hti] at ht
    refine ⟨h0, inner.take (i * 8) ++ inner.drop ((i + 1) * 8), ⟨?_, .inr ⟨g, c, cur', ?_, hb, hg', ?_, h2, ?_, ?_⟩⟩, ?_, ?_⟩
    · show _ = (xs.take i ++ xs.drop (i + 1)).length * 8
      rw [hlq, List.length_append, List.length_take, List.length_drop]; omega
    · rw [hlq]
    · rw [hlq]; omega
    · show cur'.size = c * 8
      rw [hs, h3']
    · show cur'.toList.take ((xs.take i ++ xs.drop (i + 1)).length * 8) = _
      rw [hlq]; exact ht
    · show _ = (xs.take i ++ xs.drop (i + 1)).length * 8
      rw [hlq, List.length_append, List.length_take, List.length_drop]; omega
    · intro j p hp
      have key : ∃ j', xs[j']? = some p ∧ ((inner.take (i * 8) ++ inner.drop ((i + 1) * 8)).drop (j * 8)).take 8 = (inner.drop (j' * 8)).take 8 := by
        have hi : (xs.take i).length = i := by rw [List.length_take]; omega
        have hi2 : (inner.take (i * 8)).length = i * 8 := by rw [List.length_take]; omega
        rcases Nat.lt_or_ge j i with hj | hj
        · refine ⟨j, ?_, ?_⟩
          · rw [List.getElem?_append_left (by omega), List.getElem?_take_of_lt hj] at hp; exact hp
          · rw [List.drop_append_of_le_length (by omega), List.take_append_of_le_length (by rw [List.length_drop]; omega), List.drop_take, List.take_take, Nat.min_eq_left (by omega)]
        · refine ⟨j + 1, ?_, ?_⟩
          · rw [List.getElem?_append_right (by omega), List.getElem?_drop, hi, show i + 1 + (j - i) = j + 1 by omega] at hp; exact hp
          · rw [List.drop_append, hi2, List.drop_eq_nil_of_le (by omega), List.nil_append, List.drop_drop, show (i + 1) * 8 + (j * 8 - i * 8) = (j + 1) * 8 by omega]
      obtain ⟨j', hp', hc⟩ := key
      have hm := hr.2 j' p hp'
      have hk := k44_open (Kd.K_of_M _ hm)
      show k44.M w' base _ p (((inner.take (i * 8) ++ inner.drop ((i + 1) * 8)).drop (j * 8)).take 8)
      rw [hc]
      have hk' : (inner.drop (j' * 8)).take 8 = _ := hk
      rw [hk']
      exact k44_mkM _ _ _ _
/-- is it this lease? -/
def leaseIs (a0 a1 a2 a3 a4 a5 a6 : Int) (a7 : Bool) (x : S44) : Bool := a0 == x.f0 && (a1 == x.f1 && (a2 == x.f2 && (a3 == x.f3 && (a4 == x.f4 && (a5 == x.f5 && (a6 == x.f6 && a7 == x.f7))))))
def ending_Fetch.f (a0_0 a0_1 : Int) (l0_2 l0_3 : List S44) (a1_0 a1_1 a1_2 a1_3 a1_4 a1_5 a1_6 : Int) (a1_7 : Bool) : Option (Int × Int × List S44 × List S44 × Bool) :=
  if l0_2.length < 2199023255552 ∧ l0_3.length < 2199023255552 then
    (if l0_2.findIdx (leaseIs a1_0 a1_1 a1_2 a1_3 a1_4 a1_5 a1_6 a1_7) < l0_2.length then
      some (a0_0, a0_1, l0_2.take (l0_2.findIdx (leaseIs a1_0 a1_1 a1_2 a1_3 a1_4 a1_5 a1_6 a1_7)) ++ l0_2.drop (l0_2.findIdx (leaseIs a1_0 a1_1 a1_2 a1_3 a1_4 a1_5 a1_6 a1_7) + 1), l0_3, true)
    else some (a0_0, a0_1, l0_2, l0_3, false))
  else none
theorem lease_index (a1_0 a1_1 a1_2 a1_3 a1_4 a1_5 a1_6 : Int) (a1_7 : Bool) (l : List S44) (hl : l.length < 2199023255552) : ∀ (t : List S44) (i : Nat), l.drop i = t → i ≤ l.length → ∃ k, api_Lease_61.l0 k l (l.length : Int) (i : Int) a1_0 a1_1 a1_2 a1_3 a1_4 a1_5 a1_6 a1_7 = some (if t.findIdx (leaseIs a1_0 a1_1 a1_2 a1_3 a1_4 a1_5 a1_6 a1_7) < t.length then ((i + t.findIdx (leaseIs a1_0 a1_1 a1_2 a1_3 a1_4 a1_5 a1_6 a1_7) : Nat) : Int) else -1)
  | [], i, hd, hi => by
    have hll : l.length = i := by have := congrArg List.length hd; rw [List.length_drop] at this; simp at this; omega
    refine ⟨1, ?_⟩
    rw [api_Lease_61.l0, if_neg (by omega), if_neg (by simp)]
  | x :: t, i, hd, hi => by
    have hll : l.length = i + (t.length + 1) := by have := congrArg List.length hd; rw [List.length_drop] at this; simp at this; omega
    have hr : rd_T44 l (i : Int) = x := by
      have h0 : (l.drop i)[0]? = some x := by rw [hd]; rfl
      rw [List.getElem?_drop] at h0
      unfold rd_T44
      rw [List.getD_eq_getElem?_getD, show ((i : Int)).toNat = i + 0 by omega, h0]; rfl
    have hdn : l.drop (i + 1) = t := by rw [← List.drop_drop, hd]; rfl
    obtain ⟨k, hk⟩ := lease_index a1_0 a1_1 a1_2 a1_3 a1_4 a1_5 a1_6 a1_7 l hl t (i + 1) hdn (by omega)
    refine ⟨k + 1, ?_⟩
    rw [api_Lease_61.l0, if_pos (by omega), if_pos (by omega), if_pos (by omega), hr]
    have hw : wrap64 ((i : Int) + 1) = ((i + 1 : Nat) : Int) := by unfold wrap64; omega
    rw [hw, hk]
    by_cases hx : leaseIs a1_0 a1_1 a1_2 a1_3 a1_4 a1_5 a1_6 a1_7 x = true
    · rw [show (a1_0 == x.f0 && (a1_1 == x.f1 && (a1_2 == x.f2 && (a1_3 == x.f3 && (a1_4 == x.f4 && (a1_5 == x.f5 && (a1_6 == x.f6 && (a1_7 == x.f7)))))))) = true from hx, if_pos rfl, List.findIdx_cons, hx]
      simp
    · have hx' : leaseIs a1_0 a1_1 a1_2 a1_3 a1_4 a1_5 a1_6 a1_7 x = false := by simpa using hx
      rw [show (a1_0 == x.f0 && (a1_1 == x.f1 && (a1_2 == x.f2 && (a1_3 == x.f3 && (a1_4 == x.f4 && (a1_5 == x.f5 && (a1_6 == x.f6 && (a1_7 == x.f7)))))))) = false from hx', if_neg (by simp), List.findIdx_cons, hx']
      simp only [cond_false, List.length_cons]
      by_cases hq : t.findIdx (leaseIs a1_0 a1_1 a1_2 a1_3 a1_4 a1_5 a1_6 a1_7) < t.length
      · rw [if_pos hq, if_pos (by omega)]
        congr 1
        omega
      · rw [if_neg hq, if_neg (by omega)]
set_option maxHeartbeats 8000000 in
set_option maxRecDepth 100000 in
theorem ending_Fetch.calls (a0_0 : Int) (a0_1 : Int) (A0_2 : Option Addr) (c0_2 : Nat) (l0_2 : List S44) (A0_3 : Option Addr) (c0_3 : Nat) (l0_3 : List S44) (a1_0 : Int) (a1_1 : Int) (a1_2 : Int) (a1_3 : Int) (a1_4 : Int) (a1_5 : Int) (a1_6 : Int) (a1_7 : Bool) (r1 : Int) (r2 : Int) (r3 : List S44) (r4 : List S44) (r5 : Bool) (w : World) (hr0_2 : Kd.C k44 w A0_2 l0_2.length l0_2) (hc0_2 : l0_2.length ≤ c0_2) (hr0_3 : Kd.C k44 w A0_3 l0_3.length l0_3) (hc0_3 : l0_3.length ≤ c0_3) (h : ending_Fetch.f a0_0 a0_1 l0_2 l0_3 a1_0 a1_1 a1_2 a1_3 a1_4 a1_5 a1_6 a1_7 = some (r1, r2, r3, r4, r5)) :
    Calls Try.prog 25 #[.agg #[.int .i64 a0_0, .int .i64 a0_1, .slice A0_2 l0_2.length c0_2, .slice A0_3 l0_3.length c0_3], .agg #[.int .i64 a1_0, .int .i64 a1_1, .int .i64 a1_2, .int .i64 a1_3, .int .i64 a1_4, .int .i64 a1_5, .int .i64 a1_6, .bool a1_7]] w fun e w' => ∃ v2_ v3_ : Value, e = .returned (.tuple #[.agg #[.int .i64 r1, .int .i64 r2, v2_, v3_], .bool r5]) ∧ Kd.R k44 44 w' w.heap.size (fun k_ => some k_ ≠ (v3_ : Value).ownBlock) v2_ r3 ∧ Kd.R k44 44 w' w.heap.size (fun k_ => some k_ ≠ (v2_ : Value).ownBlock) v3_ r4 ∧ Below w.heap.size w w' := by
  unfold ending_Fetch.f at h
  split at h
  · rename_i hl
    obtain ⟨hl2, hl3⟩ := hl
    obtain ⟨ix, hix⟩ : ∃ ix, l0_2.findIdx (leaseIs a1_0 a1_1 a1_2 a1_3 a1_4 a1_5 a1_6 a1_7) = ix := ⟨_, rfl⟩
    rw [hix] at h
    have HR2 := Aside0.mk hr0_2
    have HR3 := Aside0.mk hr0_3
    have H := Aside0.mk h
    have HIX := Aside0.mk hix
    clear hr0_2 hr0_3 h hix
    obtain ⟨ki, hki⟩ := lease_index a1_0 a1_1 a1_2 a1_3 a1_4 a1_5 a1_6 a1_7 l0_2 hl2 l0_2 0 rfl (Nat.zero_le _)
    have FI : api_Lease_61.f ki l0_2 a1_0 a1_1 a1_2 a1_3 a1_4 a1_5 a1_6 a1_7 = some (if ix < l0_2.length then (ix : Int) else -1) := by unfold api_Lease_61.f; rw [← HIX.out]; simpa using hki
    clear hki
    have F2 : api_Lease_60.f l0_2 = some l0_2 := by unfold api_Lease_60.f; rw [if_pos hl2]
    have F3 : api_Lease_60.f l0_3 = some l0_3 := by unfold api_Lease_60.f; rw [if_pos hl3]
    have hu := Try.underlying32
    have hu2 := Try.underlying44
    go_enter Try.func25, Try.ntmps25
    go_wp2_with fail
    have q1 : (((w.alloc (.cells #[.int .i64 a0_0, .int .i64 a0_1, .slice A0_2 l0_2.length c0_2, .slice A0_3 l0_3.length c0_3] 32)).alloc (.cells #[.int .i64 a1_0, .int .i64 a1_1, .int .i64 a1_2, .int .i64 a1_3, .int .i64 a1_4, .int .i64 a1_5, .int .i64 a1_6, .bool a1_7] 44)).alloc (.cells #[.int .i64 0, .int .i64 0, .slice none 0 0, .slice none 0 0] 32)).heap[w.heap.size]? = some (.cells #[.int .i64 a0_0, .int .i64 a0_1, .slice A0_2 l0_2.length c0_2, .slice A0_3 l0_3.length c0_3] 32) := blk_alloc (blk_alloc (blk_new w _) _) _
    have q2 : (((w.alloc (.cells #[.int .i64 a0_0, .int .i64 a0_1, .slice A0_2 l0_2.length c0_2, .slice A0_3 l0_3.length c0_3] 32)).alloc (.cells #[.int .i64 a1_0, .int .i64 a1_1, .int .i64 a1_2, .int .i64 a1_3, .int .i64 a1_4, .int .i64 a1_5, .int .i64 a1_6, .bool a1_7] 44)).alloc (.cells #[.int .i64 0, .int .i64 0, .slice none 0 0, .slice none 0 0] 32)).heap[w.heap.size + 1]? = some (.cells #[.int .i64 a1_0, .int .i64 a1_1, .int .i64 a1_2, .int .i64 a1_3, .int .i64 a1_4, .int .i64 a1_5, .int .i64 a1_6, .bool a1_7] 44) := by have := blk_alloc (blk_new (w.alloc (.cells #[.int .i64 a0_0, .int .i64 a0_1, .slice A0_2 l0_2.length c0_2, .slice A0_3 l0_3.length c0_3] 32)) (.cells #[.int .i64 a1_0, .int .i64 a1_1, .int .i64 a1_2, .int .i64 a1_3, .int .i64 a1_4, .int .i64 a1_5, .int .i64 a1_6, .bool a1_7] 44)) (.cells #[.int .i64 0, .int .i64 0, .slice none 0 0, .slice none 0 0] 32); simpa using this
    have q3 : (((w.alloc (.cells #[.int .i64 a0_0, .int .i64 a0_1, .slice A0_2 l0_2.length c0_2, .slice A0_3 l0_3.length c0_3] 32)).alloc (.cells #[.int .i64 a1_0, .int .i64 a1_1, .int .i64 a1_2, .int .i64 a1_3, .int .i64 a1_4, .int .i64 a1_5, .int .i64 a1_6, .bool a1_7] 44)).alloc (.cells #[.int .i64 0, .int .i64 0, .slice none 0 0, .slice none 0 0] 32)).heap[w.heap.size + 1 + 1]? = some (.cells #[.int .i64 0, .int .i64 0, .slice none 0 0, .slice none 0 0] 32) := by have := blk_new ((w.alloc (.cells #[.int .i64 a0_0, .int .i64 a0_1, .slice A0_2 l0_2.length c0_2, .slice A0_3 l0_3.length c0_3] 32)).alloc (.cells #[.int .i64 a1_0, .int .i64 a1_1, .int .i64 a1_2, .int .i64 a1_3, .int .i64 a1_4, .int .i64 a1_5, .int .i64 a1_6, .bool a1_7] 44)) (.cells #[.int .i64 0, .int .i64 0, .slice none 0 0, .slice none 0 0] 32); simpa using this
    have hbb : Below w.heap.size w (((w.alloc (.cells #[.int .i64 a0_0, .int .i64 a0_1, .slice A0_2 l0_2.length c0_2, .slice A0_3 l0_3.length c0_3] 32)).alloc (.cells #[.int .i64 a1_0, .int .i64 a1_1, .int .i64 a1_2, .int .i64 a1_3, .int .i64 a1_4, .int .i64 a1_5, .int .i64 a1_6, .bool a1_7] 44)).alloc (.cells #[.int .i64 0, .int .i64 0, .slice none 0 0, .slice none 0 0] 32)) := below_alloc (below_alloc (below_alloc (Below.refl _ _) _) _) _
    have hsz3 : (((w.alloc (.cells #[.int .i64 a0_0, .int .i64 a0_1, .slice A0_2 l0_2.length c0_2, .slice A0_3 l0_3.length c0_3] 32)).alloc (.cells #[.int .i64 a1_0, .int .i64 a1_1, .int .i64 a1_2, .int .i64 a1_3, .int .i64 a1_4, .int .i64 a1_5, .int .i64 a1_6, .bool a1_7] 44)).alloc (.cells #[.int .i64 0, .int .i64 0, .slice none 0 0, .slice none 0 0] 32)).heap.size = w.heap.size + 3 := by simp
    replace HR2 := Aside0.mk (Kd.C_below HR2.out hbb); replace HR3 := Aside0.mk (Kd.C_below HR3.out hbb)
    obtain ⟨g1, hg1⟩ : ∃ g, g = w.heap.size := ⟨_, rfl⟩
    obtain ⟨g2, hg2⟩ : ∃ g, g = w.heap.size + 1 := ⟨_, rfl⟩
    obtain ⟨g3, hg3⟩ : ∃ g, g = w.heap.size + 1 + 1 := ⟨_, rfl⟩
    have HB := Aside0.mk hbb
    have HSZ := Aside0.mk hsz3
    clear hbb hsz3
    generalize ((w.alloc (.cells #[.int .i64 a0_0, .int .i64 a0_1, .slice A0_2 l0_2.length c0_2, .slice A0_3 l0_3.length c0_3] 32)).alloc (.cells #[.int .i64 a1_0, .int .i64 a1_1, .int .i64 a1_2, .int .i64 a1_3, .int .i64 a1_4, .int .i64 a1_5, .int .i64 a1_6, .bool a1_7] 44)).alloc (.cells #[.int .i64 0, .int .i64 0, .slice none 0 0, .slice none 0 0] 32) = W3 at *
    rw [← hg3] at q3 ⊢
    rw [← hg2] at q2 ⊢
    rw [← hg1] at q1 ⊢
    have B1 := Aside0.mk q1; have B2 := Aside0.mk q2; have B3 := Aside0.mk q3
    have G1 := Aside0.mk hg1; have G2 := Aside0.mk hg2; have G3 := Aside0.mk hg3
    have c2 := blk_cell q1 2; have c3 := blk_cell q1 3
    clear q1 q2 q3 hg1 hg2 hg3
    go_region_law (first | (refine goes_ Try.func60 (by kernel_rfl) rfl #[.slice A0_2 l0_2.length c0_2] (by rfl) rfl rfl (by (try simp only [List.map_toArray, List.map_cons, List.map_nil]); first | done | rfl) ?_; (with_reducible refine (api_Lease_60.calls A0_2 c0_2 l0_2 l0_2 _ ?hr hc0_2 F2).mono ?_); (case hr => exact Kd.C_below HR2.out (below_drew (Below.refl _ _))); rintro e w4 ⟨v1, rfl, ho, hb⟩; obtain ⟨A1, d1, rfl⟩ := Kd.R_slice ho; refine ⟨_, rfl, ?_⟩; have X1 := Aside0.mk ((hb.block g1 (blk_lt B1.out)).trans B1.out); have X2 := Aside0.mk ((hb.block g2 (blk_lt B2.out)).trans B2.out); have X3 := Aside0.mk ((hb.block g3 (blk_lt B3.out)).trans B3.out); have Y3 := Aside0.mk (Kd.C_below HR3.out (show Below W3.heap.size W3 w4 from (below_drew (Below.refl _ _)).trans hb)); have HO1 := Aside0.mk ho; have HB1 := Aside0.mk (show Below W3.heap.size W3 w4 from (below_drew (Below.refl _ _)).trans hb); have c2_ := blk_cell X1.out 2; have c3_ := blk_cell X1.out 3; clear ho hb) | (refine goes_ Try.func60 (by kernel_rfl) rfl #[.slice A0_3 l0_3.length c0_3] (by rfl) rfl rfl (by (try simp only [List.map_toArray, List.map_cons, List.map_nil]); first | done | rfl) ?_; (with_reducible refine (api_Lease_60.calls A0_3 c0_3 l0_3 l0_3 _ ?hr hc0_3 F3).mono ?_); (case hr => exact Y3.out); rintro e w5 ⟨v2, rfl, ho, hb⟩; obtain ⟨A2, d2, rfl⟩ := Kd.R_slice ho; refine ⟨_, rfl, ?_⟩; have Z1 := Aside0.mk ((hb.block g1 (blk_lt X1.out)).trans X1.out); have Z2 := Aside0.mk ((hb.block g2 (blk_lt X2.out)).trans X2.out); have Z3 := Aside0.mk ((hb.block g3 (blk_lt X3.out)).trans X3.out); have HO2 := Aside0.mk ho; have HB2 := Aside0.mk hb; have d2_ := blk_cell Z1.out 2; have d3_ := blk_cell Z1.out 3; have e2_ := blk_frozen Z1.out 2; have e3_ := blk_frozen Z1.out 3; clear ho hb))
    all_goals (
      have hsz := HSZ.out
      have hs1 := HB1.out.size
      have hs2 := HB2.out.size
      have e1_ : ∀ k, some k = (Value.slice A2 l0_3.length d2).ownBlock → w4.heap.size ≤ k := fun k hk => by
        rcases Kd.R_base2 HO2.out with h | ⟨b, h, hb⟩
        · rw [h] at hk; cases hk
        · rw [h] at hk; injection hk with hk; omega
      have q1 : Kd.R k44 44 w5 w.heap.size (fun k => some k ≠ (Value.slice A2 l0_3.length d2).ownBlock) (Value.slice A1 l0_2.length d1) l0_2 := Kd.R_lower (base' := w.heap.size) (Kd.R_mono (Kd.R_below (Kd.R_bound HO1.out) HB2.out) (fun k hk => (fun h => by have := e1_ k h; have := hk.2.2.1; omega))) (by show w.heap.size ≤ W3.heap.size; omega)
      obtain ⟨in1, own1⟩ := Kd.R_own HO1.out
      have q2 : Kd.R k44 44 w5 w.heap.size (fun k => some k ≠ (Value.slice A1 l0_2.length d1).ownBlock) (Value.slice A2 l0_3.length d2) l0_3 := Kd.R_lower (base' := w.heap.size) (Kd.R_mono (Kd.R_new HO2.out own1) (fun k hk => hk.2)) (by omega)
      have t1 := Kd.R_set (Kd.R_set q1 Z1.out (by decide) 2 (Value.slice A1 l0_2.length d1)) (blk_set Z1.out 2 (Value.slice A1 l0_2.length d1)) (by decide) 3 (Value.slice A2 l0_3.length d2)
      have t2 := Kd.R_set (Kd.R_set q2 Z1.out (by decide) 2 (Value.slice A1 l0_2.length d1)) (blk_set Z1.out 2 (Value.slice A1 l0_2.length d1)) (by decide) 3 (Value.slice A2 l0_3.length d2)
      have z1 := blk_set (blk_set Z1.out 2 (Value.slice A1 l0_2.length d1)) 3 (Value.slice A2 l0_3.length d2)
      have g21 : g2 ≠ g1 := by have := G1.out; have := G2.out; omega
      have g31 : g3 ≠ g1 := by have := G1.out; have := G3.out; omega
      have z2 := blk_far (blk_far Z2.out (p := ⟨g1, 2, none⟩) g21 (Value.slice A1 l0_2.length d1)) (p := ⟨g1, 3, none⟩) g21 (Value.slice A2 l0_3.length d2)
      have z3 := blk_far (blk_far Z3.out (p := ⟨g1, 2, none⟩) g31 (Value.slice A1 l0_2.length d1)) (p := ⟨g1, 3, none⟩) g31 (Value.slice A2 l0_3.length d2)
      have z1 : ((w5.setCell ⟨g1, 2, none⟩ (Value.slice A1 l0_2.length d1)).setCell ⟨g1, 3, none⟩ (Value.slice A2 l0_3.length d2)).heap[g1]? = some (.cells #[.int .i64 a0_0, .int .i64 a0_1, (Value.slice A1 l0_2.length d1), (Value.slice A2 l0_3.length d2)] 32 (0, 0)) := z1
      have hbw : Below w.heap.size w ((w5.setCell ⟨g1, 2, none⟩ (Value.slice A1 l0_2.length d1)).setCell ⟨g1, 3, none⟩ (Value.slice A2 l0_3.length d2)) := below_set (below_set ((HB.out.trans (HB1.out.mono (by omega))).trans (HB2.out.mono (by omega))) (by show w.heap.size ≤ g1; have := G1.out; omega)) (by show w.heap.size ≤ g1; have := G1.out; omega)
      clear e1_ own1 q1 q2 HO1 HO2 hs1 hs2 c2_ c3_ d2_ d3_ e2_ e3_ c2 c3
      generalize ((w5.setCell ⟨g1, 2, none⟩ (Value.slice A1 l0_2.length d1)).setCell ⟨g1, 3, none⟩ (Value.slice A2 l0_3.length d2)) = W6 at *
      have T1 := Aside0.mk t1; have T2 := Aside0.mk t2; have Z1' := Aside0.mk z1; have Z2' := Aside0.mk z2; have Z3' := Aside0.mk z3; have HBW := Aside0.mk hbw
      have n2 := blk_cell z1 2
      have n0 := blk_cell z2 0; have n1 := blk_cell z2 1; have n22 := blk_cell z2 2; have n3 := blk_cell z2 3; have n4 := blk_cell z2 4; have n5 := blk_cell z2 5; have n6 := blk_cell z2 6; have n7 := blk_cell z2 7
      clear t1 t2 z1 z2 z3 hbw
      obtain ⟨ri, hri⟩ : ∃ ri, (if ix < l0_2.length then (ix : Int) else -1) = ri := ⟨_, rfl⟩
      rw [hri] at FI
      go_wp2_with fail
      refine (api_Lease_61.calls ki A1 d1 l0_2 a1_0 a1_1 a1_2 a1_3 a1_4 a1_5 a1_6 a1_7 ri _ (Kd.R_reads' T1.out).2.2 (Kd.R_reads' T1.out).2.1 FI).mono ?_
      rintro e w7 ⟨rfl, hb⟩
      replace T1 := Aside0.mk (Kd.R_below T1.out hb); replace T2 := Aside0.mk (Kd.R_below T2.out hb)
      replace Z1' := Aside0.mk ((hb.block g1 (blk_lt Z1'.out)).trans Z1'.out); replace Z3' := Aside0.mk ((hb.block g3 (blk_lt Z3'.out)).trans Z3'.out)
      replace HBW := Aside0.mk (HBW.out.trans (hb.mono HBW.out.size))
      clear hb n2 n0 n1 n22 n3 n4 n5 n6 n7
      by_cases hx : ix < l0_2.length
      · rw [if_pos hx] at hri
        have hlen0 : 0 < l0_2.length := by omega
        obtain ⟨gd, cur, rfl, hgd, hnc, hcm, hcs, _, h1c⟩ := lease_R_open T1.out hlen0
        obtain ⟨m, hm⟩ : ∃ m, l0_2.length = ix + (1 + m) := ⟨l0_2.length - ix - 1, by omega⟩
        obtain ⟨q, hq⟩ : ∃ q, ix + m = q := ⟨_, rfl⟩
        have hri0 : 0 ≤ ri := by omega
        have hri1 : ri < 2199023255552 := by omega
        have hjj : ri + 1 = (ix : Int) + 1 := by omega
        have hhii : ri = (ix : Int) := by omega
        have m2 := blk_cell Z1'.out 2
        have HM := Aside0.mk hm; have HQ := Aside0.mk hq; have HGD := Aside0.mk hgd; have HCS := Aside0.mk hcs; have HII := Aside0.mk hhii; have HJJ := Aside0.mk hjj; have HX := Aside0.mk hx; have H1C := Aside0.mk h1c
        clear hm hq hgd hcs hhii hjj hri FI
        go_wp2_with fail
        refine (lease_delete gd l0_2.length d1 ix m q ri (ri + 1) cur _ HGD.out HCS.out H1C.out HM.out HQ.out HII.out HJJ.out hnc hcm).mono ?_
        rintro e w8 ⟨rfl, cur', hg', hs', ht', hgr⟩
        have t1 := lease_R_deleted T1.out hlen0 HGD.out hg' hs' HM.out HQ.out ht'
        have t2 := Kd.R_grown T2.out hgr (fun k hk => hk)
        have y1 := (hgr.block g1 (blk_lt Z1'.out) (Kd.R_ne T1.out Z1'.out (by decide))).trans Z1'.out
        have y3 := (hgr.block g3 (blk_lt Z3'.out) (Kd.R_ne T1.out Z3'.out (by decide))).trans Z3'.out
        have hgb : w.heap.size ≤ gd := by
          rcases Kd.R_base2 T1.out with h | ⟨b, h, hb⟩
          · simp [Value.ownBlock] at h
          · simp [Value.ownBlock] at h; omega
        have hbw := HBW.out.grown hgr HBW.out.size (fun k hk => by injection hk with hk; subst hk; exact hgb)
        have hH := H.out
        rw [if_pos HX.out] at hH
        simp only [Option.some.injEq, Prod.mk.injEq] at hH
        obtain ⟨rfl, rfl, e3, rfl, rfl⟩ := hH
        rw [e3] at t1
        have hr3 : r3.length = q := by rw [← e3, List.length_append, List.length_take, List.length_drop]; have := HM.out; have := HQ.out; omega
        have T1b := Aside0.mk (Kd.R_set t1 y1 (by decide) 2 (Value.slice (some ⟨gd, 0, none⟩) q d1))
        have T2b := Aside0.mk (Kd.R_set t2 y1 (by decide) 2 (Value.slice (some ⟨gd, 0, none⟩) q d1))
        have Y1 := Aside0.mk (blk_set y1 2 (Value.slice (some ⟨gd, 0, none⟩) q d1))
        have g31' : g3 ≠ g1 := by have := G1.out; have := G3.out; omega
        have g11' : w.heap.size ≤ g1 := by have := G1.out; omega
        have Y3 := Aside0.mk (blk_far y3 (p := ⟨g1, 2, none⟩) g31' (Value.slice (some ⟨gd, 0, none⟩) q d1))
        have HBX := Aside0.mk (hbw.setCell (p := ⟨g1, 2, none⟩) g11' (Value.slice (some ⟨gd, 0, none⟩) q d1))
        have m0 := blk_cell y1 0; have m1 := blk_cell y1 1; have m2' := blk_cell y1 2; have m3 := blk_cell y1 3
        have m4 := blk_frozen y1 2
        have p0 := blk_cell y3 0; have p1 := blk_cell y3 1; have p2 := blk_cell y3 2; have p3 := blk_cell y3 3
        have f0 := blk_frozen y3 0; have f1 := blk_frozen y3 1; have f2 := blk_frozen y3 2; have f3 := blk_frozen y3 3
        clear t1 t2 y1 y3 hbw hgr hg' hs' ht' m2
        go_wp2
        have hg3w : w.heap.size ≤ g3 := by have := G3.out; omega
        refine bodyPost_ret (results_ct rfl _ _ g3 32 #[.int .i64 a0_0, .int .i64 a0_1, .slice (some ⟨gd, 0, none⟩) q d1, (Value.slice A2 l0_3.length d2)] (0, 0) _ rfl (by exact blk_set (blk_set (blk_set (blk_set Y3.out 0 _) 1 _) 2 _) 3 _) Try.underlying32 rfl (by kernel_rfl)) rfl ?_
        exact ⟨_, _, rfl, Kd.R_mono (ending_R_set4 T1b.out Y3.out (by decide) _ _ _ _) (fun _ h => h), Kd.R_mono (ending_R_set4 T2b.out Y3.out (by decide) _ _ _ _) (fun _ h => h), below_set (below_set (below_set (below_set HBX.out hg3w) hg3w) hg3w) hg3w⟩
      · rw [if_neg hx] at hri
        have hH := H.out
        rw [if_neg hx] at hH
        simp only [Option.some.injEq, Prod.mk.injEq] at hH
        obtain ⟨rfl, rfl, rfl, rfl, rfl⟩ := hH
        subst hri
        have m0 := blk_cell Z1'.out 0; have m1 := blk_cell Z1'.out 1; have m2 := blk_cell Z1'.out 2; have m3 := blk_cell Z1'.out 3
        have p0 := blk_cell Z3'.out 0; have p1 := blk_cell Z3'.out 1; have p2 := blk_cell Z3'.out 2; have p3 := blk_cell Z3'.out 3
        have f0 := blk_frozen Z3'.out 0; have f1 := blk_frozen Z3'.out 1; have f2 := blk_frozen Z3'.out 2; have f3 := blk_frozen Z3'.out 3
        go_wp2
        have hg3w : w.heap.size ≤ g3 := by have := G3.out; omega
        refine bodyPost_ret (results_ct rfl _ _ g3 32 #[.int .i64 a0_0, .int .i64 a0_1, (Value.slice A1 l0_2.length d1), (Value.slice A2 l0_3.length d2)] (0, 0) _ rfl (by exact blk_set (blk_set (blk_set (blk_set Z3'.out 0 _) 1 _) 2 _) 3 _) Try.underlying32 rfl (by kernel_rfl)) rfl ?_
        exact ⟨_, _, rfl, Kd.R_mono (ending_R_set4 T1.out Z3'.out (by decide) _ _ _ _) (fun _ h => h), Kd.R_mono (ending_R_set4 T2.out Z3'.out (by decide) _ _ _ _) (fun _ h => h), below_set (below_set (below_set (below_set HBW.out hg3w) hg3w) hg3w) hg3w⟩)
  · cases h

end Go.Proofs.Ytepffabkcbfejaa.PEndingSteps
