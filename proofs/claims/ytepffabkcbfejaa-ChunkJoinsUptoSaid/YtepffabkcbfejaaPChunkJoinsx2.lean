-- Written by a program of this repository (wip/tools/myprint.py over the print of the kit): contracts and rows.
import Derived.Test.YtepffabkcbfejaaPChunkJoinsx0
import Derived.Test.YtepffabkcbfejaaPChunkJoinsx1
namespace Go.Proofs.Ytepffabkcbfejaa.PChunkJoins
open Go.RowKit Go.Proofs.YtepffabkcbfejaaW.PrintWords Go.Proofs.YtepffabkcbfejaaW.PrintLast Go.Proofs.YtepffabkcbfejaaW.PrintMore
attribute [local go_sem] max2_int min2_int max_two min_two max_three min_three max_four min_four   -- for this text's walks alone
set_option linter.unusedVariables false
set_option linter.unusedSimpArgs false

/-! ### chunk_Ends: function 45 -/
def weight (s : ByteArray) (n : Int) : Int := weightL (bytesOf (lastOf s n)) 0 0

set_option maxHeartbeats 4000000 in
set_option maxRecDepth 100000 in
theorem cursor_step_D (g : Nat) (s : ByteArray) (c0 c1 c2 c3 fr i : Int) (A : Option Addr) (n cap base : Nat) (xs : List Int) (w : World)
    (hg : w.heap[g]? = some (.cells #[.string s, .int .i64 c0, .int .i64 c1, .int .i64 c2, .int .i64 c3, .int .i64 fr, .int .i64 i, .slice A n cap] 95 (0, 0))) (ho : Kd.R (Kd.int .i64) 3 w base (fun k => k ≠ g) (.slice A n cap) xs) (hb : base ≤ w.heap.size) (hgb : base ≤ g)
    (hs : s.size ≤ 16384) (h0 : 0 ≤ fr) (h1 : fr ≤ i) (h2 : i < s.size) (hl : xs.length ≤ 16384) (HN : Aside0 (((i + 1 : Int) == (s.size : Int)) = false)) (HM : Aside0 (((i + 1 - fr : Int) == c1) = false)) (HD : Aside0 (decide (c0 ≤ i + 1 - fr) = false)) :
    Calls Try.prog 65 #[.pointer (some ⟨g, 0, none⟩)] w fun e w' => ∃ v, e = .returned (.tuple #[]) ∧ w'.heap[g]? = some (.cells #[.string s, .int .i64 c0, .int .i64 c1, .int .i64 c2, .int .i64 c3, .int .i64 fr, .int .i64 (i + 1), v] 95 (0, 0)) ∧ Kd.R (Kd.int .i64) 3 w' base (fun k => k ≠ g) v xs ∧ Below base w w' := by
  have hu := Try.underlying95
  have HO := Aside0.mk ho
  have HG := Aside0.mk hg
  have HGL := Aside0.mk (blk_lt hg)
  have k6 := blk_cell hg 6
  have l6 := blk_frozen hg 6
  clear ho
  go_enter Try.func65, Try.ntmps65
  clear hg
  go_wp2
  have HG1 := Aside0.mk (blk_set HG.out 6 (.int .i64 (i + 1)))
  have HB1 := Aside0.mk ((Below.refl base w).setCell (p := ⟨g, 6, none⟩) hgb (.int .i64 (i + 1)))
  have HO1 := Aside0.mk (Kd.R_far HO.out (p := ⟨g, 6, none⟩) (fun k h_ => h_) (.int .i64 (i + 1)))
  have hz1 : base ≤ (w.setCell ⟨g, 6, none⟩ (.int .i64 (i + 1))).heap.size := by simpa [World.setCell] using hb
  clear k6 l6 HG HO hb HGL
  generalize w.setCell ⟨g, 6, none⟩ (.int .i64 (i + 1)) = W1 at *
  have hg1 : W1.heap[g]? = some (.cells #[.string s, .int .i64 c0, .int .i64 c1, .int .i64 c2, .int .i64 c3, .int .i64 fr, .int .i64 (i + 1), .slice A n cap] 95 (0, 0)) := HG1.out
  have k0 := blk_cell hg1 0; have k1 := blk_cell hg1 1; have k2 := blk_cell hg1 2; have k3 := blk_cell hg1 3; have k4 := blk_cell hg1 4; have k5 := blk_cell hg1 5; have k6 := blk_cell hg1 6; have k7 := blk_cell hg1 7
  clear hg1
  go_quiet (fail)
  replace HG1 : Aside0 ((W1.drewN nq).heap[g]? = some (.cells #[.string s, .int .i64 c0, .int .i64 c1, .int .i64 c2, .int .i64 c3, .int .i64 fr, .int .i64 (i + 1), .slice A n cap] 95 (0, 0))) := ⟨HG1.out⟩
  replace HO1 : Aside0 (Kd.R (Kd.int .i64) 3 (W1.drewN nq) base (fun k => k ≠ g) (.slice A n cap) xs) := ⟨HO1.out⟩
  replace HB1 : Aside0 (Below base w (W1.drewN nq)) := ⟨pw_below_drewN HB1.out nq⟩
  replace hz1 : base ≤ (W1.drewN nq).heap.size := hz1
  clear k0 k1 k2 k3 k4 k5 k6 k7
  generalize W1.drewN nq = W2 at *
  have hg1 : W2.heap[g]? = some (.cells #[.string s, .int .i64 c0, .int .i64 c1, .int .i64 c2, .int .i64 c3, .int .i64 fr, .int .i64 (i + 1), .slice A n cap] 95 (0, 0)) := HG1.out
  have k0 := blk_cell hg1 0
  have k1 := blk_cell hg1 1
  have k2 := blk_cell hg1 2
  have k3 := blk_cell hg1 3
  have k4 := blk_cell hg1 4
  have k5 := blk_cell hg1 5
  have k6 := blk_cell hg1 6
  have k7 := blk_cell hg1 7
  clear hg1
  go_wp2_with fail
  have b0 : ((i + 1 : Int) == (s.size : Int)) = false := HN.out
  have b1 : ((i + 1 - fr : Int) == c1) = false := HM.out
  have b2 : decide (c0 ≤ i + 1 - fr) = false := HD.out
  go_quiet (fail)
  replace HG1 : Aside0 ((W2.drewN nq).heap[g]? = some (.cells #[.string s, .int .i64 c0, .int .i64 c1, .int .i64 c2, .int .i64 c3, .int .i64 fr, .int .i64 (i + 1), .slice A n cap] 95 (0, 0))) := ⟨HG1.out⟩
  replace HO1 : Aside0 (Kd.R (Kd.int .i64) 3 (W2.drewN nq) base (fun k => k ≠ g) (.slice A n cap) xs) := ⟨HO1.out⟩
  replace HB1 : Aside0 (Below base w (W2.drewN nq)) := ⟨pw_below_drewN HB1.out nq⟩
  replace hz1 : base ≤ (W2.drewN nq).heap.size := hz1
  clear k0 k1 k2 k3 k4 k5 k6 k7
  generalize W2.drewN nq = W3 at *
  have hg1 : W3.heap[g]? = some (.cells #[.string s, .int .i64 c0, .int .i64 c1, .int .i64 c2, .int .i64 c3, .int .i64 fr, .int .i64 (i + 1), .slice A n cap] 95 (0, 0)) := HG1.out
  have k0 := blk_cell hg1 0
  have k1 := blk_cell hg1 1
  have k2 := blk_cell hg1 2
  have k3 := blk_cell hg1 3
  have k4 := blk_cell hg1 4
  have k5 := blk_cell hg1 5
  have k6 := blk_cell hg1 6
  have k7 := blk_cell hg1 7
  clear hg1
  go_wp2_with fail
  go_end0
  exact ⟨_, rfl, HG1.out, HO1.out, HB1.out⟩


set_option maxHeartbeats 4000000 in
set_option maxRecDepth 100000 in
theorem cursor_step_A (g : Nat) (s : ByteArray) (c0 c1 c2 c3 fr i : Int) (A : Option Addr) (n cap base : Nat) (xs : List Int) (w : World)
    (hg : w.heap[g]? = some (.cells #[.string s, .int .i64 c0, .int .i64 c1, .int .i64 c2, .int .i64 c3, .int .i64 fr, .int .i64 i, .slice A n cap] 95 (0, 0))) (ho : Kd.R (Kd.int .i64) 3 w base (fun k => k ≠ g) (.slice A n cap) xs) (hb : base ≤ w.heap.size) (hgb : base ≤ g)
    (hs : s.size ≤ 16384) (h0 : 0 ≤ fr) (h1 : fr ≤ i) (h2 : i < s.size) (hl : xs.length ≤ 16384) (ys : List Int) (HY : Aside0 (xs ++ [i + 1] = ys)) (HN : Aside0 (((i + 1 : Int) == (s.size : Int)) = true)) :
    Calls Try.prog 65 #[.pointer (some ⟨g, 0, none⟩)] w fun e w' => ∃ v, e = .returned (.tuple #[]) ∧ w'.heap[g]? = some (.cells #[.string s, .int .i64 c0, .int .i64 c1, .int .i64 c2, .int .i64 c3, .int .i64 (i + 1), .int .i64 (i + 1), v] 95 (0, 0)) ∧ Kd.R (Kd.int .i64) 3 w' base (fun k => k ≠ g) v ys ∧ Below base w w' := by
  have hu := Try.underlying95
  have HO := Aside0.mk ho
  have HG := Aside0.mk hg
  have HGL := Aside0.mk (blk_lt hg)
  have k6 := blk_cell hg 6
  have l6 := blk_frozen hg 6
  clear ho
  go_enter Try.func65, Try.ntmps65
  clear hg
  go_wp2
  have HG1 := Aside0.mk (blk_set HG.out 6 (.int .i64 (i + 1)))
  have HB1 := Aside0.mk ((Below.refl base w).setCell (p := ⟨g, 6, none⟩) hgb (.int .i64 (i + 1)))
  have HO1 := Aside0.mk (Kd.R_far HO.out (p := ⟨g, 6, none⟩) (fun k h_ => h_) (.int .i64 (i + 1)))
  have hz1 : base ≤ (w.setCell ⟨g, 6, none⟩ (.int .i64 (i + 1))).heap.size := by simpa [World.setCell] using hb
  clear k6 l6 HG HO hb HGL
  generalize w.setCell ⟨g, 6, none⟩ (.int .i64 (i + 1)) = W1 at *
  have hg1 : W1.heap[g]? = some (.cells #[.string s, .int .i64 c0, .int .i64 c1, .int .i64 c2, .int .i64 c3, .int .i64 fr, .int .i64 (i + 1), .slice A n cap] 95 (0, 0)) := HG1.out
  have k0 := blk_cell hg1 0; have k1 := blk_cell hg1 1; have k2 := blk_cell hg1 2; have k3 := blk_cell hg1 3; have k4 := blk_cell hg1 4; have k5 := blk_cell hg1 5; have k6 := blk_cell hg1 6; have k7 := blk_cell hg1 7
  clear hg1
  go_quiet (fail)
  replace HG1 : Aside0 ((W1.drewN nq).heap[g]? = some (.cells #[.string s, .int .i64 c0, .int .i64 c1, .int .i64 c2, .int .i64 c3, .int .i64 fr, .int .i64 (i + 1), .slice A n cap] 95 (0, 0))) := ⟨HG1.out⟩
  replace HO1 : Aside0 (Kd.R (Kd.int .i64) 3 (W1.drewN nq) base (fun k => k ≠ g) (.slice A n cap) xs) := ⟨HO1.out⟩
  replace HB1 : Aside0 (Below base w (W1.drewN nq)) := ⟨pw_below_drewN HB1.out nq⟩
  replace hz1 : base ≤ (W1.drewN nq).heap.size := hz1
  clear k0 k1 k2 k3 k4 k5 k6 k7
  generalize W1.drewN nq = W2 at *
  have hg1 : W2.heap[g]? = some (.cells #[.string s, .int .i64 c0, .int .i64 c1, .int .i64 c2, .int .i64 c3, .int .i64 fr, .int .i64 (i + 1), .slice A n cap] 95 (0, 0)) := HG1.out
  have k0 := blk_cell hg1 0
  have k1 := blk_cell hg1 1
  have k2 := blk_cell hg1 2
  have k3 := blk_cell hg1 3
  have k4 := blk_cell hg1 4
  have k5 := blk_cell hg1 5
  have k6 := blk_cell hg1 6
  have k7 := blk_cell hg1 7
  clear hg1
  go_wp2_with fail
  have b0 : ((i + 1 : Int) == (s.size : Int)) = true := HN.out
  go_quiet (fail)
  replace HG1 : Aside0 ((W2.drewN nq).heap[g]? = some (.cells #[.string s, .int .i64 c0, .int .i64 c1, .int .i64 c2, .int .i64 c3, .int .i64 fr, .int .i64 (i + 1), .slice A n cap] 95 (0, 0))) := ⟨HG1.out⟩
  replace HO1 : Aside0 (Kd.R (Kd.int .i64) 3 (W2.drewN nq) base (fun k => k ≠ g) (.slice A n cap) xs) := ⟨HO1.out⟩
  replace HB1 : Aside0 (Below base w (W2.drewN nq)) := ⟨pw_below_drewN HB1.out nq⟩
  replace hz1 : base ≤ (W2.drewN nq).heap.size := hz1
  clear k0 k1 k2 k3 k4 k5 k6 k7
  generalize W2.drewN nq = W3 at *
  have hg1 : W3.heap[g]? = some (.cells #[.string s, .int .i64 c0, .int .i64 c1, .int .i64 c2, .int .i64 c3, .int .i64 fr, .int .i64 (i + 1), .slice A n cap] 95 (0, 0)) := HG1.out
  have k0 := blk_cell hg1 0
  have k1 := blk_cell hg1 1
  have k2 := blk_cell hg1 2
  have k3 := blk_cell hg1 3
  have k4 := blk_cell hg1 4
  have k5 := blk_cell hg1 5
  have k6 := blk_cell hg1 6
  have k7 := blk_cell hg1 7
  clear hg1
  go_wp2_with fail
  clear b0
  have hgl : (W3.alloc (.cells #[.int .i64 (i + 1)] 3)).cell? ⟨g, 7, none⟩ = some (.slice A n cap) := pw_cell_below (below_alloc (Below.refl W3.heap.size W3) _) k7
  go_region_law ((rw [show (W3.alloc (.cells #[.int .i64 (i + 1)] 3)).drew = W3.drew.alloc (.cells #[.int .i64 (i + 1)] 3) from rfl]; refine Kd.R_append_step (Kd.int .i64) (w0 := W3) base ?hw (.tmp 79) (.tmp 84) 52 3 (.int .i64 0) 8 ?h1_ Try.underlying52 info3 rfl (by decide) (by omega) (.slice A n cap) xs (i + 1) [.int .i64 (i + 1)] (fun k => k ≠ g) (fun _ => False) ?h2_ ?h3_ rfl (fun _ hk => hk.elim) ?h4_ ?h5_ ?h6_ ?h7_ ?h8_ ?_; (case hw => rfl); (case h1_ => rfl); (case h2_ => rfl); (case h3_ => first | rfl | (go_simp; done) | (go_simp; rfl)); (case h4_ => exact (fun k hk e => absurd (blk_lt HG1.out) (by subst e; exact Nat.not_lt.2 hk))); (case h5_ => exact HO1.out); (case h6_ => exact below_drew (Below.refl _ _)); (case h7_ => exact hz1); (case h8_ => omega); intro v1 W4 ho hb hg_ hat; rw [HY.out] at ho; obtain ⟨A1, d1, rfl⟩ := Kd.R_slice ho; have hb4 := blk_grown (g := g) (o := .cells #[.string s, .int .i64 c0, .int .i64 c1, .int .i64 c2, .int .i64 c3, .int .i64 fr, .int .i64 (i + 1), .slice A n cap] 95 (0, 0)) (by exact HG1.out) hg_ (Kd.R_away HO1.out (fun _ hk => hk)); have m7 := blk_cell hb4 7; have m7' := blk_frozen hb4 7; have HG4 := Aside0.mk hb4; have HO4 := Aside0.mk ho; have HB4 := Aside0.mk hb; have HG5 := Aside0.mk hg_; clear ho hb hg_ hat hb4))
  all_goals
    have hs8 : (W4.setCell ⟨g, 7, none⟩ (.slice A1 ys.length d1)).heap[g]? = some (.cells #[.string s, .int .i64 c0, .int .i64 c1, .int .i64 c2, .int .i64 c3, .int .i64 fr, .int .i64 (i + 1), .slice A1 ys.length d1] 95 (0, 0)) := blk_set HG4.out 7 _
    have q6 := blk_cell hs8 6
    have q5 := blk_cell hs8 5
    have q5' := blk_frozen hs8 5
    have HS8 := Aside0.mk hs8
    clear hs8 m7 m7' hgl k0 k1 k2 k3 k4 k5 k6 k7
    go_wp2
    go_end0
    exact ⟨_, rfl, blk_set HS8.out 5 (.int .i64 (i + 1)), Kd.R_far (Kd.R_far HO4.out (p := ⟨g, 7, none⟩) (fun k h => h) _) (p := ⟨g, 5, none⟩) (fun k h => h) _, ((HB1.out.trans HB4.out).setCell (p := ⟨g, 7, none⟩) hgb _).setCell (p := ⟨g, 5, none⟩) hgb _⟩


set_option maxHeartbeats 4000000 in
set_option maxRecDepth 100000 in
theorem cursor_step_B (g : Nat) (s : ByteArray) (c0 c1 c2 c3 fr i : Int) (A : Option Addr) (n cap base : Nat) (xs : List Int) (w : World)
    (hg : w.heap[g]? = some (.cells #[.string s, .int .i64 c0, .int .i64 c1, .int .i64 c2, .int .i64 c3, .int .i64 fr, .int .i64 i, .slice A n cap] 95 (0, 0))) (ho : Kd.R (Kd.int .i64) 3 w base (fun k => k ≠ g) (.slice A n cap) xs) (hb : base ≤ w.heap.size) (hgb : base ≤ g)
    (hs : s.size ≤ 16384) (h0 : 0 ≤ fr) (h1 : fr ≤ i) (h2 : i < s.size) (hl : xs.length ≤ 16384) (ys : List Int) (HY : Aside0 (xs ++ [i + 1] = ys)) (HN : Aside0 (((i + 1 : Int) == (s.size : Int)) = false)) (HM : Aside0 (((i + 1 - fr : Int) == c1) = true)) :
    Calls Try.prog 65 #[.pointer (some ⟨g, 0, none⟩)] w fun e w' => ∃ v, e = .returned (.tuple #[]) ∧ w'.heap[g]? = some (.cells #[.string s, .int .i64 c0, .int .i64 c1, .int .i64 c2, .int .i64 c3, .int .i64 (i + 1), .int .i64 (i + 1), v] 95 (0, 0)) ∧ Kd.R (Kd.int .i64) 3 w' base (fun k => k ≠ g) v ys ∧ Below base w w' := by
  have hu := Try.underlying95
  have HO := Aside0.mk ho
  have HG := Aside0.mk hg
  have HGL := Aside0.mk (blk_lt hg)
  have k6 := blk_cell hg 6
  have l6 := blk_frozen hg 6
  clear ho
  go_enter Try.func65, Try.ntmps65
  clear hg
  go_wp2
  have HG1 := Aside0.mk (blk_set HG.out 6 (.int .i64 (i + 1)))
  have HB1 := Aside0.mk ((Below.refl base w).setCell (p := ⟨g, 6, none⟩) hgb (.int .i64 (i + 1)))
  have HO1 := Aside0.mk (Kd.R_far HO.out (p := ⟨g, 6, none⟩) (fun k h_ => h_) (.int .i64 (i + 1)))
  have hz1 : base ≤ (w.setCell ⟨g, 6, none⟩ (.int .i64 (i + 1))).heap.size := by simpa [World.setCell] using hb
  clear k6 l6 HG HO hb HGL
  generalize w.setCell ⟨g, 6, none⟩ (.int .i64 (i + 1)) = W1 at *
  have hg1 : W1.heap[g]? = some (.cells #[.string s, .int .i64 c0, .int .i64 c1, .int .i64 c2, .int .i64 c3, .int .i64 fr, .int .i64 (i + 1), .slice A n cap] 95 (0, 0)) := HG1.out
  have k0 := blk_cell hg1 0; have k1 := blk_cell hg1 1; have k2 := blk_cell hg1 2; have k3 := blk_cell hg1 3; have k4 := blk_cell hg1 4; have k5 := blk_cell hg1 5; have k6 := blk_cell hg1 6; have k7 := blk_cell hg1 7
  clear hg1
  go_quiet (fail)
  replace HG1 : Aside0 ((W1.drewN nq).heap[g]? = some (.cells #[.string s, .int .i64 c0, .int .i64 c1, .int .i64 c2, .int .i64 c3, .int .i64 fr, .int .i64 (i + 1), .slice A n cap] 95 (0, 0))) := ⟨HG1.out⟩
  replace HO1 : Aside0 (Kd.R (Kd.int .i64) 3 (W1.drewN nq) base (fun k => k ≠ g) (.slice A n cap) xs) := ⟨HO1.out⟩
  replace HB1 : Aside0 (Below base w (W1.drewN nq)) := ⟨pw_below_drewN HB1.out nq⟩
  replace hz1 : base ≤ (W1.drewN nq).heap.size := hz1
  clear k0 k1 k2 k3 k4 k5 k6 k7
  generalize W1.drewN nq = W2 at *
  have hg1 : W2.heap[g]? = some (.cells #[.string s, .int .i64 c0, .int .i64 c1, .int .i64 c2, .int .i64 c3, .int .i64 fr, .int .i64 (i + 1), .slice A n cap] 95 (0, 0)) := HG1.out
  have k0 := blk_cell hg1 0
  have k1 := blk_cell hg1 1
  have k2 := blk_cell hg1 2
  have k3 := blk_cell hg1 3
  have k4 := blk_cell hg1 4
  have k5 := blk_cell hg1 5
  have k6 := blk_cell hg1 6
  have k7 := blk_cell hg1 7
  clear hg1
  go_wp2_with fail
  have b0 : ((i + 1 : Int) == (s.size : Int)) = false := HN.out
  have b1 : ((i + 1 - fr : Int) == c1) = true := HM.out
  go_quiet (fail)
  replace HG1 : Aside0 ((W2.drewN nq).heap[g]? = some (.cells #[.string s, .int .i64 c0, .int .i64 c1, .int .i64 c2, .int .i64 c3, .int .i64 fr, .int .i64 (i + 1), .slice A n cap] 95 (0, 0))) := ⟨HG1.out⟩
  replace HO1 : Aside0 (Kd.R (Kd.int .i64) 3 (W2.drewN nq) base (fun k => k ≠ g) (.slice A n cap) xs) := ⟨HO1.out⟩
  replace HB1 : Aside0 (Below base w (W2.drewN nq)) := ⟨pw_below_drewN HB1.out nq⟩
  replace hz1 : base ≤ (W2.drewN nq).heap.size := hz1
  clear k0 k1 k2 k3 k4 k5 k6 k7
  generalize W2.drewN nq = W3 at *
  have hg1 : W3.heap[g]? = some (.cells #[.string s, .int .i64 c0, .int .i64 c1, .int .i64 c2, .int .i64 c3, .int .i64 fr, .int .i64 (i + 1), .slice A n cap] 95 (0, 0)) := HG1.out
  have k0 := blk_cell hg1 0
  have k1 := blk_cell hg1 1
  have k2 := blk_cell hg1 2
  have k3 := blk_cell hg1 3
  have k4 := blk_cell hg1 4
  have k5 := blk_cell hg1 5
  have k6 := blk_cell hg1 6
  have k7 := blk_cell hg1 7
  clear hg1
  go_wp2_with fail
  clear b0 b1
  have hgl : (W3.alloc (.cells #[.int .i64 (i + 1)] 3)).cell? ⟨g, 7, none⟩ = some (.slice A n cap) := pw_cell_below (below_alloc (Below.refl W3.heap.size W3) _) k7
  go_region_law ((rw [show (W3.alloc (.cells #[.int .i64 (i + 1)] 3)).drew = W3.drew.alloc (.cells #[.int .i64 (i + 1)] 3) from rfl]; refine Kd.R_append_step (Kd.int .i64) (w0 := W3) base ?hw (.tmp 79) (.tmp 84) 52 3 (.int .i64 0) 8 ?h1_ Try.underlying52 info3 rfl (by decide) (by omega) (.slice A n cap) xs (i + 1) [.int .i64 (i + 1)] (fun k => k ≠ g) (fun _ => False) ?h2_ ?h3_ rfl (fun _ hk => hk.elim) ?h4_ ?h5_ ?h6_ ?h7_ ?h8_ ?_; (case hw => rfl); (case h1_ => rfl); (case h2_ => rfl); (case h3_ => first | rfl | (go_simp; done) | (go_simp; rfl)); (case h4_ => exact (fun k hk e => absurd (blk_lt HG1.out) (by subst e; exact Nat.not_lt.2 hk))); (case h5_ => exact HO1.out); (case h6_ => exact below_drew (Below.refl _ _)); (case h7_ => exact hz1); (case h8_ => omega); intro v1 W4 ho hb hg_ hat; rw [HY.out] at ho; obtain ⟨A1, d1, rfl⟩ := Kd.R_slice ho; have hb4 := blk_grown (g := g) (o := .cells #[.string s, .int .i64 c0, .int .i64 c1, .int .i64 c2, .int .i64 c3, .int .i64 fr, .int .i64 (i + 1), .slice A n cap] 95 (0, 0)) (by exact HG1.out) hg_ (Kd.R_away HO1.out (fun _ hk => hk)); have m7 := blk_cell hb4 7; have m7' := blk_frozen hb4 7; have HG4 := Aside0.mk hb4; have HO4 := Aside0.mk ho; have HB4 := Aside0.mk hb; have HG5 := Aside0.mk hg_; clear ho hb hg_ hat hb4))
  all_goals
    have hs8 : (W4.setCell ⟨g, 7, none⟩ (.slice A1 ys.length d1)).heap[g]? = some (.cells #[.string s, .int .i64 c0, .int .i64 c1, .int .i64 c2, .int .i64 c3, .int .i64 fr, .int .i64 (i + 1), .slice A1 ys.length d1] 95 (0, 0)) := blk_set HG4.out 7 _
    have q6 := blk_cell hs8 6
    have q5 := blk_cell hs8 5
    have q5' := blk_frozen hs8 5
    have HS8 := Aside0.mk hs8
    clear hs8 m7 m7' hgl k0 k1 k2 k3 k4 k5 k6 k7
    go_wp2
    go_end0
    exact ⟨_, rfl, blk_set HS8.out 5 (.int .i64 (i + 1)), Kd.R_far (Kd.R_far HO4.out (p := ⟨g, 7, none⟩) (fun k h => h) _) (p := ⟨g, 5, none⟩) (fun k h => h) _, ((HB1.out.trans HB4.out).setCell (p := ⟨g, 7, none⟩) hgb _).setCell (p := ⟨g, 5, none⟩) hgb _⟩


set_option maxHeartbeats 4000000 in
set_option maxRecDepth 100000 in
theorem cursor_step_C (g : Nat) (s : ByteArray) (c0 c1 c2 c3 fr i : Int) (A : Option Addr) (n cap base : Nat) (xs : List Int) (w : World)
    (hg : w.heap[g]? = some (.cells #[.string s, .int .i64 c0, .int .i64 c1, .int .i64 c2, .int .i64 c3, .int .i64 fr, .int .i64 i, .slice A n cap] 95 (0, 0))) (ho : Kd.R (Kd.int .i64) 3 w base (fun k => k ≠ g) (.slice A n cap) xs) (hb : base ≤ w.heap.size) (hgb : base ≤ g)
    (hs : s.size ≤ 16384) (h0 : 0 ≤ fr) (h1 : fr ≤ i) (h2 : i < s.size) (hl : xs.length ≤ 16384) (ys : List Int) (HY : Aside0 (xs ++ [i + 1] = ys)) (HN : Aside0 (((i + 1 : Int) == (s.size : Int)) = false)) (HM : Aside0 (((i + 1 - fr : Int) == c1) = false)) (HD : Aside0 (decide (c0 ≤ i + 1 - fr) = true)) (h3 : 1 ≤ c3) (wt : Int) (HWT : Aside0 (chunk_Weight.f (s.extract fr.toNat (i + 1).toNat) c2 = some wt)) (HWQ : Aside0 (IntKind.i64.wrap (wt.tmod c3) = wt.tmod c3)) (HQ : Aside0 ((wt.tmod c3 == 0) = true)) :
    Calls Try.prog 65 #[.pointer (some ⟨g, 0, none⟩)] w fun e w' => ∃ v, e = .returned (.tuple #[]) ∧ w'.heap[g]? = some (.cells #[.string s, .int .i64 c0, .int .i64 c1, .int .i64 c2, .int .i64 c3, .int .i64 (i + 1), .int .i64 (i + 1), v] 95 (0, 0)) ∧ Kd.R (Kd.int .i64) 3 w' base (fun k => k ≠ g) v ys ∧ Below base w w' := by
  have hu := Try.underlying95
  have HO := Aside0.mk ho
  have HG := Aside0.mk hg
  have HGL := Aside0.mk (blk_lt hg)
  have k6 := blk_cell hg 6
  have l6 := blk_frozen hg 6
  clear ho
  go_enter Try.func65, Try.ntmps65
  clear hg
  go_wp2
  have HG1 := Aside0.mk (blk_set HG.out 6 (.int .i64 (i + 1)))
  have HB1 := Aside0.mk ((Below.refl base w).setCell (p := ⟨g, 6, none⟩) hgb (.int .i64 (i + 1)))
  have HO1 := Aside0.mk (Kd.R_far HO.out (p := ⟨g, 6, none⟩) (fun k h_ => h_) (.int .i64 (i + 1)))
  have hz1 : base ≤ (w.setCell ⟨g, 6, none⟩ (.int .i64 (i + 1))).heap.size := by simpa [World.setCell] using hb
  clear k6 l6 HG HO hb HGL
  generalize w.setCell ⟨g, 6, none⟩ (.int .i64 (i + 1)) = W1 at *
  have hg1 : W1.heap[g]? = some (.cells #[.string s, .int .i64 c0, .int .i64 c1, .int .i64 c2, .int .i64 c3, .int .i64 fr, .int .i64 (i + 1), .slice A n cap] 95 (0, 0)) := HG1.out
  have k0 := blk_cell hg1 0; have k1 := blk_cell hg1 1; have k2 := blk_cell hg1 2; have k3 := blk_cell hg1 3; have k4 := blk_cell hg1 4; have k5 := blk_cell hg1 5; have k6 := blk_cell hg1 6; have k7 := blk_cell hg1 7
  clear hg1
  go_quiet (fail)
  replace HG1 : Aside0 ((W1.drewN nq).heap[g]? = some (.cells #[.string s, .int .i64 c0, .int .i64 c1, .int .i64 c2, .int .i64 c3, .int .i64 fr, .int .i64 (i + 1), .slice A n cap] 95 (0, 0))) := ⟨HG1.out⟩
  replace HO1 : Aside0 (Kd.R (Kd.int .i64) 3 (W1.drewN nq) base (fun k => k ≠ g) (.slice A n cap) xs) := ⟨HO1.out⟩
  replace HB1 : Aside0 (Below base w (W1.drewN nq)) := ⟨pw_below_drewN HB1.out nq⟩
  replace hz1 : base ≤ (W1.drewN nq).heap.size := hz1
  clear k0 k1 k2 k3 k4 k5 k6 k7
  generalize W1.drewN nq = W2 at *
  have hg1 : W2.heap[g]? = some (.cells #[.string s, .int .i64 c0, .int .i64 c1, .int .i64 c2, .int .i64 c3, .int .i64 fr, .int .i64 (i + 1), .slice A n cap] 95 (0, 0)) := HG1.out
  have k0 := blk_cell hg1 0
  have k1 := blk_cell hg1 1
  have k2 := blk_cell hg1 2
  have k3 := blk_cell hg1 3
  have k4 := blk_cell hg1 4
  have k5 := blk_cell hg1 5
  have k6 := blk_cell hg1 6
  have k7 := blk_cell hg1 7
  clear hg1
  go_wp2_with fail
  have b0 : ((i + 1 : Int) == (s.size : Int)) = false := HN.out
  have b1 : ((i + 1 - fr : Int) == c1) = false := HM.out
  have b2 : decide (c0 ≤ i + 1 - fr) = true := HD.out
  have b3 := HQ.out
  have hwq : IntKind.i64.wrap (wt.tmod c3) = wt.tmod c3 := HWQ.out
  have hc30 : ¬ (c3 = 0) := by omega
  have hc31 : (c3 == 0) = false := by simp only [beq_eq_false_iff_ne]; omega
  have hc32 := eq_false hc30
  have hsl0 : 0 ≤ i + 1 := by omega
  have hsl1 : fr ≤ i + 1 := by omega
  have hsl2 : i + 1 ≤ (s.size : Int) := by omega
  go_region_held3 (fun w' => w'.cell? ⟨g, 0, none⟩ = some (.string s) ∧ w'.cell? ⟨g, 1, none⟩ = some (.int .i64 c0) ∧ w'.cell? ⟨g, 2, none⟩ = some (.int .i64 c1) ∧ w'.cell? ⟨g, 3, none⟩ = some (.int .i64 c2) ∧ w'.cell? ⟨g, 4, none⟩ = some (.int .i64 c3) ∧ w'.cell? ⟨g, 5, none⟩ = some (.int .i64 fr) ∧ w'.cell? ⟨g, 6, none⟩ = some (.int .i64 (i + 1))) (first | go_keep | (exact ⟨k0, k1, k2, k3, k4, k5, k6⟩)) (first | (go_at_call 41; refine (chunk_Weight.calls (s.extract fr.toNat (i + 1).toNat) c2 wt _ HWT.out).mono ?_; rintro e W3 ⟨rfl, hb_⟩; have hbb : Below W2.heap.size W2 W3 := (by first | exact hb_ | exact below_step (below_drew (Below.refl _ _)) hb_); have HG3 := Aside0.mk ((hbb.block g (blk_lt HG1.out)).trans HG1.out); have HO3 := Aside0.mk (Kd.R_below HO1.out hbb); have HB3 := Aside0.mk (HB1.out.trans (hbb.mono hz1)); have hz3 := Nat.le_trans hz1 hbb.size; clear hb_ hbb; clear k0 k1 k2 k3 k4 k5 k6 k7; have k0 := blk_cell HG3.out 0; have k1 := blk_cell HG3.out 1; have k2 := blk_cell HG3.out 2; have k3 := blk_cell HG3.out 3; have k4 := blk_cell HG3.out 4; have k5 := blk_cell HG3.out 5; have k6 := blk_cell HG3.out 6; have k7 := blk_cell HG3.out 7))
  clear HG1 HO1 HB1 hz1
  have HG1 := HG3; have HO1 := HO3; have HB1 := HB3; have hz1 := hz3
  clear HG3 HO3 HB3 hz3
  clear hwq hsl0 hsl1 hsl2 hc30 hc31 hc32
  go_wp2_with fail
  clear b0 b1 b2 b3
  have hgl : (W3.alloc (.cells #[.int .i64 (i + 1)] 3)).cell? ⟨g, 7, none⟩ = some (.slice A n cap) := pw_cell_below (below_alloc (Below.refl W3.heap.size W3) _) k7
  go_region_law ((rw [show (W3.alloc (.cells #[.int .i64 (i + 1)] 3)).drew = W3.drew.alloc (.cells #[.int .i64 (i + 1)] 3) from rfl]; refine Kd.R_append_step (Kd.int .i64) (w0 := W3) base ?hw (.tmp 79) (.tmp 84) 52 3 (.int .i64 0) 8 ?h1_ Try.underlying52 info3 rfl (by decide) (by omega) (.slice A n cap) xs (i + 1) [.int .i64 (i + 1)] (fun k => k ≠ g) (fun _ => False) ?h2_ ?h3_ rfl (fun _ hk => hk.elim) ?h4_ ?h5_ ?h6_ ?h7_ ?h8_ ?_; (case hw => rfl); (case h1_ => rfl); (case h2_ => rfl); (case h3_ => first | rfl | (go_simp; done) | (go_simp; rfl)); (case h4_ => exact (fun k hk e => absurd (blk_lt HG1.out) (by subst e; exact Nat.not_lt.2 hk))); (case h5_ => exact HO1.out); (case h6_ => exact below_drew (Below.refl _ _)); (case h7_ => exact hz1); (case h8_ => omega); intro v1 W4 ho hb hg_ hat; rw [HY.out] at ho; obtain ⟨A1, d1, rfl⟩ := Kd.R_slice ho; have hb4 := blk_grown (g := g) (o := .cells #[.string s, .int .i64 c0, .int .i64 c1, .int .i64 c2, .int .i64 c3, .int .i64 fr, .int .i64 (i + 1), .slice A n cap] 95 (0, 0)) (by exact HG1.out) hg_ (Kd.R_away HO1.out (fun _ hk => hk)); have m7 := blk_cell hb4 7; have m7' := blk_frozen hb4 7; have HG4 := Aside0.mk hb4; have HO4 := Aside0.mk ho; have HB4 := Aside0.mk hb; have HG5 := Aside0.mk hg_; clear ho hb hg_ hat hb4))
  all_goals
    have hs8 : (W4.setCell ⟨g, 7, none⟩ (.slice A1 ys.length d1)).heap[g]? = some (.cells #[.string s, .int .i64 c0, .int .i64 c1, .int .i64 c2, .int .i64 c3, .int .i64 fr, .int .i64 (i + 1), .slice A1 ys.length d1] 95 (0, 0)) := blk_set HG4.out 7 _
    have q6 := blk_cell hs8 6
    have q5 := blk_cell hs8 5
    have q5' := blk_frozen hs8 5
    have HS8 := Aside0.mk hs8
    clear hs8 m7 m7' hgl k0 k1 k2 k3 k4 k5 k6 k7
    go_wp2
    go_end0
    exact ⟨_, rfl, blk_set HS8.out 5 (.int .i64 (i + 1)), Kd.R_far (Kd.R_far HO4.out (p := ⟨g, 7, none⟩) (fun k h => h) _) (p := ⟨g, 5, none⟩) (fun k h => h) _, ((HB1.out.trans HB4.out).setCell (p := ⟨g, 7, none⟩) hgb _).setCell (p := ⟨g, 5, none⟩) hgb _⟩


set_option maxHeartbeats 4000000 in
set_option maxRecDepth 100000 in
theorem cursor_step_E (g : Nat) (s : ByteArray) (c0 c1 c2 c3 fr i : Int) (A : Option Addr) (n cap base : Nat) (xs : List Int) (w : World)
    (hg : w.heap[g]? = some (.cells #[.string s, .int .i64 c0, .int .i64 c1, .int .i64 c2, .int .i64 c3, .int .i64 fr, .int .i64 i, .slice A n cap] 95 (0, 0))) (ho : Kd.R (Kd.int .i64) 3 w base (fun k => k ≠ g) (.slice A n cap) xs) (hb : base ≤ w.heap.size) (hgb : base ≤ g)
    (hs : s.size ≤ 16384) (h0 : 0 ≤ fr) (h1 : fr ≤ i) (h2 : i < s.size) (hl : xs.length ≤ 16384) (HN : Aside0 (((i + 1 : Int) == (s.size : Int)) = false)) (HM : Aside0 (((i + 1 - fr : Int) == c1) = false)) (HD : Aside0 (decide (c0 ≤ i + 1 - fr) = true)) (h3 : 1 ≤ c3) (wt : Int) (HWT : Aside0 (chunk_Weight.f (s.extract fr.toNat (i + 1).toNat) c2 = some wt)) (HWQ : Aside0 (IntKind.i64.wrap (wt.tmod c3) = wt.tmod c3)) (HQ : Aside0 ((wt.tmod c3 == 0) = false)) :
    Calls Try.prog 65 #[.pointer (some ⟨g, 0, none⟩)] w fun e w' => ∃ v, e = .returned (.tuple #[]) ∧ w'.heap[g]? = some (.cells #[.string s, .int .i64 c0, .int .i64 c1, .int .i64 c2, .int .i64 c3, .int .i64 fr, .int .i64 (i + 1), v] 95 (0, 0)) ∧ Kd.R (Kd.int .i64) 3 w' base (fun k => k ≠ g) v xs ∧ Below base w w' := by
  have hu := Try.underlying95
  have HO := Aside0.mk ho
  have HG := Aside0.mk hg
  have HGL := Aside0.mk (blk_lt hg)
  have k6 := blk_cell hg 6
  have l6 := blk_frozen hg 6
  clear ho
  go_enter Try.func65, Try.ntmps65
  clear hg
  go_wp2
  have HG1 := Aside0.mk (blk_set HG.out 6 (.int .i64 (i + 1)))
  have HB1 := Aside0.mk ((Below.refl base w).setCell (p := ⟨g, 6, none⟩) hgb (.int .i64 (i + 1)))
  have HO1 := Aside0.mk (Kd.R_far HO.out (p := ⟨g, 6, none⟩) (fun k h_ => h_) (.int .i64 (i + 1)))
  have hz1 : base ≤ (w.setCell ⟨g, 6, none⟩ (.int .i64 (i + 1))).heap.size := by simpa [World.setCell] using hb
  clear k6 l6 HG HO hb HGL
  generalize w.setCell ⟨g, 6, none⟩ (.int .i64 (i + 1)) = W1 at *
  have hg1 : W1.heap[g]? = some (.cells #[.string s, .int .i64 c0, .int .i64 c1, .int .i64 c2, .int .i64 c3, .int .i64 fr, .int .i64 (i + 1), .slice A n cap] 95 (0, 0)) := HG1.out
  have k0 := blk_cell hg1 0; have k1 := blk_cell hg1 1; have k2 := blk_cell hg1 2; have k3 := blk_cell hg1 3; have k4 := blk_cell hg1 4; have k5 := blk_cell hg1 5; have k6 := blk_cell hg1 6; have k7 := blk_cell hg1 7
  clear hg1
  go_quiet (fail)
  replace HG1 : Aside0 ((W1.drewN nq).heap[g]? = some (.cells #[.string s, .int .i64 c0, .int .i64 c1, .int .i64 c2, .int .i64 c3, .int .i64 fr, .int .i64 (i + 1), .slice A n cap] 95 (0, 0))) := ⟨HG1.out⟩
  replace HO1 : Aside0 (Kd.R (Kd.int .i64) 3 (W1.drewN nq) base (fun k => k ≠ g) (.slice A n cap) xs) := ⟨HO1.out⟩
  replace HB1 : Aside0 (Below base w (W1.drewN nq)) := ⟨pw_below_drewN HB1.out nq⟩
  replace hz1 : base ≤ (W1.drewN nq).heap.size := hz1
  clear k0 k1 k2 k3 k4 k5 k6 k7
  generalize W1.drewN nq = W2 at *
  have hg1 : W2.heap[g]? = some (.cells #[.string s, .int .i64 c0, .int .i64 c1, .int .i64 c2, .int .i64 c3, .int .i64 fr, .int .i64 (i + 1), .slice A n cap] 95 (0, 0)) := HG1.out
  have k0 := blk_cell hg1 0
  have k1 := blk_cell hg1 1
  have k2 := blk_cell hg1 2
  have k3 := blk_cell hg1 3
  have k4 := blk_cell hg1 4
  have k5 := blk_cell hg1 5
  have k6 := blk_cell hg1 6
  have k7 := blk_cell hg1 7
  clear hg1
  go_wp2_with fail
  have b0 : ((i + 1 : Int) == (s.size : Int)) = false := HN.out
  have b1 : ((i + 1 - fr : Int) == c1) = false := HM.out
  have b2 : decide (c0 ≤ i + 1 - fr) = true := HD.out
  have b3 := HQ.out
  have hwq : IntKind.i64.wrap (wt.tmod c3) = wt.tmod c3 := HWQ.out
  have hc30 : ¬ (c3 = 0) := by omega
  have hc31 : (c3 == 0) = false := by simp only [beq_eq_false_iff_ne]; omega
  have hc32 := eq_false hc30
  have hsl0 : 0 ≤ i + 1 := by omega
  have hsl1 : fr ≤ i + 1 := by omega
  have hsl2 : i + 1 ≤ (s.size : Int) := by omega
  go_region_held3 (fun w' => w'.cell? ⟨g, 0, none⟩ = some (.string s) ∧ w'.cell? ⟨g, 1, none⟩ = some (.int .i64 c0) ∧ w'.cell? ⟨g, 2, none⟩ = some (.int .i64 c1) ∧ w'.cell? ⟨g, 3, none⟩ = some (.int .i64 c2) ∧ w'.cell? ⟨g, 4, none⟩ = some (.int .i64 c3) ∧ w'.cell? ⟨g, 5, none⟩ = some (.int .i64 fr) ∧ w'.cell? ⟨g, 6, none⟩ = some (.int .i64 (i + 1))) (first | go_keep | (exact ⟨k0, k1, k2, k3, k4, k5, k6⟩)) (first | (go_at_call 41; refine (chunk_Weight.calls (s.extract fr.toNat (i + 1).toNat) c2 wt _ HWT.out).mono ?_; rintro e W3 ⟨rfl, hb_⟩; have hbb : Below W2.heap.size W2 W3 := (by first | exact hb_ | exact below_step (below_drew (Below.refl _ _)) hb_); have HG3 := Aside0.mk ((hbb.block g (blk_lt HG1.out)).trans HG1.out); have HO3 := Aside0.mk (Kd.R_below HO1.out hbb); have HB3 := Aside0.mk (HB1.out.trans (hbb.mono hz1)); have hz3 := Nat.le_trans hz1 hbb.size; clear hb_ hbb; clear k0 k1 k2 k3 k4 k5 k6 k7; have k0 := blk_cell HG3.out 0; have k1 := blk_cell HG3.out 1; have k2 := blk_cell HG3.out 2; have k3 := blk_cell HG3.out 3; have k4 := blk_cell HG3.out 4; have k5 := blk_cell HG3.out 5; have k6 := blk_cell HG3.out 6; have k7 := blk_cell HG3.out 7))
  clear HG1 HO1 HB1 hz1
  have HG1 := HG3; have HO1 := HO3; have HB1 := HB3; have hz1 := hz3
  clear HG3 HO3 HB3 hz3
  clear hwq hsl0 hsl1 hsl2 hc30 hc31 hc32
  go_wp2_with fail
  go_end0
  exact ⟨_, rfl, HG1.out, HO1.out, HB1.out⟩

def cutB (s : ByteArray) (c0 c1 c2 c3 : Int) (fr a : Int) : Bool := (a == (s.size : Int)) || (a - fr == c1) || (decide (c0 ≤ a - fr) && ((weight (s.extract fr.toNat a.toNat) c2).tmod c3 == 0))
def endsL (s : ByteArray) (c0 c1 c2 c3 : Int) : Nat → Int → Int → List Int → List Int
  | 0, _, _, acc => acc
  | n + 1, fr, i, acc => if cutB s c0 c1 c2 c3 fr (i + 1) = true then endsL s c0 c1 c2 c3 n (i + 1) (i + 1) (acc ++ [i + 1]) else endsL s c0 c1 c2 c3 n fr (i + 1) acc
theorem cursor_step_yes (g : Nat) (s : ByteArray) (c0 c1 c2 c3 fr i : Int) (A : Option Addr) (n cap base : Nat) (xs : List Int) (w : World)
    (hg : w.heap[g]? = some (.cells #[.string s, .int .i64 c0, .int .i64 c1, .int .i64 c2, .int .i64 c3, .int .i64 fr, .int .i64 i, .slice A n cap] 95 (0, 0))) (ho : Kd.R (Kd.int .i64) 3 w base (fun k => k ≠ g) (.slice A n cap) xs) (hb : base ≤ w.heap.size) (hgb : base ≤ g)
    (hs : s.size ≤ 16384) (h0 : 0 ≤ fr) (h1 : fr ≤ i) (h2 : i < s.size) (hl : xs.length ≤ 16384) (h3 : 1 ≤ c3) (h4 : c3 ≤ 1024) (hc : cutB s c0 c1 c2 c3 fr (i + 1) = true) :
    Calls Try.prog 65 #[.pointer (some ⟨g, 0, none⟩)] w fun e w' => ∃ v, e = .returned (.tuple #[]) ∧ w'.heap[g]? = some (.cells #[.string s, .int .i64 c0, .int .i64 c1, .int .i64 c2, .int .i64 c3, .int .i64 (i + 1), .int .i64 (i + 1), v] 95 (0, 0)) ∧ Kd.R (Kd.int .i64) 3 w' base (fun k => k ≠ g) v (xs ++ [i + 1]) ∧ Below base w w' := by
  have hw : chunk_Weight.f (s.extract fr.toNat (i + 1).toNat) c2 = some (weight (s.extract fr.toNat (i + 1).toNat) c2) := if_pos (by simp; omega)
  have hq : IntKind.i64.wrap ((weight (s.extract fr.toNat (i + 1).toNat) c2).tmod c3) = (weight (s.extract fr.toNat (i + 1).toNat) c2).tmod c3 := by
    have a := Int.tmod_lt_of_pos (weight (s.extract fr.toNat (i + 1).toNat) c2) (show 0 < c3 by omega)
    have b := Int.tmod_lt_of_pos (-(weight (s.extract fr.toNat (i + 1).toNat) c2)) (show 0 < c3 by omega)
    rw [Int.neg_tmod] at b
    exact IntWalk.i64_in _ (by omega)
  unfold cutB at hc
  cases b1 : (i + 1 : Int) == (s.size : Int)
  · cases b2 : (i + 1 - fr : Int) == c1
    · rw [b1, b2] at hc
      simp only [Bool.false_or, Bool.and_eq_true] at hc
      exact cursor_step_C g s c0 c1 c2 c3 fr i A n cap base xs w hg ho hb hgb hs h0 h1 h2 hl _ ⟨rfl⟩ ⟨b1⟩ ⟨b2⟩ ⟨hc.1⟩ h3 _ ⟨hw⟩ ⟨hq⟩ ⟨hc.2⟩
    · exact cursor_step_B g s c0 c1 c2 c3 fr i A n cap base xs w hg ho hb hgb hs h0 h1 h2 hl _ ⟨rfl⟩ ⟨b1⟩ ⟨b2⟩
  · exact cursor_step_A g s c0 c1 c2 c3 fr i A n cap base xs w hg ho hb hgb hs h0 h1 h2 hl _ ⟨rfl⟩ ⟨b1⟩
theorem cursor_step_no (g : Nat) (s : ByteArray) (c0 c1 c2 c3 fr i : Int) (A : Option Addr) (n cap base : Nat) (xs : List Int) (w : World)
    (hg : w.heap[g]? = some (.cells #[.string s, .int .i64 c0, .int .i64 c1, .int .i64 c2, .int .i64 c3, .int .i64 fr, .int .i64 i, .slice A n cap] 95 (0, 0))) (ho : Kd.R (Kd.int .i64) 3 w base (fun k => k ≠ g) (.slice A n cap) xs) (hb : base ≤ w.heap.size) (hgb : base ≤ g)
    (hs : s.size ≤ 16384) (h0 : 0 ≤ fr) (h1 : fr ≤ i) (h2 : i < s.size) (hl : xs.length ≤ 16384) (h3 : 1 ≤ c3) (h4 : c3 ≤ 1024) (hc : cutB s c0 c1 c2 c3 fr (i + 1) = false) :
    Calls Try.prog 65 #[.pointer (some ⟨g, 0, none⟩)] w fun e w' => ∃ v, e = .returned (.tuple #[]) ∧ w'.heap[g]? = some (.cells #[.string s, .int .i64 c0, .int .i64 c1, .int .i64 c2, .int .i64 c3, .int .i64 fr, .int .i64 (i + 1), v] 95 (0, 0)) ∧ Kd.R (Kd.int .i64) 3 w' base (fun k => k ≠ g) v xs ∧ Below base w w' := by
  have hw : chunk_Weight.f (s.extract fr.toNat (i + 1).toNat) c2 = some (weight (s.extract fr.toNat (i + 1).toNat) c2) := if_pos (by simp; omega)
  have hq : IntKind.i64.wrap ((weight (s.extract fr.toNat (i + 1).toNat) c2).tmod c3) = (weight (s.extract fr.toNat (i + 1).toNat) c2).tmod c3 := by
    have a := Int.tmod_lt_of_pos (weight (s.extract fr.toNat (i + 1).toNat) c2) (show 0 < c3 by omega)
    have b := Int.tmod_lt_of_pos (-(weight (s.extract fr.toNat (i + 1).toNat) c2)) (show 0 < c3 by omega)
    rw [Int.neg_tmod] at b
    exact IntWalk.i64_in _ (by omega)
  unfold cutB at hc
  simp only [Bool.or_eq_false_iff, Bool.and_eq_false_iff] at hc
  obtain ⟨⟨b1, b2⟩, hc⟩ := hc
  cases b3 : decide (c0 ≤ i + 1 - fr)
  · exact cursor_step_D g s c0 c1 c2 c3 fr i A n cap base xs w hg ho hb hgb hs h0 h1 h2 hl ⟨b1⟩ ⟨b2⟩ ⟨b3⟩
  · rcases hc with hc | hc
    · rw [b3] at hc; cases hc
    · exact cursor_step_E g s c0 c1 c2 c3 fr i A n cap base xs w hg ho hb hgb hs h0 h1 h2 hl ⟨b1⟩ ⟨b2⟩ ⟨b3⟩ h3 _ ⟨hw⟩ ⟨hq⟩ ⟨hc⟩
theorem chunk_Check.ok_ (c0 c1 c2 c3 : Int) (h : chunk_Check.f c0 c1 c2 c3 = some 0) : 4 ≤ c0 ∧ c0 ≤ c1 ∧ c1 ≤ 256 ∧ 1 ≤ c2 ∧ c2 ≤ c0 ∧ 1 ≤ c3 ∧ c3 ≤ 1024 := by
  unfold chunk_Check.f at h
  repeat' (split at h)
  all_goals first | (cases h; done) | (injection h with h; cases h; done) | (refine ⟨?_, ?_, ?_, ?_, ?_, ?_, ?_⟩ <;> omega)
theorem chunk_Check.some_ (c0 c1 c2 c3 : Int) : ∃ t, chunk_Check.f c0 c1 c2 c3 = some t := by
  unfold chunk_Check.f
  repeat' split
  all_goals exact ⟨_, rfl⟩
theorem endsL_len (s : ByteArray) (c0 c1 c2 c3 : Int) : ∀ (n : Nat) (fr i : Int) (acc : List Int), (endsL s c0 c1 c2 c3 n fr i acc).length ≤ acc.length + n := by
  intro n
  induction n with
  | zero => intro fr i acc; exact Nat.le_refl _
  | succ n ih =>
    intro fr i acc
    simp only [endsL]
    split
    · have := ih (i + 1) (i + 1) (acc ++ [i + 1]); rw [List.length_append] at this; simp at this; omega
    · have := ih fr (i + 1) acc; omega
def chunk_Ends.f (a0 : ByteArray) (a1_0 : Int) (a1_1 : Int) (a1_2 : Int) (a1_3 : Int) : Option (List Int × Int) := (chunk_Check.f a1_0 a1_1 a1_2 a1_3).bind fun t => if t = 0 then (if (a0.size : Int) > 16384 then some ([], 4) else (if ((endsL a0 a1_0 a1_1 a1_2 a1_3 a0.size 0 0 []).length : Int) > 256 then some ([], 4) else some (endsL a0 a1_0 a1_1 a1_2 a1_3 a0.size 0 0 [], 0))) else some ([], t)
set_option maxHeartbeats 4000000 in
set_option maxRecDepth 100000 in
theorem chunk_Ends.calls (a0 : ByteArray) (a1_0 : Int) (a1_1 : Int) (a1_2 : Int) (a1_3 : Int) (r1 : List Int) (r2 : Int) (w : World) (h : chunk_Ends.f a0 a1_0 a1_1 a1_2 a1_3 = some (r1, r2)) :
    Calls Try.prog 45 #[.string a0, .agg #[.int .i64 a1_0, .int .i64 a1_1, .int .i64 a1_2, .int .i64 a1_3]] w fun e w' => ∃ v0_ : Value, e = .returned (.tuple #[v0_, .int .i64 r2]) ∧ Kd.R (Kd.int .i64) 3 w' w.heap.size (fun _ => True) v0_ r1 ∧ Below w.heap.size w w' := by
  obtain ⟨t, ht⟩ := chunk_Check.some_ a1_0 a1_1 a1_2 a1_3
  unfold chunk_Ends.f at h
  rw [ht] at h
  have h : (if t = 0 then (if (a0.size : Int) > 16384 then some ([], 4) else (if ((endsL a0 a1_0 a1_1 a1_2 a1_3 a0.size 0 0 []).length : Int) > 256 then some ([], 4) else some (endsL a0 a1_0 a1_1 a1_2 a1_3 a0.size 0 0 [], 0))) else some ([], t)) = some (r1, r2) := h
  have HT := Aside0.mk ht
  have hu := Try.underlying58
  have hv := Try.underlying95
  by_cases h0 : t = 0
  · rw [if_pos h0] at h
    have hc := chunk_Check.ok_ a1_0 a1_1 a1_2 a1_3 (by rw [← h0]; exact ht)
    subst h0
    clear ht
    by_cases h1 : (a0.size : Int) > 16384
    · rw [if_pos h1] at h
      have e1 := congrArg Prod.fst (Option.some.inj h)
      have e2 := congrArg Prod.snd (Option.some.inj h)
      dsimp only at e1 e2
      subst e1 e2
      clear h
      go_enter Try.func45, Try.ntmps45
      go_wp2_with fail
      refine (chunk_Check.calls a1_0 a1_1 a1_2 a1_3 0 _ HT.out).mono ?_
      rintro e w1 ⟨rfl, hb⟩
      go_wp2
      go_ret2
      exact ⟨_, rfl, Kd.R_nil _ _ _ _ _, below_step (below_alloc (Below.refl _ _) _) hb⟩
    · rw [if_neg h1] at h
      have H := Aside0.mk h
      clear h
      have hsz : a0.size ≤ 16384 := by omega
      obtain ⟨c1, c2, c3, c4, c5, c6, c7⟩ := hc
      go_enter Try.func45, Try.ntmps45
      go_wp2_with fail
      have HA := Aside0.mk (blk_new w (.cells #[.int .i64 a1_0, .int .i64 a1_1, .int .i64 a1_2, .int .i64 a1_3] 58 (0, 0)))
      refine (chunk_Check.calls a1_0 a1_1 a1_2 a1_3 0 _ HT.out).mono ?_
      rintro e w1 ⟨rfl, hb⟩
      have ha := (hb.block w.heap.size (by simp)).trans HA.out
      have k0 := blk_cell ha 0; have k1 := blk_cell ha 1; have k2 := blk_cell ha 2; have k3 := blk_cell ha 3
      have HB := Aside0.mk (below_step (below_alloc (Below.refl _ _) _) hb)
      clear hb ha HA
      go_wp2_with fail
      obtain ⟨L, hL⟩ : ∃ L, endsL a0 a1_0 a1_1 a1_2 a1_3 a0.size 0 0 [] = L := ⟨_, rfl⟩
      rw [hL] at H
      have HL := Aside0.mk hL
      clear hL k0 k1 k2 k3
      have hg := blk_new w1 (.cells #[.string a0, .int .i64 a1_0, .int .i64 a1_1, .int .i64 a1_2, .int .i64 a1_3, .int .i64 0, .int .i64 0, .slice none 0 0] 95 (0, 0))
      have hgb : w.heap.size ≤ w1.heap.size := HB.out.size
      replace HB := Aside0.mk (below_alloc HB.out (.cells #[.string a0, .int .i64 a1_0, .int .i64 a1_1, .int .i64 a1_2, .int .i64 a1_3, .int .i64 0, .int .i64 0, .slice none 0 0] 95 (0, 0)))
      obtain ⟨g, hgd⟩ : ∃ g, g = w1.heap.size := ⟨_, rfl⟩
      rw [← hgd] at hg hgb ⊢
      clear hgd
      have HG := Aside0.mk hg
      clear hg
      generalize w1.alloc (.cells #[.string a0, .int .i64 a1_0, .int .i64 a1_1, .int .i64 a1_2, .int .i64 a1_3, .int .i64 0, .int .i64 0, .slice none 0 0] 95 (0, 0)) = W2 at *
      go_loopg [] a0.size (fun kq w' => ∃ (fr i : Int) (A : Option Addr) (n cap : Nat) (xs : List Int), 0 ≤ fr ∧ fr ≤ i ∧ i ≤ a0.size ∧ (a0.size : Int) - i = kq ∧ (xs.length : Int) ≤ i ∧ Aside0 (w'.heap[g]? = some (.cells #[.string a0, .int .i64 a1_0, .int .i64 a1_1, .int .i64 a1_2, .int .i64 a1_3, .int .i64 fr, .int .i64 i, .slice A n cap] 95 (0, 0))) ∧ Aside0 (Kd.R (Kd.int .i64) 3 w' w.heap.size (fun k => k ≠ g) (.slice A n cap) xs) ∧ Aside0 (Below w.heap.size w w') ∧ Aside0 (endsL a0 a1_0 a1_1 a1_2 a1_3 kq fr i xs = L))
      case atStart => exact ⟨0, 0, none, 0, 0, [], by omega, by omega, by omega, by omega, by simp, HG, ⟨Kd.R_nil _ _ _ _ _⟩, HB, HL⟩
      case round =>
        clear HG HB HL
        obtain ⟨fr, i, A, n, cap, xs, hf0, hf1, hi1, hk, hx, HG, HO, HB, HL⟩ := hrel
        have k6 := blk_cell HG.out 6
        have k7 := blk_cell HG.out 7
        by_cases hlt : i < (a0.size : Int)
        · obtain ⟨k1, rfl⟩ : ∃ m, gk = m + 1 := ⟨gk - 1, by omega⟩
          have hL := HL.out
          simp only [endsL] at hL
          cases hcut : cutB a0 a1_0 a1_1 a1_2 a1_3 fr (i + 1)
          · rw [hcut] at hL
            have HC := Aside0.mk hcut
            have HL1 := Aside0.mk hL
            clear hcut hL HL
            go_wp2_with fail
            refine (cursor_step_no g a0 a1_0 a1_1 a1_2 a1_3 fr i A n cap w.heap.size xs _ HG.out HO.out HB.out.size hgb hsz hf0 hf1 hlt (by omega) c6 c7 HC.out).mono ?_
            rintro e w3 ⟨v, rfl, hg1, ho1, hb1⟩
            obtain ⟨A1, d1, rfl⟩ := Kd.R_slice ho1
            have HG1 := Aside0.mk hg1; have HO1 := Aside0.mk ho1; have HB1 := Aside0.mk (HB.out.trans hb1)
            clear hg1 ho1 hb1
            go_wp2
            go_roundg k1
            case measure => omega
            case rel => exact ⟨fr, i + 1, A1, xs.length, d1, xs, by omega, by omega, by omega, by omega, by omega, HG1, HO1, HB1, ⟨HL1.out⟩⟩
          · rw [hcut] at hL
            have HC := Aside0.mk hcut
            have HL1 := Aside0.mk hL
            clear hcut hL HL
            go_wp2_with fail
            refine (cursor_step_yes g a0 a1_0 a1_1 a1_2 a1_3 fr i A n cap w.heap.size xs _ HG.out HO.out HB.out.size hgb hsz hf0 hf1 hlt (by omega) c6 c7 HC.out).mono ?_
            rintro e w3 ⟨v, rfl, hg1, ho1, hb1⟩
            obtain ⟨A1, d1, rfl⟩ := Kd.R_slice ho1
            have HG1 := Aside0.mk hg1; have HO1 := Aside0.mk ho1; have HB1 := Aside0.mk (HB.out.trans hb1)
            clear hg1 ho1 hb1
            go_wp2
            go_roundg k1
            case measure => omega
            case rel => exact ⟨i + 1, i + 1, A1, (xs ++ [i + 1]).length, d1, xs ++ [i + 1], by omega, by omega, by omega, by omega, by simp; omega, HG1, HO1, HB1, ⟨HL1.out⟩⟩
        · obtain rfl : gk = 0 := by omega
          have hL := HL.out
          simp only [endsL] at hL
          subst hL
          obtain rfl := (Kd.R_reads' HO.out).1
          by_cases h2 : (xs.length : Int) > 256
          · have H := H.out
            rw [if_pos h2] at H
            have e1 := congrArg Prod.fst (Option.some.inj H)
            have e2 := congrArg Prod.snd (Option.some.inj H)
            dsimp only at e1 e2
            subst e1 e2
            clear H
            go_wp2
            go_ret2
            exact ⟨_, rfl, Kd.R_nil _ _ _ _ _, HB.out⟩
          · have H := H.out
            rw [if_neg h2] at H
            have e1 := congrArg Prod.fst (Option.some.inj H)
            have e2 := congrArg Prod.snd (Option.some.inj H)
            dsimp only at e1 e2
            subst e1 e2
            clear H
            go_wp2
            go_ret2
            exact ⟨_, rfl, Kd.R_mono HO.out (fun _ _ => trivial), HB.out⟩
  · rw [if_neg h0] at h
    simp only [Option.some.injEq, Prod.mk.injEq] at h
    obtain ⟨rfl, rfl⟩ := h
    have h0' : (t != 0) = true := bne_iff_ne.2 h0
    clear h0 ht
    go_enter Try.func45, Try.ntmps45
    go_wp2_with fail
    refine (chunk_Check.calls a1_0 a1_1 a1_2 a1_3 t _ HT.out).mono ?_
    rintro e w1 ⟨rfl, hb⟩
    go_wp2
    go_ret2
    exact ⟨_, rfl, Kd.R_nil _ _ _ _ _, below_step (below_alloc (Below.refl _ _) _) hb⟩


/-! ### chunk_Cut: function 39 -/
def chunk_Cut.l0 : Nat → ByteArray → List ByteArray → Int → List Int → Int → Int → Option (List ByteArray × Int)
  | 0, _, _, _, _, _, _ => none
  | k + 1, x0, x8, x9, x21, x22, x23 => if x23 < x22 then (if 0 ≤ x23 then (if x23 < (x21.length : Int) then (if 0 ≤ x9 then (if x9 ≤ (rd x21 x23) then (if (rd x21 x23) ≤ (x0.size : Int) then (if x8.length < 8796093022208 then (chunk_Cut.l0 k x0 (x8 ++ [x0.extract (x9 : Int).toNat ((rd x21 x23) : Int).toNat]) (rd x21 x23) x21 x22 (wrap64 (x23 + 1))) else (none)) else (none)) else (none)) else (none)) else (none)) else (none)) else (some (x8, 0))
def chunk_Cut.f (k : Nat) (a0 : ByteArray) (a1_0 : Int) (a1_1 : Int) (a1_2 : Int) (a1_3 : Int) : Option (List ByteArray × Int) := (chunk_Ends.f a0 a1_0 a1_1 a1_2 a1_3).bind fun bt103 => (if bt103.2 = 0 then (chunk_Cut.l0 k a0 ([] : List ByteArray) 0 bt103.1 (bt103.1.length : Int) 0) else (some (([] : List ByteArray), bt103.2)))
theorem chunk_Cut.mono_l : ∀ k, (∀ y0 y1 y2 y3 y4 y5, LeO (chunk_Cut.l0 k y0 y1 y2 y3 y4 y5) (chunk_Cut.l0 (k + 1) y0 y1 y2 y3 y4 y5))
  | 0 => fun _ _ _ _ _ _ r h => by simp [chunk_Cut.l0] at h
  | k + 1 => by
    have ih0 := chunk_Cut.mono_l k
    · intro y0 y1 y2 y3 y4 y5
      unfold chunk_Cut.l0
      repeat' first
      | (with_reducible exact ih0 _ _ _ _ _ _)
      | (with_reducible exact LeO.refl _)
      | (with_reducible exact LeO.none _)
      | (with_reducible refine LeO.ite ?_ ?_)
      | (with_reducible refine LeO.bind ?_ (fun _ => ?_))
      | exact ih0 _ _ _ _ _ _
      | exact LeO.none _
      | refine LeO.ite ?_ ?_
      | refine LeO.bind ?_ (fun _ => ?_)
theorem chunk_Cut.mono : ∀ a0 a1 a2 a3 a4 k, LeO (chunk_Cut.f k a0 a1 a2 a3 a4) (chunk_Cut.f (k + 1) a0 a1 a2 a3 a4) := by
  intro a0 a1 a2 a3 a4 k
  have ih0 := chunk_Cut.mono_l k
  unfold chunk_Cut.f
  repeat' first
      | (with_reducible exact ih0 _ _ _ _ _ _)
      | (with_reducible exact LeO.refl _)
      | (with_reducible exact LeO.none _)
      | (with_reducible refine LeO.ite ?_ ?_)
      | (with_reducible refine LeO.bind ?_ (fun _ => ?_))
      | exact ih0 _ _ _ _ _ _
      | exact LeO.none _
      | refine LeO.ite ?_ ?_
      | refine LeO.bind ?_ (fun _ => ?_)
set_option maxHeartbeats 8000000 in
set_option maxRecDepth 100000 in
theorem chunk_Cut.calls (k : Nat) (a0 : ByteArray) (a1_0 : Int) (a1_1 : Int) (a1_2 : Int) (a1_3 : Int) (r1 : List ByteArray) (r2 : Int) (w : World) (h : chunk_Cut.f k a0 a1_0 a1_1 a1_2 a1_3 = some (r1, r2)) :
    Calls Try.prog 39 #[.string a0, .agg #[.int .i64 a1_0, .int .i64 a1_1, .int .i64 a1_2, .int .i64 a1_3]] w fun e w' => ∃ v0_ : Value, e = .returned (.tuple #[v0_, .int .i64 r2]) ∧ Kd.R Kd.string 9 w' w.heap.size (fun _ => True) v0_ r1 ∧ Below w.heap.size w w' := by
  have hu58 := Try.underlying58
  have HB := Aside0.mk (Below.refl w.heap.size w)
  have H : ((chunk_Ends.f a0 a1_0 a1_1 a1_2 a1_3).bind fun bt103 => (if bt103.2 = 0 then (chunk_Cut.l0 k a0 ([] : List ByteArray) 0 bt103.1 (bt103.1.length : Int) 0) else (some (([] : List ByteArray), bt103.2)))) = some (r1, r2) := h
  clear h
  replace H := Option.bind_eq_some_iff.mp H
  obtain ⟨⟨t103, t106⟩, A30, H⟩ := H
  replace H : (if t106 = 0 then (chunk_Cut.l0 k a0 ([] : List ByteArray) 0 t103 (t103.length : Int) 0) else (some (([] : List ByteArray), t106))) = some (r1, r2) := H
  have A3 := Aside0.mk A30
  clear A30
  by_cases c4 : t106 = 0
  · rw [if_pos c4] at H
    have c4b0 : (t106 == 0) = true := beq_iff_eq.mpr c4
    have c4b1 : (t106 != 0) = false := bne_eq_false_iff_eq.mpr c4
    clear c4
    have H' := Aside0.mk H
    clear H
    go_enter Try.func39, Try.ntmps39
    go_wp2_with (first | ((with_reducible refine gate_dst (N := 3) rfl ?_); refine box_event ?hg (N := 3) ?hd (cs := #[.int .i64 a1_0, .int .i64 a1_1, .int .i64 a1_2, .int .i64 a1_3]) (t := 58) ?hr ?_; (case hd => rfl); (case hg => rfl); (case hr => first | (go_simp; done) | (go_simp; rfl)); intro gb102 hg w5 hbox hb; have n0_ := Aside0.mk (below_step (by repeat (first | (with_reducible first | exact HB.out | apply below_alloc | apply pw_below_drewN | apply below_drew1) | exact HB.out)) hb); have n1_ := Aside0.mk (hbox); have n2_ := Aside0.mk ((by rw [hg]; exact (below_size (by repeat (first | (with_reducible first | exact HB.out | apply below_alloc | apply pw_below_drewN | apply below_drew1) | exact HB.out))) : w.heap.size ≤ gb102)); have n3_ := Aside0.mk ((by rw [hg]; exact (below_size (by repeat (first | (with_reducible first | exact HB.out | apply below_alloc | apply pw_below_drewN | apply below_drew1) | exact HB.out))) : w.heap.size ≤ gb102)); clear HB; have HB := n0_; have BK102 := n1_; have GW102 := n2_; have GE102 := n3_; clear n0_ n1_ n2_ n3_; clear hb hbox hg; have hcz6_0 : w5.cell? ⟨gb102, 0, none⟩ = some (.int .i64 a1_0) := (blk_cell BK102.out 0).trans rfl; have hcz6_1 : w5.cell? ⟨gb102, 1, none⟩ = some (.int .i64 a1_1) := (blk_cell BK102.out 1).trans rfl; have hcz6_2 : w5.cell? ⟨gb102, 2, none⟩ = some (.int .i64 a1_2) := (blk_cell BK102.out 2).trans rfl; have hcz6_3 : w5.cell? ⟨gb102, 3, none⟩ = some (.int .i64 a1_3) := (blk_cell BK102.out 3).trans rfl; have hfz6_0 := blk_frozen BK102.out 0; have hfz6_1 := blk_frozen BK102.out 1; have hfz6_2 := blk_frozen BK102.out 2; have hfz6_3 := blk_frozen BK102.out 3) | ((with_reducible refine gate_callee (f := 45) rfl ?_); refine goesL_ (some 15) rfl rfl Try.func45 (by kernel_rfl) rfl #[.string a0, .agg #[.int .i64 a1_0, .int .i64 a1_1, .int .i64 a1_2, .int .i64 a1_3]] rfl (by (try simp only [List.map_toArray, List.map_cons, List.map_nil]); first | done | rfl | (simp only [List.length_drop, List.length_take]; rfl)) ?_; (with_reducible refine (chunk_Ends.calls a0 a1_0 a1_1 a1_2 a1_3 t103 t106 _ A3.out).mono ?_); rintro e w7 ⟨v104, rfl, ho0, hb⟩; refine ⟨_, rfl, ?_⟩; have n0_ := Aside0.mk (Kd.R_lower ho0 (below_size (by repeat (first | (with_reducible first | exact HB.out | apply below_alloc | apply pw_below_drewN | apply below_drew1 | refine below_set ?_ GE102.out) | exact HB.out)))); have n1_ := Aside0.mk (blk_below (g := gb102) (o := .cells #[.int .i64 a1_0, .int .i64 a1_1, .int .i64 a1_2, .int .i64 a1_3] 58 (0, 0)) (by (with_reducible repeat (first | refine blk_drewN ?_ _ | refine blk_drew ?_ | refine blk_alloc ?_ _)); exact BK102.out) hb); have n2_ := Aside0.mk (below_step (by repeat (first | (with_reducible first | exact HB.out | apply below_alloc | apply pw_below_drewN | apply below_drew1 | refine below_set ?_ GE102.out) | exact HB.out)) hb); clear BK102; clear HB; have HO105 := n0_; have BK102 := n1_; have HB := n2_; clear n0_ n1_ n2_; (try clear hb); (try clear hb2); (try clear hk); (try clear hi); (try clear hgw); (try clear ho0); obtain ⟨Ao8, co8, eo8⟩ := Kd.R_slice HO105.out; subst eo8))
    go_loopg [8, 9, 23] k (fun kq v8 v9 v23 w' => ∃ (x8_1 : List ByteArray) (x9_1 : Int) (x23_1 : Int), v9 = .int .i64 x9_1 ∧ v23 = .int .i64 x23_1 ∧ Aside0 (chunk_Cut.l0 kq a0 x8_1 x9_1 t103 (t103.length : Int) x23_1 = some (r1, r2)) ∧ Aside0 (kq ≤ k) ∧ Aside0 (Kd.R Kd.string 9 w' w.heap.size (fun _ => True) v8 x8_1) ∧ Aside0 (Kd.R (Kd.int .i64) 3 w' w.heap.size (fun _ => True) (.slice Ao8 t103.length co8) t103) ∧ Aside0 (w'.heap[gb102]? = some (.cells #[.int .i64 a1_0, .int .i64 a1_1, .int .i64 a1_2, .int .i64 a1_3] 58 (0, 0))) ∧ Aside0 (Below w.heap.size w w'))
    case atStart => exact ⟨(([] : List ByteArray)), (0), (0), (by first | rfl | (simp; done) | (simp [*]; done)), (by first | rfl | (simp; done) | (simp [*]; done)), H', ⟨Nat.le_refl _⟩, ⟨by first | exact Kd.R_nil _ _ _ _ _ | exact Kd.N_nil _ _ _ _ _ | exact Kd.V_nil _ _ _ _ _ | exact Kd.Q_nil _ _ _ _ _ | exact Kd.S_nil _ _ _ _ _⟩, ⟨by (with_reducible repeat (first | apply Kd.R_alloc | apply Kd.R_drewN | apply Kd.R_drew)); exact HO105.out⟩, ⟨by (with_reducible repeat (first | refine blk_drewN ?_ _ | refine blk_drew ?_ | refine blk_alloc ?_ _)); exact BK102.out⟩, ⟨by repeat (first | (with_reducible first | exact HB.out | apply below_alloc | apply pw_below_drewN | apply below_drew1 | refine below_set ?_ GE102.out) | exact HB.out)⟩⟩
    case round =>
      clear H'
      try clear p2
      try clear c3
      try clear c4
      try clear c4b0
      try clear c4b1
      try clear hcz6_0
      try clear hcz6_1
      try clear hcz6_2
      try clear hcz6_3
      try clear hfz6_0
      try clear hfz6_1
      try clear hfz6_2
      try clear hfz6_3
      obtain ⟨x8_1, x9_1, x23_1, rfl, rfl, HA, HK1, HO_8, HO_21, BK102, HB⟩ := hrel
      cases gk with
      | zero => exact absurd HA.out (by simp [chunk_Cut.l0])
      | succ k1 =>
        have H := HA.out
        clear HA
        simp only [chunk_Cut.l0] at H
        by_cases c9 : x23_1 < (t103.length : Int)
        · rw [if_pos c9] at H
          have c9b0 : decide (x23_1 < (t103.length : Int)) = true := decide_eq_true c9
          clear c9
          by_cases c10 : 0 ≤ x23_1
          · rw [if_pos c10] at H
            have c10b0 : decide (0 ≤ x23_1) = true := decide_eq_true c10
            clear c10
            by_cases c11 : x23_1 < (t103.length : Int)
            · rw [if_pos c11] at H
              have c11b0 : decide (x23_1 < (t103.length : Int)) = true := decide_eq_true c11
              clear c11
              by_cases c12 : 0 ≤ x9_1
              · rw [if_pos c12] at H
                have c12b0 := eq_true c12
                have c12b1 : decide (0 ≤ x9_1) = true := decide_eq_true c12
                clear c12
                by_cases c13 : x9_1 ≤ (rd t103 x23_1)
                · rw [if_pos c13] at H
                  have c13b0 := eq_true c13
                  have c13b1 : decide (x9_1 ≤ (rd t103 x23_1)) = true := decide_eq_true c13
                  clear c13
                  by_cases c14 : (rd t103 x23_1) ≤ (a0.size : Int)
                  · rw [if_pos c14] at H
                    have c14b0 := eq_true c14
                    have c14b1 : decide ((rd t103 x23_1) ≤ (a0.size : Int)) = true := decide_eq_true c14
                    clear c14
                    by_cases c15 : x8_1.length < 8796093022208
                    · rw [if_pos c15] at H
                      have LMc15 := Aside0.mk c15
                      clear c15
                      obtain ⟨y108, hy108⟩ : ∃ y_ : List ByteArray, y_ = (x8_1 ++ [a0.extract (x9_1 : Int).toNat ((rd t103 x23_1) : Int).toNat]) := ⟨_, rfl⟩
                      replace H : (chunk_Cut.l0 k1 a0 y108 (rd t103 x23_1) t103 (t103.length : Int) (wrap64 (x23_1 + 1))) = some (r1, r2) := by first | (rw [hy108]; with_reducible exact H) | (have H2_ := (Option.bind_some _ _).symm.trans H; rw [hy108]; with_reducible exact H2_) | (have H2_ := (Option.bind_some _ _).symm.trans H; with_reducible exact H2_) | with_reducible exact H | (rw [hy108]; exact H) | exact H
                      have Ny108 := Aside0.mk hy108
                      clear hy108
                      have H' := Aside0.mk H
                      clear H
                      have p107 : 0 ≤ (x23_1 : Int) := of_decide_eq_true (by first | (with_reducible assumption) | assumption)
                      have q107 : x23_1 < (t103.length : Int) := of_decide_eq_true (by first | (with_reducible assumption) | assumption)
                      obtain ⟨ad107, e107, hx107_0⟩ := Kd.at_int (Kd.R_reads' HO_21.out).2.2 x23_1 p107 q107
                      cases e107
                      replace p107 := eq_true p107
                      replace q107 := eq_true q107
                      go_wp2_with (first | ((with_reducible refine gate_builtin (b := .append) (xs := #[.tmp 27, .tmp 32]) rfl ?_); at_builtin; refine Kd.R_append Kd.string (w0 := w) w.heap.size rfl (.tmp 27) (.tmp 32) 60 9 (.string ⟨#[]⟩) 16 rfl Try.underlying60 info9 rfl (by decide) (by omega) u8 x8_1 (a0.extract (x9_1 : Int).toNat ((rd t103 x23_1) : Int).toNat) [.string (a0.extract (x9_1 : Int).toNat ((rd t103 x23_1) : Int).toNat)] (fun _ => True) (fun _ => False) rfl rfl ?aP (fun _ hk => hk.elim) ?aF ?aO ?aB ?aS ?aL ?_; (case aP => exact rfl); (case aB => exact (by repeat (first | (with_reducible first | exact HB.out | apply below_alloc | apply pw_below_drewN | apply below_drew1 | refine below_set ?_ GE102.out) | exact HB.out))); (case aF => exact (fun _ _ => trivial)); (case aO => exact (by (with_reducible repeat (first | apply Kd.R_alloc | apply Kd.R_drewN | apply Kd.R_drew)); exact HO_8.out)); (case aS => exact (below_size (by repeat (first | (with_reducible first | exact HB.out | apply below_alloc | apply pw_below_drewN | apply below_drew1 | refine below_set ?_ GE102.out) | exact HB.out)))); (case aL => have := LMc15.out; omega); intro v109 w16 ho hb hg hat; rw [← Ny108.out] at ho; have n0_ := Aside0.mk (Kd.R_over' (by (with_reducible repeat (first | apply Kd.R_alloc | apply Kd.R_drewN | apply Kd.R_drew)); exact HO_21.out) (Kd.R_typed (by (with_reducible repeat (first | apply Kd.R_alloc | apply Kd.R_drewN | apply Kd.R_drew)); exact HO_8.out)) (by decide) hg); have n1_ := Aside0.mk (blk_grown (g := gb102) (o := .cells #[.int .i64 a1_0, .int .i64 a1_1, .int .i64 a1_2, .int .i64 a1_3] 58 (0, 0)) (by (with_reducible repeat (first | refine blk_drewN ?_ _ | refine blk_drew ?_ | refine blk_alloc ?_ _)); exact BK102.out) hg (Kd.R_ne HO_8.out BK102.out (by decide))); have n2_ := Aside0.mk (hb); have n3_ := Aside0.mk (ho); clear HO_21; clear BK102; clear HB; clear HO_8; have HO_21 := n0_; have BK102 := n1_; have HB := n2_; have HO110 := n3_; clear n0_ n1_ n2_ n3_; clear ho hb hg hat))
                      go_roundg k1
                      case measure => have := HK1.out; omega
                      case rel => exact ⟨(y108), (rd t103 x23_1), (wrap64 (x23_1 + 1)), (by first | rfl | (simp; done) | (simp [*]; done)), (by first | rfl | (simp; done) | (simp [*]; done)), H', ⟨by have := HK1.out; omega⟩, ⟨by (with_reducible repeat (first | apply Kd.R_alloc | apply Kd.R_drewN | apply Kd.R_drew)); exact HO110.out⟩, ⟨by (with_reducible repeat (first | apply Kd.R_alloc | apply Kd.R_drewN | apply Kd.R_drew)); exact HO_21.out⟩, ⟨by (with_reducible repeat (first | refine blk_drewN ?_ _ | refine blk_drew ?_ | refine blk_alloc ?_ _)); exact BK102.out⟩, ⟨by repeat (first | (with_reducible first | exact HB.out | apply below_alloc | apply pw_below_drewN | apply below_drew1 | refine below_set ?_ GE102.out) | exact HB.out)⟩⟩
                    · rw [if_neg c15] at H
                      exact absurd H (by simp)
                  · rw [if_neg c14] at H
                    exact absurd H (by simp)
                · rw [if_neg c13] at H
                  exact absurd H (by simp)
              · rw [if_neg c12] at H
                exact absurd H (by simp)
            · rw [if_neg c11] at H
              exact absurd H (by simp)
          · rw [if_neg c10] at H
            exact absurd H (by simp)
        · rw [if_neg c9] at H
          have c9b0 : decide (x23_1 < (t103.length : Int)) = false := decide_eq_false c9
          clear c9
          simp only [Option.some.injEq, Prod.mk.injEq] at H
          obtain ⟨rfl, rfl⟩ := H
          go_wp2
          go_ret2
          exact ⟨_, by first | rfl | (simp [errW_none, errW_some] <;> rfl) | (simp [*, errW_none, errW_some] <;> rfl), by (with_reducible repeat (first | apply Kd.R_alloc | apply Kd.R_drewN | apply Kd.R_drew)); exact HO_8.out, by repeat (first | (with_reducible first | exact HB.out | apply below_alloc | apply pw_below_drewN | apply below_drew1 | refine below_set ?_ GE102.out) | exact HB.out)⟩
  · rw [if_neg c4] at H
    have c4b0 : (t106 == 0) = false := beq_eq_false_iff_ne.mpr c4
    have c4b1 : (t106 != 0) = true := bne_iff_ne.mpr c4
    simp only [Option.some.injEq, Prod.mk.injEq] at H
    obtain ⟨rfl, rfl⟩ := H
    go_enter Try.func39, Try.ntmps39
    go_wp2_with (first | ((with_reducible refine gate_dst (N := 3) rfl ?_); refine box_event ?hg (N := 3) ?hd (cs := #[.int .i64 a1_0, .int .i64 a1_1, .int .i64 a1_2, .int .i64 a1_3]) (t := 58) ?hr ?_; (case hd => rfl); (case hg => rfl); (case hr => first | (go_simp; done) | (go_simp; rfl)); intro gb102 hg w17 hbox hb; have n0_ := Aside0.mk (below_step (by repeat (first | (with_reducible first | exact HB.out | apply below_alloc | apply pw_below_drewN | apply below_drew1) | exact HB.out)) hb); have n1_ := Aside0.mk (hbox); have n2_ := Aside0.mk ((by rw [hg]; exact (below_size (by repeat (first | (with_reducible first | exact HB.out | apply below_alloc | apply pw_below_drewN | apply below_drew1) | exact HB.out))) : w.heap.size ≤ gb102)); have n3_ := Aside0.mk ((by rw [hg]; exact (below_size (by repeat (first | (with_reducible first | exact HB.out | apply below_alloc | apply pw_below_drewN | apply below_drew1) | exact HB.out))) : w.heap.size ≤ gb102)); clear HB; have HB := n0_; have BK102 := n1_; have GW102 := n2_; have GE102 := n3_; clear n0_ n1_ n2_ n3_; clear hb hbox hg; have hcz18_0 : w17.cell? ⟨gb102, 0, none⟩ = some (.int .i64 a1_0) := (blk_cell BK102.out 0).trans rfl; have hcz18_1 : w17.cell? ⟨gb102, 1, none⟩ = some (.int .i64 a1_1) := (blk_cell BK102.out 1).trans rfl; have hcz18_2 : w17.cell? ⟨gb102, 2, none⟩ = some (.int .i64 a1_2) := (blk_cell BK102.out 2).trans rfl; have hcz18_3 : w17.cell? ⟨gb102, 3, none⟩ = some (.int .i64 a1_3) := (blk_cell BK102.out 3).trans rfl; have hfz18_0 := blk_frozen BK102.out 0; have hfz18_1 := blk_frozen BK102.out 1; have hfz18_2 := blk_frozen BK102.out 2; have hfz18_3 := blk_frozen BK102.out 3) | ((with_reducible refine gate_callee (f := 45) rfl ?_); refine goesL_ (some 15) rfl rfl Try.func45 (by kernel_rfl) rfl #[.string a0, .agg #[.int .i64 a1_0, .int .i64 a1_1, .int .i64 a1_2, .int .i64 a1_3]] rfl (by (try simp only [List.map_toArray, List.map_cons, List.map_nil]); first | done | rfl | (simp only [List.length_drop, List.length_take]; rfl)) ?_; (with_reducible refine (chunk_Ends.calls a0 a1_0 a1_1 a1_2 a1_3 t103 t106 _ A3.out).mono ?_); rintro e w19 ⟨v104, rfl, ho0, hb⟩; refine ⟨_, rfl, ?_⟩; have n0_ := Aside0.mk (Kd.R_lower ho0 (below_size (by repeat (first | (with_reducible first | exact HB.out | apply below_alloc | apply pw_below_drewN | apply below_drew1 | refine below_set ?_ GE102.out) | exact HB.out)))); have n1_ := Aside0.mk (blk_below (g := gb102) (o := .cells #[.int .i64 a1_0, .int .i64 a1_1, .int .i64 a1_2, .int .i64 a1_3] 58 (0, 0)) (by (with_reducible repeat (first | refine blk_drewN ?_ _ | refine blk_drew ?_ | refine blk_alloc ?_ _)); exact BK102.out) hb); have n2_ := Aside0.mk (below_step (by repeat (first | (with_reducible first | exact HB.out | apply below_alloc | apply pw_below_drewN | apply below_drew1 | refine below_set ?_ GE102.out) | exact HB.out)) hb); clear BK102; clear HB; have HO105 := n0_; have BK102 := n1_; have HB := n2_; clear n0_ n1_ n2_; (try clear hb); (try clear hb2); (try clear hk); (try clear hi); (try clear hgw); (try clear ho0)))
    go_ret2
    exact ⟨_, by first | rfl | (simp [errW_none, errW_some] <;> rfl) | (simp [*, errW_none, errW_some] <;> rfl), by first | exact Kd.R_nil _ _ _ _ _ | exact Kd.N_nil _ _ _ _ _ | exact Kd.V_nil _ _ _ _ _ | exact Kd.Q_nil _ _ _ _ _ | exact Kd.S_nil _ _ _ _ _, by repeat (first | (with_reducible first | exact HB.out | apply below_alloc | apply pw_below_drewN | apply below_drew1 | refine below_set ?_ GE102.out) | exact HB.out)⟩

/-! ### storagebarterlaw04_sane: function 35 -/
def storagebarterlaw04_sane.f (k : Nat)  : Option (Bool) := (chunk_Cut.f k (⟨#[97, 98, 99, 100, 101, 102, 103, 104, 105, 106]⟩ : ByteArray) 4 6 1 1).bind fun bt111 => (if bt111.2 = 0 then (if (bt111.1.length : Int) = 3 then (if 0 < (bt111.1.length : Int) then (if (rdOf ByteArray.empty bt111.1 0).toList = ([97, 98, 99, 100] : List UInt8) then (if 2 < (bt111.1.length : Int) then (if (rdOf ByteArray.empty bt111.1 2).toList = ([105, 106] : List UInt8) then ((chunk_Weight.f (⟨#[97, 98]⟩ : ByteArray) 2).bind fun t117 => (some (t117 == 296))) else (some false)) else (none)) else (some false)) else (none)) else (some false)) else (some false))
theorem storagebarterlaw04_sane.mono : ∀ k, LeO (storagebarterlaw04_sane.f k ) (storagebarterlaw04_sane.f (k + 1) ) := by
  intro  k
  unfold storagebarterlaw04_sane.f
  repeat' first
      | (with_reducible exact chunk_Cut.mono _ _ _ _ _ _)
      | (with_reducible exact LeO.refl _)
      | (with_reducible exact LeO.none _)
      | (with_reducible refine LeO.ite ?_ ?_)
      | (with_reducible refine LeO.bind ?_ (fun _ => ?_))
      | exact chunk_Cut.mono _ _ _ _ _ _
      | exact LeO.none _
      | refine LeO.ite ?_ ?_
      | refine LeO.bind ?_ (fun _ => ?_)
set_option maxHeartbeats 8000000 in
set_option maxRecDepth 100000 in
theorem storagebarterlaw04_sane.calls (k : Nat)  (r : Bool) (w : World) (h : storagebarterlaw04_sane.f k  = some r) :
    Calls Try.prog 35 #[] w fun e w' => e = .returned (.bool r) ∧ Below w.heap.size w w' := by
  have hu58 := Try.underlying58
  have HB := Aside0.mk (Below.refl w.heap.size w)
  have H : ((chunk_Cut.f k (⟨#[97, 98, 99, 100, 101, 102, 103, 104, 105, 106]⟩ : ByteArray) 4 6 1 1).bind fun bt111 => (if bt111.2 = 0 then (if (bt111.1.length : Int) = 3 then (if 0 < (bt111.1.length : Int) then (if (rdOf ByteArray.empty bt111.1 0).toList = ([97, 98, 99, 100] : List UInt8) then (if 2 < (bt111.1.length : Int) then (if (rdOf ByteArray.empty bt111.1 2).toList = ([105, 106] : List UInt8) then ((chunk_Weight.f (⟨#[97, 98]⟩ : ByteArray) 2).bind fun t117 => (some (t117 == 296))) else (some false)) else (none)) else (some false)) else (none)) else (some false)) else (some false))) = some r := h
  clear h
  replace H := Option.bind_eq_some_iff.mp H
  obtain ⟨⟨t111, t114⟩, A10, H⟩ := H
  replace H : (if t114 = 0 then (if (t111.length : Int) = 3 then (if 0 < (t111.length : Int) then (if (rdOf ByteArray.empty t111 0).toList = ([97, 98, 99, 100] : List UInt8) then (if 2 < (t111.length : Int) then (if (rdOf ByteArray.empty t111 2).toList = ([105, 106] : List UInt8) then ((chunk_Weight.f (⟨#[97, 98]⟩ : ByteArray) 2).bind fun t117 => (some (t117 == 296))) else (some false)) else (none)) else (some false)) else (none)) else (some false)) else (some false)) = some r := H
  have A1 := Aside0.mk A10
  clear A10
  by_cases c2 : t114 = 0
  · rw [if_pos c2] at H
    have c2b0 : (t114 == 0) = true := beq_iff_eq.mpr c2
    have c2b1 : (t114 != 0) = false := bne_eq_false_iff_eq.mpr c2
    clear c2
    by_cases c3 : (t111.length : Int) = 3
    · rw [if_pos c3] at H
      have c3b0 : ((t111.length : Int) == 3) = true := beq_iff_eq.mpr c3
      have c3b1 : ((t111.length : Int) != 3) = false := bne_eq_false_iff_eq.mpr c3
      clear c3
      by_cases c4 : 0 < (t111.length : Int)
      · rw [if_pos c4] at H
        have c4b0 : decide (0 < (t111.length : Int)) = true := decide_eq_true c4
        have c4b1 : decide (0 < t111.length) = true := decide_eq_true (by omega)
        clear c4
        by_cases c5 : (rdOf ByteArray.empty t111 0).toList = ([97, 98, 99, 100] : List UInt8)
        · rw [if_pos c5] at H
          have c5b0 : ((rdOf ByteArray.empty t111 0).toList == ([97, 98, 99, 100] : List UInt8)) = true := beq_iff_eq.mpr c5
          have c5b1 : ((rdOf ByteArray.empty t111 0).toList != ([97, 98, 99, 100] : List UInt8)) = false := bne_eq_false_iff_eq.mpr c5
          clear c5
          by_cases c6 : 2 < (t111.length : Int)
          · rw [if_pos c6] at H
            have c6b0 : decide (2 < (t111.length : Int)) = true := decide_eq_true c6
            have c6b1 : decide (2 < t111.length) = true := decide_eq_true (by omega)
            clear c6
            by_cases c7 : (rdOf ByteArray.empty t111 2).toList = ([105, 106] : List UInt8)
            · rw [if_pos c7] at H
              have c7b0 : ((rdOf ByteArray.empty t111 2).toList == ([105, 106] : List UInt8)) = true := beq_iff_eq.mpr c7
              have c7b1 : ((rdOf ByteArray.empty t111 2).toList != ([105, 106] : List UInt8)) = false := bne_eq_false_iff_eq.mpr c7
              clear c7
              replace H := Option.bind_eq_some_iff.mp H
              obtain ⟨t117, A80, H⟩ := H
              replace H : (some (t117 == 296)) = some r := H
              have A8 := Aside0.mk A80
              clear A80
              obtain rfl := Option.some.inj H
              go_enter Try.func35, Try.ntmps35
              go_wp2_with (first | ((with_reducible refine gate_callee (f := 39) rfl ?_); refine goesL_ (some 5) rfl rfl Try.func39 (by kernel_rfl) rfl #[.string (⟨#[97, 98, 99, 100, 101, 102, 103, 104, 105, 106]⟩ : ByteArray), .agg #[.int .i64 4, .int .i64 6, .int .i64 1, .int .i64 1]] rfl (by (try simp only [List.map_toArray, List.map_cons, List.map_nil]); first | done | rfl | (simp only [List.length_drop, List.length_take]; rfl)) ?_; (with_reducible refine (chunk_Cut.calls k (⟨#[97, 98, 99, 100, 101, 102, 103, 104, 105, 106]⟩ : ByteArray) 4 6 1 1 t111 t114 _ A1.out).mono ?_); rintro e w9 ⟨v112, rfl, ho0, hb⟩; refine ⟨_, rfl, ?_⟩; have n0_ := Aside0.mk (Kd.R_lower ho0 (below_size (by repeat (first | (with_reducible first | exact HB.out | apply below_alloc | apply pw_below_drewN | apply below_drew1) | exact HB.out)))); have n1_ := Aside0.mk (below_step (by repeat (first | (with_reducible first | exact HB.out | apply below_alloc | apply pw_below_drewN | apply below_drew1) | exact HB.out)) hb); clear HB; have HO113 := n0_; have HB := n1_; clear n0_ n1_; (try clear hb); (try clear hb2); (try clear hk); (try clear hi); (try clear hgw); (try clear ho0); obtain ⟨Ao10, co10, eo10⟩ := Kd.R_slice HO113.out; subst eo10; have p115 : 0 ≤ (0 : Int) := (by omega); have q115 : 0 < (t111.length : Int) := of_decide_eq_true (by first | (with_reducible assumption) | assumption); obtain ⟨ad115, e115, hx115_0⟩ := Kd.at_string (Kd.R_reads' HO113.out).2.2 0 p115 q115; cases e115; have qi115 : (0 < t111.length) = True := eq_true (by omega); (try rw [show ((0 : Int)).toNat = 0 from rfl] at hx115_0); (try rw [Addr.add_zero'] at hx115_0); replace p115 := eq_true p115; replace q115 := eq_true q115; have p116 : 0 ≤ (2 : Int) := (by omega); have q116 : 2 < (t111.length : Int) := of_decide_eq_true (by first | (with_reducible assumption) | assumption); obtain ⟨ad116, e116, hx116_0⟩ := Kd.at_string (Kd.R_reads' HO113.out).2.2 2 p116 q116; obtain rfl : ad115 = ad116 := (by injection e116); (try simp only [show (2 : Int).toNat = 2 from rfl, Nat.reduceMul, Nat.reduceEqDiff, Go.Addr.add, ↓reduceIte] at hx116_0); have qi116 : (2 < t111.length) = True := eq_true (by omega); (try rw [show ((2 : Int)).toNat = 2 from rfl] at hx116_0); replace p116 := eq_true p116; replace q116 := eq_true q116) | (go_at_call 41; (with_reducible refine (chunk_Weight.calls (⟨#[97, 98]⟩ : ByteArray) 2 t117 _ A8.out).mono ?_); rintro e w11 ⟨rfl, hb⟩; have n0_ := Aside0.mk (Kd.R_below (by (with_reducible repeat (first | apply Kd.R_alloc | apply Kd.R_drewN | apply Kd.R_drew)); exact HO113.out) hb); have n1_ := Aside0.mk (below_step (by repeat (first | (with_reducible first | exact HB.out | apply below_alloc | apply pw_below_drewN | apply below_drew1) | exact HB.out)) hb); clear HO113; clear HB; have HO113 := n0_; have HB := n1_; clear n0_ n1_; (try clear hb); (try clear hb2); (try clear hk); (try clear hi); (try clear hgw)))
              go_ret
              exact ⟨by first | rfl | (simp [errW_none, errW_some] <;> rfl) | (simp [*, errW_none, errW_some] <;> rfl), by repeat (first | (with_reducible first | exact HB.out | apply below_alloc | apply pw_below_drewN | apply below_drew1) | exact HB.out)⟩
            · rw [if_neg c7] at H
              have c7b0 : ((rdOf ByteArray.empty t111 2).toList == ([105, 106] : List UInt8)) = false := beq_eq_false_iff_ne.mpr c7
              have c7b1 : ((rdOf ByteArray.empty t111 2).toList != ([105, 106] : List UInt8)) = true := bne_iff_ne.mpr c7
              obtain rfl := Option.some.inj H
              go_enter Try.func35, Try.ntmps35
              go_wp2_with (first | ((with_reducible refine gate_callee (f := 39) rfl ?_); refine goesL_ (some 5) rfl rfl Try.func39 (by kernel_rfl) rfl #[.string (⟨#[97, 98, 99, 100, 101, 102, 103, 104, 105, 106]⟩ : ByteArray), .agg #[.int .i64 4, .int .i64 6, .int .i64 1, .int .i64 1]] rfl (by (try simp only [List.map_toArray, List.map_cons, List.map_nil]); first | done | rfl | (simp only [List.length_drop, List.length_take]; rfl)) ?_; (with_reducible refine (chunk_Cut.calls k (⟨#[97, 98, 99, 100, 101, 102, 103, 104, 105, 106]⟩ : ByteArray) 4 6 1 1 t111 t114 _ A1.out).mono ?_); rintro e w12 ⟨v112, rfl, ho0, hb⟩; refine ⟨_, rfl, ?_⟩; have n0_ := Aside0.mk (Kd.R_lower ho0 (below_size (by repeat (first | (with_reducible first | exact HB.out | apply below_alloc | apply pw_below_drewN | apply below_drew1) | exact HB.out)))); have n1_ := Aside0.mk (below_step (by repeat (first | (with_reducible first | exact HB.out | apply below_alloc | apply pw_below_drewN | apply below_drew1) | exact HB.out)) hb); clear HB; have HO113 := n0_; have HB := n1_; clear n0_ n1_; (try clear hb); (try clear hb2); (try clear hk); (try clear hi); (try clear hgw); (try clear ho0); obtain ⟨Ao13, co13, eo13⟩ := Kd.R_slice HO113.out; subst eo13; have p115 : 0 ≤ (0 : Int) := (by omega); have q115 : 0 < (t111.length : Int) := of_decide_eq_true (by first | (with_reducible assumption) | assumption); obtain ⟨ad115, e115, hx115_0⟩ := Kd.at_string (Kd.R_reads' HO113.out).2.2 0 p115 q115; cases e115; have qi115 : (0 < t111.length) = True := eq_true (by omega); (try rw [show ((0 : Int)).toNat = 0 from rfl] at hx115_0); (try rw [Addr.add_zero'] at hx115_0); replace p115 := eq_true p115; replace q115 := eq_true q115; have p116 : 0 ≤ (2 : Int) := (by omega); have q116 : 2 < (t111.length : Int) := of_decide_eq_true (by first | (with_reducible assumption) | assumption); obtain ⟨ad116, e116, hx116_0⟩ := Kd.at_string (Kd.R_reads' HO113.out).2.2 2 p116 q116; obtain rfl : ad115 = ad116 := (by injection e116); (try simp only [show (2 : Int).toNat = 2 from rfl, Nat.reduceMul, Nat.reduceEqDiff, Go.Addr.add, ↓reduceIte] at hx116_0); have qi116 : (2 < t111.length) = True := eq_true (by omega); (try rw [show ((2 : Int)).toNat = 2 from rfl] at hx116_0); replace p116 := eq_true p116; replace q116 := eq_true q116))
              go_ret
              exact ⟨by first | rfl | (simp [errW_none, errW_some] <;> rfl) | (simp [*, errW_none, errW_some] <;> rfl), by repeat (first | (with_reducible first | exact HB.out | apply below_alloc | apply pw_below_drewN | apply below_drew1) | exact HB.out)⟩
          · rw [if_neg c6] at H
            exact absurd H (by simp)
        · rw [if_neg c5] at H
          have c5b0 : ((rdOf ByteArray.empty t111 0).toList == ([97, 98, 99, 100] : List UInt8)) = false := beq_eq_false_iff_ne.mpr c5
          have c5b1 : ((rdOf ByteArray.empty t111 0).toList != ([97, 98, 99, 100] : List UInt8)) = true := bne_iff_ne.mpr c5
          obtain rfl := Option.some.inj H
          go_enter Try.func35, Try.ntmps35
          go_wp2_with (first | ((with_reducible refine gate_callee (f := 39) rfl ?_); refine goesL_ (some 5) rfl rfl Try.func39 (by kernel_rfl) rfl #[.string (⟨#[97, 98, 99, 100, 101, 102, 103, 104, 105, 106]⟩ : ByteArray), .agg #[.int .i64 4, .int .i64 6, .int .i64 1, .int .i64 1]] rfl (by (try simp only [List.map_toArray, List.map_cons, List.map_nil]); first | done | rfl | (simp only [List.length_drop, List.length_take]; rfl)) ?_; (with_reducible refine (chunk_Cut.calls k (⟨#[97, 98, 99, 100, 101, 102, 103, 104, 105, 106]⟩ : ByteArray) 4 6 1 1 t111 t114 _ A1.out).mono ?_); rintro e w14 ⟨v112, rfl, ho0, hb⟩; refine ⟨_, rfl, ?_⟩; have n0_ := Aside0.mk (Kd.R_lower ho0 (below_size (by repeat (first | (with_reducible first | exact HB.out | apply below_alloc | apply pw_below_drewN | apply below_drew1) | exact HB.out)))); have n1_ := Aside0.mk (below_step (by repeat (first | (with_reducible first | exact HB.out | apply below_alloc | apply pw_below_drewN | apply below_drew1) | exact HB.out)) hb); clear HB; have HO113 := n0_; have HB := n1_; clear n0_ n1_; (try clear hb); (try clear hb2); (try clear hk); (try clear hi); (try clear hgw); (try clear ho0); obtain ⟨Ao15, co15, eo15⟩ := Kd.R_slice HO113.out; subst eo15; have p115 : 0 ≤ (0 : Int) := (by omega); have q115 : 0 < (t111.length : Int) := of_decide_eq_true (by first | (with_reducible assumption) | assumption); obtain ⟨ad115, e115, hx115_0⟩ := Kd.at_string (Kd.R_reads' HO113.out).2.2 0 p115 q115; cases e115; have qi115 : (0 < t111.length) = True := eq_true (by omega); (try rw [show ((0 : Int)).toNat = 0 from rfl] at hx115_0); (try rw [Addr.add_zero'] at hx115_0); replace p115 := eq_true p115; replace q115 := eq_true q115))
          go_ret
          exact ⟨by first | rfl | (simp [errW_none, errW_some] <;> rfl) | (simp [*, errW_none, errW_some] <;> rfl), by repeat (first | (with_reducible first | exact HB.out | apply below_alloc | apply pw_below_drewN | apply below_drew1) | exact HB.out)⟩
      · rw [if_neg c4] at H
        exact absurd H (by simp)
    · rw [if_neg c3] at H
      have c3b0 : ((t111.length : Int) == 3) = false := beq_eq_false_iff_ne.mpr c3
      have c3b1 : ((t111.length : Int) != 3) = true := bne_iff_ne.mpr c3
      obtain rfl := Option.some.inj H
      go_enter Try.func35, Try.ntmps35
      go_wp2_with (first | ((with_reducible refine gate_callee (f := 39) rfl ?_); refine goesL_ (some 5) rfl rfl Try.func39 (by kernel_rfl) rfl #[.string (⟨#[97, 98, 99, 100, 101, 102, 103, 104, 105, 106]⟩ : ByteArray), .agg #[.int .i64 4, .int .i64 6, .int .i64 1, .int .i64 1]] rfl (by (try simp only [List.map_toArray, List.map_cons, List.map_nil]); first | done | rfl | (simp only [List.length_drop, List.length_take]; rfl)) ?_; (with_reducible refine (chunk_Cut.calls k (⟨#[97, 98, 99, 100, 101, 102, 103, 104, 105, 106]⟩ : ByteArray) 4 6 1 1 t111 t114 _ A1.out).mono ?_); rintro e w16 ⟨v112, rfl, ho0, hb⟩; refine ⟨_, rfl, ?_⟩; have n0_ := Aside0.mk (Kd.R_lower ho0 (below_size (by repeat (first | (with_reducible first | exact HB.out | apply below_alloc | apply pw_below_drewN | apply below_drew1) | exact HB.out)))); have n1_ := Aside0.mk (below_step (by repeat (first | (with_reducible first | exact HB.out | apply below_alloc | apply pw_below_drewN | apply below_drew1) | exact HB.out)) hb); clear HB; have HO113 := n0_; have HB := n1_; clear n0_ n1_; (try clear hb); (try clear hb2); (try clear hk); (try clear hi); (try clear hgw); (try clear ho0); obtain ⟨Ao17, co17, eo17⟩ := Kd.R_slice HO113.out; subst eo17))
      go_ret
      exact ⟨by first | rfl | (simp [errW_none, errW_some] <;> rfl) | (simp [*, errW_none, errW_some] <;> rfl), by repeat (first | (with_reducible first | exact HB.out | apply below_alloc | apply pw_below_drewN | apply below_drew1) | exact HB.out)⟩
  · rw [if_neg c2] at H
    have c2b0 : (t114 == 0) = false := beq_eq_false_iff_ne.mpr c2
    have c2b1 : (t114 != 0) = true := bne_iff_ne.mpr c2
    obtain rfl := Option.some.inj H
    go_enter Try.func35, Try.ntmps35
    go_wp2_with (first | ((with_reducible refine gate_callee (f := 39) rfl ?_); refine goesL_ (some 5) rfl rfl Try.func39 (by kernel_rfl) rfl #[.string (⟨#[97, 98, 99, 100, 101, 102, 103, 104, 105, 106]⟩ : ByteArray), .agg #[.int .i64 4, .int .i64 6, .int .i64 1, .int .i64 1]] rfl (by (try simp only [List.map_toArray, List.map_cons, List.map_nil]); first | done | rfl | (simp only [List.length_drop, List.length_take]; rfl)) ?_; (with_reducible refine (chunk_Cut.calls k (⟨#[97, 98, 99, 100, 101, 102, 103, 104, 105, 106]⟩ : ByteArray) 4 6 1 1 t111 t114 _ A1.out).mono ?_); rintro e w18 ⟨v112, rfl, ho0, hb⟩; refine ⟨_, rfl, ?_⟩; have n0_ := Aside0.mk (Kd.R_lower ho0 (below_size (by repeat (first | (with_reducible first | exact HB.out | apply below_alloc | apply pw_below_drewN | apply below_drew1) | exact HB.out)))); have n1_ := Aside0.mk (below_step (by repeat (first | (with_reducible first | exact HB.out | apply below_alloc | apply pw_below_drewN | apply below_drew1) | exact HB.out)) hb); clear HB; have HO113 := n0_; have HB := n1_; clear n0_ n1_; (try clear hb); (try clear hb2); (try clear hk); (try clear hi); (try clear hgw); (try clear ho0)))
    go_ret
    exact ⟨by first | rfl | (simp [errW_none, errW_some] <;> rfl) | (simp [*, errW_none, errW_some] <;> rfl), by repeat (first | (with_reducible first | exact HB.out | apply below_alloc | apply pw_below_drewN | apply below_drew1) | exact HB.out)⟩

end Go.Proofs.Ytepffabkcbfejaa.PChunkJoins
