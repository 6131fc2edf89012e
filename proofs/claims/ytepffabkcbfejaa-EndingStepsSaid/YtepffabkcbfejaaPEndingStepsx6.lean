-- Written by a program of this repository (wip/tools/myprint.py over the print of the kit): contracts and rows.
import Derived.Test.YtepffabkcbfejaaPEndingStepsx0
namespace Go.Proofs.Ytepffabkcbfejaa.PEndingSteps
open Go.RowKit Go.Proofs.YtepffabkcbfejaaW.PrintWords Go.Proofs.YtepffabkcbfejaaW.PrintLast Go.Proofs.YtepffabkcbfejaaW.PrintMore
attribute [local go_sem] max2_int min2_int max_two min_two max_three min_three max_four min_four   -- for this text's walks alone
set_option linter.unusedVariables false
set_option linter.unusedSimpArgs false

/-! ### storagebarterref26_Culprit: function 27 -/
def storagebarterref26_Culprit.l0 : Nat → List (S44) → Int → List (S44) → Int → Int → Int → List (S44) → List (S44) → Option ((List (S44)) × Int × Int × (List (S44)) × (List (S44)))
  | 0, _, _, _, _, _, _, _, _ => none
  | k + 1, x0, x1, x10, x12, x142000, x142001, x142002, x142003 => if x12 < (x0.length : Int) then (if 0 ≤ x12 then (if ((rd_T44 x0 x12).f1) = x1 then (if x142002.length < 2199023255552 then (storagebarterref26_Culprit.l0 k x0 x1 x10 (wrap64 (x12 + 1)) x142000 x142001 (x142002 ++ [(⟨(rd_T44 x0 x12).f0, (rd_T44 x0 x12).f1, (rd_T44 x0 x12).f2, (rd_T44 x0 x12).f3, (rd_T44 x0 x12).f4, (rd_T44 x0 x12).f5, (rd_T44 x0 x12).f6, (rd_T44 x0 x12).f7⟩ : S44)]) x142003) else (none)) else (if ((rd_T44 x0 x12).f0) = x1 then (if x142003.length < 2199023255552 then (storagebarterref26_Culprit.l0 k x0 x1 x10 (wrap64 (x12 + 1)) x142000 x142001 x142002 (x142003 ++ [(⟨(rd_T44 x0 x12).f0, (rd_T44 x0 x12).f1, (rd_T44 x0 x12).f2, (rd_T44 x0 x12).f3, (rd_T44 x0 x12).f4, (rd_T44 x0 x12).f5, (rd_T44 x0 x12).f6, (rd_T44 x0 x12).f7⟩ : S44)])) else (none)) else (if x10.length < 2199023255552 then (storagebarterref26_Culprit.l0 k x0 x1 (x10 ++ [(⟨(rd_T44 x0 x12).f0, (rd_T44 x0 x12).f1, (rd_T44 x0 x12).f2, (rd_T44 x0 x12).f3, (rd_T44 x0 x12).f4, (rd_T44 x0 x12).f5, (rd_T44 x0 x12).f6, (rd_T44 x0 x12).f7⟩ : S44)]) (wrap64 (x12 + 1)) x142000 x142001 x142002 x142003) else (none)))) else (none)) else (some (x10, x142000, x142001, x142002, x142003))
def storagebarterref26_Culprit.f (k : Nat) (l0 : List (S44)) (a1 : Int) (a2 : Int) (a3 : Int) : Option ((List (S44)) × Int × Int × (List (S44)) × (List (S44))) := storagebarterref26_Culprit.l0 k l0 a1 ([] : List (S44)) 0 a1 (wrap64 (a2 + a3)) ([] : List (S44)) ([] : List (S44))
theorem storagebarterref26_Culprit.mono_l : ∀ k, (∀ y0 y1 y2 y3 y4 y5 y6 y7, LeO (storagebarterref26_Culprit.l0 k y0 y1 y2 y3 y4 y5 y6 y7) (storagebarterref26_Culprit.l0 (k + 1) y0 y1 y2 y3 y4 y5 y6 y7))
  | 0 => fun _ _ _ _ _ _ _ _ r h => by simp [storagebarterref26_Culprit.l0] at h
  | k + 1 => by
    have ih0 := storagebarterref26_Culprit.mono_l k
    · intro y0 y1 y2 y3 y4 y5 y6 y7
      unfold storagebarterref26_Culprit.l0
      repeat' first
      | (with_reducible exact ih0 _ _ _ _ _ _ _ _)
      | (with_reducible exact LeO.refl _)
      | (with_reducible exact LeO.none _)
      | (with_reducible refine LeO.ite ?_ ?_)
      | (with_reducible refine LeO.bind ?_ (fun _ => ?_))
      | exact ih0 _ _ _ _ _ _ _ _
      | exact LeO.none _
      | refine LeO.ite ?_ ?_
      | refine LeO.bind ?_ (fun _ => ?_)
theorem storagebarterref26_Culprit.mono : ∀ a0 a1 a2 a3 k, LeO (storagebarterref26_Culprit.f k a0 a1 a2 a3) (storagebarterref26_Culprit.f (k + 1) a0 a1 a2 a3) := by
  intro a0 a1 a2 a3 k
  have ih0 := storagebarterref26_Culprit.mono_l k
  unfold storagebarterref26_Culprit.f
  repeat' first
      | (with_reducible exact ih0 _ _ _ _ _ _ _ _)
      | (with_reducible exact LeO.refl _)
      | (with_reducible exact LeO.none _)
      | (with_reducible refine LeO.ite ?_ ?_)
      | (with_reducible refine LeO.bind ?_ (fun _ => ?_))
      | exact ih0 _ _ _ _ _ _ _ _
      | exact LeO.none _
      | refine LeO.ite ?_ ?_
      | refine LeO.bind ?_ (fun _ => ?_)
def storagebarterref26_Culprit.T8 : Bool × List (List Nat × List Nat) := (true, [([], []), ([0], [0]), ([], []), ([], []), ([2, 3], [2, 3]), ([4], [4]), ([5], [5]), ([1, 6], [1, 6]), ([0, 1, 2, 3, 4, 5, 6, 7], []), ([8, 7, 7, 0, 1, 2, 3, 4, 5, 6, 7], [7, 8])])
def storagebarterref26_Culprit.B8 : List Nat := [0, 1, 0, 0, 12, 28, 60, 127, 255, 511]
theorem storagebarterref26_Culprit.tab8 : rtab .any (opsOf Try.f27 8) = storagebarterref26_Culprit.T8 := by kernel_rfl
theorem storagebarterref26_Culprit.bits8 : waitsOk storagebarterref26_Culprit.T8.2 storagebarterref26_Culprit.B8 = true := by kernel_rfl
def storagebarterref26_Culprit.T10 : Bool × List (List Nat × List Nat) := (true, [([], []), ([0], [0]), ([], []), ([], []), ([2, 3], [2, 3]), ([4], [4]), ([5], [5]), ([1, 6], [1, 6]), ([0, 1, 2, 3, 4, 5, 6, 7], []), ([8, 7, 7, 0, 1, 2, 3, 4, 5, 6, 7], [7, 8])])
def storagebarterref26_Culprit.B10 : List Nat := [0, 1, 0, 0, 12, 28, 60, 127, 255, 511]
theorem storagebarterref26_Culprit.tab10 : rtab .any (opsOf Try.f27 10) = storagebarterref26_Culprit.T10 := by kernel_rfl
theorem storagebarterref26_Culprit.bits10 : waitsOk storagebarterref26_Culprit.T10.2 storagebarterref26_Culprit.B10 = true := by kernel_rfl
class Up27 (W W1 : World) : Prop where
  below : Below W.heap.size W W1
instance (W : World) : Up27 W W := ⟨Below.refl _ _⟩
instance (W W1 : World) [h : Up27 W W1] (o : Obj) : Up27 W (W1.alloc o) := ⟨below_alloc h.below o⟩
instance (W W1 : World) [h : Up27 W W1] : Up27 W W1.drew := ⟨h.below.trans (below_drew (Below.refl _ _))⟩
instance (W W1 : World) [h : Up27 W W1] (n : Nat) : Up27 W (W1.drewN n) := ⟨pw_below_drewN h.below n⟩
theorem bU27 {W W1 : World} {g : Nat} {o : Obj} [u : Up27 W W1] (h : W.heap[g]? = some o) : W1.heap[g]? = some o := (u.below.block g (blk_lt h)).trans h
theorem hU27 {w W W1 : World} [u : Up27 W W1] (h : Below w.heap.size w W) : Below w.heap.size w W1 := below_step h u.below
theorem cU27 {α : Type} {d : Kd α} {A : Option Addr} {n : Nat} {xs : List α} {W W1 : World} [u : Up27 W W1] (h : d.C W A n xs) : d.C W1 A n xs := Kd.C_below h u.below
theorem rU27 {α : Type} {d : Kd α} {e base : Nat} {ok : Nat → Prop} {v : Value} {xs : List α} {W W1 : World} [u : Up27 W W1] (h : d.R e W base ok v xs) : d.R e W1 base ok v xs := Kd.R_below h u.below
set_option maxHeartbeats 60000000 in
set_option maxRecDepth 100000 in
theorem storagebarterref26_Culprit.calls (k : Nat) (A0 : Option Addr) (c0 : Nat) (l0 : List (S44)) (a1 : Int) (a2 : Int) (a3 : Int) (r1 : List (S44)) (r2 : Int) (r3 : Int) (r4 : List (S44)) (r5 : List (S44)) (w : World) (hr0 : Kd.C k44 w A0 l0.length l0) (hc0 : l0.length ≤ c0) (h : storagebarterref26_Culprit.f k l0 a1 a2 a3 = some (r1, r2, r3, r4, r5)) :
  Calls Try.prog 27 #[.slice A0 l0.length c0, .int .i64 a1, .int .i64 a2, .int .i64 a3] w fun e w' => ∃ v0_ v3_ v4_ : Value, e = .returned (.tuple #[v0_, .agg #[.int .i64 r2, .int .i64 r3, v3_, v4_]]) ∧ Kd.R k44 44 w' w.heap.size (fun k_ => some k_ ≠ (v3_ : Value).ownBlock ∧ some k_ ≠ (v4_ : Value).ownBlock) v0_ r1 ∧ Kd.R k44 44 w' w.heap.size (fun k_ => some k_ ≠ (v0_ : Value).ownBlock ∧ some k_ ≠ (v4_ : Value).ownBlock) v3_ r4 ∧ Kd.R k44 44 w' w.heap.size (fun k_ => some k_ ≠ (v0_ : Value).ownBlock ∧ some k_ ≠ (v3_ : Value).ownBlock) v4_ r5 ∧ Below w.heap.size w w' := by
 have hu32 := Try.underlying32
 have hu44 := Try.underlying44
 have HR0 := Aside0.mk hr0
 have HC0 := Aside0.mk hc0
 clear hr0 hc0
 have HB := Aside0.mk (Below.refl w.heap.size w)
 have H : (storagebarterref26_Culprit.l0 k l0 a1 ([] : List (S44)) 0 a1 (wrap64 (a2 + a3)) ([] : List (S44)) ([] : List (S44))) = some (r1, r2, r3, r4, r5) := h
 clear h
 have H' := Aside0.mk H
 clear H
 go_enter Try.func27, Try.ntmps27
 go_wp2_with (first | ((with_reducible refine gate_dst (N := 9) rfl ?_); refine box_event ?hg (N := 9) ?hd (cs := #[.int .i64 0, .int .i64 0, .slice none 0 0, .slice none 0 0]) (t := 32) ?hr ?_; (case hd => rfl); (case hg => rfl); (case hr => first | (go_simp; done) | (go_simp; rfl)); intro gb140 hg w5 hbox hb; have n0_ := Aside0.mk (below_step (hU27 HB.out) hb); have n1_ := Aside0.mk (hbox); have n2_ := Aside0.mk ((by rw [hg]; exact (below_size (hU27 HB.out)) : w.heap.size ≤ gb140)); have n3_ := Aside0.mk ((by rw [hg]; exact (below_size (hU27 HB.out)) : w.heap.size ≤ gb140)); clear HB; have HB := n0_; have BK140 := n1_; have GW140 := n2_; have GE140 := n3_; clear n0_ n1_ n2_ n3_; clear hb hbox hg) | ((with_reducible refine gate_dst (N := 11) rfl ?_); refine box_event ?hg (N := 11) ?hd (cs := #[.int .i64 0, .int .i64 0, .slice none 0 0, .slice none 0 0]) (t := 32) ?hr ?_; (case hd => rfl); (case hg => rfl); (case hr => first | (go_simp; done) | (go_simp; rfl)); intro gb141 hg w6 hbox hb; have n0_ := Aside0.mk (blk_below (g := gb140) (o := .cells #[.int .i64 0, .int .i64 0, .slice none 0 0, .slice none 0 0] 32 (0, 0)) (bU27 BK140.out) hb); have n1_ := Aside0.mk (below_step (by repeat (first | (with_reducible first | exact HB.out | apply below_alloc | apply pw_below_drewN | apply below_drew1 | refine below_set ?_ GE140.out) | exact HB.out)) hb); have n2_ := Aside0.mk (hbox); have n3_ := Aside0.mk ((by rw [hg]; exact (below_size (by repeat (first | (with_reducible first | exact HB.out | apply below_alloc | apply pw_below_drewN | apply below_drew1 | refine below_set ?_ GE140.out) | exact HB.out))) : w.heap.size ≤ gb141)); have n4_ := Aside0.mk ((by rw [hg]; exact (below_size (by repeat (first | (with_reducible first | exact HB.out | apply below_alloc | apply pw_below_drewN | apply below_drew1 | refine below_set ?_ GE140.out) | exact HB.out))) : w.heap.size ≤ gb141)); have n5_ := Aside0.mk ((by rw [hg]; exact Nat.ne_of_lt (blk_lt (g := gb140) (o := .cells #[.int .i64 0, .int .i64 0, .slice none 0 0, .slice none 0 0] 32 (0, 0)) (bU27 BK140.out)) : gb140 ≠ gb141)); have n6_ := Aside0.mk ((by rw [hg]; exact Nat.ne_of_gt (blk_lt (g := gb140) (o := .cells #[.int .i64 0, .int .i64 0, .slice none 0 0, .slice none 0 0] 32 (0, 0)) (bU27 BK140.out)) : gb141 ≠ gb140)); clear BK140; clear HB; have BK140 := n0_; have HB := n1_; have BK141 := n2_; have GW141 := n3_; have GE141 := n4_; have NB140_141 := n5_; have NB141_140 := n6_; clear n0_ n1_ n2_ n3_ n4_ n5_ n6_; clear hb hbox hg; have hnb7 := NB141_140.out; have hnc7 := NB140_141.out; have hcz8 := cz4 BK141.out; have hfz8 := blk_frozen BK141.out))
 go_loopg [10, 12] k (fun kq v10 v12 w' => ∃ (x10_1 : List (S44)) (x12_1 : Int) (ba2 : List (S44)) (ba3 : List (S44)) (ba4 : Value) (ba5 : Value), v12 = .int .i64 x12_1 ∧ Aside0 (storagebarterref26_Culprit.l0 kq l0 a1 x10_1 x12_1 a1 (wrap64 (a2 + a3)) ba2 ba3 = some (r1, r2, r3, r4, r5)) ∧ Aside0 (kq ≤ k) ∧ Aside0 (Kd.R k44 44 w' w.heap.size (fun k_ => some k_ ≠ (ba4 : Value).ownBlock ∧ some k_ ≠ (ba5 : Value).ownBlock) v10 x10_1) ∧ Aside0 (Kd.R k44 44 w' w.heap.size (fun k_ => some k_ ≠ (v10 : Value).ownBlock ∧ some k_ ≠ (ba5 : Value).ownBlock) ba4 ba2) ∧ Aside0 (Kd.R k44 44 w' w.heap.size (fun k_ => some k_ ≠ (v10 : Value).ownBlock ∧ some k_ ≠ (ba4 : Value).ownBlock) ba5 ba3) ∧ Aside0 (w'.heap[gb140]? = some (.cells #[.int .i64 0, .int .i64 0, (.slice none 0 0), (.slice none 0 0)] 32 (0, 0))) ∧ Aside0 (w'.heap[gb141]? = some (.cells #[.int .i64 a1, .int .i64 (wrap64 (a2 + a3)), ba4, ba5] 32 (0, 0))) ∧ Aside0 (Below w.heap.size w w'))
 case atStart => exact ⟨(([] : List (S44))), (0), (([] : List (S44))), (([] : List (S44))), (.slice none 0 0), (.slice none 0 0), (by first | rfl | (simp; done) | (simp [*]; done)), H', ⟨Nat.le_refl _⟩, ⟨by first | exact Kd.R_nil _ _ _ _ _ | exact Kd.N_nil _ _ _ _ _ | exact Kd.V_nil _ _ _ _ _ | exact Kd.Q_nil _ _ _ _ _ | exact Kd.S_nil _ _ _ _ _⟩, ⟨by first | exact Kd.R_nil _ _ _ _ _ | exact Kd.N_nil _ _ _ _ _ | exact Kd.V_nil _ _ _ _ _ | exact Kd.Q_nil _ _ _ _ _ | exact Kd.S_nil _ _ _ _ _⟩, ⟨by first | exact Kd.R_nil _ _ _ _ _ | exact Kd.N_nil _ _ _ _ _ | exact Kd.V_nil _ _ _ _ _ | exact Kd.Q_nil _ _ _ _ _ | exact Kd.S_nil _ _ _ _ _⟩, ⟨by (with_reducible repeat (first | refine blk_drewN ?_ _ | refine blk_drew ?_ | refine blk_alloc ?_ _)); refine blk_far ?_ NB140_141.out _; (with_reducible repeat (first | refine blk_drewN ?_ _ | refine blk_drew ?_ | refine blk_alloc ?_ _)); refine blk_far ?_ NB140_141.out _; (with_reducible repeat (first | refine blk_drewN ?_ _ | refine blk_drew ?_ | refine blk_alloc ?_ _)); refine blk_far ?_ NB140_141.out _; (with_reducible repeat (first | refine blk_drewN ?_ _ | refine blk_drew ?_ | refine blk_alloc ?_ _)); refine blk_far ?_ NB140_141.out _; exact bU27 BK140.out⟩, ⟨by (with_reducible repeat (first | refine blk_drewN ?_ _ | refine blk_drew ?_ | refine blk_alloc ?_ _)); refine blk_put (cs := #[.int .i64 a1, .int .i64 (wrap64 (a2 + a3)), .slice none 0 0, .slice none 0 0]) ?_ 3 _ rfl; (with_reducible repeat (first | refine blk_drewN ?_ _ | refine blk_drew ?_ | refine blk_alloc ?_ _)); refine blk_put (cs := #[.int .i64 a1, .int .i64 (wrap64 (a2 + a3)), .slice none 0 0, .slice none 0 0]) ?_ 2 _ rfl; (with_reducible repeat (first | refine blk_drewN ?_ _ | refine blk_drew ?_ | refine blk_alloc ?_ _)); refine blk_put (cs := #[.int .i64 a1, .int .i64 0, .slice none 0 0, .slice none 0 0]) ?_ 1 _ rfl; (with_reducible repeat (first | refine blk_drewN ?_ _ | refine blk_drew ?_ | refine blk_alloc ?_ _)); refine blk_put (cs := #[.int .i64 0, .int .i64 0, .slice none 0 0, .slice none 0 0]) ?_ 0 _ rfl; exact bU27 BK141.out⟩, ⟨by repeat (first | (with_reducible first | exact HB.out | apply below_alloc | apply pw_below_drewN | apply below_drew1 | refine below_set ?_ (Aside0.out (by assumption))) | exact HB.out)⟩⟩
 case round =>
  clear H'
  try clear c2
  try clear p2
  try clear p6
  try clear c7
  try clear hcz8
  try clear hfz8
  obtain ⟨x10_1, x12_1, ba2, ba3, ba4, ba5, rfl, HA, HK1, HO_10, ba0, ba1, BK140, BK141, HB⟩ := hrel
  cases gk with
  | zero => exact absurd HA.out (by simp [storagebarterref26_Culprit.l0])
  | succ k1 =>
   have H := HA.out
   clear HA
   simp only [storagebarterref26_Culprit.l0] at H
   by_cases c9 : x12_1 < (l0.length : Int)
   case neg =>
    rw [if_neg c9] at H
    have c9b0 : decide (x12_1 < (l0.length : Int)) = false := decide_eq_false c9
    clear c9
    simp only [Option.some.injEq, Prod.mk.injEq] at H
    obtain ⟨rfl, rfl, rfl, rfl, rfl⟩ := H
    try go_wp2
    have n0_ := Aside0.mk (Kd.R_drew HO_10.out)
    have n1_ := Aside0.mk (Kd.R_drew ba0.out)
    have n2_ := Aside0.mk (Kd.R_drew ba1.out)
    have n3_ := Aside0.mk (blk_drew BK140.out)
    have n4_ := Aside0.mk (blk_drew BK141.out)
    have n5_ := Aside0.mk (below_drew1 HB.out)
    clear HO_10
    clear ba0
    clear ba1
    clear BK140
    clear BK141
    clear HB
    have HO_10 := n0_
    have ba0 := n1_
    have ba1 := n2_
    have BK140 := n3_
    have BK141 := n4_
    have HB := n5_
    clear n0_ n1_ n2_ n3_ n4_ n5_
    obtain ⟨Ao28, co28, eo28⟩ := Kd.R_slice ba0.out
    (first | subst eo28 | (injection eo28 with f1_ f2_ f3_; have f4_ := f1_.symm; have f5_ := f3_.symm; clear f1_ f2_ f3_; subst f4_; subst f5_))
    obtain ⟨Ao30, co30, eo30⟩ := Kd.R_slice ba1.out
    (first | subst eo30 | (injection eo30 with f1_ f2_ f3_; have f4_ := f1_.symm; have f5_ := f3_.symm; clear f1_ f2_ f3_; subst f4_; subst f5_))
    refine start_ (n := 4) (S := fun w' => w'.cell? ⟨gb141, 0, none⟩ = some (.int .i64 a1) ∧ w'.cell? ⟨gb141, 1, none⟩ = some (.int .i64 (wrap64 (a2 + a3))) ∧ w'.cell? ⟨gb141, 2, none⟩ = some (.slice Ao28 ba2.length co28) ∧ w'.cell? ⟨gb141, 3, none⟩ = some (.slice Ao30 ba3.length co30)) (ds := []) #[false, false, false, false] (by kernel_rfl) rfl rfl ⟨(blk_cell BK141.out 0).trans rfl, (blk_cell BK141.out 1).trans rfl, (blk_cell BK141.out 2).trans rfl, (blk_cell BK141.out 3).trans rfl⟩ (fun hHeld => ?_)
    generalize wr.drew = w25 at HO_10 ba0 ba1 BK140 BK141 HB hHeld ⊢
    refine pure_ (i := 0) (N := some 65) (v := ?_) (a' := ?_) #[true, false, false, false] rfl rfl (by kernel_rfl) (fun _ _ _ h => h) (Or.inl ⟨by rfl, ?_⟩) ?_ ?_
    rotate_left
    ·intro w'
     go_simp
     with_reducible rfl
    rotate_left
    ·simp only [Act.put, List.setIfInBounds_toArray, List.set_cons_zero, List.set_cons_succ, i64_w, i32_w]
     rfl
    refine pure_ (i := 2) (N := some 8) (v := ?_) (a' := ?_) #[true, false, true, false] rfl rfl (by kernel_rfl) (fun _ _ _ h => h) (Or.inl ⟨by rfl, ?_⟩) ?_ ?_
    rotate_left
    ·intro w'
     go_simp
     with_reducible rfl
    rotate_left
    ·simp only [Act.put, List.setIfInBounds_toArray, List.set_cons_zero, List.set_cons_succ, i64_w, i32_w]
     rfl
    refine take_ (i := 1) (N := some 66) (v := ?_) (a' := ?_) #[true, true, true, false] rfl rfl (by kernel_rfl) (fun _ _ _ h => h) (Or.inl ⟨by rfl, ?_⟩) hHeld ?_ ?_
    rotate_left
    ·rintro w' ⟨s0, s1, s2, s3⟩
     go_simp
     with_reducible rfl
    rotate_left
    ·simp only [Act.put, List.setIfInBounds_toArray, List.set_cons_zero, List.set_cons_succ, i64_w, i32_w]
     rfl
    refine one_ (i := 3) (N := none) #[true, true, true, true] rfl rfl (by kernel_rfl) (by decide) (fun K hK => ?_)
    have hs26 : w25.cell? ⟨gb140, 0, none⟩ = some (.int .i64 0) := (blk_cell BK140.out 0).trans rfl
    have hfs26 := blk_frozen BK140.out 0
    have hns26_1 := NB141_140.out
    have hms26_1 := NB140_141.out
    have hs27 : w25.cell? ⟨gb140, 1, none⟩ = some (.int .i64 0) := (blk_cell BK140.out 1).trans rfl
    have hfs27 := blk_frozen BK140.out 1
    have hns27_1 := NB141_140.out
    have hms27_1 := NB140_141.out
    have hs29 : w25.cell? ⟨gb140, 2, none⟩ = some (.slice none 0 0) := (blk_cell BK140.out 2).trans rfl
    have hfs29 := blk_frozen BK140.out 2
    have hns29_1 := NB141_140.out
    have hms29_1 := NB140_141.out
    have hs31 : w25.cell? ⟨gb140, 3, none⟩ = some (.slice none 0 0) := (blk_cell BK140.out 3).trans rfl
    have hfs31 := blk_frozen BK140.out 3
    have hns31_1 := NB141_140.out
    have hms31_1 := NB140_141.out
    refine skip_ (w1 := ?_) (by rfl) rfl ?_ ?_
    rotate_left
    ·go_simp
     rfl
    refine hK.out _ _ ⟨((cell_far (p := ⟨gb140, _, none⟩) NB141_140.out _).trans (((cell_far (p := ⟨gb140, _, none⟩) NB141_140.out _).trans (((cell_far (p := ⟨gb140, _, none⟩) NB141_140.out _).trans (((cell_far (p := ⟨gb140, _, none⟩) NB141_140.out _).trans (hHeld.1)))))))), ((cell_far (p := ⟨gb140, _, none⟩) NB141_140.out _).trans (((cell_far (p := ⟨gb140, _, none⟩) NB141_140.out _).trans (((cell_far (p := ⟨gb140, _, none⟩) NB141_140.out _).trans (((cell_far (p := ⟨gb140, _, none⟩) NB141_140.out _).trans (hHeld.2.1)))))))), ((cell_far (p := ⟨gb140, _, none⟩) NB141_140.out _).trans (((cell_far (p := ⟨gb140, _, none⟩) NB141_140.out _).trans (((cell_far (p := ⟨gb140, _, none⟩) NB141_140.out _).trans (((cell_far (p := ⟨gb140, _, none⟩) NB141_140.out _).trans (hHeld.2.2.1)))))))), ((cell_far (p := ⟨gb140, _, none⟩) NB141_140.out _).trans (((cell_far (p := ⟨gb140, _, none⟩) NB141_140.out _).trans (((cell_far (p := ⟨gb140, _, none⟩) NB141_140.out _).trans (((cell_far (p := ⟨gb140, _, none⟩) NB141_140.out _).trans (hHeld.2.2.2))))))))⟩ (fun hHeld => ?_)
    clear hK K
    refine done_ (by kernel_rfl) ?_
    try go_wp2
    refine bodyPost_ret (results_tc rfl _ _ gb140 32 #[.int .i64 a1, .int .i64 (wrap64 (a2 + a3)), .slice Ao28 ba2.length co28, .slice Ao30 ba3.length co30] (0, 0) _ rfl (by (with_reducible repeat (first | refine blk_drewN ?_ _ | refine blk_drew ?_ | refine blk_alloc ?_ _)); refine blk_put (cs := #[.int .i64 a1, .int .i64 (wrap64 (a2 + a3)), .slice Ao28 ba2.length co28, .slice none 0 0]) ?_ 3 _ rfl; (with_reducible repeat (first | refine blk_drewN ?_ _ | refine blk_drew ?_ | refine blk_alloc ?_ _)); refine blk_put (cs := #[.int .i64 a1, .int .i64 (wrap64 (a2 + a3)), .slice none 0 0, .slice none 0 0]) ?_ 2 _ rfl; (with_reducible repeat (first | refine blk_drewN ?_ _ | refine blk_drew ?_ | refine blk_alloc ?_ _)); refine blk_put (cs := #[.int .i64 a1, .int .i64 0, .slice none 0 0, .slice none 0 0]) ?_ 1 _ rfl; (with_reducible repeat (first | refine blk_drewN ?_ _ | refine blk_drew ?_ | refine blk_alloc ?_ _)); refine blk_put (cs := #[.int .i64 0, .int .i64 0, .slice none 0 0, .slice none 0 0]) ?_ 0 _ rfl; exact bU27 BK140.out) Try.underlying32 rfl (by kernel_rfl)) rfl ?_
    exact ⟨_, _, _, by first | rfl | (simp [errW_none, errW_some] <;> rfl) | (simp [*, errW_none, errW_some] <;> rfl), by (with_reducible repeat (first | apply Kd.R_alloc | apply Kd.R_drewN | apply Kd.R_drew)); exact Kd.R_mono (Kd.R_far (p := ⟨gb140, 3, none⟩) (Kd.R_far (p := ⟨gb140, 2, none⟩) (Kd.R_far (p := ⟨gb140, 1, none⟩) (Kd.R_far (p := ⟨gb140, 0, none⟩) (Kd.R_types HO_10.out BK140.out (by decide)) (fun _ hk => hk.2) (.int .i64 a1)) (fun _ hk => hk.2) (.int .i64 (wrap64 (a2 + a3)))) (fun _ hk => hk.2) (.slice Ao28 ba2.length co28)) (fun _ hk => hk.2) (.slice Ao30 ba3.length co30)) (fun _ hk => ⟨hk.1.1, hk.1.2⟩), by (with_reducible repeat (first | apply Kd.R_alloc | apply Kd.R_drewN | apply Kd.R_drew)); exact Kd.R_mono (Kd.R_far (p := ⟨gb140, 3, none⟩) (Kd.R_far (p := ⟨gb140, 2, none⟩) (Kd.R_far (p := ⟨gb140, 1, none⟩) (Kd.R_far (p := ⟨gb140, 0, none⟩) (Kd.R_types ba0.out BK140.out (by decide)) (fun _ hk => hk.2) (.int .i64 a1)) (fun _ hk => hk.2) (.int .i64 (wrap64 (a2 + a3)))) (fun _ hk => hk.2) (.slice Ao28 ba2.length co28)) (fun _ hk => hk.2) (.slice Ao30 ba3.length co30)) (fun _ hk => ⟨hk.1.1, hk.1.2⟩), by (with_reducible repeat (first | apply Kd.R_alloc | apply Kd.R_drewN | apply Kd.R_drew)); exact Kd.R_mono (Kd.R_far (p := ⟨gb140, 3, none⟩) (Kd.R_far (p := ⟨gb140, 2, none⟩) (Kd.R_far (p := ⟨gb140, 1, none⟩) (Kd.R_far (p := ⟨gb140, 0, none⟩) (Kd.R_types ba1.out BK140.out (by decide)) (fun _ hk => hk.2) (.int .i64 a1)) (fun _ hk => hk.2) (.int .i64 (wrap64 (a2 + a3)))) (fun _ hk => hk.2) (.slice Ao28 ba2.length co28)) (fun _ hk => hk.2) (.slice Ao30 ba3.length co30)) (fun _ hk => ⟨hk.1.1, hk.1.2⟩), by repeat (first | (with_reducible first | exact HB.out | apply below_alloc | apply pw_below_drewN | apply below_drew1 | refine below_set ?_ (Aside0.out (by assumption))) | exact HB.out)⟩


   rw [if_pos c9] at H
   have c9b0 : decide (x12_1 < (l0.length : Int)) = true := decide_eq_true c9
   clear c9
   by_cases c10 : 0 ≤ x12_1
   case neg =>
    rw [if_neg c10] at H
    exact absurd H (by simp)
   rw [if_pos c10] at H
   have c10b0 : decide (0 ≤ x12_1) = true := decide_eq_true c10
   clear c10
   by_cases c11 : ((rd_T44 l0 x12_1).f1) = a1
   case pos =>
    rw [if_pos c11] at H
    have c11b0 : (((rd_T44 l0 x12_1).f1) == a1) = true := beq_iff_eq.mpr c11
    have c11b1 : (((rd_T44 l0 x12_1).f1) != a1) = false := bne_eq_false_iff_eq.mpr c11
    clear c11
    by_cases c12 : ba2.length < 2199023255552
    case neg =>
     rw [if_neg c12] at H
     exact absurd H (by simp)
    rw [if_pos c12] at H
    have LMc12 := Aside0.mk c12
    clear c12
    obtain ⟨y144, hy144⟩ : ∃ y_ : List (S44), y_ = (ba2 ++ [(⟨(rd_T44 l0 x12_1).f0, (rd_T44 l0 x12_1).f1, (rd_T44 l0 x12_1).f2, (rd_T44 l0 x12_1).f3, (rd_T44 l0 x12_1).f4, (rd_T44 l0 x12_1).f5, (rd_T44 l0 x12_1).f6, (rd_T44 l0 x12_1).f7⟩ : S44)]) := ⟨_, rfl⟩
    replace H : (storagebarterref26_Culprit.l0 k1 l0 a1 x10_1 (wrap64 (x12_1 + 1)) a1 (wrap64 (a2 + a3)) y144 ba3) = some (r1, r2, r3, r4, r5) := by first | (rw [hy144]; with_reducible exact H) | (have H2_ := (Option.bind_some _ _).symm.trans H; rw [hy144]; with_reducible exact H2_) | (have H2_ := (Option.bind_some _ _).symm.trans H; with_reducible exact H2_) | with_reducible exact H | (rw [hy144]; exact H) | exact H
    have Ny144 := Aside0.mk hy144
    clear hy144
    have H' := Aside0.mk H
    clear H
    have p142 : 0 ≤ (x12_1 : Int) := of_decide_eq_true (by first | (with_reducible assumption) | assumption)
    have q142 : x12_1 < (l0.length : Int) := of_decide_eq_true (by first | (with_reducible assumption) | assumption)
    obtain ⟨ad142, e142, hx142_0, hx142_1, hx142_2, hx142_3, hx142_4, hx142_5, hx142_6, hx142_7⟩ := at_T44 HR0.out x12_1 p142 q142
    cases e142
    replace hx142_0 := (HB.out.cell (World.block_lt_of_cell? w _ hx142_0)).trans hx142_0
    replace hx142_1 := (HB.out.cell (World.block_lt_of_cell? w _ hx142_1)).trans hx142_1
    replace hx142_2 := (HB.out.cell (World.block_lt_of_cell? w _ hx142_2)).trans hx142_2
    replace hx142_3 := (HB.out.cell (World.block_lt_of_cell? w _ hx142_3)).trans hx142_3
    replace hx142_4 := (HB.out.cell (World.block_lt_of_cell? w _ hx142_4)).trans hx142_4
    replace hx142_5 := (HB.out.cell (World.block_lt_of_cell? w _ hx142_5)).trans hx142_5
    replace hx142_6 := (HB.out.cell (World.block_lt_of_cell? w _ hx142_6)).trans hx142_6
    replace hx142_7 := (HB.out.cell (World.block_lt_of_cell? w _ hx142_7)).trans hx142_7
    replace p142 := eq_true p142
    replace q142 := eq_true q142
    try go_wp2
    have n0_ := Aside0.mk (Kd.R_drew HO_10.out)
    have n1_ := Aside0.mk (Kd.R_drew ba0.out)
    have n2_ := Aside0.mk (Kd.R_drew ba1.out)
    have n3_ := Aside0.mk (blk_drew BK140.out)
    have n4_ := Aside0.mk (blk_drew BK141.out)
    have n5_ := Aside0.mk (below_drew1 HB.out)
    clear HO_10
    clear ba0
    clear ba1
    clear BK140
    clear BK141
    clear HB
    have HO_10 := n0_
    have ba0 := n1_
    have ba1 := n2_
    have BK140 := n3_
    have BK141 := n4_
    have HB := n5_
    clear n0_ n1_ n2_ n3_ n4_ n5_
    have p143 : 0 ≤ (x12_1 : Int) := of_decide_eq_true (by first | (with_reducible assumption) | assumption)
    have q143 : x12_1 < (l0.length : Int) := of_decide_eq_true (by first | (with_reducible assumption) | assumption)
    obtain ⟨ad143, e143, hx143_0, hx143_1, hx143_2, hx143_3, hx143_4, hx143_5, hx143_6, hx143_7⟩ := at_T44 HR0.out x12_1 p143 q143
    have hw143_7 := hx143_7
    have hw143_6 := hx143_6
    have hw143_5 := hx143_5
    have hw143_4 := hx143_4
    have hw143_3 := hx143_3
    have hw143_2 := hx143_2
    have hw143_1 := hx143_1
    have hw143_0 := hx143_0
    obtain rfl : ad142 = ad143 := (by injection e143)
    replace hx143_0 := (HB.out.cell (World.block_lt_of_cell? w _ hx143_0)).trans hx143_0
    replace hx143_1 := (HB.out.cell (World.block_lt_of_cell? w _ hx143_1)).trans hx143_1
    replace hx143_2 := (HB.out.cell (World.block_lt_of_cell? w _ hx143_2)).trans hx143_2
    replace hx143_3 := (HB.out.cell (World.block_lt_of_cell? w _ hx143_3)).trans hx143_3
    replace hx143_4 := (HB.out.cell (World.block_lt_of_cell? w _ hx143_4)).trans hx143_4
    replace hx143_5 := (HB.out.cell (World.block_lt_of_cell? w _ hx143_5)).trans hx143_5
    replace hx143_6 := (HB.out.cell (World.block_lt_of_cell? w _ hx143_6)).trans hx143_6
    replace hx143_7 := (HB.out.cell (World.block_lt_of_cell? w _ hx143_7)).trans hx143_7
    replace p143 := eq_true p143
    replace q143 := eq_true q143
    refine start_ (n := 10) (S := fun w' => w'.cell? ⟨gb141, 0, none⟩ = some (.int .i64 a1) ∧ w'.cell? ⟨gb141, 1, none⟩ = some (.int .i64 (wrap64 (a2 + a3))) ∧ w'.cell? ⟨gb141, 2, none⟩ = some (ba4) ∧ w'.cell? ⟨gb141, 3, none⟩ = some (ba5) ∧ w'.cell? (ad142.add ((x12_1).toNat * 8)) = some (.int .i64 ((rd_T44 l0 x12_1).f0)) ∧ w'.cell? ⟨(ad142.add ((x12_1).toNat * 8)).block, (ad142.add ((x12_1).toNat * 8)).off + 1, none⟩ = some (.int .i64 ((rd_T44 l0 x12_1).f1)) ∧ w'.cell? ⟨(ad142.add ((x12_1).toNat * 8)).block, (ad142.add ((x12_1).toNat * 8)).off + 2, none⟩ = some (.int .i64 ((rd_T44 l0 x12_1).f2)) ∧ w'.cell? ⟨(ad142.add ((x12_1).toNat * 8)).block, (ad142.add ((x12_1).toNat * 8)).off + 3, none⟩ = some (.int .i64 ((rd_T44 l0 x12_1).f3)) ∧ w'.cell? ⟨(ad142.add ((x12_1).toNat * 8)).block, (ad142.add ((x12_1).toNat * 8)).off + 4, none⟩ = some (.int .i64 ((rd_T44 l0 x12_1).f4)) ∧ w'.cell? ⟨(ad142.add ((x12_1).toNat * 8)).block, (ad142.add ((x12_1).toNat * 8)).off + 5, none⟩ = some (.int .i64 ((rd_T44 l0 x12_1).f5)) ∧ w'.cell? ⟨(ad142.add ((x12_1).toNat * 8)).block, (ad142.add ((x12_1).toNat * 8)).off + 6, none⟩ = some (.int .i64 ((rd_T44 l0 x12_1).f6)) ∧ w'.cell? ⟨(ad142.add ((x12_1).toNat * 8)).block, (ad142.add ((x12_1).toNat * 8)).off + 7, none⟩ = some (.bool ((rd_T44 l0 x12_1).f7))) (ds := [9]) #[false, false, false, false, false, false, false, false, false, false] (by kernel_rfl) rfl rfl ⟨(blk_cell BK141.out 0).trans rfl, (blk_cell BK141.out 1).trans rfl, (blk_cell BK141.out 2).trans rfl, (blk_cell BK141.out 3).trans rfl, ((HB.out.cell (World.block_lt_of_cell? w _ hw143_0)).trans hw143_0), ((HB.out.cell (World.block_lt_of_cell? w _ hw143_1)).trans hw143_1), ((HB.out.cell (World.block_lt_of_cell? w _ hw143_2)).trans hw143_2), ((HB.out.cell (World.block_lt_of_cell? w _ hw143_3)).trans hw143_3), ((HB.out.cell (World.block_lt_of_cell? w _ hw143_4)).trans hw143_4), ((HB.out.cell (World.block_lt_of_cell? w _ hw143_5)).trans hw143_5), ((HB.out.cell (World.block_lt_of_cell? w _ hw143_6)).trans hw143_6), ((HB.out.cell (World.block_lt_of_cell? w _ hw143_7)).trans hw143_7)⟩ (fun hHeld => ?_); refine with_tabW storagebarterref26_Culprit.tab8 storagebarterref26_Culprit.bits8 (fun HT_ HW_ => ?_)
    generalize wr.drew = w13 at HO_10 ba0 ba1 BK140 BK141 HB hx143_0 hx143_1 hx143_2 hx143_3 hx143_4 hx143_5 hx143_6 hx143_7 hHeld ⊢
    refine pure_ (i := 0) (N := some 39) (v := ?_) (a' := ?_) #[true, false, false, false, false, false, false, false, false, false] rfl rfl (any_of HT_.out (by kernel_rfl)) (fun _ _ _ h => h) (Or.inl ⟨by rfl, ?_⟩) ?_ ?_
    rotate_left
    ·intro w'
     go_simp
     with_reducible rfl
    rotate_left
    ·simp only [Act.put, List.setIfInBounds_toArray, List.set_cons_zero, List.set_cons_succ, i64_w, i32_w]
     rfl
    refine pure_ (i := 2) (N := some 41) (v := ?_) (a' := ?_) #[true, false, true, false, false, false, false, false, false, false] rfl rfl (any_of HT_.out (by kernel_rfl)) (fun _ _ _ h => h) (Or.inl ⟨by rfl, ?_⟩) ?_ ?_
    rotate_left
    ·intro w'
     go_simp
     with_reducible rfl
    rotate_left
    ·simp only [Act.put, List.setIfInBounds_toArray, List.set_cons_zero, List.set_cons_succ, i64_w, i32_w]
     rfl
    refine pure_ (i := 3) (N := some 42) (v := ?_) (a' := ?_) #[true, false, true, true, false, false, false, false, false, false] rfl rfl (any_of HT_.out (by kernel_rfl)) (fun _ _ _ h => h) (Or.inl ⟨by rfl, ?_⟩) ?_ ?_
    rotate_left
    ·intro w'
     go_simp
     with_reducible rfl
    rotate_left
    ·simp only [Act.put, List.setIfInBounds_toArray, List.set_cons_zero, List.set_cons_succ, i64_w, i32_w]
     rfl
    refine pure_ (i := 4) (N := some 43) (v := ?_) (a' := ?_) #[true, false, true, true, true, false, false, false, false, false] rfl rfl (any_of HT_.out (by kernel_rfl)) (fun _ _ _ h => h) (Or.inl ⟨by rfl, ?_⟩) ?_ ?_
    rotate_left
    ·intro w'
     go_simp
     with_reducible rfl
    rotate_left
    ·simp only [Act.put, List.setIfInBounds_toArray, List.set_cons_zero, List.set_cons_succ, i64_w, i32_w]
     rfl
    refine take_ (i := 1) (N := some 40) (v := ?_) (a' := ?_) #[true, true, true, true, true, false, false, false, false, false] rfl rfl (take_ofW HT_.out HW_.out (by kernel_rfl)) (fun _ _ _ h => h) (Or.inl ⟨by rfl, ?_⟩) hHeld ?_ ?_
    rotate_left
    ·rintro w' ⟨s0, s1, s2, s3, s4, s5, s6, s7, s8, s9, s10, s11⟩
     go_simp
     with_reducible rfl
    rotate_left
    ·simp only [Act.put, List.setIfInBounds_toArray, List.set_cons_zero, List.set_cons_succ, i64_w, i32_w]
     rfl
    refine take_ (i := 5) (N := some 44) (v := ?_) (a' := ?_) #[true, true, true, true, true, true, false, false, false, false] rfl rfl (take_ofW HT_.out HW_.out (by kernel_rfl)) (fun _ _ _ h => h) (Or.inl ⟨by rfl, ?_⟩) hHeld ?_ ?_
    rotate_left
    ·rintro w' ⟨s0, s1, s2, s3, s4, s5, s6, s7, s8, s9, s10, s11⟩
     go_simp
     with_reducible rfl
    rotate_left
    ·simp only [Act.put, List.setIfInBounds_toArray, List.set_cons_zero, List.set_cons_succ, i64_w, i32_w]
     rfl
    refine one_ (i := 6) (N := some 45) #[true, true, true, true, true, true, true, false, false, false] rfl rfl (one_of HT_.out (by kernel_rfl)) (by decide) (fun K hK => ?_)
    refine value_ (w1 := ?_) (v := ?_) (by rfl) rfl ?_ ?_
    rotate_left 2
    ·go_simp
     constructor
     ·rfl
     ·rfl
    refine hK.out _ _ ⟨(blk_cell (blk_alloc BK141.out _) 0).trans rfl, (blk_cell (blk_alloc BK141.out _) 1).trans rfl, (blk_cell (blk_alloc BK141.out _) 2).trans rfl, (blk_cell (blk_alloc BK141.out _) 3).trans rfl, (World.cell?_alloc_lt _ _ _ (World.block_lt_of_cell? _ _ (((HB.out.cell (World.block_lt_of_cell? w _ hw143_0)).trans hw143_0)))).trans (((HB.out.cell (World.block_lt_of_cell? w _ hw143_0)).trans hw143_0)), (World.cell?_alloc_lt _ _ _ (World.block_lt_of_cell? _ _ (((HB.out.cell (World.block_lt_of_cell? w _ hw143_1)).trans hw143_1)))).trans (((HB.out.cell (World.block_lt_of_cell? w _ hw143_1)).trans hw143_1)), (World.cell?_alloc_lt _ _ _ (World.block_lt_of_cell? _ _ (((HB.out.cell (World.block_lt_of_cell? w _ hw143_2)).trans hw143_2)))).trans (((HB.out.cell (World.block_lt_of_cell? w _ hw143_2)).trans hw143_2)), (World.cell?_alloc_lt _ _ _ (World.block_lt_of_cell? _ _ (((HB.out.cell (World.block_lt_of_cell? w _ hw143_3)).trans hw143_3)))).trans (((HB.out.cell (World.block_lt_of_cell? w _ hw143_3)).trans hw143_3)), (World.cell?_alloc_lt _ _ _ (World.block_lt_of_cell? _ _ (((HB.out.cell (World.block_lt_of_cell? w _ hw143_4)).trans hw143_4)))).trans (((HB.out.cell (World.block_lt_of_cell? w _ hw143_4)).trans hw143_4)), (World.cell?_alloc_lt _ _ _ (World.block_lt_of_cell? _ _ (((HB.out.cell (World.block_lt_of_cell? w _ hw143_5)).trans hw143_5)))).trans (((HB.out.cell (World.block_lt_of_cell? w _ hw143_5)).trans hw143_5)), (World.cell?_alloc_lt _ _ _ (World.block_lt_of_cell? _ _ (((HB.out.cell (World.block_lt_of_cell? w _ hw143_6)).trans hw143_6)))).trans (((HB.out.cell (World.block_lt_of_cell? w _ hw143_6)).trans hw143_6)), (World.cell?_alloc_lt _ _ _ (World.block_lt_of_cell? _ _ (((HB.out.cell (World.block_lt_of_cell? w _ hw143_7)).trans hw143_7)))).trans (((HB.out.cell (World.block_lt_of_cell? w _ hw143_7)).trans hw143_7))⟩ (fun hHeld => ?_)
    clear hK K
    refine norm_ (a' := ?_) ?_ ?_
    rotate_left
    ·show Act.put _ (some 45) _ = _
     simp only [Act.put, List.setIfInBounds_toArray, List.set_cons_zero, List.set_cons_succ, i64_w, i32_w]
     rfl
    refine one_ (i := 7) (N := some 46) #[true, true, true, true, true, true, true, true, false, false] rfl rfl (one_of HT_.out (by kernel_rfl)) (by decide) (fun K hK => ?_)
    refine Kd.R_append_step k44 (w0 := w) w.heap.size (by rfl) (.tmp 40) (.tmp 45) 26 44 (.agg #[(.int .i64 0), (.int .i64 0), (.int .i64 0), (.int .i64 0), (.int .i64 0), (.int .i64 0), (.int .i64 0), (.bool false)]) 64 rfl Try.underlying26 info44 rfl (by decide) (by omega) ba4 ba2 (⟨(rd_T44 l0 x12_1).f0, (rd_T44 l0 x12_1).f1, (rd_T44 l0 x12_1).f2, (rd_T44 l0 x12_1).f3, (rd_T44 l0 x12_1).f4, (rd_T44 l0 x12_1).f5, (rd_T44 l0 x12_1).f6, (rd_T44 l0 x12_1).f7⟩ : S44) [.int .i64 ((rd_T44 l0 x12_1).f0), .int .i64 ((rd_T44 l0 x12_1).f1), .int .i64 ((rd_T44 l0 x12_1).f2), .int .i64 ((rd_T44 l0 x12_1).f3), .int .i64 ((rd_T44 l0 x12_1).f4), .int .i64 ((rd_T44 l0 x12_1).f5), .int .i64 ((rd_T44 l0 x12_1).f6), .bool ((rd_T44 l0 x12_1).f7)] (fun k_ => some k_ ≠ (u10 : Value).ownBlock ∧ some k_ ≠ (ba5 : Value).ownBlock) (fun _ => False) rfl rfl ?aP (fun _ hk => hk.elim) ?aF ?aO ?aB ?aS ?aL ?_
    (case aP => exact k44_mkM _ _ _ (⟨(rd_T44 l0 x12_1).f0, (rd_T44 l0 x12_1).f1, (rd_T44 l0 x12_1).f2, (rd_T44 l0 x12_1).f3, (rd_T44 l0 x12_1).f4, (rd_T44 l0 x12_1).f5, (rd_T44 l0 x12_1).f6, (rd_T44 l0 x12_1).f7⟩ : S44))
    (case aB => exact (by repeat (first | (with_reducible first | exact HB.out | apply below_alloc | apply pw_below_drewN | apply below_drew1 | refine below_set ?_ (Aside0.out (by assumption))) | exact HB.out)))
    (case aF => exact (fun k_ hk => ⟨Kd.fresh' (Kd.R_lt (rU27 HO_10.out)) k_ hk, Kd.fresh' (Kd.R_lt (rU27 ba1.out)) k_ hk⟩))
    (case aO => exact (rU27 ba0.out))
    (case aS => exact (below_size (by repeat (first | (with_reducible first | exact HB.out | apply below_alloc | apply pw_below_drewN | apply below_drew1 | refine below_set ?_ (Aside0.out (by assumption))) | exact HB.out))))
    (case aL => have := LMc12.out; omega)
    intro v145 w14 ho hb hg hat
    rw [← Ny144.out] at ho
    have n0_ := Aside0.mk (Kd.R_after (ok := (fun k_ => some k_ ≠ (ba5 : Value).ownBlock)) (rU27 (Kd.R_mono HO_10.out (fun _ hk => ⟨hk.2, hk.1⟩))) hg hat)
    have n1_ := Aside0.mk (Kd.R_after (ok := (fun k_ => some k_ ≠ (u10 : Value).ownBlock)) (rU27 ba1.out) hg hat)
    have n2_ := Aside0.mk (blk_grown (g := gb140) (o := .cells #[.int .i64 0, .int .i64 0, .slice none 0 0, .slice none 0 0] 32 (0, 0)) (bU27 BK140.out) hg (Kd.R_ne ba0.out BK140.out (by decide)))
    have n3_ := Aside0.mk (blk_grown (g := gb141) (o := .cells #[.int .i64 a1, .int .i64 (wrap64 (a2 + a3)), ba4, ba5] 32 (0, 0)) (bU27 BK141.out) hg (Kd.R_ne ba0.out BK141.out (by decide)))
    have n4_ := Aside0.mk (hb)
    have n5_ := Aside0.mk (ho)
    clear HO_10
    clear ba1
    clear BK140
    clear BK141
    clear HB
    clear ba0
    have HO_10 := n0_
    have ba1 := n1_
    have BK140 := n2_
    have BK141 := n3_
    have HB := n4_
    have HO146 := n5_
    clear n0_ n1_ n2_ n3_ n4_ n5_
    clear ho hb hg hat
    obtain ⟨Ao15, co15, eo15⟩ := Kd.R_slice HO146.out
    (first | subst eo15 | (injection eo15 with f1_ f2_ f3_; have f4_ := f1_.symm; have f5_ := f3_.symm; clear f1_ f2_ f3_; subst f4_; subst f5_))
    refine hK.out _ _ ⟨(blk_cell BK141.out 0).trans rfl, (blk_cell BK141.out 1).trans rfl, (blk_cell BK141.out 2).trans rfl, (blk_cell BK141.out 3).trans rfl, ((HB.out.cell (World.block_lt_of_cell? w _ hw143_0)).trans hw143_0), ((HB.out.cell (World.block_lt_of_cell? w _ hw143_1)).trans hw143_1), ((HB.out.cell (World.block_lt_of_cell? w _ hw143_2)).trans hw143_2), ((HB.out.cell (World.block_lt_of_cell? w _ hw143_3)).trans hw143_3), ((HB.out.cell (World.block_lt_of_cell? w _ hw143_4)).trans hw143_4), ((HB.out.cell (World.block_lt_of_cell? w _ hw143_5)).trans hw143_5), ((HB.out.cell (World.block_lt_of_cell? w _ hw143_6)).trans hw143_6), ((HB.out.cell (World.block_lt_of_cell? w _ hw143_7)).trans hw143_7)⟩ (fun hHeld => ?_)
    clear hK K
    refine norm_ (a' := ?_) ?_ ?_
    rotate_left
    ·show Act.put _ (some 46) _ = _
     simp only [Act.put, List.setIfInBounds_toArray, List.set_cons_zero, List.set_cons_succ, i64_w, i32_w]
     rfl
    refine pure_ (i := 8) (N := some 47) (v := ?_) (a' := ?_) #[true, true, true, true, true, true, true, true, true, false] rfl rfl (any_of HT_.out (by kernel_rfl)) (fun _ _ _ h => h) (Or.inl ⟨by rfl, ?_⟩) ?_ ?_
    rotate_left
    ·intro w'
     go_simp
     with_reducible rfl
    rotate_left
    ·simp only [Act.put, List.setIfInBounds_toArray, List.set_cons_zero, List.set_cons_succ, i64_w, i32_w]
     rfl
    refine last_ (i := 9) (N := none) #[true, true, true, true, true, true, true, true, true, true] rfl rfl (one_of HT_.out (by kernel_rfl)) (by decide) (fun K hK => ?_)
    have hs16 : w14.cell? ⟨gb141, 2, none⟩ = some (ba4) := (blk_cell BK141.out 2).trans rfl
    have hfs16 := blk_frozen BK141.out 2
    have hns16_0 := NB140_141.out
    have hms16_0 := NB141_140.out
    refine skip_ (w1 := ?_) (by rfl) rfl ?_ ?_
    rotate_left
    ·go_simp
     rfl
    refine hK.out _ _ ?_
    clear hK K
    refine done_ (done_of HT_.out (by kernel_rfl)) ?_
    try go_wp2
    go_roundg k1
    case measure => have := HK1.out; omega
    case rel => exact ⟨(x10_1), (wrap64 (x12_1 + 1)), (y144), (ba3), (.slice Ao15 y144.length co15), (ba5), (by first | rfl | (simp; done) | (simp [*]; done)), H', ⟨by have := HK1.out; omega⟩, ⟨by (with_reducible repeat (first | apply Kd.R_alloc | apply Kd.R_drewN | apply Kd.R_drew)); exact Kd.R_mono (Kd.R_far (p := ⟨gb141, 2, none⟩) (Kd.R_types HO_10.out BK141.out (by decide)) (fun _ hk => hk.2) (.slice Ao15 y144.length co15)) (fun _ hk => ⟨hk.1.2, hk.1.1⟩)⟩, ⟨by (with_reducible repeat (first | apply Kd.R_alloc | apply Kd.R_drewN | apply Kd.R_drew)); exact Kd.R_mono (Kd.R_far (p := ⟨gb141, 2, none⟩) (Kd.R_types HO146.out BK141.out (by decide)) (fun _ hk => hk.2) (.slice Ao15 y144.length co15)) (fun _ hk => ⟨hk.1.1, hk.1.2⟩)⟩, ⟨by (with_reducible repeat (first | apply Kd.R_alloc | apply Kd.R_drewN | apply Kd.R_drew)); exact Kd.R_mono (Kd.R_far (p := ⟨gb141, 2, none⟩) (Kd.R_types ba1.out BK141.out (by decide)) (fun _ hk => hk.2) (.slice Ao15 y144.length co15)) (fun _ hk => ⟨hk.1.1, hk.1.2⟩)⟩, ⟨by (with_reducible repeat (first | refine blk_drewN ?_ _ | refine blk_drew ?_ | refine blk_alloc ?_ _)); refine blk_far ?_ NB140_141.out _; exact bU27 BK140.out⟩, ⟨by (with_reducible repeat (first | refine blk_drewN ?_ _ | refine blk_drew ?_ | refine blk_alloc ?_ _)); refine blk_put (cs := #[.int .i64 a1, .int .i64 (wrap64 (a2 + a3)), ba4, ba5]) ?_ 2 _ rfl; exact bU27 BK141.out⟩, ⟨by repeat (first | (with_reducible first | exact HB.out | apply below_alloc | apply pw_below_drewN | apply below_drew1 | refine below_set ?_ (Aside0.out (by assumption))) | exact HB.out)⟩⟩
   rw [if_neg c11] at H
   have c11b0 : (((rd_T44 l0 x12_1).f1) == a1) = false := beq_eq_false_iff_ne.mpr c11
   have c11b1 : (((rd_T44 l0 x12_1).f1) != a1) = true := bne_iff_ne.mpr c11
   by_cases c17 : ((rd_T44 l0 x12_1).f0) = a1
   case neg =>
    rw [if_neg c17] at H
    have c17b0 : (((rd_T44 l0 x12_1).f0) == a1) = false := beq_eq_false_iff_ne.mpr c17
    have c17b1 : (((rd_T44 l0 x12_1).f0) != a1) = true := bne_iff_ne.mpr c17
    by_cases c23 : x10_1.length < 2199023255552
    case neg =>
     rw [if_neg c23] at H
     exact absurd H (by simp)
    rw [if_pos c23] at H
    have LMc23 := Aside0.mk c23
    clear c23
    obtain ⟨y153, hy153⟩ : ∃ y_ : List (S44), y_ = (x10_1 ++ [(⟨(rd_T44 l0 x12_1).f0, (rd_T44 l0 x12_1).f1, (rd_T44 l0 x12_1).f2, (rd_T44 l0 x12_1).f3, (rd_T44 l0 x12_1).f4, (rd_T44 l0 x12_1).f5, (rd_T44 l0 x12_1).f6, (rd_T44 l0 x12_1).f7⟩ : S44)]) := ⟨_, rfl⟩
    replace H : (storagebarterref26_Culprit.l0 k1 l0 a1 y153 (wrap64 (x12_1 + 1)) a1 (wrap64 (a2 + a3)) ba2 ba3) = some (r1, r2, r3, r4, r5) := by first | (rw [hy153]; with_reducible exact H) | (have H2_ := (Option.bind_some _ _).symm.trans H; rw [hy153]; with_reducible exact H2_) | (have H2_ := (Option.bind_some _ _).symm.trans H; with_reducible exact H2_) | with_reducible exact H | (rw [hy153]; exact H) | exact H
    have Ny153 := Aside0.mk hy153
    clear hy153
    have H' := Aside0.mk H
    clear H
    have p142 : 0 ≤ (x12_1 : Int) := of_decide_eq_true (by first | (with_reducible assumption) | assumption)
    have q142 : x12_1 < (l0.length : Int) := of_decide_eq_true (by first | (with_reducible assumption) | assumption)
    obtain ⟨ad142, e142, hx142_0, hx142_1, hx142_2, hx142_3, hx142_4, hx142_5, hx142_6, hx142_7⟩ := at_T44 HR0.out x12_1 p142 q142
    cases e142
    replace hx142_0 := (HB.out.cell (World.block_lt_of_cell? w _ hx142_0)).trans hx142_0
    replace hx142_1 := (HB.out.cell (World.block_lt_of_cell? w _ hx142_1)).trans hx142_1
    replace hx142_2 := (HB.out.cell (World.block_lt_of_cell? w _ hx142_2)).trans hx142_2
    replace hx142_3 := (HB.out.cell (World.block_lt_of_cell? w _ hx142_3)).trans hx142_3
    replace hx142_4 := (HB.out.cell (World.block_lt_of_cell? w _ hx142_4)).trans hx142_4
    replace hx142_5 := (HB.out.cell (World.block_lt_of_cell? w _ hx142_5)).trans hx142_5
    replace hx142_6 := (HB.out.cell (World.block_lt_of_cell? w _ hx142_6)).trans hx142_6
    replace hx142_7 := (HB.out.cell (World.block_lt_of_cell? w _ hx142_7)).trans hx142_7
    replace p142 := eq_true p142
    replace q142 := eq_true q142
    have p147 : 0 ≤ (x12_1 : Int) := of_decide_eq_true (by first | (with_reducible assumption) | assumption)
    have q147 : x12_1 < (l0.length : Int) := of_decide_eq_true (by first | (with_reducible assumption) | assumption)
    obtain ⟨ad147, e147, hx147_0, hx147_1, hx147_2, hx147_3, hx147_4, hx147_5, hx147_6, hx147_7⟩ := at_T44 HR0.out x12_1 p147 q147
    obtain rfl : ad142 = ad147 := (by injection e147)
    replace hx147_0 := (HB.out.cell (World.block_lt_of_cell? w _ hx147_0)).trans hx147_0
    replace hx147_1 := (HB.out.cell (World.block_lt_of_cell? w _ hx147_1)).trans hx147_1
    replace hx147_2 := (HB.out.cell (World.block_lt_of_cell? w _ hx147_2)).trans hx147_2
    replace hx147_3 := (HB.out.cell (World.block_lt_of_cell? w _ hx147_3)).trans hx147_3
    replace hx147_4 := (HB.out.cell (World.block_lt_of_cell? w _ hx147_4)).trans hx147_4
    replace hx147_5 := (HB.out.cell (World.block_lt_of_cell? w _ hx147_5)).trans hx147_5
    replace hx147_6 := (HB.out.cell (World.block_lt_of_cell? w _ hx147_6)).trans hx147_6
    replace hx147_7 := (HB.out.cell (World.block_lt_of_cell? w _ hx147_7)).trans hx147_7
    replace p147 := eq_true p147
    replace q147 := eq_true q147
    have p152 : 0 ≤ (x12_1 : Int) := of_decide_eq_true (by first | (with_reducible assumption) | assumption)
    have q152 : x12_1 < (l0.length : Int) := of_decide_eq_true (by first | (with_reducible assumption) | assumption)
    obtain ⟨ad152, e152, hx152_0, hx152_1, hx152_2, hx152_3, hx152_4, hx152_5, hx152_6, hx152_7⟩ := at_T44 HR0.out x12_1 p152 q152
    obtain rfl : ad142 = ad152 := (by injection e152)
    replace hx152_0 := (HB.out.cell (World.block_lt_of_cell? w _ hx152_0)).trans hx152_0
    replace hx152_1 := (HB.out.cell (World.block_lt_of_cell? w _ hx152_1)).trans hx152_1
    replace hx152_2 := (HB.out.cell (World.block_lt_of_cell? w _ hx152_2)).trans hx152_2
    replace hx152_3 := (HB.out.cell (World.block_lt_of_cell? w _ hx152_3)).trans hx152_3
    replace hx152_4 := (HB.out.cell (World.block_lt_of_cell? w _ hx152_4)).trans hx152_4
    replace hx152_5 := (HB.out.cell (World.block_lt_of_cell? w _ hx152_5)).trans hx152_5
    replace hx152_6 := (HB.out.cell (World.block_lt_of_cell? w _ hx152_6)).trans hx152_6
    replace hx152_7 := (HB.out.cell (World.block_lt_of_cell? w _ hx152_7)).trans hx152_7
    replace p152 := eq_true p152
    replace q152 := eq_true q152
    go_wp2_with (first | ((with_reducible refine gate_builtin (b := .append) (xs := #[.tmp 24, .tmp 29]) rfl ?_); at_builtin; refine Kd.R_append k44 (w0 := w) w.heap.size rfl (.tmp 24) (.tmp 29) 26 44 (.agg #[(.int .i64 0), (.int .i64 0), (.int .i64 0), (.int .i64 0), (.int .i64 0), (.int .i64 0), (.int .i64 0), (.bool false)]) 64 rfl Try.underlying26 info44 rfl (by decide) (by omega) u10 x10_1 (⟨(rd_T44 l0 x12_1).f0, (rd_T44 l0 x12_1).f1, (rd_T44 l0 x12_1).f2, (rd_T44 l0 x12_1).f3, (rd_T44 l0 x12_1).f4, (rd_T44 l0 x12_1).f5, (rd_T44 l0 x12_1).f6, (rd_T44 l0 x12_1).f7⟩ : S44) [.int .i64 ((rd_T44 l0 x12_1).f0), .int .i64 ((rd_T44 l0 x12_1).f1), .int .i64 ((rd_T44 l0 x12_1).f2), .int .i64 ((rd_T44 l0 x12_1).f3), .int .i64 ((rd_T44 l0 x12_1).f4), .int .i64 ((rd_T44 l0 x12_1).f5), .int .i64 ((rd_T44 l0 x12_1).f6), .bool ((rd_T44 l0 x12_1).f7)] (fun k_ => some k_ ≠ (ba4 : Value).ownBlock ∧ some k_ ≠ (ba5 : Value).ownBlock) (fun _ => False) rfl rfl ?aP (fun _ hk => hk.elim) ?aF ?aO ?aB ?aS ?aL ?_; (case aP => exact k44_mkM _ _ _ (⟨(rd_T44 l0 x12_1).f0, (rd_T44 l0 x12_1).f1, (rd_T44 l0 x12_1).f2, (rd_T44 l0 x12_1).f3, (rd_T44 l0 x12_1).f4, (rd_T44 l0 x12_1).f5, (rd_T44 l0 x12_1).f6, (rd_T44 l0 x12_1).f7⟩ : S44)); (case aB => exact (by repeat (first | (with_reducible first | exact HB.out | apply below_alloc | apply pw_below_drewN | apply below_drew1 | refine below_set ?_ (Aside0.out (by assumption))) | exact HB.out))); (case aF => exact (fun k_ hk => ⟨Kd.fresh' (Kd.R_lt (rU27 ba0.out)) k_ hk, Kd.fresh' (Kd.R_lt (rU27 ba1.out)) k_ hk⟩)); (case aO => exact (rU27 HO_10.out)); (case aS => exact (below_size (by repeat (first | (with_reducible first | exact HB.out | apply below_alloc | apply pw_below_drewN | apply below_drew1 | refine below_set ?_ (Aside0.out (by assumption))) | exact HB.out)))); (case aL => have := LMc23.out; omega); intro v154 w24 ho hb hg hat; rw [← Ny153.out] at ho; have n0_ := Aside0.mk (Kd.R_after (ok := (fun k_ => some k_ ≠ (ba5 : Value).ownBlock)) (rU27 (Kd.R_mono ba0.out (fun _ hk => ⟨hk.2, hk.1⟩))) hg hat); have n1_ := Aside0.mk (Kd.R_after (ok := (fun k_ => some k_ ≠ (ba4 : Value).ownBlock)) (rU27 (Kd.R_mono ba1.out (fun _ hk => ⟨hk.2, hk.1⟩))) hg hat); have n2_ := Aside0.mk (blk_grown (g := gb140) (o := .cells #[.int .i64 0, .int .i64 0, .slice none 0 0, .slice none 0 0] 32 (0, 0)) (bU27 BK140.out) hg (Kd.R_ne HO_10.out BK140.out (by decide))); have n3_ := Aside0.mk (blk_grown (g := gb141) (o := .cells #[.int .i64 a1, .int .i64 (wrap64 (a2 + a3)), ba4, ba5] 32 (0, 0)) (bU27 BK141.out) hg (Kd.R_ne HO_10.out BK141.out (by decide))); have n4_ := Aside0.mk (hb); have n5_ := Aside0.mk (ho); clear ba0; clear ba1; clear BK140; clear BK141; clear HB; clear HO_10; have ba0 := n0_; have ba1 := n1_; have BK140 := n2_; have BK141 := n3_; have HB := n4_; have HO155 := n5_; clear n0_ n1_ n2_ n3_ n4_ n5_; clear ho hb hg hat))
    go_roundg k1
    case measure => have := HK1.out; omega
    case rel => exact ⟨(y153), (wrap64 (x12_1 + 1)), (ba2), (ba3), (ba4), (ba5), (by first | rfl | (simp; done) | (simp [*]; done)), H', ⟨by have := HK1.out; omega⟩, ⟨by (with_reducible repeat (first | apply Kd.R_alloc | apply Kd.R_drewN | apply Kd.R_drew)); exact HO155.out⟩, ⟨by (with_reducible repeat (first | apply Kd.R_alloc | apply Kd.R_drewN | apply Kd.R_drew)); exact Kd.R_mono ba0.out (fun _ hk => ⟨hk.2, hk.1⟩)⟩, ⟨by (with_reducible repeat (first | apply Kd.R_alloc | apply Kd.R_drewN | apply Kd.R_drew)); exact Kd.R_mono ba1.out (fun _ hk => ⟨hk.2, hk.1⟩)⟩, ⟨by exact bU27 BK140.out⟩, ⟨by exact bU27 BK141.out⟩, ⟨by repeat (first | (with_reducible first | exact HB.out | apply below_alloc | apply pw_below_drewN | apply below_drew1 | refine below_set ?_ (Aside0.out (by assumption))) | exact HB.out)⟩⟩
   rw [if_pos c17] at H
   have c17b0 : (((rd_T44 l0 x12_1).f0) == a1) = true := beq_iff_eq.mpr c17
   have c17b1 : (((rd_T44 l0 x12_1).f0) != a1) = false := bne_eq_false_iff_eq.mpr c17
   clear c17
   by_cases c18 : ba3.length < 2199023255552
   case neg =>
    rw [if_neg c18] at H
    exact absurd H (by simp)
   rw [if_pos c18] at H
   have LMc18 := Aside0.mk c18
   clear c18
   obtain ⟨y149, hy149⟩ : ∃ y_ : List (S44), y_ = (ba3 ++ [(⟨(rd_T44 l0 x12_1).f0, (rd_T44 l0 x12_1).f1, (rd_T44 l0 x12_1).f2, (rd_T44 l0 x12_1).f3, (rd_T44 l0 x12_1).f4, (rd_T44 l0 x12_1).f5, (rd_T44 l0 x12_1).f6, (rd_T44 l0 x12_1).f7⟩ : S44)]) := ⟨_, rfl⟩
   replace H : (storagebarterref26_Culprit.l0 k1 l0 a1 x10_1 (wrap64 (x12_1 + 1)) a1 (wrap64 (a2 + a3)) ba2 y149) = some (r1, r2, r3, r4, r5) := by first | (rw [hy149]; with_reducible exact H) | (have H2_ := (Option.bind_some _ _).symm.trans H; rw [hy149]; with_reducible exact H2_) | (have H2_ := (Option.bind_some _ _).symm.trans H; with_reducible exact H2_) | with_reducible exact H | (rw [hy149]; exact H) | exact H
   have Ny149 := Aside0.mk hy149
   clear hy149
   have H' := Aside0.mk H
   clear H
   have p142 : 0 ≤ (x12_1 : Int) := of_decide_eq_true (by first | (with_reducible assumption) | assumption)
   have q142 : x12_1 < (l0.length : Int) := of_decide_eq_true (by first | (with_reducible assumption) | assumption)
   obtain ⟨ad142, e142, hx142_0, hx142_1, hx142_2, hx142_3, hx142_4, hx142_5, hx142_6, hx142_7⟩ := at_T44 HR0.out x12_1 p142 q142
   cases e142
   replace hx142_0 := (HB.out.cell (World.block_lt_of_cell? w _ hx142_0)).trans hx142_0
   replace hx142_1 := (HB.out.cell (World.block_lt_of_cell? w _ hx142_1)).trans hx142_1
   replace hx142_2 := (HB.out.cell (World.block_lt_of_cell? w _ hx142_2)).trans hx142_2
   replace hx142_3 := (HB.out.cell (World.block_lt_of_cell? w _ hx142_3)).trans hx142_3
   replace hx142_4 := (HB.out.cell (World.block_lt_of_cell? w _ hx142_4)).trans hx142_4
   replace hx142_5 := (HB.out.cell (World.block_lt_of_cell? w _ hx142_5)).trans hx142_5
   replace hx142_6 := (HB.out.cell (World.block_lt_of_cell? w _ hx142_6)).trans hx142_6
   replace hx142_7 := (HB.out.cell (World.block_lt_of_cell? w _ hx142_7)).trans hx142_7
   replace p142 := eq_true p142
   replace q142 := eq_true q142
   have p147 : 0 ≤ (x12_1 : Int) := of_decide_eq_true (by first | (with_reducible assumption) | assumption)
   have q147 : x12_1 < (l0.length : Int) := of_decide_eq_true (by first | (with_reducible assumption) | assumption)
   obtain ⟨ad147, e147, hx147_0, hx147_1, hx147_2, hx147_3, hx147_4, hx147_5, hx147_6, hx147_7⟩ := at_T44 HR0.out x12_1 p147 q147
   obtain rfl : ad142 = ad147 := (by injection e147)
   replace hx147_0 := (HB.out.cell (World.block_lt_of_cell? w _ hx147_0)).trans hx147_0
   replace hx147_1 := (HB.out.cell (World.block_lt_of_cell? w _ hx147_1)).trans hx147_1
   replace hx147_2 := (HB.out.cell (World.block_lt_of_cell? w _ hx147_2)).trans hx147_2
   replace hx147_3 := (HB.out.cell (World.block_lt_of_cell? w _ hx147_3)).trans hx147_3
   replace hx147_4 := (HB.out.cell (World.block_lt_of_cell? w _ hx147_4)).trans hx147_4
   replace hx147_5 := (HB.out.cell (World.block_lt_of_cell? w _ hx147_5)).trans hx147_5
   replace hx147_6 := (HB.out.cell (World.block_lt_of_cell? w _ hx147_6)).trans hx147_6
   replace hx147_7 := (HB.out.cell (World.block_lt_of_cell? w _ hx147_7)).trans hx147_7
   replace p147 := eq_true p147
   replace q147 := eq_true q147
   try go_wp2
   have n0_ := Aside0.mk (Kd.R_drew HO_10.out)
   have n1_ := Aside0.mk (Kd.R_drew ba0.out)
   have n2_ := Aside0.mk (Kd.R_drew ba1.out)
   have n3_ := Aside0.mk (blk_drew BK140.out)
   have n4_ := Aside0.mk (blk_drew BK141.out)
   have n5_ := Aside0.mk (below_drew1 HB.out)
   clear HO_10
   clear ba0
   clear ba1
   clear BK140
   clear BK141
   clear HB
   have HO_10 := n0_
   have ba0 := n1_
   have ba1 := n2_
   have BK140 := n3_
   have BK141 := n4_
   have HB := n5_
   clear n0_ n1_ n2_ n3_ n4_ n5_
   have p148 : 0 ≤ (x12_1 : Int) := of_decide_eq_true (by first | (with_reducible assumption) | assumption)
   have q148 : x12_1 < (l0.length : Int) := of_decide_eq_true (by first | (with_reducible assumption) | assumption)
   obtain ⟨ad148, e148, hx148_0, hx148_1, hx148_2, hx148_3, hx148_4, hx148_5, hx148_6, hx148_7⟩ := at_T44 HR0.out x12_1 p148 q148
   have hw148_7 := hx148_7
   have hw148_6 := hx148_6
   have hw148_5 := hx148_5
   have hw148_4 := hx148_4
   have hw148_3 := hx148_3
   have hw148_2 := hx148_2
   have hw148_1 := hx148_1
   have hw148_0 := hx148_0
   obtain rfl : ad142 = ad148 := (by injection e148)
   replace hx148_0 := (HB.out.cell (World.block_lt_of_cell? w _ hx148_0)).trans hx148_0
   replace hx148_1 := (HB.out.cell (World.block_lt_of_cell? w _ hx148_1)).trans hx148_1
   replace hx148_2 := (HB.out.cell (World.block_lt_of_cell? w _ hx148_2)).trans hx148_2
   replace hx148_3 := (HB.out.cell (World.block_lt_of_cell? w _ hx148_3)).trans hx148_3
   replace hx148_4 := (HB.out.cell (World.block_lt_of_cell? w _ hx148_4)).trans hx148_4
   replace hx148_5 := (HB.out.cell (World.block_lt_of_cell? w _ hx148_5)).trans hx148_5
   replace hx148_6 := (HB.out.cell (World.block_lt_of_cell? w _ hx148_6)).trans hx148_6
   replace hx148_7 := (HB.out.cell (World.block_lt_of_cell? w _ hx148_7)).trans hx148_7
   replace p148 := eq_true p148
   replace q148 := eq_true q148
   refine start_ (n := 10) (S := fun w' => w'.cell? ⟨gb141, 0, none⟩ = some (.int .i64 a1) ∧ w'.cell? ⟨gb141, 1, none⟩ = some (.int .i64 (wrap64 (a2 + a3))) ∧ w'.cell? ⟨gb141, 2, none⟩ = some (ba4) ∧ w'.cell? ⟨gb141, 3, none⟩ = some (ba5) ∧ w'.cell? (ad142.add ((x12_1).toNat * 8)) = some (.int .i64 ((rd_T44 l0 x12_1).f0)) ∧ w'.cell? ⟨(ad142.add ((x12_1).toNat * 8)).block, (ad142.add ((x12_1).toNat * 8)).off + 1, none⟩ = some (.int .i64 ((rd_T44 l0 x12_1).f1)) ∧ w'.cell? ⟨(ad142.add ((x12_1).toNat * 8)).block, (ad142.add ((x12_1).toNat * 8)).off + 2, none⟩ = some (.int .i64 ((rd_T44 l0 x12_1).f2)) ∧ w'.cell? ⟨(ad142.add ((x12_1).toNat * 8)).block, (ad142.add ((x12_1).toNat * 8)).off + 3, none⟩ = some (.int .i64 ((rd_T44 l0 x12_1).f3)) ∧ w'.cell? ⟨(ad142.add ((x12_1).toNat * 8)).block, (ad142.add ((x12_1).toNat * 8)).off + 4, none⟩ = some (.int .i64 ((rd_T44 l0 x12_1).f4)) ∧ w'.cell? ⟨(ad142.add ((x12_1).toNat * 8)).block, (ad142.add ((x12_1).toNat * 8)).off + 5, none⟩ = some (.int .i64 ((rd_T44 l0 x12_1).f5)) ∧ w'.cell? ⟨(ad142.add ((x12_1).toNat * 8)).block, (ad142.add ((x12_1).toNat * 8)).off + 6, none⟩ = some (.int .i64 ((rd_T44 l0 x12_1).f6)) ∧ w'.cell? ⟨(ad142.add ((x12_1).toNat * 8)).block, (ad142.add ((x12_1).toNat * 8)).off + 7, none⟩ = some (.bool ((rd_T44 l0 x12_1).f7))) (ds := [9]) #[false, false, false, false, false, false, false, false, false, false] (by kernel_rfl) rfl rfl ⟨(blk_cell BK141.out 0).trans rfl, (blk_cell BK141.out 1).trans rfl, (blk_cell BK141.out 2).trans rfl, (blk_cell BK141.out 3).trans rfl, ((HB.out.cell (World.block_lt_of_cell? w _ hw148_0)).trans hw148_0), ((HB.out.cell (World.block_lt_of_cell? w _ hw148_1)).trans hw148_1), ((HB.out.cell (World.block_lt_of_cell? w _ hw148_2)).trans hw148_2), ((HB.out.cell (World.block_lt_of_cell? w _ hw148_3)).trans hw148_3), ((HB.out.cell (World.block_lt_of_cell? w _ hw148_4)).trans hw148_4), ((HB.out.cell (World.block_lt_of_cell? w _ hw148_5)).trans hw148_5), ((HB.out.cell (World.block_lt_of_cell? w _ hw148_6)).trans hw148_6), ((HB.out.cell (World.block_lt_of_cell? w _ hw148_7)).trans hw148_7)⟩ (fun hHeld => ?_); refine with_tabW storagebarterref26_Culprit.tab10 storagebarterref26_Culprit.bits10 (fun HT_ HW_ => ?_)
   generalize wr.drew = w19 at HO_10 ba0 ba1 BK140 BK141 HB hx148_0 hx148_1 hx148_2 hx148_3 hx148_4 hx148_5 hx148_6 hx148_7 hHeld ⊢
   refine pure_ (i := 0) (N := some 56) (v := ?_) (a' := ?_) #[true, false, false, false, false, false, false, false, false, false] rfl rfl (any_of HT_.out (by kernel_rfl)) (fun _ _ _ h => h) (Or.inl ⟨by rfl, ?_⟩) ?_ ?_
   rotate_left
   ·intro w'
    go_simp
    with_reducible rfl
   rotate_left
   ·simp only [Act.put, List.setIfInBounds_toArray, List.set_cons_zero, List.set_cons_succ, i64_w, i32_w]
    rfl
   refine pure_ (i := 2) (N := some 58) (v := ?_) (a' := ?_) #[true, false, true, false, false, false, false, false, false, false] rfl rfl (any_of HT_.out (by kernel_rfl)) (fun _ _ _ h => h) (Or.inl ⟨by rfl, ?_⟩) ?_ ?_
   rotate_left
   ·intro w'
    go_simp
    with_reducible rfl
   rotate_left
   ·simp only [Act.put, List.setIfInBounds_toArray, List.set_cons_zero, List.set_cons_succ, i64_w, i32_w]
    rfl
   refine pure_ (i := 3) (N := some 59) (v := ?_) (a' := ?_) #[true, false, true, true, false, false, false, false, false, false] rfl rfl (any_of HT_.out (by kernel_rfl)) (fun _ _ _ h => h) (Or.inl ⟨by rfl, ?_⟩) ?_ ?_
   rotate_left
   ·intro w'
    go_simp
    with_reducible rfl
   rotate_left
   ·simp only [Act.put, List.setIfInBounds_toArray, List.set_cons_zero, List.set_cons_succ, i64_w, i32_w]
    rfl
   refine pure_ (i := 4) (N := some 60) (v := ?_) (a' := ?_) #[true, false, true, true, true, false, false, false, false, false] rfl rfl (any_of HT_.out (by kernel_rfl)) (fun _ _ _ h => h) (Or.inl ⟨by rfl, ?_⟩) ?_ ?_
   rotate_left
   ·intro w'
    go_simp
    with_reducible rfl
   rotate_left
   ·simp only [Act.put, List.setIfInBounds_toArray, List.set_cons_zero, List.set_cons_succ, i64_w, i32_w]
    rfl
   refine take_ (i := 1) (N := some 57) (v := ?_) (a' := ?_) #[true, true, true, true, true, false, false, false, false, false] rfl rfl (take_ofW HT_.out HW_.out (by kernel_rfl)) (fun _ _ _ h => h) (Or.inl ⟨by rfl, ?_⟩) hHeld ?_ ?_
   rotate_left
   ·rintro w' ⟨s0, s1, s2, s3, s4, s5, s6, s7, s8, s9, s10, s11⟩
    go_simp
    with_reducible rfl
   rotate_left
   ·simp only [Act.put, List.setIfInBounds_toArray, List.set_cons_zero, List.set_cons_succ, i64_w, i32_w]
    rfl
   refine take_ (i := 5) (N := some 61) (v := ?_) (a' := ?_) #[true, true, true, true, true, true, false, false, false, false] rfl rfl (take_ofW HT_.out HW_.out (by kernel_rfl)) (fun _ _ _ h => h) (Or.inl ⟨by rfl, ?_⟩) hHeld ?_ ?_
   rotate_left
   ·rintro w' ⟨s0, s1, s2, s3, s4, s5, s6, s7, s8, s9, s10, s11⟩
    go_simp
    with_reducible rfl
   rotate_left
   ·simp only [Act.put, List.setIfInBounds_toArray, List.set_cons_zero, List.set_cons_succ, i64_w, i32_w]
    rfl
   refine one_ (i := 6) (N := some 62) #[true, true, true, true, true, true, true, false, false, false] rfl rfl (one_of HT_.out (by kernel_rfl)) (by decide) (fun K hK => ?_)
   refine value_ (w1 := ?_) (v := ?_) (by rfl) rfl ?_ ?_
   rotate_left 2
   ·go_simp
    constructor
    ·rfl
    ·rfl
   refine hK.out _ _ ⟨(blk_cell (blk_alloc BK141.out _) 0).trans rfl, (blk_cell (blk_alloc BK141.out _) 1).trans rfl, (blk_cell (blk_alloc BK141.out _) 2).trans rfl, (blk_cell (blk_alloc BK141.out _) 3).trans rfl, (World.cell?_alloc_lt _ _ _ (World.block_lt_of_cell? _ _ (((HB.out.cell (World.block_lt_of_cell? w _ hw148_0)).trans hw148_0)))).trans (((HB.out.cell (World.block_lt_of_cell? w _ hw148_0)).trans hw148_0)), (World.cell?_alloc_lt _ _ _ (World.block_lt_of_cell? _ _ (((HB.out.cell (World.block_lt_of_cell? w _ hw148_1)).trans hw148_1)))).trans (((HB.out.cell (World.block_lt_of_cell? w _ hw148_1)).trans hw148_1)), (World.cell?_alloc_lt _ _ _ (World.block_lt_of_cell? _ _ (((HB.out.cell (World.block_lt_of_cell? w _ hw148_2)).trans hw148_2)))).trans (((HB.out.cell (World.block_lt_of_cell? w _ hw148_2)).trans hw148_2)), (World.cell?_alloc_lt _ _ _ (World.block_lt_of_cell? _ _ (((HB.out.cell (World.block_lt_of_cell? w _ hw148_3)).trans hw148_3)))).trans (((HB.out.cell (World.block_lt_of_cell? w _ hw148_3)).trans hw148_3)), (World.cell?_alloc_lt _ _ _ (World.block_lt_of_cell? _ _ (((HB.out.cell (World.block_lt_of_cell? w _ hw148_4)).trans hw148_4)))).trans (((HB.out.cell (World.block_lt_of_cell? w _ hw148_4)).trans hw148_4)), (World.cell?_alloc_lt _ _ _ (World.block_lt_of_cell? _ _ (((HB.out.cell (World.block_lt_of_cell? w _ hw148_5)).trans hw148_5)))).trans (((HB.out.cell (World.block_lt_of_cell? w _ hw148_5)).trans hw148_5)), (World.cell?_alloc_lt _ _ _ (World.block_lt_of_cell? _ _ (((HB.out.cell (World.block_lt_of_cell? w _ hw148_6)).trans hw148_6)))).trans (((HB.out.cell (World.block_lt_of_cell? w _ hw148_6)).trans hw148_6)), (World.cell?_alloc_lt _ _ _ (World.block_lt_of_cell? _ _ (((HB.out.cell (World.block_lt_of_cell? w _ hw148_7)).trans hw148_7)))).trans (((HB.out.cell (World.block_lt_of_cell? w _ hw148_7)).trans hw148_7))⟩ (fun hHeld => ?_)
   clear hK K
   refine norm_ (a' := ?_) ?_ ?_
   rotate_left
   ·show Act.put _ (some 62) _ = _
    simp only [Act.put, List.setIfInBounds_toArray, List.set_cons_zero, List.set_cons_succ, i64_w, i32_w]
    rfl
   refine one_ (i := 7) (N := some 63) #[true, true, true, true, true, true, true, true, false, false] rfl rfl (one_of HT_.out (by kernel_rfl)) (by decide) (fun K hK => ?_)
   refine Kd.R_append_step k44 (w0 := w) w.heap.size (by rfl) (.tmp 57) (.tmp 62) 26 44 (.agg #[(.int .i64 0), (.int .i64 0), (.int .i64 0), (.int .i64 0), (.int .i64 0), (.int .i64 0), (.int .i64 0), (.bool false)]) 64 rfl Try.underlying26 info44 rfl (by decide) (by omega) ba5 ba3 (⟨(rd_T44 l0 x12_1).f0, (rd_T44 l0 x12_1).f1, (rd_T44 l0 x12_1).f2, (rd_T44 l0 x12_1).f3, (rd_T44 l0 x12_1).f4, (rd_T44 l0 x12_1).f5, (rd_T44 l0 x12_1).f6, (rd_T44 l0 x12_1).f7⟩ : S44) [.int .i64 ((rd_T44 l0 x12_1).f0), .int .i64 ((rd_T44 l0 x12_1).f1), .int .i64 ((rd_T44 l0 x12_1).f2), .int .i64 ((rd_T44 l0 x12_1).f3), .int .i64 ((rd_T44 l0 x12_1).f4), .int .i64 ((rd_T44 l0 x12_1).f5), .int .i64 ((rd_T44 l0 x12_1).f6), .bool ((rd_T44 l0 x12_1).f7)] (fun k_ => some k_ ≠ (u10 : Value).ownBlock ∧ some k_ ≠ (ba4 : Value).ownBlock) (fun _ => False) rfl rfl ?aP (fun _ hk => hk.elim) ?aF ?aO ?aB ?aS ?aL ?_
   (case aP => exact k44_mkM _ _ _ (⟨(rd_T44 l0 x12_1).f0, (rd_T44 l0 x12_1).f1, (rd_T44 l0 x12_1).f2, (rd_T44 l0 x12_1).f3, (rd_T44 l0 x12_1).f4, (rd_T44 l0 x12_1).f5, (rd_T44 l0 x12_1).f6, (rd_T44 l0 x12_1).f7⟩ : S44))
   (case aB => exact (by repeat (first | (with_reducible first | exact HB.out | apply below_alloc | apply pw_below_drewN | apply below_drew1 | refine below_set ?_ (Aside0.out (by assumption))) | exact HB.out)))
   (case aF => exact (fun k_ hk => ⟨Kd.fresh' (Kd.R_lt (rU27 HO_10.out)) k_ hk, Kd.fresh' (Kd.R_lt (rU27 ba0.out)) k_ hk⟩))
   (case aO => exact (rU27 ba1.out))
   (case aS => exact (below_size (by repeat (first | (with_reducible first | exact HB.out | apply below_alloc | apply pw_below_drewN | apply below_drew1 | refine below_set ?_ (Aside0.out (by assumption))) | exact HB.out))))
   (case aL => have := LMc18.out; omega)
   intro v150 w20 ho hb hg hat
   rw [← Ny149.out] at ho
   have n0_ := Aside0.mk (Kd.R_after (ok := (fun k_ => some k_ ≠ (ba4 : Value).ownBlock)) (rU27 HO_10.out) hg hat)
   have n1_ := Aside0.mk (Kd.R_after (ok := (fun k_ => some k_ ≠ (u10 : Value).ownBlock)) (rU27 ba0.out) hg hat)
   have n2_ := Aside0.mk (blk_grown (g := gb140) (o := .cells #[.int .i64 0, .int .i64 0, .slice none 0 0, .slice none 0 0] 32 (0, 0)) (bU27 BK140.out) hg (Kd.R_ne ba1.out BK140.out (by decide)))
   have n3_ := Aside0.mk (blk_grown (g := gb141) (o := .cells #[.int .i64 a1, .int .i64 (wrap64 (a2 + a3)), ba4, ba5] 32 (0, 0)) (bU27 BK141.out) hg (Kd.R_ne ba1.out BK141.out (by decide)))
   have n4_ := Aside0.mk (hb)
   have n5_ := Aside0.mk (ho)
   clear HO_10
   clear ba0
   clear BK140
   clear BK141
   clear HB
   clear ba1
   have HO_10 := n0_
   have ba0 := n1_
   have BK140 := n2_
   have BK141 := n3_
   have HB := n4_
   have HO151 := n5_
   clear n0_ n1_ n2_ n3_ n4_ n5_
   clear ho hb hg hat
   obtain ⟨Ao21, co21, eo21⟩ := Kd.R_slice HO151.out
   (first | subst eo21 | (injection eo21 with f1_ f2_ f3_; have f4_ := f1_.symm; have f5_ := f3_.symm; clear f1_ f2_ f3_; subst f4_; subst f5_))
   refine hK.out _ _ ⟨(blk_cell BK141.out 0).trans rfl, (blk_cell BK141.out 1).trans rfl, (blk_cell BK141.out 2).trans rfl, (blk_cell BK141.out 3).trans rfl, ((HB.out.cell (World.block_lt_of_cell? w _ hw148_0)).trans hw148_0), ((HB.out.cell (World.block_lt_of_cell? w _ hw148_1)).trans hw148_1), ((HB.out.cell (World.block_lt_of_cell? w _ hw148_2)).trans hw148_2), ((HB.out.cell (World.block_lt_of_cell? w _ hw148_3)).trans hw148_3), ((HB.out.cell (World.block_lt_of_cell? w _ hw148_4)).trans hw148_4), ((HB.out.cell (World.block_lt_of_cell? w _ hw148_5)).trans hw148_5), ((HB.out.cell (World.block_lt_of_cell? w _ hw148_6)).trans hw148_6), ((HB.out.cell (World.block_lt_of_cell? w _ hw148_7)).trans hw148_7)⟩ (fun hHeld => ?_)
   clear hK K
   refine norm_ (a' := ?_) ?_ ?_
   rotate_left
   ·show Act.put _ (some 63) _ = _
    simp only [Act.put, List.setIfInBounds_toArray, List.set_cons_zero, List.set_cons_succ, i64_w, i32_w]
    rfl
   refine pure_ (i := 8) (N := some 64) (v := ?_) (a' := ?_) #[true, true, true, true, true, true, true, true, true, false] rfl rfl (any_of HT_.out (by kernel_rfl)) (fun _ _ _ h => h) (Or.inl ⟨by rfl, ?_⟩) ?_ ?_
   rotate_left
   ·intro w'
    go_simp
    with_reducible rfl
   rotate_left
   ·simp only [Act.put, List.setIfInBounds_toArray, List.set_cons_zero, List.set_cons_succ, i64_w, i32_w]
    rfl
   refine last_ (i := 9) (N := none) #[true, true, true, true, true, true, true, true, true, true] rfl rfl (one_of HT_.out (by kernel_rfl)) (by decide) (fun K hK => ?_)
   have hs22 : w20.cell? ⟨gb141, 3, none⟩ = some (ba5) := (blk_cell BK141.out 3).trans rfl
   have hfs22 := blk_frozen BK141.out 3
   have hns22_0 := NB140_141.out
   have hms22_0 := NB141_140.out
   refine skip_ (w1 := ?_) (by rfl) rfl ?_ ?_
   rotate_left
   ·go_simp
    rfl
   refine hK.out _ _ ?_
   clear hK K
   refine done_ (done_of HT_.out (by kernel_rfl)) ?_
   try go_wp2
   go_roundg k1
   case measure => have := HK1.out; omega
   case rel => exact ⟨(x10_1), (wrap64 (x12_1 + 1)), (ba2), (y149), (ba4), (.slice Ao21 y149.length co21), (by first | rfl | (simp; done) | (simp [*]; done)), H', ⟨by have := HK1.out; omega⟩, ⟨by (with_reducible repeat (first | apply Kd.R_alloc | apply Kd.R_drewN | apply Kd.R_drew)); exact Kd.R_mono (Kd.R_far (p := ⟨gb141, 3, none⟩) (Kd.R_types HO_10.out BK141.out (by decide)) (fun _ hk => hk.2) (.slice Ao21 y149.length co21)) (fun _ hk => ⟨hk.1.1, hk.1.2⟩)⟩, ⟨by (with_reducible repeat (first | apply Kd.R_alloc | apply Kd.R_drewN | apply Kd.R_drew)); exact Kd.R_mono (Kd.R_far (p := ⟨gb141, 3, none⟩) (Kd.R_types ba0.out BK141.out (by decide)) (fun _ hk => hk.2) (.slice Ao21 y149.length co21)) (fun _ hk => ⟨hk.1.1, hk.1.2⟩)⟩, ⟨by (with_reducible repeat (first | apply Kd.R_alloc | apply Kd.R_drewN | apply Kd.R_drew)); exact Kd.R_mono (Kd.R_far (p := ⟨gb141, 3, none⟩) (Kd.R_types HO151.out BK141.out (by decide)) (fun _ hk => hk.2) (.slice Ao21 y149.length co21)) (fun _ hk => ⟨hk.1.1, hk.1.2⟩)⟩, ⟨by (with_reducible repeat (first | refine blk_drewN ?_ _ | refine blk_drew ?_ | refine blk_alloc ?_ _)); refine blk_far ?_ NB140_141.out _; exact bU27 BK140.out⟩, ⟨by (with_reducible repeat (first | refine blk_drewN ?_ _ | refine blk_drew ?_ | refine blk_alloc ?_ _)); refine blk_put (cs := #[.int .i64 a1, .int .i64 (wrap64 (a2 + a3)), ba4, ba5]) ?_ 3 _ rfl; exact bU27 BK141.out⟩, ⟨by repeat (first | (with_reducible first | exact HB.out | apply below_alloc | apply pw_below_drewN | apply below_drew1 | refine below_set ?_ (Aside0.out (by assumption))) | exact HB.out)⟩⟩end Go.Proofs.Ytepffabkcbfejaa.PEndingSteps
