-- Written by a program of this repository (wip/tools/myprint.py over the print of the kit): contracts and rows.
import Derived.Test.YtepffabkcbfejaaPEndingStepsx0
import Derived.Test.YtepffabkcbfejaaPEndingStepsx2
import Derived.Test.YtepffabkcbfejaaPEndingStepsx3
namespace Go.Proofs.Ytepffabkcbfejaa.PEndingSteps
open Go.RowKit Go.Proofs.YtepffabkcbfejaaW.PrintWords Go.Proofs.YtepffabkcbfejaaW.PrintLast Go.Proofs.YtepffabkcbfejaaW.PrintMore
attribute [local go_sem] max2_int min2_int max_two min_two max_three min_three max_four min_four   -- for this text's walks alone
set_option linter.unusedVariables false
set_option linter.unusedSimpArgs false

attribute [local go_sem high] eqA44
/-! ### ending_Over: function 19 -/
theorem ending_at_Over (t : Int) (g : Nat) (x : S44) (w : World) (hg : w.cell? ⟨g, 0, none⟩ = some (.int .i64 t)) :
    Calls Try.prog 56 #[.agg #[.int .i64 x.f0, .int .i64 x.f1, .int .i64 x.f2, .int .i64 x.f3, .int .i64 x.f4, .int .i64 x.f5, .int .i64 x.f6, .bool x.f7], .pointer (some ⟨g, 0, none⟩)] w fun e w' => e = .returned (.bool ((ending_over t) x)) ∧ Below w.heap.size w w' := by
  have hg' := pw_cell_below (below_alloc (Below.refl w.heap.size w) (.cells #[.int .i64 x.f0, .int .i64 x.f1, .int .i64 x.f2, .int .i64 x.f3, .int .i64 x.f4, .int .i64 x.f5, .int .i64 x.f6, .bool x.f7] 44)) hg
  go_enter Try.func56, Try.ntmps56
  go_wp2
  go_ret
  exact ⟨rfl, below_alloc (Below.refl _ _) _⟩

set_option maxHeartbeats 4000000 in
set_option maxRecDepth 100000 in
theorem ending_split_Over (A0 : Option Addr) (c0 : Nat) (l0 : List S44) (t : Int) (g : Nat) (w : World) (hr0 : Kd.C k44 w A0 l0.length l0) (hc0 : l0.length ≤ c0) (hl : l0.length < 2199023255552) (hg : w.cell? ⟨g, 0, none⟩ = some (.int .i64 t)) :
  Calls Try.prog 55 #[.slice A0 l0.length c0, .func (.func 56) #[] #[.pointer (some ⟨g, 0, none⟩)]] w fun e w' => ∃ v0_ v1_ : Value, e = .returned (.tuple #[v0_, v1_]) ∧ Kd.R k44 44 w' w.heap.size (fun k_ => some k_ ≠ (v1_ : Value).ownBlock) v0_ (l0.filter (ending_over t)) ∧ Kd.R k44 44 w' w.heap.size (fun k_ => some k_ ≠ (v0_ : Value).ownBlock) v1_ (l0.filter (fun x => !((ending_over t) x))) ∧ Below w.heap.size w w' := by
 have hu := Try.underlying44
 have HR0 := Aside0.mk hr0
 have HG := Aside0.mk hg; clear hg
 clear hr0
 go_enter Try.func55, Try.ntmps55
 go_wp2
 go_loopw [4, 5, 10] (fun v4 v5 v10 w' => ∃ i : Int, 0 ≤ i ∧ i ≤ l0.length ∧ v10 = .int .i64 i ∧ Aside0 (Kd.R k44 44 w' w.heap.size (fun k_ => some k_ ≠ (v5 : Value).ownBlock) v4 ((l0.take i.toNat).filter (ending_over t))) ∧ Aside0 (Kd.R k44 44 w' w.heap.size (fun k_ => some k_ ≠ (v4 : Value).ownBlock) v5 ((l0.take i.toNat).filter (fun x => !((ending_over t) x)))) ∧ Aside0 (Below w.heap.size w w')) (fun _ _ v10 _ => l0.length - (intOf v10).toNat)
 case atStart => exact ⟨0, by omega, by omega, rfl, ⟨Kd.R_nil _ _ _ _ _⟩, ⟨Kd.R_nil _ _ _ _ _⟩, ⟨Below.refl _ _⟩⟩
 case round =>
  obtain ⟨i, hi0, hi, rfl, HO4, HO5, HB⟩ := hrel
  by_cases hlt : i < (l0.length : Int)
  case neg =>
   go_wp2
   go_ret2
   rw [List.take_of_length_le (by omega)] at HO4 HO5
   exact ⟨_, _, rfl, HO4.out, HO5.out, HB.out⟩


  obtain ⟨ad, e0, h0, h1, h2, h3, h4, h5, h6, h7⟩ := at_T44 HR0.out i hi0 hlt
  cases e0
  obtain ⟨x, hx⟩ : ∃ x, x = rd_T44 l0 i := ⟨_, rfl⟩
  rw [← hx] at h0 h1 h2 h3 h4 h5 h6 h7
  have HX := Aside0.mk hx
  clear hx
  replace h0 := (HB.out.cell (World.block_lt_of_cell? w _ h0)).trans h0
  replace h1 := (HB.out.cell (World.block_lt_of_cell? w _ h1)).trans h1
  replace h2 := (HB.out.cell (World.block_lt_of_cell? w _ h2)).trans h2
  replace h3 := (HB.out.cell (World.block_lt_of_cell? w _ h3)).trans h3
  replace h4 := (HB.out.cell (World.block_lt_of_cell? w _ h4)).trans h4
  replace h5 := (HB.out.cell (World.block_lt_of_cell? w _ h5)).trans h5
  replace h6 := (HB.out.cell (World.block_lt_of_cell? w _ h6)).trans h6
  replace h7 := (HB.out.cell (World.block_lt_of_cell? w _ h7)).trans h7
  go_wp2_with fail
  refine (ending_at_Over t g x _ (pw_cell_below (below_alloc HB.out _) HG.out)).mono ?_
  rintro e w2 ⟨rfl, hb0⟩
  have hblk := (hb0.block wr.heap.size (by simp)).trans (blk_new wr (.cells #[.int .i64 x.f0, .int .i64 x.f1, .int .i64 x.f2, .int .i64 x.f3, .int .i64 x.f4, .int .i64 x.f5, .int .i64 x.f6, .bool x.f7] 44 (0, 0)))
  have c0_ := blk_cell hblk 0; have c1_ := blk_cell hblk 1; have c2_ := blk_cell hblk 2; have c3_ := blk_cell hblk 3; have c4_ := blk_cell hblk 4; have c5_ := blk_cell hblk 5; have c6_ := blk_cell hblk 6; have c7_ := blk_cell hblk 7
  have HB2 := Aside0.mk ((below_alloc (Below.refl wr.heap.size wr) (.cells #[.int .i64 x.f0, .int .i64 x.f1, .int .i64 x.f2, .int .i64 x.f3, .int .i64 x.f4, .int .i64 x.f5, .int .i64 x.f6, .bool x.f7] 44)).trans (hb0.mono (by simp)))
  have HB1 := Aside0.mk (below_step HB.out HB2.out)
  clear hb0 hblk h0 h1 h2 h3 h4 h5 h6 h7
  have HL : Aside0 ((((l0.take i.toNat).filter (ending_over t)).length + 1) * 64 ≤ 140737488355328 ∧ (((l0.take i.toNat).filter (fun x => !((ending_over t) x))).length + 1) * 64 ≤ 140737488355328) := ⟨by have := List.length_filter_le (ending_over t) (l0.take i.toNat); have := List.length_filter_le (fun x => !((ending_over t) x)) (l0.take i.toNat); have := List.length_take_le i.toNat l0; omega⟩
  cases hp : ((ending_over t) x)
  ·have HL := Aside0.mk HL.out.2
   have HT : Aside0 ((l0.take (i + 1).toNat).filter (ending_over t) = (l0.take i.toNat).filter (ending_over t)) := ⟨by rw [print_take_succ l0 z44 i hi0 hlt, List.filter_append]; show _ ++ List.filter _ [rd_T44 l0 i] = _; rw [← HX.out]; simp [hp]⟩
   have HF : Aside0 ((l0.take (i + 1).toNat).filter (fun x => !((ending_over t) x)) = (l0.take i.toNat).filter (fun x => !((ending_over t) x)) ++ [x]) := ⟨by rw [print_take_succ l0 z44 i hi0 hlt, List.filter_append]; show _ ++ List.filter _ [rd_T44 l0 i] = _; rw [← HX.out]; simp [hp]⟩
   try (simp only [] at hp)
   go_wp2_with (at_builtin; refine Kd.R_append k44 (w0 := w) w.heap.size rfl (.tmp 21) (.tmp 23) 26 44 (.agg #[(.int .i64 0), (.int .i64 0), (.int .i64 0), (.int .i64 0), (.int .i64 0), (.int .i64 0), (.int .i64 0), (.bool false)]) 64 rfl Try.underlying26 info44 rfl (by decide) (by omega) u5 _ x [.int .i64 x.f0, .int .i64 x.f1, .int .i64 x.f2, .int .i64 x.f3, .int .i64 x.f4, .int .i64 x.f5, .int .i64 x.f6, .bool x.f7] (fun k_ => some k_ ≠ (u4 : Value).ownBlock) (fun _ => False) rfl rfl (k44_mkM _ _ _ x) (fun _ hk => hk.elim) (fun k_ hk => Kd.fresh' (Kd.R_lt (Kd.R_below HO4.out HB2.out)) k_ hk) (Kd.R_below HO5.out HB2.out) HB1.out HB1.out.size ?aL ?_; (case aL => exact HL.out); intro v1 w3 ho hb hg hat; have HOa := Aside0.mk (Kd.R_after (ok := (fun _ => True)) (Kd.R_mono (Kd.R_below HO4.out HB2.out) (fun _ hk => ⟨trivial, hk⟩)) hg hat); have HOb := Aside0.mk ho; have HBb := Aside0.mk hb; clear ho hb hg hat)
   go_roundw
   case rel => exact ⟨i + 1, by omega, by omega, by go_num, ⟨by rw [HT.out]; exact Kd.R_mono HOa.out (fun _ hk => hk.2)⟩, ⟨by rw [HF.out]; exact HOb.out⟩, ⟨HBb.out⟩⟩
   case measure => simp [intOf]; omega

  ·have HL := Aside0.mk HL.out.1
   have HT : Aside0 ((l0.take (i + 1).toNat).filter (ending_over t) = (l0.take i.toNat).filter (ending_over t) ++ [x]) := ⟨by rw [print_take_succ l0 z44 i hi0 hlt, List.filter_append]; show _ ++ List.filter _ [rd_T44 l0 i] = _; rw [← HX.out]; simp [hp]⟩
   have HF : Aside0 ((l0.take (i + 1).toNat).filter (fun x => !((ending_over t) x)) = (l0.take i.toNat).filter (fun x => !((ending_over t) x))) := ⟨by rw [print_take_succ l0 z44 i hi0 hlt, List.filter_append]; show _ ++ List.filter _ [rd_T44 l0 i] = _; rw [← HX.out]; simp [hp]⟩
   try (simp only [] at hp)
   go_wp2_with (at_builtin; refine Kd.R_append k44 (w0 := w) w.heap.size rfl (.tmp 17) (.tmp 19) 26 44 (.agg #[(.int .i64 0), (.int .i64 0), (.int .i64 0), (.int .i64 0), (.int .i64 0), (.int .i64 0), (.int .i64 0), (.bool false)]) 64 rfl Try.underlying26 info44 rfl (by decide) (by omega) u4 _ x [.int .i64 x.f0, .int .i64 x.f1, .int .i64 x.f2, .int .i64 x.f3, .int .i64 x.f4, .int .i64 x.f5, .int .i64 x.f6, .bool x.f7] (fun k_ => some k_ ≠ (u5 : Value).ownBlock) (fun _ => False) rfl rfl (k44_mkM _ _ _ x) (fun _ hk => hk.elim) (fun k_ hk => Kd.fresh' (Kd.R_lt (Kd.R_below HO5.out HB2.out)) k_ hk) (Kd.R_below HO4.out HB2.out) HB1.out HB1.out.size ?aL ?_; (case aL => exact HL.out); intro v1 w3 ho hb hg hat; have HOa := Aside0.mk (Kd.R_after (ok := (fun _ => True)) (Kd.R_mono (Kd.R_below HO5.out HB2.out) (fun _ hk => ⟨trivial, hk⟩)) hg hat); have HOb := Aside0.mk ho; have HBb := Aside0.mk hb; clear ho hb hg hat)
   go_roundw
   case rel => exact ⟨i + 1, by omega, by omega, by go_num, ⟨by rw [HT.out]; exact HOb.out⟩, ⟨by rw [HF.out]; exact Kd.R_mono HOa.out (fun _ hk => hk.2)⟩, ⟨HBb.out⟩⟩
   case measure => simp [intOf]; omega
def ending_Over.f (l0 : List S44) (a1 : Int) : Option ((List S44) × (List S44)) := if l0.length < 2199023255552 then some (l0.filter (ending_over a1), l0.filter (fun x => !(ending_over a1 x))) else none
set_option maxHeartbeats 4000000 in
set_option maxRecDepth 100000 in
theorem ending_Over.calls (A0 : Option Addr) (c0 : Nat) (l0 : List S44) (a1 : Int) (r1 : List S44) (r2 : List S44) (w : World) (hr0 : Kd.C k44 w A0 l0.length l0) (hc0 : l0.length ≤ c0) (h : ending_Over.f l0 a1 = some (r1, r2)) :
    Calls Try.prog 19 #[.slice A0 l0.length c0, .int .i64 a1] w fun e w' => ∃ v0_ v1_ : Value, e = .returned (.tuple #[v0_, v1_]) ∧ Kd.R k44 44 w' w.heap.size (fun k_ => some k_ ≠ (v1_ : Value).ownBlock) v0_ r1 ∧ Kd.R k44 44 w' w.heap.size (fun k_ => some k_ ≠ (v0_ : Value).ownBlock) v1_ r2 ∧ Below w.heap.size w w' := by
  unfold ending_Over.f at h
  split at h
  · rename_i hl
    simp only [Option.some.injEq, Prod.mk.injEq] at h
    obtain ⟨rfl, rfl⟩ := h
    have HR := Aside0.mk hr0
    clear hr0
    go_enter Try.func19, Try.ntmps19
    go_wp2_with fail
    refine (ending_split_Over A0 c0 l0 a1 w.heap.size _ (Kd.C_below HR.out (below_alloc (Below.refl _ _) _)) hc0 hl (by go_simp)).mono ?_
    rintro e w' ⟨v0, v1, rfl, ho0, ho1, hb⟩
    go_wp2
    go_ret2
    exact ⟨_, _, rfl, Kd.R_lower ho0 (by simp), Kd.R_lower ho1 (by simp), (below_alloc (Below.refl _ _) _).trans (hb.mono (by simp))⟩
  · cases h


theorem ending_Over.some_ (l : List S44) (t : Int) (h : l.length < 2199023255552) : ∃ r1 r2, ending_Over.f l t = some (r1, r2) ∧ (r1.length ≤ l.length ∧ r2.length ≤ l.length) ∧ r1 = l.filter (ending_over t) ∧ r2 = l.filter (fun x => !(ending_over t x)) :=
  ⟨_, _, if_pos h, ⟨List.length_filter_le _ _, List.length_filter_le _ _⟩, rfl, rfl⟩


-- NOT PRINTED: function 59 (ending_Between_1)

/-! ### ending_Between: function 21 -/
set_option maxHeartbeats 4000000 in
theorem ending_at_Between (a b : Int) (ga gb : Nat) (x : S44) (w : World) (hga : w.cell? ⟨ga, 0, none⟩ = some (.int .i64 a)) (hgb : w.cell? ⟨gb, 0, none⟩ = some (.int .i64 b)) :
    Calls Try.prog 59 #[.agg #[.int .i64 x.f0, .int .i64 x.f1, .int .i64 x.f2, .int .i64 x.f3, .int .i64 x.f4, .int .i64 x.f5, .int .i64 x.f6, .bool x.f7], .pointer (some ⟨ga, 0, none⟩), .pointer (some ⟨gb, 0, none⟩)] w fun e w' => e = .returned (.bool ((ending_between a b) x)) ∧ Below w.heap.size w w' := by
  have hga' := pw_cell_below (below_alloc (Below.refl w.heap.size w) (.cells #[.int .i64 x.f0, .int .i64 x.f1, .int .i64 x.f2, .int .i64 x.f3, .int .i64 x.f4, .int .i64 x.f5, .int .i64 x.f6, .bool x.f7] 44)) hga
  have hgb' := pw_cell_below (below_alloc (Below.refl w.heap.size w) (.cells #[.int .i64 x.f0, .int .i64 x.f1, .int .i64 x.f2, .int .i64 x.f3, .int .i64 x.f4, .int .i64 x.f5, .int .i64 x.f6, .bool x.f7] 44)) hgb
  unfold ending_between
  cases h0a : x.f0 == a <;> cases h1b : x.f1 == b <;> cases h0b : x.f0 == b <;> cases h1a : x.f1 == a
  all_goals
    go_enter Try.func59, Try.ntmps59
    go_wp2
    go_ret
    exact ⟨rfl, below_alloc (Below.refl _ _) _⟩

set_option maxHeartbeats 4000000 in
set_option maxRecDepth 100000 in
theorem ending_split_Between (A0 : Option Addr) (c0 : Nat) (l0 : List S44) (a b : Int) (ga gb : Nat) (w : World) (hr0 : Kd.C k44 w A0 l0.length l0) (hc0 : l0.length ≤ c0) (hl : l0.length < 2199023255552) (hga : w.cell? ⟨ga, 0, none⟩ = some (.int .i64 a)) (hgb : w.cell? ⟨gb, 0, none⟩ = some (.int .i64 b)) :
  Calls Try.prog 55 #[.slice A0 l0.length c0, .func (.func 59) #[] #[.pointer (some ⟨ga, 0, none⟩), .pointer (some ⟨gb, 0, none⟩)]] w fun e w' => ∃ v0_ v1_ : Value, e = .returned (.tuple #[v0_, v1_]) ∧ Kd.R k44 44 w' w.heap.size (fun k_ => some k_ ≠ (v1_ : Value).ownBlock) v0_ (l0.filter (ending_between a b)) ∧ Kd.R k44 44 w' w.heap.size (fun k_ => some k_ ≠ (v0_ : Value).ownBlock) v1_ (l0.filter (fun x => !((ending_between a b) x))) ∧ Below w.heap.size w w' := by
 have hu := Try.underlying44
 have HR0 := Aside0.mk hr0
 have HGa := Aside0.mk hga; have HGb := Aside0.mk hgb; clear hga hgb
 clear hr0
 go_enter Try.func55, Try.ntmps55
 go_wp2
 go_loopw [4, 5, 10] (fun v4 v5 v10 w' => ∃ i : Int, 0 ≤ i ∧ i ≤ l0.length ∧ v10 = .int .i64 i ∧ Aside0 (Kd.R k44 44 w' w.heap.size (fun k_ => some k_ ≠ (v5 : Value).ownBlock) v4 ((l0.take i.toNat).filter (ending_between a b))) ∧ Aside0 (Kd.R k44 44 w' w.heap.size (fun k_ => some k_ ≠ (v4 : Value).ownBlock) v5 ((l0.take i.toNat).filter (fun x => !((ending_between a b) x)))) ∧ Aside0 (Below w.heap.size w w')) (fun _ _ v10 _ => l0.length - (intOf v10).toNat)
 case atStart => exact ⟨0, by omega, by omega, rfl, ⟨Kd.R_nil _ _ _ _ _⟩, ⟨Kd.R_nil _ _ _ _ _⟩, ⟨Below.refl _ _⟩⟩
 case round =>
  obtain ⟨i, hi0, hi, rfl, HO4, HO5, HB⟩ := hrel
  by_cases hlt : i < (l0.length : Int)
  case neg =>
   go_wp2
   go_ret2
   rw [List.take_of_length_le (by omega)] at HO4 HO5
   exact ⟨_, _, rfl, HO4.out, HO5.out, HB.out⟩


  obtain ⟨ad, e0, h0, h1, h2, h3, h4, h5, h6, h7⟩ := at_T44 HR0.out i hi0 hlt
  cases e0
  obtain ⟨x, hx⟩ : ∃ x, x = rd_T44 l0 i := ⟨_, rfl⟩
  rw [← hx] at h0 h1 h2 h3 h4 h5 h6 h7
  have HX := Aside0.mk hx
  clear hx
  replace h0 := (HB.out.cell (World.block_lt_of_cell? w _ h0)).trans h0
  replace h1 := (HB.out.cell (World.block_lt_of_cell? w _ h1)).trans h1
  replace h2 := (HB.out.cell (World.block_lt_of_cell? w _ h2)).trans h2
  replace h3 := (HB.out.cell (World.block_lt_of_cell? w _ h3)).trans h3
  replace h4 := (HB.out.cell (World.block_lt_of_cell? w _ h4)).trans h4
  replace h5 := (HB.out.cell (World.block_lt_of_cell? w _ h5)).trans h5
  replace h6 := (HB.out.cell (World.block_lt_of_cell? w _ h6)).trans h6
  replace h7 := (HB.out.cell (World.block_lt_of_cell? w _ h7)).trans h7
  go_wp2_with fail
  refine (ending_at_Between a b ga gb x _ (pw_cell_below (below_alloc HB.out _) HGa.out) (pw_cell_below (below_alloc HB.out _) HGb.out)).mono ?_
  rintro e w2 ⟨rfl, hb0⟩
  have hblk := (hb0.block wr.heap.size (by simp)).trans (blk_new wr (.cells #[.int .i64 x.f0, .int .i64 x.f1, .int .i64 x.f2, .int .i64 x.f3, .int .i64 x.f4, .int .i64 x.f5, .int .i64 x.f6, .bool x.f7] 44 (0, 0)))
  have c0_ := blk_cell hblk 0; have c1_ := blk_cell hblk 1; have c2_ := blk_cell hblk 2; have c3_ := blk_cell hblk 3; have c4_ := blk_cell hblk 4; have c5_ := blk_cell hblk 5; have c6_ := blk_cell hblk 6; have c7_ := blk_cell hblk 7
  have HB2 := Aside0.mk ((below_alloc (Below.refl wr.heap.size wr) (.cells #[.int .i64 x.f0, .int .i64 x.f1, .int .i64 x.f2, .int .i64 x.f3, .int .i64 x.f4, .int .i64 x.f5, .int .i64 x.f6, .bool x.f7] 44)).trans (hb0.mono (by simp)))
  have HB1 := Aside0.mk (below_step HB.out HB2.out)
  clear hb0 hblk h0 h1 h2 h3 h4 h5 h6 h7
  have HL : Aside0 ((((l0.take i.toNat).filter (ending_between a b)).length + 1) * 64 ≤ 140737488355328 ∧ (((l0.take i.toNat).filter (fun x => !((ending_between a b) x))).length + 1) * 64 ≤ 140737488355328) := ⟨by have := List.length_filter_le (ending_between a b) (l0.take i.toNat); have := List.length_filter_le (fun x => !((ending_between a b) x)) (l0.take i.toNat); have := List.length_take_le i.toNat l0; omega⟩
  cases hp : ((ending_between a b) x)
  ·have HL := Aside0.mk HL.out.2
   have HT : Aside0 ((l0.take (i + 1).toNat).filter (ending_between a b) = (l0.take i.toNat).filter (ending_between a b)) := ⟨by rw [print_take_succ l0 z44 i hi0 hlt, List.filter_append]; show _ ++ List.filter _ [rd_T44 l0 i] = _; rw [← HX.out]; simp [hp]⟩
   have HF : Aside0 ((l0.take (i + 1).toNat).filter (fun x => !((ending_between a b) x)) = (l0.take i.toNat).filter (fun x => !((ending_between a b) x)) ++ [x]) := ⟨by rw [print_take_succ l0 z44 i hi0 hlt, List.filter_append]; show _ ++ List.filter _ [rd_T44 l0 i] = _; rw [← HX.out]; simp [hp]⟩
   try (simp only [] at hp)
   go_wp2_with (at_builtin; refine Kd.R_append k44 (w0 := w) w.heap.size rfl (.tmp 21) (.tmp 23) 26 44 (.agg #[(.int .i64 0), (.int .i64 0), (.int .i64 0), (.int .i64 0), (.int .i64 0), (.int .i64 0), (.int .i64 0), (.bool false)]) 64 rfl Try.underlying26 info44 rfl (by decide) (by omega) u5 _ x [.int .i64 x.f0, .int .i64 x.f1, .int .i64 x.f2, .int .i64 x.f3, .int .i64 x.f4, .int .i64 x.f5, .int .i64 x.f6, .bool x.f7] (fun k_ => some k_ ≠ (u4 : Value).ownBlock) (fun _ => False) rfl rfl (k44_mkM _ _ _ x) (fun _ hk => hk.elim) (fun k_ hk => Kd.fresh' (Kd.R_lt (Kd.R_below HO4.out HB2.out)) k_ hk) (Kd.R_below HO5.out HB2.out) HB1.out HB1.out.size ?aL ?_; (case aL => exact HL.out); intro v1 w3 ho hb hg hat; have HOa := Aside0.mk (Kd.R_after (ok := (fun _ => True)) (Kd.R_mono (Kd.R_below HO4.out HB2.out) (fun _ hk => ⟨trivial, hk⟩)) hg hat); have HOb := Aside0.mk ho; have HBb := Aside0.mk hb; clear ho hb hg hat)
   go_roundw
   case rel => exact ⟨i + 1, by omega, by omega, by go_num, ⟨by rw [HT.out]; exact Kd.R_mono HOa.out (fun _ hk => hk.2)⟩, ⟨by rw [HF.out]; exact HOb.out⟩, ⟨HBb.out⟩⟩
   case measure => simp [intOf]; omega

  ·have HL := Aside0.mk HL.out.1
   have HT : Aside0 ((l0.take (i + 1).toNat).filter (ending_between a b) = (l0.take i.toNat).filter (ending_between a b) ++ [x]) := ⟨by rw [print_take_succ l0 z44 i hi0 hlt, List.filter_append]; show _ ++ List.filter _ [rd_T44 l0 i] = _; rw [← HX.out]; simp [hp]⟩
   have HF : Aside0 ((l0.take (i + 1).toNat).filter (fun x => !((ending_between a b) x)) = (l0.take i.toNat).filter (fun x => !((ending_between a b) x))) := ⟨by rw [print_take_succ l0 z44 i hi0 hlt, List.filter_append]; show _ ++ List.filter _ [rd_T44 l0 i] = _; rw [← HX.out]; simp [hp]⟩
   try (simp only [] at hp)
   go_wp2_with (at_builtin; refine Kd.R_append k44 (w0 := w) w.heap.size rfl (.tmp 17) (.tmp 19) 26 44 (.agg #[(.int .i64 0), (.int .i64 0), (.int .i64 0), (.int .i64 0), (.int .i64 0), (.int .i64 0), (.int .i64 0), (.bool false)]) 64 rfl Try.underlying26 info44 rfl (by decide) (by omega) u4 _ x [.int .i64 x.f0, .int .i64 x.f1, .int .i64 x.f2, .int .i64 x.f3, .int .i64 x.f4, .int .i64 x.f5, .int .i64 x.f6, .bool x.f7] (fun k_ => some k_ ≠ (u5 : Value).ownBlock) (fun _ => False) rfl rfl (k44_mkM _ _ _ x) (fun _ hk => hk.elim) (fun k_ hk => Kd.fresh' (Kd.R_lt (Kd.R_below HO5.out HB2.out)) k_ hk) (Kd.R_below HO4.out HB2.out) HB1.out HB1.out.size ?aL ?_; (case aL => exact HL.out); intro v1 w3 ho hb hg hat; have HOa := Aside0.mk (Kd.R_after (ok := (fun _ => True)) (Kd.R_mono (Kd.R_below HO5.out HB2.out) (fun _ hk => ⟨trivial, hk⟩)) hg hat); have HOb := Aside0.mk ho; have HBb := Aside0.mk hb; clear ho hb hg hat)
   go_roundw
   case rel => exact ⟨i + 1, by omega, by omega, by go_num, ⟨by rw [HT.out]; exact HOb.out⟩, ⟨by rw [HF.out]; exact Kd.R_mono HOa.out (fun _ hk => hk.2)⟩, ⟨HBb.out⟩⟩
   case measure => simp [intOf]; omega
def ending_Between.f (l0 : List S44) (a1 : Int) (a2 : Int) : Option ((List S44) × (List S44)) := if l0.length < 2199023255552 then some (l0.filter (fun x => !(ending_between a1 a2 x)), l0.filter (ending_between a1 a2)) else none
set_option maxHeartbeats 4000000 in
set_option maxRecDepth 100000 in
theorem ending_Between.calls (A0 : Option Addr) (c0 : Nat) (l0 : List S44) (a1 : Int) (a2 : Int) (r1 : List S44) (r2 : List S44) (w : World) (hr0 : Kd.C k44 w A0 l0.length l0) (hc0 : l0.length ≤ c0) (h : ending_Between.f l0 a1 a2 = some (r1, r2)) :
    Calls Try.prog 21 #[.slice A0 l0.length c0, .int .i64 a1, .int .i64 a2] w fun e w' => ∃ v0_ v1_ : Value, e = .returned (.tuple #[v0_, v1_]) ∧ Kd.R k44 44 w' w.heap.size (fun k_ => some k_ ≠ (v1_ : Value).ownBlock) v0_ r1 ∧ Kd.R k44 44 w' w.heap.size (fun k_ => some k_ ≠ (v0_ : Value).ownBlock) v1_ r2 ∧ Below w.heap.size w w' := by
  unfold ending_Between.f at h
  split at h
  · rename_i hl
    simp only [Option.some.injEq, Prod.mk.injEq] at h
    obtain ⟨rfl, rfl⟩ := h
    have HR := Aside0.mk hr0
    clear hr0
    go_enter Try.func21, Try.ntmps21
    go_wp2_with fail
    refine (ending_split_Between A0 c0 l0 a1 a2 w.heap.size (w.heap.size + 1) _ (Kd.C_below HR.out (below_alloc (below_alloc (Below.refl _ _) _) _)) hc0 hl (by go_simp) (by go_simp)).mono ?_
    rintro e w' ⟨v0, v1, rfl, ho0, ho1, hb⟩
    go_wp2
    go_ret2
    exact ⟨_, _, rfl, Kd.R_lower ho1 (by simp; omega), Kd.R_lower ho0 (by simp; omega), (below_alloc (below_alloc (Below.refl _ _) _) _).trans (hb.mono (by simp; omega))⟩
  · cases h


theorem ending_Between.some_ (l : List S44) (a b : Int) (h : l.length < 2199023255552) : ∃ r1 r2, ending_Between.f l a b = some (r1, r2) ∧ (r1.length ≤ l.length ∧ r2.length ≤ l.length) ∧ r1 = l.filter (fun x => !(ending_between a b x)) ∧ r2 = l.filter (ending_between a b) :=
  ⟨_, _, if_pos h, ⟨List.length_filter_le _ _, List.length_filter_le _ _⟩, rfl, rfl⟩


/-! ### storagebarterref26_Same: function 22 -/
def storagebarterref26_Same.l0 : Nat → List (S44) → List (S44) → Int → Option (Bool)
  | 0, _, _, _ => none
  | k + 1, x0, x1, x5 => if x5 < (x0.length : Int) then (if 0 ≤ x5 then (if x5 < (x1.length : Int) then (if (!(((rd_T44 x0 x5).f0) == ((rd_T44 x1 x5).f0)) || (!(((rd_T44 x0 x5).f1) == ((rd_T44 x1 x5).f1)) || (!(((rd_T44 x0 x5).f2) == ((rd_T44 x1 x5).f2)) || (!(((rd_T44 x0 x5).f3) == ((rd_T44 x1 x5).f3)) || (!(((rd_T44 x0 x5).f4) == ((rd_T44 x1 x5).f4)) || (!(((rd_T44 x0 x5).f5) == ((rd_T44 x1 x5).f5)) || (!(((rd_T44 x0 x5).f6) == ((rd_T44 x1 x5).f6)) || (!(((rd_T44 x0 x5).f7) == ((rd_T44 x1 x5).f7)))))))))) = true then (some false) else (storagebarterref26_Same.l0 k x0 x1 (wrap64 (x5 + 1)))) else (none)) else (none)) else (some true)
def storagebarterref26_Same.f (k : Nat) (l0 : List (S44)) (l1 : List (S44)) : Option (Bool) := if (l0.length : Int) = (l1.length : Int) then (storagebarterref26_Same.l0 k l0 l1 0) else (some false)
theorem storagebarterref26_Same.mono_l : ∀ k, (∀ y0 y1 y2, LeO (storagebarterref26_Same.l0 k y0 y1 y2) (storagebarterref26_Same.l0 (k + 1) y0 y1 y2))
  | 0 => fun _ _ _ r h => by simp [storagebarterref26_Same.l0] at h
  | k + 1 => by
    have ih0 := storagebarterref26_Same.mono_l k
    · intro y0 y1 y2
      unfold storagebarterref26_Same.l0
      repeat' first
      | (with_reducible exact ih0 _ _ _)
      | (with_reducible exact LeO.refl _)
      | (with_reducible exact LeO.none _)
      | (with_reducible refine LeO.ite ?_ ?_)
      | (with_reducible refine LeO.bind ?_ (fun _ => ?_))
      | exact ih0 _ _ _
      | exact LeO.none _
      | refine LeO.ite ?_ ?_
      | refine LeO.bind ?_ (fun _ => ?_)
theorem storagebarterref26_Same.mono : ∀ a0 a1 k, LeO (storagebarterref26_Same.f k a0 a1) (storagebarterref26_Same.f (k + 1) a0 a1) := by
  intro a0 a1 k
  have ih0 := storagebarterref26_Same.mono_l k
  unfold storagebarterref26_Same.f
  repeat' first
      | (with_reducible exact ih0 _ _ _)
      | (with_reducible exact LeO.refl _)
      | (with_reducible exact LeO.none _)
      | (with_reducible refine LeO.ite ?_ ?_)
      | (with_reducible refine LeO.bind ?_ (fun _ => ?_))
      | exact ih0 _ _ _
      | exact LeO.none _
      | refine LeO.ite ?_ ?_
      | refine LeO.bind ?_ (fun _ => ?_)
set_option maxHeartbeats 8000000 in
set_option maxRecDepth 100000 in
theorem storagebarterref26_Same.calls (k : Nat) (A0 : Option Addr) (c0 : Nat) (l0 : List (S44)) (A1 : Option Addr) (c1 : Nat) (l1 : List (S44)) (r : Bool) (w : World) (hr0 : Kd.C k44 w A0 l0.length l0) (hc0 : l0.length ≤ c0) (hr1 : Kd.C k44 w A1 l1.length l1) (hc1 : l1.length ≤ c1) (h : storagebarterref26_Same.f k l0 l1 = some r) :
  Calls Try.prog 22 #[.slice A0 l0.length c0, .slice A1 l1.length c1] w fun e w' => e = .returned (.bool r) ∧ Drawn0 w w' := by
 have hu44 := Try.underlying44
 have HR0 := Aside0.mk hr0
 have HC0 := Aside0.mk hc0
 clear hr0 hc0
 have HR1 := Aside0.mk hr1
 have HC1 := Aside0.mk hc1
 clear hr1 hc1
 have H : (if (l0.length : Int) = (l1.length : Int) then (storagebarterref26_Same.l0 k l0 l1 0) else (some false)) = some r := h
 clear h
 by_cases c3 : (l0.length : Int) = (l1.length : Int)
 case neg =>
  rw [if_neg c3] at H
  have c3b0 : ((l0.length : Int) == (l1.length : Int)) = false := beq_eq_false_iff_ne.mpr c3
  have c3b1 : ((l0.length : Int) != (l1.length : Int)) = true := bne_iff_ne.mpr c3
  have c3b2 : (l0.length == l1.length) = false := by first | simpa using c3 | (simp at c3 ⊢; omega)
  obtain rfl := Option.some.inj H
  go_enter Try.func22, Try.ntmps22
  go_wp2
  repeat (go_quiet (fail); try go_wp2)
  go_ret
  exact ⟨by first | rfl | (simp; done) | (simp [*]; done), by repeat (first | exact Drawn0.refl _ | apply Drawn0.step)⟩


 rw [if_pos c3] at H
 have c3b0 : ((l0.length : Int) == (l1.length : Int)) = true := beq_iff_eq.mpr c3
 have c3b1 : ((l0.length : Int) != (l1.length : Int)) = false := bne_eq_false_iff_eq.mpr c3
 have c3b2 : (l0.length == l1.length) = true := by first | simpa using c3 | (simp at c3 ⊢; omega)
 clear c3
 have H' := Aside0.mk H
 clear H
 go_enter Try.func22, Try.ntmps22
 go_wp2
 repeat (go_quiet (fail); try go_wp2)
 go_loopg [5] k (fun kq v5 w' => ∃ (x5_1 : Int), v5 = .int .i64 x5_1 ∧ Aside0 (storagebarterref26_Same.l0 kq l0 l1 x5_1 = some r) ∧ Aside0 (kq ≤ k) ∧ Drawn0 w w')
 case atStart => exact ⟨(0), (by first | rfl | (simp; done) | (simp [*]; done)), H', ⟨Nat.le_refl _⟩, by repeat (first | exact Drawn0.refl _ | apply Drawn0.step)⟩
 case round =>
  clear H'
  try clear c1
  try clear c2
  try clear p2
  try clear c3
  try clear c3b0
  try clear c3b1
  try clear c3b2
  obtain ⟨x5_1, rfl, HA, HK1, ⟨m1, rfl⟩⟩ := hrel
  cases gk with
  | zero => exact absurd HA.out (by simp [storagebarterref26_Same.l0])
  | succ k1 =>
   have H := HA.out
   clear HA
   simp only [storagebarterref26_Same.l0] at H
   by_cases c4 : x5_1 < (l0.length : Int)
   case neg =>
    rw [if_neg c4] at H
    have c4b0 : decide (x5_1 < (l0.length : Int)) = false := decide_eq_false c4
    clear c4
    obtain rfl := Option.some.inj H
    go_wp2
    repeat (go_quiet (fail); try go_wp2)
    go_ret
    exact ⟨by first | rfl | (simp; done) | (simp [*]; done), by repeat (first | exact Drawn0.refl _ | apply Drawn0.step)⟩
   rw [if_pos c4] at H
   have c4b0 : decide (x5_1 < (l0.length : Int)) = true := decide_eq_true c4
   clear c4
   by_cases c5 : 0 ≤ x5_1
   case neg =>
    rw [if_neg c5] at H
    exact absurd H (by simp)
   rw [if_pos c5] at H
   have c5b0 : decide (0 ≤ x5_1) = true := decide_eq_true c5
   clear c5
   by_cases c6 : x5_1 < (l1.length : Int)
   case neg =>
    rw [if_neg c6] at H
    exact absurd H (by simp)
   rw [if_pos c6] at H
   have c6b0 : decide (x5_1 < (l1.length : Int)) = true := decide_eq_true c6
   clear c6
   by_cases c7 : (!(((rd_T44 l0 x5_1).f0) == ((rd_T44 l1 x5_1).f0)) || (!(((rd_T44 l0 x5_1).f1) == ((rd_T44 l1 x5_1).f1)) || (!(((rd_T44 l0 x5_1).f2) == ((rd_T44 l1 x5_1).f2)) || (!(((rd_T44 l0 x5_1).f3) == ((rd_T44 l1 x5_1).f3)) || (!(((rd_T44 l0 x5_1).f4) == ((rd_T44 l1 x5_1).f4)) || (!(((rd_T44 l0 x5_1).f5) == ((rd_T44 l1 x5_1).f5)) || (!(((rd_T44 l0 x5_1).f6) == ((rd_T44 l1 x5_1).f6)) || (!(((rd_T44 l0 x5_1).f7) == ((rd_T44 l1 x5_1).f7)))))))))) = true
   case pos =>
    rw [if_pos c7] at H
    have c7b0 : (!(((rd_T44 l0 x5_1).f0) == ((rd_T44 l1 x5_1).f0)) || (!(((rd_T44 l0 x5_1).f1) == ((rd_T44 l1 x5_1).f1)) || (!(((rd_T44 l0 x5_1).f2) == ((rd_T44 l1 x5_1).f2)) || (!(((rd_T44 l0 x5_1).f3) == ((rd_T44 l1 x5_1).f3)) || (!(((rd_T44 l0 x5_1).f4) == ((rd_T44 l1 x5_1).f4)) || (!(((rd_T44 l0 x5_1).f5) == ((rd_T44 l1 x5_1).f5)) || (!(((rd_T44 l0 x5_1).f6) == ((rd_T44 l1 x5_1).f6)) || (!(((rd_T44 l0 x5_1).f7) == ((rd_T44 l1 x5_1).f7)))))))))) = true := c7
    clear c7
    obtain rfl := Option.some.inj H
    have p132 : 0 ≤ (x5_1 : Int) := of_decide_eq_true (by first | (with_reducible assumption) | assumption)
    have q132 : x5_1 < (l0.length : Int) := of_decide_eq_true (by first | (with_reducible assumption) | assumption)
    obtain ⟨ad132, e132, hx132_0, hx132_1, hx132_2, hx132_3, hx132_4, hx132_5, hx132_6, hx132_7⟩ := at_T44 HR0.out x5_1 p132 q132
    cases e132
    replace p132 := eq_true p132
    replace q132 := eq_true q132
    have p133 : 0 ≤ (x5_1 : Int) := of_decide_eq_true (by first | (with_reducible assumption) | assumption)
    have q133 : x5_1 < (l1.length : Int) := of_decide_eq_true (by first | (with_reducible assumption) | assumption)
    obtain ⟨ad133, e133, hx133_0, hx133_1, hx133_2, hx133_3, hx133_4, hx133_5, hx133_6, hx133_7⟩ := at_T44 HR1.out x5_1 p133 q133
    cases e133
    replace p133 := eq_true p133
    replace q133 := eq_true q133
    go_wp2
    repeat (go_quiet (fail); try go_wp2)
    go_ret
    exact ⟨by first | rfl | (simp; done) | (simp [*]; done), by repeat (first | exact Drawn0.refl _ | apply Drawn0.step)⟩
   rw [if_neg c7] at H
   have c7b0 : (!(((rd_T44 l0 x5_1).f0) == ((rd_T44 l1 x5_1).f0)) || (!(((rd_T44 l0 x5_1).f1) == ((rd_T44 l1 x5_1).f1)) || (!(((rd_T44 l0 x5_1).f2) == ((rd_T44 l1 x5_1).f2)) || (!(((rd_T44 l0 x5_1).f3) == ((rd_T44 l1 x5_1).f3)) || (!(((rd_T44 l0 x5_1).f4) == ((rd_T44 l1 x5_1).f4)) || (!(((rd_T44 l0 x5_1).f5) == ((rd_T44 l1 x5_1).f5)) || (!(((rd_T44 l0 x5_1).f6) == ((rd_T44 l1 x5_1).f6)) || (!(((rd_T44 l0 x5_1).f7) == ((rd_T44 l1 x5_1).f7)))))))))) = false := by simpa using c7
   clear c7
   have H' := Aside0.mk H
   clear H
   have p132 : 0 ≤ (x5_1 : Int) := of_decide_eq_true (by first | (with_reducible assumption) | assumption)
   have q132 : x5_1 < (l0.length : Int) := of_decide_eq_true (by first | (with_reducible assumption) | assumption)
   obtain ⟨ad132, e132, hx132_0, hx132_1, hx132_2, hx132_3, hx132_4, hx132_5, hx132_6, hx132_7⟩ := at_T44 HR0.out x5_1 p132 q132
   cases e132
   replace p132 := eq_true p132
   replace q132 := eq_true q132
   have p133 : 0 ≤ (x5_1 : Int) := of_decide_eq_true (by first | (with_reducible assumption) | assumption)
   have q133 : x5_1 < (l1.length : Int) := of_decide_eq_true (by first | (with_reducible assumption) | assumption)
   obtain ⟨ad133, e133, hx133_0, hx133_1, hx133_2, hx133_3, hx133_4, hx133_5, hx133_6, hx133_7⟩ := at_T44 HR1.out x5_1 p133 q133
   cases e133
   replace p133 := eq_true p133
   replace q133 := eq_true q133
   go_wp2
   repeat (go_quiet (fail); try go_wp2)
   go_roundg k1
   case measure => have := HK1.out; omega
   case rel => exact ⟨(wrap64 (x5_1 + 1)), (by first | rfl | (simp; done) | (simp [*]; done)), H', ⟨by have := HK1.out; omega⟩, by repeat (first | exact Drawn0.refl _ | apply Drawn0.step)⟩
theorem storagebarterref26_Same.refl_l (l : List S44) (h : l.length < 2199023255552) : ∀ (d : Nat) (i : Int), 0 ≤ i → (l.length : Int) - i = d → storagebarterref26_Same.l0 (d + 1) l l i = some true := by
  intro d
  induction d with
  | zero => intro i h0 h1; simp only [storagebarterref26_Same.l0]; rw [if_neg (by omega)]
  | succ d ih =>
    intro i h0 h1
    have e : wrap64 (i + 1) = i + 1 := by unfold wrap64; omega
    have hi := ih (i + 1) (by omega) (by omega)
    rw [storagebarterref26_Same.l0, if_pos (by omega), if_pos h0, if_pos (by omega), e, hi]
    simp
theorem storagebarterref26_Same.refl (l : List S44) (h : l.length < 2199023255552) : storagebarterref26_Same.f (l.length + 1) l l = some true := by
  unfold storagebarterref26_Same.f
  rw [if_pos rfl]
  exact storagebarterref26_Same.refl_l l h l.length 0 (by omega) (by omega)


/-! ### ending_Room: function 23 -/
mutual
def ending_Room.l0 : Nat → Int → Int → List (S44) → Int → Int → Int → Int → Option (Int × Int)
  | 0, _, _, _, _, _, _, _ => none
  | k + 1, x1, x2, x10, x11, x12, ba2, ba3 => if x12 < x11 then (if 0 ≤ x12 then (if x12 < (x10.length : Int) then (if ((rd_T44 x10 x12).f1) = x1 then (ending_Room.j1 k x1 x2 x10 x11 x12 (((rd_T44 x10 x12).f0) == x2) ba2 ba3 ((rd_T44 x10 x12).f0) ((rd_T44 x10 x12).f1) ((rd_T44 x10 x12).f2) ((rd_T44 x10 x12).f3) ((rd_T44 x10 x12).f4) ((rd_T44 x10 x12).f5) ((rd_T44 x10 x12).f6) ((rd_T44 x10 x12).f7)) else (ending_Room.j1 k x1 x2 x10 x11 x12 false ba2 ba3 ((rd_T44 x10 x12).f0) ((rd_T44 x10 x12).f1) ((rd_T44 x10 x12).f2) ((rd_T44 x10 x12).f3) ((rd_T44 x10 x12).f4) ((rd_T44 x10 x12).f5) ((rd_T44 x10 x12).f6) ((rd_T44 x10 x12).f7))) else (none)) else (none)) else (some (ba2, ba3))
def ending_Room.j1 : Nat → Int → Int → List (S44) → Int → Int → Bool → Int → Int → Int → Int → Int → Int → Int → Int → Int → Bool → Option (Int × Int)
  | 0, _, _, _, _, _, _, _, _, _, _, _, _, _, _, _, _ => none
  | k + 1, x1, x2, x10, x11, x12, x25, ba2, ba3, x138000, x138001, x138002, x138003, x138004, x138005, x138006, x138007 => if x25 = true then (if x138001 = x2 then (if x138000 = x1 then (ending_Room.l0 k x1 x2 x10 x11 (wrap64 (x12 + 1)) (wrap64 (ba2 + x138004)) (wrap64 (ba3 + x138004))) else (ending_Room.l0 k x1 x2 x10 x11 (wrap64 (x12 + 1)) (wrap64 (ba2 + x138004)) ba3)) else (ending_Room.l0 k x1 x2 x10 x11 (wrap64 (x12 + 1)) (wrap64 (ba2 + x138004)) ba3)) else (if x138001 = x2 then (if x138000 = x1 then (ending_Room.l0 k x1 x2 x10 x11 (wrap64 (x12 + 1)) ba2 (wrap64 (ba3 + x138004))) else (ending_Room.l0 k x1 x2 x10 x11 (wrap64 (x12 + 1)) ba2 ba3)) else (ending_Room.l0 k x1 x2 x10 x11 (wrap64 (x12 + 1)) ba2 ba3))
end
def ending_Room.f (k : Nat) (l0 : List (S44)) (a1 : Int) (a2 : Int) : Option (Int × Int) := ending_Room.l0 k a1 a2 l0 (l0.length : Int) 0 0 0
theorem ending_Room.mono_l : ∀ k, (∀ y0 y1 y2 y3 y4 y5 y6, LeO (ending_Room.l0 k y0 y1 y2 y3 y4 y5 y6) (ending_Room.l0 (k + 1) y0 y1 y2 y3 y4 y5 y6)) ∧ (∀ y0 y1 y2 y3 y4 y5 y6 y7 y8 y9 y10 y11 y12 y13 y14 y15, LeO (ending_Room.j1 k y0 y1 y2 y3 y4 y5 y6 y7 y8 y9 y10 y11 y12 y13 y14 y15) (ending_Room.j1 (k + 1) y0 y1 y2 y3 y4 y5 y6 y7 y8 y9 y10 y11 y12 y13 y14 y15))
  | 0 => ⟨fun _ _ _ _ _ _ _ r h => by simp [ending_Room.l0] at h, fun _ _ _ _ _ _ _ _ _ _ _ _ _ _ _ _ r h => by simp [ending_Room.j1] at h⟩
  | k + 1 => by
    obtain ⟨ih0, ih1⟩ := ending_Room.mono_l k
    refine ⟨?_, ?_⟩
    · intro y0 y1 y2 y3 y4 y5 y6
      unfold ending_Room.l0
      repeat' first
      | (with_reducible exact ih0 _ _ _ _ _ _ _)
      | (with_reducible exact ih1 _ _ _ _ _ _ _ _ _ _ _ _ _ _ _ _)
      | (with_reducible exact LeO.refl _)
      | (with_reducible exact LeO.none _)
      | (with_reducible refine LeO.ite ?_ ?_)
      | (with_reducible refine LeO.bind ?_ (fun _ => ?_))
      | exact ih0 _ _ _ _ _ _ _
      | exact ih1 _ _ _ _ _ _ _ _ _ _ _ _ _ _ _ _
      | exact LeO.none _
      | refine LeO.ite ?_ ?_
      | refine LeO.bind ?_ (fun _ => ?_)
    · intro y0 y1 y2 y3 y4 y5 y6 y7 y8 y9 y10 y11 y12 y13 y14 y15
      unfold ending_Room.j1
      repeat' first
      | (with_reducible exact ih0 _ _ _ _ _ _ _)
      | (with_reducible exact ih1 _ _ _ _ _ _ _ _ _ _ _ _ _ _ _ _)
      | (with_reducible exact LeO.refl _)
      | (with_reducible exact LeO.none _)
      | (with_reducible refine LeO.ite ?_ ?_)
      | (with_reducible refine LeO.bind ?_ (fun _ => ?_))
      | exact ih0 _ _ _ _ _ _ _
      | exact ih1 _ _ _ _ _ _ _ _ _ _ _ _ _ _ _ _
      | exact LeO.none _
      | refine LeO.ite ?_ ?_
      | refine LeO.bind ?_ (fun _ => ?_)
theorem ending_Room.mono : ∀ a0 a1 a2 k, LeO (ending_Room.f k a0 a1 a2) (ending_Room.f (k + 1) a0 a1 a2) := by
  intro a0 a1 a2 k
  obtain ⟨ih0, ih1⟩ := ending_Room.mono_l k
  unfold ending_Room.f
  repeat' first
      | (with_reducible exact ih0 _ _ _ _ _ _ _)
      | (with_reducible exact ih1 _ _ _ _ _ _ _ _ _ _ _ _ _ _ _ _)
      | (with_reducible exact LeO.refl _)
      | (with_reducible exact LeO.none _)
      | (with_reducible refine LeO.ite ?_ ?_)
      | (with_reducible refine LeO.bind ?_ (fun _ => ?_))
      | exact ih0 _ _ _ _ _ _ _
      | exact ih1 _ _ _ _ _ _ _ _ _ _ _ _ _ _ _ _
      | exact LeO.none _
      | refine LeO.ite ?_ ?_
      | refine LeO.bind ?_ (fun _ => ?_)
class Up23 (W W1 : World) : Prop where
  below : Below W.heap.size W W1
instance (W : World) : Up23 W W := ⟨Below.refl _ _⟩
instance (W W1 : World) [h : Up23 W W1] (o : Obj) : Up23 W (W1.alloc o) := ⟨below_alloc h.below o⟩
instance (W W1 : World) [h : Up23 W W1] : Up23 W W1.drew := ⟨h.below.trans (below_drew (Below.refl _ _))⟩
instance (W W1 : World) [h : Up23 W W1] (n : Nat) : Up23 W (W1.drewN n) := ⟨pw_below_drewN h.below n⟩
theorem bU23 {W W1 : World} {g : Nat} {o : Obj} [u : Up23 W W1] (h : W.heap[g]? = some o) : W1.heap[g]? = some o := (u.below.block g (blk_lt h)).trans h
theorem hU23 {w W W1 : World} [u : Up23 W W1] (h : Below w.heap.size w W) : Below w.heap.size w W1 := below_step h u.below
theorem cU23 {α : Type} {d : Kd α} {A : Option Addr} {n : Nat} {xs : List α} {W W1 : World} [u : Up23 W W1] (h : d.C W A n xs) : d.C W1 A n xs := Kd.C_below h u.below
set_option maxHeartbeats 60000000 in
set_option maxRecDepth 100000 in
theorem ending_Room.calls (k : Nat) (A0 : Option Addr) (c0 : Nat) (l0 : List (S44)) (a1 : Int) (a2 : Int) (r1 : Int) (r2 : Int) (w : World) (hr0 : Kd.C k44 w A0 l0.length l0) (hc0 : l0.length ≤ c0) (h : ending_Room.f k l0 a1 a2 = some (r1, r2)) :
  Calls Try.prog 23 #[.slice A0 l0.length c0, .int .i64 a1, .int .i64 a2] w fun e w' => e = .returned (.agg #[.int .i64 r1, .int .i64 r2]) ∧ Below w.heap.size w w' := by
 have hu39 := Try.underlying39
 have hu44 := Try.underlying44
 have HR0 := Aside0.mk hr0
 have HC0 := Aside0.mk hc0
 clear hr0 hc0
 have HB := Aside0.mk (Below.refl w.heap.size w)
 have H : (ending_Room.l0 k a1 a2 l0 (l0.length : Int) 0 0 0) = some (r1, r2) := h
 clear h
 have H' := Aside0.mk H
 clear H
 go_enter Try.func23, Try.ntmps23
 go_wp2_with (first | ((with_reducible refine gate_dst (N := 6) rfl ?_); refine box_event ?hg (N := 6) ?hd (cs := #[.int .i64 0, .int .i64 0]) (t := 39) ?hr ?_; (case hd => rfl); (case hg => rfl); (case hr => first | (go_simp; done) | (go_simp; rfl)); intro gb134 hg w4 hbox hb; have n0_ := Aside0.mk (below_step (hU23 HB.out) hb); have n1_ := Aside0.mk (hbox); have n2_ := Aside0.mk ((by rw [hg]; exact (below_size (hU23 HB.out)) : w.heap.size ≤ gb134)); have n3_ := Aside0.mk ((by rw [hg]; exact (below_size (hU23 HB.out)) : w.heap.size ≤ gb134)); clear HB; have HB := n0_; have BK134 := n1_; have GW134 := n2_; have GE134 := n3_; clear n0_ n1_ n2_ n3_; clear hb hbox hg) | ((with_reducible refine gate_dst (N := 7) rfl ?_); refine box_event ?hg (N := 7) ?hd (cs := #[.int .i64 0, .int .i64 0]) (t := 39) ?hr ?_; (case hd => rfl); (case hg => rfl); (case hr => first | (go_simp; done) | (go_simp; rfl)); intro gb135 hg w5 hbox hb; have n0_ := Aside0.mk (blk_below (g := gb134) (o := .cells #[.int .i64 0, .int .i64 0] 39 (0, 0)) (bU23 BK134.out) hb); have n1_ := Aside0.mk (below_step (by repeat (first | (with_reducible first | exact HB.out | apply below_alloc | apply pw_below_drewN | apply below_drew1 | refine below_set ?_ GE134.out) | exact HB.out)) hb); have n2_ := Aside0.mk (hbox); have n3_ := Aside0.mk ((by rw [hg]; exact (below_size (by repeat (first | (with_reducible first | exact HB.out | apply below_alloc | apply pw_below_drewN | apply below_drew1 | refine below_set ?_ GE134.out) | exact HB.out))) : w.heap.size ≤ gb135)); have n4_ := Aside0.mk ((by rw [hg]; exact (below_size (by repeat (first | (with_reducible first | exact HB.out | apply below_alloc | apply pw_below_drewN | apply below_drew1 | refine below_set ?_ GE134.out) | exact HB.out))) : w.heap.size ≤ gb135)); have n5_ := Aside0.mk ((by rw [hg]; exact Nat.ne_of_lt (blk_lt (g := gb134) (o := .cells #[.int .i64 0, .int .i64 0] 39 (0, 0)) (bU23 BK134.out)) : gb134 ≠ gb135)); have n6_ := Aside0.mk ((by rw [hg]; exact Nat.ne_of_gt (blk_lt (g := gb134) (o := .cells #[.int .i64 0, .int .i64 0] 39 (0, 0)) (bU23 BK134.out)) : gb135 ≠ gb134)); clear BK134; clear HB; have BK134 := n0_; have HB := n1_; have BK135 := n2_; have GW135 := n3_; have GE135 := n4_; have NB134_135 := n5_; have NB135_134 := n6_; clear n0_ n1_ n2_ n3_ n4_ n5_ n6_; clear hb hbox hg))
 go_loopg [12] k (fun kq v12 w' => ∃ (x12_1 : Int) (ba0 : Int) (ba1 : Int), v12 = .int .i64 x12_1 ∧ Aside0 (ending_Room.l0 kq a1 a2 l0 (l0.length : Int) x12_1 ba0 ba1 = some (r1, r2)) ∧ Aside0 (kq ≤ k) ∧ Aside0 (w'.heap[gb134]? = some (.cells #[.int .i64 0, .int .i64 0] 39 (0, 0))) ∧ Aside0 (w'.heap[gb135]? = some (.cells #[.int .i64 ba0, .int .i64 ba1] 39 (0, 0))) ∧ Aside0 (Below w.heap.size w w'))
 case atStart => exact ⟨(0), (0), (0), (by first | rfl | (simp; done) | (simp [*]; done)), H', ⟨Nat.le_refl _⟩, ⟨by exact bU23 BK134.out⟩, ⟨by exact bU23 BK135.out⟩, ⟨by repeat (first | (with_reducible first | exact HB.out | apply below_alloc | apply pw_below_drewN | apply below_drew1 | refine below_set ?_ (Aside0.out (by assumption))) | exact HB.out)⟩⟩
 case round =>
  clear H'
  try clear c2
  try clear p2
  obtain ⟨x12_1, ba0, ba1, rfl, HA, HK1, BK134, BK135, HB⟩ := hrel
  cases gk with
  | zero => exact absurd HA.out (by simp [ending_Room.l0])
  | succ k1 =>
   have H := HA.out
   clear HA
   simp only [ending_Room.l0] at H
   by_cases c6 : x12_1 < (l0.length : Int)
   case neg =>
    rw [if_neg c6] at H
    have c6b0 : decide (x12_1 < (l0.length : Int)) = false := decide_eq_false c6
    clear c6
    simp only [Option.some.injEq, Prod.mk.injEq] at H
    obtain ⟨rfl, rfl⟩ := H
    have hnb52 := NB135_134.out
    have hnc52 := NB134_135.out
    have hcz53 := cz2 BK135.out
    have hfz53 := blk_frozen BK135.out
    have hcz54 := cz2 BK134.out
    have hfz54 := blk_frozen BK134.out
    go_wp2
    refine bodyPost_ret (results_cell_row rfl _ _ gb134 39 #[.int .i64 ba0, .int .i64 ba1] (0, 0) _ rfl (by (with_reducible repeat (first | refine blk_drewN ?_ _ | refine blk_drew ?_ | refine blk_alloc ?_ _)); refine blk_put (cs := #[.int .i64 ba0, .int .i64 0]) ?_ 1 _ rfl; (with_reducible repeat (first | refine blk_drewN ?_ _ | refine blk_drew ?_ | refine blk_alloc ?_ _)); refine blk_put (cs := #[.int .i64 0, .int .i64 0]) ?_ 0 _ rfl; exact bU23 BK134.out) Try.underlying39 rfl (by kernel_rfl)) rfl ?_
    exact ⟨by first | rfl | (simp [errW_none, errW_some] <;> rfl) | (simp [*, errW_none, errW_some] <;> rfl), by repeat (first | (with_reducible first | exact HB.out | apply below_alloc | apply pw_below_drewN | apply below_drew1 | refine below_set ?_ (Aside0.out (by assumption))) | exact HB.out)⟩


   rw [if_pos c6] at H
   have c6b0 : decide (x12_1 < (l0.length : Int)) = true := decide_eq_true c6
   clear c6
   by_cases c7 : 0 ≤ x12_1
   case neg =>
    rw [if_neg c7] at H
    exact absurd H (by simp)
   rw [if_pos c7] at H
   have c7b0 : decide (0 ≤ x12_1) = true := decide_eq_true c7
   clear c7
   by_cases c8 : x12_1 < (l0.length : Int)
   case neg =>
    rw [if_neg c8] at H
    exact absurd H (by simp)
   rw [if_pos c8] at H
   have c8b0 : decide (x12_1 < (l0.length : Int)) = true := decide_eq_true c8
   clear c8
   have HC9 := Aside0.mk H
   clear H
   have p136 : 0 ≤ (x12_1 : Int) := of_decide_eq_true (by first | (with_reducible assumption) | assumption)
   have q136 : x12_1 < (l0.length : Int) := of_decide_eq_true (by first | (with_reducible assumption) | assumption)
   obtain ⟨ad136, e136, hx136_0, hx136_1, hx136_2, hx136_3, hx136_4, hx136_5, hx136_6, hx136_7⟩ := at_T44 HR0.out x12_1 p136 q136
   cases e136
   replace hx136_0 := (HB.out.cell (World.block_lt_of_cell? w _ hx136_0)).trans hx136_0
   replace hx136_1 := (HB.out.cell (World.block_lt_of_cell? w _ hx136_1)).trans hx136_1
   replace hx136_2 := (HB.out.cell (World.block_lt_of_cell? w _ hx136_2)).trans hx136_2
   replace hx136_3 := (HB.out.cell (World.block_lt_of_cell? w _ hx136_3)).trans hx136_3
   replace hx136_4 := (HB.out.cell (World.block_lt_of_cell? w _ hx136_4)).trans hx136_4
   replace hx136_5 := (HB.out.cell (World.block_lt_of_cell? w _ hx136_5)).trans hx136_5
   replace hx136_6 := (HB.out.cell (World.block_lt_of_cell? w _ hx136_6)).trans hx136_6
   replace hx136_7 := (HB.out.cell (World.block_lt_of_cell? w _ hx136_7)).trans hx136_7
   replace p136 := eq_true p136
   replace q136 := eq_true q136
   go_upto_region 5 with (first | ((with_reducible refine gate_dst (N := 9) rfl ?_); refine box_event ?hg (N := 9) ?hd (cs := #[.int .i64 0, .int .i64 0, .int .i64 0, .int .i64 0, .int .i64 0, .int .i64 0, .int .i64 0, .bool false]) (t := 44) ?hr ?_; (case hd => rfl); (case hg => rfl); (case hr => first | (go_simp; done) | (go_simp; rfl)); intro gb137 hg w10 hbox hb; have n0_ := Aside0.mk (blk_below (g := gb134) (o := .cells #[.int .i64 0, .int .i64 0] 39 (0, 0)) (bU23 BK134.out) hb); have n1_ := Aside0.mk (blk_below (g := gb135) (o := .cells #[.int .i64 ba0, .int .i64 ba1] 39 (0, 0)) (bU23 BK135.out) hb); have n2_ := Aside0.mk (below_step (by repeat (first | (with_reducible first | exact HB.out | apply below_alloc | apply pw_below_drewN | apply below_drew1 | refine below_set ?_ (Aside0.out (by assumption))) | exact HB.out)) hb); have n3_ := Aside0.mk (hbox); have n4_ := Aside0.mk ((by rw [hg]; exact (below_size (by repeat (first | (with_reducible first | exact HB.out | apply below_alloc | apply pw_below_drewN | apply below_drew1 | refine below_set ?_ (Aside0.out (by assumption))) | exact HB.out))) : w.heap.size ≤ gb137)); have n5_ := Aside0.mk ((by rw [hg]; exact (below_size (by repeat (first | (with_reducible first | exact HB.out | apply below_alloc | apply pw_below_drewN | apply below_drew1 | refine below_set ?_ (Aside0.out (by assumption))) | exact HB.out))) : w.heap.size ≤ gb137)); have n6_ := Aside0.mk ((by rw [hg]; exact Nat.ne_of_lt (blk_lt (g := gb134) (o := .cells #[.int .i64 0, .int .i64 0] 39 (0, 0)) (bU23 BK134.out)) : gb134 ≠ gb137)); have n7_ := Aside0.mk ((by rw [hg]; exact Nat.ne_of_gt (blk_lt (g := gb134) (o := .cells #[.int .i64 0, .int .i64 0] 39 (0, 0)) (bU23 BK134.out)) : gb137 ≠ gb134)); have n8_ := Aside0.mk ((by rw [hg]; exact Nat.ne_of_lt (blk_lt (g := gb135) (o := .cells #[.int .i64 ba0, .int .i64 ba1] 39 (0, 0)) (bU23 BK135.out)) : gb135 ≠ gb137)); have n9_ := Aside0.mk ((by rw [hg]; exact Nat.ne_of_gt (blk_lt (g := gb135) (o := .cells #[.int .i64 ba0, .int .i64 ba1] 39 (0, 0)) (bU23 BK135.out)) : gb137 ≠ gb135)); clear BK134; clear BK135; clear HB; have BK134 := n0_; have BK135 := n1_; have HB := n2_; have BK137 := n3_; have GW137 := n4_; have GE137 := n5_; have NB134_137 := n6_; have NB137_134 := n7_; have NB135_137 := n8_; have NB137_135 := n9_; clear n0_ n1_ n2_ n3_ n4_ n5_ n6_ n7_ n8_ n9_; clear hb hbox hg; have hnb11 := NB137_134.out; have hnc11 := NB134_137.out; have hnb12 := NB137_135.out; have hnc12 := NB135_137.out; have hcz13 := cz8 BK137.out; have hfz13 := blk_frozen BK137.out))
   (try simp only [Act.put, List.setIfInBounds_toArray, List.set_cons_zero, List.set_cons_succ])
   go_cut [25] (fun v25 wc => ∃ (kq : Nat) (x25_8 : Bool), v25 = .bool x25_8 ∧ Aside0 (ending_Room.j1 kq a1 a2 l0 (l0.length : Int) x12_1 x25_8 ba0 ba1 ((rd_T44 l0 x12_1).f0) ((rd_T44 l0 x12_1).f1) ((rd_T44 l0 x12_1).f2) ((rd_T44 l0 x12_1).f3) ((rd_T44 l0 x12_1).f4) ((rd_T44 l0 x12_1).f5) ((rd_T44 l0 x12_1).f6) ((rd_T44 l0 x12_1).f7) = some (r1, r2)) ∧ Aside0 (kq ≤ k1) ∧ Aside0 (wc.heap[gb134]? = some (.cells #[.int .i64 0, .int .i64 0] 39 (0, 0))) ∧ Aside0 (wc.heap[gb135]? = some (.cells #[.int .i64 ba0, .int .i64 ba1] 39 (0, 0))) ∧ Aside0 (wc.heap[gb137]? = some (.cells #[.int .i64 ((rd_T44 l0 x12_1).f0), .int .i64 ((rd_T44 l0 x12_1).f1), .int .i64 ((rd_T44 l0 x12_1).f2), .int .i64 ((rd_T44 l0 x12_1).f3), .int .i64 ((rd_T44 l0 x12_1).f4), .int .i64 ((rd_T44 l0 x12_1).f5), .int .i64 ((rd_T44 l0 x12_1).f6), .bool ((rd_T44 l0 x12_1).f7)] 44 (0, 0))) ∧ Aside0 (Below w.heap.size w wc))
   case first =>
    have H := HC9.out
    clear HC9
    by_cases c14 : ((rd_T44 l0 x12_1).f1) = a1
    case neg =>
     rw [if_neg c14] at H
     have c14b0 : (((rd_T44 l0 x12_1).f1) == a1) = false := beq_eq_false_iff_ne.mpr c14
     have c14b1 : (((rd_T44 l0 x12_1).f1) != a1) = true := bne_iff_ne.mpr c14
     (first | rw [c14b0] | (simp only [i64_w, i32_w]; rw [c14b0]) | skip)
     have H' := Aside0.mk H
     clear H
     have hnb18 := NB137_134.out
     have hnc18 := NB134_137.out
     have hnb19 := NB137_135.out
     have hnc19 := NB135_137.out
     have hcz20 := cz8 BK137.out
     have hfz20 := blk_frozen BK137.out
     go_wp2
     go_meet
     case rel => exact ⟨_, (false), (by first | rfl | (simp; done) | (simp [*]; done)), H', ⟨by have := HK1.out; first | omega | exact Nat.le_refl _⟩, ⟨by (with_reducible repeat (first | refine blk_drewN ?_ _ | refine blk_drew ?_ | refine blk_alloc ?_ _)); refine blk_far ?_ NB134_137.out _; (with_reducible repeat (first | refine blk_drewN ?_ _ | refine blk_drew ?_ | refine blk_alloc ?_ _)); refine blk_far ?_ NB134_137.out _; (with_reducible repeat (first | refine blk_drewN ?_ _ | refine blk_drew ?_ | refine blk_alloc ?_ _)); refine blk_far ?_ NB134_137.out _; (with_reducible repeat (first | refine blk_drewN ?_ _ | refine blk_drew ?_ | refine blk_alloc ?_ _)); refine blk_far ?_ NB134_137.out _; (with_reducible repeat (first | refine blk_drewN ?_ _ | refine blk_drew ?_ | refine blk_alloc ?_ _)); refine blk_far ?_ NB134_137.out _; (with_reducible repeat (first | refine blk_drewN ?_ _ | refine blk_drew ?_ | refine blk_alloc ?_ _)); refine blk_far ?_ NB134_137.out _; (with_reducible repeat (first | refine blk_drewN ?_ _ | refine blk_drew ?_ | refine blk_alloc ?_ _)); refine blk_far ?_ NB134_137.out _; (with_reducible repeat (first | refine blk_drewN ?_ _ | refine blk_drew ?_ | refine blk_alloc ?_ _)); refine blk_far ?_ NB134_137.out _; exact bU23 BK134.out⟩, ⟨by (with_reducible repeat (first | refine blk_drewN ?_ _ | refine blk_drew ?_ | refine blk_alloc ?_ _)); refine blk_far ?_ NB135_137.out _; (with_reducible repeat (first | refine blk_drewN ?_ _ | refine blk_drew ?_ | refine blk_alloc ?_ _)); refine blk_far ?_ NB135_137.out _; (with_reducible repeat (first | refine blk_drewN ?_ _ | refine blk_drew ?_ | refine blk_alloc ?_ _)); refine blk_far ?_ NB135_137.out _; (with_reducible repeat (first | refine blk_drewN ?_ _ | refine blk_drew ?_ | refine blk_alloc ?_ _)); refine blk_far ?_ NB135_137.out _; (with_reducible repeat (first | refine blk_drewN ?_ _ | refine blk_drew ?_ | refine blk_alloc ?_ _)); refine blk_far ?_ NB135_137.out _; (with_reducible repeat (first | refine blk_drewN ?_ _ | refine blk_drew ?_ | refine blk_alloc ?_ _)); refine blk_far ?_ NB135_137.out _; (with_reducible repeat (first | refine blk_drewN ?_ _ | refine blk_drew ?_ | refine blk_alloc ?_ _)); refine blk_far ?_ NB135_137.out _; (with_reducible repeat (first | refine blk_drewN ?_ _ | refine blk_drew ?_ | refine blk_alloc ?_ _)); refine blk_far ?_ NB135_137.out _; exact bU23 BK135.out⟩, ⟨by (with_reducible repeat (first | refine blk_drewN ?_ _ | refine blk_drew ?_ | refine blk_alloc ?_ _)); refine blk_put (cs := #[.int .i64 ((rd_T44 l0 x12_1).f0), .int .i64 ((rd_T44 l0 x12_1).f1), .int .i64 ((rd_T44 l0 x12_1).f2), .int .i64 ((rd_T44 l0 x12_1).f3), .int .i64 ((rd_T44 l0 x12_1).f4), .int .i64 ((rd_T44 l0 x12_1).f5), .int .i64 ((rd_T44 l0 x12_1).f6), .bool false]) ?_ 7 _ rfl; (with_reducible repeat (first | refine blk_drewN ?_ _ | refine blk_drew ?_ | refine blk_alloc ?_ _)); refine blk_put (cs := #[.int .i64 ((rd_T44 l0 x12_1).f0), .int .i64 ((rd_T44 l0 x12_1).f1), .int .i64 ((rd_T44 l0 x12_1).f2), .int .i64 ((rd_T44 l0 x12_1).f3), .int .i64 ((rd_T44 l0 x12_1).f4), .int .i64 ((rd_T44 l0 x12_1).f5), .int .i64 0, .bool false]) ?_ 6 _ rfl; (with_reducible repeat (first | refine blk_drewN ?_ _ | refine blk_drew ?_ | refine blk_alloc ?_ _)); refine blk_put (cs := #[.int .i64 ((rd_T44 l0 x12_1).f0), .int .i64 ((rd_T44 l0 x12_1).f1), .int .i64 ((rd_T44 l0 x12_1).f2), .int .i64 ((rd_T44 l0 x12_1).f3), .int .i64 ((rd_T44 l0 x12_1).f4), .int .i64 0, .int .i64 0, .bool false]) ?_ 5 _ rfl; (with_reducible repeat (first | refine blk_drewN ?_ _ | refine blk_drew ?_ | refine blk_alloc ?_ _)); refine blk_put (cs := #[.int .i64 ((rd_T44 l0 x12_1).f0), .int .i64 ((rd_T44 l0 x12_1).f1), .int .i64 ((rd_T44 l0 x12_1).f2), .int .i64 ((rd_T44 l0 x12_1).f3), .int .i64 0, .int .i64 0, .int .i64 0, .bool false]) ?_ 4 _ rfl; (with_reducible repeat (first | refine blk_drewN ?_ _ | refine blk_drew ?_ | refine blk_alloc ?_ _)); refine blk_put (cs := #[.int .i64 ((rd_T44 l0 x12_1).f0), .int .i64 ((rd_T44 l0 x12_1).f1), .int .i64 ((rd_T44 l0 x12_1).f2), .int .i64 0, .int .i64 0, .int .i64 0, .int .i64 0, .bool false]) ?_ 3 _ rfl; (with_reducible repeat (first | refine blk_drewN ?_ _ | refine blk_drew ?_ | refine blk_alloc ?_ _)); refine blk_put (cs := #[.int .i64 ((rd_T44 l0 x12_1).f0), .int .i64 ((rd_T44 l0 x12_1).f1), .int .i64 0, .int .i64 0, .int .i64 0, .int .i64 0, .int .i64 0, .bool false]) ?_ 2 _ rfl; (with_reducible repeat (first | refine blk_drewN ?_ _ | refine blk_drew ?_ | refine blk_alloc ?_ _)); refine blk_put (cs := #[.int .i64 ((rd_T44 l0 x12_1).f0), .int .i64 0, .int .i64 0, .int .i64 0, .int .i64 0, .int .i64 0, .int .i64 0, .bool false]) ?_ 1 _ rfl; (with_reducible repeat (first | refine blk_drewN ?_ _ | refine blk_drew ?_ | refine blk_alloc ?_ _)); refine blk_put (cs := #[.int .i64 0, .int .i64 0, .int .i64 0, .int .i64 0, .int .i64 0, .int .i64 0, .int .i64 0, .bool false]) ?_ 0 _ rfl; exact bU23 BK137.out⟩, ⟨by repeat (first | (with_reducible first | exact HB.out | apply below_alloc | apply pw_below_drewN | apply below_drew1 | refine below_set ?_ (Aside0.out (by assumption))) | exact HB.out)⟩⟩
    rw [if_pos c14] at H
    have c14b0 : (((rd_T44 l0 x12_1).f1) == a1) = true := beq_iff_eq.mpr c14
    have c14b1 : (((rd_T44 l0 x12_1).f1) != a1) = false := bne_eq_false_iff_eq.mpr c14
    clear c14
    (first | rw [c14b0] | (simp only [i64_w, i32_w]; rw [c14b0]) | skip)
    have H' := Aside0.mk H
    clear H
    have hnb15 := NB137_134.out
    have hnc15 := NB134_137.out
    have hnb16 := NB137_135.out
    have hnc16 := NB135_137.out
    have hcz17 := cz8 BK137.out
    have hfz17 := blk_frozen BK137.out
    go_wp2
    go_meet
    case rel => exact ⟨_, ((((rd_T44 l0 x12_1).f0) == a2)), (by first | rfl | (simp; done) | (simp [*]; done)), H', ⟨by have := HK1.out; first | omega | exact Nat.le_refl _⟩, ⟨by (with_reducible repeat (first | refine blk_drewN ?_ _ | refine blk_drew ?_ | refine blk_alloc ?_ _)); refine blk_far ?_ NB134_137.out _; (with_reducible repeat (first | refine blk_drewN ?_ _ | refine blk_drew ?_ | refine blk_alloc ?_ _)); refine blk_far ?_ NB134_137.out _; (with_reducible repeat (first | refine blk_drewN ?_ _ | refine blk_drew ?_ | refine blk_alloc ?_ _)); refine blk_far ?_ NB134_137.out _; (with_reducible repeat (first | refine blk_drewN ?_ _ | refine blk_drew ?_ | refine blk_alloc ?_ _)); refine blk_far ?_ NB134_137.out _; (with_reducible repeat (first | refine blk_drewN ?_ _ | refine blk_drew ?_ | refine blk_alloc ?_ _)); refine blk_far ?_ NB134_137.out _; (with_reducible repeat (first | refine blk_drewN ?_ _ | refine blk_drew ?_ | refine blk_alloc ?_ _)); refine blk_far ?_ NB134_137.out _; (with_reducible repeat (first | refine blk_drewN ?_ _ | refine blk_drew ?_ | refine blk_alloc ?_ _)); refine blk_far ?_ NB134_137.out _; (with_reducible repeat (first | refine blk_drewN ?_ _ | refine blk_drew ?_ | refine blk_alloc ?_ _)); refine blk_far ?_ NB134_137.out _; exact bU23 BK134.out⟩, ⟨by (with_reducible repeat (first | refine blk_drewN ?_ _ | refine blk_drew ?_ | refine blk_alloc ?_ _)); refine blk_far ?_ NB135_137.out _; (with_reducible repeat (first | refine blk_drewN ?_ _ | refine blk_drew ?_ | refine blk_alloc ?_ _)); refine blk_far ?_ NB135_137.out _; (with_reducible repeat (first | refine blk_drewN ?_ _ | refine blk_drew ?_ | refine blk_alloc ?_ _)); refine blk_far ?_ NB135_137.out _; (with_reducible repeat (first | refine blk_drewN ?_ _ | refine blk_drew ?_ | refine blk_alloc ?_ _)); refine blk_far ?_ NB135_137.out _; (with_reducible repeat (first | refine blk_drewN ?_ _ | refine blk_drew ?_ | refine blk_alloc ?_ _)); refine blk_far ?_ NB135_137.out _; (with_reducible repeat (first | refine blk_drewN ?_ _ | refine blk_drew ?_ | refine blk_alloc ?_ _)); refine blk_far ?_ NB135_137.out _; (with_reducible repeat (first | refine blk_drewN ?_ _ | refine blk_drew ?_ | refine blk_alloc ?_ _)); refine blk_far ?_ NB135_137.out _; (with_reducible repeat (first | refine blk_drewN ?_ _ | refine blk_drew ?_ | refine blk_alloc ?_ _)); refine blk_far ?_ NB135_137.out _; exact bU23 BK135.out⟩, ⟨by (with_reducible repeat (first | refine blk_drewN ?_ _ | refine blk_drew ?_ | refine blk_alloc ?_ _)); refine blk_put (cs := #[.int .i64 ((rd_T44 l0 x12_1).f0), .int .i64 ((rd_T44 l0 x12_1).f1), .int .i64 ((rd_T44 l0 x12_1).f2), .int .i64 ((rd_T44 l0 x12_1).f3), .int .i64 ((rd_T44 l0 x12_1).f4), .int .i64 ((rd_T44 l0 x12_1).f5), .int .i64 ((rd_T44 l0 x12_1).f6), .bool false]) ?_ 7 _ rfl; (with_reducible repeat (first | refine blk_drewN ?_ _ | refine blk_drew ?_ | refine blk_alloc ?_ _)); refine blk_put (cs := #[.int .i64 ((rd_T44 l0 x12_1).f0), .int .i64 ((rd_T44 l0 x12_1).f1), .int .i64 ((rd_T44 l0 x12_1).f2), .int .i64 ((rd_T44 l0 x12_1).f3), .int .i64 ((rd_T44 l0 x12_1).f4), .int .i64 ((rd_T44 l0 x12_1).f5), .int .i64 0, .bool false]) ?_ 6 _ rfl; (with_reducible repeat (first | refine blk_drewN ?_ _ | refine blk_drew ?_ | refine blk_alloc ?_ _)); refine blk_put (cs := #[.int .i64 ((rd_T44 l0 x12_1).f0), .int .i64 ((rd_T44 l0 x12_1).f1), .int .i64 ((rd_T44 l0 x12_1).f2), .int .i64 ((rd_T44 l0 x12_1).f3), .int .i64 ((rd_T44 l0 x12_1).f4), .int .i64 0, .int .i64 0, .bool false]) ?_ 5 _ rfl; (with_reducible repeat (first | refine blk_drewN ?_ _ | refine blk_drew ?_ | refine blk_alloc ?_ _)); refine blk_put (cs := #[.int .i64 ((rd_T44 l0 x12_1).f0), .int .i64 ((rd_T44 l0 x12_1).f1), .int .i64 ((rd_T44 l0 x12_1).f2), .int .i64 ((rd_T44 l0 x12_1).f3), .int .i64 0, .int .i64 0, .int .i64 0, .bool false]) ?_ 4 _ rfl; (with_reducible repeat (first | refine blk_drewN ?_ _ | refine blk_drew ?_ | refine blk_alloc ?_ _)); refine blk_put (cs := #[.int .i64 ((rd_T44 l0 x12_1).f0), .int .i64 ((rd_T44 l0 x12_1).f1), .int .i64 ((rd_T44 l0 x12_1).f2), .int .i64 0, .int .i64 0, .int .i64 0, .int .i64 0, .bool false]) ?_ 3 _ rfl; (with_reducible repeat (first | refine blk_drewN ?_ _ | refine blk_drew ?_ | refine blk_alloc ?_ _)); refine blk_put (cs := #[.int .i64 ((rd_T44 l0 x12_1).f0), .int .i64 ((rd_T44 l0 x12_1).f1), .int .i64 0, .int .i64 0, .int .i64 0, .int .i64 0, .int .i64 0, .bool false]) ?_ 2 _ rfl; (with_reducible repeat (first | refine blk_drewN ?_ _ | refine blk_drew ?_ | refine blk_alloc ?_ _)); refine blk_put (cs := #[.int .i64 ((rd_T44 l0 x12_1).f0), .int .i64 0, .int .i64 0, .int .i64 0, .int .i64 0, .int .i64 0, .int .i64 0, .bool false]) ?_ 1 _ rfl; (with_reducible repeat (first | refine blk_drewN ?_ _ | refine blk_drew ?_ | refine blk_alloc ?_ _)); refine blk_put (cs := #[.int .i64 0, .int .i64 0, .int .i64 0, .int .i64 0, .int .i64 0, .int .i64 0, .int .i64 0, .bool false]) ?_ 0 _ rfl; exact bU23 BK137.out⟩, ⟨by repeat (first | (with_reducible first | exact HB.out | apply below_alloc | apply pw_below_drewN | apply below_drew1 | refine below_set ?_ (Aside0.out (by assumption))) | exact HB.out)⟩⟩
   case rest =>
    clear HC9
    try clear c1
    try clear p1
    try clear q1
    try clear hx1
    try clear c2
    try clear p2
    try clear c6
    try clear c6b0
    try clear c7
    try clear c7b0
    try clear c8
    try clear c8b0
    try clear c11
    try clear c12
    try clear p13
    try clear q13
    try clear hx13
    try clear c14
    try clear c14b0
    try clear c14b1
    try clear c15
    try clear c16
    try clear c18
    try clear c19
    try clear hcz13
    try clear hcz17
    try clear hcz20
    try clear hfz13
    try clear hfz17
    try clear hfz20
    try clear hx136_0
    try clear hx136_1
    try clear hx136_2
    try clear hx136_3
    try clear hx136_4
    try clear hx136_5
    try clear hx136_6
    try clear hx136_7
    try clear p136
    try clear p2
    try clear q136
    obtain ⟨kq, x25_8, rfl, HA, HJ8, BK134, BK135, BK137, HB⟩ := hcut
    cases kq with
    | zero => exact absurd HA.out (by simp [ending_Room.j1])
    | succ kj8 =>
     have H := HA.out
     clear HA
     simp only [ending_Room.j1] at H
     by_cases c21 : x25_8 = true
     case neg =>
      replace c21 := Bool.eq_false_iff.mpr c21
      subst c21
      have H1 : (if ((rd_T44 l0 x12_1).f1) = a2 then (if ((rd_T44 l0 x12_1).f0) = a1 then (ending_Room.l0 kj8 a1 a2 l0 (l0.length : Int) (wrap64 (x12_1 + 1)) ba0 (wrap64 (ba1 + ((rd_T44 l0 x12_1).f4)))) else (ending_Room.l0 kj8 a1 a2 l0 (l0.length : Int) (wrap64 (x12_1 + 1)) ba0 ba1)) else (ending_Room.l0 kj8 a1 a2 l0 (l0.length : Int) (wrap64 (x12_1 + 1)) ba0 ba1)) = some (r1, r2) := by rw [if_neg (show ¬ (false = true) by decide)] at H; exact H
      clear H
      have H := H1
      clear H1
      by_cases c39 : ((rd_T44 l0 x12_1).f1) = a2
      case neg =>
       rw [if_neg c39] at H
       have c39b0 : (((rd_T44 l0 x12_1).f1) == a2) = false := beq_eq_false_iff_ne.mpr c39
       have c39b1 : (((rd_T44 l0 x12_1).f1) != a2) = true := bne_iff_ne.mpr c39
       have H' := Aside0.mk H
       clear H
       have hnb49 := NB137_134.out
       have hnc49 := NB134_137.out
       have hnb50 := NB137_135.out
       have hnc50 := NB135_137.out
       have hcz51 := cz8 BK137.out
       have hfz51 := blk_frozen BK137.out
       go_wp2
       go_roundg kj8
       case measure => have := HK1.out; have := HJ8.out; omega
       case rel => exact ⟨(wrap64 (x12_1 + 1)), (ba0), (ba1), (by first | rfl | (simp; done) | (simp [*]; done)), H', ⟨by have := HK1.out; have := HJ8.out; omega⟩, ⟨by exact bU23 BK134.out⟩, ⟨by exact bU23 BK135.out⟩, ⟨by repeat (first | (with_reducible first | exact HB.out | apply below_alloc | apply pw_below_drewN | apply below_drew1 | refine below_set ?_ (Aside0.out (by assumption))) | exact HB.out)⟩⟩
      rw [if_pos c39] at H
      have c39b0 : (((rd_T44 l0 x12_1).f1) == a2) = true := beq_iff_eq.mpr c39
      have c39b1 : (((rd_T44 l0 x12_1).f1) != a2) = false := bne_eq_false_iff_eq.mpr c39
      clear c39
      by_cases c40 : ((rd_T44 l0 x12_1).f0) = a1
      case neg =>
       rw [if_neg c40] at H
       have c40b0 : (((rd_T44 l0 x12_1).f0) == a1) = false := beq_eq_false_iff_ne.mpr c40
       have c40b1 : (((rd_T44 l0 x12_1).f0) != a1) = true := bne_iff_ne.mpr c40
       have H' := Aside0.mk H
       clear H
       have hnb46 := NB137_134.out
       have hnc46 := NB134_137.out
       have hnb47 := NB137_135.out
       have hnc47 := NB135_137.out
       have hcz48 := cz8 BK137.out
       have hfz48 := blk_frozen BK137.out
       go_wp2
       go_roundg kj8
       case measure => have := HK1.out; have := HJ8.out; omega
       case rel => exact ⟨(wrap64 (x12_1 + 1)), (ba0), (ba1), (by first | rfl | (simp; done) | (simp [*]; done)), H', ⟨by have := HK1.out; have := HJ8.out; omega⟩, ⟨by exact bU23 BK134.out⟩, ⟨by exact bU23 BK135.out⟩, ⟨by repeat (first | (with_reducible first | exact HB.out | apply below_alloc | apply pw_below_drewN | apply below_drew1 | refine below_set ?_ (Aside0.out (by assumption))) | exact HB.out)⟩⟩
      rw [if_pos c40] at H
      have c40b0 : (((rd_T44 l0 x12_1).f0) == a1) = true := beq_iff_eq.mpr c40
      have c40b1 : (((rd_T44 l0 x12_1).f0) != a1) = false := bne_eq_false_iff_eq.mpr c40
      clear c40
      have H' := Aside0.mk H
      clear H
      have hnb41 := NB137_134.out
      have hnc41 := NB134_137.out
      have hnb42 := NB137_135.out
      have hnc42 := NB135_137.out
      have hcz43 := cz8 BK137.out
      have hfz43 := blk_frozen BK137.out
      have hnb44 := NB135_134.out
      have hnc44 := NB134_135.out
      have hcz45 := cz2 BK135.out
      have hfz45 := blk_frozen BK135.out
      go_wp2
      go_roundg kj8
      case measure => have := HK1.out; have := HJ8.out; omega
      case rel => exact ⟨(wrap64 (x12_1 + 1)), (ba0), (wrap64 (ba1 + ((rd_T44 l0 x12_1).f4))), (by first | rfl | (simp; done) | (simp [*]; done)), H', ⟨by have := HK1.out; have := HJ8.out; omega⟩, ⟨by (with_reducible repeat (first | refine blk_drewN ?_ _ | refine blk_drew ?_ | refine blk_alloc ?_ _)); refine blk_far ?_ NB134_135.out _; exact bU23 BK134.out⟩, ⟨by (with_reducible repeat (first | refine blk_drewN ?_ _ | refine blk_drew ?_ | refine blk_alloc ?_ _)); refine blk_put (cs := #[.int .i64 ba0, .int .i64 ba1]) ?_ 1 _ rfl; exact bU23 BK135.out⟩, ⟨by repeat (first | (with_reducible first | exact HB.out | apply below_alloc | apply pw_below_drewN | apply below_drew1 | refine below_set ?_ (Aside0.out (by assumption))) | exact HB.out)⟩⟩
     subst c21
     have H1 : (if ((rd_T44 l0 x12_1).f1) = a2 then (if ((rd_T44 l0 x12_1).f0) = a1 then (ending_Room.l0 kj8 a1 a2 l0 (l0.length : Int) (wrap64 (x12_1 + 1)) (wrap64 (ba0 + ((rd_T44 l0 x12_1).f4))) (wrap64 (ba1 + ((rd_T44 l0 x12_1).f4)))) else (ending_Room.l0 kj8 a1 a2 l0 (l0.length : Int) (wrap64 (x12_1 + 1)) (wrap64 (ba0 + ((rd_T44 l0 x12_1).f4))) ba1)) else (ending_Room.l0 kj8 a1 a2 l0 (l0.length : Int) (wrap64 (x12_1 + 1)) (wrap64 (ba0 + ((rd_T44 l0 x12_1).f4))) ba1)) = some (r1, r2) := by rw [if_pos rfl] at H; exact H
     clear H
     have H := H1
     clear H1
     by_cases c22 : ((rd_T44 l0 x12_1).f1) = a2
     case neg =>
      rw [if_neg c22] at H
      have c22b0 : (((rd_T44 l0 x12_1).f1) == a2) = false := beq_eq_false_iff_ne.mpr c22
      have c22b1 : (((rd_T44 l0 x12_1).f1) != a2) = true := bne_iff_ne.mpr c22
      have H' := Aside0.mk H
      clear H
      have hnb34 := NB135_134.out
      have hnc34 := NB134_135.out
      have hnb35 := NB135_137.out
      have hnc35 := NB137_135.out
      have hcz36 := cz2 BK135.out
      have hfz36 := blk_frozen BK135.out
      have hnb37 := NB137_134.out
      have hnc37 := NB134_137.out
      have hcz38 := cz8 BK137.out
      have hfz38 := blk_frozen BK137.out
      go_wp2
      go_roundg kj8
      case measure => have := HK1.out; have := HJ8.out; omega
      case rel => exact ⟨(wrap64 (x12_1 + 1)), (wrap64 (ba0 + ((rd_T44 l0 x12_1).f4))), (ba1), (by first | rfl | (simp; done) | (simp [*]; done)), H', ⟨by have := HK1.out; have := HJ8.out; omega⟩, ⟨by (with_reducible repeat (first | refine blk_drewN ?_ _ | refine blk_drew ?_ | refine blk_alloc ?_ _)); refine blk_far ?_ NB134_135.out _; exact bU23 BK134.out⟩, ⟨by (with_reducible repeat (first | refine blk_drewN ?_ _ | refine blk_drew ?_ | refine blk_alloc ?_ _)); refine blk_put (cs := #[.int .i64 ba0, .int .i64 ba1]) ?_ 0 _ rfl; exact bU23 BK135.out⟩, ⟨by repeat (first | (with_reducible first | exact HB.out | apply below_alloc | apply pw_below_drewN | apply below_drew1 | refine below_set ?_ (Aside0.out (by assumption))) | exact HB.out)⟩⟩
     rw [if_pos c22] at H
     have c22b0 : (((rd_T44 l0 x12_1).f1) == a2) = true := beq_iff_eq.mpr c22
     have c22b1 : (((rd_T44 l0 x12_1).f1) != a2) = false := bne_eq_false_iff_eq.mpr c22
     clear c22
     by_cases c23 : ((rd_T44 l0 x12_1).f0) = a1
     case neg =>
      rw [if_neg c23] at H
      have c23b0 : (((rd_T44 l0 x12_1).f0) == a1) = false := beq_eq_false_iff_ne.mpr c23
      have c23b1 : (((rd_T44 l0 x12_1).f0) != a1) = true := bne_iff_ne.mpr c23
      have H' := Aside0.mk H
      clear H
      have hnb29 := NB135_134.out
      have hnc29 := NB134_135.out
      have hnb30 := NB135_137.out
      have hnc30 := NB137_135.out
      have hcz31 := cz2 BK135.out
      have hfz31 := blk_frozen BK135.out
      have hnb32 := NB137_134.out
      have hnc32 := NB134_137.out
      have hcz33 := cz8 BK137.out
      have hfz33 := blk_frozen BK137.out
      go_wp2
      go_roundg kj8
      case measure => have := HK1.out; have := HJ8.out; omega
      case rel => exact ⟨(wrap64 (x12_1 + 1)), (wrap64 (ba0 + ((rd_T44 l0 x12_1).f4))), (ba1), (by first | rfl | (simp; done) | (simp [*]; done)), H', ⟨by have := HK1.out; have := HJ8.out; omega⟩, ⟨by (with_reducible repeat (first | refine blk_drewN ?_ _ | refine blk_drew ?_ | refine blk_alloc ?_ _)); refine blk_far ?_ NB134_135.out _; exact bU23 BK134.out⟩, ⟨by (with_reducible repeat (first | refine blk_drewN ?_ _ | refine blk_drew ?_ | refine blk_alloc ?_ _)); refine blk_put (cs := #[.int .i64 ba0, .int .i64 ba1]) ?_ 0 _ rfl; exact bU23 BK135.out⟩, ⟨by repeat (first | (with_reducible first | exact HB.out | apply below_alloc | apply pw_below_drewN | apply below_drew1 | refine below_set ?_ (Aside0.out (by assumption))) | exact HB.out)⟩⟩
     rw [if_pos c23] at H
     have c23b0 : (((rd_T44 l0 x12_1).f0) == a1) = true := beq_iff_eq.mpr c23
     have c23b1 : (((rd_T44 l0 x12_1).f0) != a1) = false := bne_eq_false_iff_eq.mpr c23
     clear c23
     have H' := Aside0.mk H
     clear H
     have hnb24 := NB135_134.out
     have hnc24 := NB134_135.out
     have hnb25 := NB135_137.out
     have hnc25 := NB137_135.out
     have hcz26 := cz2 BK135.out
     have hfz26 := blk_frozen BK135.out
     have hnb27 := NB137_134.out
     have hnc27 := NB134_137.out
     have hcz28 := cz8 BK137.out
     have hfz28 := blk_frozen BK137.out
     go_wp2
     go_roundg kj8
     case measure => have := HK1.out; have := HJ8.out; omega
     case rel => exact ⟨(wrap64 (x12_1 + 1)), (wrap64 (ba0 + ((rd_T44 l0 x12_1).f4))), (wrap64 (ba1 + ((rd_T44 l0 x12_1).f4))), (by first | rfl | (simp; done) | (simp [*]; done)), H', ⟨by have := HK1.out; have := HJ8.out; omega⟩, ⟨by (with_reducible repeat (first | refine blk_drewN ?_ _ | refine blk_drew ?_ | refine blk_alloc ?_ _)); refine blk_far ?_ NB134_135.out _; (with_reducible repeat (first | refine blk_drewN ?_ _ | refine blk_drew ?_ | refine blk_alloc ?_ _)); refine blk_far ?_ NB134_135.out _; exact bU23 BK134.out⟩, ⟨by (with_reducible repeat (first | refine blk_drewN ?_ _ | refine blk_drew ?_ | refine blk_alloc ?_ _)); refine blk_put (cs := #[.int .i64 (wrap64 (ba0 + ((rd_T44 l0 x12_1).f4))), .int .i64 ba1]) ?_ 1 _ rfl; (with_reducible repeat (first | refine blk_drewN ?_ _ | refine blk_drew ?_ | refine blk_alloc ?_ _)); refine blk_put (cs := #[.int .i64 ba0, .int .i64 ba1]) ?_ 0 _ rfl; exact bU23 BK135.out⟩, ⟨by repeat (first | (with_reducible first | exact HB.out | apply below_alloc | apply pw_below_drewN | apply below_drew1 | refine below_set ?_ (Aside0.out (by assumption))) | exact HB.out)⟩⟩end Go.Proofs.Ytepffabkcbfejaa.PEndingSteps
