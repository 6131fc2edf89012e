-- Written by a program of this repository (wip/tools/myprint.py over the print of the kit): contracts and rows.
import Derived.Test.YtepffabkcbfejaaPEndingStepsx0
namespace Go.Proofs.Ytepffabkcbfejaa.PEndingSteps
open Go.RowKit Go.Proofs.YtepffabkcbfejaaW.PrintWords Go.Proofs.YtepffabkcbfejaaW.PrintLast Go.Proofs.YtepffabkcbfejaaW.PrintMore
attribute [local go_sem] max2_int min2_int max_two min_two max_three min_three max_four min_four   -- for this text's walks alone
set_option linter.unusedVariables false
set_option linter.unusedSimpArgs false

/-! ### ending_split: function 55 -/
theorem print_take_succ {α : Type} (l : List α) (d : α) (i : Int) (h0 : 0 ≤ i) (h : i < l.length) : l.take (i + 1).toNat = l.take i.toNat ++ [l.getD i.toNat d] := by
  have e : (i + 1).toNat = i.toNat + 1 := by omega
  rw [e, List.take_succ_eq_append_getElem (by omega), List.getD_eq_getElem?_getD, List.getElem?_eq_getElem (by omega)]; rfl

def ending_over (t : Int) (x : S44) : Bool := decide (t ≤ x.f6)
def ending_between (a b : Int) (x : S44) : Bool := (x.f0 == a && x.f1 == b) || (x.f0 == b && x.f1 == a)
def ending_keeps (q : Int) (x : S44) : Bool := x.f1 == q
def ending_owns (q : Int) (x : S44) : Bool := x.f0 == q


/-! ### ending_Culprit: function 20 -/
theorem ending_at_keeps (q : Int) (x : S44) (w : World) :
    Calls Try.prog 57 #[.int .i64 q, .agg #[.int .i64 x.f0, .int .i64 x.f1, .int .i64 x.f2, .int .i64 x.f3, .int .i64 x.f4, .int .i64 x.f5, .int .i64 x.f6, .bool x.f7]] w fun e w' => e = .returned (.bool ((ending_keeps q) x)) ∧ Below w.heap.size w w' := by
  go_enter Try.func57, Try.ntmps57
  go_wp2
  go_ret
  exact ⟨rfl, below_alloc (Below.refl _ _) _⟩

set_option maxHeartbeats 4000000 in
set_option maxRecDepth 100000 in
theorem ending_split_keeps (A0 : Option Addr) (c0 : Nat) (l0 : List S44) (q : Int) (w : World) (hr0 : Kd.C k44 w A0 l0.length l0) (hc0 : l0.length ≤ c0) (hl : l0.length < 2199023255552) :
  Calls Try.prog 55 #[.slice A0 l0.length c0, .func (.func 57) #[.int .i64 q] #[]] w fun e w' => ∃ v0_ v1_ : Value, e = .returned (.tuple #[v0_, v1_]) ∧ Kd.R k44 44 w' w.heap.size (fun k_ => some k_ ≠ (v1_ : Value).ownBlock) v0_ (l0.filter (ending_keeps q)) ∧ Kd.R k44 44 w' w.heap.size (fun k_ => some k_ ≠ (v0_ : Value).ownBlock) v1_ (l0.filter (fun x => !((ending_keeps q) x))) ∧ Below w.heap.size w w' := by
 have hu := Try.underlying44
 have HR0 := Aside0.mk hr0
 
 clear hr0
 go_enter Try.func55, Try.ntmps55
 go_wp2
 go_loopw [4, 5, 10] (fun v4 v5 v10 w' => ∃ i : Int, 0 ≤ i ∧ i ≤ l0.length ∧ v10 = .int .i64 i ∧ Aside0 (Kd.R k44 44 w' w.heap.size (fun k_ => some k_ ≠ (v5 : Value).ownBlock) v4 ((l0.take i.toNat).filter (ending_keeps q))) ∧ Aside0 (Kd.R k44 44 w' w.heap.size (fun k_ => some k_ ≠ (v4 : Value).ownBlock) v5 ((l0.take i.toNat).filter (fun x => !((ending_keeps q) x)))) ∧ Aside0 (Below w.heap.size w w')) (fun _ _ v10 _ => l0.length - (intOf v10).toNat)
 case atStart => exact ⟨0, by omega, by omega, rfl, ⟨Kd.R_nil _ _ _ _ _⟩, ⟨Kd.R_nil _ _ _ _ _⟩, ⟨Below.refl _ _⟩⟩
 case round =>
  obtain ⟨i, hi0, hi, rfl, HO4, HO5, HB⟩ := hrel
  by_cases hlt : i < (l0.length : Int)
  case neg =>
   go_wp2
   go_ret2
   rw [List.take_of_length_le (by omega)] at HO4 HO5
   exact ⟨_, _, rfl, HO4.out, HO5.out, HB.out⟩


  obtain ⟨ad, e0, h0, h1, h2, h3, h4, h5, h6, h7⟩ := at_T44 HR0.out i hi0 hlt
  cases e0
  obtain ⟨x, hx⟩ : ∃ x, x = rd_T44 l0 i := ⟨_, rfl⟩
  rw [← hx] at h0 h1 h2 h3 h4 h5 h6 h7
  have HX := Aside0.mk hx
  clear hx
  replace h0 := (HB.out.cell (World.block_lt_of_cell? w _ h0)).trans h0
  replace h1 := (HB.out.cell (World.block_lt_of_cell? w _ h1)).trans h1
  replace h2 := (HB.out.cell (World.block_lt_of_cell? w _ h2)).trans h2
  replace h3 := (HB.out.cell (World.block_lt_of_cell? w _ h3)).trans h3
  replace h4 := (HB.out.cell (World.block_lt_of_cell? w _ h4)).trans h4
  replace h5 := (HB.out.cell (World.block_lt_of_cell? w _ h5)).trans h5
  replace h6 := (HB.out.cell (World.block_lt_of_cell? w _ h6)).trans h6
  replace h7 := (HB.out.cell (World.block_lt_of_cell? w _ h7)).trans h7
  go_wp2_with fail
  refine (ending_at_keeps q x _).mono ?_
  rintro e w2 ⟨rfl, hb0⟩
  have hblk := (hb0.block wr.heap.size (by simp)).trans (blk_new wr (.cells #[.int .i64 x.f0, .int .i64 x.f1, .int .i64 x.f2, .int .i64 x.f3, .int .i64 x.f4, .int .i64 x.f5, .int .i64 x.f6, .bool x.f7] 44 (0, 0)))
  have c0_ := blk_cell hblk 0; have c1_ := blk_cell hblk 1; have c2_ := blk_cell hblk 2; have c3_ := blk_cell hblk 3; have c4_ := blk_cell hblk 4; have c5_ := blk_cell hblk 5; have c6_ := blk_cell hblk 6; have c7_ := blk_cell hblk 7
  have HB2 := Aside0.mk ((below_alloc (Below.refl wr.heap.size wr) (.cells #[.int .i64 x.f0, .int .i64 x.f1, .int .i64 x.f2, .int .i64 x.f3, .int .i64 x.f4, .int .i64 x.f5, .int .i64 x.f6, .bool x.f7] 44)).trans (hb0.mono (by simp)))
  have HB1 := Aside0.mk (below_step HB.out HB2.out)
  clear hb0 hblk h0 h1 h2 h3 h4 h5 h6 h7
  have HL : Aside0 ((((l0.take i.toNat).filter (ending_keeps q)).length + 1) * 64 ≤ 140737488355328 ∧ (((l0.take i.toNat).filter (fun x => !((ending_keeps q) x))).length + 1) * 64 ≤ 140737488355328) := ⟨by have := List.length_filter_le (ending_keeps q) (l0.take i.toNat); have := List.length_filter_le (fun x => !((ending_keeps q) x)) (l0.take i.toNat); have := List.length_take_le i.toNat l0; omega⟩
  cases hp : ((ending_keeps q) x)
  ·have HL := Aside0.mk HL.out.2
   have HT : Aside0 ((l0.take (i + 1).toNat).filter (ending_keeps q) = (l0.take i.toNat).filter (ending_keeps q)) := ⟨by rw [print_take_succ l0 z44 i hi0 hlt, List.filter_append]; show _ ++ List.filter _ [rd_T44 l0 i] = _; rw [← HX.out]; simp [hp]⟩
   have HF : Aside0 ((l0.take (i + 1).toNat).filter (fun x => !((ending_keeps q) x)) = (l0.take i.toNat).filter (fun x => !((ending_keeps q) x)) ++ [x]) := ⟨by rw [print_take_succ l0 z44 i hi0 hlt, List.filter_append]; show _ ++ List.filter _ [rd_T44 l0 i] = _; rw [← HX.out]; simp [hp]⟩
   try (simp only [] at hp)
   go_wp2_with (at_builtin; refine Kd.R_append k44 (w0 := w) w.heap.size rfl (.tmp 21) (.tmp 23) 26 44 (.agg #[(.int .i64 0), (.int .i64 0), (.int .i64 0), (.int .i64 0), (.int .i64 0), (.int .i64 0), (.int .i64 0), (.bool false)]) 64 rfl Try.underlying26 info44 rfl (by decide) (by omega) u5 _ x [.int .i64 x.f0, .int .i64 x.f1, .int .i64 x.f2, .int .i64 x.f3, .int .i64 x.f4, .int .i64 x.f5, .int .i64 x.f6, .bool x.f7] (fun k_ => some k_ ≠ (u4 : Value).ownBlock) (fun _ => False) rfl rfl (k44_mkM _ _ _ x) (fun _ hk => hk.elim) (fun k_ hk => Kd.fresh' (Kd.R_lt (Kd.R_below HO4.out HB2.out)) k_ hk) (Kd.R_below HO5.out HB2.out) HB1.out HB1.out.size ?aL ?_; (case aL => exact HL.out); intro v1 w3 ho hb hg hat; have HOa := Aside0.mk (Kd.R_after (ok := (fun _ => True)) (Kd.R_mono (Kd.R_below HO4.out HB2.out) (fun _ hk => ⟨trivial, hk⟩)) hg hat); have HOb := Aside0.mk ho; have HBb := Aside0.mk hb; clear ho hb hg hat)
   go_roundw
   case rel => exact ⟨i + 1, by omega, by omega, by go_num, ⟨by rw [HT.out]; exact Kd.R_mono HOa.out (fun _ hk => hk.2)⟩, ⟨by rw [HF.out]; exact HOb.out⟩, ⟨HBb.out⟩⟩
   case measure => simp [intOf]; omega

  ·have HL := Aside0.mk HL.out.1
   have HT : Aside0 ((l0.take (i + 1).toNat).filter (ending_keeps q) = (l0.take i.toNat).filter (ending_keeps q) ++ [x]) := ⟨by rw [print_take_succ l0 z44 i hi0 hlt, List.filter_append]; show _ ++ List.filter _ [rd_T44 l0 i] = _; rw [← HX.out]; simp [hp]⟩
   have HF : Aside0 ((l0.take (i + 1).toNat).filter (fun x => !((ending_keeps q) x)) = (l0.take i.toNat).filter (fun x => !((ending_keeps q) x))) := ⟨by rw [print_take_succ l0 z44 i hi0 hlt, List.filter_append]; show _ ++ List.filter _ [rd_T44 l0 i] = _; rw [← HX.out]; simp [hp]⟩
   try (simp only [] at hp)
   go_wp2_with (at_builtin; refine Kd.R_append k44 (w0 := w) w.heap.size rfl (.tmp 17) (.tmp 19) 26 44 (.agg #[(.int .i64 0), (.int .i64 0), (.int .i64 0), (.int .i64 0), (.int .i64 0), (.int .i64 0), (.int .i64 0), (.bool false)]) 64 rfl Try.underlying26 info44 rfl (by decide) (by omega) u4 _ x [.int .i64 x.f0, .int .i64 x.f1, .int .i64 x.f2, .int .i64 x.f3, .int .i64 x.f4, .int .i64 x.f5, .int .i64 x.f6, .bool x.f7] (fun k_ => some k_ ≠ (u5 : Value).ownBlock) (fun _ => False) rfl rfl (k44_mkM _ _ _ x) (fun _ hk => hk.elim) (fun k_ hk => Kd.fresh' (Kd.R_lt (Kd.R_below HO5.out HB2.out)) k_ hk) (Kd.R_below HO4.out HB2.out) HB1.out HB1.out.size ?aL ?_; (case aL => exact HL.out); intro v1 w3 ho hb hg hat; have HOa := Aside0.mk (Kd.R_after (ok := (fun _ => True)) (Kd.R_mono (Kd.R_below HO5.out HB2.out) (fun _ hk => ⟨trivial, hk⟩)) hg hat); have HOb := Aside0.mk ho; have HBb := Aside0.mk hb; clear ho hb hg hat)
   go_roundw
   case rel => exact ⟨i + 1, by omega, by omega, by go_num, ⟨by rw [HT.out]; exact HOb.out⟩, ⟨by rw [HF.out]; exact Kd.R_mono HOa.out (fun _ hk => hk.2)⟩, ⟨HBb.out⟩⟩
   case measure => simp [intOf]; omega
theorem ending_at_owns (q : Int) (x : S44) (w : World) :
    Calls Try.prog 58 #[.int .i64 q, .agg #[.int .i64 x.f0, .int .i64 x.f1, .int .i64 x.f2, .int .i64 x.f3, .int .i64 x.f4, .int .i64 x.f5, .int .i64 x.f6, .bool x.f7]] w fun e w' => e = .returned (.bool ((ending_owns q) x)) ∧ Below w.heap.size w w' := by
  go_enter Try.func58, Try.ntmps58
  go_wp2
  go_ret
  exact ⟨rfl, below_alloc (Below.refl _ _) _⟩

set_option maxHeartbeats 4000000 in
set_option maxRecDepth 100000 in
theorem ending_split_owns (A0 : Option Addr) (c0 : Nat) (l0 : List S44) (q : Int) (w : World) (hr0 : Kd.C k44 w A0 l0.length l0) (hc0 : l0.length ≤ c0) (hl : l0.length < 2199023255552) :
  Calls Try.prog 55 #[.slice A0 l0.length c0, .func (.func 58) #[.int .i64 q] #[]] w fun e w' => ∃ v0_ v1_ : Value, e = .returned (.tuple #[v0_, v1_]) ∧ Kd.R k44 44 w' w.heap.size (fun k_ => some k_ ≠ (v1_ : Value).ownBlock) v0_ (l0.filter (ending_owns q)) ∧ Kd.R k44 44 w' w.heap.size (fun k_ => some k_ ≠ (v0_ : Value).ownBlock) v1_ (l0.filter (fun x => !((ending_owns q) x))) ∧ Below w.heap.size w w' := by
 have hu := Try.underlying44
 have HR0 := Aside0.mk hr0
 
 clear hr0
 go_enter Try.func55, Try.ntmps55
 go_wp2
 go_loopw [4, 5, 10] (fun v4 v5 v10 w' => ∃ i : Int, 0 ≤ i ∧ i ≤ l0.length ∧ v10 = .int .i64 i ∧ Aside0 (Kd.R k44 44 w' w.heap.size (fun k_ => some k_ ≠ (v5 : Value).ownBlock) v4 ((l0.take i.toNat).filter (ending_owns q))) ∧ Aside0 (Kd.R k44 44 w' w.heap.size (fun k_ => some k_ ≠ (v4 : Value).ownBlock) v5 ((l0.take i.toNat).filter (fun x => !((ending_owns q) x)))) ∧ Aside0 (Below w.heap.size w w')) (fun _ _ v10 _ => l0.length - (intOf v10).toNat)
 case atStart => exact ⟨0, by omega, by omega, rfl, ⟨Kd.R_nil _ _ _ _ _⟩, ⟨Kd.R_nil _ _ _ _ _⟩, ⟨Below.refl _ _⟩⟩
 case round =>
  obtain ⟨i, hi0, hi, rfl, HO4, HO5, HB⟩ := hrel
  by_cases hlt : i < (l0.length : Int)
  case neg =>
   go_wp2
   go_ret2
   rw [List.take_of_length_le (by omega)] at HO4 HO5
   exact ⟨_, _, rfl, HO4.out, HO5.out, HB.out⟩


  obtain ⟨ad, e0, h0, h1, h2, h3, h4, h5, h6, h7⟩ := at_T44 HR0.out i hi0 hlt
  cases e0
  obtain ⟨x, hx⟩ : ∃ x, x = rd_T44 l0 i := ⟨_, rfl⟩
  rw [← hx] at h0 h1 h2 h3 h4 h5 h6 h7
  have HX := Aside0.mk hx
  clear hx
  replace h0 := (HB.out.cell (World.block_lt_of_cell? w _ h0)).trans h0
  replace h1 := (HB.out.cell (World.block_lt_of_cell? w _ h1)).trans h1
  replace h2 := (HB.out.cell (World.block_lt_of_cell? w _ h2)).trans h2
  replace h3 := (HB.out.cell (World.block_lt_of_cell? w _ h3)).trans h3
  replace h4 := (HB.out.cell (World.block_lt_of_cell? w _ h4)).trans h4
  replace h5 := (HB.out.cell (World.block_lt_of_cell? w _ h5)).trans h5
  replace h6 := (HB.out.cell (World.block_lt_of_cell? w _ h6)).trans h6
  replace h7 := (HB.out.cell (World.block_lt_of_cell? w _ h7)).trans h7
  go_wp2_with fail
  refine (ending_at_owns q x _).mono ?_
  rintro e w2 ⟨rfl, hb0⟩
  have hblk := (hb0.block wr.heap.size (by simp)).trans (blk_new wr (.cells #[.int .i64 x.f0, .int .i64 x.f1, .int .i64 x.f2, .int .i64 x.f3, .int .i64 x.f4, .int .i64 x.f5, .int .i64 x.f6, .bool x.f7] 44 (0, 0)))
  have c0_ := blk_cell hblk 0; have c1_ := blk_cell hblk 1; have c2_ := blk_cell hblk 2; have c3_ := blk_cell hblk 3; have c4_ := blk_cell hblk 4; have c5_ := blk_cell hblk 5; have c6_ := blk_cell hblk 6; have c7_ := blk_cell hblk 7
  have HB2 := Aside0.mk ((below_alloc (Below.refl wr.heap.size wr) (.cells #[.int .i64 x.f0, .int .i64 x.f1, .int .i64 x.f2, .int .i64 x.f3, .int .i64 x.f4, .int .i64 x.f5, .int .i64 x.f6, .bool x.f7] 44)).trans (hb0.mono (by simp)))
  have HB1 := Aside0.mk (below_step HB.out HB2.out)
  clear hb0 hblk h0 h1 h2 h3 h4 h5 h6 h7
  have HL : Aside0 ((((l0.take i.toNat).filter (ending_owns q)).length + 1) * 64 ≤ 140737488355328 ∧ (((l0.take i.toNat).filter (fun x => !((ending_owns q) x))).length + 1) * 64 ≤ 140737488355328) := ⟨by have := List.length_filter_le (ending_owns q) (l0.take i.toNat); have := List.length_filter_le (fun x => !((ending_owns q) x)) (l0.take i.toNat); have := List.length_take_le i.toNat l0; omega⟩
  cases hp : ((ending_owns q) x)
  ·have HL := Aside0.mk HL.out.2
   have HT : Aside0 ((l0.take (i + 1).toNat).filter (ending_owns q) = (l0.take i.toNat).filter (ending_owns q)) := ⟨by rw [print_take_succ l0 z44 i hi0 hlt, List.filter_append]; show _ ++ List.filter _ [rd_T44 l0 i] = _; rw [← HX.out]; simp [hp]⟩
   have HF : Aside0 ((l0.take (i + 1).toNat).filter (fun x => !((ending_owns q) x)) = (l0.take i.toNat).filter (fun x => !((ending_owns q) x)) ++ [x]) := ⟨by rw [print_take_succ l0 z44 i hi0 hlt, List.filter_append]; show _ ++ List.filter _ [rd_T44 l0 i] = _; rw [← HX.out]; simp [hp]⟩
   try (simp only [] at hp)
   go_wp2_with (at_builtin; refine Kd.R_append k44 (w0 := w) w.heap.size rfl (.tmp 21) (.tmp 23) 26 44 (.agg #[(.int .i64 0), (.int .i64 0), (.int .i64 0), (.int .i64 0), (.int .i64 0), (.int .i64 0), (.int .i64 0), (.bool false)]) 64 rfl Try.underlying26 info44 rfl (by decide) (by omega) u5 _ x [.int .i64 x.f0, .int .i64 x.f1, .int .i64 x.f2, .int .i64 x.f3, .int .i64 x.f4, .int .i64 x.f5, .int .i64 x.f6, .bool x.f7] (fun k_ => some k_ ≠ (u4 : Value).ownBlock) (fun _ => False) rfl rfl (k44_mkM _ _ _ x) (fun _ hk => hk.elim) (fun k_ hk => Kd.fresh' (Kd.R_lt (Kd.R_below HO4.out HB2.out)) k_ hk) (Kd.R_below HO5.out HB2.out) HB1.out HB1.out.size ?aL ?_; (case aL => exact HL.out); intro v1 w3 ho hb hg hat; have HOa := Aside0.mk (Kd.R_after (ok := (fun _ => True)) (Kd.R_mono (Kd.R_below HO4.out HB2.out) (fun _ hk => ⟨trivial, hk⟩)) hg hat); have HOb := Aside0.mk ho; have HBb := Aside0.mk hb; clear ho hb hg hat)
   go_roundw
   case rel => exact ⟨i + 1, by omega, by omega, by go_num, ⟨by rw [HT.out]; exact Kd.R_mono HOa.out (fun _ hk => hk.2)⟩, ⟨by rw [HF.out]; exact HOb.out⟩, ⟨HBb.out⟩⟩
   case measure => simp [intOf]; omega

  ·have HL := Aside0.mk HL.out.1
   have HT : Aside0 ((l0.take (i + 1).toNat).filter (ending_owns q) = (l0.take i.toNat).filter (ending_owns q) ++ [x]) := ⟨by rw [print_take_succ l0 z44 i hi0 hlt, List.filter_append]; show _ ++ List.filter _ [rd_T44 l0 i] = _; rw [← HX.out]; simp [hp]⟩
   have HF : Aside0 ((l0.take (i + 1).toNat).filter (fun x => !((ending_owns q) x)) = (l0.take i.toNat).filter (fun x => !((ending_owns q) x))) := ⟨by rw [print_take_succ l0 z44 i hi0 hlt, List.filter_append]; show _ ++ List.filter _ [rd_T44 l0 i] = _; rw [← HX.out]; simp [hp]⟩
   try (simp only [] at hp)
   go_wp2_with (at_builtin; refine Kd.R_append k44 (w0 := w) w.heap.size rfl (.tmp 17) (.tmp 19) 26 44 (.agg #[(.int .i64 0), (.int .i64 0), (.int .i64 0), (.int .i64 0), (.int .i64 0), (.int .i64 0), (.int .i64 0), (.bool false)]) 64 rfl Try.underlying26 info44 rfl (by decide) (by omega) u4 _ x [.int .i64 x.f0, .int .i64 x.f1, .int .i64 x.f2, .int .i64 x.f3, .int .i64 x.f4, .int .i64 x.f5, .int .i64 x.f6, .bool x.f7] (fun k_ => some k_ ≠ (u5 : Value).ownBlock) (fun _ => False) rfl rfl (k44_mkM _ _ _ x) (fun _ hk => hk.elim) (fun k_ hk => Kd.fresh' (Kd.R_lt (Kd.R_below HO5.out HB2.out)) k_ hk) (Kd.R_below HO4.out HB2.out) HB1.out HB1.out.size ?aL ?_; (case aL => exact HL.out); intro v1 w3 ho hb hg hat; have HOa := Aside0.mk (Kd.R_after (ok := (fun _ => True)) (Kd.R_mono (Kd.R_below HO5.out HB2.out) (fun _ hk => ⟨trivial, hk⟩)) hg hat); have HOb := Aside0.mk ho; have HBb := Aside0.mk hb; clear ho hb hg hat)
   go_roundw
   case rel => exact ⟨i + 1, by omega, by omega, by go_num, ⟨by rw [HT.out]; exact HOb.out⟩, ⟨by rw [HF.out]; exact Kd.R_mono HOa.out (fun _ hk => hk.2)⟩, ⟨HBb.out⟩⟩
   case measure => simp [intOf]; omega
def ending_Culprit.f (l0 : List S44) (a1 : Int) (a2 : Int) (a3 : Int) : Option ((List S44) × Int × Int × (List S44) × (List S44)) := if l0.length < 2199023255552 then some ((l0.filter (fun x => !(ending_keeps a1 x))).filter (fun x => !(ending_owns a1 x)), a1, wrap64 (a2 + a3), l0.filter (ending_keeps a1), (l0.filter (fun x => !(ending_keeps a1 x))).filter (ending_owns a1)) else none
theorem ending_R_set4 {α : Type} {d : Kd α} {e t g : Nat} {w : World} {base : Nat} {ok : Nat → Prop} {v : Value} {xs : List α} {cs : Array Value} (h : d.R e w base ok v xs) (hb : w.heap[g]? = some (.cells cs t (0, 0))) (ht : ∀ q, q ∈ e :: d.E → q ≠ t) (u0 u1 u2 u3 : Value) :
    d.R e ((((w.setCell ⟨g, 0, none⟩ u0).setCell ⟨g, 1, none⟩ u1).setCell ⟨g, 2, none⟩ u2).setCell ⟨g, 3, none⟩ u3) base ok v xs :=
  Kd.R_set (Kd.R_set (Kd.R_set (Kd.R_set h hb ht 0 u0) (blk_set hb 0 u0) ht 1 u1) (blk_set (blk_set hb 0 u0) 1 u1) ht 2 u2) (blk_set (blk_set (blk_set hb 0 u0) 1 u1) 2 u2) ht 3 u3
set_option maxHeartbeats 4000000 in
set_option maxRecDepth 100000 in
theorem ending_Culprit.calls (A0 : Option Addr) (c0 : Nat) (l0 : List S44) (a1 : Int) (a2 : Int) (a3 : Int) (r1 : List S44) (r2 : Int) (r3 : Int) (r4 : List S44) (r5 : List S44) (w : World) (hr0 : Kd.C k44 w A0 l0.length l0) (hc0 : l0.length ≤ c0) (h : ending_Culprit.f l0 a1 a2 a3 = some (r1, r2, r3, r4, r5)) :
  Calls Try.prog 20 #[.slice A0 l0.length c0, .int .i64 a1, .int .i64 a2, .int .i64 a3] w fun e w' => ∃ v0_ v3_ v4_ : Value, e = .returned (.tuple #[v0_, .agg #[.int .i64 r2, .int .i64 r3, v3_, v4_]]) ∧ Kd.R k44 44 w' w.heap.size (fun k_ => some k_ ≠ (v3_ : Value).ownBlock ∧ some k_ ≠ (v4_ : Value).ownBlock) v0_ r1 ∧ Kd.R k44 44 w' w.heap.size (fun k_ => some k_ ≠ (v0_ : Value).ownBlock ∧ some k_ ≠ (v4_ : Value).ownBlock) v3_ r4 ∧ Kd.R k44 44 w' w.heap.size (fun k_ => some k_ ≠ (v0_ : Value).ownBlock ∧ some k_ ≠ (v3_ : Value).ownBlock) v4_ r5 ∧ Below w.heap.size w w' := by
 unfold ending_Culprit.f at h
 split at h
 ·rename_i hl
  simp only [Option.some.injEq, Prod.mk.injEq] at h
  obtain ⟨e1, rfl, rfl, e4, e5⟩ := h
  obtain ⟨m, em⟩ : ∃ m, l0.filter (fun x => !(ending_keeps a1 x)) = m := ⟨_, rfl⟩
  have hm : m.length ≤ l0.length := by rw [← em]; exact List.length_filter_le _ _
  rw [em] at e1 e5
  have E1 := Aside0.mk e1
  have E4 := Aside0.mk e4
  have E5 := Aside0.mk e5
  have EM := Aside0.mk em
  clear e1 e4 e5 em
  have HR := Aside0.mk hr0
  clear hr0
  have hu := Try.underlying32
  go_enter Try.func20, Try.ntmps20
  go_wp2_with fail
  have HA := Aside0.mk (blk_new w (.cells #[.int .i64 0, .int .i64 0, .slice none 0 0, .slice none 0 0] 32 (0, 0)))
  refine (ending_split_keeps A0 c0 l0 a1 _ (Kd.C_below HR.out (below_alloc (Below.refl _ _) _)) hc0 hl).mono ?_
  rintro e w1 ⟨v0, v1, rfl, ho0, ho1, hb1⟩
  rw [E4.out] at ho0
  rw [EM.out] at ho1
  obtain ⟨A1, c1, rfl, hc1, hr1⟩ := Kd.R_reads ho1
  have HA1 := Aside0.mk ((hb1.block w.heap.size (by simp)).trans HA.out)
  have HO0 := Aside0.mk ho0
  have HO1 := Aside0.mk ho1
  have HR1 := Aside0.mk hr1
  have HB1 := Aside0.mk hb1
  clear ho0 ho1 hb1 hr1
  go_wp2_with fail
  refine (ending_split_owns A1 c1 _ a1 _ HR1.out hc1 (by omega)).mono ?_
  rintro e w2 ⟨v2, v3, rfl, ho2, ho3, hb2⟩
  rw [E5.out] at ho2
  rw [E1.out] at ho3
  have hA2 := (hb2.block w.heap.size (blk_lt HA1.out)).trans HA1.out
  have c0_ := blk_cell hA2 0; have c1_ := blk_cell hA2 1; have c2_ := blk_cell hA2 2; have c3_ := blk_cell hA2 3
  have f0_ := blk_frozen hA2 0; have f1_ := blk_frozen hA2 1; have f2_ := blk_frozen hA2 2; have f3_ := blk_frozen hA2 3
  have e0_ : ∀ k, some k = v2.ownBlock → w1.heap.size ≤ k := fun k hk => by
   rcases Kd.R_base2 ho2 with h | ⟨b, h, hb⟩
   ·rw [h] at hk; cases hk
   ·rw [h] at hk; injection hk with hk; omega
  have e1_ : ∀ k, some k = v3.ownBlock → w1.heap.size ≤ k := fun k hk => by
   rcases Kd.R_base2 ho3 with h | ⟨b, h, hb⟩
   ·rw [h] at hk; cases hk
   ·rw [h] at hk; injection hk with hk; omega
  have q0 := Kd.R_lower (base' := w.heap.size) (Kd.R_mono (Kd.R_below (Kd.R_bound HO0.out) hb2) (fun k hk => (⟨fun h => by have := e1_ k h; omega, fun h => by have := e0_ k h; omega⟩ : some k ≠ v3.ownBlock ∧ some k ≠ v2.ownBlock))) (by simp)
  obtain ⟨in0, own0⟩ := Kd.R_own HO0.out
  have hsz := HB1.out.size
  have q2 := Kd.R_lower (base' := w.heap.size) (Kd.R_mono (Kd.R_new ho2 own0) (fun k hk => (⟨hk.1, hk.2⟩ : some k ≠ v3.ownBlock ∧ some k ≠ v0.ownBlock))) (by simp at hsz; omega)
  have q3 := Kd.R_lower (base' := w.heap.size) (Kd.R_mono (Kd.R_new ho3 own0) (fun k hk => (⟨hk.2, hk.1⟩ : some k ≠ v0.ownBlock ∧ some k ≠ v2.ownBlock))) (by simp at hsz; omega)
  obtain ⟨B0, d0, rfl⟩ := Kd.R_slice q0
  obtain ⟨B2, d2, rfl⟩ := Kd.R_slice q2
  obtain ⟨B3, d3, rfl⟩ := Kd.R_slice q3
  have Q0 := Aside0.mk (ending_R_set4 q0 hA2 (by decide) (.int .i64 a1) (.int .i64 (wrap64 (a2 + a3))) (.slice B0 r4.length d0) (.slice B2 r5.length d2))
  have Q2 := Aside0.mk (ending_R_set4 q2 hA2 (by decide) (.int .i64 a1) (.int .i64 (wrap64 (a2 + a3))) (.slice B0 r4.length d0) (.slice B2 r5.length d2))
  have Q3 := Aside0.mk (ending_R_set4 q3 hA2 (by decide) (.int .i64 a1) (.int .i64 (wrap64 (a2 + a3))) (.slice B0 r4.length d0) (.slice B2 r5.length d2))
  have HBw := Aside0.mk ((below_alloc (Below.refl w.heap.size w) (.cells #[.int .i64 0, .int .i64 0, .slice none 0 0, .slice none 0 0] 32)).trans ((HB1.out.mono (by simp)).trans (hb2.mono (by simp at hsz; omega))))
  have HC2 := Aside0.mk hA2
  clear ho2 ho3 hb2 hA2 q0 q2 q3 e0_ e1_ own0 HO0 HO1 hsz
  go_wp2
  refine bodyPost_ret (results_tc rfl _ _ w.heap.size 32 #[.int .i64 a1, .int .i64 (wrap64 (a2 + a3)), .slice B0 r4.length d0, .slice B2 r5.length d2] (0, 0) _ rfl (by exact blk_set (blk_set (blk_set (blk_set HC2.out 0 _) 1 _) 2 _) 3 _) Try.underlying32 rfl (by kernel_rfl)) rfl ?_
  exact ⟨_, _, _, rfl, Kd.R_mono Q3.out (fun _ h => h), Kd.R_mono Q0.out (fun _ h => h), Kd.R_mono Q2.out (fun _ h => h), below_set (below_set (below_set (below_set HBw.out (Nat.le_refl _)) (Nat.le_refl _)) (Nat.le_refl _)) (Nat.le_refl _)⟩
 ·cases h


theorem ending_Culprit.some_ (l : List S44) (p t g : Int) (h : l.length < 2199023255552) : ∃ r1 r2 r3 r4 r5, ending_Culprit.f l p t g = some (r1, r2, r3, r4, r5) ∧ (r1.length ≤ l.length ∧ r4.length ≤ l.length ∧ r5.length ≤ l.length) ∧ r1 = (l.filter (fun x => !(ending_keeps p x))).filter (fun x => !(ending_owns p x)) ∧ r4 = l.filter (ending_keeps p) ∧ r5 = (l.filter (fun x => !(ending_keeps p x))).filter (ending_owns p) ∧ r2 = p ∧ r3 = wrap64 (t + g) :=
  ⟨_, _, _, _, _, if_pos h, ⟨Nat.le_trans (List.length_filter_le _ _) (List.length_filter_le _ _), List.length_filter_le _ _, Nat.le_trans (List.length_filter_le _ _) (List.length_filter_le _ _)⟩, rfl, rfl, rfl, rfl, rfl⟩


/-! ### api_Lease_60: function 60 -/
def api_Lease_60.f (l0 : List S44) : Option (List S44) := if l0.length < 2199023255552 then some l0 else none
set_option maxHeartbeats 4000000 in
set_option maxRecDepth 100000 in
theorem api_Lease_60.calls (A0 : Option Addr) (c0 : Nat) (l0 : List S44) (r : List S44) (w : World) (hr0 : Kd.C k44 w A0 l0.length l0) (hc0 : l0.length ≤ c0) (h : api_Lease_60.f l0 = some r) :
    Calls Try.prog 60 #[.slice A0 l0.length c0] w fun e w' => ∃ v0_ : Value, e = .returned (v0_) ∧ Kd.R k44 44 w' w.heap.size (fun _ => True) v0_ r ∧ Below w.heap.size w w' := by
  unfold api_Lease_60.f at h
  split at h
  · rename_i hl
    obtain rfl := Option.some.inj h
    have HR := Aside0.mk hr0
    have HL := Aside0.mk hl
    clear hr0 h hl
    cases A0 with
    | none =>
      have hn : l0 = [] := by
        rcases Nat.eq_zero_or_pos l0.length with h0 | h0
        · exact List.eq_nil_of_length_eq_zero h0
        · obtain ⟨ad, c, e, _⟩ := Kd.C_get HR.out z44 0 (by omega) (by omega)
          cases e
      subst hn
      have hq : ∀ W : World, (binOp .eql 26 (.slice none 0 c0) (.slice none 0 0)).run Try.prog W = .ok (.bool true) W := fun W => Lib.run_eql_slice_nil W 26 44 none 0 c0 0 0 Try.underlying26
      go_enter Try.func60, Try.ntmps60
      go_wp2
      go_ret
      exact ⟨_, rfl, Kd.R_nil _ _ _ _ _, Below.refl _ _⟩
    | some ad =>
      have hq : ∀ W : World, (binOp .eql 26 (.slice (some ad) l0.length c0) (.slice none 0 0)).run Try.prog W = .ok (.bool false) W := fun W => Lib.run_eql_slice_nil W 26 44 (some ad) l0.length c0 0 0 Try.underlying26
      go_enter Try.func60, Try.ntmps60
      go_wp2_with (first | ((with_reducible refine gate_dst (N := 5) rfl ?_); refine Kd.R_lit k44 _ 44 ?hg (N := 5) ?hd (xs := ([] : List S44)) (inner := []) (ok := fun _ => True) (okp := fun _ => True) ?hr ?hp (fun _ hk => hk) trivial (Below.refl _ _) (Nat.le_refl _) (by simp) ?_; (case hd => rfl); (case hg => rfl); (case hr => first | (go_simp; done) | (go_simp; rfl)); (case hp => exact (Reps.none _ _)); intro v1 w1 ho hb hg_ hnew_; have HO := Aside0.mk ho; have HB := Aside0.mk hb; clear hg_ hnew_ ho hb) | ((with_reducible refine gate_builtin (b := .append) (xs := #[.tmp 5, .tmp 6]) rfl ?_); at_builtin; refine Kd.R_append_rows k44 (w0 := w) w.heap.size rfl (.tmp 5) (.tmp 6) 26 44 (.agg #[(.int .i64 0), (.int .i64 0), (.int .i64 0), (.int .i64 0), (.int .i64 0), (.int .i64 0), (.int .i64 0), (.bool false)]) 64 rfl Try.underlying26 info44 rfl (by decide) (by omega) v1 [] l0 _ _ _ (fun _ => True) (fun _ => False) rfl rfl HO.out (Kd.C_below HR.out HB.out) (fun _ _ h => h) (fun _ h => h.elim) (fun _ _ => trivial) HB.out HB.out.size ?aL ?_; (case aL => have := HL.out; simp; omega); intro v2 w2 ho hb hg hat; have HO2 := Aside0.mk ho; have HB2 := Aside0.mk hb; clear ho hb hg hat))
      go_ret
      exact ⟨_, rfl, HO2.out, HB2.out⟩
  · cases h


/-! ### ending_Lost: function 26 -/
def ending_Lost.f (a0_0 : Int) (a0_1 : Int) (l0_2 : List (S44)) (l0_3 : List (S44)) (a1 : Int) : Option ((List (S44))) := if a1 ≤ a0_1 then (some ([] : List (S44))) else ((api_Lease_60.f l0_2).bind fun t102 => (some t102))
set_option maxHeartbeats 8000000 in
set_option maxRecDepth 100000 in
theorem ending_Lost.calls (a0_0 : Int) (a0_1 : Int) (A0_2 : Option Addr) (c0_2 : Nat) (l0_2 : List (S44)) (A0_3 : Option Addr) (c0_3 : Nat) (l0_3 : List (S44)) (a1 : Int) (r : List (S44)) (w : World) (hr0_2 : Kd.C k44 w A0_2 l0_2.length l0_2) (hc0_2 : l0_2.length ≤ c0_2) (hr0_3 : Kd.C k44 w A0_3 l0_3.length l0_3) (hc0_3 : l0_3.length ≤ c0_3) (h : ending_Lost.f a0_0 a0_1 l0_2 l0_3 a1 = some r) :
  Calls Try.prog 26 #[.agg #[.int .i64 a0_0, .int .i64 a0_1, .slice A0_2 l0_2.length c0_2, .slice A0_3 l0_3.length c0_3], .int .i64 a1] w fun e w' => ∃ v0_ : Value, e = .returned (v0_) ∧ Kd.R k44 44 w' w.heap.size (fun _ => True) v0_ r ∧ Below w.heap.size w w' := by
 have hu32 := Try.underlying32
 have HR0_2 := Aside0.mk hr0_2
 have HC0_2 := Aside0.mk hc0_2
 clear hr0_2 hc0_2
 have HR0_3 := Aside0.mk hr0_3
 have HC0_3 := Aside0.mk hc0_3
 clear hr0_3 hc0_3
 have HB := Aside0.mk (Below.refl w.heap.size w)
 have H : (if a1 ≤ a0_1 then (some ([] : List (S44))) else ((api_Lease_60.f l0_2).bind fun t102 => (some t102))) = some r := h
 clear h
 by_cases c3 : a1 ≤ a0_1
 case pos =>
  rw [if_pos c3] at H
  have c3b0 : decide (a1 ≤ a0_1) = true := decide_eq_true c3
  clear c3
  obtain rfl := Option.some.inj H
  go_enter Try.func26, Try.ntmps26
  go_wp2_with (first | ((with_reducible refine gate_dst (N := 2) rfl ?_); refine box_event ?hg (N := 2) ?hd (cs := #[.int .i64 a0_0, .int .i64 a0_1, .slice A0_2 l0_2.length c0_2, .slice A0_3 l0_3.length c0_3]) (t := 32) ?hr ?_; (case hd => rfl); (case hg => rfl); (case hr => first | (go_simp; done) | (go_simp; rfl)); intro gb101 hg w4 hbox hb; have n0_ := Aside0.mk (below_step (by repeat (first | (with_reducible first | exact HB.out | apply below_alloc | apply pw_below_drewN | apply below_drew1) | exact HB.out)) hb); have n1_ := Aside0.mk (hbox); have n2_ := Aside0.mk ((by rw [hg]; exact (below_size (by repeat (first | (with_reducible first | exact HB.out | apply below_alloc | apply pw_below_drewN | apply below_drew1) | exact HB.out))) : w.heap.size ≤ gb101)); have n3_ := Aside0.mk ((by rw [hg]; exact (below_size (by repeat (first | (with_reducible first | exact HB.out | apply below_alloc | apply pw_below_drewN | apply below_drew1) | exact HB.out))) : w.heap.size ≤ gb101)); clear HB; have HB := n0_; have BK101 := n1_; have GW101 := n2_; have GE101 := n3_; clear n0_ n1_ n2_ n3_; clear hb hbox hg; have hcz5 := cz4 BK101.out; have hfz5 := blk_frozen BK101.out))
  go_ret
  exact ⟨_, by first | rfl | (simp [errW_none, errW_some] <;> rfl) | (simp [*, errW_none, errW_some] <;> rfl), by first | exact Kd.R_nil _ _ _ _ _ | exact Kd.N_nil _ _ _ _ _ | exact Kd.V_nil _ _ _ _ _ | exact Kd.Q_nil _ _ _ _ _ | exact Kd.S_nil _ _ _ _ _, by repeat (first | (with_reducible first | exact HB.out | apply below_alloc | apply pw_below_drewN | apply below_drew1 | refine below_set ?_ GE101.out) | exact HB.out)⟩
 rw [if_neg c3] at H
 have c3b0 : decide (a1 ≤ a0_1) = false := decide_eq_false c3
 clear c3
 replace H := Option.bind_eq_some_iff.mp H
 obtain ⟨t102, A60, H⟩ := H
 replace H : (some t102) = some r := H
 have A6 := Aside0.mk A60
 clear A60
 obtain rfl := Option.some.inj H
 go_enter Try.func26, Try.ntmps26
 go_wp2_with (first | ((with_reducible refine gate_dst (N := 2) rfl ?_); refine box_event ?hg (N := 2) ?hd (cs := #[.int .i64 a0_0, .int .i64 a0_1, .slice A0_2 l0_2.length c0_2, .slice A0_3 l0_3.length c0_3]) (t := 32) ?hr ?_; (case hd => rfl); (case hg => rfl); (case hr => first | (go_simp; done) | (go_simp; rfl)); intro gb101 hg w7 hbox hb; have n0_ := Aside0.mk (below_step (by repeat (first | (with_reducible first | exact HB.out | apply below_alloc | apply pw_below_drewN | apply below_drew1) | exact HB.out)) hb); have n1_ := Aside0.mk (hbox); have n2_ := Aside0.mk ((by rw [hg]; exact (below_size (by repeat (first | (with_reducible first | exact HB.out | apply below_alloc | apply pw_below_drewN | apply below_drew1) | exact HB.out))) : w.heap.size ≤ gb101)); have n3_ := Aside0.mk ((by rw [hg]; exact (below_size (by repeat (first | (with_reducible first | exact HB.out | apply below_alloc | apply pw_below_drewN | apply below_drew1) | exact HB.out))) : w.heap.size ≤ gb101)); clear HB; have HB := n0_; have BK101 := n1_; have GW101 := n2_; have GE101 := n3_; clear n0_ n1_ n2_ n3_; clear hb hbox hg; have hcz8 := cz4 BK101.out; have hfz8 := blk_frozen BK101.out) | ((with_reducible refine gate_callee (f := 60) rfl ?_); refine goesL_ (some 11) rfl rfl Try.func60 (by kernel_rfl) rfl #[.slice A0_2 l0_2.length c0_2] rfl (by (try simp only [List.map_toArray, List.map_cons, List.map_nil]); first | done | rfl | (simp only [List.length_drop, List.length_take]; rfl)) ?_; (with_reducible refine (api_Lease_60.calls _ _ l0_2 t102 _ ?side1 ?side2 A6.out).mono ?_); (case side1 => repeat (first | exact (Kd.C_below HR0_2.out HB.out) | (with_reducible refine Kd.C_alloc ?_ _) | (with_reducible refine Kd.C_drewN ?_ _) | (with_reducible refine Kd.C_drew ?_))); (case side2 => exact HC0_2.out); rintro e w9 ⟨v103, rfl, ho0, hb⟩; refine ⟨_, rfl, ?_⟩; have n0_ := Aside0.mk (Kd.R_lower ho0 (below_size (by repeat (first | (with_reducible first | exact HB.out | apply below_alloc | apply pw_below_drewN | apply below_drew1 | refine below_set ?_ GE101.out) | exact HB.out)))); have n1_ := Aside0.mk (blk_below (g := gb101) (o := .cells #[.int .i64 a0_0, .int .i64 a0_1, .slice A0_2 l0_2.length c0_2, .slice A0_3 l0_3.length c0_3] 32 (0, 0)) (by (with_reducible repeat (first | refine blk_drewN ?_ _ | refine blk_drew ?_ | refine blk_alloc ?_ _)); exact BK101.out) hb); have n2_ := Aside0.mk (below_step (by repeat (first | (with_reducible first | exact HB.out | apply below_alloc | apply pw_below_drewN | apply below_drew1 | refine below_set ?_ GE101.out) | exact HB.out)) hb); clear BK101; clear HB; have HO104 := n0_; have BK101 := n1_; have HB := n2_; clear n0_ n1_ n2_; (try clear hb); (try clear hb2); (try clear hk); (try clear hi); (try clear hgw); (try clear ho0)))
 go_ret
 exact ⟨_, by first | rfl | (simp [errW_none, errW_some] <;> rfl) | (simp [*, errW_none, errW_some] <;> rfl), by (with_reducible repeat (first | apply Kd.R_alloc | apply Kd.R_drewN | apply Kd.R_drew)); exact HO104.out, by repeat (first | (with_reducible first | exact HB.out | apply below_alloc | apply pw_below_drewN | apply below_drew1 | refine below_set ?_ GE101.out) | exact HB.out)⟩

/-! ### storagebarterlaw26_sane: function 15 -/
def storagebarterlaw26_sane.f  : Option (Bool) := (ending_Culprit.f (([(⟨1, 2, 0, 0, 0, 0, 0, false⟩ : S44), (⟨2, 3, 0, 0, 0, 0, 0, false⟩ : S44), (⟨1, 3, 0, 0, 0, 0, 0, false⟩ : S44)] : List (S44))) 2 5 4).bind fun bt108 => (if (bt108.1.length : Int) = 1 then (if (bt108.2.2.2.1.length : Int) = 1 then (if (bt108.2.2.2.2.length : Int) = 1 then (if bt108.2.2.1 = 9 then ((ending_Lost.f bt108.2.1 bt108.2.2.1 bt108.2.2.2.1 bt108.2.2.2.2 9).bind fun t120 => (if (t120.length : Int) = 0 then ((ending_Lost.f bt108.2.1 bt108.2.2.1 bt108.2.2.2.1 bt108.2.2.2.2 10).bind fun t123 => (some ((t123.length : Int) == 1))) else (some false))) else (some false)) else (some false)) else (some false)) else (some false))
class Up15 (W W1 : World) : Prop where
  below : Below W.heap.size W W1
instance (W : World) : Up15 W W := ⟨Below.refl _ _⟩
instance (W W1 : World) [h : Up15 W W1] (o : Obj) : Up15 W (W1.alloc o) := ⟨below_alloc h.below o⟩
instance (W W1 : World) [h : Up15 W W1] : Up15 W W1.drew := ⟨h.below.trans (below_drew (Below.refl _ _))⟩
instance (W W1 : World) [h : Up15 W W1] (n : Nat) : Up15 W (W1.drewN n) := ⟨pw_below_drewN h.below n⟩
theorem bU15 {W W1 : World} {g : Nat} {o : Obj} [u : Up15 W W1] (h : W.heap[g]? = some o) : W1.heap[g]? = some o := (u.below.block g (blk_lt h)).trans h
theorem hU15 {w W W1 : World} [u : Up15 W W1] (h : Below w.heap.size w W) : Below w.heap.size w W1 := below_step h u.below
theorem cU15 {α : Type} {d : Kd α} {A : Option Addr} {n : Nat} {xs : List α} {W W1 : World} [u : Up15 W W1] (h : d.C W A n xs) : d.C W1 A n xs := Kd.C_below h u.below
theorem rU15 {α : Type} {d : Kd α} {e base : Nat} {ok : Nat → Prop} {v : Value} {xs : List α} {W W1 : World} [u : Up15 W W1] (h : d.R e W base ok v xs) : d.R e W1 base ok v xs := Kd.R_below h u.below
set_option maxHeartbeats 8000000 in
set_option maxRecDepth 100000 in
theorem storagebarterlaw26_sane.calls  (r : Bool) (w : World) (h : storagebarterlaw26_sane.f  = some r) :
  Calls Try.prog 15 #[] w fun e w' => e = .returned (.bool r) ∧ Below w.heap.size w w' := by
 have hu44 := Try.underlying44
 have hu32 := Try.underlying32
 have HB := Aside0.mk (Below.refl w.heap.size w)
 have H : ((ending_Culprit.f (([(⟨1, 2, 0, 0, 0, 0, 0, false⟩ : S44), (⟨2, 3, 0, 0, 0, 0, 0, false⟩ : S44), (⟨1, 3, 0, 0, 0, 0, 0, false⟩ : S44)] : List (S44))) 2 5 4).bind fun bt108 => (if (bt108.1.length : Int) = 1 then (if (bt108.2.2.2.1.length : Int) = 1 then (if (bt108.2.2.2.2.length : Int) = 1 then (if bt108.2.2.1 = 9 then ((ending_Lost.f bt108.2.1 bt108.2.2.1 bt108.2.2.2.1 bt108.2.2.2.2 9).bind fun t120 => (if (t120.length : Int) = 0 then ((ending_Lost.f bt108.2.1 bt108.2.2.1 bt108.2.2.2.1 bt108.2.2.2.2 10).bind fun t123 => (some ((t123.length : Int) == 1))) else (some false))) else (some false)) else (some false)) else (some false)) else (some false))) = some r := h
 clear h
 obtain ⟨y105, hy105⟩ : ∃ y_ : List (S44), y_ = (([(⟨1, 2, 0, 0, 0, 0, 0, false⟩ : S44), (⟨2, 3, 0, 0, 0, 0, 0, false⟩ : S44), (⟨1, 3, 0, 0, 0, 0, 0, false⟩ : S44)] : List (S44))) := ⟨_, rfl⟩
 replace H : ((ending_Culprit.f y105 2 5 4).bind fun bt108 => (if (bt108.1.length : Int) = 1 then (if (bt108.2.2.2.1.length : Int) = 1 then (if (bt108.2.2.2.2.length : Int) = 1 then (if bt108.2.2.1 = 9 then ((ending_Lost.f bt108.2.1 bt108.2.2.1 bt108.2.2.2.1 bt108.2.2.2.2 9).bind fun t120 => (if (t120.length : Int) = 0 then ((ending_Lost.f bt108.2.1 bt108.2.2.1 bt108.2.2.2.1 bt108.2.2.2.2 10).bind fun t123 => (some ((t123.length : Int) == 1))) else (some false))) else (some false)) else (some false)) else (some false)) else (some false))) = some r := by first | (rw [hy105]; with_reducible exact H) | (have H2_ := (Option.bind_some _ _).symm.trans H; rw [hy105]; with_reducible exact H2_) | (have H2_ := (Option.bind_some _ _).symm.trans H; with_reducible exact H2_) | with_reducible exact H | (rw [hy105]; exact H) | exact H
 have Ny105 := Aside0.mk hy105
 clear hy105
 replace H := Option.bind_eq_some_iff.mp H
 obtain ⟨⟨t108, t111, t112, t113, t116⟩, A10, H⟩ := H
 replace H : (if (t108.length : Int) = 1 then (if (t113.length : Int) = 1 then (if (t116.length : Int) = 1 then (if t112 = 9 then ((ending_Lost.f t111 t112 t113 t116 9).bind fun t120 => (if (t120.length : Int) = 0 then ((ending_Lost.f t111 t112 t113 t116 10).bind fun t123 => (some ((t123.length : Int) == 1))) else (some false))) else (some false)) else (some false)) else (some false)) else (some false)) = some r := H
 have A1 := Aside0.mk A10
 clear A10
 by_cases c2 : (t108.length : Int) = 1
 case neg =>
  rw [if_neg c2] at H
  have c2b0 : ((t108.length : Int) == 1) = false := beq_eq_false_iff_ne.mpr c2
  have c2b1 : ((t108.length : Int) != 1) = true := bne_iff_ne.mpr c2
  obtain rfl := Option.some.inj H
  go_enter Try.func15, Try.ntmps15
  go_wp2_with (first | ((with_reducible refine gate_dst (N := 7) rfl ?_); (try (refine gate_guard (by rfl) ?_; dsimp only)); refine Kd.R_lit k44 _ 44 ?hg (N := 7) ?hd (xs := ([(⟨1, 2, 0, 0, 0, 0, 0, false⟩ : S44), (⟨2, 3, 0, 0, 0, 0, 0, false⟩ : S44), (⟨1, 3, 0, 0, 0, 0, 0, false⟩ : S44)] : List (S44))) (inner := [.int .i64 1, .int .i64 2, .int .i64 0, .int .i64 0, .int .i64 0, .int .i64 0, .int .i64 0, .bool false, .int .i64 2, .int .i64 3, .int .i64 0, .int .i64 0, .int .i64 0, .int .i64 0, .int .i64 0, .bool false, .int .i64 1, .int .i64 3, .int .i64 0, .int .i64 0, .int .i64 0, .int .i64 0, .int .i64 0, .bool false]) (ok := fun _ => True) (okp := fun _ => True) ?hr ?hp (fun _ hk => hk) trivial (Below.refl _ _) (Nat.le_refl _) (by simp) ?_; (case hd => rfl); (case hg => rfl); (case hr => first | (go_simp; done) | (go_simp; rfl)); (case hp => exact (Reps.c8 (show Kd.M k44 _ _ _ (⟨1, 2, 0, 0, 0, 0, 0, false⟩ : S44) [.int .i64 1, .int .i64 2, .int .i64 0, .int .i64 0, .int .i64 0, .int .i64 0, .int .i64 0, .bool false] from (k44_mkM _ _ _ (⟨1, 2, 0, 0, 0, 0, 0, false⟩ : S44) )) (Reps.c8 (show Kd.M k44 _ _ _ (⟨2, 3, 0, 0, 0, 0, 0, false⟩ : S44) [.int .i64 2, .int .i64 3, .int .i64 0, .int .i64 0, .int .i64 0, .int .i64 0, .int .i64 0, .bool false] from (k44_mkM _ _ _ (⟨2, 3, 0, 0, 0, 0, 0, false⟩ : S44) )) (Reps.c8 (show Kd.M k44 _ _ _ (⟨1, 3, 0, 0, 0, 0, 0, false⟩ : S44) [.int .i64 1, .int .i64 3, .int .i64 0, .int .i64 0, .int .i64 0, .int .i64 0, .int .i64 0, .bool false] from (k44_mkM _ _ _ (⟨1, 3, 0, 0, 0, 0, 0, false⟩ : S44) )) (Reps.none _ _))))); intro v106 w61 ho62 hb hg_ hnew_; clear hg_ hnew_; (first | rw [← Ny105.out] at ho62 | (simp only [Int.reduceToNat] at ho62; rw [← Ny105.out] at ho62)); have n0_ := Aside0.mk (Kd.R_lower ho62 (below_size (hU15 HB.out))); have n1_ := Aside0.mk (below_step (hU15 HB.out) hb); clear HB; have HO107 := n0_; have HB := n1_; clear n0_ n1_; clear hb ho62; obtain ⟨Ao63, co63, eo63⟩ := Kd.R_slice HO107.out; subst eo63) | ((with_reducible refine gate_callee (f := 20) rfl ?_); refine goesL_ (some 10) rfl rfl Try.func20 (by kernel_rfl) rfl #[.slice Ao63 y105.length co63, .int .i64 2, .int .i64 5, .int .i64 4] rfl (by (try simp only [List.map_toArray, List.map_cons, List.map_nil]); first | done | rfl | (simp only [List.length_drop, List.length_take]; rfl)) ?_; (with_reducible refine (ending_Culprit.calls _ _ y105 2 5 4 t108 t111 t112 t113 t116 _ ?side1 ?side2 A1.out).mono ?_); (case side1 => first | exact (Kd.R_reads' HO107.out).2.2 | exact cU15 (Kd.R_reads' HO107.out).2.2); (case side2 => exact (Kd.R_reads' HO107.out).2.1); rintro e w64 ⟨v109, v114, v117, rfl, ho0, ho1, ho2, hb⟩; refine ⟨_, rfl, ?_⟩; have n0_ := Aside0.mk (Kd.R_mono (Kd.R_told (Kd.R_told (Kd.R_told (Kd.R_old (rU15 HO107.out) hb) (Kd.R_base ho0)) (Kd.R_base ho1)) (Kd.R_base ho2)) (fun _ h_ => h_.1)); have n1_ := Aside0.mk (Kd.R_lower (Kd.R_new' ho0 (Kd.R_lt (rU15 HO107.out))) (below_size (hU15 HB.out))); have n2_ := Aside0.mk (Kd.R_lower (Kd.R_new' ho1 (Kd.R_lt (rU15 HO107.out))) (below_size (hU15 HB.out))); have n3_ := Aside0.mk (Kd.R_lower (Kd.R_new' ho2 (Kd.R_lt (rU15 HO107.out))) (below_size (hU15 HB.out))); have n4_ := Aside0.mk (below_step (hU15 HB.out) hb); clear HO107; clear HB; have HO107 := n0_; have HO110 := n1_; have HO115 := n2_; have HO118 := n3_; have HB := n4_; clear n0_ n1_ n2_ n3_ n4_; (try clear hb); (try clear hb2); (try clear hk); (try clear hi); (try clear hgw); (try clear ho0); (try clear ho1); (try clear ho2)) | ((with_reducible refine gate_dst (N := 3) rfl ?_); (try (refine gate_guard (by rfl) ?_; dsimp only)); refine box_event ?hg (N := 3) ?hd (cs := #[.int .i64 0, .int .i64 0, .slice none 0 0, .slice none 0 0]) (t := 32) ?hr ?_; (case hd => rfl); (case hg => rfl); (case hr => first | (go_simp; done) | (go_simp; rfl)); intro gb119 hg w65 hbox hb; have n0_ := Aside0.mk (Kd.R_below (rU15 HO107.out) hb); have n1_ := Aside0.mk (Kd.R_below (rU15 HO110.out) hb); have n2_ := Aside0.mk (Kd.R_below (rU15 HO115.out) hb); have n3_ := Aside0.mk (Kd.R_below (rU15 HO118.out) hb); have n4_ := Aside0.mk (below_step (hU15 HB.out) hb); have n5_ := Aside0.mk (hbox); have n6_ := Aside0.mk ((by rw [hg]; exact (below_size (hU15 HB.out)) : w.heap.size ≤ gb119)); have n7_ := Aside0.mk ((by rw [hg]; exact (below_size (hU15 HB.out)) : w.heap.size ≤ gb119)); clear HO107; clear HO110; clear HO115; clear HO118; clear HB; have HO107 := n0_; have HO110 := n1_; have HO115 := n2_; have HO118 := n3_; have HB := n4_; have BK119 := n5_; have GW119 := n6_; have GE119 := n7_; clear n0_ n1_ n2_ n3_ n4_ n5_ n6_ n7_; clear hb hbox hg; have hcz66 := cz4 BK119.out; have hfz66 := blk_frozen BK119.out; obtain ⟨Ao67, co67, eo67⟩ := Kd.R_slice HO115.out; subst eo67; obtain ⟨Ao68, co68, eo68⟩ := Kd.R_slice HO118.out; subst eo68; obtain ⟨Ao69, co69, eo69⟩ := Kd.R_slice HO110.out; subst eo69))
  go_ret
  exact ⟨by first | rfl | (simp [errW_none, errW_some] <;> rfl) | (simp [*, errW_none, errW_some] <;> rfl), by repeat (first | (with_reducible first | exact HB.out | apply below_alloc | apply pw_below_drewN | apply below_drew1 | refine below_set ?_ GE119.out) | exact HB.out)⟩


 rw [if_pos c2] at H
 have c2b0 : ((t108.length : Int) == 1) = true := beq_iff_eq.mpr c2
 have c2b1 : ((t108.length : Int) != 1) = false := bne_eq_false_iff_eq.mpr c2
 clear c2
 by_cases c3 : (t113.length : Int) = 1
 case neg =>
  rw [if_neg c3] at H
  have c3b0 : ((t113.length : Int) == 1) = false := beq_eq_false_iff_ne.mpr c3
  have c3b1 : ((t113.length : Int) != 1) = true := bne_iff_ne.mpr c3
  obtain rfl := Option.some.inj H
  go_enter Try.func15, Try.ntmps15
  go_wp2_with (first | ((with_reducible refine gate_dst (N := 7) rfl ?_); (try (refine gate_guard (by rfl) ?_; dsimp only)); refine Kd.R_lit k44 _ 44 ?hg (N := 7) ?hd (xs := ([(⟨1, 2, 0, 0, 0, 0, 0, false⟩ : S44), (⟨2, 3, 0, 0, 0, 0, 0, false⟩ : S44), (⟨1, 3, 0, 0, 0, 0, 0, false⟩ : S44)] : List (S44))) (inner := [.int .i64 1, .int .i64 2, .int .i64 0, .int .i64 0, .int .i64 0, .int .i64 0, .int .i64 0, .bool false, .int .i64 2, .int .i64 3, .int .i64 0, .int .i64 0, .int .i64 0, .int .i64 0, .int .i64 0, .bool false, .int .i64 1, .int .i64 3, .int .i64 0, .int .i64 0, .int .i64 0, .int .i64 0, .int .i64 0, .bool false]) (ok := fun _ => True) (okp := fun _ => True) ?hr ?hp (fun _ hk => hk) trivial (Below.refl _ _) (Nat.le_refl _) (by simp) ?_; (case hd => rfl); (case hg => rfl); (case hr => first | (go_simp; done) | (go_simp; rfl)); (case hp => exact (Reps.c8 (show Kd.M k44 _ _ _ (⟨1, 2, 0, 0, 0, 0, 0, false⟩ : S44) [.int .i64 1, .int .i64 2, .int .i64 0, .int .i64 0, .int .i64 0, .int .i64 0, .int .i64 0, .bool false] from (k44_mkM _ _ _ (⟨1, 2, 0, 0, 0, 0, 0, false⟩ : S44) )) (Reps.c8 (show Kd.M k44 _ _ _ (⟨2, 3, 0, 0, 0, 0, 0, false⟩ : S44) [.int .i64 2, .int .i64 3, .int .i64 0, .int .i64 0, .int .i64 0, .int .i64 0, .int .i64 0, .bool false] from (k44_mkM _ _ _ (⟨2, 3, 0, 0, 0, 0, 0, false⟩ : S44) )) (Reps.c8 (show Kd.M k44 _ _ _ (⟨1, 3, 0, 0, 0, 0, 0, false⟩ : S44) [.int .i64 1, .int .i64 3, .int .i64 0, .int .i64 0, .int .i64 0, .int .i64 0, .int .i64 0, .bool false] from (k44_mkM _ _ _ (⟨1, 3, 0, 0, 0, 0, 0, false⟩ : S44) )) (Reps.none _ _))))); intro v106 w52 ho53 hb hg_ hnew_; clear hg_ hnew_; (first | rw [← Ny105.out] at ho53 | (simp only [Int.reduceToNat] at ho53; rw [← Ny105.out] at ho53)); have n0_ := Aside0.mk (Kd.R_lower ho53 (below_size (hU15 HB.out))); have n1_ := Aside0.mk (below_step (hU15 HB.out) hb); clear HB; have HO107 := n0_; have HB := n1_; clear n0_ n1_; clear hb ho53; obtain ⟨Ao54, co54, eo54⟩ := Kd.R_slice HO107.out; subst eo54) | ((with_reducible refine gate_callee (f := 20) rfl ?_); refine goesL_ (some 10) rfl rfl Try.func20 (by kernel_rfl) rfl #[.slice Ao54 y105.length co54, .int .i64 2, .int .i64 5, .int .i64 4] rfl (by (try simp only [List.map_toArray, List.map_cons, List.map_nil]); first | done | rfl | (simp only [List.length_drop, List.length_take]; rfl)) ?_; (with_reducible refine (ending_Culprit.calls _ _ y105 2 5 4 t108 t111 t112 t113 t116 _ ?side1 ?side2 A1.out).mono ?_); (case side1 => first | exact (Kd.R_reads' HO107.out).2.2 | exact cU15 (Kd.R_reads' HO107.out).2.2); (case side2 => exact (Kd.R_reads' HO107.out).2.1); rintro e w55 ⟨v109, v114, v117, rfl, ho0, ho1, ho2, hb⟩; refine ⟨_, rfl, ?_⟩; have n0_ := Aside0.mk (Kd.R_mono (Kd.R_told (Kd.R_told (Kd.R_told (Kd.R_old (rU15 HO107.out) hb) (Kd.R_base ho0)) (Kd.R_base ho1)) (Kd.R_base ho2)) (fun _ h_ => h_.1)); have n1_ := Aside0.mk (Kd.R_lower (Kd.R_new' ho0 (Kd.R_lt (rU15 HO107.out))) (below_size (hU15 HB.out))); have n2_ := Aside0.mk (Kd.R_lower (Kd.R_new' ho1 (Kd.R_lt (rU15 HO107.out))) (below_size (hU15 HB.out))); have n3_ := Aside0.mk (Kd.R_lower (Kd.R_new' ho2 (Kd.R_lt (rU15 HO107.out))) (below_size (hU15 HB.out))); have n4_ := Aside0.mk (below_step (hU15 HB.out) hb); clear HO107; clear HB; have HO107 := n0_; have HO110 := n1_; have HO115 := n2_; have HO118 := n3_; have HB := n4_; clear n0_ n1_ n2_ n3_ n4_; (try clear hb); (try clear hb2); (try clear hk); (try clear hi); (try clear hgw); (try clear ho0); (try clear ho1); (try clear ho2)) | ((with_reducible refine gate_dst (N := 3) rfl ?_); (try (refine gate_guard (by rfl) ?_; dsimp only)); refine box_event ?hg (N := 3) ?hd (cs := #[.int .i64 0, .int .i64 0, .slice none 0 0, .slice none 0 0]) (t := 32) ?hr ?_; (case hd => rfl); (case hg => rfl); (case hr => first | (go_simp; done) | (go_simp; rfl)); intro gb119 hg w56 hbox hb; have n0_ := Aside0.mk (Kd.R_below (rU15 HO107.out) hb); have n1_ := Aside0.mk (Kd.R_below (rU15 HO110.out) hb); have n2_ := Aside0.mk (Kd.R_below (rU15 HO115.out) hb); have n3_ := Aside0.mk (Kd.R_below (rU15 HO118.out) hb); have n4_ := Aside0.mk (below_step (hU15 HB.out) hb); have n5_ := Aside0.mk (hbox); have n6_ := Aside0.mk ((by rw [hg]; exact (below_size (hU15 HB.out)) : w.heap.size ≤ gb119)); have n7_ := Aside0.mk ((by rw [hg]; exact (below_size (hU15 HB.out)) : w.heap.size ≤ gb119)); clear HO107; clear HO110; clear HO115; clear HO118; clear HB; have HO107 := n0_; have HO110 := n1_; have HO115 := n2_; have HO118 := n3_; have HB := n4_; have BK119 := n5_; have GW119 := n6_; have GE119 := n7_; clear n0_ n1_ n2_ n3_ n4_ n5_ n6_ n7_; clear hb hbox hg; have hcz57 := cz4 BK119.out; have hfz57 := blk_frozen BK119.out; obtain ⟨Ao58, co58, eo58⟩ := Kd.R_slice HO115.out; subst eo58; obtain ⟨Ao59, co59, eo59⟩ := Kd.R_slice HO118.out; subst eo59; obtain ⟨Ao60, co60, eo60⟩ := Kd.R_slice HO110.out; subst eo60))
  go_ret
  exact ⟨by first | rfl | (simp [errW_none, errW_some] <;> rfl) | (simp [*, errW_none, errW_some] <;> rfl), by repeat (first | (with_reducible first | exact HB.out | apply below_alloc | apply pw_below_drewN | apply below_drew1 | refine below_set ?_ GE119.out) | exact HB.out)⟩
 rw [if_pos c3] at H
 have c3b0 : ((t113.length : Int) == 1) = true := beq_iff_eq.mpr c3
 have c3b1 : ((t113.length : Int) != 1) = false := bne_eq_false_iff_eq.mpr c3
 clear c3
 by_cases c4 : (t116.length : Int) = 1
 case neg =>
  rw [if_neg c4] at H
  have c4b0 : ((t116.length : Int) == 1) = false := beq_eq_false_iff_ne.mpr c4
  have c4b1 : ((t116.length : Int) != 1) = true := bne_iff_ne.mpr c4
  obtain rfl := Option.some.inj H
  go_enter Try.func15, Try.ntmps15
  go_wp2_with (first | ((with_reducible refine gate_dst (N := 7) rfl ?_); (try (refine gate_guard (by rfl) ?_; dsimp only)); refine Kd.R_lit k44 _ 44 ?hg (N := 7) ?hd (xs := ([(⟨1, 2, 0, 0, 0, 0, 0, false⟩ : S44), (⟨2, 3, 0, 0, 0, 0, 0, false⟩ : S44), (⟨1, 3, 0, 0, 0, 0, 0, false⟩ : S44)] : List (S44))) (inner := [.int .i64 1, .int .i64 2, .int .i64 0, .int .i64 0, .int .i64 0, .int .i64 0, .int .i64 0, .bool false, .int .i64 2, .int .i64 3, .int .i64 0, .int .i64 0, .int .i64 0, .int .i64 0, .int .i64 0, .bool false, .int .i64 1, .int .i64 3, .int .i64 0, .int .i64 0, .int .i64 0, .int .i64 0, .int .i64 0, .bool false]) (ok := fun _ => True) (okp := fun _ => True) ?hr ?hp (fun _ hk => hk) trivial (Below.refl _ _) (Nat.le_refl _) (by simp) ?_; (case hd => rfl); (case hg => rfl); (case hr => first | (go_simp; done) | (go_simp; rfl)); (case hp => exact (Reps.c8 (show Kd.M k44 _ _ _ (⟨1, 2, 0, 0, 0, 0, 0, false⟩ : S44) [.int .i64 1, .int .i64 2, .int .i64 0, .int .i64 0, .int .i64 0, .int .i64 0, .int .i64 0, .bool false] from (k44_mkM _ _ _ (⟨1, 2, 0, 0, 0, 0, 0, false⟩ : S44) )) (Reps.c8 (show Kd.M k44 _ _ _ (⟨2, 3, 0, 0, 0, 0, 0, false⟩ : S44) [.int .i64 2, .int .i64 3, .int .i64 0, .int .i64 0, .int .i64 0, .int .i64 0, .int .i64 0, .bool false] from (k44_mkM _ _ _ (⟨2, 3, 0, 0, 0, 0, 0, false⟩ : S44) )) (Reps.c8 (show Kd.M k44 _ _ _ (⟨1, 3, 0, 0, 0, 0, 0, false⟩ : S44) [.int .i64 1, .int .i64 3, .int .i64 0, .int .i64 0, .int .i64 0, .int .i64 0, .int .i64 0, .bool false] from (k44_mkM _ _ _ (⟨1, 3, 0, 0, 0, 0, 0, false⟩ : S44) )) (Reps.none _ _))))); intro v106 w43 ho44 hb hg_ hnew_; clear hg_ hnew_; (first | rw [← Ny105.out] at ho44 | (simp only [Int.reduceToNat] at ho44; rw [← Ny105.out] at ho44)); have n0_ := Aside0.mk (Kd.R_lower ho44 (below_size (hU15 HB.out))); have n1_ := Aside0.mk (below_step (hU15 HB.out) hb); clear HB; have HO107 := n0_; have HB := n1_; clear n0_ n1_; clear hb ho44; obtain ⟨Ao45, co45, eo45⟩ := Kd.R_slice HO107.out; subst eo45) | ((with_reducible refine gate_callee (f := 20) rfl ?_); refine goesL_ (some 10) rfl rfl Try.func20 (by kernel_rfl) rfl #[.slice Ao45 y105.length co45, .int .i64 2, .int .i64 5, .int .i64 4] rfl (by (try simp only [List.map_toArray, List.map_cons, List.map_nil]); first | done | rfl | (simp only [List.length_drop, List.length_take]; rfl)) ?_; (with_reducible refine (ending_Culprit.calls _ _ y105 2 5 4 t108 t111 t112 t113 t116 _ ?side1 ?side2 A1.out).mono ?_); (case side1 => first | exact (Kd.R_reads' HO107.out).2.2 | exact cU15 (Kd.R_reads' HO107.out).2.2); (case side2 => exact (Kd.R_reads' HO107.out).2.1); rintro e w46 ⟨v109, v114, v117, rfl, ho0, ho1, ho2, hb⟩; refine ⟨_, rfl, ?_⟩; have n0_ := Aside0.mk (Kd.R_mono (Kd.R_told (Kd.R_told (Kd.R_told (Kd.R_old (rU15 HO107.out) hb) (Kd.R_base ho0)) (Kd.R_base ho1)) (Kd.R_base ho2)) (fun _ h_ => h_.1)); have n1_ := Aside0.mk (Kd.R_lower (Kd.R_new' ho0 (Kd.R_lt (rU15 HO107.out))) (below_size (hU15 HB.out))); have n2_ := Aside0.mk (Kd.R_lower (Kd.R_new' ho1 (Kd.R_lt (rU15 HO107.out))) (below_size (hU15 HB.out))); have n3_ := Aside0.mk (Kd.R_lower (Kd.R_new' ho2 (Kd.R_lt (rU15 HO107.out))) (below_size (hU15 HB.out))); have n4_ := Aside0.mk (below_step (hU15 HB.out) hb); clear HO107; clear HB; have HO107 := n0_; have HO110 := n1_; have HO115 := n2_; have HO118 := n3_; have HB := n4_; clear n0_ n1_ n2_ n3_ n4_; (try clear hb); (try clear hb2); (try clear hk); (try clear hi); (try clear hgw); (try clear ho0); (try clear ho1); (try clear ho2)) | ((with_reducible refine gate_dst (N := 3) rfl ?_); (try (refine gate_guard (by rfl) ?_; dsimp only)); refine box_event ?hg (N := 3) ?hd (cs := #[.int .i64 0, .int .i64 0, .slice none 0 0, .slice none 0 0]) (t := 32) ?hr ?_; (case hd => rfl); (case hg => rfl); (case hr => first | (go_simp; done) | (go_simp; rfl)); intro gb119 hg w47 hbox hb; have n0_ := Aside0.mk (Kd.R_below (rU15 HO107.out) hb); have n1_ := Aside0.mk (Kd.R_below (rU15 HO110.out) hb); have n2_ := Aside0.mk (Kd.R_below (rU15 HO115.out) hb); have n3_ := Aside0.mk (Kd.R_below (rU15 HO118.out) hb); have n4_ := Aside0.mk (below_step (hU15 HB.out) hb); have n5_ := Aside0.mk (hbox); have n6_ := Aside0.mk ((by rw [hg]; exact (below_size (hU15 HB.out)) : w.heap.size ≤ gb119)); have n7_ := Aside0.mk ((by rw [hg]; exact (below_size (hU15 HB.out)) : w.heap.size ≤ gb119)); clear HO107; clear HO110; clear HO115; clear HO118; clear HB; have HO107 := n0_; have HO110 := n1_; have HO115 := n2_; have HO118 := n3_; have HB := n4_; have BK119 := n5_; have GW119 := n6_; have GE119 := n7_; clear n0_ n1_ n2_ n3_ n4_ n5_ n6_ n7_; clear hb hbox hg; have hcz48 := cz4 BK119.out; have hfz48 := blk_frozen BK119.out; obtain ⟨Ao49, co49, eo49⟩ := Kd.R_slice HO115.out; subst eo49; obtain ⟨Ao50, co50, eo50⟩ := Kd.R_slice HO118.out; subst eo50; obtain ⟨Ao51, co51, eo51⟩ := Kd.R_slice HO110.out; subst eo51))
  go_ret
  exact ⟨by first | rfl | (simp [errW_none, errW_some] <;> rfl) | (simp [*, errW_none, errW_some] <;> rfl), by repeat (first | (with_reducible first | exact HB.out | apply below_alloc | apply pw_below_drewN | apply below_drew1 | refine below_set ?_ GE119.out) | exact HB.out)⟩
 rw [if_pos c4] at H
 have c4b0 : ((t116.length : Int) == 1) = true := beq_iff_eq.mpr c4
 have c4b1 : ((t116.length : Int) != 1) = false := bne_eq_false_iff_eq.mpr c4
 clear c4
 by_cases c5 : t112 = 9
 case neg =>
  rw [if_neg c5] at H
  have c5b0 : (t112 == 9) = false := beq_eq_false_iff_ne.mpr c5
  have c5b1 : (t112 != 9) = true := bne_iff_ne.mpr c5
  obtain rfl := Option.some.inj H
  go_enter Try.func15, Try.ntmps15
  go_wp2_with (first | ((with_reducible refine gate_dst (N := 7) rfl ?_); (try (refine gate_guard (by rfl) ?_; dsimp only)); refine Kd.R_lit k44 _ 44 ?hg (N := 7) ?hd (xs := ([(⟨1, 2, 0, 0, 0, 0, 0, false⟩ : S44), (⟨2, 3, 0, 0, 0, 0, 0, false⟩ : S44), (⟨1, 3, 0, 0, 0, 0, 0, false⟩ : S44)] : List (S44))) (inner := [.int .i64 1, .int .i64 2, .int .i64 0, .int .i64 0, .int .i64 0, .int .i64 0, .int .i64 0, .bool false, .int .i64 2, .int .i64 3, .int .i64 0, .int .i64 0, .int .i64 0, .int .i64 0, .int .i64 0, .bool false, .int .i64 1, .int .i64 3, .int .i64 0, .int .i64 0, .int .i64 0, .int .i64 0, .int .i64 0, .bool false]) (ok := fun _ => True) (okp := fun _ => True) ?hr ?hp (fun _ hk => hk) trivial (Below.refl _ _) (Nat.le_refl _) (by simp) ?_; (case hd => rfl); (case hg => rfl); (case hr => first | (go_simp; done) | (go_simp; rfl)); (case hp => exact (Reps.c8 (show Kd.M k44 _ _ _ (⟨1, 2, 0, 0, 0, 0, 0, false⟩ : S44) [.int .i64 1, .int .i64 2, .int .i64 0, .int .i64 0, .int .i64 0, .int .i64 0, .int .i64 0, .bool false] from (k44_mkM _ _ _ (⟨1, 2, 0, 0, 0, 0, 0, false⟩ : S44) )) (Reps.c8 (show Kd.M k44 _ _ _ (⟨2, 3, 0, 0, 0, 0, 0, false⟩ : S44) [.int .i64 2, .int .i64 3, .int .i64 0, .int .i64 0, .int .i64 0, .int .i64 0, .int .i64 0, .bool false] from (k44_mkM _ _ _ (⟨2, 3, 0, 0, 0, 0, 0, false⟩ : S44) )) (Reps.c8 (show Kd.M k44 _ _ _ (⟨1, 3, 0, 0, 0, 0, 0, false⟩ : S44) [.int .i64 1, .int .i64 3, .int .i64 0, .int .i64 0, .int .i64 0, .int .i64 0, .int .i64 0, .bool false] from (k44_mkM _ _ _ (⟨1, 3, 0, 0, 0, 0, 0, false⟩ : S44) )) (Reps.none _ _))))); intro v106 w34 ho35 hb hg_ hnew_; clear hg_ hnew_; (first | rw [← Ny105.out] at ho35 | (simp only [Int.reduceToNat] at ho35; rw [← Ny105.out] at ho35)); have n0_ := Aside0.mk (Kd.R_lower ho35 (below_size (hU15 HB.out))); have n1_ := Aside0.mk (below_step (hU15 HB.out) hb); clear HB; have HO107 := n0_; have HB := n1_; clear n0_ n1_; clear hb ho35; obtain ⟨Ao36, co36, eo36⟩ := Kd.R_slice HO107.out; subst eo36) | ((with_reducible refine gate_callee (f := 20) rfl ?_); refine goesL_ (some 10) rfl rfl Try.func20 (by kernel_rfl) rfl #[.slice Ao36 y105.length co36, .int .i64 2, .int .i64 5, .int .i64 4] rfl (by (try simp only [List.map_toArray, List.map_cons, List.map_nil]); first | done | rfl | (simp only [List.length_drop, List.length_take]; rfl)) ?_; (with_reducible refine (ending_Culprit.calls _ _ y105 2 5 4 t108 t111 t112 t113 t116 _ ?side1 ?side2 A1.out).mono ?_); (case side1 => first | exact (Kd.R_reads' HO107.out).2.2 | exact cU15 (Kd.R_reads' HO107.out).2.2); (case side2 => exact (Kd.R_reads' HO107.out).2.1); rintro e w37 ⟨v109, v114, v117, rfl, ho0, ho1, ho2, hb⟩; refine ⟨_, rfl, ?_⟩; have n0_ := Aside0.mk (Kd.R_mono (Kd.R_told (Kd.R_told (Kd.R_told (Kd.R_old (rU15 HO107.out) hb) (Kd.R_base ho0)) (Kd.R_base ho1)) (Kd.R_base ho2)) (fun _ h_ => h_.1)); have n1_ := Aside0.mk (Kd.R_lower (Kd.R_new' ho0 (Kd.R_lt (rU15 HO107.out))) (below_size (hU15 HB.out))); have n2_ := Aside0.mk (Kd.R_lower (Kd.R_new' ho1 (Kd.R_lt (rU15 HO107.out))) (below_size (hU15 HB.out))); have n3_ := Aside0.mk (Kd.R_lower (Kd.R_new' ho2 (Kd.R_lt (rU15 HO107.out))) (below_size (hU15 HB.out))); have n4_ := Aside0.mk (below_step (hU15 HB.out) hb); clear HO107; clear HB; have HO107 := n0_; have HO110 := n1_; have HO115 := n2_; have HO118 := n3_; have HB := n4_; clear n0_ n1_ n2_ n3_ n4_; (try clear hb); (try clear hb2); (try clear hk); (try clear hi); (try clear hgw); (try clear ho0); (try clear ho1); (try clear ho2)) | ((with_reducible refine gate_dst (N := 3) rfl ?_); (try (refine gate_guard (by rfl) ?_; dsimp only)); refine box_event ?hg (N := 3) ?hd (cs := #[.int .i64 0, .int .i64 0, .slice none 0 0, .slice none 0 0]) (t := 32) ?hr ?_; (case hd => rfl); (case hg => rfl); (case hr => first | (go_simp; done) | (go_simp; rfl)); intro gb119 hg w38 hbox hb; have n0_ := Aside0.mk (Kd.R_below (rU15 HO107.out) hb); have n1_ := Aside0.mk (Kd.R_below (rU15 HO110.out) hb); have n2_ := Aside0.mk (Kd.R_below (rU15 HO115.out) hb); have n3_ := Aside0.mk (Kd.R_below (rU15 HO118.out) hb); have n4_ := Aside0.mk (below_step (hU15 HB.out) hb); have n5_ := Aside0.mk (hbox); have n6_ := Aside0.mk ((by rw [hg]; exact (below_size (hU15 HB.out)) : w.heap.size ≤ gb119)); have n7_ := Aside0.mk ((by rw [hg]; exact (below_size (hU15 HB.out)) : w.heap.size ≤ gb119)); clear HO107; clear HO110; clear HO115; clear HO118; clear HB; have HO107 := n0_; have HO110 := n1_; have HO115 := n2_; have HO118 := n3_; have HB := n4_; have BK119 := n5_; have GW119 := n6_; have GE119 := n7_; clear n0_ n1_ n2_ n3_ n4_ n5_ n6_ n7_; clear hb hbox hg; have hcz39 := cz4 BK119.out; have hfz39 := blk_frozen BK119.out; obtain ⟨Ao40, co40, eo40⟩ := Kd.R_slice HO115.out; subst eo40; obtain ⟨Ao41, co41, eo41⟩ := Kd.R_slice HO118.out; subst eo41; obtain ⟨Ao42, co42, eo42⟩ := Kd.R_slice HO110.out; subst eo42))
  go_ret
  exact ⟨by first | rfl | (simp [errW_none, errW_some] <;> rfl) | (simp [*, errW_none, errW_some] <;> rfl), by repeat (first | (with_reducible first | exact HB.out | apply below_alloc | apply pw_below_drewN | apply below_drew1 | refine below_set ?_ GE119.out) | exact HB.out)⟩
 rw [if_pos c5] at H
 have c5b0 : (t112 == 9) = true := beq_iff_eq.mpr c5
 have c5b1 : (t112 != 9) = false := bne_eq_false_iff_eq.mpr c5
 clear c5
 replace H := Option.bind_eq_some_iff.mp H
 obtain ⟨t120, A60, H⟩ := H
 replace H : (if (t120.length : Int) = 0 then ((ending_Lost.f t111 t112 t113 t116 10).bind fun t123 => (some ((t123.length : Int) == 1))) else (some false)) = some r := H
 have A6 := Aside0.mk A60
 clear A60
 by_cases c7 : (t120.length : Int) = 0
 case neg =>
  rw [if_neg c7] at H
  have c7b0 : ((t120.length : Int) == 0) = false := beq_eq_false_iff_ne.mpr c7
  have c7b1 : ((t120.length : Int) != 0) = true := bne_iff_ne.mpr c7
  have c7b2 : ¬ (t120 = []) := fun h_ => c7 (by rw [h_]; rfl)
  obtain rfl := Option.some.inj H
  go_enter Try.func15, Try.ntmps15
  go_wp2_with (first | ((with_reducible refine gate_dst (N := 7) rfl ?_); (try (refine gate_guard (by rfl) ?_; dsimp only)); refine Kd.R_lit k44 _ 44 ?hg (N := 7) ?hd (xs := ([(⟨1, 2, 0, 0, 0, 0, 0, false⟩ : S44), (⟨2, 3, 0, 0, 0, 0, 0, false⟩ : S44), (⟨1, 3, 0, 0, 0, 0, 0, false⟩ : S44)] : List (S44))) (inner := [.int .i64 1, .int .i64 2, .int .i64 0, .int .i64 0, .int .i64 0, .int .i64 0, .int .i64 0, .bool false, .int .i64 2, .int .i64 3, .int .i64 0, .int .i64 0, .int .i64 0, .int .i64 0, .int .i64 0, .bool false, .int .i64 1, .int .i64 3, .int .i64 0, .int .i64 0, .int .i64 0, .int .i64 0, .int .i64 0, .bool false]) (ok := fun _ => True) (okp := fun _ => True) ?hr ?hp (fun _ hk => hk) trivial (Below.refl _ _) (Nat.le_refl _) (by simp) ?_; (case hd => rfl); (case hg => rfl); (case hr => first | (go_simp; done) | (go_simp; rfl)); (case hp => exact (Reps.c8 (show Kd.M k44 _ _ _ (⟨1, 2, 0, 0, 0, 0, 0, false⟩ : S44) [.int .i64 1, .int .i64 2, .int .i64 0, .int .i64 0, .int .i64 0, .int .i64 0, .int .i64 0, .bool false] from (k44_mkM _ _ _ (⟨1, 2, 0, 0, 0, 0, 0, false⟩ : S44) )) (Reps.c8 (show Kd.M k44 _ _ _ (⟨2, 3, 0, 0, 0, 0, 0, false⟩ : S44) [.int .i64 2, .int .i64 3, .int .i64 0, .int .i64 0, .int .i64 0, .int .i64 0, .int .i64 0, .bool false] from (k44_mkM _ _ _ (⟨2, 3, 0, 0, 0, 0, 0, false⟩ : S44) )) (Reps.c8 (show Kd.M k44 _ _ _ (⟨1, 3, 0, 0, 0, 0, 0, false⟩ : S44) [.int .i64 1, .int .i64 3, .int .i64 0, .int .i64 0, .int .i64 0, .int .i64 0, .int .i64 0, .bool false] from (k44_mkM _ _ _ (⟨1, 3, 0, 0, 0, 0, 0, false⟩ : S44) )) (Reps.none _ _))))); intro v106 w23 ho24 hb hg_ hnew_; clear hg_ hnew_; (first | rw [← Ny105.out] at ho24 | (simp only [Int.reduceToNat] at ho24; rw [← Ny105.out] at ho24)); have n0_ := Aside0.mk (Kd.R_lower ho24 (below_size (hU15 HB.out))); have n1_ := Aside0.mk (below_step (hU15 HB.out) hb); clear HB; have HO107 := n0_; have HB := n1_; clear n0_ n1_; clear hb ho24; obtain ⟨Ao25, co25, eo25⟩ := Kd.R_slice HO107.out; subst eo25) | ((with_reducible refine gate_callee (f := 20) rfl ?_); refine goesL_ (some 10) rfl rfl Try.func20 (by kernel_rfl) rfl #[.slice Ao25 y105.length co25, .int .i64 2, .int .i64 5, .int .i64 4] rfl (by (try simp only [List.map_toArray, List.map_cons, List.map_nil]); first | done | rfl | (simp only [List.length_drop, List.length_take]; rfl)) ?_; (with_reducible refine (ending_Culprit.calls _ _ y105 2 5 4 t108 t111 t112 t113 t116 _ ?side1 ?side2 A1.out).mono ?_); (case side1 => first | exact (Kd.R_reads' HO107.out).2.2 | exact cU15 (Kd.R_reads' HO107.out).2.2); (case side2 => exact (Kd.R_reads' HO107.out).2.1); rintro e w26 ⟨v109, v114, v117, rfl, ho0, ho1, ho2, hb⟩; refine ⟨_, rfl, ?_⟩; have n0_ := Aside0.mk (Kd.R_mono (Kd.R_told (Kd.R_told (Kd.R_told (Kd.R_old (rU15 HO107.out) hb) (Kd.R_base ho0)) (Kd.R_base ho1)) (Kd.R_base ho2)) (fun _ h_ => h_.1)); have n1_ := Aside0.mk (Kd.R_lower (Kd.R_new' ho0 (Kd.R_lt (rU15 HO107.out))) (below_size (hU15 HB.out))); have n2_ := Aside0.mk (Kd.R_lower (Kd.R_new' ho1 (Kd.R_lt (rU15 HO107.out))) (below_size (hU15 HB.out))); have n3_ := Aside0.mk (Kd.R_lower (Kd.R_new' ho2 (Kd.R_lt (rU15 HO107.out))) (below_size (hU15 HB.out))); have n4_ := Aside0.mk (below_step (hU15 HB.out) hb); clear HO107; clear HB; have HO107 := n0_; have HO110 := n1_; have HO115 := n2_; have HO118 := n3_; have HB := n4_; clear n0_ n1_ n2_ n3_ n4_; (try clear hb); (try clear hb2); (try clear hk); (try clear hi); (try clear hgw); (try clear ho0); (try clear ho1); (try clear ho2)) | ((with_reducible refine gate_dst (N := 3) rfl ?_); (try (refine gate_guard (by rfl) ?_; dsimp only)); refine box_event ?hg (N := 3) ?hd (cs := #[.int .i64 0, .int .i64 0, .slice none 0 0, .slice none 0 0]) (t := 32) ?hr ?_; (case hd => rfl); (case hg => rfl); (case hr => first | (go_simp; done) | (go_simp; rfl)); intro gb119 hg w27 hbox hb; have n0_ := Aside0.mk (Kd.R_below (rU15 HO107.out) hb); have n1_ := Aside0.mk (Kd.R_below (rU15 HO110.out) hb); have n2_ := Aside0.mk (Kd.R_below (rU15 HO115.out) hb); have n3_ := Aside0.mk (Kd.R_below (rU15 HO118.out) hb); have n4_ := Aside0.mk (below_step (hU15 HB.out) hb); have n5_ := Aside0.mk (hbox); have n6_ := Aside0.mk ((by rw [hg]; exact (below_size (hU15 HB.out)) : w.heap.size ≤ gb119)); have n7_ := Aside0.mk ((by rw [hg]; exact (below_size (hU15 HB.out)) : w.heap.size ≤ gb119)); clear HO107; clear HO110; clear HO115; clear HO118; clear HB; have HO107 := n0_; have HO110 := n1_; have HO115 := n2_; have HO118 := n3_; have HB := n4_; have BK119 := n5_; have GW119 := n6_; have GE119 := n7_; clear n0_ n1_ n2_ n3_ n4_ n5_ n6_ n7_; clear hb hbox hg; have hcz28 := cz4 BK119.out; have hfz28 := blk_frozen BK119.out; obtain ⟨Ao29, co29, eo29⟩ := Kd.R_slice HO115.out; subst eo29; obtain ⟨Ao30, co30, eo30⟩ := Kd.R_slice HO118.out; subst eo30; obtain ⟨Ao31, co31, eo31⟩ := Kd.R_slice HO110.out; subst eo31) | (go_at_call 26; (with_reducible refine (ending_Lost.calls t111 t112 _ _ t113 _ _ t116 9 t120 _ ?side1 ?side2 ?side3 ?side4 A6.out).mono ?_); (case side1 => refine (Kd.R_reads' (e := 44) (base := w.heap.size) (ok := fun k_ => ((some k_ ≠ (.slice Ao31 t108.length co31 : Value).ownBlock ∧ some k_ ≠ (.slice Ao30 t116.length co30 : Value).ownBlock) ∧ some k_ ≠ (.slice Ao25 y105.length co25 : Value).ownBlock)) (n := t113.length) (c := co29) ?_).2.2; exact (rU15 ((Kd.R_mono (Kd.R_far (p := ⟨gb119, 3, none⟩) (Kd.R_far (p := ⟨gb119, 2, none⟩) (Kd.R_far (p := ⟨gb119, 1, none⟩) (Kd.R_far (p := ⟨gb119, 0, none⟩) (Kd.R_types HO115.out BK119.out (by decide)) (fun _ hk => hk.2) (.int .i64 t111)) (fun _ hk => hk.2) (.int .i64 t112)) (fun _ hk => hk.2) (.slice Ao29 t113.length co29)) (fun _ hk => hk.2) (.slice Ao30 t116.length co30)) (fun _ h_ => h_.1))))); (case side2 => exact (Kd.R_reads' HO115.out).2.1); (case side3 => refine (Kd.R_reads' (e := 44) (base := w.heap.size) (ok := fun k_ => ((some k_ ≠ (.slice Ao31 t108.length co31 : Value).ownBlock ∧ some k_ ≠ (.slice Ao29 t113.length co29 : Value).ownBlock) ∧ some k_ ≠ (.slice Ao25 y105.length co25 : Value).ownBlock)) (n := t116.length) (c := co30) ?_).2.2; exact (rU15 ((Kd.R_mono (Kd.R_far (p := ⟨gb119, 3, none⟩) (Kd.R_far (p := ⟨gb119, 2, none⟩) (Kd.R_far (p := ⟨gb119, 1, none⟩) (Kd.R_far (p := ⟨gb119, 0, none⟩) (Kd.R_types HO118.out BK119.out (by decide)) (fun _ hk => hk.2) (.int .i64 t111)) (fun _ hk => hk.2) (.int .i64 t112)) (fun _ hk => hk.2) (.slice Ao29 t113.length co29)) (fun _ hk => hk.2) (.slice Ao30 t116.length co30)) (fun _ h_ => h_.1))))); (case side4 => exact (Kd.R_reads' HO118.out).2.1); rintro e w32 ⟨v121, rfl, ho0, hb⟩; have n0_ := Aside0.mk (Kd.R_elder' (rU15 ((Kd.R_mono (Kd.R_far (p := ⟨gb119, 3, none⟩) (Kd.R_far (p := ⟨gb119, 2, none⟩) (Kd.R_far (p := ⟨gb119, 1, none⟩) (Kd.R_far (p := ⟨gb119, 0, none⟩) (Kd.R_types HO107.out BK119.out (by decide)) (fun _ hk => hk.2) (.int .i64 t111)) (fun _ hk => hk.2) (.int .i64 t112)) (fun _ hk => hk.2) (.slice Ao29 t113.length co29)) (fun _ hk => hk.2) (.slice Ao30 t116.length co30)) (fun _ h_ => h_.1)))) (Kd.R_base ho0) hb); have n1_ := Aside0.mk (Kd.R_elder' (rU15 ((Kd.R_mono (Kd.R_far (p := ⟨gb119, 3, none⟩) (Kd.R_far (p := ⟨gb119, 2, none⟩) (Kd.R_far (p := ⟨gb119, 1, none⟩) (Kd.R_far (p := ⟨gb119, 0, none⟩) (Kd.R_types HO110.out BK119.out (by decide)) (fun _ hk => hk.2) (.int .i64 t111)) (fun _ hk => hk.2) (.int .i64 t112)) (fun _ hk => hk.2) (.slice Ao29 t113.length co29)) (fun _ hk => hk.2) (.slice Ao30 t116.length co30)) (fun _ h_ => h_.1)))) (Kd.R_base ho0) hb); have n2_ := Aside0.mk (Kd.R_elder' (rU15 ((Kd.R_mono (Kd.R_far (p := ⟨gb119, 3, none⟩) (Kd.R_far (p := ⟨gb119, 2, none⟩) (Kd.R_far (p := ⟨gb119, 1, none⟩) (Kd.R_far (p := ⟨gb119, 0, none⟩) (Kd.R_types HO115.out BK119.out (by decide)) (fun _ hk => hk.2) (.int .i64 t111)) (fun _ hk => hk.2) (.int .i64 t112)) (fun _ hk => hk.2) (.slice Ao29 t113.length co29)) (fun _ hk => hk.2) (.slice Ao30 t116.length co30)) (fun _ h_ => h_.1)))) (Kd.R_base ho0) hb); have n3_ := Aside0.mk (Kd.R_elder' (rU15 ((Kd.R_mono (Kd.R_far (p := ⟨gb119, 3, none⟩) (Kd.R_far (p := ⟨gb119, 2, none⟩) (Kd.R_far (p := ⟨gb119, 1, none⟩) (Kd.R_far (p := ⟨gb119, 0, none⟩) (Kd.R_types HO118.out BK119.out (by decide)) (fun _ hk => hk.2) (.int .i64 t111)) (fun _ hk => hk.2) (.int .i64 t112)) (fun _ hk => hk.2) (.slice Ao29 t113.length co29)) (fun _ hk => hk.2) (.slice Ao30 t116.length co30)) (fun _ h_ => h_.1)))) (Kd.R_base ho0) hb); have n4_ := Aside0.mk (Kd.R_lower (Kd.R_new' (Kd.R_new' (Kd.R_new' (Kd.R_new' ho0 (Kd.R_lt (rU15 ((Kd.R_mono (Kd.R_far (p := ⟨gb119, 3, none⟩) (Kd.R_far (p := ⟨gb119, 2, none⟩) (Kd.R_far (p := ⟨gb119, 1, none⟩) (Kd.R_far (p := ⟨gb119, 0, none⟩) (Kd.R_types HO107.out BK119.out (by decide)) (fun _ hk => hk.2) (.int .i64 t111)) (fun _ hk => hk.2) (.int .i64 t112)) (fun _ hk => hk.2) (.slice Ao29 t113.length co29)) (fun _ hk => hk.2) (.slice Ao30 t116.length co30)) (fun _ h_ => h_.1)))))) (Kd.R_lt (rU15 ((Kd.R_mono (Kd.R_far (p := ⟨gb119, 3, none⟩) (Kd.R_far (p := ⟨gb119, 2, none⟩) (Kd.R_far (p := ⟨gb119, 1, none⟩) (Kd.R_far (p := ⟨gb119, 0, none⟩) (Kd.R_types HO110.out BK119.out (by decide)) (fun _ hk => hk.2) (.int .i64 t111)) (fun _ hk => hk.2) (.int .i64 t112)) (fun _ hk => hk.2) (.slice Ao29 t113.length co29)) (fun _ hk => hk.2) (.slice Ao30 t116.length co30)) (fun _ h_ => h_.1)))))) (Kd.R_lt (rU15 ((Kd.R_mono (Kd.R_far (p := ⟨gb119, 3, none⟩) (Kd.R_far (p := ⟨gb119, 2, none⟩) (Kd.R_far (p := ⟨gb119, 1, none⟩) (Kd.R_far (p := ⟨gb119, 0, none⟩) (Kd.R_types HO115.out BK119.out (by decide)) (fun _ hk => hk.2) (.int .i64 t111)) (fun _ hk => hk.2) (.int .i64 t112)) (fun _ hk => hk.2) (.slice Ao29 t113.length co29)) (fun _ hk => hk.2) (.slice Ao30 t116.length co30)) (fun _ h_ => h_.1)))))) (Kd.R_lt (rU15 ((Kd.R_mono (Kd.R_far (p := ⟨gb119, 3, none⟩) (Kd.R_far (p := ⟨gb119, 2, none⟩) (Kd.R_far (p := ⟨gb119, 1, none⟩) (Kd.R_far (p := ⟨gb119, 0, none⟩) (Kd.R_types HO118.out BK119.out (by decide)) (fun _ hk => hk.2) (.int .i64 t111)) (fun _ hk => hk.2) (.int .i64 t112)) (fun _ hk => hk.2) (.slice Ao29 t113.length co29)) (fun _ hk => hk.2) (.slice Ao30 t116.length co30)) (fun _ h_ => h_.1)))))) (below_size (by repeat (first | (with_reducible first | exact HB.out | apply below_alloc | apply pw_below_drewN | apply below_drew1 | refine below_set ?_ GE119.out) | exact HB.out)))); have n5_ := Aside0.mk (blk_below (g := gb119) (o := .cells #[.int .i64 t111, .int .i64 t112, .slice Ao29 t113.length co29, .slice Ao30 t116.length co30] 32 (0, 0)) (by (with_reducible repeat (first | refine blk_drewN ?_ _ | refine blk_drew ?_ | refine blk_alloc ?_ _)); refine blk_put (cs := #[.int .i64 t111, .int .i64 t112, .slice Ao29 t113.length co29, .slice none 0 0]) ?_ 3 _ rfl; (with_reducible repeat (first | refine blk_drewN ?_ _ | refine blk_drew ?_ | refine blk_alloc ?_ _)); refine blk_put (cs := #[.int .i64 t111, .int .i64 t112, .slice none 0 0, .slice none 0 0]) ?_ 2 _ rfl; (with_reducible repeat (first | refine blk_drewN ?_ _ | refine blk_drew ?_ | refine blk_alloc ?_ _)); refine blk_put (cs := #[.int .i64 t111, .int .i64 0, .slice none 0 0, .slice none 0 0]) ?_ 1 _ rfl; (with_reducible repeat (first | refine blk_drewN ?_ _ | refine blk_drew ?_ | refine blk_alloc ?_ _)); refine blk_put (cs := #[.int .i64 0, .int .i64 0, .slice none 0 0, .slice none 0 0]) ?_ 0 _ rfl; exact bU15 BK119.out) hb); have n6_ := Aside0.mk (below_step (by repeat (first | (with_reducible first | exact HB.out | apply below_alloc | apply pw_below_drewN | apply below_drew1 | refine below_set ?_ GE119.out) | exact HB.out)) hb); clear HO107; clear HO110; clear HO115; clear HO118; clear BK119; clear HB; have HO107 := n0_; have HO110 := n1_; have HO115 := n2_; have HO118 := n3_; have HO122 := n4_; have BK119 := n5_; have HB := n6_; clear n0_ n1_ n2_ n3_ n4_ n5_ n6_; (try clear hb); (try clear hb2); (try clear hk); (try clear hi); (try clear hgw); (try clear ho0); obtain ⟨Ao33, co33, eo33⟩ := Kd.R_slice HO122.out; subst eo33))
  go_ret
  exact ⟨by first | rfl | (simp [errW_none, errW_some] <;> rfl) | (simp [*, errW_none, errW_some] <;> rfl), by repeat (first | (with_reducible first | exact HB.out | apply below_alloc | apply pw_below_drewN | apply below_drew1 | refine below_set ?_ GE119.out) | exact HB.out)⟩
 rw [if_pos c7] at H
 have c7b0 : ((t120.length : Int) == 0) = true := beq_iff_eq.mpr c7
 have c7b1 : ((t120.length : Int) != 0) = false := bne_eq_false_iff_eq.mpr c7
 clear c7
 replace H := Option.bind_eq_some_iff.mp H
 obtain ⟨t123, A80, H⟩ := H
 replace H : (some ((t123.length : Int) == 1)) = some r := H
 have A8 := Aside0.mk A80
 clear A80
 obtain rfl := Option.some.inj H
 go_enter Try.func15, Try.ntmps15
 go_wp2_with (first | ((with_reducible refine gate_dst (N := 7) rfl ?_); (try (refine gate_guard (by rfl) ?_; dsimp only)); refine Kd.R_lit k44 _ 44 ?hg (N := 7) ?hd (xs := ([(⟨1, 2, 0, 0, 0, 0, 0, false⟩ : S44), (⟨2, 3, 0, 0, 0, 0, 0, false⟩ : S44), (⟨1, 3, 0, 0, 0, 0, 0, false⟩ : S44)] : List (S44))) (inner := [.int .i64 1, .int .i64 2, .int .i64 0, .int .i64 0, .int .i64 0, .int .i64 0, .int .i64 0, .bool false, .int .i64 2, .int .i64 3, .int .i64 0, .int .i64 0, .int .i64 0, .int .i64 0, .int .i64 0, .bool false, .int .i64 1, .int .i64 3, .int .i64 0, .int .i64 0, .int .i64 0, .int .i64 0, .int .i64 0, .bool false]) (ok := fun _ => True) (okp := fun _ => True) ?hr ?hp (fun _ hk => hk) trivial (Below.refl _ _) (Nat.le_refl _) (by simp) ?_; (case hd => rfl); (case hg => rfl); (case hr => first | (go_simp; done) | (go_simp; rfl)); (case hp => exact (Reps.c8 (show Kd.M k44 _ _ _ (⟨1, 2, 0, 0, 0, 0, 0, false⟩ : S44) [.int .i64 1, .int .i64 2, .int .i64 0, .int .i64 0, .int .i64 0, .int .i64 0, .int .i64 0, .bool false] from (k44_mkM _ _ _ (⟨1, 2, 0, 0, 0, 0, 0, false⟩ : S44) )) (Reps.c8 (show Kd.M k44 _ _ _ (⟨2, 3, 0, 0, 0, 0, 0, false⟩ : S44) [.int .i64 2, .int .i64 3, .int .i64 0, .int .i64 0, .int .i64 0, .int .i64 0, .int .i64 0, .bool false] from (k44_mkM _ _ _ (⟨2, 3, 0, 0, 0, 0, 0, false⟩ : S44) )) (Reps.c8 (show Kd.M k44 _ _ _ (⟨1, 3, 0, 0, 0, 0, 0, false⟩ : S44) [.int .i64 1, .int .i64 3, .int .i64 0, .int .i64 0, .int .i64 0, .int .i64 0, .int .i64 0, .bool false] from (k44_mkM _ _ _ (⟨1, 3, 0, 0, 0, 0, 0, false⟩ : S44) )) (Reps.none _ _))))); intro v106 w9 ho10 hb hg_ hnew_; clear hg_ hnew_; (first | rw [← Ny105.out] at ho10 | (simp only [Int.reduceToNat] at ho10; rw [← Ny105.out] at ho10)); have n0_ := Aside0.mk (Kd.R_lower ho10 (below_size (hU15 HB.out))); have n1_ := Aside0.mk (below_step (hU15 HB.out) hb); clear HB; have HO107 := n0_; have HB := n1_; clear n0_ n1_; clear hb ho10; obtain ⟨Ao11, co11, eo11⟩ := Kd.R_slice HO107.out; subst eo11) | ((with_reducible refine gate_callee (f := 20) rfl ?_); refine goesL_ (some 10) rfl rfl Try.func20 (by kernel_rfl) rfl #[.slice Ao11 y105.length co11, .int .i64 2, .int .i64 5, .int .i64 4] rfl (by (try simp only [List.map_toArray, List.map_cons, List.map_nil]); first | done | rfl | (simp only [List.length_drop, List.length_take]; rfl)) ?_; (with_reducible refine (ending_Culprit.calls _ _ y105 2 5 4 t108 t111 t112 t113 t116 _ ?side1 ?side2 A1.out).mono ?_); (case side1 => first | exact (Kd.R_reads' HO107.out).2.2 | exact cU15 (Kd.R_reads' HO107.out).2.2); (case side2 => exact (Kd.R_reads' HO107.out).2.1); rintro e w12 ⟨v109, v114, v117, rfl, ho0, ho1, ho2, hb⟩; refine ⟨_, rfl, ?_⟩; have n0_ := Aside0.mk (Kd.R_mono (Kd.R_told (Kd.R_told (Kd.R_told (Kd.R_old (rU15 HO107.out) hb) (Kd.R_base ho0)) (Kd.R_base ho1)) (Kd.R_base ho2)) (fun _ h_ => h_.1)); have n1_ := Aside0.mk (Kd.R_lower (Kd.R_new' ho0 (Kd.R_lt (rU15 HO107.out))) (below_size (hU15 HB.out))); have n2_ := Aside0.mk (Kd.R_lower (Kd.R_new' ho1 (Kd.R_lt (rU15 HO107.out))) (below_size (hU15 HB.out))); have n3_ := Aside0.mk (Kd.R_lower (Kd.R_new' ho2 (Kd.R_lt (rU15 HO107.out))) (below_size (hU15 HB.out))); have n4_ := Aside0.mk (below_step (hU15 HB.out) hb); clear HO107; clear HB; have HO107 := n0_; have HO110 := n1_; have HO115 := n2_; have HO118 := n3_; have HB := n4_; clear n0_ n1_ n2_ n3_ n4_; (try clear hb); (try clear hb2); (try clear hk); (try clear hi); (try clear hgw); (try clear ho0); (try clear ho1); (try clear ho2)) | ((with_reducible refine gate_dst (N := 3) rfl ?_); (try (refine gate_guard (by rfl) ?_; dsimp only)); refine box_event ?hg (N := 3) ?hd (cs := #[.int .i64 0, .int .i64 0, .slice none 0 0, .slice none 0 0]) (t := 32) ?hr ?_; (case hd => rfl); (case hg => rfl); (case hr => first | (go_simp; done) | (go_simp; rfl)); intro gb119 hg w13 hbox hb; have n0_ := Aside0.mk (Kd.R_below (rU15 HO107.out) hb); have n1_ := Aside0.mk (Kd.R_below (rU15 HO110.out) hb); have n2_ := Aside0.mk (Kd.R_below (rU15 HO115.out) hb); have n3_ := Aside0.mk (Kd.R_below (rU15 HO118.out) hb); have n4_ := Aside0.mk (below_step (hU15 HB.out) hb); have n5_ := Aside0.mk (hbox); have n6_ := Aside0.mk ((by rw [hg]; exact (below_size (hU15 HB.out)) : w.heap.size ≤ gb119)); have n7_ := Aside0.mk ((by rw [hg]; exact (below_size (hU15 HB.out)) : w.heap.size ≤ gb119)); clear HO107; clear HO110; clear HO115; clear HO118; clear HB; have HO107 := n0_; have HO110 := n1_; have HO115 := n2_; have HO118 := n3_; have HB := n4_; have BK119 := n5_; have GW119 := n6_; have GE119 := n7_; clear n0_ n1_ n2_ n3_ n4_ n5_ n6_ n7_; clear hb hbox hg; have hcz14 := cz4 BK119.out; have hfz14 := blk_frozen BK119.out; obtain ⟨Ao15, co15, eo15⟩ := Kd.R_slice HO115.out; subst eo15; obtain ⟨Ao16, co16, eo16⟩ := Kd.R_slice HO118.out; subst eo16; obtain ⟨Ao17, co17, eo17⟩ := Kd.R_slice HO110.out; subst eo17) | (go_at_call 26; (with_reducible refine (ending_Lost.calls t111 t112 _ _ t113 _ _ t116 9 t120 _ ?side1 ?side2 ?side3 ?side4 A6.out).mono ?_); (case side1 => refine (Kd.R_reads' (e := 44) (base := w.heap.size) (ok := fun k_ => ((some k_ ≠ (.slice Ao17 t108.length co17 : Value).ownBlock ∧ some k_ ≠ (.slice Ao16 t116.length co16 : Value).ownBlock) ∧ some k_ ≠ (.slice Ao11 y105.length co11 : Value).ownBlock)) (n := t113.length) (c := co15) ?_).2.2; exact (rU15 ((Kd.R_mono (Kd.R_far (p := ⟨gb119, 3, none⟩) (Kd.R_far (p := ⟨gb119, 2, none⟩) (Kd.R_far (p := ⟨gb119, 1, none⟩) (Kd.R_far (p := ⟨gb119, 0, none⟩) (Kd.R_types HO115.out BK119.out (by decide)) (fun _ hk => hk.2) (.int .i64 t111)) (fun _ hk => hk.2) (.int .i64 t112)) (fun _ hk => hk.2) (.slice Ao15 t113.length co15)) (fun _ hk => hk.2) (.slice Ao16 t116.length co16)) (fun _ h_ => h_.1))))); (case side2 => exact (Kd.R_reads' HO115.out).2.1); (case side3 => refine (Kd.R_reads' (e := 44) (base := w.heap.size) (ok := fun k_ => ((some k_ ≠ (.slice Ao17 t108.length co17 : Value).ownBlock ∧ some k_ ≠ (.slice Ao15 t113.length co15 : Value).ownBlock) ∧ some k_ ≠ (.slice Ao11 y105.length co11 : Value).ownBlock)) (n := t116.length) (c := co16) ?_).2.2; exact (rU15 ((Kd.R_mono (Kd.R_far (p := ⟨gb119, 3, none⟩) (Kd.R_far (p := ⟨gb119, 2, none⟩) (Kd.R_far (p := ⟨gb119, 1, none⟩) (Kd.R_far (p := ⟨gb119, 0, none⟩) (Kd.R_types HO118.out BK119.out (by decide)) (fun _ hk => hk.2) (.int .i64 t111)) (fun _ hk => hk.2) (.int .i64 t112)) (fun _ hk => hk.2) (.slice Ao15 t113.length co15)) (fun _ hk => hk.2) (.slice Ao16 t116.length co16)) (fun _ h_ => h_.1))))); (case side4 => exact (Kd.R_reads' HO118.out).2.1); rintro e w18 ⟨v121, rfl, ho0, hb⟩; have n0_ := Aside0.mk (Kd.R_elder' (rU15 ((Kd.R_mono (Kd.R_far (p := ⟨gb119, 3, none⟩) (Kd.R_far (p := ⟨gb119, 2, none⟩) (Kd.R_far (p := ⟨gb119, 1, none⟩) (Kd.R_far (p := ⟨gb119, 0, none⟩) (Kd.R_types HO107.out BK119.out (by decide)) (fun _ hk => hk.2) (.int .i64 t111)) (fun _ hk => hk.2) (.int .i64 t112)) (fun _ hk => hk.2) (.slice Ao15 t113.length co15)) (fun _ hk => hk.2) (.slice Ao16 t116.length co16)) (fun _ h_ => h_.1)))) (Kd.R_base ho0) hb); have n1_ := Aside0.mk (Kd.R_elder' (rU15 ((Kd.R_mono (Kd.R_far (p := ⟨gb119, 3, none⟩) (Kd.R_far (p := ⟨gb119, 2, none⟩) (Kd.R_far (p := ⟨gb119, 1, none⟩) (Kd.R_far (p := ⟨gb119, 0, none⟩) (Kd.R_types HO110.out BK119.out (by decide)) (fun _ hk => hk.2) (.int .i64 t111)) (fun _ hk => hk.2) (.int .i64 t112)) (fun _ hk => hk.2) (.slice Ao15 t113.length co15)) (fun _ hk => hk.2) (.slice Ao16 t116.length co16)) (fun _ h_ => h_.1)))) (Kd.R_base ho0) hb); have n2_ := Aside0.mk (Kd.R_elder' (rU15 ((Kd.R_mono (Kd.R_far (p := ⟨gb119, 3, none⟩) (Kd.R_far (p := ⟨gb119, 2, none⟩) (Kd.R_far (p := ⟨gb119, 1, none⟩) (Kd.R_far (p := ⟨gb119, 0, none⟩) (Kd.R_types HO115.out BK119.out (by decide)) (fun _ hk => hk.2) (.int .i64 t111)) (fun _ hk => hk.2) (.int .i64 t112)) (fun _ hk => hk.2) (.slice Ao15 t113.length co15)) (fun _ hk => hk.2) (.slice Ao16 t116.length co16)) (fun _ h_ => h_.1)))) (Kd.R_base ho0) hb); have n3_ := Aside0.mk (Kd.R_elder' (rU15 ((Kd.R_mono (Kd.R_far (p := ⟨gb119, 3, none⟩) (Kd.R_far (p := ⟨gb119, 2, none⟩) (Kd.R_far (p := ⟨gb119, 1, none⟩) (Kd.R_far (p := ⟨gb119, 0, none⟩) (Kd.R_types HO118.out BK119.out (by decide)) (fun _ hk => hk.2) (.int .i64 t111)) (fun _ hk => hk.2) (.int .i64 t112)) (fun _ hk => hk.2) (.slice Ao15 t113.length co15)) (fun _ hk => hk.2) (.slice Ao16 t116.length co16)) (fun _ h_ => h_.1)))) (Kd.R_base ho0) hb); have n4_ := Aside0.mk (Kd.R_lower (Kd.R_new' (Kd.R_new' (Kd.R_new' (Kd.R_new' ho0 (Kd.R_lt (rU15 ((Kd.R_mono (Kd.R_far (p := ⟨gb119, 3, none⟩) (Kd.R_far (p := ⟨gb119, 2, none⟩) (Kd.R_far (p := ⟨gb119, 1, none⟩) (Kd.R_far (p := ⟨gb119, 0, none⟩) (Kd.R_types HO107.out BK119.out (by decide)) (fun _ hk => hk.2) (.int .i64 t111)) (fun _ hk => hk.2) (.int .i64 t112)) (fun _ hk => hk.2) (.slice Ao15 t113.length co15)) (fun _ hk => hk.2) (.slice Ao16 t116.length co16)) (fun _ h_ => h_.1)))))) (Kd.R_lt (rU15 ((Kd.R_mono (Kd.R_far (p := ⟨gb119, 3, none⟩) (Kd.R_far (p := ⟨gb119, 2, none⟩) (Kd.R_far (p := ⟨gb119, 1, none⟩) (Kd.R_far (p := ⟨gb119, 0, none⟩) (Kd.R_types HO110.out BK119.out (by decide)) (fun _ hk => hk.2) (.int .i64 t111)) (fun _ hk => hk.2) (.int .i64 t112)) (fun _ hk => hk.2) (.slice Ao15 t113.length co15)) (fun _ hk => hk.2) (.slice Ao16 t116.length co16)) (fun _ h_ => h_.1)))))) (Kd.R_lt (rU15 ((Kd.R_mono (Kd.R_far (p := ⟨gb119, 3, none⟩) (Kd.R_far (p := ⟨gb119, 2, none⟩) (Kd.R_far (p := ⟨gb119, 1, none⟩) (Kd.R_far (p := ⟨gb119, 0, none⟩) (Kd.R_types HO115.out BK119.out (by decide)) (fun _ hk => hk.2) (.int .i64 t111)) (fun _ hk => hk.2) (.int .i64 t112)) (fun _ hk => hk.2) (.slice Ao15 t113.length co15)) (fun _ hk => hk.2) (.slice Ao16 t116.length co16)) (fun _ h_ => h_.1)))))) (Kd.R_lt (rU15 ((Kd.R_mono (Kd.R_far (p := ⟨gb119, 3, none⟩) (Kd.R_far (p := ⟨gb119, 2, none⟩) (Kd.R_far (p := ⟨gb119, 1, none⟩) (Kd.R_far (p := ⟨gb119, 0, none⟩) (Kd.R_types HO118.out BK119.out (by decide)) (fun _ hk => hk.2) (.int .i64 t111)) (fun _ hk => hk.2) (.int .i64 t112)) (fun _ hk => hk.2) (.slice Ao15 t113.length co15)) (fun _ hk => hk.2) (.slice Ao16 t116.length co16)) (fun _ h_ => h_.1)))))) (below_size (by repeat (first | (with_reducible first | exact HB.out | apply below_alloc | apply pw_below_drewN | apply below_drew1 | refine below_set ?_ GE119.out) | exact HB.out)))); have n5_ := Aside0.mk (blk_below (g := gb119) (o := .cells #[.int .i64 t111, .int .i64 t112, .slice Ao15 t113.length co15, .slice Ao16 t116.length co16] 32 (0, 0)) (by (with_reducible repeat (first | refine blk_drewN ?_ _ | refine blk_drew ?_ | refine blk_alloc ?_ _)); refine blk_put (cs := #[.int .i64 t111, .int .i64 t112, .slice Ao15 t113.length co15, .slice none 0 0]) ?_ 3 _ rfl; (with_reducible repeat (first | refine blk_drewN ?_ _ | refine blk_drew ?_ | refine blk_alloc ?_ _)); refine blk_put (cs := #[.int .i64 t111, .int .i64 t112, .slice none 0 0, .slice none 0 0]) ?_ 2 _ rfl; (with_reducible repeat (first | refine blk_drewN ?_ _ | refine blk_drew ?_ | refine blk_alloc ?_ _)); refine blk_put (cs := #[.int .i64 t111, .int .i64 0, .slice none 0 0, .slice none 0 0]) ?_ 1 _ rfl; (with_reducible repeat (first | refine blk_drewN ?_ _ | refine blk_drew ?_ | refine blk_alloc ?_ _)); refine blk_put (cs := #[.int .i64 0, .int .i64 0, .slice none 0 0, .slice none 0 0]) ?_ 0 _ rfl; exact bU15 BK119.out) hb); have n6_ := Aside0.mk (below_step (by repeat (first | (with_reducible first | exact HB.out | apply below_alloc | apply pw_below_drewN | apply below_drew1 | refine below_set ?_ GE119.out) | exact HB.out)) hb); clear HO107; clear HO110; clear HO115; clear HO118; clear BK119; clear HB; have HO107 := n0_; have HO110 := n1_; have HO115 := n2_; have HO118 := n3_; have HO122 := n4_; have BK119 := n5_; have HB := n6_; clear n0_ n1_ n2_ n3_ n4_ n5_ n6_; (try clear hb); (try clear hb2); (try clear hk); (try clear hi); (try clear hgw); (try clear ho0); obtain ⟨Ao19, co19, eo19⟩ := Kd.R_slice HO122.out; subst eo19; have hcz20 := cz4 BK119.out; have hfz20 := blk_frozen BK119.out) | (go_at_call 26; (with_reducible refine (ending_Lost.calls t111 t112 _ _ t113 _ _ t116 10 t123 _ ?side1 ?side2 ?side3 ?side4 A8.out).mono ?_); (case side1 => first | exact (Kd.R_reads' HO115.out).2.2 | exact cU15 (Kd.R_reads' HO115.out).2.2); (case side2 => exact (Kd.R_reads' HO115.out).2.1); (case side3 => first | exact (Kd.R_reads' HO118.out).2.2 | exact cU15 (Kd.R_reads' HO118.out).2.2); (case side4 => exact (Kd.R_reads' HO118.out).2.1); rintro e w21 ⟨v124, rfl, ho0, hb⟩; have n0_ := Aside0.mk (Kd.R_elder' (rU15 HO107.out) (Kd.R_base ho0) hb); have n1_ := Aside0.mk (Kd.R_elder' (rU15 HO110.out) (Kd.R_base ho0) hb); have n2_ := Aside0.mk (Kd.R_elder' (rU15 HO115.out) (Kd.R_base ho0) hb); have n3_ := Aside0.mk (Kd.R_elder' (rU15 HO118.out) (Kd.R_base ho0) hb); have n4_ := Aside0.mk (Kd.R_elder' (rU15 HO122.out) (Kd.R_base ho0) hb); have n5_ := Aside0.mk (Kd.R_lower (Kd.R_new' (Kd.R_new' (Kd.R_new' (Kd.R_new' (Kd.R_new' ho0 (Kd.R_lt (rU15 HO107.out))) (Kd.R_lt (rU15 HO110.out))) (Kd.R_lt (rU15 HO115.out))) (Kd.R_lt (rU15 HO118.out))) (Kd.R_lt (rU15 HO122.out))) (below_size (by repeat (first | (with_reducible first | exact HB.out | apply below_alloc | apply pw_below_drewN | apply below_drew1 | refine below_set ?_ GE119.out) | exact HB.out)))); have n6_ := Aside0.mk (blk_below (g := gb119) (bU15 BK119.out) hb); have n7_ := Aside0.mk (below_step (by repeat (first | (with_reducible first | exact HB.out | apply below_alloc | apply pw_below_drewN | apply below_drew1 | refine below_set ?_ GE119.out) | exact HB.out)) hb); clear HO107; clear HO110; clear HO115; clear HO118; clear HO122; clear BK119; clear HB; have HO107 := n0_; have HO110 := n1_; have HO115 := n2_; have HO118 := n3_; have HO122 := n4_; have HO125 := n5_; have BK119 := n6_; have HB := n7_; clear n0_ n1_ n2_ n3_ n4_ n5_ n6_ n7_; (try clear hb); (try clear hb2); (try clear hk); (try clear hi); (try clear hgw); (try clear ho0); obtain ⟨Ao22, co22, eo22⟩ := Kd.R_slice HO125.out; subst eo22))
 go_ret
 exact ⟨by first | rfl | (simp [errW_none, errW_some] <;> rfl) | (simp [*, errW_none, errW_some] <;> rfl), by repeat (first | (with_reducible first | exact HB.out | apply below_alloc | apply pw_below_drewN | apply below_drew1 | refine below_set ?_ GE119.out) | exact HB.out)⟩
/-- A state of type 84 at block g of W; what its slices lead to came in by w0. -/
def IsS84 (w0 W : World) (g : Nat) (f0 : List Int) (f1 : Int) : Prop := ∃ A0 c0, W.heap[g]? = some (.cells #[.slice A0 f0.length c0, .int .i64 f1] 84 (0, 0)) ∧ w0.heap.size ≤ g ∧ Kd.C (Kd.int .u8) w0 A0 f0.length f0
theorem IsS84.grown {w0 W : World} {g : Nat} {f0 : List Int} {f1 : Int} {W1 : World} {row : Option Nat} (h : IsS84 w0 W g f0 f1) (hw : W.grownBy W1 row) (hne : some g ≠ row) : IsS84 w0 W1 g f0 f1 := by
  obtain ⟨A0, c0, hb, hg, hr0⟩ := h
  exact ⟨A0, c0, blk_grown hb hw hne, hg, hr0⟩
theorem IsS84.own_neN {w0 W : World} {g : Nat} {f0 : List Int} {f1 : Int} {α : Type} {d : Kd α} {e : Nat} {base : Nat} {ok : Nat → Prop} {v : Value} {xs : List α} (h : IsS84 w0 W g f0 f1) (ho : Kd.N d e W base ok v xs) (ht : e ≠ 84) : some g ≠ v.ownBlock := by
  obtain ⟨A0, c0, hb, hg, hr0⟩ := h
  exact Kd.N_ne ho hb ht
theorem IsS84.fresh {w0 W : World} {g : Nat} {f0 : List Int} {f1 : Int} (h : IsS84 w0 W g f0 f1) : ∀ k, W.heap.size ≤ k → k ≠ g := by
  obtain ⟨A0, c0, hb, hg, hr0⟩ := h
  exact Kd.freshB hb
theorem IsS84.kept {w0 W : World} {g : Nat} {f0 : List Int} {f1 : Int} {W1 : World} {S : Nat → Prop} (h : IsS84 w0 W g f0 f1) (hk : Kept W W1 S) (hne : ¬ S g) : IsS84 w0 W1 g f0 f1 := by
  obtain ⟨A0, c0, hb, hg, hr0⟩ := h
  exact ⟨A0, c0, blk_kept hb hk hne, hg, hr0⟩
theorem IsS84.below {w0 W : World} {g : Nat} {f0 : List Int} {f1 : Int} {W1 : World} (h : IsS84 w0 W g f0 f1) (hw : Below W.heap.size W W1) : IsS84 w0 W1 g f0 f1 := h.grown (grown_of_below hw none) (by simp)
theorem IsS84.alloc {w0 W : World} {g : Nat} {f0 : List Int} {f1 : Int} (h : IsS84 w0 W g f0 f1) (o : Obj) : IsS84 w0 (W.alloc o) g f0 f1 := h.below (below_alloc (Below.refl _ _) o)
theorem IsS84.drewN {w0 W : World} {g : Nat} {f0 : List Int} {f1 : Int} (h : IsS84 w0 W g f0 f1) (m : Nat) : IsS84 w0 (W.drewN m) g f0 f1 := h
theorem IsS84.drew {w0 W : World} {g : Nat} {f0 : List Int} {f1 : Int} (h : IsS84 w0 W g f0 f1) : IsS84 w0 W.drew g f0 f1 := h
theorem IsS84.at_ {w0 W : World} {g : Nat} {f0 : List Int} {f1 : Int} {w' : World} {m : Nat} (hq : W.drewN m = w') (h : IsS84 w0 W g f0 f1) : IsS84 w0 w' g f0 f1 := by subst hq; exact IsS84.drewN h m
theorem IsS84.apart {w0 W : World} {g : Nat} {f0 : List Int} {f1 : Int} {α : Type} {d : Kd α} {e : Nat} {base : Nat} {ok : Nat → Prop} {v : Value} {xs : List α} (h : IsS84 w0 W g f0 f1) (ho : d.R e W base ok v xs) (ht : ∀ q, q ∈ e :: d.E → q ≠ 84) : d.R e W base (fun k => ok k ∧ k ≠ g) v xs := by
  obtain ⟨A0, c0, hb, hg, hr0⟩ := h
  exact Kd.R_types ho hb ht
theorem IsS84.own_ne {w0 W : World} {g : Nat} {f0 : List Int} {f1 : Int} {α : Type} {d : Kd α} {e : Nat} {base : Nat} {ok : Nat → Prop} {v : Value} {xs : List α} (h : IsS84 w0 W g f0 f1) (ho : d.R e W base ok v xs) (ht : e ≠ 84) : some g ≠ v.ownBlock := by
  obtain ⟨A0, c0, hb, hg, hr0⟩ := h
  exact Kd.R_ne ho hb ht
theorem IsS84.apartQ {w0 W : World} {g : Nat} {f0 : List Int} {f1 : Int} {α : Type} {d : Kd α} {e : Nat} {base : Nat} {ok : Nat → Prop} {v : Value} {xs : List α} (h : IsS84 w0 W g f0 f1) (ho : d.Q e W base ok v xs) (ht : ∀ q, q ∈ e :: d.E → q ≠ 84) : d.Q e W base (fun k => ok k ∧ k ≠ g) v xs := by
  obtain ⟨A0, c0, hb, hg, hr0⟩ := h
  exact Kd.Q_types ho hb ht
theorem IsS84.own_neQ {w0 W : World} {g : Nat} {f0 : List Int} {f1 : Int} {α : Type} {d : Kd α} {e : Nat} {base : Nat} {ok : Nat → Prop} {v : Value} {xs : List α} (h : IsS84 w0 W g f0 f1) (ho : d.Q e W base ok v xs) (ht : e ≠ 84) : some g ≠ v.ownBlock := by
  obtain ⟨A0, c0, hb, hg, hr0⟩ := h
  exact Kd.Q_ne ho hb ht
theorem IsS84.apartS {w0 W : World} {g : Nat} {f0 : List Int} {f1 : Int} {α : Type} {d : Kd α} {e : Nat} {base : Nat} {ok : Nat → Prop} {v : Value} {xs : List α} (h : IsS84 w0 W g f0 f1) (ho : d.S e W base ok v xs) (ht : ∀ q, q ∈ e :: d.E → q ≠ 84) : d.S e W base (fun k => ok k ∧ k ≠ g) v xs := by
  obtain ⟨A0, c0, hb, hg, hr0⟩ := h
  exact Kd.S_types ho hb ht
theorem IsS84.own_neS {w0 W : World} {g : Nat} {f0 : List Int} {f1 : Int} {α : Type} {d : Kd α} {e : Nat} {base : Nat} {ok : Nat → Prop} {v : Value} {xs : List α} (h : IsS84 w0 W g f0 f1) (ho : d.S e W base ok v xs) (ht : e ≠ 84) : some g ≠ v.ownBlock := by
  obtain ⟨A0, c0, hb, hg, hr0⟩ := h
  exact Kd.S_ne ho hb ht
theorem IsS84.lt {w0 W : World} {g : Nat} {f0 : List Int} {f1 : Int} (h : IsS84 w0 W g f0 f1) : g < W.heap.size := by
  obtain ⟨A0, c0, hb, hg, hr0⟩ := h
  exact blk_lt hb
theorem IsS84.ge {w0 W : World} {g : Nat} {f0 : List Int} {f1 : Int} (h : IsS84 w0 W g f0 f1) : w0.heap.size ≤ g := by
  obtain ⟨A0, c0, hb, hg, hr0⟩ := h
  exact hg
theorem IsS84.ne_blk {w0 W : World} {g : Nat} {f0 : List Int} {f1 : Int} {a : Nat} {cs : Array Value} {t : TypeId} {fr : Nat × Nat} (h : IsS84 w0 W g f0 f1) (hb2 : W.heap[a]? = some (.cells cs t fr)) (ht : t ≠ 84) : g ≠ a := by
  obtain ⟨A0, c0, hb, hg, hr0⟩ := h
  rintro rfl
  rw [hb] at hb2
  injection hb2 with hb2
  injection hb2 with _ ht2
  exact ht ht2.symm
theorem IsS84.far {w0 W : World} {g : Nat} {f0 : List Int} {f1 : Int} {p : Addr} (h : IsS84 w0 W g f0 f1) (hne : g ≠ p.block) (u : Value) : IsS84 w0 (W.setCell p u) g f0 f1 := by
  obtain ⟨A0, c0, hb, hg, hr0⟩ := h
  exact ⟨A0, c0, blk_far hb hne u, hg, hr0⟩
theorem cellS84_0 {W : World} {g : Nat} {A0 : Option Addr} {c0 : Nat} {f0 : List Int} {f1 : Int} (h : W.heap[g]? = some (.cells #[.slice A0 f0.length c0, .int .i64 f1] 84 (0, 0))) : W.cell? ⟨g, 0, none⟩ = some (.slice A0 f0.length c0) := (blk_cell h 0).trans rfl
theorem cellS84_1 {W : World} {g : Nat} {A0 : Option Addr} {c0 : Nat} {f0 : List Int} {f1 : Int} (h : W.heap[g]? = some (.cells #[.slice A0 f0.length c0, .int .i64 f1] 84 (0, 0))) : W.cell? ⟨g, 1, none⟩ = some (.int .i64 f1) := (blk_cell h 1).trans rfl
theorem IsS84.set_1 {w0 W : World} {g : Nat} {f0 : List Int} {f1 : Int} (h : IsS84 w0 W g f0 f1) (x : Int) : IsS84 w0 (W.setCell ⟨g, 1, none⟩ (.int .i64 x)) g f0 x := by
  obtain ⟨A0, c0, hb, hg, hr0⟩ := h
  exact ⟨A0, c0, by simpa using blk_set hb 1 (.int .i64 x), hg, hr0⟩
theorem IsS84.new (w0 W : World) (A0 : Option Addr) (c0 : Nat) (f0 : List Int) (f1 : Int) (hB : Below w0.heap.size w0 W) (hr0 : Kd.C (Kd.int .u8) w0 A0 f0.length f0) : IsS84 w0 (W.alloc (.cells #[.slice A0 f0.length c0, .int .i64 f1] 84)) W.heap.size f0 f1 := ⟨A0, c0, by simpa using heap_alloc_new W _, hB.size, hr0⟩

/-! ### storagebarterplay_New: function 16 -/
def storagebarterplay_New.f (l0 : List Int) : Option (List Int × Int) := if (l0.length : Int) > 300 then (if 300 ≤ (l0.length : Int) then (some (l0.take 300, 0)) else (none)) else (some (l0, 0))
set_option maxHeartbeats 8000000 in
set_option maxRecDepth 100000 in
theorem storagebarterplay_New.calls (A0 : Option Addr) (c0 : Nat) (l0 : List Int) (r1 : List Int) (r2 : Int) (w0 w : World) (hB : Below w0.heap.size w0 w) (hr0 : Kd.C (Kd.int .u8) w0 A0 l0.length l0) (hc0 : l0.length ≤ c0) (h : storagebarterplay_New.f l0 = some (r1, r2)) :
  Calls Try.prog 16 #[.slice A0 l0.length c0] w fun e w' => ∃ g_ : Nat, e = .returned (.pointer (some ⟨g_, 0, none⟩)) ∧ IsS84 w0 w' g_ r1 r2 ∧ Below w0.heap.size w0 w' ∧ Below w.heap.size w w' ∧ w.heap.size ≤ g_ := by
 have hu84 := Try.underlying84
 have HR0 := Aside0.mk hr0
 have HC0 := Aside0.mk hc0
 clear hr0 hc0
 have HBW := Aside0.mk (Below.refl w.heap.size w)
 have HW0 := Aside0.mk hB.size
 have HB := Aside0.mk hB
 clear hB
 have H : (if (l0.length : Int) > 300 then (if 300 ≤ (l0.length : Int) then (some (l0.take 300, 0)) else (none)) else (some (l0, 0))) = some (r1, r2) := h
 clear h
 by_cases c2 : (l0.length : Int) > 300
 case neg =>
  rw [if_neg c2] at H
  have c2b0 : decide (300 < (l0.length : Int)) = false := decide_eq_false c2
  have c2b1 : decide (300 < l0.length) = false := decide_eq_false (by omega)
  clear c2
  simp only [Option.some.injEq, Prod.mk.injEq] at H
  obtain ⟨rfl, rfl⟩ := H
  go_enter Try.func16, Try.ntmps16
  go_wp2_with (first | ((with_reducible refine gate_dst (N := 10) rfl ?_); refine box_event ?hg (N := 10) ?hd (cs := #[.slice A0 l0.length c0, .int .i64 0]) (t := 84) ?hr ?_; (case hd => rfl); (case hg => rfl); (case hr => first | (go_simp; done) | (go_simp; rfl)); intro gb128 hg w6 hbox hb; have n0_ := Aside0.mk (below_step HBW.out hb); have n1_ := Aside0.mk (below_step (by repeat (first | (with_reducible first | exact HB.out | apply below_alloc | apply pw_below_drewN | apply below_drew1) | exact HB.out)) hb); have n2_ := Aside0.mk (hbox); have n3_ := Aside0.mk ((by rw [hg]; exact (below_size (by repeat (first | (with_reducible first | exact HBW.out | apply below_alloc | apply pw_below_drewN | apply below_drew1) | exact HBW.out))) : w.heap.size ≤ gb128)); have n4_ := Aside0.mk ((Nat.le_trans HW0.out (by rw [hg]; exact (below_size (by repeat (first | (with_reducible first | exact HBW.out | apply below_alloc | apply pw_below_drewN | apply below_drew1) | exact HBW.out))) : w.heap.size ≤ gb128) : w0.heap.size ≤ gb128)); clear HBW; clear HB; have HBW := n0_; have HB := n1_; have BK128 := n2_; have GW128 := n3_; have GE128 := n4_; clear n0_ n1_ n2_ n3_ n4_; clear hb hbox hg))
  go_ret
  exact ⟨_, rfl, (show IsS84 w0 _ gb128 l0 0 from ⟨_, _, by (with_reducible repeat (first | refine blk_drewN ?_ _ | refine blk_drew ?_ | refine blk_alloc ?_ _)); exact BK128.out, GE128.out, HR0.out⟩), by repeat (first | (with_reducible first | exact HB.out | apply below_alloc | apply pw_below_drewN | apply below_drew1 | refine below_set ?_ GE128.out) | exact HB.out), by repeat (first | (with_reducible first | exact HBW.out | apply below_alloc | apply pw_below_drewN | apply below_drew1 | refine below_set ?_ GW128.out) | exact HBW.out), GW128.out⟩


 rw [if_pos c2] at H
 have c2b0 : decide (300 < (l0.length : Int)) = true := decide_eq_true c2
 have c2b1 : decide (300 < l0.length) = true := decide_eq_true (by omega)
 clear c2
 by_cases c3 : 300 ≤ (l0.length : Int)
 case neg =>
  rw [if_neg c3] at H
  exact absurd H (by simp)
 rw [if_pos c3] at H
 have c3b0 := eq_true c3
 have c3b1 : decide (300 ≤ (l0.length : Int)) = true := decide_eq_true c3
 clear c3
 simp only [Option.some.injEq, Prod.mk.injEq] at H
 obtain ⟨rfl, rfl⟩ := H
 obtain ⟨i04, hi04, _, hsz4, _⟩ := info_parts info5
 obtain ⟨hcut4, hA4, hC4⟩ := print_take_of (P := Try.prog) (Value.int .u8) 0 22 5 .i64 Try.underlying22 hi04 hsz4 A0 c0 l0 300 (by omega) (of_decide_eq_true (by first | (with_reducible assumption) | assumption)) HC0.out
 have HR126 := Aside0.mk (Kd.C_of_reads (h1 := fun _ => rfl) (hA4 _ (Kd.reads_of_C HR0.out)))
 have HC126 := Aside0.mk hC4
 clear hA4 hC4 hi04 hsz4
 go_enter Try.func16, Try.ntmps16
 go_wp2_with (first | ((with_reducible refine gate_dst (N := 10) rfl ?_); refine box_event ?hg (N := 10) ?hd (cs := #[.slice A0 (l0.take 300).length c0, .int .i64 0]) (t := 84) ?hr ?_; (case hd => rfl); (case hg => rfl); (case hr => first | (go_simp; done) | (go_simp; rfl)); intro gb127 hg w5 hbox hb; have n0_ := Aside0.mk (below_step HBW.out hb); have n1_ := Aside0.mk (below_step (by repeat (first | (with_reducible first | exact HB.out | apply below_alloc | apply pw_below_drewN | apply below_drew1) | exact HB.out)) hb); have n2_ := Aside0.mk (hbox); have n3_ := Aside0.mk ((by rw [hg]; exact (below_size (by repeat (first | (with_reducible first | exact HBW.out | apply below_alloc | apply pw_below_drewN | apply below_drew1) | exact HBW.out))) : w.heap.size ≤ gb127)); have n4_ := Aside0.mk ((Nat.le_trans HW0.out (by rw [hg]; exact (below_size (by repeat (first | (with_reducible first | exact HBW.out | apply below_alloc | apply pw_below_drewN | apply below_drew1) | exact HBW.out))) : w.heap.size ≤ gb127) : w0.heap.size ≤ gb127)); clear HBW; clear HB; have HBW := n0_; have HB := n1_; have BK127 := n2_; have GW127 := n3_; have GE127 := n4_; clear n0_ n1_ n2_ n3_ n4_; clear hb hbox hg))
 go_ret
 exact ⟨_, rfl, (show IsS84 w0 _ gb127 (l0.take 300) 0 from ⟨_, _, by (with_reducible repeat (first | refine blk_drewN ?_ _ | refine blk_drew ?_ | refine blk_alloc ?_ _)); exact BK127.out, GE127.out, HR126.out⟩), by repeat (first | (with_reducible first | exact HB.out | apply below_alloc | apply pw_below_drewN | apply below_drew1 | refine below_set ?_ GE127.out) | exact HB.out), by repeat (first | (with_reducible first | exact HBW.out | apply below_alloc | apply pw_below_drewN | apply below_drew1 | refine below_set ?_ GW127.out) | exact HBW.out), GW127.out⟩
theorem storagebarterplay_New.short (l0 : List Int) : ∃ s, storagebarterplay_New.f l0 = some (s, 0) ∧ s.length ≤ 300 := by
  unfold storagebarterplay_New.f
  split
  · rw [if_pos (by omega)]; exact ⟨_, rfl, by simp; omega⟩
  · exact ⟨_, rfl, by omega⟩

/-! ### storagebarterplay_Dice_Pick: function 18 -/
def storagebarterplay_Dice_Pick.f (s0_0 : List Int) (s0_1 : Int) (a1 : Int) : Option (Int × Int) := if s0_1 ≥ (s0_0.length : Int) then (some (0, s0_1)) else (if 0 ≤ (wrap64 ((wrap64 (s0_1 + 1)) - 1)) then (if (wrap64 ((wrap64 (s0_1 + 1)) - 1)) < (s0_0.length : Int) then (if a1 = 0 then (none) else (some (Int.tmod (wrap64 (rd s0_0 (wrap64 ((wrap64 (s0_1 + 1)) - 1)))) a1, wrap64 (s0_1 + 1)))) else (none)) else (none))
set_option maxHeartbeats 8000000 in
set_option maxRecDepth 100000 in
theorem storagebarterplay_Dice_Pick.calls (g : Nat) (s0_0 : List Int) (s0_1 : Int) (a1 : Int) (r1 : Int) (r2 : Int) (w0 w : World) (hI : IsS84 w0 w g s0_0 s0_1) (hB : Below w0.heap.size w0 w) (h : storagebarterplay_Dice_Pick.f s0_0 s0_1 a1 = some (r1, r2)) :
  Calls Try.prog 18 #[.pointer (some ⟨g, 0, none⟩), .int .i64 a1] w fun e w' => e = .returned (.int .i64 r1) ∧ IsS84 w0 w' g s0_0 r2 ∧ Below w0.heap.size w0 w' ∧ KeepBut w w' g none := by
 have HI0 := Aside0.mk hI
 have HK := Aside0.mk (KeepBut.refl w g none)
 have HL := Aside0.mk hB.size
 clear hI
 have HW0 := Aside0.mk hB.size
 have HB := Aside0.mk hB
 clear hB
 have H : (if s0_1 ≥ (s0_0.length : Int) then (some (0, s0_1)) else (if 0 ≤ (wrap64 ((wrap64 (s0_1 + 1)) - 1)) then (if (wrap64 ((wrap64 (s0_1 + 1)) - 1)) < (s0_0.length : Int) then (if a1 = 0 then (none) else (some (Int.tmod (wrap64 (rd s0_0 (wrap64 ((wrap64 (s0_1 + 1)) - 1)))) a1, wrap64 (s0_1 + 1)))) else (none)) else (none))) = some (r1, r2) := h
 clear h
 by_cases c3 : s0_1 ≥ (s0_0.length : Int)
 case pos =>
  rw [if_pos c3] at H
  have c3b0 : decide ((s0_0.length : Int) ≤ s0_1) = true := decide_eq_true c3
  clear c3
  simp only [Option.some.injEq, Prod.mk.injEq] at H
  obtain ⟨rfl, rfl⟩ := H
  obtain ⟨ASz4_0, cSz4_0, HGz4, hgz4, HSz4_0⟩ := HI0.out
  have hcz4_0 := cellS84_0 HGz4
  have hcz4_1 := cellS84_1 HGz4
  have hfz4_1 := blk_frozen HGz4 1
  clear HGz4 hgz4
  go_enter Try.func18, Try.ntmps18
  go_wp2
  repeat (go_quiet (fail); try go_wp2)
  go_ret
  exact ⟨by first | rfl | (simp [errW_none, errW_some] <;> rfl) | (simp [*, errW_none, errW_some] <;> rfl), by repeat (first | (with_reducible first | exact HI0.out | apply IsS84.alloc | apply IsS84.drewN | apply IsS84.drew | apply IsS84.set_1) | exact HI0.out), by repeat (first | (with_reducible first | exact HB.out | apply below_alloc | apply pw_below_drewN | apply below_drew1 | refine below_set ?_ (IsS84.ge HI0.out)) | exact HB.out), by repeat (first | (with_reducible first | exact HK.out | apply KeepBut.set_ | apply keep_drewN | apply keep_drew | apply keep_alloc) | exact HK.out)⟩
 rw [if_neg c3] at H
 have c3b0 : decide ((s0_0.length : Int) ≤ s0_1) = false := decide_eq_false c3
 clear c3
 obtain ⟨ji5, hji5⟩ : ∃ j_ : Int, (wrap64 ((wrap64 (s0_1 + 1)) - 1)) = j_ := ⟨_, rfl⟩
 replace H : (if 0 ≤ (ji5) then (if (ji5) < (s0_0.length : Int) then (if a1 = 0 then (none) else (some (Int.tmod (wrap64 (rd s0_0 (ji5))) a1, wrap64 (s0_1 + 1)))) else (none)) else (none)) = some (r1, r2) := by first | (rw [hji5] at H; exact H) | (simp only [hji5] at H ⊢; exact H)
 have hji5w : (IntKind.i64.wrap ((wrap64 (s0_1 + 1)) - 1)) = ji5 := (i64_w _).trans hji5
 by_cases c6 : 0 ≤ (ji5)
 case neg =>
  rw [if_neg c6] at H
  exact absurd H (by simp)


 rw [if_pos c6] at H
 have c6b0 : decide (0 ≤ (ji5)) = true := decide_eq_true c6
 clear c6
 by_cases c7 : (ji5) < (s0_0.length : Int)
 case neg =>
  rw [if_neg c7] at H
  exact absurd H (by simp)
 rw [if_pos c7] at H
 have c7b0 : decide ((ji5) < (s0_0.length : Int)) = true := decide_eq_true c7
 clear c7
 by_cases c8 : a1 = 0
 case pos =>
  rw [if_pos c8] at H
  exact absurd H (by simp)
 rw [if_neg c8] at H
 have c8b0 : (a1 == 0) = false := beq_eq_false_iff_ne.mpr c8
 have c8b1 : (a1 != 0) = true := bne_iff_ne.mpr c8
 simp only [Option.some.injEq, Prod.mk.injEq] at H
 obtain ⟨rfl, rfl⟩ := H
 obtain ⟨ASz9_0, cSz9_0, HGz9, hgz9, HSz9_0⟩ := HI0.out
 have hcz9_0 := cellS84_0 HGz9
 have hcz9_1 := cellS84_1 HGz9
 have hfz9_1 := blk_frozen HGz9 1
 clear HGz9 hgz9
 have p129 : 0 ≤ ((ji5) : Int) := of_decide_eq_true (by first | (with_reducible assumption) | assumption)
 have q129 : (ji5) < (s0_0.length : Int) := of_decide_eq_true (by first | (with_reducible assumption) | assumption)
 obtain ⟨ad129, e129, hx129_0⟩ := Kd.at_int HSz9_0 (ji5) p129 q129
 cases e129
 have hn129_0 : ad129.block ≠ g := Nat.ne_of_lt (Nat.lt_of_lt_of_le (by have := World.block_lt_of_cell? _ _ hx129_0; first | rwa [add_block] at this | exact this) (IsS84.ge HI0.out))
 replace hx129_0 := pw_cell_below HB.out hx129_0
 replace hx129_0 := (cell_far (p := ⟨g, 1, none⟩) (by first | (rw [add_block]; exact hn129_0) | (show (Addr.add _ _).block ≠ _; rw [add_block]; exact hn129_0) | exact hn129_0) (.int .i64 (wrap64 (s0_1 + 1)))).trans hx129_0
 (try have hy129_0 := fun (n_ : Nat) => (show (((w.drewN n_).setCell ⟨g, 1, none⟩ (.int .i64 (wrap64 (s0_1 + 1))))).cell? _ = some _ from hx129_0))
 clear hn129_0
 replace p129 := eq_true p129
 replace q129 := eq_true q129
 go_enter Try.func18, Try.ntmps18
 go_wp2
 repeat (go_quiet (fail); try go_wp2)
 go_ret
 exact ⟨by first | rfl | (simp [errW_none, errW_some] <;> rfl) | (simp only [← hji5]; first | rfl | (simp [errW_none, errW_some] <;> rfl)) | (simp [*, errW_none, errW_some] <;> rfl), by repeat (first | (with_reducible first | exact HI0.out | apply IsS84.alloc | apply IsS84.drewN | apply IsS84.drew | apply IsS84.set_1) | exact HI0.out), by repeat (first | (with_reducible first | exact HB.out | apply below_alloc | apply pw_below_drewN | apply below_drew1 | refine below_set ?_ (IsS84.ge HI0.out)) | exact HB.out), by repeat (first | (with_reducible first | exact HK.out | apply KeepBut.set_ | apply keep_drewN | apply keep_drew | apply keep_alloc) | exact HK.out)⟩
def dpick (s : List Int) (i n : Int) : Int × Int := if i ≥ s.length then (0, i) else (Int.tmod (wrap64 (rd s i)) n, i + 1)
theorem dpick_at {s : List Int} {i n t i' : Int} (e : dpick s i n = (t, i')) (h0 : 0 ≤ i) (h1 : i ≤ s.length) : 0 ≤ i' ∧ i' ≤ s.length := by
  unfold dpick at e
  split at e <;> (simp only [Prod.mk.injEq] at e; omega)
theorem dpick_lt {s : List Int} {i n t i' : Int} (e : dpick s i n = (t, i')) (hn : 0 < n) : -n < t ∧ t < n := by
  unfold dpick at e
  split at e
  · simp only [Prod.mk.injEq] at e; omega
  · simp only [Prod.mk.injEq] at e
    obtain ⟨rfl, _⟩ := e
    have a := Int.tmod_lt_of_pos (wrap64 (rd s i)) hn
    have b : -n < Int.tmod (wrap64 (rd s i)) n := by
      rcases Int.le_total 0 (wrap64 (rd s i)) with h | h
      · have := Int.tmod_nonneg n h; omega
      · have h2 := Int.tmod_lt_of_pos (-(wrap64 (rd s i))) hn
        rw [Int.neg_tmod] at h2; omega
    exact ⟨b, a⟩
theorem pick_calls {s : List Int} {i n t i' : Int} (e : dpick s i n = (t, i')) (g : Nat) (w0 w : World) (hI : IsS84 w0 w g s i) (hB : Below w0.heap.size w0 w) (h0 : 0 ≤ i) (h1 : i ≤ s.length) (hs : s.length ≤ 300) (hn : 0 < n) :
    Calls Try.prog 18 #[.pointer (some ⟨g, 0, none⟩), .int .i64 n] w fun e w' => e = .returned (.int .i64 t) ∧ IsS84 w0 w' g s i' ∧ Below w0.heap.size w0 w' ∧ KeepBut w w' g none := by
  refine storagebarterplay_Dice_Pick.calls g s i n t i' w0 w hI hB ?_
  unfold storagebarterplay_Dice_Pick.f
  unfold dpick at e
  by_cases h : i ≥ (s.length : Int)
  · rw [if_pos h] at e ⊢; rw [e]
  · rw [if_neg h] at e
    have e1 : wrap64 (i + 1) = i + 1 := by unfold wrap64; omega
    have e2 : wrap64 (i + 1 - 1) = i := by unfold wrap64; omega
    rw [if_neg h, e1, e2, if_pos h0, if_pos (by omega), if_neg (by omega), e]

/-! ### storagebarterplay_Dice_Leases: function 17 -/
/-- a lease out of the dice, and where the dice stand behind it -/
def lease1 (s : List Int) (i : Int) : S44 × Int :=
  let p1 := dpick s i 4; let p2 := dpick s p1.2 4; let p3 := dpick s p2.2 3; let p4 := dpick s p3.2 5; let p5 := dpick s p4.2 50; let p6 := dpick s p5.2 5; let p7 := dpick s p6.2 9
  (⟨1 + p1.1, 1 + p2.1, p3.1, p4.1, p5.1, p6.1, p6.1 + p7.1, false⟩, p7.2)
def leases : Nat → List S44 → List Int → Int → List S44 × Int
  | 0, xs, _, i => (xs, i)
  | n + 1, xs, s, i => leases n (xs ++ [(lease1 s i).1]) s (lease1 s i).2
def storagebarterplay_Dice_Leases.f (s : List Int) (i : Int) : Option ((List S44) × Int) :=
  if 0 ≤ i ∧ i ≤ s.length ∧ s.length ≤ 300 then some (leases (dpick s i 8).1.toNat [] s (dpick s i 8).2) else none
set_option maxHeartbeats 4000000 in
set_option maxRecDepth 100000 in
theorem storagebarterplay_Dice_Leases.calls (g : Nat) (s0_0 : List Int) (s0_1 : Int) (r1 : List (S44)) (r2 : Int) (w0 w : World) (hI : IsS84 w0 w g s0_0 s0_1) (hB : Below w0.heap.size w0 w) (h : storagebarterplay_Dice_Leases.f s0_0 s0_1 = some (r1, r2)) :
  Calls Try.prog 17 #[.pointer (some ⟨g, 0, none⟩)] w fun e w' => ∃ v0_ : Value, e = .returned (v0_) ∧ Kd.R k44 44 w' w.heap.size (fun _ => True) v0_ r1 ∧ IsS84 w0 w' g s0_0 r2 ∧ Below w0.heap.size w0 w' ∧ KeepBut w w' g none := by
 unfold storagebarterplay_Dice_Leases.f at h
 split at h
 ·rename_i hh
  obtain ⟨h0, h1, hs⟩ := hh
  have HS := Aside0.mk hs
  obtain ⟨t, i, e⟩ : ∃ t i, dpick s0_0 s0_1 8 = (t, i) := ⟨_, _, rfl⟩
  rw [e] at h
  have ha := dpick_at e h0 h1
  have hl := dpick_lt e (by omega)
  have H := Aside0.mk (Option.some.inj h)
  have E := Aside0.mk e
  clear h e
  have HI := Aside0.mk hI
  have HL0 := Aside0.mk hB.size
  have HB := Aside0.mk hB
  clear hI hB
  go_enter Try.func17, Try.ntmps17
  go_wp2_with fail
  refine (pick_calls E.out g w0 _ HI.out HB.out h0 h1 HS.out (by omega)).mono ?_
  rintro e w1 ⟨rfl, hi, hb, hk⟩
  have HI := Aside0.mk hi
  have HB := Aside0.mk hb
  have HK := Aside0.mk hk
  clear hi hb hk
  go_wp2
  go_loopw [3, 4] (fun v3 v4 w' => ∃ (xs : List S44) (c i : Int), v4 = .int .i64 c ∧ c ≤ 7 ∧ -9 < c ∧ (xs.length : Int) + c.toNat ≤ 7 ∧ 0 ≤ i ∧ i ≤ s0_0.length ∧ Aside0 (leases c.toNat xs s0_0 i = (r1, r2)) ∧ Aside0 (Kd.R k44 44 w' w.heap.size (fun k_ => k_ ≠ g) v3 xs) ∧ Aside0 (IsS84 w0 w' g s0_0 i) ∧ Aside0 (Below w0.heap.size w0 w') ∧ Aside0 (KeepBut w w' g none)) (fun _ v4 _ => (intOf v4).toNat)
  case atStart => exact ⟨[], t, i, rfl, by omega, by omega, by simp; omega, by omega, by omega, H, ⟨Kd.R_nil _ _ _ _ _⟩, HI, HB, HK⟩
  case round =>
   clear H HI HB HK E ha hl h0 h1
   obtain ⟨xs, c, i, rfl, hc7, hc8, hlen, h0, h1, H, HO, HI, HB, HK⟩ := hrel
   by_cases hc : 0 < c
   case neg =>
    go_wp2
    go_ret
    have e : c.toNat = 0 := by omega
    have H := H.out
    rw [e] at H
    simp only [leases, Prod.mk.injEq] at H
    obtain ⟨rfl, rfl⟩ := H
    exact ⟨_, rfl, Kd.R_mono HO.out (fun _ _ => trivial), HI.out, HB.out, HK.out⟩
   obtain ⟨m, hm⟩ : ∃ m, c.toNat = m + 1 := ⟨c.toNat - 1, by omega⟩
   have H0 := H.out
   rw [hm] at H0
   simp only [leases, lease1] at H0
   obtain ⟨t1, i1, e1⟩ : ∃ t i', dpick s0_0 i 4 = (t, i') := ⟨_, _, rfl⟩
   simp only [e1] at H0
   have l1 := dpick_lt e1 (by omega)
   have a1 := dpick_at e1 (by omega) (by omega)
   have E1 := Aside0.mk e1
   clear e1
   obtain ⟨t2, i2, e2⟩ : ∃ t i', dpick s0_0 i1 4 = (t, i') := ⟨_, _, rfl⟩
   simp only [e2] at H0
   have l2 := dpick_lt e2 (by omega)
   have a2 := dpick_at e2 (by omega) (by omega)
   have E2 := Aside0.mk e2
   clear e2
   obtain ⟨t3, i3, e3⟩ : ∃ t i', dpick s0_0 i2 3 = (t, i') := ⟨_, _, rfl⟩
   simp only [e3] at H0
   have l3 := dpick_lt e3 (by omega)
   have a3 := dpick_at e3 (by omega) (by omega)
   have E3 := Aside0.mk e3
   clear e3
   obtain ⟨t4, i4, e4⟩ : ∃ t i', dpick s0_0 i3 5 = (t, i') := ⟨_, _, rfl⟩
   simp only [e4] at H0
   have l4 := dpick_lt e4 (by omega)
   have a4 := dpick_at e4 (by omega) (by omega)
   have E4 := Aside0.mk e4
   clear e4
   obtain ⟨t5, i5, e5⟩ : ∃ t i', dpick s0_0 i4 50 = (t, i') := ⟨_, _, rfl⟩
   simp only [e5] at H0
   have l5 := dpick_lt e5 (by omega)
   have a5 := dpick_at e5 (by omega) (by omega)
   have E5 := Aside0.mk e5
   clear e5
   obtain ⟨t6, i6, e6⟩ : ∃ t i', dpick s0_0 i5 5 = (t, i') := ⟨_, _, rfl⟩
   simp only [e6] at H0
   have l6 := dpick_lt e6 (by omega)
   have a6 := dpick_at e6 (by omega) (by omega)
   have E6 := Aside0.mk e6
   clear e6
   obtain ⟨t7, i7, e7⟩ : ∃ t i', dpick s0_0 i6 9 = (t, i') := ⟨_, _, rfl⟩
   simp only [e7] at H0
   have l7 := dpick_lt e7 (by omega)
   have a7 := dpick_at e7 (by omega) (by omega)
   have E7 := Aside0.mk e7
   clear e7
   replace H := Aside0.mk H0
   have hm' : c.toNat = m + 1 := hm
   have HM := Aside0.mk hm
   clear H0 hm hm'
   go_wp2_with fail
   refine (pick_calls E1.out g w0 _ HI.out HB.out (by omega) (by omega) HS.out (by omega)).mono ?_
   rintro e w1 ⟨rfl, hi, hb, hk⟩
   replace HI := Aside0.mk hi
   replace HB := Aside0.mk hb
   replace HK := Aside0.mk (KeepBut.trans HK.out hk (.inl rfl))
   replace HO := Aside0.mk (Kd.R_keep HO.out hk (fun k hk_ => hk_))
   clear hi hb hk
   go_wp2_with fail
   refine (pick_calls E2.out g w0 _ HI.out HB.out (by omega) (by omega) HS.out (by omega)).mono ?_
   rintro e w2 ⟨rfl, hi, hb, hk⟩
   replace HI := Aside0.mk hi
   replace HB := Aside0.mk hb
   replace HK := Aside0.mk (KeepBut.trans HK.out hk (.inl rfl))
   replace HO := Aside0.mk (Kd.R_keep HO.out hk (fun k hk_ => hk_))
   clear hi hb hk
   go_wp2_with fail
   refine (pick_calls E3.out g w0 _ HI.out HB.out (by omega) (by omega) HS.out (by omega)).mono ?_
   rintro e w3 ⟨rfl, hi, hb, hk⟩
   replace HI := Aside0.mk hi
   replace HB := Aside0.mk hb
   replace HK := Aside0.mk (KeepBut.trans HK.out hk (.inl rfl))
   replace HO := Aside0.mk (Kd.R_keep HO.out hk (fun k hk_ => hk_))
   clear hi hb hk
   go_wp2_with fail
   refine (pick_calls E4.out g w0 _ HI.out HB.out (by omega) (by omega) HS.out (by omega)).mono ?_
   rintro e w4 ⟨rfl, hi, hb, hk⟩
   replace HI := Aside0.mk hi
   replace HB := Aside0.mk hb
   replace HK := Aside0.mk (KeepBut.trans HK.out hk (.inl rfl))
   replace HO := Aside0.mk (Kd.R_keep HO.out hk (fun k hk_ => hk_))
   clear hi hb hk
   go_wp2_with fail
   refine (pick_calls E5.out g w0 _ HI.out HB.out (by omega) (by omega) HS.out (by omega)).mono ?_
   rintro e w5 ⟨rfl, hi, hb, hk⟩
   replace HI := Aside0.mk hi
   replace HB := Aside0.mk hb
   replace HK := Aside0.mk (KeepBut.trans HK.out hk (.inl rfl))
   replace HO := Aside0.mk (Kd.R_keep HO.out hk (fun k hk_ => hk_))
   clear hi hb hk
   go_wp2_with fail
   refine (pick_calls E6.out g w0 _ HI.out HB.out (by omega) (by omega) HS.out (by omega)).mono ?_
   rintro e w6 ⟨rfl, hi, hb, hk⟩
   replace HI := Aside0.mk hi
   replace HB := Aside0.mk hb
   replace HK := Aside0.mk (KeepBut.trans HK.out hk (.inl rfl))
   replace HO := Aside0.mk (Kd.R_keep HO.out hk (fun k hk_ => hk_))
   clear hi hb hk
   go_wp2_with fail
   have HA := Aside0.mk (blk_new w6 (.cells #[.int .i64 (1 + t1), .int .i64 (1 + t2), .int .i64 t3, .int .i64 t4, .int .i64 t5, .int .i64 t6, .int .i64 0, .bool false] 44 (0, 0)))
   have HB7 := Aside0.mk (below_alloc (Below.refl w6.heap.size w6) (.cells #[.int .i64 (1 + t1), .int .i64 (1 + t2), .int .i64 t3, .int .i64 t4, .int .i64 t5, .int .i64 t6, .int .i64 0, .bool false] 44))
   have hne : g ≠ w6.heap.size := Nat.ne_of_lt HI.out.lt
   have hw67 : IntKind.i64.wrap (t6 + t7) = t6 + t7 := IntWalk.i64_in _ (by omega)
   go_region_held3 (fun w' => w'.cell? ⟨w6.heap.size, 5, none⟩ = some (.int .i64 t6)) (first | (exact keep_cell hk (by go_simp) (Ne.symm hne)) | (rw [World.cell?_setCell_other _ _ _ _ (by simp)]; exact c5_) | go_keep) (first | (go_at_call 18; refine (pick_calls E7.out g w0 _ (by exact (HI.out.alloc _).drew) (by exact below_drew (below_alloc HB.out _)) (by omega) (by omega) HS.out (by omega)).mono ?_; rintro e w7 ⟨rfl, hi, hb, hk⟩; have hb7 : w7.heap[w6.heap.size]? = some (.cells #[.int .i64 (1 + t1), .int .i64 (1 + t2), .int .i64 t3, .int .i64 t4, .int .i64 t5, .int .i64 t6, .int .i64 0, .bool false] 44 (0, 0)) := KeepBut.blk hk (by exact HA.out) (Ne.symm hne) (by simp); have c6_ := blk_cell hb7 6; have f6_ := blk_frozen hb7 6; have c5_ := blk_cell hb7 5))
   clear hw67
   have hs8 := blk_set hb7 6 (.int .i64 (t6 + t7))
   have hx : (Array.setIfInBounds #[.int .i64 (1 + t1), .int .i64 (1 + t2), .int .i64 t3, .int .i64 t4, .int .i64 t5, .int .i64 t6, .int .i64 0, .bool false] 6 (Value.int .i64 (t6 + t7))) = #[.int .i64 (1 + t1), .int .i64 (1 + t2), .int .i64 t3, .int .i64 t4, .int .i64 t5, .int .i64 t6, .int .i64 (t6 + t7), .bool false] := rfl
   rw [hx] at hs8
   have HS8 := Aside0.mk hs8
   have c0_ := blk_cell hs8 0; have c1_ := blk_cell hs8 1; have c2_ := blk_cell hs8 2; have c3_ := blk_cell hs8 3; have c4_ := blk_cell hs8 4; have c5_' := blk_cell hs8 5; have c6_' := blk_cell hs8 6; have c7_ := blk_cell hs8 7
   have HI8 := Aside0.mk (IsS84.far hi (p := ⟨w6.heap.size, 6, none⟩) hne (.int .i64 (t6 + t7)))
   have HB8 := Aside0.mk (below_set (j := 6) (v := (.int .i64 (t6 + t7))) hb HB.out.size)
   have HK8 := Aside0.mk (keep_far (KeepBut.trans (keep_alloc HK.out _) hk (.inl rfl)) (p := ⟨w6.heap.size, 6, none⟩) (keep_size HK.out) (.int .i64 (t6 + t7)))
   have HO8 := Aside0.mk (Kd.R_far (Kd.R_keep (Kd.R_mono (Kd.R_below (Kd.R_elderB HO.out w6.heap.size (Nat.le_refl _)) (below_alloc (Below.refl _ _) (.cells #[.int .i64 (1 + t1), .int .i64 (1 + t2), .int .i64 t3, .int .i64 t4, .int .i64 t5, .int .i64 t6, .int .i64 0, .bool false] 44))) (fun k h_ => (⟨h_, h_.1⟩ : (k ≠ g ∧ k ≠ w6.heap.size) ∧ k ≠ g))) hk (fun k h_ => h_.2)) (p := ⟨w6.heap.size, 6, none⟩) (fun k h_ => h_.1.2) (.int .i64 (t6 + t7)))
   clear hi hb hk hb7 hs8 hx c6_ f6_ c5_
   go_wp2_with (at_builtin; go_loud (refine Kd.R_append k44 (w0 := w7.setCell ⟨w6.heap.size, 6, none⟩ (.int .i64 (t6 + t7))) w.heap.size rfl (.tmp 33) (.tmp 35) 26 44 (.agg #[(.int .i64 0), (.int .i64 0), (.int .i64 0), (.int .i64 0), (.int .i64 0), (.int .i64 0), (.int .i64 0), (.bool false)]) 64 rfl Try.underlying26 info44 rfl (by decide) (by omega) u3 xs (⟨1 + t1, 1 + t2, t3, t4, t5, t6, t6 + t7, false⟩ : S44) [.int .i64 (1 + t1), .int .i64 (1 + t2), .int .i64 t3, .int .i64 t4, .int .i64 t5, .int .i64 t6, .int .i64 (t6 + t7), .bool false] (fun k_ => k_ ≠ g) (fun _ => False) rfl (by first | (go_simp; done) | (go_simp; rfl)) (k44_mkM _ _ _ (⟨1 + t1, 1 + t2, t3, t4, t5, t6, t6 + t7, false⟩ : S44)) (fun _ hk => hk.elim) (fun k_ hk_ => by have h_ := HI8.out.lt; simp at hk_; simp [World.setCell] at h_; omega) (Kd.R_mono HO8.out (fun _ hk => hk.1.1)) (Below.refl _ _) (keep_size HK8.out) ?aL ?_); (case aL => omega); intro v1 w9 ho hb hg hat; have HO9 := Aside0.mk ho; have HG := Aside0.mk hg; have HAT := Aside0.mk hat; have HB9 := Aside0.mk hb; clear ho hb hg hat)
   go_roundw
   case rel => exact ⟨xs ++ [(⟨1 + t1, 1 + t2, t3, t4, t5, t6, t6 + t7, false⟩ : S44)], c - 1, i7, by go_num, by omega, by omega, by simp; omega, by omega, by omega, ⟨by rw [show (c - 1).toNat = m from by have := HM.out; omega]; exact H.out⟩, HO9, ⟨IsS84.grown HI8.out HG.out (IsS84.own_ne HI8.out (Kd.R_mono HO8.out (fun _ _ => trivial)) (by decide))⟩, ⟨below_weaken HB8.out (Nat.le_trans (HL0.out) (Nat.le_refl _)) HB9.out⟩, ⟨KeepBut.trans HK8.out (KeepBut.of_grown HG.out g) (Kd.R_base2 HO8.out)⟩⟩
   case measure => simp [intOf]; omega
 ·cases h

theorem lease1_at (s : List Int) (i : Int) (h0 : 0 ≤ i) (h1 : i ≤ s.length) : 0 ≤ (lease1 s i).2 ∧ (lease1 s i).2 ≤ s.length := by
  have f := fun (j n : Int) (a : 0 ≤ j) (b : j ≤ s.length) => dpick_at (s := s) (i := j) (n := n) (t := (dpick s j n).1) (i' := (dpick s j n).2) rfl a b
  have a1 := f i 4 h0 h1
  have a2 := f _ 4 a1.1 a1.2
  have a3 := f _ 3 a2.1 a2.2
  have a4 := f _ 5 a3.1 a3.2
  have a5 := f _ 50 a4.1 a4.2
  have a6 := f _ 5 a5.1 a5.2
  exact f _ 9 a6.1 a6.2
theorem leases_at (s : List Int) : ∀ (n : Nat) (xs : List S44) (i : Int), 0 ≤ i → i ≤ s.length → (leases n xs s i).1.length = xs.length + n ∧ 0 ≤ (leases n xs s i).2 ∧ (leases n xs s i).2 ≤ s.length := by
  intro n
  induction n with
  | zero => intro xs i h0 h1; exact ⟨rfl, h0, h1⟩
  | succ n ih =>
    intro xs i h0 h1
    have h := lease1_at s i h0 h1
    have := ih (xs ++ [(lease1 s i).1]) (lease1 s i).2 h.1 h.2
    simp only [leases]
    refine ⟨?_, this.2⟩
    rw [this.1, List.length_append]; simp; omega
theorem storagebarterplay_Dice_Leases.short (s : List Int) (hs : s.length ≤ 300) : ∃ l i, storagebarterplay_Dice_Leases.f s 0 = some (l, i) ∧ l.length ≤ 7 ∧ 0 ≤ i ∧ i ≤ s.length := by
  have ha := dpick_at (s := s) (i := 0) (n := 8) (t := (dpick s 0 8).1) (i' := (dpick s 0 8).2) rfl (by omega) (by omega)
  have hl := dpick_lt (s := s) (i := 0) (n := 8) (t := (dpick s 0 8).1) (i' := (dpick s 0 8).2) rfl (by omega)
  have h := leases_at s (dpick s 0 8).1.toNat [] _ ha.1 ha.2
  refine ⟨_, _, if_pos ⟨by omega, by omega, hs⟩, ?_, h.2⟩
  rw [h.1]; simp; omega

-- NOT PRINTED: function 56 (ending_Over_1)

end Go.Proofs.Ytepffabkcbfejaa.PEndingSteps
