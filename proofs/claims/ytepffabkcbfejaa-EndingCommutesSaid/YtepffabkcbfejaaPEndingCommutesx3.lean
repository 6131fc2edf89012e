-- Written by a program of this repository (wip/tools/myprint.py over the print of the kit): contracts and rows.
import Derived.Test.YtepffabkcbfejaaPEndingCommutesx0
import Derived.Test.YtepffabkcbfejaaPEndingCommutesx1
import Derived.Test.YtepffabkcbfejaaPEndingCommutesx2
namespace Go.Proofs.Ytepffabkcbfejaa.PEndingCommutes
open Go.RowKit Go.Proofs.YtepffabkcbfejaaW.PrintWords Go.Proofs.YtepffabkcbfejaaW.PrintLast Go.Proofs.YtepffabkcbfejaaW.PrintMore
attribute [local go_sem] max2_int min2_int max_two min_two max_three min_three max_four min_four   -- for this text's walks alone
set_option linter.unusedVariables false
set_option linter.unusedSimpArgs false

attribute [local go_sem high] eqA44
/-! ### ending_Over: function 19 -/
theorem ending_at_Over (t : Int) (g : Nat) (x : S44) (w : World) (hg : w.cell? ⟨g, 0, none⟩ = some (.int .i64 t)) :
    Calls Try.prog 56 #[.agg #[.int .i64 x.f0, .int .i64 x.f1, .int .i64 x.f2, .int .i64 x.f3, .int .i64 x.f4, .int .i64 x.f5, .int .i64 x.f6, .bool x.f7], .pointer (some ⟨g, 0, none⟩)] w fun e w' => e = .returned (.bool ((ending_over t) x)) ∧ Below w.heap.size w w' := by
  have hg' := pw_cell_below (below_alloc (Below.refl w.heap.size w) (.cells #[.int .i64 x.f0, .int .i64 x.f1, .int .i64 x.f2, .int .i64 x.f3, .int .i64 x.f4, .int .i64 x.f5, .int .i64 x.f6, .bool x.f7] 44)) hg
  go_enter Try.func56, Try.ntmps56
  go_wp2
  go_ret
  exact ⟨rfl, below_alloc (Below.refl _ _) _⟩

set_option maxHeartbeats 4000000 in
set_option maxRecDepth 100000 in
theorem ending_split_Over (A0 : Option Addr) (c0 : Nat) (l0 : List S44) (t : Int) (g : Nat) (w : World) (hr0 : Kd.C k44 w A0 l0.length l0) (hc0 : l0.length ≤ c0) (hl : l0.length < 2199023255552) (hg : w.cell? ⟨g, 0, none⟩ = some (.int .i64 t)) :
    Calls Try.prog 55 #[.slice A0 l0.length c0, .func (.func 56) #[] #[.pointer (some ⟨g, 0, none⟩)]] w fun e w' => ∃ v0_ v1_ : Value, e = .returned (.tuple #[v0_, v1_]) ∧ Kd.R k44 44 w' w.heap.size (fun k_ => some k_ ≠ (v1_ : Value).ownBlock) v0_ (l0.filter (ending_over t)) ∧ Kd.R k44 44 w' w.heap.size (fun k_ => some k_ ≠ (v0_ : Value).ownBlock) v1_ (l0.filter (fun x => !((ending_over t) x))) ∧ Below w.heap.size w w' := by
  have hu := Try.underlying44
  have HR0 := Aside0.mk hr0
  have HG := Aside0.mk hg; clear hg
  clear hr0
  go_enter Try.func55, Try.ntmps55
  go_wp2
  go_loopw [4, 5, 10] (fun v4 v5 v10 w' => ∃ i : Int, 0 ≤ i ∧ i ≤ l0.length ∧ v10 = .int .i64 i ∧ Aside0 (Kd.R k44 44 w' w.heap.size (fun k_ => some k_ ≠ (v5 : Value).ownBlock) v4 ((l0.take i.toNat).filter (ending_over t))) ∧ Aside0 (Kd.R k44 44 w' w.heap.size (fun k_ => some k_ ≠ (v4 : Value).ownBlock) v5 ((l0.take i.toNat).filter (fun x => !((ending_over t) x)))) ∧ Aside0 (Below w.heap.size w w')) (fun _ _ v10 _ => l0.length - (intOf v10).toNat)
  case atStart => exact ⟨0, by omega, by omega, rfl, ⟨Kd.R_nil _ _ _ _ _⟩, ⟨Kd.R_nil _ _ _ _ _⟩, ⟨Below.refl _ _⟩⟩
  case round =>
    obtain ⟨i, hi0, hi, rfl, HO4, HO5, HB⟩ := hrel
    by_cases hlt : i < (l0.length : Int)
    · obtain ⟨ad, e0, h0, h1, h2, h3, h4, h5, h6, h7⟩ := at_T44 HR0.out i hi0 hlt
      cases e0
      obtain ⟨x, hx⟩ : ∃ x, x = rd_T44 l0 i := ⟨_, rfl⟩
      rw [← hx] at h0 h1 h2 h3 h4 h5 h6 h7
      have HX := Aside0.mk hx
      clear hx
      replace h0 := (HB.out.cell (World.block_lt_of_cell? w _ h0)).trans h0
      replace h1 := (HB.out.cell (World.block_lt_of_cell? w _ h1)).trans h1
      replace h2 := (HB.out.cell (World.block_lt_of_cell? w _ h2)).trans h2
      replace h3 := (HB.out.cell (World.block_lt_of_cell? w _ h3)).trans h3
      replace h4 := (HB.out.cell (World.block_lt_of_cell? w _ h4)).trans h4
      replace h5 := (HB.out.cell (World.block_lt_of_cell? w _ h5)).trans h5
      replace h6 := (HB.out.cell (World.block_lt_of_cell? w _ h6)).trans h6
      replace h7 := (HB.out.cell (World.block_lt_of_cell? w _ h7)).trans h7
      go_wp2_with fail
      refine (ending_at_Over t g x _ (pw_cell_below (below_alloc HB.out _) HG.out)).mono ?_
      rintro e w2 ⟨rfl, hb0⟩
      have hblk := (hb0.block wr.heap.size (by simp)).trans (blk_new wr (.cells #[.int .i64 x.f0, .int .i64 x.f1, .int .i64 x.f2, .int .i64 x.f3, .int .i64 x.f4, .int .i64 x.f5, .int .i64 x.f6, .bool x.f7] 44 (0, 0)))
      have c0_ := blk_cell hblk 0; have c1_ := blk_cell hblk 1; have c2_ := blk_cell hblk 2; have c3_ := blk_cell hblk 3; have c4_ := blk_cell hblk 4; have c5_ := blk_cell hblk 5; have c6_ := blk_cell hblk 6; have c7_ := blk_cell hblk 7
      have HB2 := Aside0.mk ((below_alloc (Below.refl wr.heap.size wr) (.cells #[.int .i64 x.f0, .int .i64 x.f1, .int .i64 x.f2, .int .i64 x.f3, .int .i64 x.f4, .int .i64 x.f5, .int .i64 x.f6, .bool x.f7] 44)).trans (hb0.mono (by simp)))
      have HB1 := Aside0.mk (below_step HB.out HB2.out)
      clear hb0 hblk h0 h1 h2 h3 h4 h5 h6 h7
      have HL : Aside0 ((((l0.take i.toNat).filter (ending_over t)).length + 1) * 64 ≤ 140737488355328 ∧ (((l0.take i.toNat).filter (fun x => !((ending_over t) x))).length + 1) * 64 ≤ 140737488355328) := ⟨by have := List.length_filter_le (ending_over t) (l0.take i.toNat); have := List.length_filter_le (fun x => !((ending_over t) x)) (l0.take i.toNat); have := List.length_take_le i.toNat l0; omega⟩
      cases hp : ((ending_over t) x)
      · have HL := Aside0.mk HL.out.2
        have HT : Aside0 ((l0.take (i + 1).toNat).filter (ending_over t) = (l0.take i.toNat).filter (ending_over t)) := ⟨by rw [print_take_succ l0 z44 i hi0 hlt, List.filter_append]; show _ ++ List.filter _ [rd_T44 l0 i] = _; rw [← HX.out]; simp [hp]⟩
        have HF : Aside0 ((l0.take (i + 1).toNat).filter (fun x => !((ending_over t) x)) = (l0.take i.toNat).filter (fun x => !((ending_over t) x)) ++ [x]) := ⟨by rw [print_take_succ l0 z44 i hi0 hlt, List.filter_append]; show _ ++ List.filter _ [rd_T44 l0 i] = _; rw [← HX.out]; simp [hp]⟩
        try (simp only [] at hp)
        go_wp2_with (at_builtin; refine Kd.R_append k44 (w0 := w) w.heap.size rfl (.tmp 21) (.tmp 23) 26 44 (.agg #[(.int .i64 0), (.int .i64 0), (.int .i64 0), (.int .i64 0), (.int .i64 0), (.int .i64 0), (.int .i64 0), (.bool false)]) 64 rfl Try.underlying26 info44 rfl (by decide) (by omega) u5 _ x [.int .i64 x.f0, .int .i64 x.f1, .int .i64 x.f2, .int .i64 x.f3, .int .i64 x.f4, .int .i64 x.f5, .int .i64 x.f6, .bool x.f7] (fun k_ => some k_ ≠ (u4 : Value).ownBlock) (fun _ => False) rfl rfl (k44_mkM _ _ _ x) (fun _ hk => hk.elim) (fun k_ hk => Kd.fresh' (Kd.R_lt (Kd.R_below HO4.out HB2.out)) k_ hk) (Kd.R_below HO5.out HB2.out) HB1.out HB1.out.size ?aL ?_; (case aL => exact HL.out); intro v1 w3 ho hb hg hat; have HOa := Aside0.mk (Kd.R_after (ok := (fun _ => True)) (Kd.R_mono (Kd.R_below HO4.out HB2.out) (fun _ hk => ⟨trivial, hk⟩)) hg hat); have HOb := Aside0.mk ho; have HBb := Aside0.mk hb; clear ho hb hg hat)
        go_roundw
        case rel => exact ⟨i + 1, by omega, by omega, by go_num, ⟨by rw [HT.out]; exact Kd.R_mono HOa.out (fun _ hk => hk.2)⟩, ⟨by rw [HF.out]; exact HOb.out⟩, ⟨HBb.out⟩⟩
        case measure => simp [intOf]; omega

      · have HL := Aside0.mk HL.out.1
        have HT : Aside0 ((l0.take (i + 1).toNat).filter (ending_over t) = (l0.take i.toNat).filter (ending_over t) ++ [x]) := ⟨by rw [print_take_succ l0 z44 i hi0 hlt, List.filter_append]; show _ ++ List.filter _ [rd_T44 l0 i] = _; rw [← HX.out]; simp [hp]⟩
        have HF : Aside0 ((l0.take (i + 1).toNat).filter (fun x => !((ending_over t) x)) = (l0.take i.toNat).filter (fun x => !((ending_over t) x))) := ⟨by rw [print_take_succ l0 z44 i hi0 hlt, List.filter_append]; show _ ++ List.filter _ [rd_T44 l0 i] = _; rw [← HX.out]; simp [hp]⟩
        try (simp only [] at hp)
        go_wp2_with (at_builtin; refine Kd.R_append k44 (w0 := w) w.heap.size rfl (.tmp 17) (.tmp 19) 26 44 (.agg #[(.int .i64 0), (.int .i64 0), (.int .i64 0), (.int .i64 0), (.int .i64 0), (.int .i64 0), (.int .i64 0), (.bool false)]) 64 rfl Try.underlying26 info44 rfl (by decide) (by omega) u4 _ x [.int .i64 x.f0, .int .i64 x.f1, .int .i64 x.f2, .int .i64 x.f3, .int .i64 x.f4, .int .i64 x.f5, .int .i64 x.f6, .bool x.f7] (fun k_ => some k_ ≠ (u5 : Value).ownBlock) (fun _ => False) rfl rfl (k44_mkM _ _ _ x) (fun _ hk => hk.elim) (fun k_ hk => Kd.fresh' (Kd.R_lt (Kd.R_below HO5.out HB2.out)) k_ hk) (Kd.R_below HO4.out HB2.out) HB1.out HB1.out.size ?aL ?_; (case aL => exact HL.out); intro v1 w3 ho hb hg hat; have HOa := Aside0.mk (Kd.R_after (ok := (fun _ => True)) (Kd.R_mono (Kd.R_below HO5.out HB2.out) (fun _ hk => ⟨trivial, hk⟩)) hg hat); have HOb := Aside0.mk ho; have HBb := Aside0.mk hb; clear ho hb hg hat)
        go_roundw
        case rel => exact ⟨i + 1, by omega, by omega, by go_num, ⟨by rw [HT.out]; exact HOb.out⟩, ⟨by rw [HF.out]; exact Kd.R_mono HOa.out (fun _ hk => hk.2)⟩, ⟨HBb.out⟩⟩
        case measure => simp [intOf]; omega

    · go_wp2
      go_ret2
      rw [List.take_of_length_le (by omega)] at HO4 HO5
      exact ⟨_, _, rfl, HO4.out, HO5.out, HB.out⟩

def ending_Over.f (l0 : List S44) (a1 : Int) : Option ((List S44) × (List S44)) := if l0.length < 2199023255552 then some (l0.filter (ending_over a1), l0.filter (fun x => !(ending_over a1 x))) else none
set_option maxHeartbeats 4000000 in
set_option maxRecDepth 100000 in
theorem ending_Over.calls (A0 : Option Addr) (c0 : Nat) (l0 : List S44) (a1 : Int) (r1 : List S44) (r2 : List S44) (w : World) (hr0 : Kd.C k44 w A0 l0.length l0) (hc0 : l0.length ≤ c0) (h : ending_Over.f l0 a1 = some (r1, r2)) :
    Calls Try.prog 19 #[.slice A0 l0.length c0, .int .i64 a1] w fun e w' => ∃ v0_ v1_ : Value, e = .returned (.tuple #[v0_, v1_]) ∧ Kd.R k44 44 w' w.heap.size (fun k_ => some k_ ≠ (v1_ : Value).ownBlock) v0_ r1 ∧ Kd.R k44 44 w' w.heap.size (fun k_ => some k_ ≠ (v0_ : Value).ownBlock) v1_ r2 ∧ Below w.heap.size w w' := by
  unfold ending_Over.f at h
  split at h
  · rename_i hl
    simp only [Option.some.injEq, Prod.mk.injEq] at h
    obtain ⟨rfl, rfl⟩ := h
    have HR := Aside0.mk hr0
    clear hr0
    go_enter Try.func19, Try.ntmps19
    go_wp2_with fail
    refine (ending_split_Over A0 c0 l0 a1 w.heap.size _ (Kd.C_below HR.out (below_alloc (Below.refl _ _) _)) hc0 hl (by go_simp)).mono ?_
    rintro e w' ⟨v0, v1, rfl, ho0, ho1, hb⟩
    go_wp2
    go_ret2
    exact ⟨_, _, rfl, Kd.R_lower ho0 (by simp), Kd.R_lower ho1 (by simp), (below_alloc (Below.refl _ _) _).trans (hb.mono (by simp))⟩
  · cases h


theorem ending_Over.some_ (l : List S44) (t : Int) (h : l.length < 2199023255552) : ∃ r1 r2, ending_Over.f l t = some (r1, r2) ∧ (r1.length ≤ l.length ∧ r2.length ≤ l.length) ∧ r1 = l.filter (ending_over t) ∧ r2 = l.filter (fun x => !(ending_over t x)) :=
  ⟨_, _, if_pos h, ⟨List.length_filter_le _ _, List.length_filter_le _ _⟩, rfl, rfl⟩


/-! ### ending_Between: function 21 -/
set_option maxHeartbeats 4000000 in
theorem ending_at_Between (a b : Int) (ga gb : Nat) (x : S44) (w : World) (hga : w.cell? ⟨ga, 0, none⟩ = some (.int .i64 a)) (hgb : w.cell? ⟨gb, 0, none⟩ = some (.int .i64 b)) :
    Calls Try.prog 59 #[.agg #[.int .i64 x.f0, .int .i64 x.f1, .int .i64 x.f2, .int .i64 x.f3, .int .i64 x.f4, .int .i64 x.f5, .int .i64 x.f6, .bool x.f7], .pointer (some ⟨ga, 0, none⟩), .pointer (some ⟨gb, 0, none⟩)] w fun e w' => e = .returned (.bool ((ending_between a b) x)) ∧ Below w.heap.size w w' := by
  have hga' := pw_cell_below (below_alloc (Below.refl w.heap.size w) (.cells #[.int .i64 x.f0, .int .i64 x.f1, .int .i64 x.f2, .int .i64 x.f3, .int .i64 x.f4, .int .i64 x.f5, .int .i64 x.f6, .bool x.f7] 44)) hga
  have hgb' := pw_cell_below (below_alloc (Below.refl w.heap.size w) (.cells #[.int .i64 x.f0, .int .i64 x.f1, .int .i64 x.f2, .int .i64 x.f3, .int .i64 x.f4, .int .i64 x.f5, .int .i64 x.f6, .bool x.f7] 44)) hgb
  unfold ending_between
  cases h0a : x.f0 == a <;> cases h1b : x.f1 == b <;> cases h0b : x.f0 == b <;> cases h1a : x.f1 == a
  all_goals
    go_enter Try.func59, Try.ntmps59
    go_wp2
    go_ret
    exact ⟨rfl, below_alloc (Below.refl _ _) _⟩

set_option maxHeartbeats 4000000 in
set_option maxRecDepth 100000 in
theorem ending_split_Between (A0 : Option Addr) (c0 : Nat) (l0 : List S44) (a b : Int) (ga gb : Nat) (w : World) (hr0 : Kd.C k44 w A0 l0.length l0) (hc0 : l0.length ≤ c0) (hl : l0.length < 2199023255552) (hga : w.cell? ⟨ga, 0, none⟩ = some (.int .i64 a)) (hgb : w.cell? ⟨gb, 0, none⟩ = some (.int .i64 b)) :
    Calls Try.prog 55 #[.slice A0 l0.length c0, .func (.func 59) #[] #[.pointer (some ⟨ga, 0, none⟩), .pointer (some ⟨gb, 0, none⟩)]] w fun e w' => ∃ v0_ v1_ : Value, e = .returned (.tuple #[v0_, v1_]) ∧ Kd.R k44 44 w' w.heap.size (fun k_ => some k_ ≠ (v1_ : Value).ownBlock) v0_ (l0.filter (ending_between a b)) ∧ Kd.R k44 44 w' w.heap.size (fun k_ => some k_ ≠ (v0_ : Value).ownBlock) v1_ (l0.filter (fun x => !((ending_between a b) x))) ∧ Below w.heap.size w w' := by
  have hu := Try.underlying44
  have HR0 := Aside0.mk hr0
  have HGa := Aside0.mk hga; have HGb := Aside0.mk hgb; clear hga hgb
  clear hr0
  go_enter Try.func55, Try.ntmps55
  go_wp2
  go_loopw [4, 5, 10] (fun v4 v5 v10 w' => ∃ i : Int, 0 ≤ i ∧ i ≤ l0.length ∧ v10 = .int .i64 i ∧ Aside0 (Kd.R k44 44 w' w.heap.size (fun k_ => some k_ ≠ (v5 : Value).ownBlock) v4 ((l0.take i.toNat).filter (ending_between a b))) ∧ Aside0 (Kd.R k44 44 w' w.heap.size (fun k_ => some k_ ≠ (v4 : Value).ownBlock) v5 ((l0.take i.toNat).filter (fun x => !((ending_between a b) x)))) ∧ Aside0 (Below w.heap.size w w')) (fun _ _ v10 _ => l0.length - (intOf v10).toNat)
  case atStart => exact ⟨0, by omega, by omega, rfl, ⟨Kd.R_nil _ _ _ _ _⟩, ⟨Kd.R_nil _ _ _ _ _⟩, ⟨Below.refl _ _⟩⟩
  case round =>
    obtain ⟨i, hi0, hi, rfl, HO4, HO5, HB⟩ := hrel
    by_cases hlt : i < (l0.length : Int)
    · obtain ⟨ad, e0, h0, h1, h2, h3, h4, h5, h6, h7⟩ := at_T44 HR0.out i hi0 hlt
      cases e0
      obtain ⟨x, hx⟩ : ∃ x, x = rd_T44 l0 i := ⟨_, rfl⟩
      rw [← hx] at h0 h1 h2 h3 h4 h5 h6 h7
      have HX := Aside0.mk hx
      clear hx
      replace h0 := (HB.out.cell (World.block_lt_of_cell? w _ h0)).trans h0
      replace h1 := (HB.out.cell (World.block_lt_of_cell? w _ h1)).trans h1
      replace h2 := (HB.out.cell (World.block_lt_of_cell? w _ h2)).trans h2
      replace h3 := (HB.out.cell (World.block_lt_of_cell? w _ h3)).trans h3
      replace h4 := (HB.out.cell (World.block_lt_of_cell? w _ h4)).trans h4
      replace h5 := (HB.out.cell (World.block_lt_of_cell? w _ h5)).trans h5
      replace h6 := (HB.out.cell (World.block_lt_of_cell? w _ h6)).trans h6
      replace h7 := (HB.out.cell (World.block_lt_of_cell? w _ h7)).trans h7
      go_wp2_with fail
      refine (ending_at_Between a b ga gb x _ (pw_cell_below (below_alloc HB.out _) HGa.out) (pw_cell_below (below_alloc HB.out _) HGb.out)).mono ?_
      rintro e w2 ⟨rfl, hb0⟩
      have hblk := (hb0.block wr.heap.size (by simp)).trans (blk_new wr (.cells #[.int .i64 x.f0, .int .i64 x.f1, .int .i64 x.f2, .int .i64 x.f3, .int .i64 x.f4, .int .i64 x.f5, .int .i64 x.f6, .bool x.f7] 44 (0, 0)))
      have c0_ := blk_cell hblk 0; have c1_ := blk_cell hblk 1; have c2_ := blk_cell hblk 2; have c3_ := blk_cell hblk 3; have c4_ := blk_cell hblk 4; have c5_ := blk_cell hblk 5; have c6_ := blk_cell hblk 6; have c7_ := blk_cell hblk 7
      have HB2 := Aside0.mk ((below_alloc (Below.refl wr.heap.size wr) (.cells #[.int .i64 x.f0, .int .i64 x.f1, .int .i64 x.f2, .int .i64 x.f3, .int .i64 x.f4, .int .i64 x.f5, .int .i64 x.f6, .bool x.f7] 44)).trans (hb0.mono (by simp)))
      have HB1 := Aside0.mk (below_step HB.out HB2.out)
      clear hb0 hblk h0 h1 h2 h3 h4 h5 h6 h7
      have HL : Aside0 ((((l0.take i.toNat).filter (ending_between a b)).length + 1) * 64 ≤ 140737488355328 ∧ (((l0.take i.toNat).filter (fun x => !((ending_between a b) x))).length + 1) * 64 ≤ 140737488355328) := ⟨by have := List.length_filter_le (ending_between a b) (l0.take i.toNat); have := List.length_filter_le (fun x => !((ending_between a b) x)) (l0.take i.toNat); have := List.length_take_le i.toNat l0; omega⟩
      cases hp : ((ending_between a b) x)
      · have HL := Aside0.mk HL.out.2
        have HT : Aside0 ((l0.take (i + 1).toNat).filter (ending_between a b) = (l0.take i.toNat).filter (ending_between a b)) := ⟨by rw [print_take_succ l0 z44 i hi0 hlt, List.filter_append]; show _ ++ List.filter _ [rd_T44 l0 i] = _; rw [← HX.out]; simp [hp]⟩
        have HF : Aside0 ((l0.take (i + 1).toNat).filter (fun x => !((ending_between a b) x)) = (l0.take i.toNat).filter (fun x => !((ending_between a b) x)) ++ [x]) := ⟨by rw [print_take_succ l0 z44 i hi0 hlt, List.filter_append]; show _ ++ List.filter _ [rd_T44 l0 i] = _; rw [← HX.out]; simp [hp]⟩
        try (simp only [] at hp)
        go_wp2_with (at_builtin; refine Kd.R_append k44 (w0 := w) w.heap.size rfl (.tmp 21) (.tmp 23) 26 44 (.agg #[(.int .i64 0), (.int .i64 0), (.int .i64 0), (.int .i64 0), (.int .i64 0), (.int .i64 0), (.int .i64 0), (.bool false)]) 64 rfl Try.underlying26 info44 rfl (by decide) (by omega) u5 _ x [.int .i64 x.f0, .int .i64 x.f1, .int .i64 x.f2, .int .i64 x.f3, .int .i64 x.f4, .int .i64 x.f5, .int .i64 x.f6, .bool x.f7] (fun k_ => some k_ ≠ (u4 : Value).ownBlock) (fun _ => False) rfl rfl (k44_mkM _ _ _ x) (fun _ hk => hk.elim) (fun k_ hk => Kd.fresh' (Kd.R_lt (Kd.R_below HO4.out HB2.out)) k_ hk) (Kd.R_below HO5.out HB2.out) HB1.out HB1.out.size ?aL ?_; (case aL => exact HL.out); intro v1 w3 ho hb hg hat; have HOa := Aside0.mk (Kd.R_after (ok := (fun _ => True)) (Kd.R_mono (Kd.R_below HO4.out HB2.out) (fun _ hk => ⟨trivial, hk⟩)) hg hat); have HOb := Aside0.mk ho; have HBb := Aside0.mk hb; clear ho hb hg hat)
        go_roundw
        case rel => exact ⟨i + 1, by omega, by omega, by go_num, ⟨by rw [HT.out]; exact Kd.R_mono HOa.out (fun _ hk => hk.2)⟩, ⟨by rw [HF.out]; exact HOb.out⟩, ⟨HBb.out⟩⟩
        case measure => simp [intOf]; omega

      · have HL := Aside0.mk HL.out.1
        have HT : Aside0 ((l0.take (i + 1).toNat).filter (ending_between a b) = (l0.take i.toNat).filter (ending_between a b) ++ [x]) := ⟨by rw [print_take_succ l0 z44 i hi0 hlt, List.filter_append]; show _ ++ List.filter _ [rd_T44 l0 i] = _; rw [← HX.out]; simp [hp]⟩
        have HF : Aside0 ((l0.take (i + 1).toNat).filter (fun x => !((ending_between a b) x)) = (l0.take i.toNat).filter (fun x => !((ending_between a b) x))) := ⟨by rw [print_take_succ l0 z44 i hi0 hlt, List.filter_append]; show _ ++ List.filter _ [rd_T44 l0 i] = _; rw [← HX.out]; simp [hp]⟩
        try (simp only [] at hp)
        go_wp2_with (at_builtin; refine Kd.R_append k44 (w0 := w) w.heap.size rfl (.tmp 17) (.tmp 19) 26 44 (.agg #[(.int .i64 0), (.int .i64 0), (.int .i64 0), (.int .i64 0), (.int .i64 0), (.int .i64 0), (.int .i64 0), (.bool false)]) 64 rfl Try.underlying26 info44 rfl (by decide) (by omega) u4 _ x [.int .i64 x.f0, .int .i64 x.f1, .int .i64 x.f2, .int .i64 x.f3, .int .i64 x.f4, .int .i64 x.f5, .int .i64 x.f6, .bool x.f7] (fun k_ => some k_ ≠ (u5 : Value).ownBlock) (fun _ => False) rfl rfl (k44_mkM _ _ _ x) (fun _ hk => hk.elim) (fun k_ hk => Kd.fresh' (Kd.R_lt (Kd.R_below HO5.out HB2.out)) k_ hk) (Kd.R_below HO4.out HB2.out) HB1.out HB1.out.size ?aL ?_; (case aL => exact HL.out); intro v1 w3 ho hb hg hat; have HOa := Aside0.mk (Kd.R_after (ok := (fun _ => True)) (Kd.R_mono (Kd.R_below HO5.out HB2.out) (fun _ hk => ⟨trivial, hk⟩)) hg hat); have HOb := Aside0.mk ho; have HBb := Aside0.mk hb; clear ho hb hg hat)
        go_roundw
        case rel => exact ⟨i + 1, by omega, by omega, by go_num, ⟨by rw [HT.out]; exact HOb.out⟩, ⟨by rw [HF.out]; exact Kd.R_mono HOa.out (fun _ hk => hk.2)⟩, ⟨HBb.out⟩⟩
        case measure => simp [intOf]; omega

    · go_wp2
      go_ret2
      rw [List.take_of_length_le (by omega)] at HO4 HO5
      exact ⟨_, _, rfl, HO4.out, HO5.out, HB.out⟩

def ending_Between.f (l0 : List S44) (a1 : Int) (a2 : Int) : Option ((List S44) × (List S44)) := if l0.length < 2199023255552 then some (l0.filter (fun x => !(ending_between a1 a2 x)), l0.filter (ending_between a1 a2)) else none
set_option maxHeartbeats 4000000 in
set_option maxRecDepth 100000 in
theorem ending_Between.calls (A0 : Option Addr) (c0 : Nat) (l0 : List S44) (a1 : Int) (a2 : Int) (r1 : List S44) (r2 : List S44) (w : World) (hr0 : Kd.C k44 w A0 l0.length l0) (hc0 : l0.length ≤ c0) (h : ending_Between.f l0 a1 a2 = some (r1, r2)) :
    Calls Try.prog 21 #[.slice A0 l0.length c0, .int .i64 a1, .int .i64 a2] w fun e w' => ∃ v0_ v1_ : Value, e = .returned (.tuple #[v0_, v1_]) ∧ Kd.R k44 44 w' w.heap.size (fun k_ => some k_ ≠ (v1_ : Value).ownBlock) v0_ r1 ∧ Kd.R k44 44 w' w.heap.size (fun k_ => some k_ ≠ (v0_ : Value).ownBlock) v1_ r2 ∧ Below w.heap.size w w' := by
  unfold ending_Between.f at h
  split at h
  · rename_i hl
    simp only [Option.some.injEq, Prod.mk.injEq] at h
    obtain ⟨rfl, rfl⟩ := h
    have HR := Aside0.mk hr0
    clear hr0
    go_enter Try.func21, Try.ntmps21
    go_wp2_with fail
    refine (ending_split_Between A0 c0 l0 a1 a2 w.heap.size (w.heap.size + 1) _ (Kd.C_below HR.out (below_alloc (below_alloc (Below.refl _ _) _) _)) hc0 hl (by go_simp) (by go_simp)).mono ?_
    rintro e w' ⟨v0, v1, rfl, ho0, ho1, hb⟩
    go_wp2
    go_ret2
    exact ⟨_, _, rfl, Kd.R_lower ho1 (by simp; omega), Kd.R_lower ho0 (by simp; omega), (below_alloc (below_alloc (Below.refl _ _) _) _).trans (hb.mono (by simp; omega))⟩
  · cases h


theorem ending_Between.some_ (l : List S44) (a b : Int) (h : l.length < 2199023255552) : ∃ r1 r2, ending_Between.f l a b = some (r1, r2) ∧ (r1.length ≤ l.length ∧ r2.length ≤ l.length) ∧ r1 = l.filter (fun x => !(ending_between a b x)) ∧ r2 = l.filter (ending_between a b) :=
  ⟨_, _, if_pos h, ⟨List.length_filter_le _ _, List.length_filter_le _ _⟩, rfl, rfl⟩


/-! ### storagebarterref26_Same: function 22 -/
def storagebarterref26_Same.l0 : Nat → List (S44) → List (S44) → Int → Option (Bool)
  | 0, _, _, _ => none
  | k + 1, x0, x1, x5 => if x5 < (x0.length : Int) then (if 0 ≤ x5 then (if x5 < (x1.length : Int) then (if (!(((rd_T44 x0 x5).f0) == ((rd_T44 x1 x5).f0)) || (!(((rd_T44 x0 x5).f1) == ((rd_T44 x1 x5).f1)) || (!(((rd_T44 x0 x5).f2) == ((rd_T44 x1 x5).f2)) || (!(((rd_T44 x0 x5).f3) == ((rd_T44 x1 x5).f3)) || (!(((rd_T44 x0 x5).f4) == ((rd_T44 x1 x5).f4)) || (!(((rd_T44 x0 x5).f5) == ((rd_T44 x1 x5).f5)) || (!(((rd_T44 x0 x5).f6) == ((rd_T44 x1 x5).f6)) || (!(((rd_T44 x0 x5).f7) == ((rd_T44 x1 x5).f7)))))))))) = true then (some false) else (storagebarterref26_Same.l0 k x0 x1 (wrap64 (x5 + 1)))) else (none)) else (none)) else (some true)
def storagebarterref26_Same.f (k : Nat) (l0 : List (S44)) (l1 : List (S44)) : Option (Bool) := if (l0.length : Int) = (l1.length : Int) then (storagebarterref26_Same.l0 k l0 l1 0) else (some false)
theorem storagebarterref26_Same.mono_l : ∀ k, (∀ y0 y1 y2, LeO (storagebarterref26_Same.l0 k y0 y1 y2) (storagebarterref26_Same.l0 (k + 1) y0 y1 y2))
  | 0 => fun _ _ _ r h => by simp [storagebarterref26_Same.l0] at h
  | k + 1 => by
    have ih0 := storagebarterref26_Same.mono_l k
    · intro y0 y1 y2
      unfold storagebarterref26_Same.l0
      repeat' first
      | (with_reducible exact ih0 _ _ _)
      | (with_reducible exact LeO.refl _)
      | (with_reducible exact LeO.none _)
      | (with_reducible refine LeO.ite ?_ ?_)
      | (with_reducible refine LeO.bind ?_ (fun _ => ?_))
      | exact ih0 _ _ _
      | exact LeO.none _
      | refine LeO.ite ?_ ?_
      | refine LeO.bind ?_ (fun _ => ?_)
theorem storagebarterref26_Same.mono : ∀ a0 a1 k, LeO (storagebarterref26_Same.f k a0 a1) (storagebarterref26_Same.f (k + 1) a0 a1) := by
  intro a0 a1 k
  have ih0 := storagebarterref26_Same.mono_l k
  unfold storagebarterref26_Same.f
  repeat' first
      | (with_reducible exact ih0 _ _ _)
      | (with_reducible exact LeO.refl _)
      | (with_reducible exact LeO.none _)
      | (with_reducible refine LeO.ite ?_ ?_)
      | (with_reducible refine LeO.bind ?_ (fun _ => ?_))
      | exact ih0 _ _ _
      | exact LeO.none _
      | refine LeO.ite ?_ ?_
      | refine LeO.bind ?_ (fun _ => ?_)
set_option maxHeartbeats 8000000 in
set_option maxRecDepth 100000 in
theorem storagebarterref26_Same.calls (k : Nat) (A0 : Option Addr) (c0 : Nat) (l0 : List (S44)) (A1 : Option Addr) (c1 : Nat) (l1 : List (S44)) (r : Bool) (w : World) (hr0 : Kd.C k44 w A0 l0.length l0) (hc0 : l0.length ≤ c0) (hr1 : Kd.C k44 w A1 l1.length l1) (hc1 : l1.length ≤ c1) (h : storagebarterref26_Same.f k l0 l1 = some r) :
    Calls Try.prog 22 #[.slice A0 l0.length c0, .slice A1 l1.length c1] w fun e w' => e = .returned (.bool r) ∧ Drawn0 w w' := by
  have hu44 := Try.underlying44
  have HR0 := Aside0.mk hr0
  have HC0 := Aside0.mk hc0
  clear hr0 hc0
  have HR1 := Aside0.mk hr1
  have HC1 := Aside0.mk hc1
  clear hr1 hc1
  have H : (if (l0.length : Int) = (l1.length : Int) then (storagebarterref26_Same.l0 k l0 l1 0) else (some false)) = some r := h
  clear h
  by_cases c3 : (l0.length : Int) = (l1.length : Int)
  · rw [if_pos c3] at H
    have c3b0 : ((l0.length : Int) == (l1.length : Int)) = true := beq_iff_eq.mpr c3
    have c3b1 : ((l0.length : Int) != (l1.length : Int)) = false := bne_eq_false_iff_eq.mpr c3
    have c3b2 : (l0.length == l1.length) = true := by first | simpa using c3 | (simp at c3 ⊢; omega)
    clear c3
    have H' := Aside0.mk H
    clear H
    go_enter Try.func22, Try.ntmps22
    go_wp2
    repeat (go_quiet (fail); try go_wp2)
    go_loopg [5] k (fun kq v5 w' => ∃ (x5_1 : Int), v5 = .int .i64 x5_1 ∧ Aside0 (storagebarterref26_Same.l0 kq l0 l1 x5_1 = some r) ∧ Aside0 (kq ≤ k) ∧ Drawn0 w w')
    case atStart => exact ⟨(0), (by first | rfl | (simp; done) | (simp [*]; done)), H', ⟨Nat.le_refl _⟩, by repeat (first | exact Drawn0.refl _ | apply Drawn0.step)⟩
    case round =>
      clear H'
      try clear c1
      try clear c2
      try clear p2
      try clear c3
      try clear c3b0
      try clear c3b1
      try clear c3b2
      obtain ⟨x5_1, rfl, HA, HK1, ⟨m1, rfl⟩⟩ := hrel
      cases gk with
      | zero => exact absurd HA.out (by simp [storagebarterref26_Same.l0])
      | succ k1 =>
        have H := HA.out
        clear HA
        simp only [storagebarterref26_Same.l0] at H
        by_cases c4 : x5_1 < (l0.length : Int)
        · rw [if_pos c4] at H
          have c4b0 : decide (x5_1 < (l0.length : Int)) = true := decide_eq_true c4
          clear c4
          by_cases c5 : 0 ≤ x5_1
          · rw [if_pos c5] at H
            have c5b0 : decide (0 ≤ x5_1) = true := decide_eq_true c5
            clear c5
            by_cases c6 : x5_1 < (l1.length : Int)
            · rw [if_pos c6] at H
              have c6b0 : decide (x5_1 < (l1.length : Int)) = true := decide_eq_true c6
              clear c6
              by_cases c7 : (!(((rd_T44 l0 x5_1).f0) == ((rd_T44 l1 x5_1).f0)) || (!(((rd_T44 l0 x5_1).f1) == ((rd_T44 l1 x5_1).f1)) || (!(((rd_T44 l0 x5_1).f2) == ((rd_T44 l1 x5_1).f2)) || (!(((rd_T44 l0 x5_1).f3) == ((rd_T44 l1 x5_1).f3)) || (!(((rd_T44 l0 x5_1).f4) == ((rd_T44 l1 x5_1).f4)) || (!(((rd_T44 l0 x5_1).f5) == ((rd_T44 l1 x5_1).f5)) || (!(((rd_T44 l0 x5_1).f6) == ((rd_T44 l1 x5_1).f6)) || (!(((rd_T44 l0 x5_1).f7) == ((rd_T44 l1 x5_1).f7)))))))))) = true
              · rw [if_pos c7] at H
                have c7b0 : (!(((rd_T44 l0 x5_1).f0) == ((rd_T44 l1 x5_1).f0)) || (!(((rd_T44 l0 x5_1).f1) == ((rd_T44 l1 x5_1).f1)) || (!(((rd_T44 l0 x5_1).f2) == ((rd_T44 l1 x5_1).f2)) || (!(((rd_T44 l0 x5_1).f3) == ((rd_T44 l1 x5_1).f3)) || (!(((rd_T44 l0 x5_1).f4) == ((rd_T44 l1 x5_1).f4)) || (!(((rd_T44 l0 x5_1).f5) == ((rd_T44 l1 x5_1).f5)) || (!(((rd_T44 l0 x5_1).f6) == ((rd_T44 l1 x5_1).f6)) || (!(((rd_T44 l0 x5_1).f7) == ((rd_T44 l1 x5_1).f7)))))))))) = true := c7
                clear c7
                obtain rfl := Option.some.inj H
                have p130 : 0 ≤ (x5_1 : Int) := of_decide_eq_true (by first | (with_reducible assumption) | assumption)
                have q130 : x5_1 < (l0.length : Int) := of_decide_eq_true (by first | (with_reducible assumption) | assumption)
                obtain ⟨ad130, e130, hx130_0, hx130_1, hx130_2, hx130_3, hx130_4, hx130_5, hx130_6, hx130_7⟩ := at_T44 HR0.out x5_1 p130 q130
                cases e130
                replace p130 := eq_true p130
                replace q130 := eq_true q130
                have p131 : 0 ≤ (x5_1 : Int) := of_decide_eq_true (by first | (with_reducible assumption) | assumption)
                have q131 : x5_1 < (l1.length : Int) := of_decide_eq_true (by first | (with_reducible assumption) | assumption)
                obtain ⟨ad131, e131, hx131_0, hx131_1, hx131_2, hx131_3, hx131_4, hx131_5, hx131_6, hx131_7⟩ := at_T44 HR1.out x5_1 p131 q131
                cases e131
                replace p131 := eq_true p131
                replace q131 := eq_true q131
                go_wp2
                repeat (go_quiet (fail); try go_wp2)
                go_ret
                exact ⟨by first | rfl | (simp; done) | (simp [*]; done), by repeat (first | exact Drawn0.refl _ | apply Drawn0.step)⟩
              · rw [if_neg c7] at H
                have c7b0 : (!(((rd_T44 l0 x5_1).f0) == ((rd_T44 l1 x5_1).f0)) || (!(((rd_T44 l0 x5_1).f1) == ((rd_T44 l1 x5_1).f1)) || (!(((rd_T44 l0 x5_1).f2) == ((rd_T44 l1 x5_1).f2)) || (!(((rd_T44 l0 x5_1).f3) == ((rd_T44 l1 x5_1).f3)) || (!(((rd_T44 l0 x5_1).f4) == ((rd_T44 l1 x5_1).f4)) || (!(((rd_T44 l0 x5_1).f5) == ((rd_T44 l1 x5_1).f5)) || (!(((rd_T44 l0 x5_1).f6) == ((rd_T44 l1 x5_1).f6)) || (!(((rd_T44 l0 x5_1).f7) == ((rd_T44 l1 x5_1).f7)))))))))) = false := by simpa using c7
                clear c7
                have H' := Aside0.mk H
                clear H
                have p130 : 0 ≤ (x5_1 : Int) := of_decide_eq_true (by first | (with_reducible assumption) | assumption)
                have q130 : x5_1 < (l0.length : Int) := of_decide_eq_true (by first | (with_reducible assumption) | assumption)
                obtain ⟨ad130, e130, hx130_0, hx130_1, hx130_2, hx130_3, hx130_4, hx130_5, hx130_6, hx130_7⟩ := at_T44 HR0.out x5_1 p130 q130
                cases e130
                replace p130 := eq_true p130
                replace q130 := eq_true q130
                have p131 : 0 ≤ (x5_1 : Int) := of_decide_eq_true (by first | (with_reducible assumption) | assumption)
                have q131 : x5_1 < (l1.length : Int) := of_decide_eq_true (by first | (with_reducible assumption) | assumption)
                obtain ⟨ad131, e131, hx131_0, hx131_1, hx131_2, hx131_3, hx131_4, hx131_5, hx131_6, hx131_7⟩ := at_T44 HR1.out x5_1 p131 q131
                cases e131
                replace p131 := eq_true p131
                replace q131 := eq_true q131
                go_wp2
                repeat (go_quiet (fail); try go_wp2)
                go_roundg k1
                case measure => have := HK1.out; omega
                case rel => exact ⟨(wrap64 (x5_1 + 1)), (by first | rfl | (simp; done) | (simp [*]; done)), H', ⟨by have := HK1.out; omega⟩, by repeat (first | exact Drawn0.refl _ | apply Drawn0.step)⟩
            · rw [if_neg c6] at H
              exact absurd H (by simp)
          · rw [if_neg c5] at H
            exact absurd H (by simp)
        · rw [if_neg c4] at H
          have c4b0 : decide (x5_1 < (l0.length : Int)) = false := decide_eq_false c4
          clear c4
          obtain rfl := Option.some.inj H
          go_wp2
          repeat (go_quiet (fail); try go_wp2)
          go_ret
          exact ⟨by first | rfl | (simp; done) | (simp [*]; done), by repeat (first | exact Drawn0.refl _ | apply Drawn0.step)⟩
  · rw [if_neg c3] at H
    have c3b0 : ((l0.length : Int) == (l1.length : Int)) = false := beq_eq_false_iff_ne.mpr c3
    have c3b1 : ((l0.length : Int) != (l1.length : Int)) = true := bne_iff_ne.mpr c3
    have c3b2 : (l0.length == l1.length) = false := by first | simpa using c3 | (simp at c3 ⊢; omega)
    obtain rfl := Option.some.inj H
    go_enter Try.func22, Try.ntmps22
    go_wp2
    repeat (go_quiet (fail); try go_wp2)
    go_ret
    exact ⟨by first | rfl | (simp; done) | (simp [*]; done), by repeat (first | exact Drawn0.refl _ | apply Drawn0.step)⟩

theorem storagebarterref26_Same.refl_l (l : List S44) (h : l.length < 2199023255552) : ∀ (d : Nat) (i : Int), 0 ≤ i → (l.length : Int) - i = d → storagebarterref26_Same.l0 (d + 1) l l i = some true := by
  intro d
  induction d with
  | zero => intro i h0 h1; simp only [storagebarterref26_Same.l0]; rw [if_neg (by omega)]
  | succ d ih =>
    intro i h0 h1
    have e : wrap64 (i + 1) = i + 1 := by unfold wrap64; omega
    have hi := ih (i + 1) (by omega) (by omega)
    rw [storagebarterref26_Same.l0, if_pos (by omega), if_pos h0, if_pos (by omega), e, hi]
    simp
theorem storagebarterref26_Same.refl (l : List S44) (h : l.length < 2199023255552) : storagebarterref26_Same.f (l.length + 1) l l = some true := by
  unfold storagebarterref26_Same.f
  rw [if_pos rfl]
  exact storagebarterref26_Same.refl_l l h l.length 0 (by omega) (by omega)

/-! ### storagebarterlaw26_EndingCommutes: function 3 -/
theorem ending_commute1 {l l2 l3 l4 l5 : List S44} {t p : Int} {A B C D : Prop} (e2 : l2 = l.filter (ending_over t) ∧ A) (e3 : l3 = (l2.filter (fun x => !(ending_keeps p x))).filter (fun x => !(ending_owns p x)) ∧ B) (e4 : l4 = (l.filter (fun x => !(ending_keeps p x))).filter (fun x => !(ending_owns p x)) ∧ C) (e5 : l5 = l4.filter (ending_over t) ∧ D) : l3 = l5 := by
  rw [e3.1, e2.1, e5.1, e4.1]
  simp only [List.filter_filter]
  congr 1
  funext x
  cases ending_over t x <;> cases ending_keeps p x <;> cases ending_owns p x <;> rfl
theorem ending_commute2 {m l3 l6 : List S44} {p q : Int} {B C : Prop} (e3 : l3 = (m.filter (fun x => !(ending_keeps p x))).filter (fun x => !(ending_owns p x)) ∧ B) (e6 : l6 = l3.filter (fun x => !(ending_between p q x)) ∧ C) : l6 = l3 := by
  rw [e6.1]
  refine List.filter_eq_self.2 fun x hx => ?_
  rw [e3.1] at hx
  have h1 := (List.mem_filter.1 hx).2
  have h2 := (List.mem_filter.1 (List.mem_filter.1 hx).1).2
  unfold ending_owns at h1
  unfold ending_keeps at h2
  unfold ending_between
  cases h : x.f0 == p <;> cases h' : x.f1 == p <;> simp_all
theorem ending_commute3 {l l7 l8 l9 l10 : List S44} {t p q : Int} {A B C D : Prop} (e7 : l7 = l.filter (fun x => !(ending_between p q x)) ∧ A) (e8 : l8 = l7.filter (ending_over t) ∧ B) (e9 : l9 = l.filter (ending_over t) ∧ C) (e10 : l10 = l9.filter (fun x => !(ending_between q p x)) ∧ D) : l8 = l10 := by
  rw [e8.1, e7.1, e10.1, e9.1]
  simp only [List.filter_filter]
  congr 1
  funext x
  unfold ending_between
  cases ending_over t x <;> cases x.f0 == p <;> cases x.f1 == q <;> cases x.f0 == q <;> cases x.f1 == p <;> rfl
def storagebarterlaw26_EndingCommutes.f (l0 : List Int) (a1 : Int) : Option Bool := if 0 ≤ a1 ∧ a1 ≤ 255 then some true else none
set_option maxHeartbeats 8000000 in
set_option maxRecDepth 100000 in
theorem storagebarterlaw26_EndingCommutes.calls (A0 : Option Addr) (c0 : Nat) (l0 : List Int) (a1 : Int) (r : Bool) (w : World) (hr0 : Kd.C (Kd.int .u8) w A0 l0.length l0) (hc0 : l0.length ≤ c0) (h : storagebarterlaw26_EndingCommutes.f l0 a1 = some r) :
    Calls Try.prog 3 #[.slice A0 l0.length c0, .int .u8 a1] w fun e w' => e = .returned (.bool r) ∧ Below w.heap.size w w' := by
  unfold storagebarterlaw26_EndingCommutes.f at h
  split at h
  · rename_i hh
    obtain ⟨ha0, ha1⟩ := hh
    obtain rfl := Option.some.inj h
    clear h
    have hu := Try.underlying32
    go_enter Try.func3, Try.ntmps3
    go_wp2_with fail
    refine (storagebarterlaw26_sane.calls true _ (by kernel_rfl)).mono ?_
    rintro e w1 ⟨rfl, hb⟩
    have hbb : Below w.heap.size w w1 := by first | exact hb | exact below_step (below_alloc (Below.refl _ _) _) hb | exact below_step (below_alloc (below_alloc (Below.refl _ _) _) _) hb
    have HB := Aside0.mk hbb
    clear hb hbb
    obtain ⟨s, hs, hs3⟩ := storagebarterplay_New.short l0
    have HS := Aside0.mk hs3
    have HR := Aside0.mk hr0
    clear hr0
    go_wp2_with fail
    refine (storagebarterplay_New.calls A0 c0 l0 s 0 w _ HB.out HR.out hc0 hs).mono ?_
    rintro e w2 ⟨g, rfl, hi, hb, _⟩
    have HI := Aside0.mk hi
    replace HB := Aside0.mk hb
    clear hi hb hs
    go_wp2_with fail
    obtain ⟨l, i0, hl, hl7, hi0, hi1⟩ := storagebarterplay_Dice_Leases.short s HS.out
    refine (storagebarterplay_Dice_Leases.calls g s 0 l i0 w _ HI.out HB.out hl).mono ?_
    rintro e w3 ⟨v, rfl, ho, hi, hb, _⟩
    have HO := Aside0.mk (Kd.R_mono (IsS84.apart hi ho (by decide)) (fun _ h_ => h_.2))
    replace HI := Aside0.mk hi
    replace HB := Aside0.mk hb
    clear hi hb ho hl
    obtain ⟨t1, i1, e_⟩ : ∃ t i', dpick s i0 4 = (t, i') := ⟨_, _, rfl⟩
    have t1_l := dpick_lt e_ (by omega)
    have i1_a := dpick_at e_ (by omega) (by omega)
    have E_ := Aside0.mk e_
    clear e_
    go_wp2_with fail
    refine (pick_calls E_.out g w _ HI.out HB.out (by omega) (by omega) HS.out (by omega)).mono ?_
    rintro e w4 ⟨rfl, hi, hb, hk⟩
    replace HO := Aside0.mk (Kd.R_keep HO.out hk (fun k h_ => h_))
    replace HI := Aside0.mk hi
    replace HB := Aside0.mk hb
    clear hi hb hk
    clear E_
    obtain ⟨t2, i2, e_⟩ : ∃ t i', dpick s i1 4 = (t, i') := ⟨_, _, rfl⟩
    have t2_l := dpick_lt e_ (by omega)
    have i2_a := dpick_at e_ (by omega) (by omega)
    have E_ := Aside0.mk e_
    clear e_
    go_wp2_with fail
    refine (pick_calls E_.out g w _ HI.out HB.out (by omega) (by omega) HS.out (by omega)).mono ?_
    rintro e w5 ⟨rfl, hi, hb, hk⟩
    replace HO := Aside0.mk (Kd.R_keep HO.out hk (fun k h_ => h_))
    replace HI := Aside0.mk hi
    replace HB := Aside0.mk hb
    clear hi hb hk
    clear E_
    have ho_ := HO.out
    clear HI HO
    obtain ⟨A1, d1, rfl, H1c, hr_⟩ := Kd.R_reads ho_
    have H1 := Aside0.mk hr_
    clear ho_ hr_
    have hl14 : (14 : Int) ≠ 0 := by omega
    obtain ⟨l2, l2', hf_, ln_, ef_⟩ := ending_Over.some_ l (a1 % 14) (by omega)
    have El2 := Aside0.mk ef_
    clear ef_
    have HF_ := Aside0.mk hf_
    clear hf_
    go_wp2_with fail
    refine (ending_Over.calls A1 d1 l (a1 % 14) l2 l2' _ (by first | exact H1.out | exact Kd.C_below H1.out (below_alloc (Below.refl _ _) _) | exact Kd.C_below H1.out (below_alloc (below_alloc (Below.refl _ _) _) _)) H1c HF_.out).mono ?_
    rintro e w6 ⟨v0, v1, rfl, ho0, ho1, hb⟩
    have hbb : Below w5.heap.size w5 w6 := by first | exact hb | exact below_step (below_alloc (Below.refl _ _) _) hb | exact below_step (below_alloc (below_alloc (Below.refl _ _) _) _) hb
    replace H1 := Aside0.mk (Kd.C_below H1.out hbb)
    replace HB := Aside0.mk (below_step HB.out hbb)
    clear hb hbb
    clear HF_
    obtain ⟨A2, d2, rfl, H2c, hr_⟩ := Kd.R_reads ho0
    have H2 := Aside0.mk hr_
    clear ho0 hr_
    obtain ⟨Ax_, cx_, rfl⟩ := Kd.R_slice ho1
    clear ho1
    obtain ⟨l3, z2, z3, l3x, l3y, hf_, ln_, ef_⟩ := ending_Culprit.some_ l2 (1 + t1) 1 1 (by omega)
    have El3 := Aside0.mk ef_
    clear ef_
    have HF_ := Aside0.mk hf_
    clear hf_
    go_wp2_with fail
    refine (ending_Culprit.calls A2 d2 l2 (1 + t1) 1 1 l3 z2 z3 l3x l3y _ (by first | exact H2.out | exact Kd.C_below H2.out (below_alloc (Below.refl _ _) _) | exact Kd.C_below H2.out (below_alloc (below_alloc (Below.refl _ _) _) _)) H2c HF_.out).mono ?_
    rintro e w7 ⟨v0, v1, v2, rfl, ho0, ho1, ho2, hb⟩
    have hbb : Below w6.heap.size w6 w7 := by first | exact hb | exact below_step (below_alloc (Below.refl _ _) _) hb | exact below_step (below_alloc (below_alloc (Below.refl _ _) _) _) hb
    replace H1 := Aside0.mk (Kd.C_below H1.out hbb)
    replace H2 := Aside0.mk (Kd.C_below H2.out hbb)
    replace HB := Aside0.mk (below_step HB.out hbb)
    clear hb hbb
    clear HF_
    obtain ⟨A3, d3, rfl, H3c, hr_⟩ := Kd.R_reads ho0
    have H3 := Aside0.mk hr_
    clear ho0 hr_
    obtain ⟨Ax_, cx_, rfl⟩ := Kd.R_slice ho1
    clear ho1
    obtain ⟨Ax_, cx_, rfl⟩ := Kd.R_slice ho2
    clear ho2
    obtain ⟨l4, z2, z3, l4x, l4y, hf_, ln_, ef_⟩ := ending_Culprit.some_ l (1 + t1) 1 1 (by omega)
    have El4 := Aside0.mk ef_
    clear ef_
    have HF_ := Aside0.mk hf_
    clear hf_
    go_wp2_with fail
    refine (ending_Culprit.calls A1 d1 l (1 + t1) 1 1 l4 z2 z3 l4x l4y _ (by first | exact H1.out | exact Kd.C_below H1.out (below_alloc (Below.refl _ _) _) | exact Kd.C_below H1.out (below_alloc (below_alloc (Below.refl _ _) _) _)) H1c HF_.out).mono ?_
    rintro e w8 ⟨v0, v1, v2, rfl, ho0, ho1, ho2, hb⟩
    have hbb : Below w7.heap.size w7 w8 := by first | exact hb | exact below_step (below_alloc (Below.refl _ _) _) hb | exact below_step (below_alloc (below_alloc (Below.refl _ _) _) _) hb
    replace H1 := Aside0.mk (Kd.C_below H1.out hbb)
    replace H2 := Aside0.mk (Kd.C_below H2.out hbb)
    replace H3 := Aside0.mk (Kd.C_below H3.out hbb)
    replace HB := Aside0.mk (below_step HB.out hbb)
    clear hb hbb
    clear HF_
    obtain ⟨A4, d4, rfl, H4c, hr_⟩ := Kd.R_reads ho0
    have H4 := Aside0.mk hr_
    clear ho0 hr_
    obtain ⟨Ax_, cx_, rfl⟩ := Kd.R_slice ho1
    clear ho1
    obtain ⟨Ax_, cx_, rfl⟩ := Kd.R_slice ho2
    clear ho2
    obtain ⟨l5, l5', hf_, ln_, ef_⟩ := ending_Over.some_ l4 (a1 % 14) (by omega)
    have El5 := Aside0.mk ef_
    clear ef_
    have HF_ := Aside0.mk hf_
    clear hf_
    go_wp2_with fail
    refine (ending_Over.calls A4 d4 l4 (a1 % 14) l5 l5' _ (by first | exact H4.out | exact Kd.C_below H4.out (below_alloc (Below.refl _ _) _) | exact Kd.C_below H4.out (below_alloc (below_alloc (Below.refl _ _) _) _)) H4c HF_.out).mono ?_
    rintro e w9 ⟨v0, v1, rfl, ho0, ho1, hb⟩
    have hbb : Below w8.heap.size w8 w9 := by first | exact hb | exact below_step (below_alloc (Below.refl _ _) _) hb | exact below_step (below_alloc (below_alloc (Below.refl _ _) _) _) hb
    replace H1 := Aside0.mk (Kd.C_below H1.out hbb)
    replace H2 := Aside0.mk (Kd.C_below H2.out hbb)
    replace H3 := Aside0.mk (Kd.C_below H3.out hbb)
    replace H4 := Aside0.mk (Kd.C_below H4.out hbb)
    replace HB := Aside0.mk (below_step HB.out hbb)
    clear hb hbb
    clear HF_
    obtain ⟨A5, d5, rfl, H5c, hr_⟩ := Kd.R_reads ho0
    have H5 := Aside0.mk hr_
    clear ho0 hr_
    obtain ⟨Ax_, cx_, rfl⟩ := Kd.R_slice ho1
    clear ho1
    obtain ⟨l6, l6', hf_, ln_, ef_⟩ := ending_Between.some_ l3 (1 + t1) (1 + t2) (by omega)
    have El6 := Aside0.mk ef_
    clear ef_
    have HF_ := Aside0.mk hf_
    clear hf_
    go_wp2_with fail
    refine (ending_Between.calls A3 d3 l3 (1 + t1) (1 + t2) l6 l6' _ (by first | exact H3.out | exact Kd.C_below H3.out (below_alloc (Below.refl _ _) _) | exact Kd.C_below H3.out (below_alloc (below_alloc (Below.refl _ _) _) _)) H3c HF_.out).mono ?_
    rintro e w10 ⟨v0, v1, rfl, ho0, ho1, hb⟩
    have hbb : Below w9.heap.size w9 w10 := by first | exact hb | exact below_step (below_alloc (Below.refl _ _) _) hb | exact below_step (below_alloc (below_alloc (Below.refl _ _) _) _) hb
    replace H1 := Aside0.mk (Kd.C_below H1.out hbb)
    replace H2 := Aside0.mk (Kd.C_below H2.out hbb)
    replace H3 := Aside0.mk (Kd.C_below H3.out hbb)
    replace H4 := Aside0.mk (Kd.C_below H4.out hbb)
    replace H5 := Aside0.mk (Kd.C_below H5.out hbb)
    replace HB := Aside0.mk (below_step HB.out hbb)
    clear hb hbb
    clear HF_
    obtain ⟨A6, d6, rfl, H6c, hr_⟩ := Kd.R_reads ho0
    have H6 := Aside0.mk hr_
    clear ho0 hr_
    obtain ⟨Ax_, cx_, rfl⟩ := Kd.R_slice ho1
    clear ho1
    obtain ⟨l7, l7', hf_, ln_, ef_⟩ := ending_Between.some_ l (1 + t1) (1 + t2) (by omega)
    have El7 := Aside0.mk ef_
    clear ef_
    have HF_ := Aside0.mk hf_
    clear hf_
    go_wp2_with fail
    refine (ending_Between.calls A1 d1 l (1 + t1) (1 + t2) l7 l7' _ (by first | exact H1.out | exact Kd.C_below H1.out (below_alloc (Below.refl _ _) _) | exact Kd.C_below H1.out (below_alloc (below_alloc (Below.refl _ _) _) _)) H1c HF_.out).mono ?_
    rintro e w11 ⟨v0, v1, rfl, ho0, ho1, hb⟩
    have hbb : Below w10.heap.size w10 w11 := by first | exact hb | exact below_step (below_alloc (Below.refl _ _) _) hb | exact below_step (below_alloc (below_alloc (Below.refl _ _) _) _) hb
    replace H1 := Aside0.mk (Kd.C_below H1.out hbb)
    replace H2 := Aside0.mk (Kd.C_below H2.out hbb)
    replace H3 := Aside0.mk (Kd.C_below H3.out hbb)
    replace H4 := Aside0.mk (Kd.C_below H4.out hbb)
    replace H5 := Aside0.mk (Kd.C_below H5.out hbb)
    replace H6 := Aside0.mk (Kd.C_below H6.out hbb)
    replace HB := Aside0.mk (below_step HB.out hbb)
    clear hb hbb
    clear HF_
    obtain ⟨A7, d7, rfl, H7c, hr_⟩ := Kd.R_reads ho0
    have H7 := Aside0.mk hr_
    clear ho0 hr_
    obtain ⟨Ax_, cx_, rfl⟩ := Kd.R_slice ho1
    clear ho1
    obtain ⟨l8, l8', hf_, ln_, ef_⟩ := ending_Over.some_ l7 (a1 % 14) (by omega)
    have El8 := Aside0.mk ef_
    clear ef_
    have HF_ := Aside0.mk hf_
    clear hf_
    go_wp2_with fail
    refine (ending_Over.calls A7 d7 l7 (a1 % 14) l8 l8' _ (by first | exact H7.out | exact Kd.C_below H7.out (below_alloc (Below.refl _ _) _) | exact Kd.C_below H7.out (below_alloc (below_alloc (Below.refl _ _) _) _)) H7c HF_.out).mono ?_
    rintro e w12 ⟨v0, v1, rfl, ho0, ho1, hb⟩
    have hbb : Below w11.heap.size w11 w12 := by first | exact hb | exact below_step (below_alloc (Below.refl _ _) _) hb | exact below_step (below_alloc (below_alloc (Below.refl _ _) _) _) hb
    replace H1 := Aside0.mk (Kd.C_below H1.out hbb)
    replace H2 := Aside0.mk (Kd.C_below H2.out hbb)
    replace H3 := Aside0.mk (Kd.C_below H3.out hbb)
    replace H4 := Aside0.mk (Kd.C_below H4.out hbb)
    replace H5 := Aside0.mk (Kd.C_below H5.out hbb)
    replace H6 := Aside0.mk (Kd.C_below H6.out hbb)
    replace H7 := Aside0.mk (Kd.C_below H7.out hbb)
    replace HB := Aside0.mk (below_step HB.out hbb)
    clear hb hbb
    clear HF_
    obtain ⟨A8, d8, rfl, H8c, hr_⟩ := Kd.R_reads ho0
    have H8 := Aside0.mk hr_
    clear ho0 hr_
    obtain ⟨Ax_, cx_, rfl⟩ := Kd.R_slice ho1
    clear ho1
    obtain ⟨l9, l9', hf_, ln_, ef_⟩ := ending_Over.some_ l (a1 % 14) (by omega)
    have El9 := Aside0.mk ef_
    clear ef_
    have HF_ := Aside0.mk hf_
    clear hf_
    go_wp2_with fail
    refine (ending_Over.calls A1 d1 l (a1 % 14) l9 l9' _ (by first | exact H1.out | exact Kd.C_below H1.out (below_alloc (Below.refl _ _) _) | exact Kd.C_below H1.out (below_alloc (below_alloc (Below.refl _ _) _) _)) H1c HF_.out).mono ?_
    rintro e w13 ⟨v0, v1, rfl, ho0, ho1, hb⟩
    have hbb : Below w12.heap.size w12 w13 := by first | exact hb | exact below_step (below_alloc (Below.refl _ _) _) hb | exact below_step (below_alloc (below_alloc (Below.refl _ _) _) _) hb
    replace H1 := Aside0.mk (Kd.C_below H1.out hbb)
    replace H2 := Aside0.mk (Kd.C_below H2.out hbb)
    replace H3 := Aside0.mk (Kd.C_below H3.out hbb)
    replace H4 := Aside0.mk (Kd.C_below H4.out hbb)
    replace H5 := Aside0.mk (Kd.C_below H5.out hbb)
    replace H6 := Aside0.mk (Kd.C_below H6.out hbb)
    replace H7 := Aside0.mk (Kd.C_below H7.out hbb)
    replace H8 := Aside0.mk (Kd.C_below H8.out hbb)
    replace HB := Aside0.mk (below_step HB.out hbb)
    clear hb hbb
    clear HF_
    obtain ⟨A9, d9, rfl, H9c, hr_⟩ := Kd.R_reads ho0
    have H9 := Aside0.mk hr_
    clear ho0 hr_
    obtain ⟨Ax_, cx_, rfl⟩ := Kd.R_slice ho1
    clear ho1
    obtain ⟨l10, l10', hf_, ln_, ef_⟩ := ending_Between.some_ l9 (1 + t2) (1 + t1) (by omega)
    have El10 := Aside0.mk ef_
    clear ef_
    have HF_ := Aside0.mk hf_
    clear hf_
    go_wp2_with fail
    refine (ending_Between.calls A9 d9 l9 (1 + t2) (1 + t1) l10 l10' _ (by first | exact H9.out | exact Kd.C_below H9.out (below_alloc (Below.refl _ _) _) | exact Kd.C_below H9.out (below_alloc (below_alloc (Below.refl _ _) _) _)) H9c HF_.out).mono ?_
    rintro e w14 ⟨v0, v1, rfl, ho0, ho1, hb⟩
    have hbb : Below w13.heap.size w13 w14 := by first | exact hb | exact below_step (below_alloc (Below.refl _ _) _) hb | exact below_step (below_alloc (below_alloc (Below.refl _ _) _) _) hb
    replace H1 := Aside0.mk (Kd.C_below H1.out hbb)
    replace H2 := Aside0.mk (Kd.C_below H2.out hbb)
    replace H3 := Aside0.mk (Kd.C_below H3.out hbb)
    replace H4 := Aside0.mk (Kd.C_below H4.out hbb)
    replace H5 := Aside0.mk (Kd.C_below H5.out hbb)
    replace H6 := Aside0.mk (Kd.C_below H6.out hbb)
    replace H7 := Aside0.mk (Kd.C_below H7.out hbb)
    replace H8 := Aside0.mk (Kd.C_below H8.out hbb)
    replace H9 := Aside0.mk (Kd.C_below H9.out hbb)
    replace HB := Aside0.mk (below_step HB.out hbb)
    clear hb hbb
    clear HF_
    obtain ⟨A10, d10, rfl, H10c, hr_⟩ := Kd.R_reads ho0
    have H10 := Aside0.mk hr_
    clear ho0 hr_
    obtain ⟨Ax_, cx_, rfl⟩ := Kd.R_slice ho1
    clear ho1
    have X1 := Aside0.mk (ending_commute1 El2.out El3.out El4.out El5.out)
    have X2 := Aside0.mk (ending_commute2 El3.out El6.out)
    have X3 := Aside0.mk (ending_commute3 El7.out El8.out El9.out El10.out)
    go_wp2_with fail
    refine (storagebarterref26_Same.calls (l3.length + 1) A3 d3 l3 A5 d5 l5 true _ (by first | exact H3.out | exact Kd.C_below H3.out (below_alloc (Below.refl _ _) _) | exact Kd.C_below H3.out (below_alloc (below_alloc (Below.refl _ _) _) _)) H3c (by first | exact H5.out | exact Kd.C_below H5.out (below_alloc (Below.refl _ _) _) | exact Kd.C_below H5.out (below_alloc (below_alloc (Below.refl _ _) _) _)) H5c (by rw [X1.out]; exact storagebarterref26_Same.refl _ (by omega))).mono ?_
    rintro e w15 ⟨rfl, hd_⟩
    have hb := hd_.below; clear hd_
    have hbb : Below w14.heap.size w14 w15 := by first | exact hb | exact below_step (below_alloc (Below.refl _ _) _) hb | exact below_step (below_alloc (below_alloc (Below.refl _ _) _) _) hb
    replace H1 := Aside0.mk (Kd.C_below H1.out hbb)
    replace H2 := Aside0.mk (Kd.C_below H2.out hbb)
    replace H3 := Aside0.mk (Kd.C_below H3.out hbb)
    replace H4 := Aside0.mk (Kd.C_below H4.out hbb)
    replace H5 := Aside0.mk (Kd.C_below H5.out hbb)
    replace H6 := Aside0.mk (Kd.C_below H6.out hbb)
    replace H7 := Aside0.mk (Kd.C_below H7.out hbb)
    replace H8 := Aside0.mk (Kd.C_below H8.out hbb)
    replace H9 := Aside0.mk (Kd.C_below H9.out hbb)
    replace H10 := Aside0.mk (Kd.C_below H10.out hbb)
    replace HB := Aside0.mk (below_step HB.out hbb)
    clear hb hbb
    go_wp2_with fail
    refine (storagebarterref26_Same.calls (l6.length + 1) A6 d6 l6 A3 d3 l3 true _ (by first | exact H6.out | exact Kd.C_below H6.out (below_alloc (Below.refl _ _) _) | exact Kd.C_below H6.out (below_alloc (below_alloc (Below.refl _ _) _) _)) H6c (by first | exact H3.out | exact Kd.C_below H3.out (below_alloc (Below.refl _ _) _) | exact Kd.C_below H3.out (below_alloc (below_alloc (Below.refl _ _) _) _)) H3c (by rw [X2.out]; exact storagebarterref26_Same.refl _ (by omega))).mono ?_
    rintro e w16 ⟨rfl, hd_⟩
    have hb := hd_.below; clear hd_
    have hbb : Below w15.heap.size w15 w16 := by first | exact hb | exact below_step (below_alloc (Below.refl _ _) _) hb | exact below_step (below_alloc (below_alloc (Below.refl _ _) _) _) hb
    replace H1 := Aside0.mk (Kd.C_below H1.out hbb)
    replace H2 := Aside0.mk (Kd.C_below H2.out hbb)
    replace H3 := Aside0.mk (Kd.C_below H3.out hbb)
    replace H4 := Aside0.mk (Kd.C_below H4.out hbb)
    replace H5 := Aside0.mk (Kd.C_below H5.out hbb)
    replace H6 := Aside0.mk (Kd.C_below H6.out hbb)
    replace H7 := Aside0.mk (Kd.C_below H7.out hbb)
    replace H8 := Aside0.mk (Kd.C_below H8.out hbb)
    replace H9 := Aside0.mk (Kd.C_below H9.out hbb)
    replace H10 := Aside0.mk (Kd.C_below H10.out hbb)
    replace HB := Aside0.mk (below_step HB.out hbb)
    clear hb hbb
    go_wp2_with fail
    refine (storagebarterref26_Same.calls (l8.length + 1) A8 d8 l8 A10 d10 l10 true _ (by first | exact H8.out | exact Kd.C_below H8.out (below_alloc (Below.refl _ _) _) | exact Kd.C_below H8.out (below_alloc (below_alloc (Below.refl _ _) _) _)) H8c (by first | exact H10.out | exact Kd.C_below H10.out (below_alloc (Below.refl _ _) _) | exact Kd.C_below H10.out (below_alloc (below_alloc (Below.refl _ _) _) _)) H10c (by rw [X3.out]; exact storagebarterref26_Same.refl _ (by omega))).mono ?_
    rintro e w17 ⟨rfl, hd_⟩
    have hb := hd_.below; clear hd_
    have hbb : Below w16.heap.size w16 w17 := by first | exact hb | exact below_step (below_alloc (Below.refl _ _) _) hb | exact below_step (below_alloc (below_alloc (Below.refl _ _) _) _) hb
    replace H1 := Aside0.mk (Kd.C_below H1.out hbb)
    replace H2 := Aside0.mk (Kd.C_below H2.out hbb)
    replace H3 := Aside0.mk (Kd.C_below H3.out hbb)
    replace H4 := Aside0.mk (Kd.C_below H4.out hbb)
    replace H5 := Aside0.mk (Kd.C_below H5.out hbb)
    replace H6 := Aside0.mk (Kd.C_below H6.out hbb)
    replace H7 := Aside0.mk (Kd.C_below H7.out hbb)
    replace H8 := Aside0.mk (Kd.C_below H8.out hbb)
    replace H9 := Aside0.mk (Kd.C_below H9.out hbb)
    replace H10 := Aside0.mk (Kd.C_below H10.out hbb)
    replace HB := Aside0.mk (below_step HB.out hbb)
    clear hb hbb
    go_wp2
    go_ret
    exact ⟨rfl, HB.out⟩
  · cases h

def storagebarterlaw26_EndingCommutes.Pure : Prop := ∀ (l0 : List Int) (a1 : Int), l0.length ≤ maxLen → l0.length * 1 ≤ 140737488351232 → (∀ x ∈ l0, (Lit.int .u8 x).wf = true) → (Lit.int .u8 a1).wf = true → storagebarterlaw26_EndingCommutes.f l0 a1 = some true
theorem storagebarterlaw26_EndingCommutes.walk (P : storagebarterlaw26_EndingCommutes.Pure) (a0 : Option Addr) (len0 cap0 : Nat) (z0 : List Int) (a1 : Int) (w : World) (w0 : (a0 = none ∧ len0 = 0 ∧ cap0 = 0 ∧ z0 = []) ∨ ∃ x, a0 = some x ∧ len0 ≤ cap0 ∧ cap0 ≤ maxLen ∧ z0.length = cap0 ∧ (∀ i, i < z0.length → w.cell? (x.add i) = some (.int .u8 (z0.getD i 0))) ∧ ∀ n ∈ z0, (Lit.int .u8 n).wf = true) (y0 : len0 * 1 ≤ 140737488351232) (w1 : (Lit.int .u8 a1).wf = true) :
    Calls Try.prog 3 #[.slice a0 len0 cap0, .int .u8 a1] w fun e w' => e = .returned (.bool true) ∧ Below w.heap.size w w' := by
  obtain ⟨l0, rfl, hr0, hm0, hw0, hc0⟩ := ReadsInt.ofRowC w0
  have h := P l0 a1 hm0 y0 hw0 w1
  refine (storagebarterlaw26_EndingCommutes.calls _ _ l0 a1 true w (Kd.C_of_reads (d := (0 : Int)) (h1 := fun _ => rfl) hr0) hc0 h).mono ?_
  rintro e w' ⟨rfl, hd⟩
  exact ⟨rfl, hd⟩

end Go.Proofs.Ytepffabkcbfejaa.PEndingCommutes
