-- Written by a program of this repository (wip/tools/myprint.py over the print of the kit): contracts and rows.
import Derived.Test.YtepffabkcbfejaaPEndingAllx0
import Derived.Test.YtepffabkcbfejaaPEndingAllx2
namespace Go.Proofs.Ytepffabkcbfejaa.PEndingAll
open Go.RowKit Go.Proofs.YtepffabkcbfejaaW.PrintWords Go.Proofs.YtepffabkcbfejaaW.PrintLast Go.Proofs.YtepffabkcbfejaaW.PrintMore
attribute [local go_sem] max2_int min2_int max_two min_two max_three min_three max_four min_four   -- for this text's walks alone
set_option linter.unusedVariables false
set_option linter.unusedSimpArgs false

/-! ### ending_Over: function 19 -/
theorem ending_at_Over (t : Int) (g : Nat) (x : S44) (w : World) (hg : w.cell? ⟨g, 0, none⟩ = some (.int .i64 t)) :
    Calls Try.prog 56 #[.agg #[.int .i64 x.f0, .int .i64 x.f1, .int .i64 x.f2, .int .i64 x.f3, .int .i64 x.f4, .int .i64 x.f5, .int .i64 x.f6, .bool x.f7], .pointer (some ⟨g, 0, none⟩)] w fun e w' => e = .returned (.bool ((ending_over t) x)) ∧ Below w.heap.size w w' := by
  have hg' := pw_cell_below (below_alloc (Below.refl w.heap.size w) (.cells #[.int .i64 x.f0, .int .i64 x.f1, .int .i64 x.f2, .int .i64 x.f3, .int .i64 x.f4, .int .i64 x.f5, .int .i64 x.f6, .bool x.f7] 44)) hg
  go_enter Try.func56, Try.ntmps56
  go_wp2
  go_ret
  exact ⟨rfl, below_alloc (Below.refl _ _) _⟩

set_option maxHeartbeats 4000000 in
set_option maxRecDepth 100000 in
theorem ending_split_Over (A0 : Option Addr) (c0 : Nat) (l0 : List S44) (t : Int) (g : Nat) (w : World) (hr0 : Kd.C k44 w A0 l0.length l0) (hc0 : l0.length ≤ c0) (hl : l0.length < 2199023255552) (hg : w.cell? ⟨g, 0, none⟩ = some (.int .i64 t)) :
    Calls Try.prog 55 #[.slice A0 l0.length c0, .func (.func 56) #[] #[.pointer (some ⟨g, 0, none⟩)]] w fun e w' => ∃ v0_ v1_ : Value, e = .returned (.tuple #[v0_, v1_]) ∧ Kd.R k44 44 w' w.heap.size (fun k_ => some k_ ≠ (v1_ : Value).ownBlock) v0_ (l0.filter (ending_over t)) ∧ Kd.R k44 44 w' w.heap.size (fun k_ => some k_ ≠ (v0_ : Value).ownBlock) v1_ (l0.filter (fun x => !((ending_over t) x))) ∧ Below w.heap.size w w' := by
  have hu := Try.underlying44
  have HR0 := Aside0.mk hr0
  have HG := Aside0.mk hg; clear hg
  clear hr0
  go_enter Try.func55, Try.ntmps55
  go_wp2
  go_loopw [4, 5, 10] (fun v4 v5 v10 w' => ∃ i : Int, 0 ≤ i ∧ i ≤ l0.length ∧ v10 = .int .i64 i ∧ Aside0 (Kd.R k44 44 w' w.heap.size (fun k_ => some k_ ≠ (v5 : Value).ownBlock) v4 ((l0.take i.toNat).filter (ending_over t))) ∧ Aside0 (Kd.R k44 44 w' w.heap.size (fun k_ => some k_ ≠ (v4 : Value).ownBlock) v5 ((l0.take i.toNat).filter (fun x => !((ending_over t) x)))) ∧ Aside0 (Below w.heap.size w w')) (fun _ _ v10 _ => l0.length - (intOf v10).toNat)
  case atStart => exact ⟨0, by omega, by omega, rfl, ⟨Kd.R_nil _ _ _ _ _⟩, ⟨Kd.R_nil _ _ _ _ _⟩, ⟨Below.refl _ _⟩⟩
  case round =>
    obtain ⟨i, hi0, hi, rfl, HO4, HO5, HB⟩ := hrel
    by_cases hlt : i < (l0.length : Int)
    · obtain ⟨ad, e0, h0, h1, h2, h3, h4, h5, h6, h7⟩ := at_T44 HR0.out i hi0 hlt
      cases e0
      obtain ⟨x, hx⟩ : ∃ x, x = rd_T44 l0 i := ⟨_, rfl⟩
      rw [← hx] at h0 h1 h2 h3 h4 h5 h6 h7
      have HX := Aside0.mk hx
      clear hx
      replace h0 := (HB.out.cell (World.block_lt_of_cell? w _ h0)).trans h0
      replace h1 := (HB.out.cell (World.block_lt_of_cell? w _ h1)).trans h1
      replace h2 := (HB.out.cell (World.block_lt_of_cell? w _ h2)).trans h2
      replace h3 := (HB.out.cell (World.block_lt_of_cell? w _ h3)).trans h3
      replace h4 := (HB.out.cell (World.block_lt_of_cell? w _ h4)).trans h4
      replace h5 := (HB.out.cell (World.block_lt_of_cell? w _ h5)).trans h5
      replace h6 := (HB.out.cell (World.block_lt_of_cell? w _ h6)).trans h6
      replace h7 := (HB.out.cell (World.block_lt_of_cell? w _ h7)).trans h7
      go_wp2_with fail
      refine (ending_at_Over t g x _ (pw_cell_below (below_alloc HB.out _) HG.out)).mono ?_
      rintro e w2 ⟨rfl, hb0⟩
      have hblk := (hb0.block wr.heap.size (by simp)).trans (blk_new wr (.cells #[.int .i64 x.f0, .int .i64 x.f1, .int .i64 x.f2, .int .i64 x.f3, .int .i64 x.f4, .int .i64 x.f5, .int .i64 x.f6, .bool x.f7] 44 (0, 0)))
      have c0_ := blk_cell hblk 0; have c1_ := blk_cell hblk 1; have c2_ := blk_cell hblk 2; have c3_ := blk_cell hblk 3; have c4_ := blk_cell hblk 4; have c5_ := blk_cell hblk 5; have c6_ := blk_cell hblk 6; have c7_ := blk_cell hblk 7
      have HB2 := Aside0.mk ((below_alloc (Below.refl wr.heap.size wr) (.cells #[.int .i64 x.f0, .int .i64 x.f1, .int .i64 x.f2, .int .i64 x.f3, .int .i64 x.f4, .int .i64 x.f5, .int .i64 x.f6, .bool x.f7] 44)).trans (hb0.mono (by simp)))
      have HB1 := Aside0.mk (below_step HB.out HB2.out)
      clear hb0 hblk h0 h1 h2 h3 h4 h5 h6 h7
      have HL : Aside0 ((((l0.take i.toNat).filter (ending_over t)).length + 1) * 64 ≤ 140737488355328 ∧ (((l0.take i.toNat).filter (fun x => !((ending_over t) x))).length + 1) * 64 ≤ 140737488355328) := ⟨by have := List.length_filter_le (ending_over t) (l0.take i.toNat); have := List.length_filter_le (fun x => !((ending_over t) x)) (l0.take i.toNat); have := List.length_take_le i.toNat l0; omega⟩
      cases hp : ((ending_over t) x)
      · have HL := Aside0.mk HL.out.2
        have HT : Aside0 ((l0.take (i + 1).toNat).filter (ending_over t) = (l0.take i.toNat).filter (ending_over t)) := ⟨by rw [print_take_succ l0 z44 i hi0 hlt, List.filter_append]; show _ ++ List.filter _ [rd_T44 l0 i] = _; rw [← HX.out]; simp [hp]⟩
        have HF : Aside0 ((l0.take (i + 1).toNat).filter (fun x => !((ending_over t) x)) = (l0.take i.toNat).filter (fun x => !((ending_over t) x)) ++ [x]) := ⟨by rw [print_take_succ l0 z44 i hi0 hlt, List.filter_append]; show _ ++ List.filter _ [rd_T44 l0 i] = _; rw [← HX.out]; simp [hp]⟩
        try (simp only [] at hp)
        go_wp2_with (at_builtin; refine Kd.R_append k44 (w0 := w) w.heap.size rfl (.tmp 21) (.tmp 23) 26 44 (.agg #[(.int .i64 0), (.int .i64 0), (.int .i64 0), (.int .i64 0), (.int .i64 0), (.int .i64 0), (.int .i64 0), (.bool false)]) 64 rfl Try.underlying26 info44 rfl (by decide) (by omega) u5 _ x [.int .i64 x.f0, .int .i64 x.f1, .int .i64 x.f2, .int .i64 x.f3, .int .i64 x.f4, .int .i64 x.f5, .int .i64 x.f6, .bool x.f7] (fun k_ => some k_ ≠ (u4 : Value).ownBlock) (fun _ => False) rfl rfl (k44_mkM _ _ _ x) (fun _ hk => hk.elim) (fun k_ hk => Kd.fresh' (Kd.R_lt (Kd.R_below HO4.out HB2.out)) k_ hk) (Kd.R_below HO5.out HB2.out) HB1.out HB1.out.size ?aL ?_; (case aL => exact HL.out); intro v1 w3 ho hb hg hat; have HOa := Aside0.mk (Kd.R_after (ok := (fun _ => True)) (Kd.R_mono (Kd.R_below HO4.out HB2.out) (fun _ hk => ⟨trivial, hk⟩)) hg hat); have HOb := Aside0.mk ho; have HBb := Aside0.mk hb; clear ho hb hg hat)
        go_roundw
        case rel => exact ⟨i + 1, by omega, by omega, by go_num, ⟨by rw [HT.out]; exact Kd.R_mono HOa.out (fun _ hk => hk.2)⟩, ⟨by rw [HF.out]; exact HOb.out⟩, ⟨HBb.out⟩⟩
        case measure => simp [intOf]; omega

      · have HL := Aside0.mk HL.out.1
        have HT : Aside0 ((l0.take (i + 1).toNat).filter (ending_over t) = (l0.take i.toNat).filter (ending_over t) ++ [x]) := ⟨by rw [print_take_succ l0 z44 i hi0 hlt, List.filter_append]; show _ ++ List.filter _ [rd_T44 l0 i] = _; rw [← HX.out]; simp [hp]⟩
        have HF : Aside0 ((l0.take (i + 1).toNat).filter (fun x => !((ending_over t) x)) = (l0.take i.toNat).filter (fun x => !((ending_over t) x))) := ⟨by rw [print_take_succ l0 z44 i hi0 hlt, List.filter_append]; show _ ++ List.filter _ [rd_T44 l0 i] = _; rw [← HX.out]; simp [hp]⟩
        try (simp only [] at hp)
        go_wp2_with (at_builtin; refine Kd.R_append k44 (w0 := w) w.heap.size rfl (.tmp 17) (.tmp 19) 26 44 (.agg #[(.int .i64 0), (.int .i64 0), (.int .i64 0), (.int .i64 0), (.int .i64 0), (.int .i64 0), (.int .i64 0), (.bool false)]) 64 rfl Try.underlying26 info44 rfl (by decide) (by omega) u4 _ x [.int .i64 x.f0, .int .i64 x.f1, .int .i64 x.f2, .int .i64 x.f3, .int .i64 x.f4, .int .i64 x.f5, .int .i64 x.f6, .bool x.f7] (fun k_ => some k_ ≠ (u5 : Value).ownBlock) (fun _ => False) rfl rfl (k44_mkM _ _ _ x) (fun _ hk => hk.elim) (fun k_ hk => Kd.fresh' (Kd.R_lt (Kd.R_below HO5.out HB2.out)) k_ hk) (Kd.R_below HO4.out HB2.out) HB1.out HB1.out.size ?aL ?_; (case aL => exact HL.out); intro v1 w3 ho hb hg hat; have HOa := Aside0.mk (Kd.R_after (ok := (fun _ => True)) (Kd.R_mono (Kd.R_below HO5.out HB2.out) (fun _ hk => ⟨trivial, hk⟩)) hg hat); have HOb := Aside0.mk ho; have HBb := Aside0.mk hb; clear ho hb hg hat)
        go_roundw
        case rel => exact ⟨i + 1, by omega, by omega, by go_num, ⟨by rw [HT.out]; exact HOb.out⟩, ⟨by rw [HF.out]; exact Kd.R_mono HOa.out (fun _ hk => hk.2)⟩, ⟨HBb.out⟩⟩
        case measure => simp [intOf]; omega

    · go_wp2
      go_ret2
      rw [List.take_of_length_le (by omega)] at HO4 HO5
      exact ⟨_, _, rfl, HO4.out, HO5.out, HB.out⟩

def ending_Over.f (l0 : List S44) (a1 : Int) : Option ((List S44) × (List S44)) := if l0.length < 2199023255552 then some (l0.filter (ending_over a1), l0.filter (fun x => !(ending_over a1 x))) else none
set_option maxHeartbeats 4000000 in
set_option maxRecDepth 100000 in
theorem ending_Over.calls (A0 : Option Addr) (c0 : Nat) (l0 : List S44) (a1 : Int) (r1 : List S44) (r2 : List S44) (w : World) (hr0 : Kd.C k44 w A0 l0.length l0) (hc0 : l0.length ≤ c0) (h : ending_Over.f l0 a1 = some (r1, r2)) :
    Calls Try.prog 19 #[.slice A0 l0.length c0, .int .i64 a1] w fun e w' => ∃ v0_ v1_ : Value, e = .returned (.tuple #[v0_, v1_]) ∧ Kd.R k44 44 w' w.heap.size (fun k_ => some k_ ≠ (v1_ : Value).ownBlock) v0_ r1 ∧ Kd.R k44 44 w' w.heap.size (fun k_ => some k_ ≠ (v0_ : Value).ownBlock) v1_ r2 ∧ Below w.heap.size w w' := by
  unfold ending_Over.f at h
  split at h
  · rename_i hl
    simp only [Option.some.injEq, Prod.mk.injEq] at h
    obtain ⟨rfl, rfl⟩ := h
    have HR := Aside0.mk hr0
    clear hr0
    go_enter Try.func19, Try.ntmps19
    go_wp2_with fail
    refine (ending_split_Over A0 c0 l0 a1 w.heap.size _ (Kd.C_below HR.out (below_alloc (Below.refl _ _) _)) hc0 hl (by go_simp)).mono ?_
    rintro e w' ⟨v0, v1, rfl, ho0, ho1, hb⟩
    go_wp2
    go_ret2
    exact ⟨_, _, rfl, Kd.R_lower ho0 (by simp), Kd.R_lower ho1 (by simp), (below_alloc (Below.refl _ _) _).trans (hb.mono (by simp))⟩
  · cases h


theorem ending_Over.some_ (l : List S44) (t : Int) (h : l.length < 2199023255552) : ∃ r1 r2, ending_Over.f l t = some (r1, r2) ∧ (r1.length ≤ l.length ∧ r2.length ≤ l.length) ∧ r1 = l.filter (ending_over t) ∧ r2 = l.filter (fun x => !(ending_over t x)) :=
  ⟨_, _, if_pos h, ⟨List.length_filter_le _ _, List.length_filter_le _ _⟩, rfl, rfl⟩


/-! ### ending_Between: function 21 -/
set_option maxHeartbeats 4000000 in
theorem ending_at_Between (a b : Int) (ga gb : Nat) (x : S44) (w : World) (hga : w.cell? ⟨ga, 0, none⟩ = some (.int .i64 a)) (hgb : w.cell? ⟨gb, 0, none⟩ = some (.int .i64 b)) :
    Calls Try.prog 59 #[.agg #[.int .i64 x.f0, .int .i64 x.f1, .int .i64 x.f2, .int .i64 x.f3, .int .i64 x.f4, .int .i64 x.f5, .int .i64 x.f6, .bool x.f7], .pointer (some ⟨ga, 0, none⟩), .pointer (some ⟨gb, 0, none⟩)] w fun e w' => e = .returned (.bool ((ending_between a b) x)) ∧ Below w.heap.size w w' := by
  have hga' := pw_cell_below (below_alloc (Below.refl w.heap.size w) (.cells #[.int .i64 x.f0, .int .i64 x.f1, .int .i64 x.f2, .int .i64 x.f3, .int .i64 x.f4, .int .i64 x.f5, .int .i64 x.f6, .bool x.f7] 44)) hga
  have hgb' := pw_cell_below (below_alloc (Below.refl w.heap.size w) (.cells #[.int .i64 x.f0, .int .i64 x.f1, .int .i64 x.f2, .int .i64 x.f3, .int .i64 x.f4, .int .i64 x.f5, .int .i64 x.f6, .bool x.f7] 44)) hgb
  unfold ending_between
  cases h0a : x.f0 == a <;> cases h1b : x.f1 == b <;> cases h0b : x.f0 == b <;> cases h1a : x.f1 == a
  all_goals
    go_enter Try.func59, Try.ntmps59
    go_wp2
    go_ret
    exact ⟨rfl, below_alloc (Below.refl _ _) _⟩

set_option maxHeartbeats 4000000 in
set_option maxRecDepth 100000 in
theorem ending_split_Between (A0 : Option Addr) (c0 : Nat) (l0 : List S44) (a b : Int) (ga gb : Nat) (w : World) (hr0 : Kd.C k44 w A0 l0.length l0) (hc0 : l0.length ≤ c0) (hl : l0.length < 2199023255552) (hga : w.cell? ⟨ga, 0, none⟩ = some (.int .i64 a)) (hgb : w.cell? ⟨gb, 0, none⟩ = some (.int .i64 b)) :
    Calls Try.prog 55 #[.slice A0 l0.length c0, .func (.func 59) #[] #[.pointer (some ⟨ga, 0, none⟩), .pointer (some ⟨gb, 0, none⟩)]] w fun e w' => ∃ v0_ v1_ : Value, e = .returned (.tuple #[v0_, v1_]) ∧ Kd.R k44 44 w' w.heap.size (fun k_ => some k_ ≠ (v1_ : Value).ownBlock) v0_ (l0.filter (ending_between a b)) ∧ Kd.R k44 44 w' w.heap.size (fun k_ => some k_ ≠ (v0_ : Value).ownBlock) v1_ (l0.filter (fun x => !((ending_between a b) x))) ∧ Below w.heap.size w w' := by
  have hu := Try.underlying44
  have HR0 := Aside0.mk hr0
  have HGa := Aside0.mk hga; have HGb := Aside0.mk hgb; clear hga hgb
  clear hr0
  go_enter Try.func55, Try.ntmps55
  go_wp2
  go_loopw [4, 5, 10] (fun v4 v5 v10 w' => ∃ i : Int, 0 ≤ i ∧ i ≤ l0.length ∧ v10 = .int .i64 i ∧ Aside0 (Kd.R k44 44 w' w.heap.size (fun k_ => some k_ ≠ (v5 : Value).ownBlock) v4 ((l0.take i.toNat).filter (ending_between a b))) ∧ Aside0 (Kd.R k44 44 w' w.heap.size (fun k_ => some k_ ≠ (v4 : Value).ownBlock) v5 ((l0.take i.toNat).filter (fun x => !((ending_between a b) x)))) ∧ Aside0 (Below w.heap.size w w')) (fun _ _ v10 _ => l0.length - (intOf v10).toNat)
  case atStart => exact ⟨0, by omega, by omega, rfl, ⟨Kd.R_nil _ _ _ _ _⟩, ⟨Kd.R_nil _ _ _ _ _⟩, ⟨Below.refl _ _⟩⟩
  case round =>
    obtain ⟨i, hi0, hi, rfl, HO4, HO5, HB⟩ := hrel
    by_cases hlt : i < (l0.length : Int)
    · obtain ⟨ad, e0, h0, h1, h2, h3, h4, h5, h6, h7⟩ := at_T44 HR0.out i hi0 hlt
      cases e0
      obtain ⟨x, hx⟩ : ∃ x, x = rd_T44 l0 i := ⟨_, rfl⟩
      rw [← hx] at h0 h1 h2 h3 h4 h5 h6 h7
      have HX := Aside0.mk hx
      clear hx
      replace h0 := (HB.out.cell (World.block_lt_of_cell? w _ h0)).trans h0
      replace h1 := (HB.out.cell (World.block_lt_of_cell? w _ h1)).trans h1
      replace h2 := (HB.out.cell (World.block_lt_of_cell? w _ h2)).trans h2
      replace h3 := (HB.out.cell (World.block_lt_of_cell? w _ h3)).trans h3
      replace h4 := (HB.out.cell (World.block_lt_of_cell? w _ h4)).trans h4
      replace h5 := (HB.out.cell (World.block_lt_of_cell? w _ h5)).trans h5
      replace h6 := (HB.out.cell (World.block_lt_of_cell? w _ h6)).trans h6
      replace h7 := (HB.out.cell (World.block_lt_of_cell? w _ h7)).trans h7
      go_wp2_with fail
      refine (ending_at_Between a b ga gb x _ (pw_cell_below (below_alloc HB.out _) HGa.out) (pw_cell_below (below_alloc HB.out _) HGb.out)).mono ?_
      rintro e w2 ⟨rfl, hb0⟩
      have hblk := (hb0.block wr.heap.size (by simp)).trans (blk_new wr (.cells #[.int .i64 x.f0, .int .i64 x.f1, .int .i64 x.f2, .int .i64 x.f3, .int .i64 x.f4, .int .i64 x.f5, .int .i64 x.f6, .bool x.f7] 44 (0, 0)))
      have c0_ := blk_cell hblk 0; have c1_ := blk_cell hblk 1; have c2_ := blk_cell hblk 2; have c3_ := blk_cell hblk 3; have c4_ := blk_cell hblk 4; have c5_ := blk_cell hblk 5; have c6_ := blk_cell hblk 6; have c7_ := blk_cell hblk 7
      have HB2 := Aside0.mk ((below_alloc (Below.refl wr.heap.size wr) (.cells #[.int .i64 x.f0, .int .i64 x.f1, .int .i64 x.f2, .int .i64 x.f3, .int .i64 x.f4, .int .i64 x.f5, .int .i64 x.f6, .bool x.f7] 44)).trans (hb0.mono (by simp)))
      have HB1 := Aside0.mk (below_step HB.out HB2.out)
      clear hb0 hblk h0 h1 h2 h3 h4 h5 h6 h7
      have HL : Aside0 ((((l0.take i.toNat).filter (ending_between a b)).length + 1) * 64 ≤ 140737488355328 ∧ (((l0.take i.toNat).filter (fun x => !((ending_between a b) x))).length + 1) * 64 ≤ 140737488355328) := ⟨by have := List.length_filter_le (ending_between a b) (l0.take i.toNat); have := List.length_filter_le (fun x => !((ending_between a b) x)) (l0.take i.toNat); have := List.length_take_le i.toNat l0; omega⟩
      cases hp : ((ending_between a b) x)
      · have HL := Aside0.mk HL.out.2
        have HT : Aside0 ((l0.take (i + 1).toNat).filter (ending_between a b) = (l0.take i.toNat).filter (ending_between a b)) := ⟨by rw [print_take_succ l0 z44 i hi0 hlt, List.filter_append]; show _ ++ List.filter _ [rd_T44 l0 i] = _; rw [← HX.out]; simp [hp]⟩
        have HF : Aside0 ((l0.take (i + 1).toNat).filter (fun x => !((ending_between a b) x)) = (l0.take i.toNat).filter (fun x => !((ending_between a b) x)) ++ [x]) := ⟨by rw [print_take_succ l0 z44 i hi0 hlt, List.filter_append]; show _ ++ List.filter _ [rd_T44 l0 i] = _; rw [← HX.out]; simp [hp]⟩
        try (simp only [] at hp)
        go_wp2_with (at_builtin; refine Kd.R_append k44 (w0 := w) w.heap.size rfl (.tmp 21) (.tmp 23) 26 44 (.agg #[(.int .i64 0), (.int .i64 0), (.int .i64 0), (.int .i64 0), (.int .i64 0), (.int .i64 0), (.int .i64 0), (.bool false)]) 64 rfl Try.underlying26 info44 rfl (by decide) (by omega) u5 _ x [.int .i64 x.f0, .int .i64 x.f1, .int .i64 x.f2, .int .i64 x.f3, .int .i64 x.f4, .int .i64 x.f5, .int .i64 x.f6, .bool x.f7] (fun k_ => some k_ ≠ (u4 : Value).ownBlock) (fun _ => False) rfl rfl (k44_mkM _ _ _ x) (fun _ hk => hk.elim) (fun k_ hk => Kd.fresh' (Kd.R_lt (Kd.R_below HO4.out HB2.out)) k_ hk) (Kd.R_below HO5.out HB2.out) HB1.out HB1.out.size ?aL ?_; (case aL => exact HL.out); intro v1 w3 ho hb hg hat; have HOa := Aside0.mk (Kd.R_after (ok := (fun _ => True)) (Kd.R_mono (Kd.R_below HO4.out HB2.out) (fun _ hk => ⟨trivial, hk⟩)) hg hat); have HOb := Aside0.mk ho; have HBb := Aside0.mk hb; clear ho hb hg hat)
        go_roundw
        case rel => exact ⟨i + 1, by omega, by omega, by go_num, ⟨by rw [HT.out]; exact Kd.R_mono HOa.out (fun _ hk => hk.2)⟩, ⟨by rw [HF.out]; exact HOb.out⟩, ⟨HBb.out⟩⟩
        case measure => simp [intOf]; omega

      · have HL := Aside0.mk HL.out.1
        have HT : Aside0 ((l0.take (i + 1).toNat).filter (ending_between a b) = (l0.take i.toNat).filter (ending_between a b) ++ [x]) := ⟨by rw [print_take_succ l0 z44 i hi0 hlt, List.filter_append]; show _ ++ List.filter _ [rd_T44 l0 i] = _; rw [← HX.out]; simp [hp]⟩
        have HF : Aside0 ((l0.take (i + 1).toNat).filter (fun x => !((ending_between a b) x)) = (l0.take i.toNat).filter (fun x => !((ending_between a b) x))) := ⟨by rw [print_take_succ l0 z44 i hi0 hlt, List.filter_append]; show _ ++ List.filter _ [rd_T44 l0 i] = _; rw [← HX.out]; simp [hp]⟩
        try (simp only [] at hp)
        go_wp2_with (at_builtin; refine Kd.R_append k44 (w0 := w) w.heap.size rfl (.tmp 17) (.tmp 19) 26 44 (.agg #[(.int .i64 0), (.int .i64 0), (.int .i64 0), (.int .i64 0), (.int .i64 0), (.int .i64 0), (.int .i64 0), (.bool false)]) 64 rfl Try.underlying26 info44 rfl (by decide) (by omega) u4 _ x [.int .i64 x.f0, .int .i64 x.f1, .int .i64 x.f2, .int .i64 x.f3, .int .i64 x.f4, .int .i64 x.f5, .int .i64 x.f6, .bool x.f7] (fun k_ => some k_ ≠ (u5 : Value).ownBlock) (fun _ => False) rfl rfl (k44_mkM _ _ _ x) (fun _ hk => hk.elim) (fun k_ hk => Kd.fresh' (Kd.R_lt (Kd.R_below HO5.out HB2.out)) k_ hk) (Kd.R_below HO4.out HB2.out) HB1.out HB1.out.size ?aL ?_; (case aL => exact HL.out); intro v1 w3 ho hb hg hat; have HOa := Aside0.mk (Kd.R_after (ok := (fun _ => True)) (Kd.R_mono (Kd.R_below HO5.out HB2.out) (fun _ hk => ⟨trivial, hk⟩)) hg hat); have HOb := Aside0.mk ho; have HBb := Aside0.mk hb; clear ho hb hg hat)
        go_roundw
        case rel => exact ⟨i + 1, by omega, by omega, by go_num, ⟨by rw [HT.out]; exact HOb.out⟩, ⟨by rw [HF.out]; exact Kd.R_mono HOa.out (fun _ hk => hk.2)⟩, ⟨HBb.out⟩⟩
        case measure => simp [intOf]; omega

    · go_wp2
      go_ret2
      rw [List.take_of_length_le (by omega)] at HO4 HO5
      exact ⟨_, _, rfl, HO4.out, HO5.out, HB.out⟩

def ending_Between.f (l0 : List S44) (a1 : Int) (a2 : Int) : Option ((List S44) × (List S44)) := if l0.length < 2199023255552 then some (l0.filter (fun x => !(ending_between a1 a2 x)), l0.filter (ending_between a1 a2)) else none
set_option maxHeartbeats 4000000 in
set_option maxRecDepth 100000 in
theorem ending_Between.calls (A0 : Option Addr) (c0 : Nat) (l0 : List S44) (a1 : Int) (a2 : Int) (r1 : List S44) (r2 : List S44) (w : World) (hr0 : Kd.C k44 w A0 l0.length l0) (hc0 : l0.length ≤ c0) (h : ending_Between.f l0 a1 a2 = some (r1, r2)) :
    Calls Try.prog 21 #[.slice A0 l0.length c0, .int .i64 a1, .int .i64 a2] w fun e w' => ∃ v0_ v1_ : Value, e = .returned (.tuple #[v0_, v1_]) ∧ Kd.R k44 44 w' w.heap.size (fun k_ => some k_ ≠ (v1_ : Value).ownBlock) v0_ r1 ∧ Kd.R k44 44 w' w.heap.size (fun k_ => some k_ ≠ (v0_ : Value).ownBlock) v1_ r2 ∧ Below w.heap.size w w' := by
  unfold ending_Between.f at h
  split at h
  · rename_i hl
    simp only [Option.some.injEq, Prod.mk.injEq] at h
    obtain ⟨rfl, rfl⟩ := h
    have HR := Aside0.mk hr0
    clear hr0
    go_enter Try.func21, Try.ntmps21
    go_wp2_with fail
    refine (ending_split_Between A0 c0 l0 a1 a2 w.heap.size (w.heap.size + 1) _ (Kd.C_below HR.out (below_alloc (below_alloc (Below.refl _ _) _) _)) hc0 hl (by go_simp) (by go_simp)).mono ?_
    rintro e w' ⟨v0, v1, rfl, ho0, ho1, hb⟩
    go_wp2
    go_ret2
    exact ⟨_, _, rfl, Kd.R_lower ho1 (by simp; omega), Kd.R_lower ho0 (by simp; omega), (below_alloc (below_alloc (Below.refl _ _) _) _).trans (hb.mono (by simp; omega))⟩
  · cases h


theorem ending_Between.some_ (l : List S44) (a b : Int) (h : l.length < 2199023255552) : ∃ r1 r2, ending_Between.f l a b = some (r1, r2) ∧ (r1.length ≤ l.length ∧ r2.length ≤ l.length) ∧ r1 = l.filter (fun x => !(ending_between a b x)) ∧ r2 = l.filter (ending_between a b) :=
  ⟨_, _, if_pos h, ⟨List.length_filter_le _ _, List.length_filter_le _ _⟩, rfl, rfl⟩


/-! ### ending_Room: function 23 -/
mutual
def ending_Room.l0 : Nat → Int → Int → List (S44) → Int → Int → Int → Int → Option (Int × Int)
  | 0, _, _, _, _, _, _, _ => none
  | k + 1, x1, x2, x10, x11, x12, x132000, x132001 => if x12 < x11 then (if 0 ≤ x12 then (if x12 < (x10.length : Int) then (if ((rd_T44 x10 x12).f1) = x1 then (ending_Room.j1 k x1 x2 x10 x11 x12 (((rd_T44 x10 x12).f0) == x2) x132000 x132001 ((rd_T44 x10 x12).f0) ((rd_T44 x10 x12).f1) ((rd_T44 x10 x12).f2) ((rd_T44 x10 x12).f3) ((rd_T44 x10 x12).f4) ((rd_T44 x10 x12).f5) ((rd_T44 x10 x12).f6) ((rd_T44 x10 x12).f7)) else (ending_Room.j1 k x1 x2 x10 x11 x12 false x132000 x132001 ((rd_T44 x10 x12).f0) ((rd_T44 x10 x12).f1) ((rd_T44 x10 x12).f2) ((rd_T44 x10 x12).f3) ((rd_T44 x10 x12).f4) ((rd_T44 x10 x12).f5) ((rd_T44 x10 x12).f6) ((rd_T44 x10 x12).f7))) else (none)) else (none)) else (some (x132000, x132001))
def ending_Room.j1 : Nat → Int → Int → List (S44) → Int → Int → Bool → Int → Int → Int → Int → Int → Int → Int → Int → Int → Bool → Option (Int × Int)
  | 0, _, _, _, _, _, _, _, _, _, _, _, _, _, _, _, _ => none
  | k + 1, x1, x2, x10, x11, x12, x25, x132000, x132001, x134000, x134001, x134002, x134003, x134004, x134005, x134006, x134007 => if x25 = true then (if x134001 = x2 then (if x134000 = x1 then (ending_Room.l0 k x1 x2 x10 x11 (wrap64 (x12 + 1)) (wrap64 (x132000 + x134004)) (wrap64 (x132001 + x134004))) else (ending_Room.l0 k x1 x2 x10 x11 (wrap64 (x12 + 1)) (wrap64 (x132000 + x134004)) x132001)) else (ending_Room.l0 k x1 x2 x10 x11 (wrap64 (x12 + 1)) (wrap64 (x132000 + x134004)) x132001)) else (if x134001 = x2 then (if x134000 = x1 then (ending_Room.l0 k x1 x2 x10 x11 (wrap64 (x12 + 1)) x132000 (wrap64 (x132001 + x134004))) else (ending_Room.l0 k x1 x2 x10 x11 (wrap64 (x12 + 1)) x132000 x132001)) else (ending_Room.l0 k x1 x2 x10 x11 (wrap64 (x12 + 1)) x132000 x132001))
end
def ending_Room.f (k : Nat) (l0 : List (S44)) (a1 : Int) (a2 : Int) : Option (Int × Int) := ending_Room.l0 k a1 a2 l0 (l0.length : Int) 0 0 0
theorem ending_Room.mono_l : ∀ k, (∀ y0 y1 y2 y3 y4 y5 y6, LeO (ending_Room.l0 k y0 y1 y2 y3 y4 y5 y6) (ending_Room.l0 (k + 1) y0 y1 y2 y3 y4 y5 y6)) ∧ (∀ y0 y1 y2 y3 y4 y5 y6 y7 y8 y9 y10 y11 y12 y13 y14 y15, LeO (ending_Room.j1 k y0 y1 y2 y3 y4 y5 y6 y7 y8 y9 y10 y11 y12 y13 y14 y15) (ending_Room.j1 (k + 1) y0 y1 y2 y3 y4 y5 y6 y7 y8 y9 y10 y11 y12 y13 y14 y15))
  | 0 => ⟨fun _ _ _ _ _ _ _ r h => by simp [ending_Room.l0] at h, fun _ _ _ _ _ _ _ _ _ _ _ _ _ _ _ _ r h => by simp [ending_Room.j1] at h⟩
  | k + 1 => by
    obtain ⟨ih0, ih1⟩ := ending_Room.mono_l k
    refine ⟨?_, ?_⟩
    · intro y0 y1 y2 y3 y4 y5 y6
      unfold ending_Room.l0
      repeat' first
      | (with_reducible exact ih0 _ _ _ _ _ _ _)
      | (with_reducible exact ih1 _ _ _ _ _ _ _ _ _ _ _ _ _ _ _ _)
      | (with_reducible exact LeO.refl _)
      | (with_reducible exact LeO.none _)
      | (with_reducible refine LeO.ite ?_ ?_)
      | (with_reducible refine LeO.bind ?_ (fun _ => ?_))
      | exact ih0 _ _ _ _ _ _ _
      | exact ih1 _ _ _ _ _ _ _ _ _ _ _ _ _ _ _ _
      | exact LeO.none _
      | refine LeO.ite ?_ ?_
      | refine LeO.bind ?_ (fun _ => ?_)
    · intro y0 y1 y2 y3 y4 y5 y6 y7 y8 y9 y10 y11 y12 y13 y14 y15
      unfold ending_Room.j1
      repeat' first
      | (with_reducible exact ih0 _ _ _ _ _ _ _)
      | (with_reducible exact ih1 _ _ _ _ _ _ _ _ _ _ _ _ _ _ _ _)
      | (with_reducible exact LeO.refl _)
      | (with_reducible exact LeO.none _)
      | (with_reducible refine LeO.ite ?_ ?_)
      | (with_reducible refine LeO.bind ?_ (fun _ => ?_))
      | exact ih0 _ _ _ _ _ _ _
      | exact ih1 _ _ _ _ _ _ _ _ _ _ _ _ _ _ _ _
      | exact LeO.none _
      | refine LeO.ite ?_ ?_
      | refine LeO.bind ?_ (fun _ => ?_)
theorem ending_Room.mono : ∀ a0 a1 a2 k, LeO (ending_Room.f k a0 a1 a2) (ending_Room.f (k + 1) a0 a1 a2) := by
  intro a0 a1 a2 k
  obtain ⟨ih0, ih1⟩ := ending_Room.mono_l k
  unfold ending_Room.f
  repeat' first
      | (with_reducible exact ih0 _ _ _ _ _ _ _)
      | (with_reducible exact ih1 _ _ _ _ _ _ _ _ _ _ _ _ _ _ _ _)
      | (with_reducible exact LeO.refl _)
      | (with_reducible exact LeO.none _)
      | (with_reducible refine LeO.ite ?_ ?_)
      | (with_reducible refine LeO.bind ?_ (fun _ => ?_))
      | exact ih0 _ _ _ _ _ _ _
      | exact ih1 _ _ _ _ _ _ _ _ _ _ _ _ _ _ _ _
      | exact LeO.none _
      | refine LeO.ite ?_ ?_
      | refine LeO.bind ?_ (fun _ => ?_)
set_option maxHeartbeats 8000000 in
set_option maxRecDepth 100000 in
theorem ending_Room.calls (k : Nat) (A0 : Option Addr) (c0 : Nat) (l0 : List (S44)) (a1 : Int) (a2 : Int) (r1 : Int) (r2 : Int) (w : World) (hr0 : Kd.C k44 w A0 l0.length l0) (hc0 : l0.length ≤ c0) (h : ending_Room.f k l0 a1 a2 = some (r1, r2)) :
    Calls Try.prog 23 #[.slice A0 l0.length c0, .int .i64 a1, .int .i64 a2] w fun e w' => e = .returned (.agg #[.int .i64 r1, .int .i64 r2]) ∧ Below w.heap.size w w' := by
  have hu39 := Try.underlying39
  have hu44 := Try.underlying44
  have HR0 := Aside0.mk hr0
  have HC0 := Aside0.mk hc0
  clear hr0 hc0
  have HB := Aside0.mk (Below.refl w.heap.size w)
  have H : (ending_Room.l0 k a1 a2 l0 (l0.length : Int) 0 0 0) = some (r1, r2) := h
  clear h
  have H' := Aside0.mk H
  clear H
  go_enter Try.func23, Try.ntmps23
  go_wp2_with (first | ((with_reducible refine gate_dst (N := 6) rfl ?_); refine box_event ?hg (N := 6) ?hd (cs := #[.int .i64 0, .int .i64 0]) (t := 39) ?hr ?_; (case hd => rfl); (case hg => rfl); (case hr => first | (go_simp; done) | (go_simp; rfl)); intro gb130 hg w4 hbox hb; have n0_ := Aside0.mk (below_step (by repeat (first | (with_reducible first | exact HB.out | apply below_alloc | apply pw_below_drewN | apply below_drew1) | exact HB.out)) hb); have n1_ := Aside0.mk (hbox); have n2_ := Aside0.mk ((by rw [hg]; exact (below_size (by repeat (first | (with_reducible first | exact HB.out | apply below_alloc | apply pw_below_drewN | apply below_drew1) | exact HB.out))) : w.heap.size ≤ gb130)); have n3_ := Aside0.mk ((by rw [hg]; exact (below_size (by repeat (first | (with_reducible first | exact HB.out | apply below_alloc | apply pw_below_drewN | apply below_drew1) | exact HB.out))) : w.heap.size ≤ gb130)); clear HB; have HB := n0_; have BK130 := n1_; have GW130 := n2_; have GE130 := n3_; clear n0_ n1_ n2_ n3_; clear hb hbox hg) | ((with_reducible refine gate_dst (N := 7) rfl ?_); refine box_event ?hg (N := 7) ?hd (cs := #[.int .i64 0, .int .i64 0]) (t := 39) ?hr ?_; (case hd => rfl); (case hg => rfl); (case hr => first | (go_simp; done) | (go_simp; rfl)); intro gb131 hg w5 hbox hb; have n0_ := Aside0.mk (blk_below (g := gb130) (o := .cells #[.int .i64 0, .int .i64 0] 39 (0, 0)) (by (with_reducible repeat (first | refine blk_drewN ?_ _ | refine blk_drew ?_ | refine blk_alloc ?_ _)); exact BK130.out) hb); have n1_ := Aside0.mk (below_step (by repeat (first | (with_reducible first | exact HB.out | apply below_alloc | apply pw_below_drewN | apply below_drew1 | refine below_set ?_ GE130.out) | exact HB.out)) hb); have n2_ := Aside0.mk (hbox); have n3_ := Aside0.mk ((by rw [hg]; exact (below_size (by repeat (first | (with_reducible first | exact HB.out | apply below_alloc | apply pw_below_drewN | apply below_drew1 | refine below_set ?_ GE130.out) | exact HB.out))) : w.heap.size ≤ gb131)); have n4_ := Aside0.mk ((by rw [hg]; exact (below_size (by repeat (first | (with_reducible first | exact HB.out | apply below_alloc | apply pw_below_drewN | apply below_drew1 | refine below_set ?_ GE130.out) | exact HB.out))) : w.heap.size ≤ gb131)); have n5_ := Aside0.mk ((by rw [hg]; exact Nat.ne_of_lt (blk_lt (g := gb130) (o := .cells #[.int .i64 0, .int .i64 0] 39 (0, 0)) (by (with_reducible repeat (first | refine blk_drewN ?_ _ | refine blk_drew ?_ | refine blk_alloc ?_ _)); exact BK130.out)) : gb130 ≠ gb131)); have n6_ := Aside0.mk ((by rw [hg]; exact Nat.ne_of_gt (blk_lt (g := gb130) (o := .cells #[.int .i64 0, .int .i64 0] 39 (0, 0)) (by (with_reducible repeat (first | refine blk_drewN ?_ _ | refine blk_drew ?_ | refine blk_alloc ?_ _)); exact BK130.out)) : gb131 ≠ gb130)); clear BK130; clear HB; have BK130 := n0_; have HB := n1_; have BK131 := n2_; have GW131 := n3_; have GE131 := n4_; have NB130_131 := n5_; have NB131_130 := n6_; clear n0_ n1_ n2_ n3_ n4_ n5_ n6_; clear hb hbox hg))
  go_loopg [12] k (fun kq v12 w' => ∃ (x12_1 : Int) (x132000_1 : Int) (x132001_1 : Int), v12 = .int .i64 x12_1 ∧ Aside0 (ending_Room.l0 kq a1 a2 l0 (l0.length : Int) x12_1 x132000_1 x132001_1 = some (r1, r2)) ∧ Aside0 (kq ≤ k) ∧ Aside0 (w'.heap[gb130]? = some (.cells #[.int .i64 0, .int .i64 0] 39 (0, 0))) ∧ Aside0 (w'.heap[gb131]? = some (.cells #[.int .i64 x132000_1, .int .i64 x132001_1] 39 (0, 0))) ∧ Aside0 (Below w.heap.size w w'))
  case atStart => exact ⟨(0), (0), (0), (by first | rfl | (simp; done) | (simp [*]; done)), H', ⟨Nat.le_refl _⟩, ⟨by (with_reducible repeat (first | refine blk_drewN ?_ _ | refine blk_drew ?_ | refine blk_alloc ?_ _)); exact BK130.out⟩, ⟨by (with_reducible repeat (first | refine blk_drewN ?_ _ | refine blk_drew ?_ | refine blk_alloc ?_ _)); exact BK131.out⟩, ⟨by repeat (first | (with_reducible first | exact HB.out | apply below_alloc | apply pw_below_drewN | apply below_drew1 | refine below_set ?_ GE130.out | refine below_set ?_ GE131.out) | exact HB.out)⟩⟩
  case round =>
    clear H'
    try clear c2
    try clear p2
    obtain ⟨x12_1, x132000_1, x132001_1, rfl, HA, HK1, BK130, BK131, HB⟩ := hrel
    cases gk with
    | zero => exact absurd HA.out (by simp [ending_Room.l0])
    | succ k1 =>
      have H := HA.out
      clear HA
      simp only [ending_Room.l0] at H
      by_cases c6 : x12_1 < (l0.length : Int)
      · rw [if_pos c6] at H
        have c6b0 : decide (x12_1 < (l0.length : Int)) = true := decide_eq_true c6
        clear c6
        by_cases c7 : 0 ≤ x12_1
        · rw [if_pos c7] at H
          have c7b0 : decide (0 ≤ x12_1) = true := decide_eq_true c7
          clear c7
          by_cases c8 : x12_1 < (l0.length : Int)
          · rw [if_pos c8] at H
            have c8b0 : decide (x12_1 < (l0.length : Int)) = true := decide_eq_true c8
            clear c8
            have HC9 := Aside0.mk H
            clear H
            have p132 : 0 ≤ (x12_1 : Int) := of_decide_eq_true (by first | (with_reducible assumption) | assumption)
            have q132 : x12_1 < (l0.length : Int) := of_decide_eq_true (by first | (with_reducible assumption) | assumption)
            obtain ⟨ad132, e132, hx132_0, hx132_1, hx132_2, hx132_3, hx132_4, hx132_5, hx132_6, hx132_7⟩ := at_T44 HR0.out x12_1 p132 q132
            cases e132
            replace hx132_0 := (HB.out.cell (World.block_lt_of_cell? w _ hx132_0)).trans hx132_0
            replace hx132_1 := (HB.out.cell (World.block_lt_of_cell? w _ hx132_1)).trans hx132_1
            replace hx132_2 := (HB.out.cell (World.block_lt_of_cell? w _ hx132_2)).trans hx132_2
            replace hx132_3 := (HB.out.cell (World.block_lt_of_cell? w _ hx132_3)).trans hx132_3
            replace hx132_4 := (HB.out.cell (World.block_lt_of_cell? w _ hx132_4)).trans hx132_4
            replace hx132_5 := (HB.out.cell (World.block_lt_of_cell? w _ hx132_5)).trans hx132_5
            replace hx132_6 := (HB.out.cell (World.block_lt_of_cell? w _ hx132_6)).trans hx132_6
            replace hx132_7 := (HB.out.cell (World.block_lt_of_cell? w _ hx132_7)).trans hx132_7
            replace p132 := eq_true p132
            replace q132 := eq_true q132
            go_upto_region 5 with (first | ((with_reducible refine gate_dst (N := 9) rfl ?_); refine box_event ?hg (N := 9) ?hd (cs := #[.int .i64 0, .int .i64 0, .int .i64 0, .int .i64 0, .int .i64 0, .int .i64 0, .int .i64 0, .bool false]) (t := 44) ?hr ?_; (case hd => rfl); (case hg => rfl); (case hr => first | (go_simp; done) | (go_simp; rfl)); intro gb133 hg w10 hbox hb; have n0_ := Aside0.mk (blk_below (g := gb130) (o := .cells #[.int .i64 0, .int .i64 0] 39 (0, 0)) (by (with_reducible repeat (first | refine blk_drewN ?_ _ | refine blk_drew ?_ | refine blk_alloc ?_ _)); exact BK130.out) hb); have n1_ := Aside0.mk (blk_below (g := gb131) (o := .cells #[.int .i64 x132000_1, .int .i64 x132001_1] 39 (0, 0)) (by (with_reducible repeat (first | refine blk_drewN ?_ _ | refine blk_drew ?_ | refine blk_alloc ?_ _)); exact BK131.out) hb); have n2_ := Aside0.mk (below_step (by repeat (first | (with_reducible first | exact HB.out | apply below_alloc | apply pw_below_drewN | apply below_drew1 | refine below_set ?_ GE130.out | refine below_set ?_ GE131.out) | exact HB.out)) hb); have n3_ := Aside0.mk (hbox); have n4_ := Aside0.mk ((by rw [hg]; exact (below_size (by repeat (first | (with_reducible first | exact HB.out | apply below_alloc | apply pw_below_drewN | apply below_drew1 | refine below_set ?_ GE130.out | refine below_set ?_ GE131.out) | exact HB.out))) : w.heap.size ≤ gb133)); have n5_ := Aside0.mk ((by rw [hg]; exact (below_size (by repeat (first | (with_reducible first | exact HB.out | apply below_alloc | apply pw_below_drewN | apply below_drew1 | refine below_set ?_ GE130.out | refine below_set ?_ GE131.out) | exact HB.out))) : w.heap.size ≤ gb133)); have n6_ := Aside0.mk ((by rw [hg]; exact Nat.ne_of_lt (blk_lt (g := gb130) (o := .cells #[.int .i64 0, .int .i64 0] 39 (0, 0)) (by (with_reducible repeat (first | refine blk_drewN ?_ _ | refine blk_drew ?_ | refine blk_alloc ?_ _)); exact BK130.out)) : gb130 ≠ gb133)); have n7_ := Aside0.mk ((by rw [hg]; exact Nat.ne_of_gt (blk_lt (g := gb130) (o := .cells #[.int .i64 0, .int .i64 0] 39 (0, 0)) (by (with_reducible repeat (first | refine blk_drewN ?_ _ | refine blk_drew ?_ | refine blk_alloc ?_ _)); exact BK130.out)) : gb133 ≠ gb130)); have n8_ := Aside0.mk ((by rw [hg]; exact Nat.ne_of_lt (blk_lt (g := gb131) (o := .cells #[.int .i64 x132000_1, .int .i64 x132001_1] 39 (0, 0)) (by (with_reducible repeat (first | refine blk_drewN ?_ _ | refine blk_drew ?_ | refine blk_alloc ?_ _)); exact BK131.out)) : gb131 ≠ gb133)); have n9_ := Aside0.mk ((by rw [hg]; exact Nat.ne_of_gt (blk_lt (g := gb131) (o := .cells #[.int .i64 x132000_1, .int .i64 x132001_1] 39 (0, 0)) (by (with_reducible repeat (first | refine blk_drewN ?_ _ | refine blk_drew ?_ | refine blk_alloc ?_ _)); exact BK131.out)) : gb133 ≠ gb131)); clear BK130; clear BK131; clear HB; have BK130 := n0_; have BK131 := n1_; have HB := n2_; have BK133 := n3_; have GW133 := n4_; have GE133 := n5_; have NB130_133 := n6_; have NB133_130 := n7_; have NB131_133 := n8_; have NB133_131 := n9_; clear n0_ n1_ n2_ n3_ n4_ n5_ n6_ n7_ n8_ n9_; clear hb hbox hg; have hnb11 := NB133_130.out; have hnc11 := NB130_133.out; have hnb12 := NB133_131.out; have hnc12 := NB131_133.out; have hcz13_0 : w10.cell? ⟨gb133, 0, none⟩ = some (.int .i64 0) := (blk_cell BK133.out 0).trans rfl; have hcz13_1 : w10.cell? ⟨gb133, 1, none⟩ = some (.int .i64 0) := (blk_cell BK133.out 1).trans rfl; have hcz13_2 : w10.cell? ⟨gb133, 2, none⟩ = some (.int .i64 0) := (blk_cell BK133.out 2).trans rfl; have hcz13_3 : w10.cell? ⟨gb133, 3, none⟩ = some (.int .i64 0) := (blk_cell BK133.out 3).trans rfl; have hcz13_4 : w10.cell? ⟨gb133, 4, none⟩ = some (.int .i64 0) := (blk_cell BK133.out 4).trans rfl; have hcz13_5 : w10.cell? ⟨gb133, 5, none⟩ = some (.int .i64 0) := (blk_cell BK133.out 5).trans rfl; have hcz13_6 : w10.cell? ⟨gb133, 6, none⟩ = some (.int .i64 0) := (blk_cell BK133.out 6).trans rfl; have hcz13_7 : w10.cell? ⟨gb133, 7, none⟩ = some (.bool false) := (blk_cell BK133.out 7).trans rfl; have hfz13_0 := blk_frozen BK133.out 0; have hfz13_1 := blk_frozen BK133.out 1; have hfz13_2 := blk_frozen BK133.out 2; have hfz13_3 := blk_frozen BK133.out 3; have hfz13_4 := blk_frozen BK133.out 4; have hfz13_5 := blk_frozen BK133.out 5; have hfz13_6 := blk_frozen BK133.out 6; have hfz13_7 := blk_frozen BK133.out 7))
            (try simp only [Act.put, List.setIfInBounds_toArray, List.set_cons_zero, List.set_cons_succ])
            go_cut [25] (fun v25 wc => ∃ (kq : Nat) (x25_8 : Bool), v25 = .bool x25_8 ∧ Aside0 (ending_Room.j1 kq a1 a2 l0 (l0.length : Int) x12_1 x25_8 x132000_1 x132001_1 ((rd_T44 l0 x12_1).f0) ((rd_T44 l0 x12_1).f1) ((rd_T44 l0 x12_1).f2) ((rd_T44 l0 x12_1).f3) ((rd_T44 l0 x12_1).f4) ((rd_T44 l0 x12_1).f5) ((rd_T44 l0 x12_1).f6) ((rd_T44 l0 x12_1).f7) = some (r1, r2)) ∧ Aside0 (kq ≤ k1) ∧ Aside0 (wc.heap[gb130]? = some (.cells #[.int .i64 0, .int .i64 0] 39 (0, 0))) ∧ Aside0 (wc.heap[gb131]? = some (.cells #[.int .i64 x132000_1, .int .i64 x132001_1] 39 (0, 0))) ∧ Aside0 (wc.heap[gb133]? = some (.cells #[.int .i64 ((rd_T44 l0 x12_1).f0), .int .i64 ((rd_T44 l0 x12_1).f1), .int .i64 ((rd_T44 l0 x12_1).f2), .int .i64 ((rd_T44 l0 x12_1).f3), .int .i64 ((rd_T44 l0 x12_1).f4), .int .i64 ((rd_T44 l0 x12_1).f5), .int .i64 ((rd_T44 l0 x12_1).f6), .bool ((rd_T44 l0 x12_1).f7)] 44 (0, 0))) ∧ Aside0 (Below w.heap.size w wc))
            case first =>
              have H := HC9.out
              clear HC9
              by_cases c14 : ((rd_T44 l0 x12_1).f1) = a1
              · rw [if_pos c14] at H
                have c14b0 : (((rd_T44 l0 x12_1).f1) == a1) = true := beq_iff_eq.mpr c14
                have c14b1 : (((rd_T44 l0 x12_1).f1) != a1) = false := bne_eq_false_iff_eq.mpr c14
                clear c14
                (first | rw [c14b0] | (simp only [i64_w, i32_w]; rw [c14b0]) | skip)
                have H' := Aside0.mk H
                clear H
                have hnb15 := NB133_130.out
                have hnc15 := NB130_133.out
                have hnb16 := NB133_131.out
                have hnc16 := NB131_133.out
                have hcz17_0 : w10.cell? ⟨gb133, 0, none⟩ = some (.int .i64 0) := (blk_cell BK133.out 0).trans rfl
                have hcz17_1 : w10.cell? ⟨gb133, 1, none⟩ = some (.int .i64 0) := (blk_cell BK133.out 1).trans rfl
                have hcz17_2 : w10.cell? ⟨gb133, 2, none⟩ = some (.int .i64 0) := (blk_cell BK133.out 2).trans rfl
                have hcz17_3 : w10.cell? ⟨gb133, 3, none⟩ = some (.int .i64 0) := (blk_cell BK133.out 3).trans rfl
                have hcz17_4 : w10.cell? ⟨gb133, 4, none⟩ = some (.int .i64 0) := (blk_cell BK133.out 4).trans rfl
                have hcz17_5 : w10.cell? ⟨gb133, 5, none⟩ = some (.int .i64 0) := (blk_cell BK133.out 5).trans rfl
                have hcz17_6 : w10.cell? ⟨gb133, 6, none⟩ = some (.int .i64 0) := (blk_cell BK133.out 6).trans rfl
                have hcz17_7 : w10.cell? ⟨gb133, 7, none⟩ = some (.bool false) := (blk_cell BK133.out 7).trans rfl
                have hfz17_0 := blk_frozen BK133.out 0
                have hfz17_1 := blk_frozen BK133.out 1
                have hfz17_2 := blk_frozen BK133.out 2
                have hfz17_3 := blk_frozen BK133.out 3
                have hfz17_4 := blk_frozen BK133.out 4
                have hfz17_5 := blk_frozen BK133.out 5
                have hfz17_6 := blk_frozen BK133.out 6
                have hfz17_7 := blk_frozen BK133.out 7
                go_wp2
                go_meet
                case rel => exact ⟨_, ((((rd_T44 l0 x12_1).f0) == a2)), (by first | rfl | (simp; done) | (simp [*]; done)), H', ⟨by have := HK1.out; first | omega | exact Nat.le_refl _⟩, ⟨by (with_reducible repeat (first | refine blk_drewN ?_ _ | refine blk_drew ?_ | refine blk_alloc ?_ _)); refine blk_far ?_ NB130_133.out _; (with_reducible repeat (first | refine blk_drewN ?_ _ | refine blk_drew ?_ | refine blk_alloc ?_ _)); refine blk_far ?_ NB130_133.out _; (with_reducible repeat (first | refine blk_drewN ?_ _ | refine blk_drew ?_ | refine blk_alloc ?_ _)); refine blk_far ?_ NB130_133.out _; (with_reducible repeat (first | refine blk_drewN ?_ _ | refine blk_drew ?_ | refine blk_alloc ?_ _)); refine blk_far ?_ NB130_133.out _; (with_reducible repeat (first | refine blk_drewN ?_ _ | refine blk_drew ?_ | refine blk_alloc ?_ _)); refine blk_far ?_ NB130_133.out _; (with_reducible repeat (first | refine blk_drewN ?_ _ | refine blk_drew ?_ | refine blk_alloc ?_ _)); refine blk_far ?_ NB130_133.out _; (with_reducible repeat (first | refine blk_drewN ?_ _ | refine blk_drew ?_ | refine blk_alloc ?_ _)); refine blk_far ?_ NB130_133.out _; (with_reducible repeat (first | refine blk_drewN ?_ _ | refine blk_drew ?_ | refine blk_alloc ?_ _)); refine blk_far ?_ NB130_133.out _; (with_reducible repeat (first | refine blk_drewN ?_ _ | refine blk_drew ?_ | refine blk_alloc ?_ _)); exact BK130.out⟩, ⟨by (with_reducible repeat (first | refine blk_drewN ?_ _ | refine blk_drew ?_ | refine blk_alloc ?_ _)); refine blk_far ?_ NB131_133.out _; (with_reducible repeat (first | refine blk_drewN ?_ _ | refine blk_drew ?_ | refine blk_alloc ?_ _)); refine blk_far ?_ NB131_133.out _; (with_reducible repeat (first | refine blk_drewN ?_ _ | refine blk_drew ?_ | refine blk_alloc ?_ _)); refine blk_far ?_ NB131_133.out _; (with_reducible repeat (first | refine blk_drewN ?_ _ | refine blk_drew ?_ | refine blk_alloc ?_ _)); refine blk_far ?_ NB131_133.out _; (with_reducible repeat (first | refine blk_drewN ?_ _ | refine blk_drew ?_ | refine blk_alloc ?_ _)); refine blk_far ?_ NB131_133.out _; (with_reducible repeat (first | refine blk_drewN ?_ _ | refine blk_drew ?_ | refine blk_alloc ?_ _)); refine blk_far ?_ NB131_133.out _; (with_reducible repeat (first | refine blk_drewN ?_ _ | refine blk_drew ?_ | refine blk_alloc ?_ _)); refine blk_far ?_ NB131_133.out _; (with_reducible repeat (first | refine blk_drewN ?_ _ | refine blk_drew ?_ | refine blk_alloc ?_ _)); refine blk_far ?_ NB131_133.out _; (with_reducible repeat (first | refine blk_drewN ?_ _ | refine blk_drew ?_ | refine blk_alloc ?_ _)); exact BK131.out⟩, ⟨by (with_reducible repeat (first | refine blk_drewN ?_ _ | refine blk_drew ?_ | refine blk_alloc ?_ _)); refine blk_put (cs := #[.int .i64 ((rd_T44 l0 x12_1).f0), .int .i64 ((rd_T44 l0 x12_1).f1), .int .i64 ((rd_T44 l0 x12_1).f2), .int .i64 ((rd_T44 l0 x12_1).f3), .int .i64 ((rd_T44 l0 x12_1).f4), .int .i64 ((rd_T44 l0 x12_1).f5), .int .i64 ((rd_T44 l0 x12_1).f6), .bool false]) ?_ 7 _ rfl; (with_reducible repeat (first | refine blk_drewN ?_ _ | refine blk_drew ?_ | refine blk_alloc ?_ _)); refine blk_put (cs := #[.int .i64 ((rd_T44 l0 x12_1).f0), .int .i64 ((rd_T44 l0 x12_1).f1), .int .i64 ((rd_T44 l0 x12_1).f2), .int .i64 ((rd_T44 l0 x12_1).f3), .int .i64 ((rd_T44 l0 x12_1).f4), .int .i64 ((rd_T44 l0 x12_1).f5), .int .i64 0, .bool false]) ?_ 6 _ rfl; (with_reducible repeat (first | refine blk_drewN ?_ _ | refine blk_drew ?_ | refine blk_alloc ?_ _)); refine blk_put (cs := #[.int .i64 ((rd_T44 l0 x12_1).f0), .int .i64 ((rd_T44 l0 x12_1).f1), .int .i64 ((rd_T44 l0 x12_1).f2), .int .i64 ((rd_T44 l0 x12_1).f3), .int .i64 ((rd_T44 l0 x12_1).f4), .int .i64 0, .int .i64 0, .bool false]) ?_ 5 _ rfl; (with_reducible repeat (first | refine blk_drewN ?_ _ | refine blk_drew ?_ | refine blk_alloc ?_ _)); refine blk_put (cs := #[.int .i64 ((rd_T44 l0 x12_1).f0), .int .i64 ((rd_T44 l0 x12_1).f1), .int .i64 ((rd_T44 l0 x12_1).f2), .int .i64 ((rd_T44 l0 x12_1).f3), .int .i64 0, .int .i64 0, .int .i64 0, .bool false]) ?_ 4 _ rfl; (with_reducible repeat (first | refine blk_drewN ?_ _ | refine blk_drew ?_ | refine blk_alloc ?_ _)); refine blk_put (cs := #[.int .i64 ((rd_T44 l0 x12_1).f0), .int .i64 ((rd_T44 l0 x12_1).f1), .int .i64 ((rd_T44 l0 x12_1).f2), .int .i64 0, .int .i64 0, .int .i64 0, .int .i64 0, .bool false]) ?_ 3 _ rfl; (with_reducible repeat (first | refine blk_drewN ?_ _ | refine blk_drew ?_ | refine blk_alloc ?_ _)); refine blk_put (cs := #[.int .i64 ((rd_T44 l0 x12_1).f0), .int .i64 ((rd_T44 l0 x12_1).f1), .int .i64 0, .int .i64 0, .int .i64 0, .int .i64 0, .int .i64 0, .bool false]) ?_ 2 _ rfl; (with_reducible repeat (first | refine blk_drewN ?_ _ | refine blk_drew ?_ | refine blk_alloc ?_ _)); refine blk_put (cs := #[.int .i64 ((rd_T44 l0 x12_1).f0), .int .i64 0, .int .i64 0, .int .i64 0, .int .i64 0, .int .i64 0, .int .i64 0, .bool false]) ?_ 1 _ rfl; (with_reducible repeat (first | refine blk_drewN ?_ _ | refine blk_drew ?_ | refine blk_alloc ?_ _)); refine blk_put (cs := #[.int .i64 0, .int .i64 0, .int .i64 0, .int .i64 0, .int .i64 0, .int .i64 0, .int .i64 0, .bool false]) ?_ 0 _ rfl; (with_reducible repeat (first | refine blk_drewN ?_ _ | refine blk_drew ?_ | refine blk_alloc ?_ _)); exact BK133.out⟩, ⟨by repeat (first | (with_reducible first | exact HB.out | apply below_alloc | apply pw_below_drewN | apply below_drew1 | refine below_set ?_ GE130.out | refine below_set ?_ GE131.out | refine below_set ?_ GE133.out) | exact HB.out)⟩⟩
              · rw [if_neg c14] at H
                have c14b0 : (((rd_T44 l0 x12_1).f1) == a1) = false := beq_eq_false_iff_ne.mpr c14
                have c14b1 : (((rd_T44 l0 x12_1).f1) != a1) = true := bne_iff_ne.mpr c14
                (first | rw [c14b0] | (simp only [i64_w, i32_w]; rw [c14b0]) | skip)
                have H' := Aside0.mk H
                clear H
                have hnb18 := NB133_130.out
                have hnc18 := NB130_133.out
                have hnb19 := NB133_131.out
                have hnc19 := NB131_133.out
                have hcz20_0 : w10.cell? ⟨gb133, 0, none⟩ = some (.int .i64 0) := (blk_cell BK133.out 0).trans rfl
                have hcz20_1 : w10.cell? ⟨gb133, 1, none⟩ = some (.int .i64 0) := (blk_cell BK133.out 1).trans rfl
                have hcz20_2 : w10.cell? ⟨gb133, 2, none⟩ = some (.int .i64 0) := (blk_cell BK133.out 2).trans rfl
                have hcz20_3 : w10.cell? ⟨gb133, 3, none⟩ = some (.int .i64 0) := (blk_cell BK133.out 3).trans rfl
                have hcz20_4 : w10.cell? ⟨gb133, 4, none⟩ = some (.int .i64 0) := (blk_cell BK133.out 4).trans rfl
                have hcz20_5 : w10.cell? ⟨gb133, 5, none⟩ = some (.int .i64 0) := (blk_cell BK133.out 5).trans rfl
                have hcz20_6 : w10.cell? ⟨gb133, 6, none⟩ = some (.int .i64 0) := (blk_cell BK133.out 6).trans rfl
                have hcz20_7 : w10.cell? ⟨gb133, 7, none⟩ = some (.bool false) := (blk_cell BK133.out 7).trans rfl
                have hfz20_0 := blk_frozen BK133.out 0
                have hfz20_1 := blk_frozen BK133.out 1
                have hfz20_2 := blk_frozen BK133.out 2
                have hfz20_3 := blk_frozen BK133.out 3
                have hfz20_4 := blk_frozen BK133.out 4
                have hfz20_5 := blk_frozen BK133.out 5
                have hfz20_6 := blk_frozen BK133.out 6
                have hfz20_7 := blk_frozen BK133.out 7
                go_wp2
                go_meet
                case rel => exact ⟨_, (false), (by first | rfl | (simp; done) | (simp [*]; done)), H', ⟨by have := HK1.out; first | omega | exact Nat.le_refl _⟩, ⟨by (with_reducible repeat (first | refine blk_drewN ?_ _ | refine blk_drew ?_ | refine blk_alloc ?_ _)); refine blk_far ?_ NB130_133.out _; (with_reducible repeat (first | refine blk_drewN ?_ _ | refine blk_drew ?_ | refine blk_alloc ?_ _)); refine blk_far ?_ NB130_133.out _; (with_reducible repeat (first | refine blk_drewN ?_ _ | refine blk_drew ?_ | refine blk_alloc ?_ _)); refine blk_far ?_ NB130_133.out _; (with_reducible repeat (first | refine blk_drewN ?_ _ | refine blk_drew ?_ | refine blk_alloc ?_ _)); refine blk_far ?_ NB130_133.out _; (with_reducible repeat (first | refine blk_drewN ?_ _ | refine blk_drew ?_ | refine blk_alloc ?_ _)); refine blk_far ?_ NB130_133.out _; (with_reducible repeat (first | refine blk_drewN ?_ _ | refine blk_drew ?_ | refine blk_alloc ?_ _)); refine blk_far ?_ NB130_133.out _; (with_reducible repeat (first | refine blk_drewN ?_ _ | refine blk_drew ?_ | refine blk_alloc ?_ _)); refine blk_far ?_ NB130_133.out _; (with_reducible repeat (first | refine blk_drewN ?_ _ | refine blk_drew ?_ | refine blk_alloc ?_ _)); refine blk_far ?_ NB130_133.out _; (with_reducible repeat (first | refine blk_drewN ?_ _ | refine blk_drew ?_ | refine blk_alloc ?_ _)); exact BK130.out⟩, ⟨by (with_reducible repeat (first | refine blk_drewN ?_ _ | refine blk_drew ?_ | refine blk_alloc ?_ _)); refine blk_far ?_ NB131_133.out _; (with_reducible repeat (first | refine blk_drewN ?_ _ | refine blk_drew ?_ | refine blk_alloc ?_ _)); refine blk_far ?_ NB131_133.out _; (with_reducible repeat (first | refine blk_drewN ?_ _ | refine blk_drew ?_ | refine blk_alloc ?_ _)); refine blk_far ?_ NB131_133.out _; (with_reducible repeat (first | refine blk_drewN ?_ _ | refine blk_drew ?_ | refine blk_alloc ?_ _)); refine blk_far ?_ NB131_133.out _; (with_reducible repeat (first | refine blk_drewN ?_ _ | refine blk_drew ?_ | refine blk_alloc ?_ _)); refine blk_far ?_ NB131_133.out _; (with_reducible repeat (first | refine blk_drewN ?_ _ | refine blk_drew ?_ | refine blk_alloc ?_ _)); refine blk_far ?_ NB131_133.out _; (with_reducible repeat (first | refine blk_drewN ?_ _ | refine blk_drew ?_ | refine blk_alloc ?_ _)); refine blk_far ?_ NB131_133.out _; (with_reducible repeat (first | refine blk_drewN ?_ _ | refine blk_drew ?_ | refine blk_alloc ?_ _)); refine blk_far ?_ NB131_133.out _; (with_reducible repeat (first | refine blk_drewN ?_ _ | refine blk_drew ?_ | refine blk_alloc ?_ _)); exact BK131.out⟩, ⟨by (with_reducible repeat (first | refine blk_drewN ?_ _ | refine blk_drew ?_ | refine blk_alloc ?_ _)); refine blk_put (cs := #[.int .i64 ((rd_T44 l0 x12_1).f0), .int .i64 ((rd_T44 l0 x12_1).f1), .int .i64 ((rd_T44 l0 x12_1).f2), .int .i64 ((rd_T44 l0 x12_1).f3), .int .i64 ((rd_T44 l0 x12_1).f4), .int .i64 ((rd_T44 l0 x12_1).f5), .int .i64 ((rd_T44 l0 x12_1).f6), .bool false]) ?_ 7 _ rfl; (with_reducible repeat (first | refine blk_drewN ?_ _ | refine blk_drew ?_ | refine blk_alloc ?_ _)); refine blk_put (cs := #[.int .i64 ((rd_T44 l0 x12_1).f0), .int .i64 ((rd_T44 l0 x12_1).f1), .int .i64 ((rd_T44 l0 x12_1).f2), .int .i64 ((rd_T44 l0 x12_1).f3), .int .i64 ((rd_T44 l0 x12_1).f4), .int .i64 ((rd_T44 l0 x12_1).f5), .int .i64 0, .bool false]) ?_ 6 _ rfl; (with_reducible repeat (first | refine blk_drewN ?_ _ | refine blk_drew ?_ | refine blk_alloc ?_ _)); refine blk_put (cs := #[.int .i64 ((rd_T44 l0 x12_1).f0), .int .i64 ((rd_T44 l0 x12_1).f1), .int .i64 ((rd_T44 l0 x12_1).f2), .int .i64 ((rd_T44 l0 x12_1).f3), .int .i64 ((rd_T44 l0 x12_1).f4), .int .i64 0, .int .i64 0, .bool false]) ?_ 5 _ rfl; (with_reducible repeat (first | refine blk_drewN ?_ _ | refine blk_drew ?_ | refine blk_alloc ?_ _)); refine blk_put (cs := #[.int .i64 ((rd_T44 l0 x12_1).f0), .int .i64 ((rd_T44 l0 x12_1).f1), .int .i64 ((rd_T44 l0 x12_1).f2), .int .i64 ((rd_T44 l0 x12_1).f3), .int .i64 0, .int .i64 0, .int .i64 0, .bool false]) ?_ 4 _ rfl; (with_reducible repeat (first | refine blk_drewN ?_ _ | refine blk_drew ?_ | refine blk_alloc ?_ _)); refine blk_put (cs := #[.int .i64 ((rd_T44 l0 x12_1).f0), .int .i64 ((rd_T44 l0 x12_1).f1), .int .i64 ((rd_T44 l0 x12_1).f2), .int .i64 0, .int .i64 0, .int .i64 0, .int .i64 0, .bool false]) ?_ 3 _ rfl; (with_reducible repeat (first | refine blk_drewN ?_ _ | refine blk_drew ?_ | refine blk_alloc ?_ _)); refine blk_put (cs := #[.int .i64 ((rd_T44 l0 x12_1).f0), .int .i64 ((rd_T44 l0 x12_1).f1), .int .i64 0, .int .i64 0, .int .i64 0, .int .i64 0, .int .i64 0, .bool false]) ?_ 2 _ rfl; (with_reducible repeat (first | refine blk_drewN ?_ _ | refine blk_drew ?_ | refine blk_alloc ?_ _)); refine blk_put (cs := #[.int .i64 ((rd_T44 l0 x12_1).f0), .int .i64 0, .int .i64 0, .int .i64 0, .int .i64 0, .int .i64 0, .int .i64 0, .bool false]) ?_ 1 _ rfl; (with_reducible repeat (first | refine blk_drewN ?_ _ | refine blk_drew ?_ | refine blk_alloc ?_ _)); refine blk_put (cs := #[.int .i64 0, .int .i64 0, .int .i64 0, .int .i64 0, .int .i64 0, .int .i64 0, .int .i64 0, .bool false]) ?_ 0 _ rfl; (with_reducible repeat (first | refine blk_drewN ?_ _ | refine blk_drew ?_ | refine blk_alloc ?_ _)); exact BK133.out⟩, ⟨by repeat (first | (with_reducible first | exact HB.out | apply below_alloc | apply pw_below_drewN | apply below_drew1 | refine below_set ?_ GE130.out | refine below_set ?_ GE131.out | refine below_set ?_ GE133.out) | exact HB.out)⟩⟩
            case rest =>
              clear HC9
              try clear c1
              try clear p1
              try clear q1
              try clear hx1
              try clear c2
              try clear p2
              try clear c6
              try clear c6b0
              try clear c7
              try clear c7b0
              try clear c8
              try clear c8b0
              try clear c11
              try clear c12
              try clear p13
              try clear q13
              try clear hx13
              try clear c14
              try clear c14b0
              try clear c14b1
              try clear c15
              try clear c16
              try clear c18
              try clear c19
              try clear hcz13_0
              try clear hcz13_1
              try clear hcz13_2
              try clear hcz13_3
              try clear hcz13_4
              try clear hcz13_5
              try clear hcz13_6
              try clear hcz13_7
              try clear hcz17_0
              try clear hcz17_1
              try clear hcz17_2
              try clear hcz17_3
              try clear hcz17_4
              try clear hcz17_5
              try clear hcz17_6
              try clear hcz17_7
              try clear hcz20_0
              try clear hcz20_1
              try clear hcz20_2
              try clear hcz20_3
              try clear hcz20_4
              try clear hcz20_5
              try clear hcz20_6
              try clear hcz20_7
              try clear hfz13_0
              try clear hfz13_1
              try clear hfz13_2
              try clear hfz13_3
              try clear hfz13_4
              try clear hfz13_5
              try clear hfz13_6
              try clear hfz13_7
              try clear hfz17_0
              try clear hfz17_1
              try clear hfz17_2
              try clear hfz17_3
              try clear hfz17_4
              try clear hfz17_5
              try clear hfz17_6
              try clear hfz17_7
              try clear hfz20_0
              try clear hfz20_1
              try clear hfz20_2
              try clear hfz20_3
              try clear hfz20_4
              try clear hfz20_5
              try clear hfz20_6
              try clear hfz20_7
              try clear hx132_0
              try clear hx132_1
              try clear hx132_2
              try clear hx132_3
              try clear hx132_4
              try clear hx132_5
              try clear hx132_6
              try clear hx132_7
              try clear p132
              try clear p2
              try clear q132
              obtain ⟨kq, x25_8, rfl, HA, HJ8, BK130, BK131, BK133, HB⟩ := hcut
              cases kq with
              | zero => exact absurd HA.out (by simp [ending_Room.j1])
              | succ kj8 =>
                have H := HA.out
                clear HA
                simp only [ending_Room.j1] at H
                by_cases c21 : x25_8 = true
                · subst c21
                  have H1 : (if ((rd_T44 l0 x12_1).f1) = a2 then (if ((rd_T44 l0 x12_1).f0) = a1 then (ending_Room.l0 kj8 a1 a2 l0 (l0.length : Int) (wrap64 (x12_1 + 1)) (wrap64 (x132000_1 + ((rd_T44 l0 x12_1).f4))) (wrap64 (x132001_1 + ((rd_T44 l0 x12_1).f4)))) else (ending_Room.l0 kj8 a1 a2 l0 (l0.length : Int) (wrap64 (x12_1 + 1)) (wrap64 (x132000_1 + ((rd_T44 l0 x12_1).f4))) x132001_1)) else (ending_Room.l0 kj8 a1 a2 l0 (l0.length : Int) (wrap64 (x12_1 + 1)) (wrap64 (x132000_1 + ((rd_T44 l0 x12_1).f4))) x132001_1)) = some (r1, r2) := by rw [if_pos rfl] at H; exact H
                  clear H
                  have H := H1
                  clear H1
                  by_cases c22 : ((rd_T44 l0 x12_1).f1) = a2
                  · rw [if_pos c22] at H
                    have c22b0 : (((rd_T44 l0 x12_1).f1) == a2) = true := beq_iff_eq.mpr c22
                    have c22b1 : (((rd_T44 l0 x12_1).f1) != a2) = false := bne_eq_false_iff_eq.mpr c22
                    clear c22
                    by_cases c23 : ((rd_T44 l0 x12_1).f0) = a1
                    · rw [if_pos c23] at H
                      have c23b0 : (((rd_T44 l0 x12_1).f0) == a1) = true := beq_iff_eq.mpr c23
                      have c23b1 : (((rd_T44 l0 x12_1).f0) != a1) = false := bne_eq_false_iff_eq.mpr c23
                      clear c23
                      have H' := Aside0.mk H
                      clear H
                      have hnb24 := NB131_130.out
                      have hnc24 := NB130_131.out
                      have hnb25 := NB131_133.out
                      have hnc25 := NB133_131.out
                      have hcz26_0 : wc.cell? ⟨gb131, 0, none⟩ = some (.int .i64 x132000_1) := (blk_cell BK131.out 0).trans rfl
                      have hcz26_1 : wc.cell? ⟨gb131, 1, none⟩ = some (.int .i64 x132001_1) := (blk_cell BK131.out 1).trans rfl
                      have hfz26_0 := blk_frozen BK131.out 0
                      have hfz26_1 := blk_frozen BK131.out 1
                      have hnb27 := NB133_130.out
                      have hnc27 := NB130_133.out
                      have hcz28_0 : wc.cell? ⟨gb133, 0, none⟩ = some (.int .i64 ((rd_T44 l0 x12_1).f0)) := (blk_cell BK133.out 0).trans rfl
                      have hcz28_1 : wc.cell? ⟨gb133, 1, none⟩ = some (.int .i64 ((rd_T44 l0 x12_1).f1)) := (blk_cell BK133.out 1).trans rfl
                      have hcz28_2 : wc.cell? ⟨gb133, 2, none⟩ = some (.int .i64 ((rd_T44 l0 x12_1).f2)) := (blk_cell BK133.out 2).trans rfl
                      have hcz28_3 : wc.cell? ⟨gb133, 3, none⟩ = some (.int .i64 ((rd_T44 l0 x12_1).f3)) := (blk_cell BK133.out 3).trans rfl
                      have hcz28_4 : wc.cell? ⟨gb133, 4, none⟩ = some (.int .i64 ((rd_T44 l0 x12_1).f4)) := (blk_cell BK133.out 4).trans rfl
                      have hcz28_5 : wc.cell? ⟨gb133, 5, none⟩ = some (.int .i64 ((rd_T44 l0 x12_1).f5)) := (blk_cell BK133.out 5).trans rfl
                      have hcz28_6 : wc.cell? ⟨gb133, 6, none⟩ = some (.int .i64 ((rd_T44 l0 x12_1).f6)) := (blk_cell BK133.out 6).trans rfl
                      have hcz28_7 : wc.cell? ⟨gb133, 7, none⟩ = some (.bool ((rd_T44 l0 x12_1).f7)) := (blk_cell BK133.out 7).trans rfl
                      have hfz28_0 := blk_frozen BK133.out 0
                      have hfz28_1 := blk_frozen BK133.out 1
                      have hfz28_2 := blk_frozen BK133.out 2
                      have hfz28_3 := blk_frozen BK133.out 3
                      have hfz28_4 := blk_frozen BK133.out 4
                      have hfz28_5 := blk_frozen BK133.out 5
                      have hfz28_6 := blk_frozen BK133.out 6
                      have hfz28_7 := blk_frozen BK133.out 7
                      go_wp2
                      go_roundg kj8
                      case measure => have := HK1.out; have := HJ8.out; omega
                      case rel => exact ⟨(wrap64 (x12_1 + 1)), (wrap64 (x132000_1 + ((rd_T44 l0 x12_1).f4))), (wrap64 (x132001_1 + ((rd_T44 l0 x12_1).f4))), (by first | rfl | (simp; done) | (simp [*]; done)), H', ⟨by have := HK1.out; have := HJ8.out; omega⟩, ⟨by (with_reducible repeat (first | refine blk_drewN ?_ _ | refine blk_drew ?_ | refine blk_alloc ?_ _)); refine blk_far ?_ NB130_131.out _; (with_reducible repeat (first | refine blk_drewN ?_ _ | refine blk_drew ?_ | refine blk_alloc ?_ _)); refine blk_far ?_ NB130_131.out _; (with_reducible repeat (first | refine blk_drewN ?_ _ | refine blk_drew ?_ | refine blk_alloc ?_ _)); exact BK130.out⟩, ⟨by (with_reducible repeat (first | refine blk_drewN ?_ _ | refine blk_drew ?_ | refine blk_alloc ?_ _)); refine blk_put (cs := #[.int .i64 (wrap64 (x132000_1 + ((rd_T44 l0 x12_1).f4))), .int .i64 x132001_1]) ?_ 1 _ rfl; (with_reducible repeat (first | refine blk_drewN ?_ _ | refine blk_drew ?_ | refine blk_alloc ?_ _)); refine blk_put (cs := #[.int .i64 x132000_1, .int .i64 x132001_1]) ?_ 0 _ rfl; (with_reducible repeat (first | refine blk_drewN ?_ _ | refine blk_drew ?_ | refine blk_alloc ?_ _)); exact BK131.out⟩, ⟨by repeat (first | (with_reducible first | exact HB.out | apply below_alloc | apply pw_below_drewN | apply below_drew1 | refine below_set ?_ GE130.out | refine below_set ?_ GE131.out | refine below_set ?_ GE133.out) | exact HB.out)⟩⟩
                    · rw [if_neg c23] at H
                      have c23b0 : (((rd_T44 l0 x12_1).f0) == a1) = false := beq_eq_false_iff_ne.mpr c23
                      have c23b1 : (((rd_T44 l0 x12_1).f0) != a1) = true := bne_iff_ne.mpr c23
                      have H' := Aside0.mk H
                      clear H
                      have hnb29 := NB131_130.out
                      have hnc29 := NB130_131.out
                      have hnb30 := NB131_133.out
                      have hnc30 := NB133_131.out
                      have hcz31_0 : wc.cell? ⟨gb131, 0, none⟩ = some (.int .i64 x132000_1) := (blk_cell BK131.out 0).trans rfl
                      have hcz31_1 : wc.cell? ⟨gb131, 1, none⟩ = some (.int .i64 x132001_1) := (blk_cell BK131.out 1).trans rfl
                      have hfz31_0 := blk_frozen BK131.out 0
                      have hfz31_1 := blk_frozen BK131.out 1
                      have hnb32 := NB133_130.out
                      have hnc32 := NB130_133.out
                      have hcz33_0 : wc.cell? ⟨gb133, 0, none⟩ = some (.int .i64 ((rd_T44 l0 x12_1).f0)) := (blk_cell BK133.out 0).trans rfl
                      have hcz33_1 : wc.cell? ⟨gb133, 1, none⟩ = some (.int .i64 ((rd_T44 l0 x12_1).f1)) := (blk_cell BK133.out 1).trans rfl
                      have hcz33_2 : wc.cell? ⟨gb133, 2, none⟩ = some (.int .i64 ((rd_T44 l0 x12_1).f2)) := (blk_cell BK133.out 2).trans rfl
                      have hcz33_3 : wc.cell? ⟨gb133, 3, none⟩ = some (.int .i64 ((rd_T44 l0 x12_1).f3)) := (blk_cell BK133.out 3).trans rfl
                      have hcz33_4 : wc.cell? ⟨gb133, 4, none⟩ = some (.int .i64 ((rd_T44 l0 x12_1).f4)) := (blk_cell BK133.out 4).trans rfl
                      have hcz33_5 : wc.cell? ⟨gb133, 5, none⟩ = some (.int .i64 ((rd_T44 l0 x12_1).f5)) := (blk_cell BK133.out 5).trans rfl
                      have hcz33_6 : wc.cell? ⟨gb133, 6, none⟩ = some (.int .i64 ((rd_T44 l0 x12_1).f6)) := (blk_cell BK133.out 6).trans rfl
                      have hcz33_7 : wc.cell? ⟨gb133, 7, none⟩ = some (.bool ((rd_T44 l0 x12_1).f7)) := (blk_cell BK133.out 7).trans rfl
                      have hfz33_0 := blk_frozen BK133.out 0
                      have hfz33_1 := blk_frozen BK133.out 1
                      have hfz33_2 := blk_frozen BK133.out 2
                      have hfz33_3 := blk_frozen BK133.out 3
                      have hfz33_4 := blk_frozen BK133.out 4
                      have hfz33_5 := blk_frozen BK133.out 5
                      have hfz33_6 := blk_frozen BK133.out 6
                      have hfz33_7 := blk_frozen BK133.out 7
                      go_wp2
                      go_roundg kj8
                      case measure => have := HK1.out; have := HJ8.out; omega
                      case rel => exact ⟨(wrap64 (x12_1 + 1)), (wrap64 (x132000_1 + ((rd_T44 l0 x12_1).f4))), (x132001_1), (by first | rfl | (simp; done) | (simp [*]; done)), H', ⟨by have := HK1.out; have := HJ8.out; omega⟩, ⟨by (with_reducible repeat (first | refine blk_drewN ?_ _ | refine blk_drew ?_ | refine blk_alloc ?_ _)); refine blk_far ?_ NB130_131.out _; (with_reducible repeat (first | refine blk_drewN ?_ _ | refine blk_drew ?_ | refine blk_alloc ?_ _)); exact BK130.out⟩, ⟨by (with_reducible repeat (first | refine blk_drewN ?_ _ | refine blk_drew ?_ | refine blk_alloc ?_ _)); refine blk_put (cs := #[.int .i64 x132000_1, .int .i64 x132001_1]) ?_ 0 _ rfl; (with_reducible repeat (first | refine blk_drewN ?_ _ | refine blk_drew ?_ | refine blk_alloc ?_ _)); exact BK131.out⟩, ⟨by repeat (first | (with_reducible first | exact HB.out | apply below_alloc | apply pw_below_drewN | apply below_drew1 | refine below_set ?_ GE130.out | refine below_set ?_ GE131.out | refine below_set ?_ GE133.out) | exact HB.out)⟩⟩
                  · rw [if_neg c22] at H
                    have c22b0 : (((rd_T44 l0 x12_1).f1) == a2) = false := beq_eq_false_iff_ne.mpr c22
                    have c22b1 : (((rd_T44 l0 x12_1).f1) != a2) = true := bne_iff_ne.mpr c22
                    have H' := Aside0.mk H
                    clear H
                    have hnb34 := NB131_130.out
                    have hnc34 := NB130_131.out
                    have hnb35 := NB131_133.out
                    have hnc35 := NB133_131.out
                    have hcz36_0 : wc.cell? ⟨gb131, 0, none⟩ = some (.int .i64 x132000_1) := (blk_cell BK131.out 0).trans rfl
                    have hcz36_1 : wc.cell? ⟨gb131, 1, none⟩ = some (.int .i64 x132001_1) := (blk_cell BK131.out 1).trans rfl
                    have hfz36_0 := blk_frozen BK131.out 0
                    have hfz36_1 := blk_frozen BK131.out 1
                    have hnb37 := NB133_130.out
                    have hnc37 := NB130_133.out
                    have hcz38_0 : wc.cell? ⟨gb133, 0, none⟩ = some (.int .i64 ((rd_T44 l0 x12_1).f0)) := (blk_cell BK133.out 0).trans rfl
                    have hcz38_1 : wc.cell? ⟨gb133, 1, none⟩ = some (.int .i64 ((rd_T44 l0 x12_1).f1)) := (blk_cell BK133.out 1).trans rfl
                    have hcz38_2 : wc.cell? ⟨gb133, 2, none⟩ = some (.int .i64 ((rd_T44 l0 x12_1).f2)) := (blk_cell BK133.out 2).trans rfl
                    have hcz38_3 : wc.cell? ⟨gb133, 3, none⟩ = some (.int .i64 ((rd_T44 l0 x12_1).f3)) := (blk_cell BK133.out 3).trans rfl
                    have hcz38_4 : wc.cell? ⟨gb133, 4, none⟩ = some (.int .i64 ((rd_T44 l0 x12_1).f4)) := (blk_cell BK133.out 4).trans rfl
                    have hcz38_5 : wc.cell? ⟨gb133, 5, none⟩ = some (.int .i64 ((rd_T44 l0 x12_1).f5)) := (blk_cell BK133.out 5).trans rfl
                    have hcz38_6 : wc.cell? ⟨gb133, 6, none⟩ = some (.int .i64 ((rd_T44 l0 x12_1).f6)) := (blk_cell BK133.out 6).trans rfl
                    have hcz38_7 : wc.cell? ⟨gb133, 7, none⟩ = some (.bool ((rd_T44 l0 x12_1).f7)) := (blk_cell BK133.out 7).trans rfl
                    have hfz38_0 := blk_frozen BK133.out 0
                    have hfz38_1 := blk_frozen BK133.out 1
                    have hfz38_2 := blk_frozen BK133.out 2
                    have hfz38_3 := blk_frozen BK133.out 3
                    have hfz38_4 := blk_frozen BK133.out 4
                    have hfz38_5 := blk_frozen BK133.out 5
                    have hfz38_6 := blk_frozen BK133.out 6
                    have hfz38_7 := blk_frozen BK133.out 7
                    go_wp2
                    go_roundg kj8
                    case measure => have := HK1.out; have := HJ8.out; omega
                    case rel => exact ⟨(wrap64 (x12_1 + 1)), (wrap64 (x132000_1 + ((rd_T44 l0 x12_1).f4))), (x132001_1), (by first | rfl | (simp; done) | (simp [*]; done)), H', ⟨by have := HK1.out; have := HJ8.out; omega⟩, ⟨by (with_reducible repeat (first | refine blk_drewN ?_ _ | refine blk_drew ?_ | refine blk_alloc ?_ _)); refine blk_far ?_ NB130_131.out _; (with_reducible repeat (first | refine blk_drewN ?_ _ | refine blk_drew ?_ | refine blk_alloc ?_ _)); exact BK130.out⟩, ⟨by (with_reducible repeat (first | refine blk_drewN ?_ _ | refine blk_drew ?_ | refine blk_alloc ?_ _)); refine blk_put (cs := #[.int .i64 x132000_1, .int .i64 x132001_1]) ?_ 0 _ rfl; (with_reducible repeat (first | refine blk_drewN ?_ _ | refine blk_drew ?_ | refine blk_alloc ?_ _)); exact BK131.out⟩, ⟨by repeat (first | (with_reducible first | exact HB.out | apply below_alloc | apply pw_below_drewN | apply below_drew1 | refine below_set ?_ GE130.out | refine below_set ?_ GE131.out | refine below_set ?_ GE133.out) | exact HB.out)⟩⟩
                · replace c21 := Bool.eq_false_iff.mpr c21
                  subst c21
                  have H1 : (if ((rd_T44 l0 x12_1).f1) = a2 then (if ((rd_T44 l0 x12_1).f0) = a1 then (ending_Room.l0 kj8 a1 a2 l0 (l0.length : Int) (wrap64 (x12_1 + 1)) x132000_1 (wrap64 (x132001_1 + ((rd_T44 l0 x12_1).f4)))) else (ending_Room.l0 kj8 a1 a2 l0 (l0.length : Int) (wrap64 (x12_1 + 1)) x132000_1 x132001_1)) else (ending_Room.l0 kj8 a1 a2 l0 (l0.length : Int) (wrap64 (x12_1 + 1)) x132000_1 x132001_1)) = some (r1, r2) := by rw [if_neg (show ¬ (false = true) by decide)] at H; exact H
                  clear H
                  have H := H1
                  clear H1
                  by_cases c39 : ((rd_T44 l0 x12_1).f1) = a2
                  · rw [if_pos c39] at H
                    have c39b0 : (((rd_T44 l0 x12_1).f1) == a2) = true := beq_iff_eq.mpr c39
                    have c39b1 : (((rd_T44 l0 x12_1).f1) != a2) = false := bne_eq_false_iff_eq.mpr c39
                    clear c39
                    by_cases c40 : ((rd_T44 l0 x12_1).f0) = a1
                    · rw [if_pos c40] at H
                      have c40b0 : (((rd_T44 l0 x12_1).f0) == a1) = true := beq_iff_eq.mpr c40
                      have c40b1 : (((rd_T44 l0 x12_1).f0) != a1) = false := bne_eq_false_iff_eq.mpr c40
                      clear c40
                      have H' := Aside0.mk H
                      clear H
                      have hnb41 := NB133_130.out
                      have hnc41 := NB130_133.out
                      have hnb42 := NB133_131.out
                      have hnc42 := NB131_133.out
                      have hcz43_0 : wc.cell? ⟨gb133, 0, none⟩ = some (.int .i64 ((rd_T44 l0 x12_1).f0)) := (blk_cell BK133.out 0).trans rfl
                      have hcz43_1 : wc.cell? ⟨gb133, 1, none⟩ = some (.int .i64 ((rd_T44 l0 x12_1).f1)) := (blk_cell BK133.out 1).trans rfl
                      have hcz43_2 : wc.cell? ⟨gb133, 2, none⟩ = some (.int .i64 ((rd_T44 l0 x12_1).f2)) := (blk_cell BK133.out 2).trans rfl
                      have hcz43_3 : wc.cell? ⟨gb133, 3, none⟩ = some (.int .i64 ((rd_T44 l0 x12_1).f3)) := (blk_cell BK133.out 3).trans rfl
                      have hcz43_4 : wc.cell? ⟨gb133, 4, none⟩ = some (.int .i64 ((rd_T44 l0 x12_1).f4)) := (blk_cell BK133.out 4).trans rfl
                      have hcz43_5 : wc.cell? ⟨gb133, 5, none⟩ = some (.int .i64 ((rd_T44 l0 x12_1).f5)) := (blk_cell BK133.out 5).trans rfl
                      have hcz43_6 : wc.cell? ⟨gb133, 6, none⟩ = some (.int .i64 ((rd_T44 l0 x12_1).f6)) := (blk_cell BK133.out 6).trans rfl
                      have hcz43_7 : wc.cell? ⟨gb133, 7, none⟩ = some (.bool ((rd_T44 l0 x12_1).f7)) := (blk_cell BK133.out 7).trans rfl
                      have hfz43_0 := blk_frozen BK133.out 0
                      have hfz43_1 := blk_frozen BK133.out 1
                      have hfz43_2 := blk_frozen BK133.out 2
                      have hfz43_3 := blk_frozen BK133.out 3
                      have hfz43_4 := blk_frozen BK133.out 4
                      have hfz43_5 := blk_frozen BK133.out 5
                      have hfz43_6 := blk_frozen BK133.out 6
                      have hfz43_7 := blk_frozen BK133.out 7
                      have hnb44 := NB131_130.out
                      have hnc44 := NB130_131.out
                      have hcz45_0 : wc.cell? ⟨gb131, 0, none⟩ = some (.int .i64 x132000_1) := (blk_cell BK131.out 0).trans rfl
                      have hcz45_1 : wc.cell? ⟨gb131, 1, none⟩ = some (.int .i64 x132001_1) := (blk_cell BK131.out 1).trans rfl
                      have hfz45_0 := blk_frozen BK131.out 0
                      have hfz45_1 := blk_frozen BK131.out 1
                      go_wp2
                      go_roundg kj8
                      case measure => have := HK1.out; have := HJ8.out; omega
                      case rel => exact ⟨(wrap64 (x12_1 + 1)), (x132000_1), (wrap64 (x132001_1 + ((rd_T44 l0 x12_1).f4))), (by first | rfl | (simp; done) | (simp [*]; done)), H', ⟨by have := HK1.out; have := HJ8.out; omega⟩, ⟨by (with_reducible repeat (first | refine blk_drewN ?_ _ | refine blk_drew ?_ | refine blk_alloc ?_ _)); refine blk_far ?_ NB130_131.out _; (with_reducible repeat (first | refine blk_drewN ?_ _ | refine blk_drew ?_ | refine blk_alloc ?_ _)); exact BK130.out⟩, ⟨by (with_reducible repeat (first | refine blk_drewN ?_ _ | refine blk_drew ?_ | refine blk_alloc ?_ _)); refine blk_put (cs := #[.int .i64 x132000_1, .int .i64 x132001_1]) ?_ 1 _ rfl; (with_reducible repeat (first | refine blk_drewN ?_ _ | refine blk_drew ?_ | refine blk_alloc ?_ _)); exact BK131.out⟩, ⟨by repeat (first | (with_reducible first | exact HB.out | apply below_alloc | apply pw_below_drewN | apply below_drew1 | refine below_set ?_ GE130.out | refine below_set ?_ GE131.out | refine below_set ?_ GE133.out) | exact HB.out)⟩⟩
                    · rw [if_neg c40] at H
                      have c40b0 : (((rd_T44 l0 x12_1).f0) == a1) = false := beq_eq_false_iff_ne.mpr c40
                      have c40b1 : (((rd_T44 l0 x12_1).f0) != a1) = true := bne_iff_ne.mpr c40
                      have H' := Aside0.mk H
                      clear H
                      have hnb46 := NB133_130.out
                      have hnc46 := NB130_133.out
                      have hnb47 := NB133_131.out
                      have hnc47 := NB131_133.out
                      have hcz48_0 : wc.cell? ⟨gb133, 0, none⟩ = some (.int .i64 ((rd_T44 l0 x12_1).f0)) := (blk_cell BK133.out 0).trans rfl
                      have hcz48_1 : wc.cell? ⟨gb133, 1, none⟩ = some (.int .i64 ((rd_T44 l0 x12_1).f1)) := (blk_cell BK133.out 1).trans rfl
                      have hcz48_2 : wc.cell? ⟨gb133, 2, none⟩ = some (.int .i64 ((rd_T44 l0 x12_1).f2)) := (blk_cell BK133.out 2).trans rfl
                      have hcz48_3 : wc.cell? ⟨gb133, 3, none⟩ = some (.int .i64 ((rd_T44 l0 x12_1).f3)) := (blk_cell BK133.out 3).trans rfl
                      have hcz48_4 : wc.cell? ⟨gb133, 4, none⟩ = some (.int .i64 ((rd_T44 l0 x12_1).f4)) := (blk_cell BK133.out 4).trans rfl
                      have hcz48_5 : wc.cell? ⟨gb133, 5, none⟩ = some (.int .i64 ((rd_T44 l0 x12_1).f5)) := (blk_cell BK133.out 5).trans rfl
                      have hcz48_6 : wc.cell? ⟨gb133, 6, none⟩ = some (.int .i64 ((rd_T44 l0 x12_1).f6)) := (blk_cell BK133.out 6).trans rfl
                      have hcz48_7 : wc.cell? ⟨gb133, 7, none⟩ = some (.bool ((rd_T44 l0 x12_1).f7)) := (blk_cell BK133.out 7).trans rfl
                      have hfz48_0 := blk_frozen BK133.out 0
                      have hfz48_1 := blk_frozen BK133.out 1
                      have hfz48_2 := blk_frozen BK133.out 2
                      have hfz48_3 := blk_frozen BK133.out 3
                      have hfz48_4 := blk_frozen BK133.out 4
                      have hfz48_5 := blk_frozen BK133.out 5
                      have hfz48_6 := blk_frozen BK133.out 6
                      have hfz48_7 := blk_frozen BK133.out 7
                      go_wp2
                      go_roundg kj8
                      case measure => have := HK1.out; have := HJ8.out; omega
                      case rel => exact ⟨(wrap64 (x12_1 + 1)), (x132000_1), (x132001_1), (by first | rfl | (simp; done) | (simp [*]; done)), H', ⟨by have := HK1.out; have := HJ8.out; omega⟩, ⟨by (with_reducible repeat (first | refine blk_drewN ?_ _ | refine blk_drew ?_ | refine blk_alloc ?_ _)); exact BK130.out⟩, ⟨by (with_reducible repeat (first | refine blk_drewN ?_ _ | refine blk_drew ?_ | refine blk_alloc ?_ _)); exact BK131.out⟩, ⟨by repeat (first | (with_reducible first | exact HB.out | apply below_alloc | apply pw_below_drewN | apply below_drew1 | refine below_set ?_ GE130.out | refine below_set ?_ GE131.out | refine below_set ?_ GE133.out) | exact HB.out)⟩⟩
                  · rw [if_neg c39] at H
                    have c39b0 : (((rd_T44 l0 x12_1).f1) == a2) = false := beq_eq_false_iff_ne.mpr c39
                    have c39b1 : (((rd_T44 l0 x12_1).f1) != a2) = true := bne_iff_ne.mpr c39
                    have H' := Aside0.mk H
                    clear H
                    have hnb49 := NB133_130.out
                    have hnc49 := NB130_133.out
                    have hnb50 := NB133_131.out
                    have hnc50 := NB131_133.out
                    have hcz51_0 : wc.cell? ⟨gb133, 0, none⟩ = some (.int .i64 ((rd_T44 l0 x12_1).f0)) := (blk_cell BK133.out 0).trans rfl
                    have hcz51_1 : wc.cell? ⟨gb133, 1, none⟩ = some (.int .i64 ((rd_T44 l0 x12_1).f1)) := (blk_cell BK133.out 1).trans rfl
                    have hcz51_2 : wc.cell? ⟨gb133, 2, none⟩ = some (.int .i64 ((rd_T44 l0 x12_1).f2)) := (blk_cell BK133.out 2).trans rfl
                    have hcz51_3 : wc.cell? ⟨gb133, 3, none⟩ = some (.int .i64 ((rd_T44 l0 x12_1).f3)) := (blk_cell BK133.out 3).trans rfl
                    have hcz51_4 : wc.cell? ⟨gb133, 4, none⟩ = some (.int .i64 ((rd_T44 l0 x12_1).f4)) := (blk_cell BK133.out 4).trans rfl
                    have hcz51_5 : wc.cell? ⟨gb133, 5, none⟩ = some (.int .i64 ((rd_T44 l0 x12_1).f5)) := (blk_cell BK133.out 5).trans rfl
                    have hcz51_6 : wc.cell? ⟨gb133, 6, none⟩ = some (.int .i64 ((rd_T44 l0 x12_1).f6)) := (blk_cell BK133.out 6).trans rfl
                    have hcz51_7 : wc.cell? ⟨gb133, 7, none⟩ = some (.bool ((rd_T44 l0 x12_1).f7)) := (blk_cell BK133.out 7).trans rfl
                    have hfz51_0 := blk_frozen BK133.out 0
                    have hfz51_1 := blk_frozen BK133.out 1
                    have hfz51_2 := blk_frozen BK133.out 2
                    have hfz51_3 := blk_frozen BK133.out 3
                    have hfz51_4 := blk_frozen BK133.out 4
                    have hfz51_5 := blk_frozen BK133.out 5
                    have hfz51_6 := blk_frozen BK133.out 6
                    have hfz51_7 := blk_frozen BK133.out 7
                    go_wp2
                    go_roundg kj8
                    case measure => have := HK1.out; have := HJ8.out; omega
                    case rel => exact ⟨(wrap64 (x12_1 + 1)), (x132000_1), (x132001_1), (by first | rfl | (simp; done) | (simp [*]; done)), H', ⟨by have := HK1.out; have := HJ8.out; omega⟩, ⟨by (with_reducible repeat (first | refine blk_drewN ?_ _ | refine blk_drew ?_ | refine blk_alloc ?_ _)); exact BK130.out⟩, ⟨by (with_reducible repeat (first | refine blk_drewN ?_ _ | refine blk_drew ?_ | refine blk_alloc ?_ _)); exact BK131.out⟩, ⟨by repeat (first | (with_reducible first | exact HB.out | apply below_alloc | apply pw_below_drewN | apply below_drew1 | refine below_set ?_ GE130.out | refine below_set ?_ GE131.out | refine below_set ?_ GE133.out) | exact HB.out)⟩⟩
          · rw [if_neg c8] at H
            exact absurd H (by simp)
        · rw [if_neg c7] at H
          exact absurd H (by simp)
      · rw [if_neg c6] at H
        have c6b0 : decide (x12_1 < (l0.length : Int)) = false := decide_eq_false c6
        clear c6
        simp only [Option.some.injEq, Prod.mk.injEq] at H
        obtain ⟨rfl, rfl⟩ := H
        have hnb52 := NB131_130.out
        have hnc52 := NB130_131.out
        have hcz53_0 : wr.cell? ⟨gb131, 0, none⟩ = some (.int .i64 x132000_1) := (blk_cell BK131.out 0).trans rfl
        have hcz53_1 : wr.cell? ⟨gb131, 1, none⟩ = some (.int .i64 x132001_1) := (blk_cell BK131.out 1).trans rfl
        have hfz53_0 := blk_frozen BK131.out 0
        have hfz53_1 := blk_frozen BK131.out 1
        have hcz54_0 : wr.cell? ⟨gb130, 0, none⟩ = some (.int .i64 0) := (blk_cell BK130.out 0).trans rfl
        have hcz54_1 : wr.cell? ⟨gb130, 1, none⟩ = some (.int .i64 0) := (blk_cell BK130.out 1).trans rfl
        have hfz54_0 := blk_frozen BK130.out 0
        have hfz54_1 := blk_frozen BK130.out 1
        go_wp2
        refine bodyPost_ret (results_cell_row rfl _ _ gb130 39 #[.int .i64 x132000_1, .int .i64 x132001_1] (0, 0) _ rfl (by (with_reducible repeat (first | refine blk_drewN ?_ _ | refine blk_drew ?_ | refine blk_alloc ?_ _)); refine blk_put (cs := #[.int .i64 x132000_1, .int .i64 0]) ?_ 1 _ rfl; (with_reducible repeat (first | refine blk_drewN ?_ _ | refine blk_drew ?_ | refine blk_alloc ?_ _)); refine blk_put (cs := #[.int .i64 0, .int .i64 0]) ?_ 0 _ rfl; (with_reducible repeat (first | refine blk_drewN ?_ _ | refine blk_drew ?_ | refine blk_alloc ?_ _)); exact BK130.out) Try.underlying39 rfl (by kernel_rfl)) rfl ?_
        exact ⟨by first | rfl | (simp [errW_none, errW_some] <;> rfl) | (simp [*, errW_none, errW_some] <;> rfl), by repeat (first | (with_reducible first | exact HB.out | apply below_alloc | apply pw_below_drewN | apply below_drew1 | refine below_set ?_ GE130.out | refine below_set ?_ GE131.out) | exact HB.out)⟩

def room1 (a b : Int) (acc : Int) (x : S44) : Int := if x.f1 = a ∧ x.f0 = b then wrap64 (acc + x.f4) else acc
/-- what a keeps for b -/
def room (a b : Int) (l : List S44) : Int := l.foldl (room1 a b) 0
theorem ending_Room.loop (a b : Int) (l : List S44) (hl : l.length < 2199023255552) : ∀ (d : Nat) (i u v : Int), 0 ≤ i → (l.length : Int) - i = d →
    ending_Room.l0 (2 * d + 1) a b l (l.length : Int) i u v = some ((l.drop i.toNat).foldl (room1 a b) u, (l.drop i.toNat).foldl (room1 b a) v) := by
  intro d
  induction d with
  | zero =>
    intro i u v h0 h1
    simp only [ending_Room.l0]
    rw [if_neg (by omega), List.drop_of_length_le (by omega)]; rfl
  | succ d ih =>
    intro i u v h0 h1
    have e : wrap64 (i + 1) = i + 1 := by unfold wrap64; omega
    have ht : (i + 1).toNat = i.toNat + 1 := by omega
    have hd : l.drop i.toNat = rd_T44 l i :: l.drop (i + 1).toNat := by
      rw [List.drop_eq_getElem_cons (by omega), ht]
      unfold rd_T44
      rw [List.getD_eq_getElem?_getD, List.getElem?_eq_getElem (by omega)]; rfl
    rw [hd, List.foldl_cons, List.foldl_cons, show 2 * (d + 1) + 1 = (2 * d + 1) + 1 + 1 from by omega, ending_Room.l0, if_pos (by omega), if_pos h0, if_pos (by omega)]
    have ihx := fun u v => ih (i + 1) u v (by omega) (by omega)
    generalize rd_T44 l i = x at *
    simp only [room1, ending_Room.j1, e]
    have b2 : (x.f0 == b) = decide (x.f0 = b) := rfl
    rw [b2]
    clear ih b2 hd
    by_cases h1 : x.f1 = a <;> by_cases h2 : x.f0 = b <;> by_cases h3 : x.f1 = b <;> by_cases h4 : x.f0 = a <;>
      ((first | have q1 := eq_false h1 | have q1 := eq_true h1); (first | have q2 := eq_false h2 | have q2 := eq_true h2); (first | have q3 := eq_false h3 | have q3 := eq_true h3); (first | have q4 := eq_false h4 | have q4 := eq_true h4)
       simp only [q1, q2, q3, q4, if_true, if_false, and_true, true_and, and_false, false_and, and_self, decide_true, decide_false, Bool.false_eq_true, reduceIte]
       exact ihx _ _)
theorem ending_Room.some_ (l : List S44) (a b : Int) (hl : l.length < 2199023255552) : ending_Room.f (2 * l.length + 1) l a b = some (room a b l, room b a l) := ending_Room.loop a b l hl l.length 0 0 0 (by omega) (by omega)
theorem room1_add (a b u v : Int) (x : S44) : room1 a b (wrap64 (u + v)) x = wrap64 (u + room1 a b v x) := by
  unfold room1
  split
  · unfold wrap64; omega
  · rfl
theorem room_from (a b : Int) : ∀ (l : List S44) (u v : Int), l.foldl (room1 a b) (wrap64 (u + v)) = wrap64 (u + l.foldl (room1 a b) v)
  | [], u, v => rfl
  | x :: l, u, v => by rw [List.foldl_cons, List.foldl_cons, room1_add, room_from a b l]
theorem room1_wrap (a b u : Int) (x : S44) (h : wrap64 u = u) : wrap64 (room1 a b u x) = room1 a b u x := by
  unfold room1
  split
  · unfold wrap64; omega
  · exact h
theorem room_wrap (a b : Int) : ∀ (l : List S44) (u : Int), wrap64 u = u → wrap64 (l.foldl (room1 a b) u) = l.foldl (room1 a b) u
  | [], u, h => h
  | x :: l, u, h => room_wrap a b l _ (room1_wrap a b u x h)
theorem room_cut (a b : Int) (l : List S44) (k : Nat) : room a b l = wrap64 (room a b (l.take k) + room a b (l.drop k)) := by
  unfold room
  have h := room_from a b (l.drop k) ((l.take k).foldl (room1 a b) 0) 0
  rw [← h, Int.add_zero, room_wrap a b (l.take k) 0 (by unfold wrap64; omega), ← List.foldl_append, List.take_append_drop]

end Go.Proofs.Ytepffabkcbfejaa.PEndingAll
