-- Written by a program of this repository (wip/tools/myprint.py over the print of the kit): contracts and rows.
import Derived.Test.YtgckkjgemkabnaaDoorPSlotWalksx0
import Derived.Test.YtgckkjgemkabnaaDoorPSlotWalksx4
namespace Go.Proofs.YtgckkjgemkabnaaDoor.PSlotWalks
open Go.RowKit Go.Proofs.YtgckkjgemkabnaaDoorW.PrintWords Go.Proofs.YtgckkjgemkabnaaDoorW.PrintLast Go.Proofs.YtgckkjgemkabnaaDoorW.PrintMore
attribute [local go_sem] max2_int min2_int max_two min_two max_three min_three max_four min_four   -- for this text's walks alone
set_option linter.unusedVariables false
set_option linter.unusedSimpArgs false

/-! ### slot_Do: function 71 -/
theorem gb_refl (w : World) (r : Option Nat) : w.grownBy w r := ⟨rfl, rfl, rfl, Nat.le_refl _, fun _ _ _ => rfl⟩
theorem blk_all14 {w : World} {g T : Nat} {a0 a1 a2 a3 a4 a5 a6 a7 a8 a9 a10 a11 a12 a13 : Value} (h : w.heap[g]? = some (.cells #[a0, a1, a2, a3, a4, a5, a6, a7, a8, a9, a10, a11, a12, a13] T (0, 0))) (u0 u1 u2 u3 u4 u5 u6 u7 u8 u9 u10 u11 u12 u13 : Value) : ((((((((((((((w.setCell ⟨g, 0, none⟩ u0).setCell ⟨g, 1, none⟩ u1).setCell ⟨g, 2, none⟩ u2).setCell ⟨g, 3, none⟩ u3).setCell ⟨g, 4, none⟩ u4).setCell ⟨g, 5, none⟩ u5).setCell ⟨g, 6, none⟩ u6).setCell ⟨g, 7, none⟩ u7).setCell ⟨g, 8, none⟩ u8).setCell ⟨g, 9, none⟩ u9).setCell ⟨g, 10, none⟩ u10).setCell ⟨g, 11, none⟩ u11).setCell ⟨g, 12, none⟩ u12).setCell ⟨g, 13, none⟩ u13).heap[g]? = some (.cells #[u0, u1, u2, u3, u4, u5, u6, u7, u8, u9, u10, u11, u12, u13] T (0, 0)) := by
  replace h := blk_set h 0 u0
  simp only [List.setIfInBounds_toArray, List.set_cons_zero, List.set_cons_succ] at h
  replace h := blk_set h 1 u1
  simp only [List.setIfInBounds_toArray, List.set_cons_zero, List.set_cons_succ] at h
  replace h := blk_set h 2 u2
  simp only [List.setIfInBounds_toArray, List.set_cons_zero, List.set_cons_succ] at h
  replace h := blk_set h 3 u3
  simp only [List.setIfInBounds_toArray, List.set_cons_zero, List.set_cons_succ] at h
  replace h := blk_set h 4 u4
  simp only [List.setIfInBounds_toArray, List.set_cons_zero, List.set_cons_succ] at h
  replace h := blk_set h 5 u5
  simp only [List.setIfInBounds_toArray, List.set_cons_zero, List.set_cons_succ] at h
  replace h := blk_set h 6 u6
  simp only [List.setIfInBounds_toArray, List.set_cons_zero, List.set_cons_succ] at h
  replace h := blk_set h 7 u7
  simp only [List.setIfInBounds_toArray, List.set_cons_zero, List.set_cons_succ] at h
  replace h := blk_set h 8 u8
  simp only [List.setIfInBounds_toArray, List.set_cons_zero, List.set_cons_succ] at h
  replace h := blk_set h 9 u9
  simp only [List.setIfInBounds_toArray, List.set_cons_zero, List.set_cons_succ] at h
  replace h := blk_set h 10 u10
  simp only [List.setIfInBounds_toArray, List.set_cons_zero, List.set_cons_succ] at h
  replace h := blk_set h 11 u11
  simp only [List.setIfInBounds_toArray, List.set_cons_zero, List.set_cons_succ] at h
  replace h := blk_set h 12 u12
  simp only [List.setIfInBounds_toArray, List.set_cons_zero, List.set_cons_succ] at h
  replace h := blk_set h 13 u13
  simp only [List.setIfInBounds_toArray, List.set_cons_zero, List.set_cons_succ] at h
  exact h
/-- A world that has grown by what is new, or by draws. -/
class Up (W W1 : World) : Prop where
  below : Below W.heap.size W W1
instance (W : World) : Up W W := ⟨Below.refl _ _⟩
instance (W W1 : World) [h : Up W W1] (o : Obj) : Up W (W1.alloc o) := ⟨below_alloc h.below o⟩
instance (W W1 : World) [h : Up W W1] : Up W W1.drew := ⟨h.below.trans (below_drew (Below.refl _ _))⟩
instance (W W1 : World) [h : Up W W1] (n : Nat) : Up W (W1.drewN n) := ⟨pw_below_drewN h.below n⟩
theorem blk_up {W W1 : World} {g : Nat} {o : Obj} [u : Up W W1] (h : W.heap[g]? = some o) : W1.heap[g]? = some o := (u.below.block g (blk_lt h)).trans h
theorem R_up {α : Type} {d : Kd α} {e base : Nat} {ok : Nat → Prop} {v : Value} {xs : List α} {W W1 : World} [u : Up W W1] (h : d.R e W base ok v xs) : d.R e W1 base ok v xs := Kd.R_below h u.below
theorem gb_alloc {w w1 : World} {r : Option Nat} (h : w.grownBy w1 r) (ob : Obj) : w.grownBy (w1.alloc ob) r :=
  ⟨h.os, h.tape, h.output, Nat.le_trans h.size (below_alloc (Below.refl w1.heap.size w1) ob).size, fun k hk hr => ((below_alloc (Below.refl w1.heap.size w1) ob).block k (Nat.lt_of_lt_of_le hk h.size)).trans (h.block k hk hr)⟩
theorem gb_drew {w w1 : World} {r : Option Nat} (h : w.grownBy w1 r) : w.grownBy w1.drew r := ⟨h.os, h.tape, h.output, h.size, h.block⟩
theorem gb_set {w w1 : World} {g : Nat} (h : w.grownBy w1 (some g)) (i : Nat) (u : Value) : w.grownBy (w1.setCell ⟨g, i, none⟩ u) (some g) :=
  ⟨h.os, h.tape, h.output, by simp [World.setCell]; exact h.size, fun k hk hr => (Below.heap_setCell w1 ⟨g, i, none⟩ u k (fun e => hr (by rw [e]))).trans (h.block k hk hr)⟩
theorem gb_trans {w w1 w2 : World} {r : Option Nat} (h : w.grownBy w1 r) (h2 : w1.grownBy w2 r) : w.grownBy w2 r :=
  ⟨h2.os.trans h.os, h2.tape.trans h.tape, h2.output.trans h.output, Nat.le_trans h.size h2.size, fun k hk hr => (h2.block k (Nat.lt_of_lt_of_le hk h.size) hr).trans (h.block k hk hr)⟩
set_option maxHeartbeats 4000000 in
set_option maxRecDepth 100000 in
theorem slot_pay (g : Nat) (side peer how n : Int) (hsd : side = 0 ∨ side = 1) (p q st te : Int) (v : Value) (sp c0 c1 : Int) (h0 h1 t0 t1 en : Bool) (bl : Int) (w : World) (hg : w.heap[g]? = some (.cells #[.int .i64 p, .int .i64 q, .int .i64 st, .int .i64 te, v, .int .i64 sp, .int .i64 c0, .int .i64 c1, .bool h0, .bool h1, .bool t0, .bool t1, .bool en, .int .i64 bl] 54 (0, 0))) :
    Calls Tryd.prog 94 #[.agg #[.pointer (some ⟨g, 0, none⟩), .int .i64 side, .int .i64 peer, .int .i64 how], .int .i64 n] w fun e w' => e = .returned (.tuple #[]) ∧ w'.heap[g]? = some (.cells #[.int .i64 p, .int .i64 q, .int .i64 st, .int .i64 te, v, .int .i64 sp, .int .i64 (if side = 0 then wrap64 (c0 + n) else c0), .int .i64 (if side = 0 then c1 else wrap64 (c1 + n)), .bool h0, .bool h1, .bool t0, .bool t1, .bool en, .int .i64 bl] 54 (0, 0)) ∧ w.grownBy w' (some g) := by
  have hu := Tryd.underlying54
  have hu2 := Tryd.underlying115
  have hlt := blk_lt hg
  have HG0 := Aside0.mk hg
  have HG := Aside0.mk (blk_alloc hg (.cells #[.pointer (some ⟨g, 0, none⟩), .int .i64 side, .int .i64 peer, .int .i64 how] 115))
  have k0 := blk_cell HG.out 6
  have k1 := blk_cell HG.out 7
  have k2 := blk_frozen HG.out 6
  have k3 := blk_frozen HG.out 7
  clear hg
  rcases hsd with rfl | rfl
  · go_enter Tryd.func94, Tryd.ntmps94
    go_wp2_with fail
    go_region_law (fail)
    all_goals (go_wp2; go_end0; exact ⟨rfl, (by simp only [← i64_w]; exact blk_alloc (blk_set HG0.out 6 _) _), gb_drew (gb_alloc (gb_set (gb_refl w _) 6 _) _)⟩)
  · go_enter Tryd.func94, Tryd.ntmps94
    go_wp2_with fail
    go_region_law (fail)
    all_goals (go_wp2; go_end0; exact ⟨rfl, (by simp only [← i64_w]; exact blk_alloc (blk_set HG0.out 7 _) _), gb_drew (gb_alloc (gb_set (gb_refl w _) 7 _) _)⟩)
set_option maxHeartbeats 4000000 in
set_option maxRecDepth 100000 in
theorem slot_end (g : Nat) (side peer how : Int) (p q st te : Int) (v : Value) (sp c0 c1 : Int) (h0 h1 t0 t1 en : Bool) (bl : Int) (w : World) (hg : w.heap[g]? = some (.cells #[.int .i64 p, .int .i64 q, .int .i64 st, .int .i64 te, v, .int .i64 sp, .int .i64 c0, .int .i64 c1, .bool h0, .bool h1, .bool t0, .bool t1, .bool en, .int .i64 bl] 54 (0, 0))) :
    Calls Tryd.prog 95 #[.agg #[.pointer (some ⟨g, 0, none⟩), .int .i64 side, .int .i64 peer, .int .i64 how]] w fun e w' => e = .returned (.tuple #[]) ∧ w'.heap[g]? = some (.cells #[.int .i64 p, .int .i64 q, .int .i64 st, .int .i64 te, v, .int .i64 sp, .int .i64 c0, .int .i64 c1, .bool h0, .bool h1, .bool t0, .bool t1, .bool true, .int .i64 peer] 54 (0, 0)) ∧ w.grownBy w' (some g) := by
  have hu := Tryd.underlying54
  have hu2 := Tryd.underlying115
  have hlt := blk_lt hg
  have HG0 := Aside0.mk hg
  have HG := Aside0.mk (blk_alloc hg (.cells #[.pointer (some ⟨g, 0, none⟩), .int .i64 side, .int .i64 peer, .int .i64 how] 115))
  have k0 := blk_cell HG.out 12
  have k1 := blk_cell HG.out 13
  have k2 := blk_frozen HG.out 12
  have k3 := blk_frozen HG.out 13
  have k4 := blk_cell (blk_alloc (blk_set HG0.out 12 (.bool true)) (.cells #[.pointer (some ⟨g, 0, none⟩), .int .i64 side, .int .i64 peer, .int .i64 how] 115)) 13
  have k5 := blk_frozen (blk_alloc (blk_set HG0.out 12 (.bool true)) (.cells #[.pointer (some ⟨g, 0, none⟩), .int .i64 side, .int .i64 peer, .int .i64 how] 115)) 13
  clear hg
  go_enter Tryd.func95, Tryd.ntmps95
  go_wp2_with fail
  go_region_law (fail)
  all_goals (go_wp2; go_end0; exact ⟨rfl, blk_alloc (blk_set (blk_set HG0.out 12 _) 13 _) _, gb_drew (gb_alloc (gb_set (gb_set (gb_refl w _) 12 _) 13 _) _)⟩)
def followsB (how : Int) : Bool := how == 0 || how == 2
set_option maxHeartbeats 4000000 in
set_option maxRecDepth 100000 in
theorem slot_follows (g : Nat) (side peer how : Int) (w : World) :
    Calls Tryd.prog 93 #[.agg #[.pointer (some ⟨g, 0, none⟩), .int .i64 side, .int .i64 peer, .int .i64 how]] w fun e w' => e = .returned (.bool (followsB how)) ∧ Below w.heap.size w w' := by
  have hu2 := Tryd.underlying115
  by_cases h0 : how = 0
  · subst h0
    go_enter Tryd.func93, Tryd.ntmps93
    go_wp2
    go_ret
    exact ⟨rfl, below_alloc (Below.refl _ _) _⟩
  · have h0' : (how == 0) = false := by simpa using h0
    have hf : followsB how = (how == 2) := by unfold followsB; rw [h0']; rfl
    rw [hf]
    go_enter Tryd.func93, Tryd.ntmps93
    go_wp2
    go_ret
    exact ⟨rfl, below_alloc (Below.refl _ _) _⟩

/-- what is turned in a slot -/
structure SlotS where
  c0 : Int
  c1 : Int
  h0 : Bool
  h1 : Bool
  t0 : Bool
  t1 : Bool
  en : Bool
  bl : Int
def holdsF (side : Int) (s : SlotS) : Bool := if side = 0 then s.h0 else s.h1
def payF (side n : Int) (s : SlotS) : SlotS := ⟨(if side = 0 then wrap64 (s.c0 + n) else s.c0), (if side = 0 then s.c1 else wrap64 (s.c1 + n)), s.h0, s.h1, s.t0, s.t1, s.en, s.bl⟩
def endF (peer : Int) (s : SlotS) : SlotS := ⟨s.c0, s.c1, s.h0, s.h1, s.t0, s.t1, true, peer⟩
def holdF (side : Int) (b : Bool) (s : SlotS) : SlotS := ⟨s.c0, s.c1, (if side = 0 then b else s.h0), (if side = 0 then s.h1 else b), s.t0, s.t1, s.en, s.bl⟩
def twistF (side : Int) (s : SlotS) : SlotS := ⟨s.c0, s.c1, s.h0, s.h1, (if side = 0 then true else s.t0), (if side = 0 then s.t1 else true), s.en, s.bl⟩
def keepF (side how kd : Int) (s : SlotS) : SlotS := if holdsF side s = true then (if followsB how = true then payF side (costOf kd) s else holdF side false s) else s
def answerF (side peer how kd : Int) (s : SlotS) : SlotS := if holdsF side s = true then (if followsB how = true then (if how = 2 then payF side 8 s else payF side (costOf kd) s) else endF peer s) else endF peer s

theorem gb_below {w w1 : World} (h : Below w.heap.size w w1) (r : Option Nat) : w.grownBy w1 r := ⟨h.os, h.tape, h.output, h.size, fun k hk _ => h.block k hk⟩

set_option maxHeartbeats 4000000 in
set_option maxRecDepth 100000 in
theorem slot_keep (g : Nat) (side peer how : Int) (tk sl pe kd : Int) (hsd : side = 0 ∨ side = 1) (p q st te : Int) (v : Value) (sp : Int) (s : SlotS) (w : World) (hL : Laid w) (hg : w.heap[g]? = some (.cells #[.int .i64 p, .int .i64 q, .int .i64 st, .int .i64 te, v, .int .i64 sp, .int .i64 s.c0, .int .i64 s.c1, .bool s.h0, .bool s.h1, .bool s.t0, .bool s.t1, .bool s.en, .int .i64 s.bl] 54 (0, 0))) :
    Calls Tryd.prog 87 #[.agg #[.pointer (some ⟨g, 0, none⟩), .int .i64 side, .int .i64 peer, .int .i64 how], .agg #[.int .i64 tk, .int .i64 sl, .int .i64 pe, .int .i64 kd]] w fun e w' => e = .returned (.tuple #[]) ∧ w'.heap[g]? = some (.cells #[.int .i64 p, .int .i64 q, .int .i64 st, .int .i64 te, v, .int .i64 sp, .int .i64 (keepF side how kd s).c0, .int .i64 (keepF side how kd s).c1, .bool (keepF side how kd s).h0, .bool (keepF side how kd s).h1, .bool (keepF side how kd s).t0, .bool (keepF side how kd s).t1, .bool (keepF side how kd s).en, .int .i64 (keepF side how kd s).bl] 54 (0, 0)) ∧ w.grownBy w' (some g) := by
  have hu := Tryd.underlying54
  have hu2 := Tryd.underlying115
  have hu3 := Tryd.underlying36
  have hlt := blk_lt hg
  have HG0 := Aside0.mk hg
  have HL := Aside0.mk hL
  clear hg hL
  rcases hsd with rfl | rfl
  · obtain ⟨c0, c1, h0, h1, t0, t1, en, bl⟩ := s
    go_enter Tryd.func87, Tryd.ntmps87
    go_wp2_with fail
    have q1 : ((w.alloc (.cells #[.pointer (some ⟨g, 0, none⟩), .int .i64 0, .int .i64 peer, .int .i64 how] 115)).alloc (.cells #[.int .i64 tk, .int .i64 sl, .int .i64 pe, .int .i64 kd] 36)).heap[w.heap.size]? = some (.cells #[.pointer (some ⟨g, 0, none⟩), .int .i64 0, .int .i64 peer, .int .i64 how] 115) := blk_alloc (blk_new w _) _
    have q2 : ((w.alloc (.cells #[.pointer (some ⟨g, 0, none⟩), .int .i64 0, .int .i64 peer, .int .i64 how] 115)).alloc (.cells #[.int .i64 tk, .int .i64 sl, .int .i64 pe, .int .i64 kd] 36)).heap[w.heap.size + 1]? = some (.cells #[.int .i64 tk, .int .i64 sl, .int .i64 pe, .int .i64 kd] 36) := by have := blk_new (w.alloc (.cells #[.pointer (some ⟨g, 0, none⟩), .int .i64 0, .int .i64 peer, .int .i64 how] 115)) (.cells #[.int .i64 tk, .int .i64 sl, .int .i64 pe, .int .i64 kd] 36); simpa using this
    have q3 := blk_alloc (blk_alloc HG0.out (.cells #[.pointer (some ⟨g, 0, none⟩), .int .i64 0, .int .i64 peer, .int .i64 how] 115)) (.cells #[.int .i64 tk, .int .i64 sl, .int .i64 pe, .int .i64 kd] 36)
    have q4 := laid_below HL.out (below_alloc (below_alloc (Below.refl _ _) (.cells #[.pointer (some ⟨g, 0, none⟩), .int .i64 0, .int .i64 peer, .int .i64 how] 115)) (.cells #[.int .i64 tk, .int .i64 sl, .int .i64 pe, .int .i64 kd] 36))
    have q5 : w.grownBy ((w.alloc (.cells #[.pointer (some ⟨g, 0, none⟩), .int .i64 0, .int .i64 peer, .int .i64 how] 115)).alloc (.cells #[.int .i64 tk, .int .i64 sl, .int .i64 pe, .int .i64 kd] 36)) (some g) := gb_alloc (gb_alloc (gb_refl w _) _) _
    obtain ⟨gm, hgm⟩ : ∃ gm, gm = w.heap.size := ⟨_, rfl⟩
    obtain ⟨gd, hgd⟩ : ∃ gd, gd = w.heap.size + 1 := ⟨_, rfl⟩
    generalize (w.alloc (.cells #[.pointer (some ⟨g, 0, none⟩), .int .i64 0, .int .i64 peer, .int .i64 how] 115)).alloc (.cells #[.int .i64 tk, .int .i64 sl, .int .i64 pe, .int .i64 kd] 36) = W2 at *
    rw [← hgd] at q2 ⊢
    rw [← hgm] at q1 ⊢
    have nm : gm ≠ g := by omega
    have nd : gd ≠ g := by omega
    have BM := Aside0.mk q1; have BD := Aside0.mk q2; have BS := Aside0.mk q3; have LW := Aside0.mk q4; have GR := Aside0.mk q5
    have x0 := blk_cell q1 0; have x1 := blk_cell q1 1; have x2 := blk_cell q1 2; have x3 := blk_cell q1 3
    have y0 := blk_cell q2 0; have y1 := blk_cell q2 1; have y2 := blk_cell q2 2; have y3 := blk_cell q2 3
    clear q1 q2 q3 q4 q5 hgm hgd
    have z0 := blk_cell BS.out 8; have z1 := blk_frozen BS.out 8
    obtain rfl | rfl : h0 = false ∨ h0 = true := by cases h0 <;> simp
    · go_wp2_with fail
      go_region_law (fail)
      all_goals (go_wp2; go_end0; exact ⟨rfl, BS.out, gb_drew GR.out⟩)
    · go_wp2_with fail
      go_region_law (fail)
      all_goals (
        go_wp2_with fail
        refine (slot_follows g 0 peer how _).mono ?_
        rintro e w3 ⟨rfl, hb⟩
        have hb3 : Below W2.heap.size W2 w3 := (below_drew (Below.refl _ _)).trans hb; replace BM := Aside0.mk ((hb3.block gm (blk_lt BM.out)).trans BM.out); replace BD := Aside0.mk ((hb3.block gd (blk_lt BD.out)).trans BD.out); replace BS := Aside0.mk ((hb3.block g (blk_lt BS.out)).trans BS.out); replace LW := Aside0.mk (laid_below LW.out hb3); replace GR := Aside0.mk (gb_trans GR.out (gb_below hb3 (some g))); clear hb hb3 x0 x1 x2 x3 y0 y1 y2 y3 z0 z1; have x0 := blk_cell BM.out 0; have x1 := blk_cell BM.out 1; have x2 := blk_cell BM.out 2; have x3 := blk_cell BM.out 3; have y0 := blk_cell BD.out 0; have y1 := blk_cell BD.out 1; have y2 := blk_cell BD.out 2; have y3 := blk_cell BD.out 3
        have z0 := blk_cell BS.out 8; have z1 := blk_frozen BS.out 8
        obtain hf | hf : followsB how = false ∨ followsB how = true := by cases followsB how <;> simp
        · have heq : keepF 0 how kd ⟨c0, c1, true, h1, t0, t1, en, bl⟩ = holdF 0 false ⟨c0, c1, true, h1, t0, t1, en, bl⟩ := by unfold keepF; simp [holdsF, hf]
          have HE := Aside0.mk heq
          clear heq
          rw [hf]
          go_wp2_with fail
          go_region_law (fail)
          all_goals (go_wp2; go_end0; exact ⟨rfl, (by rw [HE.out]; exact blk_set BS.out 8 _), (by first | exact gb_drew (gb_set GR.out 8 _) | exact gb_set (gb_drew GR.out) 8 _)⟩)
        · have heq : keepF 0 how kd ⟨c0, c1, true, h1, t0, t1, en, bl⟩ = payF 0 (costOf kd) ⟨c0, c1, true, h1, t0, t1, en, bl⟩ := by unfold keepF; simp [holdsF, hf]
          have HE := Aside0.mk heq
          clear heq
          rw [hf]
          go_wp2_with fail
          go_region_law (first | (refine goes_ Tryd.func27 (by kernel_rfl) rfl #[.int .i64 kd] (by rfl) rfl rfl (by (try simp only [List.map_toArray, List.map_cons, List.map_nil]); first | done | rfl) ?_; refine (duty_Cost.calls kd (costOf kd) _ rfl (laid_below LW.out (below_drew (Below.refl _ _)))).mono ?_; rintro e w4 ⟨rfl, hd⟩; refine ⟨_, rfl, ?_⟩; have hb4 : Below w3.heap.size w3 w4 := (below_drew (Below.refl _ _)).trans hd.below; have BM4 := Aside0.mk ((hb4.block gm (blk_lt BM.out)).trans BM.out); have BD4 := Aside0.mk ((hb4.block gd (blk_lt BD.out)).trans BD.out); have BS4 := Aside0.mk ((hb4.block g (blk_lt BS.out)).trans BS.out); have GR4 := Aside0.mk (gb_trans GR.out (gb_below hb4 (some g))); have a0 := blk_cell BM4.out 0; have a1 := blk_cell BM4.out 1; have a2 := blk_cell BM4.out 2; have a3 := blk_cell BM4.out 3; clear hd hb4) | (refine goes_ Tryd.func94 (by kernel_rfl) rfl #[.agg #[.pointer (some ⟨g, 0, none⟩), .int .i64 0, .int .i64 peer, .int .i64 how], .int .i64 (costOf kd)] (by rfl) rfl rfl (by (try simp only [List.map_toArray, List.map_cons, List.map_nil]); first | done | rfl) ?_; refine (slot_pay g 0 peer how (costOf kd) (by decide) p q st te v sp c0 c1 true h1 t0 t1 en bl _ (by exact BS4.out)).mono ?_; rintro e w5 ⟨rfl, hs, hgr⟩; refine ⟨_, rfl, ?_⟩; have BS5 := Aside0.mk hs; have GR5 := Aside0.mk (gb_trans GR4.out hgr); clear hs hgr))
          all_goals (go_wp2; go_end0; exact ⟨rfl, (by rw [HE.out]; exact BS5.out), GR5.out⟩))
  · obtain ⟨c0, c1, h0, h1, t0, t1, en, bl⟩ := s
    go_enter Tryd.func87, Tryd.ntmps87
    go_wp2_with fail
    have q1 : ((w.alloc (.cells #[.pointer (some ⟨g, 0, none⟩), .int .i64 1, .int .i64 peer, .int .i64 how] 115)).alloc (.cells #[.int .i64 tk, .int .i64 sl, .int .i64 pe, .int .i64 kd] 36)).heap[w.heap.size]? = some (.cells #[.pointer (some ⟨g, 0, none⟩), .int .i64 1, .int .i64 peer, .int .i64 how] 115) := blk_alloc (blk_new w _) _
    have q2 : ((w.alloc (.cells #[.pointer (some ⟨g, 0, none⟩), .int .i64 1, .int .i64 peer, .int .i64 how] 115)).alloc (.cells #[.int .i64 tk, .int .i64 sl, .int .i64 pe, .int .i64 kd] 36)).heap[w.heap.size + 1]? = some (.cells #[.int .i64 tk, .int .i64 sl, .int .i64 pe, .int .i64 kd] 36) := by have := blk_new (w.alloc (.cells #[.pointer (some ⟨g, 0, none⟩), .int .i64 1, .int .i64 peer, .int .i64 how] 115)) (.cells #[.int .i64 tk, .int .i64 sl, .int .i64 pe, .int .i64 kd] 36); simpa using this
    have q3 := blk_alloc (blk_alloc HG0.out (.cells #[.pointer (some ⟨g, 0, none⟩), .int .i64 1, .int .i64 peer, .int .i64 how] 115)) (.cells #[.int .i64 tk, .int .i64 sl, .int .i64 pe, .int .i64 kd] 36)
    have q4 := laid_below HL.out (below_alloc (below_alloc (Below.refl _ _) (.cells #[.pointer (some ⟨g, 0, none⟩), .int .i64 1, .int .i64 peer, .int .i64 how] 115)) (.cells #[.int .i64 tk, .int .i64 sl, .int .i64 pe, .int .i64 kd] 36))
    have q5 : w.grownBy ((w.alloc (.cells #[.pointer (some ⟨g, 0, none⟩), .int .i64 1, .int .i64 peer, .int .i64 how] 115)).alloc (.cells #[.int .i64 tk, .int .i64 sl, .int .i64 pe, .int .i64 kd] 36)) (some g) := gb_alloc (gb_alloc (gb_refl w _) _) _
    obtain ⟨gm, hgm⟩ : ∃ gm, gm = w.heap.size := ⟨_, rfl⟩
    obtain ⟨gd, hgd⟩ : ∃ gd, gd = w.heap.size + 1 := ⟨_, rfl⟩
    generalize (w.alloc (.cells #[.pointer (some ⟨g, 0, none⟩), .int .i64 1, .int .i64 peer, .int .i64 how] 115)).alloc (.cells #[.int .i64 tk, .int .i64 sl, .int .i64 pe, .int .i64 kd] 36) = W2 at *
    rw [← hgd] at q2 ⊢
    rw [← hgm] at q1 ⊢
    have nm : gm ≠ g := by omega
    have nd : gd ≠ g := by omega
    have BM := Aside0.mk q1; have BD := Aside0.mk q2; have BS := Aside0.mk q3; have LW := Aside0.mk q4; have GR := Aside0.mk q5
    have x0 := blk_cell q1 0; have x1 := blk_cell q1 1; have x2 := blk_cell q1 2; have x3 := blk_cell q1 3
    have y0 := blk_cell q2 0; have y1 := blk_cell q2 1; have y2 := blk_cell q2 2; have y3 := blk_cell q2 3
    clear q1 q2 q3 q4 q5 hgm hgd
    have z0 := blk_cell BS.out 9; have z1 := blk_frozen BS.out 9
    obtain rfl | rfl : h1 = false ∨ h1 = true := by cases h1 <;> simp
    · go_wp2_with fail
      go_region_law (fail)
      all_goals (go_wp2; go_end0; exact ⟨rfl, BS.out, gb_drew GR.out⟩)
    · go_wp2_with fail
      go_region_law (fail)
      all_goals (
        go_wp2_with fail
        refine (slot_follows g 1 peer how _).mono ?_
        rintro e w3 ⟨rfl, hb⟩
        have hb3 : Below W2.heap.size W2 w3 := (below_drew (Below.refl _ _)).trans hb; replace BM := Aside0.mk ((hb3.block gm (blk_lt BM.out)).trans BM.out); replace BD := Aside0.mk ((hb3.block gd (blk_lt BD.out)).trans BD.out); replace BS := Aside0.mk ((hb3.block g (blk_lt BS.out)).trans BS.out); replace LW := Aside0.mk (laid_below LW.out hb3); replace GR := Aside0.mk (gb_trans GR.out (gb_below hb3 (some g))); clear hb hb3 x0 x1 x2 x3 y0 y1 y2 y3 z0 z1; have x0 := blk_cell BM.out 0; have x1 := blk_cell BM.out 1; have x2 := blk_cell BM.out 2; have x3 := blk_cell BM.out 3; have y0 := blk_cell BD.out 0; have y1 := blk_cell BD.out 1; have y2 := blk_cell BD.out 2; have y3 := blk_cell BD.out 3
        have z0 := blk_cell BS.out 9; have z1 := blk_frozen BS.out 9
        obtain hf | hf : followsB how = false ∨ followsB how = true := by cases followsB how <;> simp
        · have heq : keepF 1 how kd ⟨c0, c1, h0, true, t0, t1, en, bl⟩ = holdF 1 false ⟨c0, c1, h0, true, t0, t1, en, bl⟩ := by unfold keepF; simp [holdsF, hf]
          have HE := Aside0.mk heq
          clear heq
          rw [hf]
          go_wp2_with fail
          go_region_law (fail)
          all_goals (go_wp2; go_end0; exact ⟨rfl, (by rw [HE.out]; exact blk_set BS.out 9 _), (by first | exact gb_drew (gb_set GR.out 9 _) | exact gb_set (gb_drew GR.out) 9 _)⟩)
        · have heq : keepF 1 how kd ⟨c0, c1, h0, true, t0, t1, en, bl⟩ = payF 1 (costOf kd) ⟨c0, c1, h0, true, t0, t1, en, bl⟩ := by unfold keepF; simp [holdsF, hf]
          have HE := Aside0.mk heq
          clear heq
          rw [hf]
          go_wp2_with fail
          go_region_law (first | (refine goes_ Tryd.func27 (by kernel_rfl) rfl #[.int .i64 kd] (by rfl) rfl rfl (by (try simp only [List.map_toArray, List.map_cons, List.map_nil]); first | done | rfl) ?_; refine (duty_Cost.calls kd (costOf kd) _ rfl (laid_below LW.out (below_drew (Below.refl _ _)))).mono ?_; rintro e w4 ⟨rfl, hd⟩; refine ⟨_, rfl, ?_⟩; have hb4 : Below w3.heap.size w3 w4 := (below_drew (Below.refl _ _)).trans hd.below; have BM4 := Aside0.mk ((hb4.block gm (blk_lt BM.out)).trans BM.out); have BD4 := Aside0.mk ((hb4.block gd (blk_lt BD.out)).trans BD.out); have BS4 := Aside0.mk ((hb4.block g (blk_lt BS.out)).trans BS.out); have GR4 := Aside0.mk (gb_trans GR.out (gb_below hb4 (some g))); have a0 := blk_cell BM4.out 0; have a1 := blk_cell BM4.out 1; have a2 := blk_cell BM4.out 2; have a3 := blk_cell BM4.out 3; clear hd hb4) | (refine goes_ Tryd.func94 (by kernel_rfl) rfl #[.agg #[.pointer (some ⟨g, 0, none⟩), .int .i64 1, .int .i64 peer, .int .i64 how], .int .i64 (costOf kd)] (by rfl) rfl rfl (by (try simp only [List.map_toArray, List.map_cons, List.map_nil]); first | done | rfl) ?_; refine (slot_pay g 1 peer how (costOf kd) (by decide) p q st te v sp c0 c1 h0 true t0 t1 en bl _ (by exact BS4.out)).mono ?_; rintro e w5 ⟨rfl, hs, hgr⟩; refine ⟨_, rfl, ?_⟩; have BS5 := Aside0.mk hs; have GR5 := Aside0.mk (gb_trans GR4.out hgr); clear hs hgr))
          all_goals (go_wp2; go_end0; exact ⟨rfl, (by rw [HE.out]; exact BS5.out), GR5.out⟩))

set_option maxHeartbeats 4000000 in
set_option maxRecDepth 100000 in
theorem slot_answer (g : Nat) (side peer how : Int) (tk sl pe kd : Int) (hsd : side = 0 ∨ side = 1) (p q st te : Int) (v : Value) (sp : Int) (s : SlotS) (w : World) (hL : Laid w) (hg : w.heap[g]? = some (.cells #[.int .i64 p, .int .i64 q, .int .i64 st, .int .i64 te, v, .int .i64 sp, .int .i64 s.c0, .int .i64 s.c1, .bool s.h0, .bool s.h1, .bool s.t0, .bool s.t1, .bool s.en, .int .i64 s.bl] 54 (0, 0))) :
    Calls Tryd.prog 88 #[.agg #[.pointer (some ⟨g, 0, none⟩), .int .i64 side, .int .i64 peer, .int .i64 how], .agg #[.int .i64 tk, .int .i64 sl, .int .i64 pe, .int .i64 kd]] w fun e w' => e = .returned (.tuple #[]) ∧ w'.heap[g]? = some (.cells #[.int .i64 p, .int .i64 q, .int .i64 st, .int .i64 te, v, .int .i64 sp, .int .i64 (answerF side peer how kd s).c0, .int .i64 (answerF side peer how kd s).c1, .bool (answerF side peer how kd s).h0, .bool (answerF side peer how kd s).h1, .bool (answerF side peer how kd s).t0, .bool (answerF side peer how kd s).t1, .bool (answerF side peer how kd s).en, .int .i64 (answerF side peer how kd s).bl] 54 (0, 0)) ∧ w.grownBy w' (some g) := by
  have hu := Tryd.underlying54
  have hu2 := Tryd.underlying115
  have hu3 := Tryd.underlying36
  have hlt := blk_lt hg
  have HG0 := Aside0.mk hg
  have HL := Aside0.mk hL
  clear hg hL
  rcases hsd with rfl | rfl
  · obtain ⟨c0, c1, h0, h1, t0, t1, en, bl⟩ := s
    go_enter Tryd.func88, Tryd.ntmps88
    go_wp2_with fail
    have q1 : ((w.alloc (.cells #[.pointer (some ⟨g, 0, none⟩), .int .i64 0, .int .i64 peer, .int .i64 how] 115)).alloc (.cells #[.int .i64 tk, .int .i64 sl, .int .i64 pe, .int .i64 kd] 36)).heap[w.heap.size]? = some (.cells #[.pointer (some ⟨g, 0, none⟩), .int .i64 0, .int .i64 peer, .int .i64 how] 115) := blk_alloc (blk_new w _) _
    have q2 : ((w.alloc (.cells #[.pointer (some ⟨g, 0, none⟩), .int .i64 0, .int .i64 peer, .int .i64 how] 115)).alloc (.cells #[.int .i64 tk, .int .i64 sl, .int .i64 pe, .int .i64 kd] 36)).heap[w.heap.size + 1]? = some (.cells #[.int .i64 tk, .int .i64 sl, .int .i64 pe, .int .i64 kd] 36) := by have := blk_new (w.alloc (.cells #[.pointer (some ⟨g, 0, none⟩), .int .i64 0, .int .i64 peer, .int .i64 how] 115)) (.cells #[.int .i64 tk, .int .i64 sl, .int .i64 pe, .int .i64 kd] 36); simpa using this
    have q3 := blk_alloc (blk_alloc HG0.out (.cells #[.pointer (some ⟨g, 0, none⟩), .int .i64 0, .int .i64 peer, .int .i64 how] 115)) (.cells #[.int .i64 tk, .int .i64 sl, .int .i64 pe, .int .i64 kd] 36)
    have q4 := laid_below HL.out (below_alloc (below_alloc (Below.refl _ _) (.cells #[.pointer (some ⟨g, 0, none⟩), .int .i64 0, .int .i64 peer, .int .i64 how] 115)) (.cells #[.int .i64 tk, .int .i64 sl, .int .i64 pe, .int .i64 kd] 36))
    have q5 : w.grownBy ((w.alloc (.cells #[.pointer (some ⟨g, 0, none⟩), .int .i64 0, .int .i64 peer, .int .i64 how] 115)).alloc (.cells #[.int .i64 tk, .int .i64 sl, .int .i64 pe, .int .i64 kd] 36)) (some g) := gb_alloc (gb_alloc (gb_refl w _) _) _
    obtain ⟨gm, hgm⟩ : ∃ gm, gm = w.heap.size := ⟨_, rfl⟩
    obtain ⟨gd, hgd⟩ : ∃ gd, gd = w.heap.size + 1 := ⟨_, rfl⟩
    generalize (w.alloc (.cells #[.pointer (some ⟨g, 0, none⟩), .int .i64 0, .int .i64 peer, .int .i64 how] 115)).alloc (.cells #[.int .i64 tk, .int .i64 sl, .int .i64 pe, .int .i64 kd] 36) = W2 at *
    rw [← hgd] at q2 ⊢
    rw [← hgm] at q1 ⊢
    have nm : gm ≠ g := by omega
    have nd : gd ≠ g := by omega
    have BM := Aside0.mk q1; have BD := Aside0.mk q2; have BS := Aside0.mk q3; have LW := Aside0.mk q4; have GR := Aside0.mk q5
    have x0 := blk_cell q1 0; have x1 := blk_cell q1 1; have x2 := blk_cell q1 2; have x3 := blk_cell q1 3
    have y0 := blk_cell q2 0; have y1 := blk_cell q2 1; have y2 := blk_cell q2 2; have y3 := blk_cell q2 3
    clear q1 q2 q3 q4 q5 hgm hgd
    have z0 := blk_cell BS.out 8; have z1 := blk_frozen BS.out 8
    obtain rfl | rfl : h0 = false ∨ h0 = true := by cases h0 <;> simp
    · have HE := Aside0.mk (show answerF 0 peer how kd ⟨c0, c1, false, h1, t0, t1, en, bl⟩ = endF peer ⟨c0, c1, false, h1, t0, t1, en, bl⟩ from by unfold answerF; simp [holdsF])
      go_wp2_with fail
      go_region_law (fail)
      all_goals (
        go_wp2_with fail
        refine (slot_end g 0 peer how p q st te v sp c0 c1 false h1 t0 t1 en bl _ (by exact BS.out)).mono ?_
        rintro e w9 ⟨rfl, hs, hgr⟩
        go_wp2
        first | go_end0 | (refine bodyPost_ret (results_none rfl _ _ _) rfl ?_)
        exact ⟨rfl, (by rw [HE.out]; exact hs), (by first | exact gb_trans GR.out hgr | exact gb_trans (gb_drew GR.out) hgr)⟩)
    · obtain hf | hf : followsB how = false ∨ followsB how = true := by cases followsB how <;> simp
      · have HE := Aside0.mk (show answerF 0 peer how kd ⟨c0, c1, true, h1, t0, t1, en, bl⟩ = endF peer ⟨c0, c1, true, h1, t0, t1, en, bl⟩ from by unfold answerF; simp [holdsF, hf])
        go_wp2_with fail
        go_region_law (first | (refine goes_ Tryd.func93 (by kernel_rfl) rfl #[.agg #[.pointer (some ⟨g, 0, none⟩), .int .i64 0, .int .i64 peer, .int .i64 how]] (by rfl) rfl rfl (by (try simp only [List.map_toArray, List.map_cons, List.map_nil]); first | done | rfl) ?_; refine (slot_follows g 0 peer how _).mono ?_; rintro e w3 ⟨rfl, hb⟩; refine ⟨_, rfl, ?_⟩; have hb3 : Below W2.heap.size W2 w3 := (below_drew (Below.refl _ _)).trans hb; replace BM := Aside0.mk ((hb3.block gm (blk_lt BM.out)).trans BM.out); replace BD := Aside0.mk ((hb3.block gd (blk_lt BD.out)).trans BD.out); replace BS := Aside0.mk ((hb3.block g (blk_lt BS.out)).trans BS.out); replace LW := Aside0.mk (laid_below LW.out hb3); replace GR := Aside0.mk (gb_trans GR.out (gb_below hb3 (some g))); clear hb hb3 x0 x1 x2 x3 y0 y1 y2 y3 z0 z1; have x0 := blk_cell BM.out 0; have x1 := blk_cell BM.out 1; have x2 := blk_cell BM.out 2; have x3 := blk_cell BM.out 3; have y0 := blk_cell BD.out 0; have y1 := blk_cell BD.out 1; have y2 := blk_cell BD.out 2; have y3 := blk_cell BD.out 3; have z0 := blk_cell BS.out 8; have z1 := blk_frozen BS.out 8))
        all_goals (
          go_wp2_with fail
          refine (slot_end g 0 peer how p q st te v sp c0 c1 true h1 t0 t1 en bl _ (by exact BS.out)).mono ?_
          rintro e w9 ⟨rfl, hs, hgr⟩
          go_wp2
          first | go_end0 | (refine bodyPost_ret (results_none rfl _ _ _) rfl ?_)
          exact ⟨rfl, (by rw [HE.out]; exact hs), (by first | exact gb_trans GR.out hgr | exact gb_trans (gb_drew GR.out) hgr)⟩)
      · by_cases h2 : how = 2
        · subst h2
          have HE := Aside0.mk (show answerF 0 peer 2 kd ⟨c0, c1, true, h1, t0, t1, en, bl⟩ = payF 0 8 ⟨c0, c1, true, h1, t0, t1, en, bl⟩ from by unfold answerF; simp [holdsF, hf])
          go_wp2_with fail
          go_region_law (first | (refine goes_ Tryd.func93 (by kernel_rfl) rfl #[.agg #[.pointer (some ⟨g, 0, none⟩), .int .i64 0, .int .i64 peer, .int .i64 2]] (by rfl) rfl rfl (by (try simp only [List.map_toArray, List.map_cons, List.map_nil]); first | done | rfl) ?_; refine (slot_follows g 0 peer 2 _).mono ?_; rintro e w3 ⟨rfl, hb⟩; refine ⟨_, rfl, ?_⟩; have hb3 : Below W2.heap.size W2 w3 := (below_drew (Below.refl _ _)).trans hb; replace BM := Aside0.mk ((hb3.block gm (blk_lt BM.out)).trans BM.out); replace BD := Aside0.mk ((hb3.block gd (blk_lt BD.out)).trans BD.out); replace BS := Aside0.mk ((hb3.block g (blk_lt BS.out)).trans BS.out); replace LW := Aside0.mk (laid_below LW.out hb3); replace GR := Aside0.mk (gb_trans GR.out (gb_below hb3 (some g))); clear hb hb3 x0 x1 x2 x3 y0 y1 y2 y3 z0 z1; have x0 := blk_cell BM.out 0; have x1 := blk_cell BM.out 1; have x2 := blk_cell BM.out 2; have x3 := blk_cell BM.out 3; have y0 := blk_cell BD.out 0; have y1 := blk_cell BD.out 1; have y2 := blk_cell BD.out 2; have y3 := blk_cell BD.out 3; have z0 := blk_cell BS.out 8; have z1 := blk_frozen BS.out 8))
          all_goals (
            go_wp2_with fail
            refine (slot_pay g 0 peer 2 8 (by decide) p q st te v sp c0 c1 true h1 t0 t1 en bl _ (by exact BS.out)).mono ?_
            rintro e w9 ⟨rfl, hs, hgr⟩
            go_wp2
            go_end0
            exact ⟨rfl, (by rw [HE.out]; exact hs), gb_trans GR.out hgr⟩)
        · have h2b : (how == 2) = false := by simpa using h2
          have HE := Aside0.mk (show answerF 0 peer how kd ⟨c0, c1, true, h1, t0, t1, en, bl⟩ = payF 0 (costOf kd) ⟨c0, c1, true, h1, t0, t1, en, bl⟩ from by unfold answerF; simp [holdsF, hf, h2])
          go_wp2_with fail
          go_region_law (first | (refine goes_ Tryd.func93 (by kernel_rfl) rfl #[.agg #[.pointer (some ⟨g, 0, none⟩), .int .i64 0, .int .i64 peer, .int .i64 how]] (by rfl) rfl rfl (by (try simp only [List.map_toArray, List.map_cons, List.map_nil]); first | done | rfl) ?_; refine (slot_follows g 0 peer how _).mono ?_; rintro e w3 ⟨rfl, hb⟩; refine ⟨_, rfl, ?_⟩; have hb3 : Below W2.heap.size W2 w3 := (below_drew (Below.refl _ _)).trans hb; replace BM := Aside0.mk ((hb3.block gm (blk_lt BM.out)).trans BM.out); replace BD := Aside0.mk ((hb3.block gd (blk_lt BD.out)).trans BD.out); replace BS := Aside0.mk ((hb3.block g (blk_lt BS.out)).trans BS.out); replace LW := Aside0.mk (laid_below LW.out hb3); replace GR := Aside0.mk (gb_trans GR.out (gb_below hb3 (some g))); clear hb hb3 x0 x1 x2 x3 y0 y1 y2 y3 z0 z1; have x0 := blk_cell BM.out 0; have x1 := blk_cell BM.out 1; have x2 := blk_cell BM.out 2; have x3 := blk_cell BM.out 3; have y0 := blk_cell BD.out 0; have y1 := blk_cell BD.out 1; have y2 := blk_cell BD.out 2; have y3 := blk_cell BD.out 3; have z0 := blk_cell BS.out 8; have z1 := blk_frozen BS.out 8))
          all_goals (
            go_wp2_with fail
            go_region_law (first | (refine goes_ Tryd.func27 (by kernel_rfl) rfl #[.int .i64 kd] (by rfl) rfl rfl (by (try simp only [List.map_toArray, List.map_cons, List.map_nil]); first | done | rfl) ?_; refine (duty_Cost.calls kd (costOf kd) _ rfl (laid_below LW.out (below_drew (Below.refl _ _)))).mono ?_; rintro e w4 ⟨rfl, hd⟩; refine ⟨_, rfl, ?_⟩; have hb4 : Below w3.heap.size w3 w4 := (below_drew (Below.refl _ _)).trans hd.below; have BM4 := Aside0.mk ((hb4.block gm (blk_lt BM.out)).trans BM.out); have BD4 := Aside0.mk ((hb4.block gd (blk_lt BD.out)).trans BD.out); have BS4 := Aside0.mk ((hb4.block g (blk_lt BS.out)).trans BS.out); have GR4 := Aside0.mk (gb_trans GR.out (gb_below hb4 (some g))); have a0 := blk_cell BM4.out 0; have a1 := blk_cell BM4.out 1; have a2 := blk_cell BM4.out 2; have a3 := blk_cell BM4.out 3; clear hd hb4) | (refine goes_ Tryd.func94 (by kernel_rfl) rfl #[.agg #[.pointer (some ⟨g, 0, none⟩), .int .i64 0, .int .i64 peer, .int .i64 how], .int .i64 (costOf kd)] (by rfl) rfl rfl (by (try simp only [List.map_toArray, List.map_cons, List.map_nil]); first | done | rfl) ?_; refine (slot_pay g 0 peer how (costOf kd) (by decide) p q st te v sp c0 c1 true h1 t0 t1 en bl _ (by exact BS4.out)).mono ?_; rintro e w5 ⟨rfl, hs, hgr⟩; refine ⟨_, rfl, ?_⟩; have BS5 := Aside0.mk hs; have GR5 := Aside0.mk (gb_trans GR4.out hgr); clear hs hgr))
            all_goals (go_wp2; go_end0; exact ⟨rfl, (by rw [HE.out]; exact BS5.out), GR5.out⟩))
  · obtain ⟨c0, c1, h0, h1, t0, t1, en, bl⟩ := s
    go_enter Tryd.func88, Tryd.ntmps88
    go_wp2_with fail
    have q1 : ((w.alloc (.cells #[.pointer (some ⟨g, 0, none⟩), .int .i64 1, .int .i64 peer, .int .i64 how] 115)).alloc (.cells #[.int .i64 tk, .int .i64 sl, .int .i64 pe, .int .i64 kd] 36)).heap[w.heap.size]? = some (.cells #[.pointer (some ⟨g, 0, none⟩), .int .i64 1, .int .i64 peer, .int .i64 how] 115) := blk_alloc (blk_new w _) _
    have q2 : ((w.alloc (.cells #[.pointer (some ⟨g, 0, none⟩), .int .i64 1, .int .i64 peer, .int .i64 how] 115)).alloc (.cells #[.int .i64 tk, .int .i64 sl, .int .i64 pe, .int .i64 kd] 36)).heap[w.heap.size + 1]? = some (.cells #[.int .i64 tk, .int .i64 sl, .int .i64 pe, .int .i64 kd] 36) := by have := blk_new (w.alloc (.cells #[.pointer (some ⟨g, 0, none⟩), .int .i64 1, .int .i64 peer, .int .i64 how] 115)) (.cells #[.int .i64 tk, .int .i64 sl, .int .i64 pe, .int .i64 kd] 36); simpa using this
    have q3 := blk_alloc (blk_alloc HG0.out (.cells #[.pointer (some ⟨g, 0, none⟩), .int .i64 1, .int .i64 peer, .int .i64 how] 115)) (.cells #[.int .i64 tk, .int .i64 sl, .int .i64 pe, .int .i64 kd] 36)
    have q4 := laid_below HL.out (below_alloc (below_alloc (Below.refl _ _) (.cells #[.pointer (some ⟨g, 0, none⟩), .int .i64 1, .int .i64 peer, .int .i64 how] 115)) (.cells #[.int .i64 tk, .int .i64 sl, .int .i64 pe, .int .i64 kd] 36))
    have q5 : w.grownBy ((w.alloc (.cells #[.pointer (some ⟨g, 0, none⟩), .int .i64 1, .int .i64 peer, .int .i64 how] 115)).alloc (.cells #[.int .i64 tk, .int .i64 sl, .int .i64 pe, .int .i64 kd] 36)) (some g) := gb_alloc (gb_alloc (gb_refl w _) _) _
    obtain ⟨gm, hgm⟩ : ∃ gm, gm = w.heap.size := ⟨_, rfl⟩
    obtain ⟨gd, hgd⟩ : ∃ gd, gd = w.heap.size + 1 := ⟨_, rfl⟩
    generalize (w.alloc (.cells #[.pointer (some ⟨g, 0, none⟩), .int .i64 1, .int .i64 peer, .int .i64 how] 115)).alloc (.cells #[.int .i64 tk, .int .i64 sl, .int .i64 pe, .int .i64 kd] 36) = W2 at *
    rw [← hgd] at q2 ⊢
    rw [← hgm] at q1 ⊢
    have nm : gm ≠ g := by omega
    have nd : gd ≠ g := by omega
    have BM := Aside0.mk q1; have BD := Aside0.mk q2; have BS := Aside0.mk q3; have LW := Aside0.mk q4; have GR := Aside0.mk q5
    have x0 := blk_cell q1 0; have x1 := blk_cell q1 1; have x2 := blk_cell q1 2; have x3 := blk_cell q1 3
    have y0 := blk_cell q2 0; have y1 := blk_cell q2 1; have y2 := blk_cell q2 2; have y3 := blk_cell q2 3
    clear q1 q2 q3 q4 q5 hgm hgd
    have z0 := blk_cell BS.out 9; have z1 := blk_frozen BS.out 9
    obtain rfl | rfl : h1 = false ∨ h1 = true := by cases h1 <;> simp
    · have HE := Aside0.mk (show answerF 1 peer how kd ⟨c0, c1, h0, false, t0, t1, en, bl⟩ = endF peer ⟨c0, c1, h0, false, t0, t1, en, bl⟩ from by unfold answerF; simp [holdsF])
      go_wp2_with fail
      go_region_law (fail)
      all_goals (
        go_wp2_with fail
        refine (slot_end g 1 peer how p q st te v sp c0 c1 h0 false t0 t1 en bl _ (by exact BS.out)).mono ?_
        rintro e w9 ⟨rfl, hs, hgr⟩
        go_wp2
        first | go_end0 | (refine bodyPost_ret (results_none rfl _ _ _) rfl ?_)
        exact ⟨rfl, (by rw [HE.out]; exact hs), (by first | exact gb_trans GR.out hgr | exact gb_trans (gb_drew GR.out) hgr)⟩)
    · obtain hf | hf : followsB how = false ∨ followsB how = true := by cases followsB how <;> simp
      · have HE := Aside0.mk (show answerF 1 peer how kd ⟨c0, c1, h0, true, t0, t1, en, bl⟩ = endF peer ⟨c0, c1, h0, true, t0, t1, en, bl⟩ from by unfold answerF; simp [holdsF, hf])
        go_wp2_with fail
        go_region_law (first | (refine goes_ Tryd.func93 (by kernel_rfl) rfl #[.agg #[.pointer (some ⟨g, 0, none⟩), .int .i64 1, .int .i64 peer, .int .i64 how]] (by rfl) rfl rfl (by (try simp only [List.map_toArray, List.map_cons, List.map_nil]); first | done | rfl) ?_; refine (slot_follows g 1 peer how _).mono ?_; rintro e w3 ⟨rfl, hb⟩; refine ⟨_, rfl, ?_⟩; have hb3 : Below W2.heap.size W2 w3 := (below_drew (Below.refl _ _)).trans hb; replace BM := Aside0.mk ((hb3.block gm (blk_lt BM.out)).trans BM.out); replace BD := Aside0.mk ((hb3.block gd (blk_lt BD.out)).trans BD.out); replace BS := Aside0.mk ((hb3.block g (blk_lt BS.out)).trans BS.out); replace LW := Aside0.mk (laid_below LW.out hb3); replace GR := Aside0.mk (gb_trans GR.out (gb_below hb3 (some g))); clear hb hb3 x0 x1 x2 x3 y0 y1 y2 y3 z0 z1; have x0 := blk_cell BM.out 0; have x1 := blk_cell BM.out 1; have x2 := blk_cell BM.out 2; have x3 := blk_cell BM.out 3; have y0 := blk_cell BD.out 0; have y1 := blk_cell BD.out 1; have y2 := blk_cell BD.out 2; have y3 := blk_cell BD.out 3; have z0 := blk_cell BS.out 9; have z1 := blk_frozen BS.out 9))
        all_goals (
          go_wp2_with fail
          refine (slot_end g 1 peer how p q st te v sp c0 c1 h0 true t0 t1 en bl _ (by exact BS.out)).mono ?_
          rintro e w9 ⟨rfl, hs, hgr⟩
          go_wp2
          first | go_end0 | (refine bodyPost_ret (results_none rfl _ _ _) rfl ?_)
          exact ⟨rfl, (by rw [HE.out]; exact hs), (by first | exact gb_trans GR.out hgr | exact gb_trans (gb_drew GR.out) hgr)⟩)
      · by_cases h2 : how = 2
        · subst h2
          have HE := Aside0.mk (show answerF 1 peer 2 kd ⟨c0, c1, h0, true, t0, t1, en, bl⟩ = payF 1 8 ⟨c0, c1, h0, true, t0, t1, en, bl⟩ from by unfold answerF; simp [holdsF, hf])
          go_wp2_with fail
          go_region_law (first | (refine goes_ Tryd.func93 (by kernel_rfl) rfl #[.agg #[.pointer (some ⟨g, 0, none⟩), .int .i64 1, .int .i64 peer, .int .i64 2]] (by rfl) rfl rfl (by (try simp only [List.map_toArray, List.map_cons, List.map_nil]); first | done | rfl) ?_; refine (slot_follows g 1 peer 2 _).mono ?_; rintro e w3 ⟨rfl, hb⟩; refine ⟨_, rfl, ?_⟩; have hb3 : Below W2.heap.size W2 w3 := (below_drew (Below.refl _ _)).trans hb; replace BM := Aside0.mk ((hb3.block gm (blk_lt BM.out)).trans BM.out); replace BD := Aside0.mk ((hb3.block gd (blk_lt BD.out)).trans BD.out); replace BS := Aside0.mk ((hb3.block g (blk_lt BS.out)).trans BS.out); replace LW := Aside0.mk (laid_below LW.out hb3); replace GR := Aside0.mk (gb_trans GR.out (gb_below hb3 (some g))); clear hb hb3 x0 x1 x2 x3 y0 y1 y2 y3 z0 z1; have x0 := blk_cell BM.out 0; have x1 := blk_cell BM.out 1; have x2 := blk_cell BM.out 2; have x3 := blk_cell BM.out 3; have y0 := blk_cell BD.out 0; have y1 := blk_cell BD.out 1; have y2 := blk_cell BD.out 2; have y3 := blk_cell BD.out 3; have z0 := blk_cell BS.out 9; have z1 := blk_frozen BS.out 9))
          all_goals (
            go_wp2_with fail
            refine (slot_pay g 1 peer 2 8 (by decide) p q st te v sp c0 c1 h0 true t0 t1 en bl _ (by exact BS.out)).mono ?_
            rintro e w9 ⟨rfl, hs, hgr⟩
            go_wp2
            go_end0
            exact ⟨rfl, (by rw [HE.out]; exact hs), gb_trans GR.out hgr⟩)
        · have h2b : (how == 2) = false := by simpa using h2
          have HE := Aside0.mk (show answerF 1 peer how kd ⟨c0, c1, h0, true, t0, t1, en, bl⟩ = payF 1 (costOf kd) ⟨c0, c1, h0, true, t0, t1, en, bl⟩ from by unfold answerF; simp [holdsF, hf, h2])
          go_wp2_with fail
          go_region_law (first | (refine goes_ Tryd.func93 (by kernel_rfl) rfl #[.agg #[.pointer (some ⟨g, 0, none⟩), .int .i64 1, .int .i64 peer, .int .i64 how]] (by rfl) rfl rfl (by (try simp only [List.map_toArray, List.map_cons, List.map_nil]); first | done | rfl) ?_; refine (slot_follows g 1 peer how _).mono ?_; rintro e w3 ⟨rfl, hb⟩; refine ⟨_, rfl, ?_⟩; have hb3 : Below W2.heap.size W2 w3 := (below_drew (Below.refl _ _)).trans hb; replace BM := Aside0.mk ((hb3.block gm (blk_lt BM.out)).trans BM.out); replace BD := Aside0.mk ((hb3.block gd (blk_lt BD.out)).trans BD.out); replace BS := Aside0.mk ((hb3.block g (blk_lt BS.out)).trans BS.out); replace LW := Aside0.mk (laid_below LW.out hb3); replace GR := Aside0.mk (gb_trans GR.out (gb_below hb3 (some g))); clear hb hb3 x0 x1 x2 x3 y0 y1 y2 y3 z0 z1; have x0 := blk_cell BM.out 0; have x1 := blk_cell BM.out 1; have x2 := blk_cell BM.out 2; have x3 := blk_cell BM.out 3; have y0 := blk_cell BD.out 0; have y1 := blk_cell BD.out 1; have y2 := blk_cell BD.out 2; have y3 := blk_cell BD.out 3; have z0 := blk_cell BS.out 9; have z1 := blk_frozen BS.out 9))
          all_goals (
            go_wp2_with fail
            go_region_law (first | (refine goes_ Tryd.func27 (by kernel_rfl) rfl #[.int .i64 kd] (by rfl) rfl rfl (by (try simp only [List.map_toArray, List.map_cons, List.map_nil]); first | done | rfl) ?_; refine (duty_Cost.calls kd (costOf kd) _ rfl (laid_below LW.out (below_drew (Below.refl _ _)))).mono ?_; rintro e w4 ⟨rfl, hd⟩; refine ⟨_, rfl, ?_⟩; have hb4 : Below w3.heap.size w3 w4 := (below_drew (Below.refl _ _)).trans hd.below; have BM4 := Aside0.mk ((hb4.block gm (blk_lt BM.out)).trans BM.out); have BD4 := Aside0.mk ((hb4.block gd (blk_lt BD.out)).trans BD.out); have BS4 := Aside0.mk ((hb4.block g (blk_lt BS.out)).trans BS.out); have GR4 := Aside0.mk (gb_trans GR.out (gb_below hb4 (some g))); have a0 := blk_cell BM4.out 0; have a1 := blk_cell BM4.out 1; have a2 := blk_cell BM4.out 2; have a3 := blk_cell BM4.out 3; clear hd hb4) | (refine goes_ Tryd.func94 (by kernel_rfl) rfl #[.agg #[.pointer (some ⟨g, 0, none⟩), .int .i64 1, .int .i64 peer, .int .i64 how], .int .i64 (costOf kd)] (by rfl) rfl rfl (by (try simp only [List.map_toArray, List.map_cons, List.map_nil]); first | done | rfl) ?_; refine (slot_pay g 1 peer how (costOf kd) (by decide) p q st te v sp c0 c1 h0 true t0 t1 en bl _ (by exact BS4.out)).mono ?_; rintro e w5 ⟨rfl, hs, hgr⟩; refine ⟨_, rfl, ?_⟩; have BS5 := Aside0.mk hs; have GR5 := Aside0.mk (gb_trans GR4.out hgr); clear hs hgr))
            all_goals (go_wp2; go_end0; exact ⟨rfl, (by rw [HE.out]; exact BS5.out), GR5.out⟩))

def exchangeF (side peer how kd : Int) (s : SlotS) : SlotS :=
  if how = 3 ∧ kd ≠ 1 then endF peer (twistF side (payF side (costOf kd) s))
  else if followsB how = true then (if how = 2 ∧ kd = 3 then payF side 8 s else if kd = 4 then holdF side true (payF side (costOf kd) s) else payF side (costOf kd) s)
  else endF peer s

set_option maxHeartbeats 4000000 in
set_option maxRecDepth 100000 in
theorem slot_exchange (g : Nat) (side peer how : Int) (tk sl pe kd : Int) (hsd : side = 0 ∨ side = 1) (p q st te : Int) (v : Value) (sp : Int) (s : SlotS) (w : World) (hL : Laid w) (hg : w.heap[g]? = some (.cells #[.int .i64 p, .int .i64 q, .int .i64 st, .int .i64 te, v, .int .i64 sp, .int .i64 s.c0, .int .i64 s.c1, .bool s.h0, .bool s.h1, .bool s.t0, .bool s.t1, .bool s.en, .int .i64 s.bl] 54 (0, 0))) :
    Calls Tryd.prog 89 #[.agg #[.pointer (some ⟨g, 0, none⟩), .int .i64 side, .int .i64 peer, .int .i64 how], .agg #[.int .i64 tk, .int .i64 sl, .int .i64 pe, .int .i64 kd]] w fun e w' => e = .returned (.tuple #[]) ∧ w'.heap[g]? = some (.cells #[.int .i64 p, .int .i64 q, .int .i64 st, .int .i64 te, v, .int .i64 sp, .int .i64 (exchangeF side peer how kd s).c0, .int .i64 (exchangeF side peer how kd s).c1, .bool (exchangeF side peer how kd s).h0, .bool (exchangeF side peer how kd s).h1, .bool (exchangeF side peer how kd s).t0, .bool (exchangeF side peer how kd s).t1, .bool (exchangeF side peer how kd s).en, .int .i64 (exchangeF side peer how kd s).bl] 54 (0, 0)) ∧ w.grownBy w' (some g) := by
  have hu := Tryd.underlying54
  have hu2 := Tryd.underlying115
  have hu3 := Tryd.underlying36
  have hlt := blk_lt hg
  have HG0 := Aside0.mk hg
  have HL := Aside0.mk hL
  clear hg hL
  rcases hsd with rfl | rfl
  · obtain ⟨c0, c1, h0, h1, t0, t1, en, bl⟩ := s
    go_enter Tryd.func89, Tryd.ntmps89
    go_upto_region 1 with (fail)
    have q1 : ((w.alloc (.cells #[.pointer (some ⟨g, 0, none⟩), .int .i64 0, .int .i64 peer, .int .i64 how] 115)).alloc (.cells #[.int .i64 tk, .int .i64 sl, .int .i64 pe, .int .i64 kd] 36)).heap[w.heap.size]? = some (.cells #[.pointer (some ⟨g, 0, none⟩), .int .i64 0, .int .i64 peer, .int .i64 how] 115) := blk_alloc (blk_new w _) _
    have q2 : ((w.alloc (.cells #[.pointer (some ⟨g, 0, none⟩), .int .i64 0, .int .i64 peer, .int .i64 how] 115)).alloc (.cells #[.int .i64 tk, .int .i64 sl, .int .i64 pe, .int .i64 kd] 36)).heap[w.heap.size + 1]? = some (.cells #[.int .i64 tk, .int .i64 sl, .int .i64 pe, .int .i64 kd] 36) := by have := blk_new (w.alloc (.cells #[.pointer (some ⟨g, 0, none⟩), .int .i64 0, .int .i64 peer, .int .i64 how] 115)) (.cells #[.int .i64 tk, .int .i64 sl, .int .i64 pe, .int .i64 kd] 36); simpa using this
    have q3 := blk_alloc (blk_alloc HG0.out (.cells #[.pointer (some ⟨g, 0, none⟩), .int .i64 0, .int .i64 peer, .int .i64 how] 115)) (.cells #[.int .i64 tk, .int .i64 sl, .int .i64 pe, .int .i64 kd] 36)
    have q4 := laid_below HL.out (below_alloc (below_alloc (Below.refl _ _) (.cells #[.pointer (some ⟨g, 0, none⟩), .int .i64 0, .int .i64 peer, .int .i64 how] 115)) (.cells #[.int .i64 tk, .int .i64 sl, .int .i64 pe, .int .i64 kd] 36))
    have q5 : w.grownBy ((w.alloc (.cells #[.pointer (some ⟨g, 0, none⟩), .int .i64 0, .int .i64 peer, .int .i64 how] 115)).alloc (.cells #[.int .i64 tk, .int .i64 sl, .int .i64 pe, .int .i64 kd] 36)) (some g) := gb_alloc (gb_alloc (gb_refl w _) _) _
    obtain ⟨gm, hgm⟩ : ∃ gm, gm = w.heap.size := ⟨_, rfl⟩
    obtain ⟨gd, hgd⟩ : ∃ gd, gd = w.heap.size + 1 := ⟨_, rfl⟩
    generalize (w.alloc (.cells #[.pointer (some ⟨g, 0, none⟩), .int .i64 0, .int .i64 peer, .int .i64 how] 115)).alloc (.cells #[.int .i64 tk, .int .i64 sl, .int .i64 pe, .int .i64 kd] 36) = W2 at *
    rw [← hgd] at q2 ⊢
    rw [← hgm] at q1 ⊢
    have nm : gm ≠ g := by omega
    have nd : gd ≠ g := by omega
    have BM := Aside0.mk q1; have BD := Aside0.mk q2; have BS := Aside0.mk q3; have LW := Aside0.mk q4; have GR := Aside0.mk q5
    have x0 := blk_cell q1 0; have x1 := blk_cell q1 1; have x2 := blk_cell q1 2; have x3 := blk_cell q1 3
    have y0 := blk_cell q2 0; have y1 := blk_cell q2 1; have y2 := blk_cell q2 2; have y3 := blk_cell q2 3
    clear q1 q2 q3 q4 q5 hgm hgd
    have z0 := blk_cell BS.out 8; have z1 := blk_frozen BS.out 8
    by_cases hA : how = 3 ∧ kd ≠ 1
    · obtain ⟨rfl, hk1⟩ := hA
      have b1 : (kd != 1) = true := by simpa using hk1
      have HE := Aside0.mk (show exchangeF 0 peer 3 kd ⟨c0, c1, h0, h1, t0, t1, en, bl⟩ = endF peer (twistF 0 (payF 0 (costOf kd) ⟨c0, c1, h0, h1, t0, t1, en, bl⟩)) from by unfold exchangeF; simp [hk1])
      go_wp2_with fail
      go_region_law (first | (refine goes_ Tryd.func27 (by kernel_rfl) rfl #[.int .i64 kd] (by rfl) rfl rfl (by (try simp only [List.map_toArray, List.map_cons, List.map_nil]); first | done | rfl) ?_; refine (duty_Cost.calls kd (costOf kd) _ rfl (laid_below LW.out (below_drew (Below.refl _ _)))).mono ?_; rintro e w4 ⟨rfl, hd⟩; refine ⟨_, rfl, ?_⟩; have hb4 : Below W2.heap.size W2 w4 := (below_drew (Below.refl _ _)).trans hd.below; have BM4 := Aside0.mk ((hb4.block gm (blk_lt BM.out)).trans BM.out); have BD4 := Aside0.mk ((hb4.block gd (blk_lt BD.out)).trans BD.out); have BS4 := Aside0.mk ((hb4.block g (blk_lt BS.out)).trans BS.out); have GR4 := Aside0.mk (gb_trans GR.out (gb_below hb4 (some g))); have a0 := blk_cell BM4.out 0; have a1 := blk_cell BM4.out 1; have a2 := blk_cell BM4.out 2; have a3 := blk_cell BM4.out 3; clear hd hb4) | (refine goes_ Tryd.func94 (by kernel_rfl) rfl #[.agg #[.pointer (some ⟨g, 0, none⟩), .int .i64 0, .int .i64 peer, .int .i64 3], .int .i64 (costOf kd)] (by rfl) rfl rfl (by (try simp only [List.map_toArray, List.map_cons, List.map_nil]); first | done | rfl) ?_; refine (slot_pay g 0 peer 3 (costOf kd) (by decide) p q st te v sp c0 c1 h0 h1 t0 t1 en bl _ (by exact BS4.out)).mono ?_; rintro e w5 ⟨rfl, hs, hgr⟩; refine ⟨_, rfl, ?_⟩; have BS5 := Aside0.mk hs; have GR5 := Aside0.mk (gb_trans GR4.out hgr); have hgr6 := Aside0.mk hgr; clear hs hgr))
      all_goals (
        have BM6 := Aside0.mk ((hgr6.out.block gm (blk_lt BM4.out) (fun e_ => nm (Option.some.inj e_))).trans BM4.out)
        have BD6 := Aside0.mk ((hgr6.out.block gd (blk_lt BD4.out) (fun e_ => nd (Option.some.inj e_))).trans BD4.out)
        clear a0 a1 a2 a3
        have a0 := blk_cell BM6.out 0; have a1 := blk_cell BM6.out 1; have a2 := blk_cell BM6.out 2; have a3 := blk_cell BM6.out 3; have e3 := blk_cell BD6.out 3
        have u0 := blk_cell BS5.out 10; have u1 := blk_frozen BS5.out 10
        go_wp2_with fail
        go_region_law (fail)
        all_goals (
          go_wp2_with fail
          have BS7 := Aside0.mk (blk_set BS5.out 10 (.bool true))
          refine (slot_end g 0 peer 3 p q st te v sp (if (0 : Int) = 0 then wrap64 (c0 + costOf kd) else c0) (if (0 : Int) = 0 then c1 else wrap64 (c1 + costOf kd)) h0 h1 true t1 en bl _ (by exact BS7.out)).mono ?_
          rintro e w9 ⟨rfl, hs, hgr⟩
          go_wp2
          first | go_end0 | (refine bodyPost_ret (results_none rfl _ _ _) rfl ?_)
          exact ⟨rfl, (by rw [HE.out]; exact hs), (by first | exact gb_trans (gb_drew (gb_set GR5.out 10 _)) hgr | exact gb_trans (gb_set (gb_drew GR5.out) 10 _) hgr)⟩))
    
    · obtain hf | hf : followsB how = false ∨ followsB how = true := by cases followsB how <;> simp
      · by_cases h3 : how = 3
        · have hk1 : kd = 1 := by
            rcases Classical.em (kd = 1) with h | h
            · exact h
            · exact absurd ⟨h3, h⟩ hA
          subst h3 hk1
          have HE := Aside0.mk (show exchangeF 0 peer 3 1 ⟨c0, c1, h0, h1, t0, t1, en, bl⟩ = endF peer ⟨c0, c1, h0, h1, t0, t1, en, bl⟩ from by unfold exchangeF; simp [hf])
          go_wp2_with fail
          refine (slot_follows g 0 peer 3 _).mono ?_
          rintro e w3 ⟨rfl, hb⟩
          have hb3 : Below W2.heap.size W2 w3 := hb; replace BM := Aside0.mk ((hb3.block gm (blk_lt BM.out)).trans BM.out); replace BD := Aside0.mk ((hb3.block gd (blk_lt BD.out)).trans BD.out); replace BS := Aside0.mk ((hb3.block g (blk_lt BS.out)).trans BS.out); replace LW := Aside0.mk (laid_below LW.out hb3); replace GR := Aside0.mk (gb_trans GR.out (gb_below hb3 (some g))); clear hb hb3 x0 x1 x2 x3 y0 y1 y2 y3 z0 z1; have x0 := blk_cell BM.out 0; have x1 := blk_cell BM.out 1; have x2 := blk_cell BM.out 2; have x3 := blk_cell BM.out 3; have y0 := blk_cell BD.out 0; have y1 := blk_cell BD.out 1; have y2 := blk_cell BD.out 2; have y3 := blk_cell BD.out 3
          have z0 := blk_cell BS.out 8; have z1 := blk_frozen BS.out 8
          rw [hf]
          go_wp2_with fail
          refine (slot_end g 0 peer 3 p q st te v sp c0 c1 h0 h1 t0 t1 en bl _ (by exact BS.out)).mono ?_
          rintro e w9 ⟨rfl, hs, hgr⟩
          go_wp2
          first | go_end0 | (refine bodyPost_ret (results_none rfl _ _ _) rfl ?_)
          exact ⟨rfl, (by rw [HE.out]; exact hs), gb_trans GR.out hgr⟩
        · have b3 : (how == 3) = false := by simpa using h3
          have HE := Aside0.mk (show exchangeF 0 peer how kd ⟨c0, c1, h0, h1, t0, t1, en, bl⟩ = endF peer ⟨c0, c1, h0, h1, t0, t1, en, bl⟩ from by unfold exchangeF; simp [hf, h3])
          go_wp2_with fail
          refine (slot_follows g 0 peer how _).mono ?_
          rintro e w3 ⟨rfl, hb⟩
          have hb3 : Below W2.heap.size W2 w3 := hb; replace BM := Aside0.mk ((hb3.block gm (blk_lt BM.out)).trans BM.out); replace BD := Aside0.mk ((hb3.block gd (blk_lt BD.out)).trans BD.out); replace BS := Aside0.mk ((hb3.block g (blk_lt BS.out)).trans BS.out); replace LW := Aside0.mk (laid_below LW.out hb3); replace GR := Aside0.mk (gb_trans GR.out (gb_below hb3 (some g))); clear hb hb3 x0 x1 x2 x3 y0 y1 y2 y3 z0 z1; have x0 := blk_cell BM.out 0; have x1 := blk_cell BM.out 1; have x2 := blk_cell BM.out 2; have x3 := blk_cell BM.out 3; have y0 := blk_cell BD.out 0; have y1 := blk_cell BD.out 1; have y2 := blk_cell BD.out 2; have y3 := blk_cell BD.out 3
          have z0 := blk_cell BS.out 8; have z1 := blk_frozen BS.out 8
          rw [hf]
          go_wp2_with fail
          refine (slot_end g 0 peer how p q st te v sp c0 c1 h0 h1 t0 t1 en bl _ (by exact BS.out)).mono ?_
          rintro e w9 ⟨rfl, hs, hgr⟩
          go_wp2
          first | go_end0 | (refine bodyPost_ret (results_none rfl _ _ _) rfl ?_)
          exact ⟨rfl, (by rw [HE.out]; exact hs), gb_trans GR.out hgr⟩
      · have hh : how = 0 ∨ how = 2 := by unfold followsB at hf; simpa using hf
        rcases hh with rfl | rfl
        · by_cases h4 : kd = 4
          · subst h4
            have HE := Aside0.mk (show exchangeF 0 peer 0 4 ⟨c0, c1, h0, h1, t0, t1, en, bl⟩ = holdF 0 true (payF 0 (costOf 4) ⟨c0, c1, h0, h1, t0, t1, en, bl⟩) from by unfold exchangeF; simp [hf])
            go_wp2_with fail
            refine (slot_follows g 0 peer 0 _).mono ?_
            rintro e w3 ⟨rfl, hb⟩
            have hb3 : Below W2.heap.size W2 w3 := hb; replace BM := Aside0.mk ((hb3.block gm (blk_lt BM.out)).trans BM.out); replace BD := Aside0.mk ((hb3.block gd (blk_lt BD.out)).trans BD.out); replace BS := Aside0.mk ((hb3.block g (blk_lt BS.out)).trans BS.out); replace LW := Aside0.mk (laid_below LW.out hb3); replace GR := Aside0.mk (gb_trans GR.out (gb_below hb3 (some g))); clear hb hb3 x0 x1 x2 x3 y0 y1 y2 y3 z0 z1; have x0 := blk_cell BM.out 0; have x1 := blk_cell BM.out 1; have x2 := blk_cell BM.out 2; have x3 := blk_cell BM.out 3; have y0 := blk_cell BD.out 0; have y1 := blk_cell BD.out 1; have y2 := blk_cell BD.out 2; have y3 := blk_cell BD.out 3
            have z0 := blk_cell BS.out 8; have z1 := blk_frozen BS.out 8
            rw [show followsB 0 = true from rfl]
            go_wp2_with fail
            go_region_law (first | (refine goes_ Tryd.func27 (by kernel_rfl) rfl #[.int .i64 4] (by rfl) rfl rfl (by (try simp only [List.map_toArray, List.map_cons, List.map_nil]); first | done | rfl) ?_; refine (duty_Cost.calls 4 (costOf 4) _ rfl (laid_below LW.out (below_drew (Below.refl _ _)))).mono ?_; rintro e w4 ⟨rfl, hd⟩; refine ⟨_, rfl, ?_⟩; have hb4 : Below w3.heap.size w3 w4 := (below_drew (Below.refl _ _)).trans hd.below; have BM4 := Aside0.mk ((hb4.block gm (blk_lt BM.out)).trans BM.out); have BD4 := Aside0.mk ((hb4.block gd (blk_lt BD.out)).trans BD.out); have BS4 := Aside0.mk ((hb4.block g (blk_lt BS.out)).trans BS.out); have GR4 := Aside0.mk (gb_trans GR.out (gb_below hb4 (some g))); have a0 := blk_cell BM4.out 0; have a1 := blk_cell BM4.out 1; have a2 := blk_cell BM4.out 2; have a3 := blk_cell BM4.out 3; clear hd hb4) | (refine goes_ Tryd.func94 (by kernel_rfl) rfl #[.agg #[.pointer (some ⟨g, 0, none⟩), .int .i64 0, .int .i64 peer, .int .i64 0], .int .i64 (costOf 4)] (by rfl) rfl rfl (by (try simp only [List.map_toArray, List.map_cons, List.map_nil]); first | done | rfl) ?_; refine (slot_pay g 0 peer 0 (costOf 4) (by decide) p q st te v sp c0 c1 h0 h1 t0 t1 en bl _ (by exact BS4.out)).mono ?_; rintro e w5 ⟨rfl, hs, hgr⟩; refine ⟨_, rfl, ?_⟩; have BS5 := Aside0.mk hs; have GR5 := Aside0.mk (gb_trans GR4.out hgr); have hgr6 := Aside0.mk hgr; clear hs hgr))
            all_goals (
              have BM6 := Aside0.mk ((hgr6.out.block gm (blk_lt BM4.out) (fun e_ => nm (Option.some.inj e_))).trans BM4.out)
              have BD6 := Aside0.mk ((hgr6.out.block gd (blk_lt BD4.out) (fun e_ => nd (Option.some.inj e_))).trans BD4.out)
              clear a0 a1 a2 a3
              have a0 := blk_cell BM6.out 0; have a1 := blk_cell BM6.out 1; have a2 := blk_cell BM6.out 2; have a3 := blk_cell BM6.out 3; have e3 := blk_cell BD6.out 3
              have u0 := blk_cell BS5.out 8; have u1 := blk_frozen BS5.out 8
              go_wp2_with fail
              go_region_law (fail)
              all_goals (
                go_wp2
                first | go_end0 | (refine bodyPost_ret (results_none rfl _ _ _) rfl ?_)
                exact ⟨rfl, (by rw [HE.out]; exact blk_set BS5.out 8 _), (by first | exact gb_drew (gb_set GR5.out 8 _) | exact gb_set (gb_drew GR5.out) 8 _)⟩))
          · have b4 : (kd == 4) = false := by simpa using h4
            have HE := Aside0.mk (show exchangeF 0 peer 0 kd ⟨c0, c1, h0, h1, t0, t1, en, bl⟩ = payF 0 (costOf kd) ⟨c0, c1, h0, h1, t0, t1, en, bl⟩ from by unfold exchangeF; simp [hf, h4])
            go_wp2_with fail
            refine (slot_follows g 0 peer 0 _).mono ?_
            rintro e w3 ⟨rfl, hb⟩
            have hb3 : Below W2.heap.size W2 w3 := hb; replace BM := Aside0.mk ((hb3.block gm (blk_lt BM.out)).trans BM.out); replace BD := Aside0.mk ((hb3.block gd (blk_lt BD.out)).trans BD.out); replace BS := Aside0.mk ((hb3.block g (blk_lt BS.out)).trans BS.out); replace LW := Aside0.mk (laid_below LW.out hb3); replace GR := Aside0.mk (gb_trans GR.out (gb_below hb3 (some g))); clear hb hb3 x0 x1 x2 x3 y0 y1 y2 y3 z0 z1; have x0 := blk_cell BM.out 0; have x1 := blk_cell BM.out 1; have x2 := blk_cell BM.out 2; have x3 := blk_cell BM.out 3; have y0 := blk_cell BD.out 0; have y1 := blk_cell BD.out 1; have y2 := blk_cell BD.out 2; have y3 := blk_cell BD.out 3
            have z0 := blk_cell BS.out 8; have z1 := blk_frozen BS.out 8
            rw [show followsB 0 = true from rfl]
            go_wp2_with fail
            go_region_law (first | (refine goes_ Tryd.func27 (by kernel_rfl) rfl #[.int .i64 kd] (by rfl) rfl rfl (by (try simp only [List.map_toArray, List.map_cons, List.map_nil]); first | done | rfl) ?_; refine (duty_Cost.calls kd (costOf kd) _ rfl (laid_below LW.out (below_drew (Below.refl _ _)))).mono ?_; rintro e w4 ⟨rfl, hd⟩; refine ⟨_, rfl, ?_⟩; have hb4 : Below w3.heap.size w3 w4 := (below_drew (Below.refl _ _)).trans hd.below; have BM4 := Aside0.mk ((hb4.block gm (blk_lt BM.out)).trans BM.out); have BD4 := Aside0.mk ((hb4.block gd (blk_lt BD.out)).trans BD.out); have BS4 := Aside0.mk ((hb4.block g (blk_lt BS.out)).trans BS.out); have GR4 := Aside0.mk (gb_trans GR.out (gb_below hb4 (some g))); have a0 := blk_cell BM4.out 0; have a1 := blk_cell BM4.out 1; have a2 := blk_cell BM4.out 2; have a3 := blk_cell BM4.out 3; clear hd hb4) | (refine goes_ Tryd.func94 (by kernel_rfl) rfl #[.agg #[.pointer (some ⟨g, 0, none⟩), .int .i64 0, .int .i64 peer, .int .i64 0], .int .i64 (costOf kd)] (by rfl) rfl rfl (by (try simp only [List.map_toArray, List.map_cons, List.map_nil]); first | done | rfl) ?_; refine (slot_pay g 0 peer 0 (costOf kd) (by decide) p q st te v sp c0 c1 h0 h1 t0 t1 en bl _ (by exact BS4.out)).mono ?_; rintro e w5 ⟨rfl, hs, hgr⟩; refine ⟨_, rfl, ?_⟩; have BS5 := Aside0.mk hs; have GR5 := Aside0.mk (gb_trans GR4.out hgr); have hgr6 := Aside0.mk hgr; clear hs hgr))
            all_goals (
              have BM6 := Aside0.mk ((hgr6.out.block gm (blk_lt BM4.out) (fun e_ => nm (Option.some.inj e_))).trans BM4.out)
              have BD6 := Aside0.mk ((hgr6.out.block gd (blk_lt BD4.out) (fun e_ => nd (Option.some.inj e_))).trans BD4.out)
              clear a0 a1 a2 a3
              have a0 := blk_cell BM6.out 0; have a1 := blk_cell BM6.out 1; have a2 := blk_cell BM6.out 2; have a3 := blk_cell BM6.out 3; have e3 := blk_cell BD6.out 3
              have u0 := blk_cell BS5.out 8; have u1 := blk_frozen BS5.out 8
              go_wp2_with fail
              (try go_wp2)
              first | go_end0 | (refine bodyPost_ret (results_none rfl _ _ _) rfl ?_)
              exact ⟨rfl, (by rw [HE.out]; exact BS5.out), GR5.out⟩)
        · by_cases h3 : kd = 3
          · subst h3
            have HE := Aside0.mk (show exchangeF 0 peer 2 3 ⟨c0, c1, h0, h1, t0, t1, en, bl⟩ = payF 0 8 ⟨c0, c1, h0, h1, t0, t1, en, bl⟩ from by unfold exchangeF; simp [hf])
            go_wp2_with fail
            refine (slot_follows g 0 peer 2 _).mono ?_
            rintro e w3 ⟨rfl, hb⟩
            have hb3 : Below W2.heap.size W2 w3 := hb; replace BM := Aside0.mk ((hb3.block gm (blk_lt BM.out)).trans BM.out); replace BD := Aside0.mk ((hb3.block gd (blk_lt BD.out)).trans BD.out); replace BS := Aside0.mk ((hb3.block g (blk_lt BS.out)).trans BS.out); replace LW := Aside0.mk (laid_below LW.out hb3); replace GR := Aside0.mk (gb_trans GR.out (gb_below hb3 (some g))); clear hb hb3 x0 x1 x2 x3 y0 y1 y2 y3 z0 z1; have x0 := blk_cell BM.out 0; have x1 := blk_cell BM.out 1; have x2 := blk_cell BM.out 2; have x3 := blk_cell BM.out 3; have y0 := blk_cell BD.out 0; have y1 := blk_cell BD.out 1; have y2 := blk_cell BD.out 2; have y3 := blk_cell BD.out 3
            have z0 := blk_cell BS.out 8; have z1 := blk_frozen BS.out 8
            rw [show followsB 2 = true from rfl]
            go_wp2_with fail
            refine (slot_pay g 0 peer 2 8 (by decide) p q st te v sp c0 c1 h0 h1 t0 t1 en bl _ (by exact BS.out)).mono ?_
            rintro e w9 ⟨rfl, hs, hgr⟩
            have y9 := blk_cell ((hgr.block gd (blk_lt BD.out) (fun e_ => nd (Option.some.inj e_))).trans BD.out) 3
            have hs9 := Aside0.mk hs; have hg9 := Aside0.mk hgr
            clear hs hgr y3
            go_wp2
            first | go_end0 | (refine bodyPost_ret (results_none rfl _ _ _) rfl ?_)
            exact ⟨rfl, (by rw [HE.out]; exact hs9.out), gb_trans GR.out hg9.out⟩
          · have b3 : (kd == 3) = false := by simpa using h3
            by_cases h4 : kd = 4
            · subst h4
              have HE := Aside0.mk (show exchangeF 0 peer 2 4 ⟨c0, c1, h0, h1, t0, t1, en, bl⟩ = holdF 0 true (payF 0 (costOf 4) ⟨c0, c1, h0, h1, t0, t1, en, bl⟩) from by unfold exchangeF; simp [hf])
              go_wp2_with fail
              refine (slot_follows g 0 peer 2 _).mono ?_
              rintro e w3 ⟨rfl, hb⟩
              have hb3 : Below W2.heap.size W2 w3 := hb; replace BM := Aside0.mk ((hb3.block gm (blk_lt BM.out)).trans BM.out); replace BD := Aside0.mk ((hb3.block gd (blk_lt BD.out)).trans BD.out); replace BS := Aside0.mk ((hb3.block g (blk_lt BS.out)).trans BS.out); replace LW := Aside0.mk (laid_below LW.out hb3); replace GR := Aside0.mk (gb_trans GR.out (gb_below hb3 (some g))); clear hb hb3 x0 x1 x2 x3 y0 y1 y2 y3 z0 z1; have x0 := blk_cell BM.out 0; have x1 := blk_cell BM.out 1; have x2 := blk_cell BM.out 2; have x3 := blk_cell BM.out 3; have y0 := blk_cell BD.out 0; have y1 := blk_cell BD.out 1; have y2 := blk_cell BD.out 2; have y3 := blk_cell BD.out 3
              have z0 := blk_cell BS.out 8; have z1 := blk_frozen BS.out 8
              rw [show followsB 2 = true from rfl]
              go_wp2_with fail
              go_region_law (first | (refine goes_ Tryd.func27 (by kernel_rfl) rfl #[.int .i64 4] (by rfl) rfl rfl (by (try simp only [List.map_toArray, List.map_cons, List.map_nil]); first | done | rfl) ?_; refine (duty_Cost.calls 4 (costOf 4) _ rfl (laid_below LW.out (below_drew (Below.refl _ _)))).mono ?_; rintro e w4 ⟨rfl, hd⟩; refine ⟨_, rfl, ?_⟩; have hb4 : Below w3.heap.size w3 w4 := (below_drew (Below.refl _ _)).trans hd.below; have BM4 := Aside0.mk ((hb4.block gm (blk_lt BM.out)).trans BM.out); have BD4 := Aside0.mk ((hb4.block gd (blk_lt BD.out)).trans BD.out); have BS4 := Aside0.mk ((hb4.block g (blk_lt BS.out)).trans BS.out); have GR4 := Aside0.mk (gb_trans GR.out (gb_below hb4 (some g))); have a0 := blk_cell BM4.out 0; have a1 := blk_cell BM4.out 1; have a2 := blk_cell BM4.out 2; have a3 := blk_cell BM4.out 3; clear hd hb4) | (refine goes_ Tryd.func94 (by kernel_rfl) rfl #[.agg #[.pointer (some ⟨g, 0, none⟩), .int .i64 0, .int .i64 peer, .int .i64 2], .int .i64 (costOf 4)] (by rfl) rfl rfl (by (try simp only [List.map_toArray, List.map_cons, List.map_nil]); first | done | rfl) ?_; refine (slot_pay g 0 peer 2 (costOf 4) (by decide) p q st te v sp c0 c1 h0 h1 t0 t1 en bl _ (by exact BS4.out)).mono ?_; rintro e w5 ⟨rfl, hs, hgr⟩; refine ⟨_, rfl, ?_⟩; have BS5 := Aside0.mk hs; have GR5 := Aside0.mk (gb_trans GR4.out hgr); have hgr6 := Aside0.mk hgr; clear hs hgr))
              all_goals (
                have BM6 := Aside0.mk ((hgr6.out.block gm (blk_lt BM4.out) (fun e_ => nm (Option.some.inj e_))).trans BM4.out)
                have BD6 := Aside0.mk ((hgr6.out.block gd (blk_lt BD4.out) (fun e_ => nd (Option.some.inj e_))).trans BD4.out)
                clear a0 a1 a2 a3
                have a0 := blk_cell BM6.out 0; have a1 := blk_cell BM6.out 1; have a2 := blk_cell BM6.out 2; have a3 := blk_cell BM6.out 3; have e3 := blk_cell BD6.out 3
                have u0 := blk_cell BS5.out 8; have u1 := blk_frozen BS5.out 8
                go_wp2_with fail
                go_region_law (fail)
                all_goals (
                  go_wp2
                  first | go_end0 | (refine bodyPost_ret (results_none rfl _ _ _) rfl ?_)
                  exact ⟨rfl, (by rw [HE.out]; exact blk_set BS5.out 8 _), (by first | exact gb_drew (gb_set GR5.out 8 _) | exact gb_set (gb_drew GR5.out) 8 _)⟩))
            · have b4 : (kd == 4) = false := by simpa using h4
              have HE := Aside0.mk (show exchangeF 0 peer 2 kd ⟨c0, c1, h0, h1, t0, t1, en, bl⟩ = payF 0 (costOf kd) ⟨c0, c1, h0, h1, t0, t1, en, bl⟩ from by unfold exchangeF; simp [hf, h3, h4])
              go_wp2_with fail
              refine (slot_follows g 0 peer 2 _).mono ?_
              rintro e w3 ⟨rfl, hb⟩
              have hb3 : Below W2.heap.size W2 w3 := hb; replace BM := Aside0.mk ((hb3.block gm (blk_lt BM.out)).trans BM.out); replace BD := Aside0.mk ((hb3.block gd (blk_lt BD.out)).trans BD.out); replace BS := Aside0.mk ((hb3.block g (blk_lt BS.out)).trans BS.out); replace LW := Aside0.mk (laid_below LW.out hb3); replace GR := Aside0.mk (gb_trans GR.out (gb_below hb3 (some g))); clear hb hb3 x0 x1 x2 x3 y0 y1 y2 y3 z0 z1; have x0 := blk_cell BM.out 0; have x1 := blk_cell BM.out 1; have x2 := blk_cell BM.out 2; have x3 := blk_cell BM.out 3; have y0 := blk_cell BD.out 0; have y1 := blk_cell BD.out 1; have y2 := blk_cell BD.out 2; have y3 := blk_cell BD.out 3
              have z0 := blk_cell BS.out 8; have z1 := blk_frozen BS.out 8
              rw [show followsB 2 = true from rfl]
              go_wp2_with fail
              go_region_law (first | (refine goes_ Tryd.func27 (by kernel_rfl) rfl #[.int .i64 kd] (by rfl) rfl rfl (by (try simp only [List.map_toArray, List.map_cons, List.map_nil]); first | done | rfl) ?_; refine (duty_Cost.calls kd (costOf kd) _ rfl (laid_below LW.out (below_drew (Below.refl _ _)))).mono ?_; rintro e w4 ⟨rfl, hd⟩; refine ⟨_, rfl, ?_⟩; have hb4 : Below w3.heap.size w3 w4 := (below_drew (Below.refl _ _)).trans hd.below; have BM4 := Aside0.mk ((hb4.block gm (blk_lt BM.out)).trans BM.out); have BD4 := Aside0.mk ((hb4.block gd (blk_lt BD.out)).trans BD.out); have BS4 := Aside0.mk ((hb4.block g (blk_lt BS.out)).trans BS.out); have GR4 := Aside0.mk (gb_trans GR.out (gb_below hb4 (some g))); have a0 := blk_cell BM4.out 0; have a1 := blk_cell BM4.out 1; have a2 := blk_cell BM4.out 2; have a3 := blk_cell BM4.out 3; clear hd hb4) | (refine goes_ Tryd.func94 (by kernel_rfl) rfl #[.agg #[.pointer (some ⟨g, 0, none⟩), .int .i64 0, .int .i64 peer, .int .i64 2], .int .i64 (costOf kd)] (by rfl) rfl rfl (by (try simp only [List.map_toArray, List.map_cons, List.map_nil]); first | done | rfl) ?_; refine (slot_pay g 0 peer 2 (costOf kd) (by decide) p q st te v sp c0 c1 h0 h1 t0 t1 en bl _ (by exact BS4.out)).mono ?_; rintro e w5 ⟨rfl, hs, hgr⟩; refine ⟨_, rfl, ?_⟩; have BS5 := Aside0.mk hs; have GR5 := Aside0.mk (gb_trans GR4.out hgr); have hgr6 := Aside0.mk hgr; clear hs hgr))
              all_goals (
                have BM6 := Aside0.mk ((hgr6.out.block gm (blk_lt BM4.out) (fun e_ => nm (Option.some.inj e_))).trans BM4.out)
                have BD6 := Aside0.mk ((hgr6.out.block gd (blk_lt BD4.out) (fun e_ => nd (Option.some.inj e_))).trans BD4.out)
                clear a0 a1 a2 a3
                have a0 := blk_cell BM6.out 0; have a1 := blk_cell BM6.out 1; have a2 := blk_cell BM6.out 2; have a3 := blk_cell BM6.out 3; have e3 := blk_cell BD6.out 3
                have u0 := blk_cell BS5.out 8; have u1 := blk_frozen BS5.out 8
                go_wp2_with fail
                (try go_wp2)
                first | go_end0 | (refine bodyPost_ret (results_none rfl _ _ _) rfl ?_)
                exact ⟨rfl, (by rw [HE.out]; exact BS5.out), GR5.out⟩)
    
  · obtain ⟨c0, c1, h0, h1, t0, t1, en, bl⟩ := s
    go_enter Tryd.func89, Tryd.ntmps89
    go_upto_region 1 with (fail)
    have q1 : ((w.alloc (.cells #[.pointer (some ⟨g, 0, none⟩), .int .i64 1, .int .i64 peer, .int .i64 how] 115)).alloc (.cells #[.int .i64 tk, .int .i64 sl, .int .i64 pe, .int .i64 kd] 36)).heap[w.heap.size]? = some (.cells #[.pointer (some ⟨g, 0, none⟩), .int .i64 1, .int .i64 peer, .int .i64 how] 115) := blk_alloc (blk_new w _) _
    have q2 : ((w.alloc (.cells #[.pointer (some ⟨g, 0, none⟩), .int .i64 1, .int .i64 peer, .int .i64 how] 115)).alloc (.cells #[.int .i64 tk, .int .i64 sl, .int .i64 pe, .int .i64 kd] 36)).heap[w.heap.size + 1]? = some (.cells #[.int .i64 tk, .int .i64 sl, .int .i64 pe, .int .i64 kd] 36) := by have := blk_new (w.alloc (.cells #[.pointer (some ⟨g, 0, none⟩), .int .i64 1, .int .i64 peer, .int .i64 how] 115)) (.cells #[.int .i64 tk, .int .i64 sl, .int .i64 pe, .int .i64 kd] 36); simpa using this
    have q3 := blk_alloc (blk_alloc HG0.out (.cells #[.pointer (some ⟨g, 0, none⟩), .int .i64 1, .int .i64 peer, .int .i64 how] 115)) (.cells #[.int .i64 tk, .int .i64 sl, .int .i64 pe, .int .i64 kd] 36)
    have q4 := laid_below HL.out (below_alloc (below_alloc (Below.refl _ _) (.cells #[.pointer (some ⟨g, 0, none⟩), .int .i64 1, .int .i64 peer, .int .i64 how] 115)) (.cells #[.int .i64 tk, .int .i64 sl, .int .i64 pe, .int .i64 kd] 36))
    have q5 : w.grownBy ((w.alloc (.cells #[.pointer (some ⟨g, 0, none⟩), .int .i64 1, .int .i64 peer, .int .i64 how] 115)).alloc (.cells #[.int .i64 tk, .int .i64 sl, .int .i64 pe, .int .i64 kd] 36)) (some g) := gb_alloc (gb_alloc (gb_refl w _) _) _
    obtain ⟨gm, hgm⟩ : ∃ gm, gm = w.heap.size := ⟨_, rfl⟩
    obtain ⟨gd, hgd⟩ : ∃ gd, gd = w.heap.size + 1 := ⟨_, rfl⟩
    generalize (w.alloc (.cells #[.pointer (some ⟨g, 0, none⟩), .int .i64 1, .int .i64 peer, .int .i64 how] 115)).alloc (.cells #[.int .i64 tk, .int .i64 sl, .int .i64 pe, .int .i64 kd] 36) = W2 at *
    rw [← hgd] at q2 ⊢
    rw [← hgm] at q1 ⊢
    have nm : gm ≠ g := by omega
    have nd : gd ≠ g := by omega
    have BM := Aside0.mk q1; have BD := Aside0.mk q2; have BS := Aside0.mk q3; have LW := Aside0.mk q4; have GR := Aside0.mk q5
    have x0 := blk_cell q1 0; have x1 := blk_cell q1 1; have x2 := blk_cell q1 2; have x3 := blk_cell q1 3
    have y0 := blk_cell q2 0; have y1 := blk_cell q2 1; have y2 := blk_cell q2 2; have y3 := blk_cell q2 3
    clear q1 q2 q3 q4 q5 hgm hgd
    have z0 := blk_cell BS.out 9; have z1 := blk_frozen BS.out 9
    by_cases hA : how = 3 ∧ kd ≠ 1
    · obtain ⟨rfl, hk1⟩ := hA
      have b1 : (kd != 1) = true := by simpa using hk1
      have HE := Aside0.mk (show exchangeF 1 peer 3 kd ⟨c0, c1, h0, h1, t0, t1, en, bl⟩ = endF peer (twistF 1 (payF 1 (costOf kd) ⟨c0, c1, h0, h1, t0, t1, en, bl⟩)) from by unfold exchangeF; simp [hk1])
      go_wp2_with fail
      go_region_law (first | (refine goes_ Tryd.func27 (by kernel_rfl) rfl #[.int .i64 kd] (by rfl) rfl rfl (by (try simp only [List.map_toArray, List.map_cons, List.map_nil]); first | done | rfl) ?_; refine (duty_Cost.calls kd (costOf kd) _ rfl (laid_below LW.out (below_drew (Below.refl _ _)))).mono ?_; rintro e w4 ⟨rfl, hd⟩; refine ⟨_, rfl, ?_⟩; have hb4 : Below W2.heap.size W2 w4 := (below_drew (Below.refl _ _)).trans hd.below; have BM4 := Aside0.mk ((hb4.block gm (blk_lt BM.out)).trans BM.out); have BD4 := Aside0.mk ((hb4.block gd (blk_lt BD.out)).trans BD.out); have BS4 := Aside0.mk ((hb4.block g (blk_lt BS.out)).trans BS.out); have GR4 := Aside0.mk (gb_trans GR.out (gb_below hb4 (some g))); have a0 := blk_cell BM4.out 0; have a1 := blk_cell BM4.out 1; have a2 := blk_cell BM4.out 2; have a3 := blk_cell BM4.out 3; clear hd hb4) | (refine goes_ Tryd.func94 (by kernel_rfl) rfl #[.agg #[.pointer (some ⟨g, 0, none⟩), .int .i64 1, .int .i64 peer, .int .i64 3], .int .i64 (costOf kd)] (by rfl) rfl rfl (by (try simp only [List.map_toArray, List.map_cons, List.map_nil]); first | done | rfl) ?_; refine (slot_pay g 1 peer 3 (costOf kd) (by decide) p q st te v sp c0 c1 h0 h1 t0 t1 en bl _ (by exact BS4.out)).mono ?_; rintro e w5 ⟨rfl, hs, hgr⟩; refine ⟨_, rfl, ?_⟩; have BS5 := Aside0.mk hs; have GR5 := Aside0.mk (gb_trans GR4.out hgr); have hgr6 := Aside0.mk hgr; clear hs hgr))
      all_goals (
        have BM6 := Aside0.mk ((hgr6.out.block gm (blk_lt BM4.out) (fun e_ => nm (Option.some.inj e_))).trans BM4.out)
        have BD6 := Aside0.mk ((hgr6.out.block gd (blk_lt BD4.out) (fun e_ => nd (Option.some.inj e_))).trans BD4.out)
        clear a0 a1 a2 a3
        have a0 := blk_cell BM6.out 0; have a1 := blk_cell BM6.out 1; have a2 := blk_cell BM6.out 2; have a3 := blk_cell BM6.out 3; have e3 := blk_cell BD6.out 3
        have u0 := blk_cell BS5.out 11; have u1 := blk_frozen BS5.out 11
        go_wp2_with fail
        go_region_law (fail)
        all_goals (
          go_wp2_with fail
          have BS7 := Aside0.mk (blk_set BS5.out 11 (.bool true))
          refine (slot_end g 1 peer 3 p q st te v sp (if (1 : Int) = 0 then wrap64 (c0 + costOf kd) else c0) (if (1 : Int) = 0 then c1 else wrap64 (c1 + costOf kd)) h0 h1 t0 true en bl _ (by exact BS7.out)).mono ?_
          rintro e w9 ⟨rfl, hs, hgr⟩
          go_wp2
          first | go_end0 | (refine bodyPost_ret (results_none rfl _ _ _) rfl ?_)
          exact ⟨rfl, (by rw [HE.out]; exact hs), (by first | exact gb_trans (gb_drew (gb_set GR5.out 11 _)) hgr | exact gb_trans (gb_set (gb_drew GR5.out) 11 _) hgr)⟩))
    
    · obtain hf | hf : followsB how = false ∨ followsB how = true := by cases followsB how <;> simp
      · by_cases h3 : how = 3
        · have hk1 : kd = 1 := by
            rcases Classical.em (kd = 1) with h | h
            · exact h
            · exact absurd ⟨h3, h⟩ hA
          subst h3 hk1
          have HE := Aside0.mk (show exchangeF 1 peer 3 1 ⟨c0, c1, h0, h1, t0, t1, en, bl⟩ = endF peer ⟨c0, c1, h0, h1, t0, t1, en, bl⟩ from by unfold exchangeF; simp [hf])
          go_wp2_with fail
          refine (slot_follows g 1 peer 3 _).mono ?_
          rintro e w3 ⟨rfl, hb⟩
          have hb3 : Below W2.heap.size W2 w3 := hb; replace BM := Aside0.mk ((hb3.block gm (blk_lt BM.out)).trans BM.out); replace BD := Aside0.mk ((hb3.block gd (blk_lt BD.out)).trans BD.out); replace BS := Aside0.mk ((hb3.block g (blk_lt BS.out)).trans BS.out); replace LW := Aside0.mk (laid_below LW.out hb3); replace GR := Aside0.mk (gb_trans GR.out (gb_below hb3 (some g))); clear hb hb3 x0 x1 x2 x3 y0 y1 y2 y3 z0 z1; have x0 := blk_cell BM.out 0; have x1 := blk_cell BM.out 1; have x2 := blk_cell BM.out 2; have x3 := blk_cell BM.out 3; have y0 := blk_cell BD.out 0; have y1 := blk_cell BD.out 1; have y2 := blk_cell BD.out 2; have y3 := blk_cell BD.out 3
          have z0 := blk_cell BS.out 9; have z1 := blk_frozen BS.out 9
          rw [hf]
          go_wp2_with fail
          refine (slot_end g 1 peer 3 p q st te v sp c0 c1 h0 h1 t0 t1 en bl _ (by exact BS.out)).mono ?_
          rintro e w9 ⟨rfl, hs, hgr⟩
          go_wp2
          first | go_end0 | (refine bodyPost_ret (results_none rfl _ _ _) rfl ?_)
          exact ⟨rfl, (by rw [HE.out]; exact hs), gb_trans GR.out hgr⟩
        · have b3 : (how == 3) = false := by simpa using h3
          have HE := Aside0.mk (show exchangeF 1 peer how kd ⟨c0, c1, h0, h1, t0, t1, en, bl⟩ = endF peer ⟨c0, c1, h0, h1, t0, t1, en, bl⟩ from by unfold exchangeF; simp [hf, h3])
          go_wp2_with fail
          refine (slot_follows g 1 peer how _).mono ?_
          rintro e w3 ⟨rfl, hb⟩
          have hb3 : Below W2.heap.size W2 w3 := hb; replace BM := Aside0.mk ((hb3.block gm (blk_lt BM.out)).trans BM.out); replace BD := Aside0.mk ((hb3.block gd (blk_lt BD.out)).trans BD.out); replace BS := Aside0.mk ((hb3.block g (blk_lt BS.out)).trans BS.out); replace LW := Aside0.mk (laid_below LW.out hb3); replace GR := Aside0.mk (gb_trans GR.out (gb_below hb3 (some g))); clear hb hb3 x0 x1 x2 x3 y0 y1 y2 y3 z0 z1; have x0 := blk_cell BM.out 0; have x1 := blk_cell BM.out 1; have x2 := blk_cell BM.out 2; have x3 := blk_cell BM.out 3; have y0 := blk_cell BD.out 0; have y1 := blk_cell BD.out 1; have y2 := blk_cell BD.out 2; have y3 := blk_cell BD.out 3
          have z0 := blk_cell BS.out 9; have z1 := blk_frozen BS.out 9
          rw [hf]
          go_wp2_with fail
          refine (slot_end g 1 peer how p q st te v sp c0 c1 h0 h1 t0 t1 en bl _ (by exact BS.out)).mono ?_
          rintro e w9 ⟨rfl, hs, hgr⟩
          go_wp2
          first | go_end0 | (refine bodyPost_ret (results_none rfl _ _ _) rfl ?_)
          exact ⟨rfl, (by rw [HE.out]; exact hs), gb_trans GR.out hgr⟩
      · have hh : how = 0 ∨ how = 2 := by unfold followsB at hf; simpa using hf
        rcases hh with rfl | rfl
        · by_cases h4 : kd = 4
          · subst h4
            have HE := Aside0.mk (show exchangeF 1 peer 0 4 ⟨c0, c1, h0, h1, t0, t1, en, bl⟩ = holdF 1 true (payF 1 (costOf 4) ⟨c0, c1, h0, h1, t0, t1, en, bl⟩) from by unfold exchangeF; simp [hf])
            go_wp2_with fail
            refine (slot_follows g 1 peer 0 _).mono ?_
            rintro e w3 ⟨rfl, hb⟩
            have hb3 : Below W2.heap.size W2 w3 := hb; replace BM := Aside0.mk ((hb3.block gm (blk_lt BM.out)).trans BM.out); replace BD := Aside0.mk ((hb3.block gd (blk_lt BD.out)).trans BD.out); replace BS := Aside0.mk ((hb3.block g (blk_lt BS.out)).trans BS.out); replace LW := Aside0.mk (laid_below LW.out hb3); replace GR := Aside0.mk (gb_trans GR.out (gb_below hb3 (some g))); clear hb hb3 x0 x1 x2 x3 y0 y1 y2 y3 z0 z1; have x0 := blk_cell BM.out 0; have x1 := blk_cell BM.out 1; have x2 := blk_cell BM.out 2; have x3 := blk_cell BM.out 3; have y0 := blk_cell BD.out 0; have y1 := blk_cell BD.out 1; have y2 := blk_cell BD.out 2; have y3 := blk_cell BD.out 3
            have z0 := blk_cell BS.out 9; have z1 := blk_frozen BS.out 9
            rw [show followsB 0 = true from rfl]
            go_wp2_with fail
            go_region_law (first | (refine goes_ Tryd.func27 (by kernel_rfl) rfl #[.int .i64 4] (by rfl) rfl rfl (by (try simp only [List.map_toArray, List.map_cons, List.map_nil]); first | done | rfl) ?_; refine (duty_Cost.calls 4 (costOf 4) _ rfl (laid_below LW.out (below_drew (Below.refl _ _)))).mono ?_; rintro e w4 ⟨rfl, hd⟩; refine ⟨_, rfl, ?_⟩; have hb4 : Below w3.heap.size w3 w4 := (below_drew (Below.refl _ _)).trans hd.below; have BM4 := Aside0.mk ((hb4.block gm (blk_lt BM.out)).trans BM.out); have BD4 := Aside0.mk ((hb4.block gd (blk_lt BD.out)).trans BD.out); have BS4 := Aside0.mk ((hb4.block g (blk_lt BS.out)).trans BS.out); have GR4 := Aside0.mk (gb_trans GR.out (gb_below hb4 (some g))); have a0 := blk_cell BM4.out 0; have a1 := blk_cell BM4.out 1; have a2 := blk_cell BM4.out 2; have a3 := blk_cell BM4.out 3; clear hd hb4) | (refine goes_ Tryd.func94 (by kernel_rfl) rfl #[.agg #[.pointer (some ⟨g, 0, none⟩), .int .i64 1, .int .i64 peer, .int .i64 0], .int .i64 (costOf 4)] (by rfl) rfl rfl (by (try simp only [List.map_toArray, List.map_cons, List.map_nil]); first | done | rfl) ?_; refine (slot_pay g 1 peer 0 (costOf 4) (by decide) p q st te v sp c0 c1 h0 h1 t0 t1 en bl _ (by exact BS4.out)).mono ?_; rintro e w5 ⟨rfl, hs, hgr⟩; refine ⟨_, rfl, ?_⟩; have BS5 := Aside0.mk hs; have GR5 := Aside0.mk (gb_trans GR4.out hgr); have hgr6 := Aside0.mk hgr; clear hs hgr))
            all_goals (
              have BM6 := Aside0.mk ((hgr6.out.block gm (blk_lt BM4.out) (fun e_ => nm (Option.some.inj e_))).trans BM4.out)
              have BD6 := Aside0.mk ((hgr6.out.block gd (blk_lt BD4.out) (fun e_ => nd (Option.some.inj e_))).trans BD4.out)
              clear a0 a1 a2 a3
              have a0 := blk_cell BM6.out 0; have a1 := blk_cell BM6.out 1; have a2 := blk_cell BM6.out 2; have a3 := blk_cell BM6.out 3; have e3 := blk_cell BD6.out 3
              have u0 := blk_cell BS5.out 9; have u1 := blk_frozen BS5.out 9
              go_wp2_with fail
              go_region_law (fail)
              all_goals (
                go_wp2
                first | go_end0 | (refine bodyPost_ret (results_none rfl _ _ _) rfl ?_)
                exact ⟨rfl, (by rw [HE.out]; exact blk_set BS5.out 9 _), (by first | exact gb_drew (gb_set GR5.out 9 _) | exact gb_set (gb_drew GR5.out) 9 _)⟩))
          · have b4 : (kd == 4) = false := by simpa using h4
            have HE := Aside0.mk (show exchangeF 1 peer 0 kd ⟨c0, c1, h0, h1, t0, t1, en, bl⟩ = payF 1 (costOf kd) ⟨c0, c1, h0, h1, t0, t1, en, bl⟩ from by unfold exchangeF; simp [hf, h4])
            go_wp2_with fail
            refine (slot_follows g 1 peer 0 _).mono ?_
            rintro e w3 ⟨rfl, hb⟩
            have hb3 : Below W2.heap.size W2 w3 := hb; replace BM := Aside0.mk ((hb3.block gm (blk_lt BM.out)).trans BM.out); replace BD := Aside0.mk ((hb3.block gd (blk_lt BD.out)).trans BD.out); replace BS := Aside0.mk ((hb3.block g (blk_lt BS.out)).trans BS.out); replace LW := Aside0.mk (laid_below LW.out hb3); replace GR := Aside0.mk (gb_trans GR.out (gb_below hb3 (some g))); clear hb hb3 x0 x1 x2 x3 y0 y1 y2 y3 z0 z1; have x0 := blk_cell BM.out 0; have x1 := blk_cell BM.out 1; have x2 := blk_cell BM.out 2; have x3 := blk_cell BM.out 3; have y0 := blk_cell BD.out 0; have y1 := blk_cell BD.out 1; have y2 := blk_cell BD.out 2; have y3 := blk_cell BD.out 3
            have z0 := blk_cell BS.out 9; have z1 := blk_frozen BS.out 9
            rw [show followsB 0 = true from rfl]
            go_wp2_with fail
            go_region_law (first | (refine goes_ Tryd.func27 (by kernel_rfl) rfl #[.int .i64 kd] (by rfl) rfl rfl (by (try simp only [List.map_toArray, List.map_cons, List.map_nil]); first | done | rfl) ?_; refine (duty_Cost.calls kd (costOf kd) _ rfl (laid_below LW.out (below_drew (Below.refl _ _)))).mono ?_; rintro e w4 ⟨rfl, hd⟩; refine ⟨_, rfl, ?_⟩; have hb4 : Below w3.heap.size w3 w4 := (below_drew (Below.refl _ _)).trans hd.below; have BM4 := Aside0.mk ((hb4.block gm (blk_lt BM.out)).trans BM.out); have BD4 := Aside0.mk ((hb4.block gd (blk_lt BD.out)).trans BD.out); have BS4 := Aside0.mk ((hb4.block g (blk_lt BS.out)).trans BS.out); have GR4 := Aside0.mk (gb_trans GR.out (gb_below hb4 (some g))); have a0 := blk_cell BM4.out 0; have a1 := blk_cell BM4.out 1; have a2 := blk_cell BM4.out 2; have a3 := blk_cell BM4.out 3; clear hd hb4) | (refine goes_ Tryd.func94 (by kernel_rfl) rfl #[.agg #[.pointer (some ⟨g, 0, none⟩), .int .i64 1, .int .i64 peer, .int .i64 0], .int .i64 (costOf kd)] (by rfl) rfl rfl (by (try simp only [List.map_toArray, List.map_cons, List.map_nil]); first | done | rfl) ?_; refine (slot_pay g 1 peer 0 (costOf kd) (by decide) p q st te v sp c0 c1 h0 h1 t0 t1 en bl _ (by exact BS4.out)).mono ?_; rintro e w5 ⟨rfl, hs, hgr⟩; refine ⟨_, rfl, ?_⟩; have BS5 := Aside0.mk hs; have GR5 := Aside0.mk (gb_trans GR4.out hgr); have hgr6 := Aside0.mk hgr; clear hs hgr))
            all_goals (
              have BM6 := Aside0.mk ((hgr6.out.block gm (blk_lt BM4.out) (fun e_ => nm (Option.some.inj e_))).trans BM4.out)
              have BD6 := Aside0.mk ((hgr6.out.block gd (blk_lt BD4.out) (fun e_ => nd (Option.some.inj e_))).trans BD4.out)
              clear a0 a1 a2 a3
              have a0 := blk_cell BM6.out 0; have a1 := blk_cell BM6.out 1; have a2 := blk_cell BM6.out 2; have a3 := blk_cell BM6.out 3; have e3 := blk_cell BD6.out 3
              have u0 := blk_cell BS5.out 9; have u1 := blk_frozen BS5.out 9
              go_wp2_with fail
              (try go_wp2)
              first | go_end0 | (refine bodyPost_ret (results_none rfl _ _ _) rfl ?_)
              exact ⟨rfl, (by rw [HE.out]; exact BS5.out), GR5.out⟩)
        · by_cases h3 : kd = 3
          · subst h3
            have HE := Aside0.mk (show exchangeF 1 peer 2 3 ⟨c0, c1, h0, h1, t0, t1, en, bl⟩ = payF 1 8 ⟨c0, c1, h0, h1, t0, t1, en, bl⟩ from by unfold exchangeF; simp [hf])
            go_wp2_with fail
            refine (slot_follows g 1 peer 2 _).mono ?_
            rintro e w3 ⟨rfl, hb⟩
            have hb3 : Below W2.heap.size W2 w3 := hb; replace BM := Aside0.mk ((hb3.block gm (blk_lt BM.out)).trans BM.out); replace BD := Aside0.mk ((hb3.block gd (blk_lt BD.out)).trans BD.out); replace BS := Aside0.mk ((hb3.block g (blk_lt BS.out)).trans BS.out); replace LW := Aside0.mk (laid_below LW.out hb3); replace GR := Aside0.mk (gb_trans GR.out (gb_below hb3 (some g))); clear hb hb3 x0 x1 x2 x3 y0 y1 y2 y3 z0 z1; have x0 := blk_cell BM.out 0; have x1 := blk_cell BM.out 1; have x2 := blk_cell BM.out 2; have x3 := blk_cell BM.out 3; have y0 := blk_cell BD.out 0; have y1 := blk_cell BD.out 1; have y2 := blk_cell BD.out 2; have y3 := blk_cell BD.out 3
            have z0 := blk_cell BS.out 9; have z1 := blk_frozen BS.out 9
            rw [show followsB 2 = true from rfl]
            go_wp2_with fail
            refine (slot_pay g 1 peer 2 8 (by decide) p q st te v sp c0 c1 h0 h1 t0 t1 en bl _ (by exact BS.out)).mono ?_
            rintro e w9 ⟨rfl, hs, hgr⟩
            have y9 := blk_cell ((hgr.block gd (blk_lt BD.out) (fun e_ => nd (Option.some.inj e_))).trans BD.out) 3
            have hs9 := Aside0.mk hs; have hg9 := Aside0.mk hgr
            clear hs hgr y3
            go_wp2
            first | go_end0 | (refine bodyPost_ret (results_none rfl _ _ _) rfl ?_)
            exact ⟨rfl, (by rw [HE.out]; exact hs9.out), gb_trans GR.out hg9.out⟩
          · have b3 : (kd == 3) = false := by simpa using h3
            by_cases h4 : kd = 4
            · subst h4
              have HE := Aside0.mk (show exchangeF 1 peer 2 4 ⟨c0, c1, h0, h1, t0, t1, en, bl⟩ = holdF 1 true (payF 1 (costOf 4) ⟨c0, c1, h0, h1, t0, t1, en, bl⟩) from by unfold exchangeF; simp [hf])
              go_wp2_with fail
              refine (slot_follows g 1 peer 2 _).mono ?_
              rintro e w3 ⟨rfl, hb⟩
              have hb3 : Below W2.heap.size W2 w3 := hb; replace BM := Aside0.mk ((hb3.block gm (blk_lt BM.out)).trans BM.out); replace BD := Aside0.mk ((hb3.block gd (blk_lt BD.out)).trans BD.out); replace BS := Aside0.mk ((hb3.block g (blk_lt BS.out)).trans BS.out); replace LW := Aside0.mk (laid_below LW.out hb3); replace GR := Aside0.mk (gb_trans GR.out (gb_below hb3 (some g))); clear hb hb3 x0 x1 x2 x3 y0 y1 y2 y3 z0 z1; have x0 := blk_cell BM.out 0; have x1 := blk_cell BM.out 1; have x2 := blk_cell BM.out 2; have x3 := blk_cell BM.out 3; have y0 := blk_cell BD.out 0; have y1 := blk_cell BD.out 1; have y2 := blk_cell BD.out 2; have y3 := blk_cell BD.out 3
              have z0 := blk_cell BS.out 9; have z1 := blk_frozen BS.out 9
              rw [show followsB 2 = true from rfl]
              go_wp2_with fail
              go_region_law (first | (refine goes_ Tryd.func27 (by kernel_rfl) rfl #[.int .i64 4] (by rfl) rfl rfl (by (try simp only [List.map_toArray, List.map_cons, List.map_nil]); first | done | rfl) ?_; refine (duty_Cost.calls 4 (costOf 4) _ rfl (laid_below LW.out (below_drew (Below.refl _ _)))).mono ?_; rintro e w4 ⟨rfl, hd⟩; refine ⟨_, rfl, ?_⟩; have hb4 : Below w3.heap.size w3 w4 := (below_drew (Below.refl _ _)).trans hd.below; have BM4 := Aside0.mk ((hb4.block gm (blk_lt BM.out)).trans BM.out); have BD4 := Aside0.mk ((hb4.block gd (blk_lt BD.out)).trans BD.out); have BS4 := Aside0.mk ((hb4.block g (blk_lt BS.out)).trans BS.out); have GR4 := Aside0.mk (gb_trans GR.out (gb_below hb4 (some g))); have a0 := blk_cell BM4.out 0; have a1 := blk_cell BM4.out 1; have a2 := blk_cell BM4.out 2; have a3 := blk_cell BM4.out 3; clear hd hb4) | (refine goes_ Tryd.func94 (by kernel_rfl) rfl #[.agg #[.pointer (some ⟨g, 0, none⟩), .int .i64 1, .int .i64 peer, .int .i64 2], .int .i64 (costOf 4)] (by rfl) rfl rfl (by (try simp only [List.map_toArray, List.map_cons, List.map_nil]); first | done | rfl) ?_; refine (slot_pay g 1 peer 2 (costOf 4) (by decide) p q st te v sp c0 c1 h0 h1 t0 t1 en bl _ (by exact BS4.out)).mono ?_; rintro e w5 ⟨rfl, hs, hgr⟩; refine ⟨_, rfl, ?_⟩; have BS5 := Aside0.mk hs; have GR5 := Aside0.mk (gb_trans GR4.out hgr); have hgr6 := Aside0.mk hgr; clear hs hgr))
              all_goals (
                have BM6 := Aside0.mk ((hgr6.out.block gm (blk_lt BM4.out) (fun e_ => nm (Option.some.inj e_))).trans BM4.out)
                have BD6 := Aside0.mk ((hgr6.out.block gd (blk_lt BD4.out) (fun e_ => nd (Option.some.inj e_))).trans BD4.out)
                clear a0 a1 a2 a3
                have a0 := blk_cell BM6.out 0; have a1 := blk_cell BM6.out 1; have a2 := blk_cell BM6.out 2; have a3 := blk_cell BM6.out 3; have e3 := blk_cell BD6.out 3
                have u0 := blk_cell BS5.out 9; have u1 := blk_frozen BS5.out 9
                go_wp2_with fail
                go_region_law (fail)
                all_goals (
                  go_wp2
                  first | go_end0 | (refine bodyPost_ret (results_none rfl _ _ _) rfl ?_)
                  exact ⟨rfl, (by rw [HE.out]; exact blk_set BS5.out 9 _), (by first | exact gb_drew (gb_set GR5.out 9 _) | exact gb_set (gb_drew GR5.out) 9 _)⟩))
            · have b4 : (kd == 4) = false := by simpa using h4
              have HE := Aside0.mk (show exchangeF 1 peer 2 kd ⟨c0, c1, h0, h1, t0, t1, en, bl⟩ = payF 1 (costOf kd) ⟨c0, c1, h0, h1, t0, t1, en, bl⟩ from by unfold exchangeF; simp [hf, h3, h4])
              go_wp2_with fail
              refine (slot_follows g 1 peer 2 _).mono ?_
              rintro e w3 ⟨rfl, hb⟩
              have hb3 : Below W2.heap.size W2 w3 := hb; replace BM := Aside0.mk ((hb3.block gm (blk_lt BM.out)).trans BM.out); replace BD := Aside0.mk ((hb3.block gd (blk_lt BD.out)).trans BD.out); replace BS := Aside0.mk ((hb3.block g (blk_lt BS.out)).trans BS.out); replace LW := Aside0.mk (laid_below LW.out hb3); replace GR := Aside0.mk (gb_trans GR.out (gb_below hb3 (some g))); clear hb hb3 x0 x1 x2 x3 y0 y1 y2 y3 z0 z1; have x0 := blk_cell BM.out 0; have x1 := blk_cell BM.out 1; have x2 := blk_cell BM.out 2; have x3 := blk_cell BM.out 3; have y0 := blk_cell BD.out 0; have y1 := blk_cell BD.out 1; have y2 := blk_cell BD.out 2; have y3 := blk_cell BD.out 3
              have z0 := blk_cell BS.out 9; have z1 := blk_frozen BS.out 9
              rw [show followsB 2 = true from rfl]
              go_wp2_with fail
              go_region_law (first | (refine goes_ Tryd.func27 (by kernel_rfl) rfl #[.int .i64 kd] (by rfl) rfl rfl (by (try simp only [List.map_toArray, List.map_cons, List.map_nil]); first | done | rfl) ?_; refine (duty_Cost.calls kd (costOf kd) _ rfl (laid_below LW.out (below_drew (Below.refl _ _)))).mono ?_; rintro e w4 ⟨rfl, hd⟩; refine ⟨_, rfl, ?_⟩; have hb4 : Below w3.heap.size w3 w4 := (below_drew (Below.refl _ _)).trans hd.below; have BM4 := Aside0.mk ((hb4.block gm (blk_lt BM.out)).trans BM.out); have BD4 := Aside0.mk ((hb4.block gd (blk_lt BD.out)).trans BD.out); have BS4 := Aside0.mk ((hb4.block g (blk_lt BS.out)).trans BS.out); have GR4 := Aside0.mk (gb_trans GR.out (gb_below hb4 (some g))); have a0 := blk_cell BM4.out 0; have a1 := blk_cell BM4.out 1; have a2 := blk_cell BM4.out 2; have a3 := blk_cell BM4.out 3; clear hd hb4) | (refine goes_ Tryd.func94 (by kernel_rfl) rfl #[.agg #[.pointer (some ⟨g, 0, none⟩), .int .i64 1, .int .i64 peer, .int .i64 2], .int .i64 (costOf kd)] (by rfl) rfl rfl (by (try simp only [List.map_toArray, List.map_cons, List.map_nil]); first | done | rfl) ?_; refine (slot_pay g 1 peer 2 (costOf kd) (by decide) p q st te v sp c0 c1 h0 h1 t0 t1 en bl _ (by exact BS4.out)).mono ?_; rintro e w5 ⟨rfl, hs, hgr⟩; refine ⟨_, rfl, ?_⟩; have BS5 := Aside0.mk hs; have GR5 := Aside0.mk (gb_trans GR4.out hgr); have hgr6 := Aside0.mk hgr; clear hs hgr))
              all_goals (
                have BM6 := Aside0.mk ((hgr6.out.block gm (blk_lt BM4.out) (fun e_ => nm (Option.some.inj e_))).trans BM4.out)
                have BD6 := Aside0.mk ((hgr6.out.block gd (blk_lt BD4.out) (fun e_ => nd (Option.some.inj e_))).trans BD4.out)
                clear a0 a1 a2 a3
                have a0 := blk_cell BM6.out 0; have a1 := blk_cell BM6.out 1; have a2 := blk_cell BM6.out 2; have a3 := blk_cell BM6.out 3; have e3 := blk_cell BD6.out 3
                have u0 := blk_cell BS5.out 9; have u1 := blk_frozen BS5.out 9
                go_wp2_with fail
                (try go_wp2)
                first | go_end0 | (refine bodyPost_ret (results_none rfl _ _ _) rfl ?_)
                exact ⟨rfl, (by rw [HE.out]; exact BS5.out), GR5.out⟩)
    

theorem zset14 {w : World} {g : Nat} (h : w.heap[g]? = some (.cells #[.int .i64 0, .int .i64 0, .int .i64 0, .int .i64 0, .slice none 0 0, .int .i64 0, .int .i64 0, .int .i64 0, .bool false, .bool false, .bool false, .bool false, .bool false, .int .i64 0] 54 (0, 0))) (u0 u1 u2 u3 u4 u5 u6 u7 u8 u9 u10 u11 u12 u13 : Value) : ((((((((((((((w.setCell ⟨g, 0, none⟩ u0).setCell ⟨g, 1, none⟩ u1).setCell ⟨g, 2, none⟩ u2).setCell ⟨g, 3, none⟩ u3).setCell ⟨g, 4, none⟩ u4).setCell ⟨g, 5, none⟩ u5).setCell ⟨g, 6, none⟩ u6).setCell ⟨g, 7, none⟩ u7).setCell ⟨g, 8, none⟩ u8).setCell ⟨g, 9, none⟩ u9).setCell ⟨g, 10, none⟩ u10).setCell ⟨g, 11, none⟩ u11).setCell ⟨g, 12, none⟩ u12).setCell ⟨g, 13, none⟩ u13).heap[g]? = some (.cells #[u0, u1, u2, u3, u4, u5, u6, u7, u8, u9, u10, u11, u12, u13] 54 (0, 0)) := by
  replace h := blk_set h 0 u0
  simp only [List.setIfInBounds_toArray, List.set_cons_zero, List.set_cons_succ] at h
  replace h := blk_set h 1 u1
  simp only [List.setIfInBounds_toArray, List.set_cons_zero, List.set_cons_succ] at h
  replace h := blk_set h 2 u2
  simp only [List.setIfInBounds_toArray, List.set_cons_zero, List.set_cons_succ] at h
  replace h := blk_set h 3 u3
  simp only [List.setIfInBounds_toArray, List.set_cons_zero, List.set_cons_succ] at h
  replace h := blk_set h 4 u4
  simp only [List.setIfInBounds_toArray, List.set_cons_zero, List.set_cons_succ] at h
  replace h := blk_set h 5 u5
  simp only [List.setIfInBounds_toArray, List.set_cons_zero, List.set_cons_succ] at h
  replace h := blk_set h 6 u6
  simp only [List.setIfInBounds_toArray, List.set_cons_zero, List.set_cons_succ] at h
  replace h := blk_set h 7 u7
  simp only [List.setIfInBounds_toArray, List.set_cons_zero, List.set_cons_succ] at h
  replace h := blk_set h 8 u8
  simp only [List.setIfInBounds_toArray, List.set_cons_zero, List.set_cons_succ] at h
  replace h := blk_set h 9 u9
  simp only [List.setIfInBounds_toArray, List.set_cons_zero, List.set_cons_succ] at h
  replace h := blk_set h 10 u10
  simp only [List.setIfInBounds_toArray, List.set_cons_zero, List.set_cons_succ] at h
  replace h := blk_set h 11 u11
  simp only [List.setIfInBounds_toArray, List.set_cons_zero, List.set_cons_succ] at h
  replace h := blk_set h 12 u12
  simp only [List.setIfInBounds_toArray, List.set_cons_zero, List.set_cons_succ] at h
  replace h := blk_set h 13 u13
  simp only [List.setIfInBounds_toArray, List.set_cons_zero, List.set_cons_succ] at h
  exact h
theorem zset14_R {α : Type} {d : Kd α} {e base : Nat} {ok : Nat → Prop} {v : Value} {xs : List α} {w : World} {g : Nat} (hr : d.R e w base ok v xs) (ht : ∀ q, q ∈ e :: d.E → q ≠ 54) (h : w.heap[g]? = some (.cells #[.int .i64 0, .int .i64 0, .int .i64 0, .int .i64 0, .slice none 0 0, .int .i64 0, .int .i64 0, .int .i64 0, .bool false, .bool false, .bool false, .bool false, .bool false, .int .i64 0] 54 (0, 0))) (u0 u1 u2 u3 u4 u5 u6 u7 u8 u9 u10 u11 u12 u13 : Value) : d.R e ((((((((((((((w.setCell ⟨g, 0, none⟩ u0).setCell ⟨g, 1, none⟩ u1).setCell ⟨g, 2, none⟩ u2).setCell ⟨g, 3, none⟩ u3).setCell ⟨g, 4, none⟩ u4).setCell ⟨g, 5, none⟩ u5).setCell ⟨g, 6, none⟩ u6).setCell ⟨g, 7, none⟩ u7).setCell ⟨g, 8, none⟩ u8).setCell ⟨g, 9, none⟩ u9).setCell ⟨g, 10, none⟩ u10).setCell ⟨g, 11, none⟩ u11).setCell ⟨g, 12, none⟩ u12).setCell ⟨g, 13, none⟩ u13) base ok v xs := by
  replace hr := Kd.R_set hr h ht 0 u0
  replace h := blk_set h 0 u0
  simp only [List.setIfInBounds_toArray, List.set_cons_zero, List.set_cons_succ] at h
  replace hr := Kd.R_set hr h ht 1 u1
  replace h := blk_set h 1 u1
  simp only [List.setIfInBounds_toArray, List.set_cons_zero, List.set_cons_succ] at h
  replace hr := Kd.R_set hr h ht 2 u2
  replace h := blk_set h 2 u2
  simp only [List.setIfInBounds_toArray, List.set_cons_zero, List.set_cons_succ] at h
  replace hr := Kd.R_set hr h ht 3 u3
  replace h := blk_set h 3 u3
  simp only [List.setIfInBounds_toArray, List.set_cons_zero, List.set_cons_succ] at h
  replace hr := Kd.R_set hr h ht 4 u4
  replace h := blk_set h 4 u4
  simp only [List.setIfInBounds_toArray, List.set_cons_zero, List.set_cons_succ] at h
  replace hr := Kd.R_set hr h ht 5 u5
  replace h := blk_set h 5 u5
  simp only [List.setIfInBounds_toArray, List.set_cons_zero, List.set_cons_succ] at h
  replace hr := Kd.R_set hr h ht 6 u6
  replace h := blk_set h 6 u6
  simp only [List.setIfInBounds_toArray, List.set_cons_zero, List.set_cons_succ] at h
  replace hr := Kd.R_set hr h ht 7 u7
  replace h := blk_set h 7 u7
  simp only [List.setIfInBounds_toArray, List.set_cons_zero, List.set_cons_succ] at h
  replace hr := Kd.R_set hr h ht 8 u8
  replace h := blk_set h 8 u8
  simp only [List.setIfInBounds_toArray, List.set_cons_zero, List.set_cons_succ] at h
  replace hr := Kd.R_set hr h ht 9 u9
  replace h := blk_set h 9 u9
  simp only [List.setIfInBounds_toArray, List.set_cons_zero, List.set_cons_succ] at h
  replace hr := Kd.R_set hr h ht 10 u10
  replace h := blk_set h 10 u10
  simp only [List.setIfInBounds_toArray, List.set_cons_zero, List.set_cons_succ] at h
  replace hr := Kd.R_set hr h ht 11 u11
  replace h := blk_set h 11 u11
  simp only [List.setIfInBounds_toArray, List.set_cons_zero, List.set_cons_succ] at h
  replace hr := Kd.R_set hr h ht 12 u12
  replace h := blk_set h 12 u12
  simp only [List.setIfInBounds_toArray, List.set_cons_zero, List.set_cons_succ] at h
  replace hr := Kd.R_set hr h ht 13 u13
  replace h := blk_set h 13 u13
  simp only [List.setIfInBounds_toArray, List.set_cons_zero, List.set_cons_succ] at h
  exact hr
theorem zset14_B {B g : Nat} {w0 w : World} (h : Below B w0 w) (hg : B ≤ g) (u0 u1 u2 u3 u4 u5 u6 u7 u8 u9 u10 u11 u12 u13 : Value) : Below B w0 ((((((((((((((w.setCell ⟨g, 0, none⟩ u0).setCell ⟨g, 1, none⟩ u1).setCell ⟨g, 2, none⟩ u2).setCell ⟨g, 3, none⟩ u3).setCell ⟨g, 4, none⟩ u4).setCell ⟨g, 5, none⟩ u5).setCell ⟨g, 6, none⟩ u6).setCell ⟨g, 7, none⟩ u7).setCell ⟨g, 8, none⟩ u8).setCell ⟨g, 9, none⟩ u9).setCell ⟨g, 10, none⟩ u10).setCell ⟨g, 11, none⟩ u11).setCell ⟨g, 12, none⟩ u12).setCell ⟨g, 13, none⟩ u13) := by
  replace h := h.setCell (p := ⟨g, 0, none⟩) hg u0
  replace h := h.setCell (p := ⟨g, 1, none⟩) hg u1
  replace h := h.setCell (p := ⟨g, 2, none⟩) hg u2
  replace h := h.setCell (p := ⟨g, 3, none⟩) hg u3
  replace h := h.setCell (p := ⟨g, 4, none⟩) hg u4
  replace h := h.setCell (p := ⟨g, 5, none⟩) hg u5
  replace h := h.setCell (p := ⟨g, 6, none⟩) hg u6
  replace h := h.setCell (p := ⟨g, 7, none⟩) hg u7
  replace h := h.setCell (p := ⟨g, 8, none⟩) hg u8
  replace h := h.setCell (p := ⟨g, 9, none⟩) hg u9
  replace h := h.setCell (p := ⟨g, 10, none⟩) hg u10
  replace h := h.setCell (p := ⟨g, 11, none⟩) hg u11
  replace h := h.setCell (p := ⟨g, 12, none⟩) hg u12
  replace h := h.setCell (p := ⟨g, 13, none⟩) hg u13
  exact h

def doF (side pe kd how : Int) (s : SlotS) : SlotS :=
  if s.en = true then s else if kd = 5 then keepF side how kd s else if kd = 6 ∨ kd = 7 then answerF side pe how kd s else exchangeF side pe how kd s
set_option maxHeartbeats 40000000 in
set_option maxRecDepth 100000 in
theorem slot_Do (p q st te : Int) (A : Option Addr) (n c : Nat) (l : List Int) (sp : Int) (s : SlotS) (tk sl pe kd how : Int) (hpe : pe = p ∨ pe = q) (hs0 : 0 ≤ sp) (hs1 : sp < 1000000) (hn : n = l.length) (w : World) (hL : Laid w) (hr : Kd.C (Kd.int .i64) w A l.length l) (hc : l.length ≤ c) :
    Calls Tryd.prog 71 #[.agg #[.int .i64 p, .int .i64 q, .int .i64 st, .int .i64 te, .slice A n c, .int .i64 sp, .int .i64 s.c0, .int .i64 s.c1, .bool s.h0, .bool s.h1, .bool s.t0, .bool s.t1, .bool s.en, .int .i64 s.bl], .agg #[.int .i64 tk, .int .i64 sl, .int .i64 pe, .int .i64 kd], .int .i64 how] w fun e w' => e = .returned (.agg #[.int .i64 p, .int .i64 q, .int .i64 st, .int .i64 te, .slice A n c, .int .i64 (sp + 1), .int .i64 (doF (if pe = p then 0 else 1) pe kd how s).c0, .int .i64 (doF (if pe = p then 0 else 1) pe kd how s).c1, .bool (doF (if pe = p then 0 else 1) pe kd how s).h0, .bool (doF (if pe = p then 0 else 1) pe kd how s).h1, .bool (doF (if pe = p then 0 else 1) pe kd how s).t0, .bool (doF (if pe = p then 0 else 1) pe kd how s).t1, .bool (doF (if pe = p then 0 else 1) pe kd how s).en, .int .i64 (doF (if pe = p then 0 else 1) pe kd how s).bl]) ∧ Below w.heap.size w w' := by
  subst hn
  have hu := Tryd.underlying54
  have hu2 := Tryd.underlying115
  have hu3 := Tryd.underlying36
  have hu4 := Tryd.underlying26
  have HL := Aside0.mk hL
  have HR := Aside0.mk hr
  clear hL hr
  obtain ⟨sd, hsd⟩ : ∃ sd, (if pe = p then (0 : Int) else 1) = sd := ⟨_, rfl⟩
  have hsd01 : (pe = p ∧ sd = 0) ∨ (pe ≠ p ∧ pe = q ∧ sd = 1) := by
    by_cases h : pe = p
    · rw [if_pos h] at hsd; exact .inl ⟨h, hsd.symm⟩
    · rw [if_neg h] at hsd; exact .inr ⟨h, hpe.resolve_left h, hsd.symm⟩
  rw [hsd]
  obtain ⟨s2, hs2⟩ : ∃ s2, doF sd pe kd how s = s2 := ⟨_, rfl⟩
  rw [hs2]
  have HE := Aside0.mk hs2
  have HSD := Aside0.mk hsd01
  clear hs2 hsd hsd01 hpe
  obtain ⟨c0, c1, h0, h1, t0, t1, en, bl⟩ := s
  go_enter Tryd.func71, Tryd.ntmps71
  go_upto_region 1 with (fail)
  have q1 : (((w.alloc (.cells #[.int .i64 p, .int .i64 q, .int .i64 st, .int .i64 te, .slice A l.length c, .int .i64 sp, .int .i64 c0, .int .i64 c1, .bool h0, .bool h1, .bool t0, .bool t1, .bool en, .int .i64 bl] 54)).alloc (.cells #[.int .i64 tk, .int .i64 sl, .int .i64 pe, .int .i64 kd] 36)).alloc (.cells #[.int .i64 0, .int .i64 0, .int .i64 0, .int .i64 0, .slice none 0 0, .int .i64 0, .int .i64 0, .int .i64 0, .bool false, .bool false, .bool false, .bool false, .bool false, .int .i64 0] 54)).heap[w.heap.size]? = some (.cells #[.int .i64 p, .int .i64 q, .int .i64 st, .int .i64 te, .slice A l.length c, .int .i64 sp, .int .i64 c0, .int .i64 c1, .bool h0, .bool h1, .bool t0, .bool t1, .bool en, .int .i64 bl] 54 (0, 0)) := blk_alloc (blk_alloc (blk_new w _) _) _
  have q2 : (((w.alloc (.cells #[.int .i64 p, .int .i64 q, .int .i64 st, .int .i64 te, .slice A l.length c, .int .i64 sp, .int .i64 c0, .int .i64 c1, .bool h0, .bool h1, .bool t0, .bool t1, .bool en, .int .i64 bl] 54)).alloc (.cells #[.int .i64 tk, .int .i64 sl, .int .i64 pe, .int .i64 kd] 36)).alloc (.cells #[.int .i64 0, .int .i64 0, .int .i64 0, .int .i64 0, .slice none 0 0, .int .i64 0, .int .i64 0, .int .i64 0, .bool false, .bool false, .bool false, .bool false, .bool false, .int .i64 0] 54)).heap[w.heap.size + 1]? = some (.cells #[.int .i64 tk, .int .i64 sl, .int .i64 pe, .int .i64 kd] 36) := by have := blk_alloc (blk_new (w.alloc (.cells #[.int .i64 p, .int .i64 q, .int .i64 st, .int .i64 te, .slice A l.length c, .int .i64 sp, .int .i64 c0, .int .i64 c1, .bool h0, .bool h1, .bool t0, .bool t1, .bool en, .int .i64 bl] 54)) (.cells #[.int .i64 tk, .int .i64 sl, .int .i64 pe, .int .i64 kd] 36)) (.cells #[.int .i64 0, .int .i64 0, .int .i64 0, .int .i64 0, .slice none 0 0, .int .i64 0, .int .i64 0, .int .i64 0, .bool false, .bool false, .bool false, .bool false, .bool false, .int .i64 0] 54); simpa using this
  have q3 : (((w.alloc (.cells #[.int .i64 p, .int .i64 q, .int .i64 st, .int .i64 te, .slice A l.length c, .int .i64 sp, .int .i64 c0, .int .i64 c1, .bool h0, .bool h1, .bool t0, .bool t1, .bool en, .int .i64 bl] 54)).alloc (.cells #[.int .i64 tk, .int .i64 sl, .int .i64 pe, .int .i64 kd] 36)).alloc (.cells #[.int .i64 0, .int .i64 0, .int .i64 0, .int .i64 0, .slice none 0 0, .int .i64 0, .int .i64 0, .int .i64 0, .bool false, .bool false, .bool false, .bool false, .bool false, .int .i64 0] 54)).heap[w.heap.size + 1 + 1]? = some (.cells #[.int .i64 0, .int .i64 0, .int .i64 0, .int .i64 0, .slice none 0 0, .int .i64 0, .int .i64 0, .int .i64 0, .bool false, .bool false, .bool false, .bool false, .bool false, .int .i64 0] 54 (0, 0)) := by have := blk_new ((w.alloc (.cells #[.int .i64 p, .int .i64 q, .int .i64 st, .int .i64 te, .slice A l.length c, .int .i64 sp, .int .i64 c0, .int .i64 c1, .bool h0, .bool h1, .bool t0, .bool t1, .bool en, .int .i64 bl] 54)).alloc (.cells #[.int .i64 tk, .int .i64 sl, .int .i64 pe, .int .i64 kd] 36)) (.cells #[.int .i64 0, .int .i64 0, .int .i64 0, .int .i64 0, .slice none 0 0, .int .i64 0, .int .i64 0, .int .i64 0, .bool false, .bool false, .bool false, .bool false, .bool false, .int .i64 0] 54); simpa using this
  have q5 : Below w.heap.size w (((w.alloc (.cells #[.int .i64 p, .int .i64 q, .int .i64 st, .int .i64 te, .slice A l.length c, .int .i64 sp, .int .i64 c0, .int .i64 c1, .bool h0, .bool h1, .bool t0, .bool t1, .bool en, .int .i64 bl] 54)).alloc (.cells #[.int .i64 tk, .int .i64 sl, .int .i64 pe, .int .i64 kd] 36)).alloc (.cells #[.int .i64 0, .int .i64 0, .int .i64 0, .int .i64 0, .slice none 0 0, .int .i64 0, .int .i64 0, .int .i64 0, .bool false, .bool false, .bool false, .bool false, .bool false, .int .i64 0] 54)) := below_alloc (below_alloc (below_alloc (Below.refl _ _) _) _) _
  have q4 := laid_below HL.out q5
  have q6 := Kd.C_below HR.out q5
  have q7 : (((w.alloc (.cells #[.int .i64 p, .int .i64 q, .int .i64 st, .int .i64 te, .slice A l.length c, .int .i64 sp, .int .i64 c0, .int .i64 c1, .bool h0, .bool h1, .bool t0, .bool t1, .bool en, .int .i64 bl] 54)).alloc (.cells #[.int .i64 tk, .int .i64 sl, .int .i64 pe, .int .i64 kd] 36)).alloc (.cells #[.int .i64 0, .int .i64 0, .int .i64 0, .int .i64 0, .slice none 0 0, .int .i64 0, .int .i64 0, .int .i64 0, .bool false, .bool false, .bool false, .bool false, .bool false, .int .i64 0] 54)).heap.size = w.heap.size + 3 := by simp
  obtain ⟨gs, hgs⟩ : ∃ gs, gs = w.heap.size := ⟨_, rfl⟩
  obtain ⟨gd, hgd⟩ : ∃ gd, gd = w.heap.size + 1 := ⟨_, rfl⟩
  obtain ⟨gr, hgr⟩ : ∃ gr, gr = w.heap.size + 1 + 1 := ⟨_, rfl⟩
  generalize (((w.alloc (.cells #[.int .i64 p, .int .i64 q, .int .i64 st, .int .i64 te, .slice A l.length c, .int .i64 sp, .int .i64 c0, .int .i64 c1, .bool h0, .bool h1, .bool t0, .bool t1, .bool en, .int .i64 bl] 54)).alloc (.cells #[.int .i64 tk, .int .i64 sl, .int .i64 pe, .int .i64 kd] 36)).alloc (.cells #[.int .i64 0, .int .i64 0, .int .i64 0, .int .i64 0, .slice none 0 0, .int .i64 0, .int .i64 0, .int .i64 0, .bool false, .bool false, .bool false, .bool false, .bool false, .int .i64 0] 54)) = W2 at *
  rw [← hgr] at q3 ⊢
  rw [← hgd] at q2 ⊢
  rw [← hgs] at q1 ⊢
  have n1 : gd ≠ gs := by omega
  have n2 : gr ≠ gs := by omega
  have hge : w.heap.size ≤ gs := by omega
  have hge2 : w.heap.size ≤ gr := by omega
  have HGS := Aside0.mk hgs; have HSZ := Aside0.mk q7
  have x0 := blk_cell q1 0; have x1 := blk_cell q1 1; have x2 := blk_cell q1 2; have x3 := blk_cell q1 3; have x4 := blk_cell q1 4; have x5 := blk_cell q1 5; have x6 := blk_cell q1 6; have x7 := blk_cell q1 7; have x8 := blk_cell q1 8; have x9 := blk_cell q1 9; have x10 := blk_cell q1 10; have x11 := blk_cell q1 11; have x12 := blk_cell q1 12; have x13 := blk_cell q1 13
  have xf := blk_frozen q1 5
  have BS := Aside0.mk (blk_set q1 5 (.int .i64 (sp + 1)))
  have BD := Aside0.mk (blk_far q2 (p := ⟨gs, 5, none⟩) n1 (.int .i64 (sp + 1)))
  have BR := Aside0.mk (blk_far q3 (p := ⟨gs, 5, none⟩) n2 (.int .i64 (sp + 1)))
  have HB := Aside0.mk (q5.setCell (p := ⟨gs, 5, none⟩) hge (.int .i64 (sp + 1)))
  clear q1 q2 q3 q4 q5 q6 q7 hgs hgd hgr
  cases en
  · go_upto_region 4 with (fail)
    clear x0 x1 x2 x3 x4 x5 x6 x7 x8 x9 x10 x11 x12 x13 xf
    generalize W2.setCell ⟨gs, 5, none⟩ (.int .i64 (sp + 1)) = W3 at *
    have x0 := blk_cell BS.out 0; have x1 := blk_cell BS.out 1; have x2 := blk_cell BS.out 2; have x3 := blk_cell BS.out 3; have x4 := blk_cell BS.out 4; have y0 := blk_cell BD.out 0; have y1 := blk_cell BD.out 1; have y2 := blk_cell BD.out 2; have y3 := blk_cell BD.out 3
    have hside : slot_Side.f p q st te l pe = some sd := by
      unfold slot_Side.f
      rcases HSD.out with ⟨h, h'⟩ | ⟨h, h', h''⟩
      · rw [if_pos h, h']
      · rw [if_neg h, if_pos h', h'']
    have m0 := World.new_ne W3 _ x0; have m1 := World.new_ne W3 _ x1; have m2 := World.new_ne W3 _ x2; have m3 := World.new_ne W3 _ x3; have m4 := World.new_ne W3 _ x4; have m5 := World.new_ne W3 _ y2
    have nn1 : gs ≠ W3.heap.size := by have := blk_lt BS.out; omega
    have nn2 : gd ≠ W3.heap.size := by have := blk_lt BD.out; omega
    have nn3 : gr ≠ W3.heap.size := by have := blk_lt BR.out; omega
    go_region_held3 (fun w' => w'.cell? ⟨gs, 0, none⟩ = some (.int .i64 p) ∧ w'.cell? ⟨gs, 1, none⟩ = some (.int .i64 q) ∧ w'.cell? ⟨gs, 2, none⟩ = some (.int .i64 st) ∧ w'.cell? ⟨gs, 3, none⟩ = some (.int .i64 te) ∧ w'.cell? ⟨gs, 4, none⟩ = some (.slice A l.length c) ∧ w'.cell? ⟨gd, 2, none⟩ = some (.int .i64 pe)) (first | go_keep | exact ⟨blk_cell (blk_alloc BS4.out _) 0, blk_cell (blk_alloc BS4.out _) 1, blk_cell (blk_alloc BS4.out _) 2, blk_cell (blk_alloc BS4.out _) 3, blk_cell (blk_alloc BS4.out _) 4, blk_cell (blk_alloc BD4.out _) 2⟩ | exact ⟨blk_cell BS4.out 0, blk_cell BS4.out 1, blk_cell BS4.out 2, blk_cell BS4.out 3, blk_cell BS4.out 4, blk_cell BD4.out 2⟩) (first | (go_at_call 41; (with_reducible refine (slot_Side.calls p q st te A c l pe sd W3.drew ?hr hc hside).mono ?_); (case hr => exact (Kd.C_below HR.out (by repeat (first | exact HB.out | apply below_alloc | apply below_drew)))); rintro e w4 ⟨rfl, hb⟩; have BS4 := Aside0.mk ((hb.block gs (blk_lt BS.out)).trans BS.out); have BD4 := Aside0.mk ((hb.block gd (blk_lt BD.out)).trans BD.out); have BR4 := Aside0.mk ((hb.block gr (blk_lt BR.out)).trans BR.out); have HB4 := Aside0.mk (below_step (by repeat (first | exact HB.out | apply below_alloc | apply below_drew)) hb); clear hb) | (go_at_call 41; (with_reducible refine (slot_Side.calls p q st te A c l pe sd _ ?hr hc hside).mono ?_); (case hr => exact (Kd.C_below HR.out (by repeat (first | exact HB.out | apply below_alloc | apply below_drew)))); rintro e w4 ⟨rfl, hb⟩; have BS4 := Aside0.mk ((hb.block gs (blk_lt (blk_alloc BS.out _))).trans (blk_alloc BS.out _)); have BD4 := Aside0.mk ((hb.block gd (blk_lt (blk_alloc BD.out _))).trans (blk_alloc BD.out _)); have BR4 := Aside0.mk ((hb.block gr (blk_lt (blk_alloc BR.out _))).trans (blk_alloc BR.out _)); have BM4 := Aside0.mk ((hb.block W3.heap.size (by simp)).trans (blk_new W3 _)); have g0 := blk_cell BM4.out 0; have g1 := blk_cell BM4.out 1; have g2 := blk_cell BM4.out 2; have g3 := blk_cell BM4.out 3; have f0 := blk_frozen BM4.out 0; have f1 := blk_frozen BM4.out 1; have f2 := blk_frozen BM4.out 2; have f3 := blk_frozen BM4.out 3; have HB4 := Aside0.mk (below_step (by repeat (first | exact HB.out | apply below_alloc | apply below_drew)) hb); clear hb))
    · have r1 : (w4.alloc (.cells #[.pointer (some ⟨gs, 0, none⟩), .int .i64 sd, .int .i64 pe, .int .i64 how] 115)).heap[w4.heap.size]? = some (.cells #[.pointer (some ⟨gs, 0, none⟩), .int .i64 sd, .int .i64 pe, .int .i64 how] 115 (0, 0)) := blk_new w4 _
      have r2 := blk_alloc BS4.out (.cells #[.pointer (some ⟨gs, 0, none⟩), .int .i64 sd, .int .i64 pe, .int .i64 how] 115); have r3 := blk_alloc BD4.out (.cells #[.pointer (some ⟨gs, 0, none⟩), .int .i64 sd, .int .i64 pe, .int .i64 how] 115); have r4 := blk_alloc BR4.out (.cells #[.pointer (some ⟨gs, 0, none⟩), .int .i64 sd, .int .i64 pe, .int .i64 how] 115); have r5 := below_alloc HB4.out (.cells #[.pointer (some ⟨gs, 0, none⟩), .int .i64 sd, .int .i64 pe, .int .i64 how] 115)
      obtain ⟨gm, hgm⟩ : ∃ gm, gm = w4.heap.size := ⟨_, rfl⟩
      generalize (w4.alloc (.cells #[.pointer (some ⟨gs, 0, none⟩), .int .i64 sd, .int .i64 pe, .int .i64 how] 115)) = W5 at *
      rw [← hgm] at r1 ⊢
      have BM5 := Aside0.mk r1; have BS5 := Aside0.mk r2; have BD5 := Aside0.mk r3; have BR5 := Aside0.mk r4; have HB5 := Aside0.mk r5
      clear r1 r2 r3 r4 r5 hgm x0 x1 x2 x3 x4 y0 y1 y2 y3
      have u0 := blk_cell BM5.out 0; have u1 := blk_cell BM5.out 1; have u2 := blk_cell BM5.out 2; have u3 := blk_cell BM5.out 3; have v0 := blk_cell BD5.out 0; have v1 := blk_cell BD5.out 1; have v2 := blk_cell BD5.out 2; have v3 := blk_cell BD5.out 3
      by_cases k5 : kd = 5
      · subst k5
        have hE : keepF sd how 5 ⟨c0, c1, h0, h1, t0, t1, false, bl⟩ = s2 := by have := HE.out; simpa [doF] using this
        go_wp2_with fail
        refine (slot_keep gs sd pe how tk sl pe 5 (by rcases HSD.out with h | h; exact .inl h.2; exact .inr h.2.2) p q st te (.slice A l.length c) (sp + 1) ⟨c0, c1, h0, h1, t0, t1, false, bl⟩ _ (laid_below HL.out HB5.out) BS5.out).mono ?_
        rintro e w6 ⟨rfl, hs, hgr⟩
        rw [hE] at hs
        have BR6 := (hgr.block gr (blk_lt BR5.out) (fun e_ => n2 (Option.some.inj e_))).trans BR5.out
        have HB6 := Aside0.mk (HB5.out.grown hgr HB5.out.size (fun k hk => by injection hk with hk; omega))
        clear hE hgr u0 u1 u2 u3 v0 v1 v2 v3
        have x0 := blk_cell hs 0; have x1 := blk_cell hs 1; have x2 := blk_cell hs 2; have x3 := blk_cell hs 3; have x4 := blk_cell hs 4; have x5 := blk_cell hs 5; have x6 := blk_cell hs 6; have x7 := blk_cell hs 7; have x8 := blk_cell hs 8; have x9 := blk_cell hs 9; have x10 := blk_cell hs 10; have x11 := blk_cell hs 11; have x12 := blk_cell hs 12; have x13 := blk_cell hs 13
        have z0 := blk_cell BR6 0; have z1 := blk_cell BR6 1; have z2 := blk_cell BR6 2; have z3 := blk_cell BR6 3; have z4 := blk_cell BR6 4; have z5 := blk_cell BR6 5; have z6 := blk_cell BR6 6; have z7 := blk_cell BR6 7; have z8 := blk_cell BR6 8; have z9 := blk_cell BR6 9; have z10 := blk_cell BR6 10; have z11 := blk_cell BR6 11; have z12 := blk_cell BR6 12; have z13 := blk_cell BR6 13; have zf0 := blk_frozen BR6 0; have zf1 := blk_frozen BR6 1; have zf2 := blk_frozen BR6 2; have zf3 := blk_frozen BR6 3; have zf4 := blk_frozen BR6 4; have zf5 := blk_frozen BR6 5; have zf6 := blk_frozen BR6 6; have zf7 := blk_frozen BR6 7; have zf8 := blk_frozen BR6 8; have zf9 := blk_frozen BR6 9; have zf10 := blk_frozen BR6 10; have zf11 := blk_frozen BR6 11; have zf12 := blk_frozen BR6 12; have zf13 := blk_frozen BR6 13
        have BR7 := Aside0.mk BR6
        clear hs BR6
        go_wp2
        refine bodyPost_ret (results_cell_row rfl _ _ gr 54 #[.int .i64 p, .int .i64 q, .int .i64 st, .int .i64 te, .slice A l.length c, .int .i64 (sp + 1), .int .i64 s2.c0, .int .i64 s2.c1, .bool s2.h0, .bool s2.h1, .bool s2.t0, .bool s2.t1, .bool s2.en, .int .i64 s2.bl] (0, 0) _ rfl (by exact zset14 BR7.out _ _ _ _ _ _ _ _ _ _ _ _ _ _) Tryd.underlying54 rfl (by kernel_rfl)) rfl ?_
        exact ⟨rfl, zset14_B HB6.out hge2 _ _ _ _ _ _ _ _ _ _ _ _ _ _⟩
      · have b5 : (kd == 5) = false := by simpa using k5
        by_cases k6 : kd = 6
        · subst k6
          have hE : answerF sd pe how 6 ⟨c0, c1, h0, h1, t0, t1, false, bl⟩ = s2 := by have := HE.out; simpa [doF] using this
          go_wp2_with fail
          refine (slot_answer gs sd pe how tk sl pe 6 (by rcases HSD.out with h | h; exact .inl h.2; exact .inr h.2.2) p q st te (.slice A l.length c) (sp + 1) ⟨c0, c1, h0, h1, t0, t1, false, bl⟩ _ (laid_below HL.out HB5.out) BS5.out).mono ?_
          rintro e w6 ⟨rfl, hs, hgr⟩
          rw [hE] at hs
          have BR6 := (hgr.block gr (blk_lt BR5.out) (fun e_ => n2 (Option.some.inj e_))).trans BR5.out
          have HB6 := Aside0.mk (HB5.out.grown hgr HB5.out.size (fun k hk => by injection hk with hk; omega))
          clear hE hgr u0 u1 u2 u3 v0 v1 v2 v3
          have x0 := blk_cell hs 0; have x1 := blk_cell hs 1; have x2 := blk_cell hs 2; have x3 := blk_cell hs 3; have x4 := blk_cell hs 4; have x5 := blk_cell hs 5; have x6 := blk_cell hs 6; have x7 := blk_cell hs 7; have x8 := blk_cell hs 8; have x9 := blk_cell hs 9; have x10 := blk_cell hs 10; have x11 := blk_cell hs 11; have x12 := blk_cell hs 12; have x13 := blk_cell hs 13
          have z0 := blk_cell BR6 0; have z1 := blk_cell BR6 1; have z2 := blk_cell BR6 2; have z3 := blk_cell BR6 3; have z4 := blk_cell BR6 4; have z5 := blk_cell BR6 5; have z6 := blk_cell BR6 6; have z7 := blk_cell BR6 7; have z8 := blk_cell BR6 8; have z9 := blk_cell BR6 9; have z10 := blk_cell BR6 10; have z11 := blk_cell BR6 11; have z12 := blk_cell BR6 12; have z13 := blk_cell BR6 13; have zf0 := blk_frozen BR6 0; have zf1 := blk_frozen BR6 1; have zf2 := blk_frozen BR6 2; have zf3 := blk_frozen BR6 3; have zf4 := blk_frozen BR6 4; have zf5 := blk_frozen BR6 5; have zf6 := blk_frozen BR6 6; have zf7 := blk_frozen BR6 7; have zf8 := blk_frozen BR6 8; have zf9 := blk_frozen BR6 9; have zf10 := blk_frozen BR6 10; have zf11 := blk_frozen BR6 11; have zf12 := blk_frozen BR6 12; have zf13 := blk_frozen BR6 13
          have BR7 := Aside0.mk BR6
          clear hs BR6
          go_wp2
          refine bodyPost_ret (results_cell_row rfl _ _ gr 54 #[.int .i64 p, .int .i64 q, .int .i64 st, .int .i64 te, .slice A l.length c, .int .i64 (sp + 1), .int .i64 s2.c0, .int .i64 s2.c1, .bool s2.h0, .bool s2.h1, .bool s2.t0, .bool s2.t1, .bool s2.en, .int .i64 s2.bl] (0, 0) _ rfl (by exact zset14 BR7.out _ _ _ _ _ _ _ _ _ _ _ _ _ _) Tryd.underlying54 rfl (by kernel_rfl)) rfl ?_
          exact ⟨rfl, zset14_B HB6.out hge2 _ _ _ _ _ _ _ _ _ _ _ _ _ _⟩
        · have b6 : (kd == 6) = false := by simpa using k6
          by_cases k7 : kd = 7
          · subst k7
            have hE : answerF sd pe how 7 ⟨c0, c1, h0, h1, t0, t1, false, bl⟩ = s2 := by have := HE.out; simpa [doF] using this
            go_wp2_with fail
            refine (slot_answer gs sd pe how tk sl pe 7 (by rcases HSD.out with h | h; exact .inl h.2; exact .inr h.2.2) p q st te (.slice A l.length c) (sp + 1) ⟨c0, c1, h0, h1, t0, t1, false, bl⟩ _ (laid_below HL.out HB5.out) BS5.out).mono ?_
            rintro e w6 ⟨rfl, hs, hgr⟩
            rw [hE] at hs
            have BR6 := (hgr.block gr (blk_lt BR5.out) (fun e_ => n2 (Option.some.inj e_))).trans BR5.out
            have HB6 := Aside0.mk (HB5.out.grown hgr HB5.out.size (fun k hk => by injection hk with hk; omega))
            clear hE hgr u0 u1 u2 u3 v0 v1 v2 v3
            have x0 := blk_cell hs 0; have x1 := blk_cell hs 1; have x2 := blk_cell hs 2; have x3 := blk_cell hs 3; have x4 := blk_cell hs 4; have x5 := blk_cell hs 5; have x6 := blk_cell hs 6; have x7 := blk_cell hs 7; have x8 := blk_cell hs 8; have x9 := blk_cell hs 9; have x10 := blk_cell hs 10; have x11 := blk_cell hs 11; have x12 := blk_cell hs 12; have x13 := blk_cell hs 13
            have z0 := blk_cell BR6 0; have z1 := blk_cell BR6 1; have z2 := blk_cell BR6 2; have z3 := blk_cell BR6 3; have z4 := blk_cell BR6 4; have z5 := blk_cell BR6 5; have z6 := blk_cell BR6 6; have z7 := blk_cell BR6 7; have z8 := blk_cell BR6 8; have z9 := blk_cell BR6 9; have z10 := blk_cell BR6 10; have z11 := blk_cell BR6 11; have z12 := blk_cell BR6 12; have z13 := blk_cell BR6 13; have zf0 := blk_frozen BR6 0; have zf1 := blk_frozen BR6 1; have zf2 := blk_frozen BR6 2; have zf3 := blk_frozen BR6 3; have zf4 := blk_frozen BR6 4; have zf5 := blk_frozen BR6 5; have zf6 := blk_frozen BR6 6; have zf7 := blk_frozen BR6 7; have zf8 := blk_frozen BR6 8; have zf9 := blk_frozen BR6 9; have zf10 := blk_frozen BR6 10; have zf11 := blk_frozen BR6 11; have zf12 := blk_frozen BR6 12; have zf13 := blk_frozen BR6 13
            have BR7 := Aside0.mk BR6
            clear hs BR6
            go_wp2
            refine bodyPost_ret (results_cell_row rfl _ _ gr 54 #[.int .i64 p, .int .i64 q, .int .i64 st, .int .i64 te, .slice A l.length c, .int .i64 (sp + 1), .int .i64 s2.c0, .int .i64 s2.c1, .bool s2.h0, .bool s2.h1, .bool s2.t0, .bool s2.t1, .bool s2.en, .int .i64 s2.bl] (0, 0) _ rfl (by exact zset14 BR7.out _ _ _ _ _ _ _ _ _ _ _ _ _ _) Tryd.underlying54 rfl (by kernel_rfl)) rfl ?_
            exact ⟨rfl, zset14_B HB6.out hge2 _ _ _ _ _ _ _ _ _ _ _ _ _ _⟩
          · have b7 : (kd == 7) = false := by simpa using k7
            have hE : exchangeF sd pe how kd ⟨c0, c1, h0, h1, t0, t1, false, bl⟩ = s2 := by have := HE.out; simpa [doF, k5, k6, k7] using this
            go_wp2_with fail
            refine (slot_exchange gs sd pe how tk sl pe kd (by rcases HSD.out with h | h; exact .inl h.2; exact .inr h.2.2) p q st te (.slice A l.length c) (sp + 1) ⟨c0, c1, h0, h1, t0, t1, false, bl⟩ _ (laid_below HL.out HB5.out) BS5.out).mono ?_
            rintro e w6 ⟨rfl, hs, hgr⟩
            rw [hE] at hs
            have BR6 := (hgr.block gr (blk_lt BR5.out) (fun e_ => n2 (Option.some.inj e_))).trans BR5.out
            have HB6 := Aside0.mk (HB5.out.grown hgr HB5.out.size (fun k hk => by injection hk with hk; omega))
            clear hE hgr u0 u1 u2 u3 v0 v1 v2 v3
            have x0 := blk_cell hs 0; have x1 := blk_cell hs 1; have x2 := blk_cell hs 2; have x3 := blk_cell hs 3; have x4 := blk_cell hs 4; have x5 := blk_cell hs 5; have x6 := blk_cell hs 6; have x7 := blk_cell hs 7; have x8 := blk_cell hs 8; have x9 := blk_cell hs 9; have x10 := blk_cell hs 10; have x11 := blk_cell hs 11; have x12 := blk_cell hs 12; have x13 := blk_cell hs 13
            have z0 := blk_cell BR6 0; have z1 := blk_cell BR6 1; have z2 := blk_cell BR6 2; have z3 := blk_cell BR6 3; have z4 := blk_cell BR6 4; have z5 := blk_cell BR6 5; have z6 := blk_cell BR6 6; have z7 := blk_cell BR6 7; have z8 := blk_cell BR6 8; have z9 := blk_cell BR6 9; have z10 := blk_cell BR6 10; have z11 := blk_cell BR6 11; have z12 := blk_cell BR6 12; have z13 := blk_cell BR6 13; have zf0 := blk_frozen BR6 0; have zf1 := blk_frozen BR6 1; have zf2 := blk_frozen BR6 2; have zf3 := blk_frozen BR6 3; have zf4 := blk_frozen BR6 4; have zf5 := blk_frozen BR6 5; have zf6 := blk_frozen BR6 6; have zf7 := blk_frozen BR6 7; have zf8 := blk_frozen BR6 8; have zf9 := blk_frozen BR6 9; have zf10 := blk_frozen BR6 10; have zf11 := blk_frozen BR6 11; have zf12 := blk_frozen BR6 12; have zf13 := blk_frozen BR6 13
            have BR7 := Aside0.mk BR6
            clear hs BR6
            go_wp2
            refine bodyPost_ret (results_cell_row rfl _ _ gr 54 #[.int .i64 p, .int .i64 q, .int .i64 st, .int .i64 te, .slice A l.length c, .int .i64 (sp + 1), .int .i64 s2.c0, .int .i64 s2.c1, .bool s2.h0, .bool s2.h1, .bool s2.t0, .bool s2.t1, .bool s2.en, .int .i64 s2.bl] (0, 0) _ rfl (by exact zset14 BR7.out _ _ _ _ _ _ _ _ _ _ _ _ _ _) Tryd.underlying54 rfl (by kernel_rfl)) rfl ?_
            exact ⟨rfl, zset14_B HB6.out hge2 _ _ _ _ _ _ _ _ _ _ _ _ _ _⟩
      
    · have hw3 : w.heap.size ≤ W3.heap.size := HB.out.size
      have r1 : ((((w4.setCell ⟨W3.heap.size, 0, none⟩ (.pointer (some ⟨gs, 0, none⟩))).setCell ⟨W3.heap.size, 1, none⟩ (.int .i64 sd)).setCell ⟨W3.heap.size, 2, none⟩ (.int .i64 pe)).setCell ⟨W3.heap.size, 3, none⟩ (.int .i64 how)).heap[W3.heap.size]? = some (.cells #[.pointer (some ⟨gs, 0, none⟩), .int .i64 sd, .int .i64 pe, .int .i64 how] 115 (0, 0)) := blk_set (blk_set (blk_set (blk_set BM4.out 0 _) 1 _) 2 _) 3 _
      have r2 := (blk_far (blk_far (blk_far (blk_far BS4.out (p := ⟨W3.heap.size, 0, none⟩) nn1 (.pointer (some ⟨gs, 0, none⟩))) (p := ⟨W3.heap.size, 1, none⟩) nn1 (.int .i64 sd)) (p := ⟨W3.heap.size, 2, none⟩) nn1 (.int .i64 pe)) (p := ⟨W3.heap.size, 3, none⟩) nn1 (.int .i64 how)); have r3 := (blk_far (blk_far (blk_far (blk_far BD4.out (p := ⟨W3.heap.size, 0, none⟩) nn2 (.pointer (some ⟨gs, 0, none⟩))) (p := ⟨W3.heap.size, 1, none⟩) nn2 (.int .i64 sd)) (p := ⟨W3.heap.size, 2, none⟩) nn2 (.int .i64 pe)) (p := ⟨W3.heap.size, 3, none⟩) nn2 (.int .i64 how)); have r4 := (blk_far (blk_far (blk_far (blk_far BR4.out (p := ⟨W3.heap.size, 0, none⟩) nn3 (.pointer (some ⟨gs, 0, none⟩))) (p := ⟨W3.heap.size, 1, none⟩) nn3 (.int .i64 sd)) (p := ⟨W3.heap.size, 2, none⟩) nn3 (.int .i64 pe)) (p := ⟨W3.heap.size, 3, none⟩) nn3 (.int .i64 how))
      have r5 : Below w.heap.size w ((((w4.setCell ⟨W3.heap.size, 0, none⟩ (.pointer (some ⟨gs, 0, none⟩))).setCell ⟨W3.heap.size, 1, none⟩ (.int .i64 sd)).setCell ⟨W3.heap.size, 2, none⟩ (.int .i64 pe)).setCell ⟨W3.heap.size, 3, none⟩ (.int .i64 how)) := below_set (below_set (below_set (below_set HB4.out hw3) hw3) hw3) hw3
      obtain ⟨gm, hgm⟩ : ∃ gm, gm = W3.heap.size := ⟨_, rfl⟩
      generalize ((((w4.setCell ⟨W3.heap.size, 0, none⟩ (.pointer (some ⟨gs, 0, none⟩))).setCell ⟨W3.heap.size, 1, none⟩ (.int .i64 sd)).setCell ⟨W3.heap.size, 2, none⟩ (.int .i64 pe)).setCell ⟨W3.heap.size, 3, none⟩ (.int .i64 how)) = W5 at *
      rw [← hgm] at r1 ⊢
      have BM5 := Aside0.mk r1; have BS5 := Aside0.mk r2; have BD5 := Aside0.mk r3; have BR5 := Aside0.mk r4; have HB5 := Aside0.mk r5
      clear r1 r2 r3 r4 r5 hgm x0 x1 x2 x3 x4 y0 y1 y2 y3
      have u0 := blk_cell BM5.out 0; have u1 := blk_cell BM5.out 1; have u2 := blk_cell BM5.out 2; have u3 := blk_cell BM5.out 3; have v0 := blk_cell BD5.out 0; have v1 := blk_cell BD5.out 1; have v2 := blk_cell BD5.out 2; have v3 := blk_cell BD5.out 3
      by_cases k5 : kd = 5
      · subst k5
        have hE : keepF sd how 5 ⟨c0, c1, h0, h1, t0, t1, false, bl⟩ = s2 := by have := HE.out; simpa [doF] using this
        go_wp2_with fail
        refine (slot_keep gs sd pe how tk sl pe 5 (by rcases HSD.out with h | h; exact .inl h.2; exact .inr h.2.2) p q st te (.slice A l.length c) (sp + 1) ⟨c0, c1, h0, h1, t0, t1, false, bl⟩ _ (laid_below HL.out HB5.out) BS5.out).mono ?_
        rintro e w6 ⟨rfl, hs, hgr⟩
        rw [hE] at hs
        have BR6 := (hgr.block gr (blk_lt BR5.out) (fun e_ => n2 (Option.some.inj e_))).trans BR5.out
        have HB6 := Aside0.mk (HB5.out.grown hgr HB5.out.size (fun k hk => by injection hk with hk; omega))
        clear hE hgr u0 u1 u2 u3 v0 v1 v2 v3
        have x0 := blk_cell hs 0; have x1 := blk_cell hs 1; have x2 := blk_cell hs 2; have x3 := blk_cell hs 3; have x4 := blk_cell hs 4; have x5 := blk_cell hs 5; have x6 := blk_cell hs 6; have x7 := blk_cell hs 7; have x8 := blk_cell hs 8; have x9 := blk_cell hs 9; have x10 := blk_cell hs 10; have x11 := blk_cell hs 11; have x12 := blk_cell hs 12; have x13 := blk_cell hs 13
        have z0 := blk_cell BR6 0; have z1 := blk_cell BR6 1; have z2 := blk_cell BR6 2; have z3 := blk_cell BR6 3; have z4 := blk_cell BR6 4; have z5 := blk_cell BR6 5; have z6 := blk_cell BR6 6; have z7 := blk_cell BR6 7; have z8 := blk_cell BR6 8; have z9 := blk_cell BR6 9; have z10 := blk_cell BR6 10; have z11 := blk_cell BR6 11; have z12 := blk_cell BR6 12; have z13 := blk_cell BR6 13; have zf0 := blk_frozen BR6 0; have zf1 := blk_frozen BR6 1; have zf2 := blk_frozen BR6 2; have zf3 := blk_frozen BR6 3; have zf4 := blk_frozen BR6 4; have zf5 := blk_frozen BR6 5; have zf6 := blk_frozen BR6 6; have zf7 := blk_frozen BR6 7; have zf8 := blk_frozen BR6 8; have zf9 := blk_frozen BR6 9; have zf10 := blk_frozen BR6 10; have zf11 := blk_frozen BR6 11; have zf12 := blk_frozen BR6 12; have zf13 := blk_frozen BR6 13
        have BR7 := Aside0.mk BR6
        clear hs BR6
        go_wp2
        refine bodyPost_ret (results_cell_row rfl _ _ gr 54 #[.int .i64 p, .int .i64 q, .int .i64 st, .int .i64 te, .slice A l.length c, .int .i64 (sp + 1), .int .i64 s2.c0, .int .i64 s2.c1, .bool s2.h0, .bool s2.h1, .bool s2.t0, .bool s2.t1, .bool s2.en, .int .i64 s2.bl] (0, 0) _ rfl (by exact zset14 BR7.out _ _ _ _ _ _ _ _ _ _ _ _ _ _) Tryd.underlying54 rfl (by kernel_rfl)) rfl ?_
        exact ⟨rfl, zset14_B HB6.out hge2 _ _ _ _ _ _ _ _ _ _ _ _ _ _⟩
      · have b5 : (kd == 5) = false := by simpa using k5
        by_cases k6 : kd = 6
        · subst k6
          have hE : answerF sd pe how 6 ⟨c0, c1, h0, h1, t0, t1, false, bl⟩ = s2 := by have := HE.out; simpa [doF] using this
          go_wp2_with fail
          refine (slot_answer gs sd pe how tk sl pe 6 (by rcases HSD.out with h | h; exact .inl h.2; exact .inr h.2.2) p q st te (.slice A l.length c) (sp + 1) ⟨c0, c1, h0, h1, t0, t1, false, bl⟩ _ (laid_below HL.out HB5.out) BS5.out).mono ?_
          rintro e w6 ⟨rfl, hs, hgr⟩
          rw [hE] at hs
          have BR6 := (hgr.block gr (blk_lt BR5.out) (fun e_ => n2 (Option.some.inj e_))).trans BR5.out
          have HB6 := Aside0.mk (HB5.out.grown hgr HB5.out.size (fun k hk => by injection hk with hk; omega))
          clear hE hgr u0 u1 u2 u3 v0 v1 v2 v3
          have x0 := blk_cell hs 0; have x1 := blk_cell hs 1; have x2 := blk_cell hs 2; have x3 := blk_cell hs 3; have x4 := blk_cell hs 4; have x5 := blk_cell hs 5; have x6 := blk_cell hs 6; have x7 := blk_cell hs 7; have x8 := blk_cell hs 8; have x9 := blk_cell hs 9; have x10 := blk_cell hs 10; have x11 := blk_cell hs 11; have x12 := blk_cell hs 12; have x13 := blk_cell hs 13
          have z0 := blk_cell BR6 0; have z1 := blk_cell BR6 1; have z2 := blk_cell BR6 2; have z3 := blk_cell BR6 3; have z4 := blk_cell BR6 4; have z5 := blk_cell BR6 5; have z6 := blk_cell BR6 6; have z7 := blk_cell BR6 7; have z8 := blk_cell BR6 8; have z9 := blk_cell BR6 9; have z10 := blk_cell BR6 10; have z11 := blk_cell BR6 11; have z12 := blk_cell BR6 12; have z13 := blk_cell BR6 13; have zf0 := blk_frozen BR6 0; have zf1 := blk_frozen BR6 1; have zf2 := blk_frozen BR6 2; have zf3 := blk_frozen BR6 3; have zf4 := blk_frozen BR6 4; have zf5 := blk_frozen BR6 5; have zf6 := blk_frozen BR6 6; have zf7 := blk_frozen BR6 7; have zf8 := blk_frozen BR6 8; have zf9 := blk_frozen BR6 9; have zf10 := blk_frozen BR6 10; have zf11 := blk_frozen BR6 11; have zf12 := blk_frozen BR6 12; have zf13 := blk_frozen BR6 13
          have BR7 := Aside0.mk BR6
          clear hs BR6
          go_wp2
          refine bodyPost_ret (results_cell_row rfl _ _ gr 54 #[.int .i64 p, .int .i64 q, .int .i64 st, .int .i64 te, .slice A l.length c, .int .i64 (sp + 1), .int .i64 s2.c0, .int .i64 s2.c1, .bool s2.h0, .bool s2.h1, .bool s2.t0, .bool s2.t1, .bool s2.en, .int .i64 s2.bl] (0, 0) _ rfl (by exact zset14 BR7.out _ _ _ _ _ _ _ _ _ _ _ _ _ _) Tryd.underlying54 rfl (by kernel_rfl)) rfl ?_
          exact ⟨rfl, zset14_B HB6.out hge2 _ _ _ _ _ _ _ _ _ _ _ _ _ _⟩
        · have b6 : (kd == 6) = false := by simpa using k6
          by_cases k7 : kd = 7
          · subst k7
            have hE : answerF sd pe how 7 ⟨c0, c1, h0, h1, t0, t1, false, bl⟩ = s2 := by have := HE.out; simpa [doF] using this
            go_wp2_with fail
            refine (slot_answer gs sd pe how tk sl pe 7 (by rcases HSD.out with h | h; exact .inl h.2; exact .inr h.2.2) p q st te (.slice A l.length c) (sp + 1) ⟨c0, c1, h0, h1, t0, t1, false, bl⟩ _ (laid_below HL.out HB5.out) BS5.out).mono ?_
            rintro e w6 ⟨rfl, hs, hgr⟩
            rw [hE] at hs
            have BR6 := (hgr.block gr (blk_lt BR5.out) (fun e_ => n2 (Option.some.inj e_))).trans BR5.out
            have HB6 := Aside0.mk (HB5.out.grown hgr HB5.out.size (fun k hk => by injection hk with hk; omega))
            clear hE hgr u0 u1 u2 u3 v0 v1 v2 v3
            have x0 := blk_cell hs 0; have x1 := blk_cell hs 1; have x2 := blk_cell hs 2; have x3 := blk_cell hs 3; have x4 := blk_cell hs 4; have x5 := blk_cell hs 5; have x6 := blk_cell hs 6; have x7 := blk_cell hs 7; have x8 := blk_cell hs 8; have x9 := blk_cell hs 9; have x10 := blk_cell hs 10; have x11 := blk_cell hs 11; have x12 := blk_cell hs 12; have x13 := blk_cell hs 13
            have z0 := blk_cell BR6 0; have z1 := blk_cell BR6 1; have z2 := blk_cell BR6 2; have z3 := blk_cell BR6 3; have z4 := blk_cell BR6 4; have z5 := blk_cell BR6 5; have z6 := blk_cell BR6 6; have z7 := blk_cell BR6 7; have z8 := blk_cell BR6 8; have z9 := blk_cell BR6 9; have z10 := blk_cell BR6 10; have z11 := blk_cell BR6 11; have z12 := blk_cell BR6 12; have z13 := blk_cell BR6 13; have zf0 := blk_frozen BR6 0; have zf1 := blk_frozen BR6 1; have zf2 := blk_frozen BR6 2; have zf3 := blk_frozen BR6 3; have zf4 := blk_frozen BR6 4; have zf5 := blk_frozen BR6 5; have zf6 := blk_frozen BR6 6; have zf7 := blk_frozen BR6 7; have zf8 := blk_frozen BR6 8; have zf9 := blk_frozen BR6 9; have zf10 := blk_frozen BR6 10; have zf11 := blk_frozen BR6 11; have zf12 := blk_frozen BR6 12; have zf13 := blk_frozen BR6 13
            have BR7 := Aside0.mk BR6
            clear hs BR6
            go_wp2
            refine bodyPost_ret (results_cell_row rfl _ _ gr 54 #[.int .i64 p, .int .i64 q, .int .i64 st, .int .i64 te, .slice A l.length c, .int .i64 (sp + 1), .int .i64 s2.c0, .int .i64 s2.c1, .bool s2.h0, .bool s2.h1, .bool s2.t0, .bool s2.t1, .bool s2.en, .int .i64 s2.bl] (0, 0) _ rfl (by exact zset14 BR7.out _ _ _ _ _ _ _ _ _ _ _ _ _ _) Tryd.underlying54 rfl (by kernel_rfl)) rfl ?_
            exact ⟨rfl, zset14_B HB6.out hge2 _ _ _ _ _ _ _ _ _ _ _ _ _ _⟩
          · have b7 : (kd == 7) = false := by simpa using k7
            have hE : exchangeF sd pe how kd ⟨c0, c1, h0, h1, t0, t1, false, bl⟩ = s2 := by have := HE.out; simpa [doF, k5, k6, k7] using this
            go_wp2_with fail
            refine (slot_exchange gs sd pe how tk sl pe kd (by rcases HSD.out with h | h; exact .inl h.2; exact .inr h.2.2) p q st te (.slice A l.length c) (sp + 1) ⟨c0, c1, h0, h1, t0, t1, false, bl⟩ _ (laid_below HL.out HB5.out) BS5.out).mono ?_
            rintro e w6 ⟨rfl, hs, hgr⟩
            rw [hE] at hs
            have BR6 := (hgr.block gr (blk_lt BR5.out) (fun e_ => n2 (Option.some.inj e_))).trans BR5.out
            have HB6 := Aside0.mk (HB5.out.grown hgr HB5.out.size (fun k hk => by injection hk with hk; omega))
            clear hE hgr u0 u1 u2 u3 v0 v1 v2 v3
            have x0 := blk_cell hs 0; have x1 := blk_cell hs 1; have x2 := blk_cell hs 2; have x3 := blk_cell hs 3; have x4 := blk_cell hs 4; have x5 := blk_cell hs 5; have x6 := blk_cell hs 6; have x7 := blk_cell hs 7; have x8 := blk_cell hs 8; have x9 := blk_cell hs 9; have x10 := blk_cell hs 10; have x11 := blk_cell hs 11; have x12 := blk_cell hs 12; have x13 := blk_cell hs 13
            have z0 := blk_cell BR6 0; have z1 := blk_cell BR6 1; have z2 := blk_cell BR6 2; have z3 := blk_cell BR6 3; have z4 := blk_cell BR6 4; have z5 := blk_cell BR6 5; have z6 := blk_cell BR6 6; have z7 := blk_cell BR6 7; have z8 := blk_cell BR6 8; have z9 := blk_cell BR6 9; have z10 := blk_cell BR6 10; have z11 := blk_cell BR6 11; have z12 := blk_cell BR6 12; have z13 := blk_cell BR6 13; have zf0 := blk_frozen BR6 0; have zf1 := blk_frozen BR6 1; have zf2 := blk_frozen BR6 2; have zf3 := blk_frozen BR6 3; have zf4 := blk_frozen BR6 4; have zf5 := blk_frozen BR6 5; have zf6 := blk_frozen BR6 6; have zf7 := blk_frozen BR6 7; have zf8 := blk_frozen BR6 8; have zf9 := blk_frozen BR6 9; have zf10 := blk_frozen BR6 10; have zf11 := blk_frozen BR6 11; have zf12 := blk_frozen BR6 12; have zf13 := blk_frozen BR6 13
            have BR7 := Aside0.mk BR6
            clear hs BR6
            go_wp2
            refine bodyPost_ret (results_cell_row rfl _ _ gr 54 #[.int .i64 p, .int .i64 q, .int .i64 st, .int .i64 te, .slice A l.length c, .int .i64 (sp + 1), .int .i64 s2.c0, .int .i64 s2.c1, .bool s2.h0, .bool s2.h1, .bool s2.t0, .bool s2.t1, .bool s2.en, .int .i64 s2.bl] (0, 0) _ rfl (by exact zset14 BR7.out _ _ _ _ _ _ _ _ _ _ _ _ _ _) Tryd.underlying54 rfl (by kernel_rfl)) rfl ?_
            exact ⟨rfl, zset14_B HB6.out hge2 _ _ _ _ _ _ _ _ _ _ _ _ _ _⟩
      
    
  · have z0 := blk_cell BR.out 0; have z1 := blk_cell BR.out 1; have z2 := blk_cell BR.out 2; have z3 := blk_cell BR.out 3; have z4 := blk_cell BR.out 4; have z5 := blk_cell BR.out 5; have z6 := blk_cell BR.out 6; have z7 := blk_cell BR.out 7; have z8 := blk_cell BR.out 8; have z9 := blk_cell BR.out 9; have z10 := blk_cell BR.out 10; have z11 := blk_cell BR.out 11; have z12 := blk_cell BR.out 12; have z13 := blk_cell BR.out 13; have zf0 := blk_frozen BR.out 0; have zf1 := blk_frozen BR.out 1; have zf2 := blk_frozen BR.out 2; have zf3 := blk_frozen BR.out 3; have zf4 := blk_frozen BR.out 4; have zf5 := blk_frozen BR.out 5; have zf6 := blk_frozen BR.out 6; have zf7 := blk_frozen BR.out 7; have zf8 := blk_frozen BR.out 8; have zf9 := blk_frozen BR.out 9; have zf10 := blk_frozen BR.out 10; have zf11 := blk_frozen BR.out 11; have zf12 := blk_frozen BR.out 12; have zf13 := blk_frozen BR.out 13
    go_wp2
    have hs2 : s2 = ⟨c0, c1, h0, h1, t0, t1, true, bl⟩ := by rw [← HE.out]; simp [doF]
    subst hs2
    refine bodyPost_ret (results_cell_row rfl _ _ gr 54 #[.int .i64 p, .int .i64 q, .int .i64 st, .int .i64 te, .slice A l.length c, .int .i64 (sp + 1), .int .i64 c0, .int .i64 c1, .bool h0, .bool h1, .bool t0, .bool t1, .bool true, .int .i64 bl] (0, 0) _ rfl (by exact zset14 BR.out _ _ _ _ _ _ _ _ _ _ _ _ _ _) Tryd.underlying54 rfl (by kernel_rfl)) rfl ?_
    exact ⟨rfl, zset14_B HB.out hge2 _ _ _ _ _ _ _ _ _ _ _ _ _ _⟩

end Go.Proofs.YtgckkjgemkabnaaDoor.PSlotWalks
