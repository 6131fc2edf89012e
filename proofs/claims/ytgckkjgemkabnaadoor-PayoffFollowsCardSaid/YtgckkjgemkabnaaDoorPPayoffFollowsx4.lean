-- Written by a program of this repository (wip/tools/myprint.py over the print of the kit): contracts and rows.
import Derived.Test.YtgckkjgemkabnaaDoorPPayoffFollowsx0
import Derived.Test.YtgckkjgemkabnaaDoorPPayoffFollowsx3
namespace Go.Proofs.YtgckkjgemkabnaaDoor.PPayoffFollows
open Go.RowKit Go.Proofs.YtgckkjgemkabnaaDoorW.PrintWords Go.Proofs.YtgckkjgemkabnaaDoorW.PrintLast Go.Proofs.YtgckkjgemkabnaaDoorW.PrintMore
attribute [local go_sem] max2_int min2_int max_two min_two max_three min_three max_four min_four   -- for this text's walks alone
set_option linter.unusedVariables false
set_option linter.unusedSimpArgs false

/-! ### duty_Plan: function 19 -/
def bothL (tick slot p q : Int) (ks : List Int) : List S36 := ks.flatMap fun kd => [(⟨tick, slot, p, kd⟩ : S36), (⟨tick, slot, q, kd⟩ : S36)]
theorem bothL_snoc (tick slot p q : Int) (ks : List Int) (kd : Int) : bothL tick slot p q (ks ++ [kd]) = bothL tick slot p q ks ++ [(⟨tick, slot, p, kd⟩ : S36)] ++ [(⟨tick, slot, q, kd⟩ : S36)] := by simp [bothL]
theorem bothL_length (tick slot p q : Int) (ks : List Int) : (bothL tick slot p q ks).length = 2 * ks.length := by
 induction ks with
 | nil => rfl
 | cons k t ih =>
  have e : bothL tick slot p q (k :: t) = [⟨tick, slot, p, k⟩, ⟨tick, slot, q, k⟩] ++ bothL tick slot p q t := rfl
  rw [e, List.length_append, ih]; simp; omega
theorem print_take_snoc {α : Type} (l : List α) (d : α) (i : Int) (h0 : 0 ≤ i) (h : i < l.length) : l.take (i + 1).toNat = l.take i.toNat ++ [l.getD i.toNat d] := by
 have e : (i + 1).toNat = i.toNat + 1 := by omega
 rw [e, List.take_succ_eq_append_getElem (by omega), List.getD_eq_getElem?_getD, List.getElem?_eq_getElem (by omega)]; rfl
theorem kinds_cell {w : World} {gk : Nat} {ks : List Int} (h : w.heap[gk]? = some (.cells (ks.map (Value.int .i64)).toArray 3 (0, 0))) (i : Int) (h0 : 0 ≤ i) (h1 : i < ks.length) : w.cell? ⟨gk, i.toNat, none⟩ = some (.int .i64 (rd ks i)) := by
 refine (blk_cell h i.toNat).trans ?_
 have hi : i.toNat < ks.length := by omega
 simp [rd, List.getD_eq_getElem?_getD, List.getElem?_eq_getElem hi]

theorem duty_pick (W : World) (p q j : Int) (h : j = 0 ∨ j = 1) : (Instr.index 51 (.agg #[.int .i64 p, .int .i64 q]) (.int .i64 j)).run Tryd.prog W = .ok (.int .i64 (if j = 0 then p else q)) W := by
 obtain ⟨i0, hi0, _, hsz, _⟩ := info_parts info3
 rcases h with rfl | rfl <;> simp [Instr.index, run_underlying Tryd.underlying51, asIntOf, sizeOf, typeInfo, hi0, hsz, part, isAgg, run_underlying Tryd.underlying3, go_sem]

set_option maxHeartbeats 4000000 in
set_option maxRecDepth 100000 in
theorem duty_both (ga go gs gk : Nat) (p q st te tick slot : Int) (vc v : Value) (ck : Nat) (ks : List Int) (xs : List S36) (base : Nat) (w : World)
  (ha : w.heap[ga]? = some (.cells #[.int .i64 p, .int .i64 q, .int .i64 st, .int .i64 te, vc] 26 (0, 0))) (hg : w.heap[go]? = some (.cells #[v] 30 (0, 0))) (hs : w.heap[gs]? = some (.cells #[.int .i64 slot] 3 (0, 0))) (hk : w.heap[gk]? = some (.cells (ks.map (Value.int .i64)).toArray 3 (0, 0))) (n1 : ga ≠ go) (n2 : gs ≠ go) (n3 : gk ≠ go)
  (hr : Kd.R k36 36 w base (fun k => k ≠ go ∧ k ≠ ga ∧ k ≠ gs ∧ k ≠ gk) v xs) (hb : base ≤ w.heap.size) (hgo : base ≤ go) (hl : xs.length ≤ 1000) (hkl : ks.length ≤ 10) (hkc : ks.length ≤ ck) :
  Calls Tryd.prog 59 #[.int .i64 tick, .slice (some ⟨gk, 0, none⟩) ks.length ck, .pointer (some ⟨ga, 0, none⟩), .pointer (some ⟨go, 0, none⟩), .pointer (some ⟨gs, 0, none⟩)] w fun e w' => ∃ v', e = .returned (.tuple #[]) ∧ w'.heap[ga]? = some (.cells #[.int .i64 p, .int .i64 q, .int .i64 st, .int .i64 te, vc] 26 (0, 0)) ∧ w'.heap[go]? = some (.cells #[v'] 30 (0, 0)) ∧ w'.heap[gs]? = some (.cells #[.int .i64 slot] 3 (0, 0)) ∧ Kd.R k36 36 w' base (fun k => k ≠ go ∧ k ≠ ga ∧ k ≠ gs ∧ k ≠ gk) v' (xs ++ bothL tick slot p q ks) ∧ Below base w w' := by
 have hu := Tryd.underlying26
 have hu2 := Tryd.underlying36
 have hx0 : ∀ W : World, (Instr.index 51 (.agg #[.int .i64 p, .int .i64 q]) (.int .i64 0)).run Tryd.prog W = .ok (.int .i64 p) W := fun W => duty_pick W p q 0 (by omega)
 have hx1 : ∀ W : World, (Instr.index 51 (.agg #[.int .i64 p, .int .i64 q]) (.int .i64 1)).run Tryd.prog W = .ok (.int .i64 q) W := fun W => duty_pick W p q 1 (by omega)
 obtain ⟨A, cap, rfl⟩ := Kd.R_slice hr
 have HA := Aside0.mk ha; have HG := Aside0.mk hg; have HS := Aside0.mk hs; have HK := Aside0.mk hk; have HR := Aside0.mk hr
 clear ha hg hs hk hr
 go_enter Tryd.func59, Tryd.ntmps59
 go_wp2
 go_loopw [13] (fun v13 w' => ∃ (i : Int) (A : Option Addr) (n cap : Nat) (zs : List S36), 0 ≤ i ∧ i ≤ ks.length ∧ v13 = .int .i64 i ∧ Aside0 (zs = xs ++ bothL tick slot p q (ks.take i.toNat)) ∧ Aside0 (w'.heap[ga]? = some (.cells #[.int .i64 p, .int .i64 q, .int .i64 st, .int .i64 te, vc] 26 (0, 0))) ∧ Aside0 (w'.heap[go]? = some (.cells #[.slice A n cap] 30 (0, 0))) ∧ Aside0 (w'.heap[gs]? = some (.cells #[.int .i64 slot] 3 (0, 0))) ∧ Aside0 (w'.heap[gk]? = some (.cells (ks.map (Value.int .i64)).toArray 3 (0, 0))) ∧ Aside0 (Kd.R k36 36 w' base (fun k => k ≠ go ∧ k ≠ ga ∧ k ≠ gs ∧ k ≠ gk) (.slice A n cap) zs) ∧ Aside0 (Below base w w')) (fun v13 _ => ks.length - (intOf v13).toNat)
 case atStart => exact ⟨0, A, _, cap, xs, by omega, by omega, rfl, ⟨by simp [bothL]⟩, HA, HG, HS, HK, HR, ⟨Below.refl _ _⟩⟩
 case round =>
  clear HA HG HS HK HR
  obtain ⟨i, A, n, cap, zs, hi0, hi, rfl, HZ, HA, HG, HS, HK, HR, HB⟩ := hrel
  by_cases hlt : i < (ks.length : Int)
  ·have kk := kinds_cell HK.out i hi0 hlt
   obtain ⟨kd, hkd⟩ : ∃ kd, kd = rd ks i := ⟨_, rfl⟩
   rw [← hkd] at kk
   have HKD := Aside0.mk hkd
   clear hkd
   have ka := blk_cell HA.out 0
   have kb := blk_cell HA.out 1
   go_wp2
   clear kk ka kb
   have HLT := Aside0.mk hlt
   go_loopw [22] (fun v22 w' => ∃ (j : Int) (A : Option Addr) (n cap : Nat) (ws : List S36), v22 = .int .i64 j ∧ ((j = 0 ∧ ws = zs) ∨ (j = 1 ∧ ws = zs ++ [(⟨tick, slot, p, kd⟩ : S36)]) ∨ (j = 2 ∧ ws = zs ++ [(⟨tick, slot, p, kd⟩ : S36)] ++ [(⟨tick, slot, q, kd⟩ : S36)])) ∧ Aside0 (w'.heap[ga]? = some (.cells #[.int .i64 p, .int .i64 q, .int .i64 st, .int .i64 te, vc] 26 (0, 0))) ∧ Aside0 (w'.heap[go]? = some (.cells #[.slice A n cap] 30 (0, 0))) ∧ Aside0 (w'.heap[gs]? = some (.cells #[.int .i64 slot] 3 (0, 0))) ∧ Aside0 (w'.heap[gk]? = some (.cells (ks.map (Value.int .i64)).toArray 3 (0, 0))) ∧ Aside0 (Kd.R k36 36 w' base (fun k => k ≠ go ∧ k ≠ ga ∧ k ≠ gs ∧ k ≠ gk) (.slice A n cap) ws) ∧ Aside0 (Below base w w')) (fun v22 _ => 2 - (intOf v22).toNat)
   case atStart => exact ⟨0, A, n, cap, zs, rfl, .inl ⟨rfl, rfl⟩, HA, HG, HS, HK, HR, HB⟩
   case round =>
    clear HA HG HS HK HR HB
    obtain ⟨j, A, n, cap, ws, rfl, hj, HA, HG, HS, HK, HR, HB⟩ := hrel
    have hz0 : (zs.length : Int) ≤ 1000 + 20 := by have := HZ.out; subst this; have h2 := bothL_length tick slot p q (ks.take i.toNat); have h3 := List.length_take_le i.toNat ks; simp; omega
    rcases hj with ⟨rfl, hw⟩ | ⟨rfl, hw⟩ | ⟨rfl, hw⟩
    ·subst hw
     have c0 := blk_cell HG.out 0
     have c1 := blk_cell HS.out 0
     have HBz := Aside0.mk (Nat.le_trans hb HB.out.size)
     obtain ⟨ys, hy⟩ : ∃ ys, ws ++ [(⟨tick, slot, p, kd⟩ : S36)] = ys := ⟨_, rfl⟩
     have HY := Aside0.mk hy
     clear hy
     go_wp2_with (at_builtin; go_loud (refine Kd.R_append k36 (w0 := w) base rfl (.tmp 25) (.tmp 31) 30 36 (.agg #[(.int .i64 0), (.int .i64 0), (.int .i64 0), (.int .i64 0)]) 32 rfl Tryd.underlying30 info36 rfl (by decide) (by omega) (.slice A n cap) (ws) (⟨tick, slot, p, kd⟩ : S36) [.int .i64 tick, .int .i64 slot, .int .i64 p, .int .i64 kd] (fun k => k ≠ go ∧ k ≠ ga ∧ k ≠ gs ∧ k ≠ gk) (fun _ => False) rfl rfl (k36_mkM _ _ _ (⟨tick, slot, p, kd⟩ : S36)) (fun _ hk => hk.elim) (fun k hk => ⟨fun e => absurd (blk_lt HG.out) (by subst e; exact Nat.not_lt.2 hk), fun e => absurd (blk_lt HA.out) (by subst e; exact Nat.not_lt.2 hk), fun e => absurd (blk_lt HS.out) (by subst e; exact Nat.not_lt.2 hk), fun e => absurd (blk_lt HK.out) (by subst e; exact Nat.not_lt.2 hk)⟩) HR.out HB.out HBz.out ?aL ?_; (case aL => (try simp); omega); intro v1 W4 ho hb4 hg_ hat; rw [HY.out] at ho; obtain ⟨A1, d1, rfl⟩ := Kd.R_slice ho; have HA4 := Aside0.mk (blk_grown (g := ga) (by exact HA.out) hg_ (Kd.R_away HR.out (fun _ hk => hk.2.1))); have hg4 := blk_grown (g := go) (by exact HG.out) hg_ (Kd.R_away HR.out (fun _ hk => hk.1)); have HS4 := Aside0.mk (blk_grown (g := gs) (by exact HS.out) hg_ (Kd.R_away HR.out (fun _ hk => hk.2.2.1))); have HK4 := Aside0.mk (blk_grown (g := gk) (by exact HK.out) hg_ (Kd.R_away HR.out (fun _ hk => hk.2.2.2))); have m0 := blk_cell hg4 0; have m0' := blk_frozen hg4 0; have HG4 := Aside0.mk hg4; have HO4 := Aside0.mk ho; have HB4 := Aside0.mk hb4; clear ho hb4 hg_ hat hg4))
     go_roundw
     case rel => exact ⟨1, A1, _, d1, ys, by go_num, .inr (.inl ⟨rfl, HY.out.symm⟩), ⟨blk_far HA4.out n1 _⟩, ⟨blk_set HG4.out 0 _⟩, ⟨blk_far HS4.out n2 _⟩, ⟨blk_far HK4.out n3 _⟩, ⟨Kd.R_far HO4.out (p := ⟨go, 0, none⟩) (fun k h => h.1) _⟩, ⟨HB4.out.setCell (p := ⟨go, 0, none⟩) hgo _⟩⟩
     case measure => simp [intOf]
    ·subst hw
     have c0 := blk_cell HG.out 0
     have c1 := blk_cell HS.out 0
     have HBz := Aside0.mk (Nat.le_trans hb HB.out.size)
     obtain ⟨ys, hy⟩ : ∃ ys, zs ++ [(⟨tick, slot, p, kd⟩ : S36)] ++ [(⟨tick, slot, q, kd⟩ : S36)] = ys := ⟨_, rfl⟩
     have HY := Aside0.mk hy
     clear hy
     go_wp2_with (at_builtin; go_loud (refine Kd.R_append k36 (w0 := w) base rfl (.tmp 25) (.tmp 31) 30 36 (.agg #[(.int .i64 0), (.int .i64 0), (.int .i64 0), (.int .i64 0)]) 32 rfl Tryd.underlying30 info36 rfl (by decide) (by omega) (.slice A n cap) (zs ++ [(⟨tick, slot, p, kd⟩ : S36)]) (⟨tick, slot, q, kd⟩ : S36) [.int .i64 tick, .int .i64 slot, .int .i64 q, .int .i64 kd] (fun k => k ≠ go ∧ k ≠ ga ∧ k ≠ gs ∧ k ≠ gk) (fun _ => False) rfl rfl (k36_mkM _ _ _ (⟨tick, slot, q, kd⟩ : S36)) (fun _ hk => hk.elim) (fun k hk => ⟨fun e => absurd (blk_lt HG.out) (by subst e; exact Nat.not_lt.2 hk), fun e => absurd (blk_lt HA.out) (by subst e; exact Nat.not_lt.2 hk), fun e => absurd (blk_lt HS.out) (by subst e; exact Nat.not_lt.2 hk), fun e => absurd (blk_lt HK.out) (by subst e; exact Nat.not_lt.2 hk)⟩) HR.out HB.out HBz.out ?aL ?_; (case aL => (try simp); omega); intro v1 W4 ho hb4 hg_ hat; rw [HY.out] at ho; obtain ⟨A1, d1, rfl⟩ := Kd.R_slice ho; have HA4 := Aside0.mk (blk_grown (g := ga) (by exact HA.out) hg_ (Kd.R_away HR.out (fun _ hk => hk.2.1))); have hg4 := blk_grown (g := go) (by exact HG.out) hg_ (Kd.R_away HR.out (fun _ hk => hk.1)); have HS4 := Aside0.mk (blk_grown (g := gs) (by exact HS.out) hg_ (Kd.R_away HR.out (fun _ hk => hk.2.2.1))); have HK4 := Aside0.mk (blk_grown (g := gk) (by exact HK.out) hg_ (Kd.R_away HR.out (fun _ hk => hk.2.2.2))); have m0 := blk_cell hg4 0; have m0' := blk_frozen hg4 0; have HG4 := Aside0.mk hg4; have HO4 := Aside0.mk ho; have HB4 := Aside0.mk hb4; clear ho hb4 hg_ hat hg4))
     go_roundw
     case rel => exact ⟨2, A1, _, d1, ys, by go_num, .inr (.inr ⟨rfl, HY.out.symm⟩), ⟨blk_far HA4.out n1 _⟩, ⟨blk_set HG4.out 0 _⟩, ⟨blk_far HS4.out n2 _⟩, ⟨blk_far HK4.out n3 _⟩, ⟨Kd.R_far HO4.out (p := ⟨go, 0, none⟩) (fun k h => h.1) _⟩, ⟨HB4.out.setCell (p := ⟨go, 0, none⟩) hgo _⟩⟩
     case measure => simp [intOf]
    ·subst hw
     have hlt := HLT.out
     go_wp2
     go_roundw
     case rel => exact ⟨i + 1, A, n, cap, _, by omega, by omega, by go_num, ⟨by rw [print_take_snoc ks 0 i hi0 hlt, bothL_snoc, HZ.out]; have := HKD.out; simp only [rd] at this; rw [← this]; simp⟩, HA, HG, HS, HK, HR, HB⟩
     case measure => simp [intOf]; omega
  ·go_wp2
   go_end0
   rw [List.take_of_length_le (by omega)] at HZ
   obtain rfl := HZ.out
   exact ⟨rfl, HA.out, _, HG.out, HS.out, HR.out, HB.out⟩

theorem duty_both_at (ga go gs : Nat) (p q st te tick slot : Int) (vc v : Value) (ks : List Int) (xs : List S36) (base gk nk : Nat) (O : Obj) (W : World) (hgk : gk = W.heap.size) (hnk : nk = ks.length) (hO : O = (.cells (ks.map (Value.int .i64)).toArray 3 (0, 0)))
  (ha : W.heap[ga]? = some (.cells #[.int .i64 p, .int .i64 q, .int .i64 st, .int .i64 te, vc] 26 (0, 0))) (hg : W.heap[go]? = some (.cells #[v] 30 (0, 0))) (hs : W.heap[gs]? = some (.cells #[.int .i64 slot] 3 (0, 0))) (n1 : ga ≠ go) (n2 : gs ≠ go)
  (hr : Kd.R k36 36 W base (fun k => k ≠ go ∧ k ≠ ga ∧ k ≠ gs) v xs) (hb : base ≤ W.heap.size) (hgo : base ≤ go) (hl : xs.length ≤ 1000) (hkl : ks.length ≤ 10) :
  Calls Tryd.prog 59 #[.int .i64 tick, .slice (some ⟨gk, 0, none⟩) nk nk, .pointer (some ⟨ga, 0, none⟩), .pointer (some ⟨go, 0, none⟩), .pointer (some ⟨gs, 0, none⟩)] (W.alloc O) fun e w' => ∃ v', e = .returned (.tuple #[]) ∧ w'.heap[ga]? = some (.cells #[.int .i64 p, .int .i64 q, .int .i64 st, .int .i64 te, vc] 26 (0, 0)) ∧ w'.heap[go]? = some (.cells #[v'] 30 (0, 0)) ∧ w'.heap[gs]? = some (.cells #[.int .i64 slot] 3 (0, 0)) ∧ Kd.R k36 36 w' base (fun k => k ≠ go ∧ k ≠ ga ∧ k ≠ gs) v' (xs ++ bothL tick slot p q ks) ∧ Below base W w' := by
 subst hgk hnk hO
 have hlt := blk_lt hg
 refine (duty_both ga go gs W.heap.size p q st te tick slot vc v ks.length ks xs base (W.alloc (.cells (ks.map (Value.int .i64)).toArray 3 (0, 0))) (blk_alloc ha _) (blk_alloc hg _) (blk_alloc hs _) (blk_new W _) n1 n2 (by omega) (Kd.R_alloc (Kd.R_mono (Kd.R_bound hr) (fun k hk => ⟨hk.1.1, hk.1.2.1, hk.1.2.2, by have := hk.2.2.1; omega⟩)) _) (Nat.le_trans hb (by simp)) hgo hl hkl (Nat.le_refl _)).mono ?_
 rintro e w' ⟨v', he, h1, h2, h3, h4, h5⟩
 exact ⟨v', he, h1, h2, h3, Kd.R_mono h4 (fun k hk => ⟨hk.1, hk.2.1, hk.2.2.1⟩), ((Below.refl base W).alloc hb _).trans h5⟩

theorem w64_ {n : Int} (h0 : 0 ≤ n) (h1 : n < 9223372036854775808) : wrap64 n = n := by unfold wrap64; omega
theorem index_ok (l : List Int) (hl : l.length ≤ 9223372036854775807) (a : Int) : ∀ (t : List Int) (i : Int), 0 ≤ i → i + t.length = l.length → l.drop i.toNat = t → ∃ k r, slices_Index_int_int.l0 k l a l.length i = some r ∧ (0 ≤ r ↔ a ∈ t)
 | [], i, h0, hi, hd => ⟨1, -1, by rw [slices_Index_int_int.l0, if_neg (by simp at hi; omega)], by simp⟩
 | e :: t, i, h0, hi, hd => by
  rw [List.length_cons] at hi
  push_cast at hi
  have hr : rd l i = e := by
   have : (l.drop i.toNat)[0]? = some e := by rw [hd]; rfl
   rw [List.getElem?_drop] at this
   simp [rd, List.getD_eq_getElem?_getD] at this ⊢
   rw [this]; rfl
  by_cases q : a = e
  ·exact ⟨1, i, by rw [slices_Index_int_int.l0, if_pos (by omega), if_pos h0, if_pos (by omega), hr, if_pos q], by simp [q]; omega⟩
  ·obtain ⟨k, r, h1, h2⟩ := index_ok l hl a t (i + 1) (by omega) (by omega) (by rw [show (i + 1).toNat = i.toNat + 1 by omega, ← List.drop_drop, hd]; rfl)
   refine ⟨k + 1, r, ?_, by rw [h2]; simp [q]⟩
   rw [slices_Index_int_int.l0, if_pos (by omega), if_pos h0, if_pos (by omega), hr, if_neg q, w64_ (by omega) (by omega), h1]
theorem contains_ok (l : List Int) (hl : l.length ≤ 9223372036854775807) (a : Int) : ∃ k, slices_Contains_int_int.f k l a = some (decide (a ∈ l)) := by
 obtain ⟨k, r, h1, h2⟩ := index_ok l hl a l 0 (Int.le_refl _) (by omega) rfl
 refine ⟨k, ?_⟩
 unfold slices_Contains_int_int.f slices_Index_int_int.f
 rw [h1]
 simp only [Option.bind_some, ge_iff_le, h2]
def planT (slot p q : Int) (l : List Int) : Nat → Int → List S36
 | 0, _ => []
 | n + 1, t => bothL t slot p q [5] ++ (if t ∈ l then bothL t slot p q [6] else []) ++ planT slot p q l n (t + 1)
def planL (a0 a1 a2 a3 : Int) (l : List Int) (slot : Int) (settle : Bool) : List S36 := bothL a2 slot a0 a1 [1, 2, 3, 4] ++ planT slot a0 a1 l a3.toNat (a2 + 1) ++ (if settle = true then bothL (a2 + a3 + 1) slot a0 a1 [7] else [])
theorem valid_ok {k : Nat} {a0_0 a0_1 a0_2 a0_3 : Int} {l0_4 : List Int} (h : duty_Valid.f k a0_0 a0_1 a0_2 a0_3 l0_4 = some true) : 1 ≤ a0_3 ∧ a0_3 ≤ 16 ∧ 0 ≤ a0_2 ∧ a0_2 ≤ 16 - a0_3 := by
 have hj : ∀ k : Nat, duty_Valid.j0 k true a0_0 a0_1 a0_2 a0_3 l0_4 ≠ some true := fun k => by cases k <;> simp [duty_Valid.j0]
 unfold duty_Valid.f at h
 obtain ⟨t, -, h⟩ := Option.bind_eq_some_iff.mp h
 split at h
 ·obtain ⟨t, -, h⟩ := Option.bind_eq_some_iff.mp h
  split at h
  ·split at h
   ·exact absurd h (hj _)
   ·split at h
    ·exact absurd h (hj _)
    ·split at h
     ·exact absurd h (hj _)
     ·split at h
      ·exact absurd h (hj _)
      ·rename_i h1 h2 h3
       rw [w64_ (by omega) (by omega)] at h
       by_cases q : a0_2 > 16 - a0_3
       ·rw [decide_eq_true q] at h; exact absurd h (hj _)
       ·omega
  ·exact absurd h (hj _)
 ·exact absurd h (hj _)
def duty_Plan.f (k : Nat) (a0_0 : Int) (a0_1 : Int) (a0_2 : Int) (a0_3 : Int) (l0_4 : List Int) (a1 : Int) (a2 : Bool) : Option (List S36 × Int) := if a1 < 0 then some ([], 1) else if a1 ≥ 6 then some ([], 1) else (duty_Valid.f k a0_0 a0_1 a0_2 a0_3 l0_4).bind fun t => if t = true then some (planL a0_0 a0_1 a0_2 a0_3 l0_4 a1 a2, 0) else some ([], 44)
theorem duty_Plan.mono : ∀ a0 a1 a2 a3 a4 a5 a6 k, LeO (duty_Plan.f k a0 a1 a2 a3 a4 a5 a6) (duty_Plan.f (k + 1) a0 a1 a2 a3 a4 a5 a6) := by
 intro a0 a1 a2 a3 a4 a5 a6 k
 unfold duty_Plan.f
 exact LeO.ite (LeO.refl _) (LeO.ite (LeO.refl _) (LeO.bind (duty_Valid.mono _ _ _ _ _ _) (fun _ => LeO.refl _)))

set_option maxHeartbeats 4000000 in
set_option maxRecDepth 100000 in
theorem duty_Plan.calls (k : Nat) (a0_0 : Int) (a0_1 : Int) (a0_2 : Int) (a0_3 : Int) (A0_4 : Option Addr) (c0_4 : Nat) (l0_4 : List Int) (a1 : Int) (a2 : Bool) (r1 : List (S36)) (r2 : Int) (w : World) (hr0_4 : Kd.C (Kd.int .i64) w A0_4 l0_4.length l0_4) (hc0_4 : l0_4.length ≤ c0_4) (h : duty_Plan.f k a0_0 a0_1 a0_2 a0_3 l0_4 a1 a2 = some (r1, r2)) :
  Calls Tryd.prog 19 #[.agg #[.int .i64 a0_0, .int .i64 a0_1, .int .i64 a0_2, .int .i64 a0_3, .slice A0_4 l0_4.length c0_4], .int .i64 a1, .bool a2] w fun e w' => ∃ v0_ : Value, e = .returned (.tuple #[v0_, .int .i64 r2]) ∧ Kd.R k36 36 w' w.heap.size (fun _ => True) v0_ r1 ∧ Below w.heap.size w w' := by
 have hu := Tryd.underlying26
 unfold duty_Plan.f at h
 have HR0 := Aside0.mk hr0_4
 have HC0 := Aside0.mk hc0_4
 clear hr0_4 hc0_4
 by_cases q0 : a1 < 0
 ·rw [if_pos q0] at h
  simp only [Option.some.injEq, Prod.mk.injEq] at h
  obtain ⟨rfl, rfl⟩ := h
  have b0 : decide (a1 < 0) = true := decide_eq_true q0
  clear q0
  go_enter Tryd.func19, Tryd.ntmps19
  go_wp2
  go_ret2
  exact ⟨_, rfl, Kd.R_nil _ _ _ _ _, below_alloc (below_alloc (Below.refl _ _) _) _⟩
 rw [if_neg q0] at h
 have b0 : decide (a1 < 0) = false := decide_eq_false q0
 by_cases q1 : a1 ≥ 6
 ·rw [if_pos q1] at h
  simp only [Option.some.injEq, Prod.mk.injEq] at h
  obtain ⟨rfl, rfl⟩ := h
  have b1 : decide (a1 ≥ 6) = true := decide_eq_true q1
  have b2 : decide (6 ≤ a1) = true := decide_eq_true q1
  clear q0 q1
  go_enter Tryd.func19, Tryd.ntmps19
  go_wp2
  go_ret2
  exact ⟨_, rfl, Kd.R_nil _ _ _ _ _, below_alloc (below_alloc (Below.refl _ _) _) _⟩
 rw [if_neg q1] at h
 have b1 : decide (a1 ≥ 6) = false := decide_eq_false q1
 have b2 : decide (6 ≤ a1) = false := decide_eq_false q1
 have HQ := Aside0.mk (And.intro q0 q1)
 clear q0 q1
 obtain ⟨t, hv, h⟩ := Option.bind_eq_some_iff.mp h
 have HV := Aside0.mk hv
 clear hv
 cases t
 ·rw [if_neg (by simp)] at h
  simp only [Option.some.injEq, Prod.mk.injEq] at h
  obtain ⟨rfl, rfl⟩ := h
  go_enter Tryd.func19, Tryd.ntmps19
  go_wp2_with fail
  refine (duty_Valid.calls k a0_0 a0_1 a0_2 a0_3 A0_4 c0_4 l0_4 false _ (Kd.C_alloc (Kd.C_alloc HR0.out _) _) HC0.out HV.out).mono ?_
  rintro e w1 ⟨rfl, hb⟩
  go_wp2
  go_ret2
  exact ⟨_, rfl, Kd.R_nil _ _ _ _ _, below_step (below_alloc (below_alloc (Below.refl _ _) _) _) hb⟩
 ·rw [if_pos rfl] at h
  simp only [Option.some.injEq, Prod.mk.injEq] at h
  obtain ⟨rfl, rfl⟩ := h
  obtain ⟨v1, v2, v3, v4⟩ := valid_ok HV.out
  go_enter Tryd.func19, Tryd.ntmps19
  go_wp2_with fail
  have hA := blk_alloc (blk_new w (.cells #[.int .i64 a0_0, .int .i64 a0_1, .int .i64 a0_2, .int .i64 a0_3, .slice A0_4 l0_4.length c0_4] 26 (0, 0))) (.cells #[.int .i64 a1] 3 (0, 0))
  have hS := blk_new (w.alloc (.cells #[.int .i64 a0_0, .int .i64 a0_1, .int .i64 a0_2, .int .i64 a0_3, .slice A0_4 l0_4.length c0_4] 26 (0, 0))) (.cells #[.int .i64 a1] 3 (0, 0))
  rw [show (w.alloc (.cells #[.int .i64 a0_0, .int .i64 a0_1, .int .i64 a0_2, .int .i64 a0_3, .slice A0_4 l0_4.length c0_4] 26 (0, 0))).heap.size = w.heap.size + 1 by simp] at hS
  refine (duty_Valid.calls k a0_0 a0_1 a0_2 a0_3 A0_4 c0_4 l0_4 true _ (Kd.C_alloc (Kd.C_alloc HR0.out _) _) HC0.out HV.out).mono ?_
  rintro e w1 ⟨rfl, hb⟩
  have hsz : w.heap.size + 2 ≤ w1.heap.size := by have := hb.size; simpa using this
  have hA := blk_below hA hb; have hS := blk_below hS hb
  have HB1 := Aside0.mk (below_step (below_alloc (below_alloc (Below.refl w.heap.size w) (.cells #[.int .i64 a0_0, .int .i64 a0_1, .int .i64 a0_2, .int .i64 a0_3, .slice A0_4 l0_4.length c0_4] 26 (0, 0))) (.cells #[.int .i64 a1] 3 (0, 0))) hb)
  have HA1 := Aside0.mk (blk_alloc hA (.cells #[.slice none 0 0] 30 (0, 0))); have HS1 := Aside0.mk (blk_alloc hS (.cells #[.slice none 0 0] 30 (0, 0))); have HG1 := Aside0.mk (blk_new w1 (.cells #[.slice none 0 0] 30 (0, 0)))
  have HB2 := Aside0.mk (below_alloc HB1.out (.cells #[.slice none 0 0] 30 (0, 0)))
  have c2 := blk_cell HA1.out 2
  clear hA hS hb
  go_wp2_with fail
  refine (duty_both_at w.heap.size w1.heap.size (w.heap.size + 1) a0_0 a0_1 a0_2 a0_3 a0_2 a1 (.slice A0_4 l0_4.length c0_4) (.slice none 0 0) [1, 2, 3, 4] [] w.heap.size (w1.heap.size + 1) 4 (.cells #[.int .i64 1, .int .i64 2, .int .i64 3, .int .i64 4] 3 (0, 0)) (w1.alloc (.cells #[.slice none 0 0] 30 (0, 0))) (by simp) rfl rfl HA1.out HG1.out HS1.out (by omega) (by omega) (Kd.R_nil _ _ _ _ _) HB2.out.size (by omega) (by simp) (by simp)).mono ?_
  rintro e w2 ⟨v2, rfl, hA, hG, hS, ho, hb⟩
  obtain ⟨A2, d2, rfl⟩ := Kd.R_slice ho
  obtain ⟨F, hF⟩ : ∃ F, F = bothL a0_2 a1 a0_0 a0_1 [1, 2, 3, 4] ++ planT a1 a0_0 a0_1 l0_4 a0_3.toNat (a0_2 + 1) := ⟨_, rfl⟩
  have HF := Aside0.mk hF
  obtain ⟨z1, hz1⟩ : ∃ z1, z1 = [] ++ bothL a0_2 a1 a0_0 a0_1 [1, 2, 3, 4] := ⟨_, rfl⟩
  rw [← hz1] at ho hG
  have hzl : z1.length = 8 := by rw [hz1]; simp [bothL]
  have HF1 : Aside0 (z1 ++ planT a1 a0_0 a0_1 l0_4 a0_3.toNat (a0_2 + 1) = F) := ⟨by rw [hz1, hF]; simp⟩
  have HA := Aside0.mk hA; have HG := Aside0.mk hG; have HS := Aside0.mk hS; have HR := Aside0.mk ho; have HB := Aside0.mk (HB2.out.trans hb)
  clear hA hG hS ho hb hF hz1 HA1 HS1 HG1 HB1 HB2 c2
  generalize w1.heap.size = go at *
  have c2 := blk_cell HA.out 2
  have hw1 : IntKind.i64.wrap (a0_2 + 1) = a0_2 + 1 := IntWalk.i64_in _ (by omega)
  have hw2 : IntKind.i64.wrap (a0_2 + a0_3) = a0_2 + a0_3 := IntWalk.i64_in _ (by omega)
  have HW2 := Aside0.mk hw2
  clear hw2
  go_wp2
  clear c2 hw1
  go_loopg [10] a0_3.toNat (fun kq v10 w' => ∃ (t : Int) (A : Option Addr) (n cap : Nat) (zs : List S36), v10 = .int .i64 t ∧ t + kq = a0_2 + 1 + a0_3 ∧ 1 ≤ t ∧ (zs.length : Int) + 4 * kq ≤ 80 ∧ Aside0 (zs ++ planT a1 a0_0 a0_1 l0_4 kq t = F) ∧ Aside0 (w'.heap[w.heap.size]? = some (.cells #[.int .i64 a0_0, .int .i64 a0_1, .int .i64 a0_2, .int .i64 a0_3, .slice A0_4 l0_4.length c0_4] 26 (0, 0))) ∧ Aside0 (w'.heap[go]? = some (.cells #[.slice A n cap] 30 (0, 0))) ∧ Aside0 (w'.heap[w.heap.size + 1]? = some (.cells #[.int .i64 a1] 3 (0, 0))) ∧ Aside0 (Kd.R k36 36 w' w.heap.size (fun k => k ≠ go ∧ k ≠ w.heap.size ∧ k ≠ w.heap.size + 1) (.slice A n cap) zs) ∧ Aside0 (Below w.heap.size w w'))
  case atStart => exact ⟨a0_2 + 1, A2, z1.length, d2, z1, by go_num, by omega, by omega, by omega, HF1, HA, HG, HS, HR, HB⟩
  case round =>
   clear HA HG HS HR HB HF1
   obtain ⟨t, A, n, cap, zs, rfl, hk, ht1, hzn, HF1, HA, HG, HS, HR, HB⟩ := hrel
   have c2 := blk_cell HA.out 2
   have c3 := blk_cell HA.out 3
   have hw2 := HW2.out
   by_cases hlt : t ≤ a0_2 + a0_3
   ·obtain ⟨m, rfl⟩ : ∃ m, gk = m + 1 := ⟨gk - 1, by omega⟩
    go_wp2_with fail
    refine (duty_both_at w.heap.size go (w.heap.size + 1) a0_0 a0_1 a0_2 a0_3 (t) a1 (.slice A0_4 l0_4.length c0_4) (.slice A n cap) [5] zs w.heap.size wr.heap.size 1 (.cells #[.int .i64 5] 3 (0, 0)) wr rfl rfl rfl HA.out HG.out HS.out (by omega) (by omega) HR.out HB.out.size (by omega) (by omega) (by simp)).mono ?_
    rintro e w2 ⟨v2, rfl, hA, hG, hS, ho, hb⟩
    obtain ⟨A2, d2, rfl⟩ := Kd.R_slice ho
    obtain ⟨z2, hz⟩ : ∃ z, z = zs ++ bothL (t) a1 a0_0 a0_1 [5] := ⟨_, rfl⟩
    rw [← hz] at ho hG
    have hzl2 : z2.length = zs.length + 2 := by rw [hz, List.length_append, bothL_length]; simp
    have HZ2 := Aside0.mk hz
    have HA2 := Aside0.mk hA; have HG2 := Aside0.mk hG; have HS2 := Aside0.mk hS; have HR2 := Aside0.mk ho; have HB2 := Aside0.mk (HB.out.trans hb)
    clear hA hG hS ho hb hz
    clear c2 c3
    have c4 := blk_cell HA2.out 4
    obtain ⟨kc, hc⟩ := contains_ok l0_4 (Kd.C_max HR0.out) t
    obtain ⟨bm, hbm⟩ : ∃ b, b = decide (t ∈ l0_4) := ⟨_, rfl⟩
    rw [← hbm] at hc
    have HC := Aside0.mk hc; have HBM := Aside0.mk hbm; clear hc hbm
    go_wp2_with fail
    refine (slices_Contains_int_int.calls kc A0_4 c0_4 l0_4 t bm _ (Kd.C_below HR0.out HB2.out) HC0.out HC.out).mono ?_
    rintro e w3 ⟨rfl, hd⟩
    obtain ⟨nd, rfl⟩ := hd.out
    clear c4 hd
    have HA3 : Aside0 ((w2.drewN nd).heap[w.heap.size]? = some (.cells #[.int .i64 a0_0, .int .i64 a0_1, .int .i64 a0_2, .int .i64 a0_3, .slice A0_4 l0_4.length c0_4] 26 (0, 0))) := ⟨HA2.out⟩
    have HG3 : Aside0 ((w2.drewN nd).heap[go]? = some (.cells #[.slice A2 z2.length d2] 30 (0, 0))) := ⟨HG2.out⟩
    have HS3 : Aside0 ((w2.drewN nd).heap[w.heap.size + 1]? = some (.cells #[.int .i64 a1] 3 (0, 0))) := ⟨HS2.out⟩
    have HR3 : Aside0 (Kd.R k36 36 (w2.drewN nd) w.heap.size (fun k => k ≠ go ∧ k ≠ w.heap.size ∧ k ≠ w.heap.size + 1) (.slice A2 z2.length d2) z2) := ⟨HR2.out⟩
    have HB3 : Aside0 (Below w.heap.size w (w2.drewN nd)) := ⟨pw_below_drewN HB2.out nd⟩
    clear HA2 HG2 HS2 HR2 HB2
    generalize w2.drewN nd = W3 at *
    cases bm
    ·have HF2 : Aside0 (z2 ++ planT a1 a0_0 a0_1 l0_4 m (t + 1) = F) := ⟨by rw [← HF1.out, HZ2.out, planT, if_neg (of_decide_eq_false HBM.out.symm)]; simp⟩
     go_wp2
     go_roundg m
     case measure => omega
     case rel => exact ⟨t + 1, A2, z2.length, d2, z2, by go_num, by omega, by omega, by omega, HF2, HA3, HG3, HS3, HR3, HB3⟩
    ·skip
     go_wp2_with fail
     refine (duty_both_at w.heap.size go (w.heap.size + 1) a0_0 a0_1 a0_2 a0_3 (t) a1 (.slice A0_4 l0_4.length c0_4) (.slice A2 z2.length d2) [6] z2 w.heap.size W3.heap.size 1 (.cells #[.int .i64 6] 3 (0, 0)) W3 rfl rfl rfl HA3.out HG3.out HS3.out (by omega) (by omega) HR3.out HB3.out.size (by omega) (by omega) (by simp)).mono ?_
     rintro e w4 ⟨v4, rfl, hA, hG, hS, ho, hb⟩
     obtain ⟨A4, d4, rfl⟩ := Kd.R_slice ho
     obtain ⟨z4, hz⟩ : ∃ z, z = z2 ++ bothL (t) a1 a0_0 a0_1 [6] := ⟨_, rfl⟩
     rw [← hz] at ho hG
     have hzl4 : z4.length = z2.length + 2 := by rw [hz, List.length_append, bothL_length]; simp
     have HZ4 := Aside0.mk hz
     have HA4 := Aside0.mk hA; have HG4 := Aside0.mk hG; have HS4 := Aside0.mk hS; have HR4 := Aside0.mk ho; have HB4 := Aside0.mk (HB3.out.trans hb)
     clear hA hG hS ho hb hz
     have HF2 : Aside0 (z4 ++ planT a1 a0_0 a0_1 l0_4 m (t + 1) = F) := ⟨by rw [← HF1.out, HZ4.out, HZ2.out, planT, if_pos (of_decide_eq_true HBM.out.symm)]; simp⟩
     go_wp2
     go_roundg m
     case measure => omega
     case rel => exact ⟨t + 1, A4, z4.length, d4, z4, by go_num, by omega, by omega, by omega, HF2, HA4, HG4, HS4, HR4, HB4⟩
   ·obtain rfl : gk = 0 := by omega
    have hF1 : zs = F := by have := HF1.out; simpa [planT] using this
    cases a2
    ·have e : planL a0_0 a0_1 a0_2 a0_3 l0_4 a1 false = zs := by rw [hF1, HF.out]; simp [planL]
     have HE := Aside0.mk e
     clear e hF1
     have c0 := blk_cell HG.out 0
     go_wp2
     go_ret2
     rw [HE.out]
     exact ⟨_, rfl, Kd.R_mono HR.out (fun _ _ => trivial), HB.out⟩
    ·have hw3 : IntKind.i64.wrap (a0_2 + a0_3 + 1) = a0_2 + a0_3 + 1 := IntWalk.i64_in _ (by omega)
     have HFF := Aside0.mk hF1
     clear hF1
     go_wp2_with fail
     refine (duty_both_at w.heap.size go (w.heap.size + 1) a0_0 a0_1 a0_2 a0_3 (a0_2 + a0_3 + 1) a1 (.slice A0_4 l0_4.length c0_4) (.slice A n cap) [7] zs w.heap.size wr.heap.size 1 (.cells #[.int .i64 7] 3 (0, 0)) wr rfl rfl rfl HA.out HG.out HS.out (by omega) (by omega) HR.out HB.out.size (by omega) (by omega) (by simp)).mono ?_
     rintro e w2 ⟨v2, rfl, hA, hG, hS, ho, hb⟩
     obtain ⟨A2, d2, rfl⟩ := Kd.R_slice ho
     obtain ⟨z2, hz⟩ : ∃ z, z = zs ++ bothL (a0_2 + a0_3 + 1) a1 a0_0 a0_1 [7] := ⟨_, rfl⟩
     rw [← hz] at ho hG
     have hzl2 : z2.length = zs.length + 2 := by rw [hz, List.length_append, bothL_length]; simp
     have HZ2 := Aside0.mk hz
     have HA2 := Aside0.mk hA; have HG2 := Aside0.mk hG; have HS2 := Aside0.mk hS; have HR2 := Aside0.mk ho; have HB2 := Aside0.mk (HB.out.trans hb)
     clear hA hG hS ho hb hz
     have e : planL a0_0 a0_1 a0_2 a0_3 l0_4 a1 true = z2 := by rw [HZ2.out, HFF.out, HF.out]; simp [planL]
     have HE := Aside0.mk e
     clear e c2 c3 hzl2
     have c0 := blk_cell HG2.out 0
     go_wp2
     go_ret2
     rw [HE.out]
     exact ⟨_, rfl, Kd.R_mono HR2.out (fun _ _ => trivial), HB2.out⟩


/-! ### api_Duty_84: function 84 -/
def api_Duty_84.f (a1 : Int) : Option (List S36) := if 0 ≤ a1 ∧ a1 * 32 ≤ 140737488351232 then some [] else none
set_option maxHeartbeats 4000000 in
set_option maxRecDepth 100000 in
theorem api_Duty_84.calls (a1 : Int) (r : List S36) (w : World) (h : api_Duty_84.f a1 = some r) :
  Calls Tryd.prog 84 #[.slice none 0 0, .int .i64 a1] w fun e w' => ∃ v0_ : Value, e = .returned (v0_) ∧ Kd.R k36 36 w' w.heap.size (fun _ => True) v0_ r ∧ Below w.heap.size w w' := by
 unfold api_Duty_84.f at h
 split at h
 ·rename_i hh
  obtain ⟨h0, h1⟩ := hh
  obtain rfl := Option.some.inj h
  clear h
  have hneg : ¬ a1 < 0 := by omega
  have hw : IntKind.i64.wrap a1 = a1 := IntWalk.i64_in _ (by omega)
  by_cases hz : a1 = 0
  ·subst hz
   go_enter Tryd.func84, Tryd.ntmps84
   go_wp2
   go_ret
   exact ⟨_, rfl, Kd.R_nil _ _ _ _ _, Below.refl _ _⟩
  ·have hp : 0 < a1 := by omega
   obtain ⟨i0, hi0, _, hsz0, _⟩ := info_parts info36
   have HB := Aside0.mk h1
   clear h1 hz
   have hc0 := cut_to (P := Tryd.prog) 30 36 .i64 Tryd.underlying30 hi0 none 0 0 0 (by omega) (by omega) (Nat.le_refl 0)
   go_enter Tryd.func84, Tryd.ntmps84
   go_wp2_with (first | ((with_reducible refine gate_builtin (b := .append) (xs := #[.tmp 20, .tmp 21]) rfl ?_); at_builtin; refine Kd.R_append_zeros k36 (w0 := w) w.heap.size rfl (.tmp 20) (.tmp 21) 30 3 36 (.agg #[(.int .i64 0), (.int .i64 0), (.int .i64 0), (.int .i64 0)]) 32 rfl Tryd.underlying30 Tryd.underlying3 info36 rfl (by decide) (by decide) (.slice none 0 0) ([] : List S36) z36 a1 (fun _ => True) rfl rfl (k36_mkM _ _ _ z36) (fun _ _ => trivial) (Kd.R_nil k36 36 w w.heap.size (fun _ => True)) h0 (Below.refl _ _) (Nat.le_refl _) ?aL ?_; (case aL => have := HB.out; simp; omega); intro v1 w1 ho hb hg hat; have HO := Aside0.mk ho; have HB1 := Aside0.mk hb; obtain ⟨Ao, co, eo⟩ := Kd.R_slice HO.out; clear ho hb hg hat; subst eo; have hcut := cut_to (P := Tryd.prog) 30 36 .i64 Tryd.underlying30 hi0 Ao ([] ++ List.replicate a1.toNat z36).length co 0 (by omega) (by omega) (Kd.R_reads' HO.out).2.1))
   all_goals (try go_wp2)
   go_ret
   exact ⟨_, rfl, by have h_ := Kd.R_take (m := 0) HO.out (by omega); rwa [List.take_zero] at h_, HB1.out⟩
 ·cases h

/-! ### api_Duty_64: function 64 -/
mutual
def api_Duty_64.l0 : Nat → List (List (S36)) → Int → List (List (S36)) → Int → Int → Option ((List (S36)))
 | 0, _, _, _, _, _ => none
 | k + 1, x0, x3, x9, x10, x11 => if x11 < x10 then (if 0 ≤ x11 then (if x11 < (x9.length : Int) then (if (wrap64 (x3 + ((rd_L6 x9 x11).length : Int))) < 0 then (none) else (api_Duty_64.l0 k x0 (wrap64 (x3 + ((rd_L6 x9 x11).length : Int))) x9 x10 (wrap64 (x11 + 1)))) else (none)) else (none)) else ((api_Duty_84.f x3).bind fun t154 => (api_Duty_64.l1 k t154 x0 (x0.length : Int) 0))
def api_Duty_64.l1 : Nat → List (S36) → List (List (S36)) → Int → Int → Option ((List (S36)))
 | 0, _, _, _, _ => none
 | k + 1, x6, x25, x26, x27 => if x27 < x26 then (if 0 ≤ x27 then (if x27 < (x25.length : Int) then (if x6.length + (rd_L6 x25 x27).length < 4398046511104 then (api_Duty_64.l1 k (x6 ++ (rd_L6 x25 x27)) x25 x26 (wrap64 (x27 + 1))) else (none)) else (none)) else (none)) else (some x6)
end
def api_Duty_64.f (k : Nat) (l0 : List (List (S36))) : Option ((List (S36))) := api_Duty_64.l0 k l0 0 l0 (l0.length : Int) 0
theorem api_Duty_64.mono_l : ∀ k, (∀ y0 y1 y2 y3 y4, LeO (api_Duty_64.l0 k y0 y1 y2 y3 y4) (api_Duty_64.l0 (k + 1) y0 y1 y2 y3 y4)) ∧ (∀ y0 y1 y2 y3, LeO (api_Duty_64.l1 k y0 y1 y2 y3) (api_Duty_64.l1 (k + 1) y0 y1 y2 y3))
 | 0 => ⟨fun _ _ _ _ _ r h => by simp [api_Duty_64.l0] at h, fun _ _ _ _ r h => by simp [api_Duty_64.l1] at h⟩
 | k + 1 => by
  obtain ⟨ih0, ih1⟩ := api_Duty_64.mono_l k
  refine ⟨?_, ?_⟩
  ·intro y0 y1 y2 y3 y4
   unfold api_Duty_64.l0
   repeat' first
   | (with_reducible exact ih0 _ _ _ _ _)
   | (with_reducible exact ih1 _ _ _ _)
   | (with_reducible exact LeO.refl _)
   | (with_reducible exact LeO.none _)
   | (with_reducible refine LeO.ite ?_ ?_)
   | (with_reducible refine LeO.bind ?_ (fun _ => ?_))
   | exact ih0 _ _ _ _ _
   | exact ih1 _ _ _ _
   | exact LeO.none _
   | refine LeO.ite ?_ ?_
   | refine LeO.bind ?_ (fun _ => ?_)
  ·intro y0 y1 y2 y3
   unfold api_Duty_64.l1
   repeat' first
   | (with_reducible exact ih0 _ _ _ _ _)
   | (with_reducible exact ih1 _ _ _ _)
   | (with_reducible exact LeO.refl _)
   | (with_reducible exact LeO.none _)
   | (with_reducible refine LeO.ite ?_ ?_)
   | (with_reducible refine LeO.bind ?_ (fun _ => ?_))
   | exact ih0 _ _ _ _ _
   | exact ih1 _ _ _ _
   | exact LeO.none _
   | refine LeO.ite ?_ ?_
   | refine LeO.bind ?_ (fun _ => ?_)
theorem api_Duty_64.mono : ∀ a0 k, LeO (api_Duty_64.f k a0) (api_Duty_64.f (k + 1) a0) := by
 intro a0 k
 obtain ⟨ih0, ih1⟩ := api_Duty_64.mono_l k
 unfold api_Duty_64.f
 repeat' first
   | (with_reducible exact ih0 _ _ _ _ _)
   | (with_reducible exact ih1 _ _ _ _)
   | (with_reducible exact LeO.refl _)
   | (with_reducible exact LeO.none _)
   | (with_reducible refine LeO.ite ?_ ?_)
   | (with_reducible refine LeO.bind ?_ (fun _ => ?_))
   | exact ih0 _ _ _ _ _
   | exact ih1 _ _ _ _
   | exact LeO.none _
   | refine LeO.ite ?_ ?_
   | refine LeO.bind ?_ (fun _ => ?_)
set_option maxHeartbeats 8000000 in
set_option maxRecDepth 100000 in
theorem api_Duty_64.calls (k : Nat) (A0 : Option Addr) (c0 : Nat) (l0 : List (List (S36))) (r : List (S36)) (w : World) (hr0 : Kd.C (Kd.slice 36 k36) w A0 l0.length l0) (hc0 : l0.length ≤ c0) (h : api_Duty_64.f k l0 = some r) :
  Calls Tryd.prog 64 #[.slice A0 l0.length c0] w fun e w' => ∃ v0_ : Value, e = .returned (v0_) ∧ Kd.R k36 36 w' w.heap.size (fun _ => True) v0_ r ∧ Below w.heap.size w w' := by
 have HR0 := Aside0.mk hr0
 have HC0 := Aside0.mk hc0
 clear hr0 hc0
 have HB := Aside0.mk (Below.refl w.heap.size w)
 have H : (api_Duty_64.l0 k l0 0 l0 (l0.length : Int) 0) = some r := h
 clear h
 have H' := Aside0.mk H
 clear H
 go_enter Tryd.func64, Tryd.ntmps64
 go_wp2
 go_loopg [3, 11] k (fun kq v3 v11 w' => ∃ (x3_1 : Int) (x11_1 : Int), v3 = .int .i64 x3_1 ∧ v11 = .int .i64 x11_1 ∧ Aside0 (api_Duty_64.l0 kq l0 x3_1 l0 (l0.length : Int) x11_1 = some r) ∧ Aside0 (kq ≤ k) ∧ Aside0 (Below w.heap.size w w'))
 case atStart => exact ⟨(0), (0), (by first | rfl | (simp; done) | (simp [*]; done)), (by first | rfl | (simp; done) | (simp [*]; done)), H', ⟨Nat.le_refl _⟩, ⟨by repeat (first | (with_reducible first | exact HB.out | apply below_alloc | apply pw_below_drewN | apply below_drew1) | exact HB.out)⟩⟩
 case round =>
  clear H'
  obtain ⟨x3_1, x11_1, rfl, rfl, HA, HK1, HB⟩ := hrel
  cases gk with
  | zero => exact absurd HA.out (by simp [api_Duty_64.l0])
  | succ k1 =>
   have H := HA.out
   clear HA
   simp only [api_Duty_64.l0] at H
   by_cases c2 : x11_1 < (l0.length : Int)
   ·rw [if_pos c2] at H
    have c2b0 : decide (x11_1 < (l0.length : Int)) = true := decide_eq_true c2
    clear c2
    by_cases c3 : 0 ≤ x11_1
    ·rw [if_pos c3] at H
     have c3b0 : decide (0 ≤ x11_1) = true := decide_eq_true c3
     clear c3
     by_cases c4 : x11_1 < (l0.length : Int)
     ·rw [if_pos c4] at H
      have c4b0 : decide (x11_1 < (l0.length : Int)) = true := decide_eq_true c4
      clear c4
      by_cases c5 : (wrap64 (x3_1 + ((rd_L6 l0 x11_1).length : Int))) < 0
      ·rw [if_pos c5] at H
       exact absurd H (by simp)
      ·rw [if_neg c5] at H
       have c5b0 : decide ((wrap64 (x3_1 + ((rd_L6 l0 x11_1).length : Int))) < 0) = false := decide_eq_false c5
       clear c5
       have H' := Aside0.mk H
       clear H
       have p153 : 0 ≤ (x11_1 : Int) := of_decide_eq_true (by first | (with_reducible assumption) | assumption)
       have q153 : x11_1 < (l0.length : Int) := of_decide_eq_true (by first | (with_reducible assumption) | assumption)
       obtain ⟨ad153, A153_0, c153_0, e153, hx153_0, hl153_0, hi153_0⟩ := at_L6 HR0.out x11_1 p153 q153
       cases e153
       replace hx153_0 := (HB.out.cell (World.block_lt_of_cell? w _ hx153_0)).trans hx153_0
       have HR153_0 := Aside0.mk hi153_0
       have HC153_0 := Aside0.mk hl153_0
       clear hi153_0 hl153_0
       replace p153 := eq_true p153
       replace q153 := eq_true q153
       go_wp2
       go_roundg k1
       case measure => have := HK1.out; omega
       case rel => exact ⟨(wrap64 (x3_1 + ((rd_L6 l0 x11_1).length : Int))), (wrap64 (x11_1 + 1)), (by first | rfl | (simp; done) | (simp [*]; done)), (by first | rfl | (simp; done) | (simp [*]; done)), H', ⟨by have := HK1.out; omega⟩, ⟨by repeat (first | (with_reducible first | exact HB.out | apply below_alloc | apply pw_below_drewN | apply below_drew1) | exact HB.out)⟩⟩
     ·rw [if_neg c4] at H
      exact absurd H (by simp)
    ·rw [if_neg c3] at H
     exact absurd H (by simp)
   ·rw [if_neg c2] at H
    have c2b0 : decide (x11_1 < (l0.length : Int)) = false := decide_eq_false c2
    clear c2
    replace H := Option.bind_eq_some_iff.mp H
    obtain ⟨t154, A60, H⟩ := H
    replace H : (api_Duty_64.l1 k1 t154 l0 (l0.length : Int) 0) = some r := H
    have A6 := Aside0.mk A60
    clear A60
    have H' := Aside0.mk H
    clear H
    go_wp2_with (first | ((with_reducible refine gate_callee (f := 84) rfl ?_); refine goesL_ (some 24) rfl rfl Tryd.func84 (by kernel_rfl) rfl #[.slice none 0 0, .int .i64 x3_1] rfl (by (try simp only [List.map_toArray, List.map_cons, List.map_nil]); first | done | rfl | (simp only [List.length_drop, List.length_take]; rfl)) ?_; (with_reducible refine (api_Duty_84.calls x3_1 t154 _ A6.out).mono ?_); rintro e w7 ⟨v155, rfl, ho0, hb⟩; refine ⟨_, rfl, ?_⟩; have n0_ := Aside0.mk (Kd.R_lower ho0 (below_size (by repeat (first | (with_reducible first | exact HB.out | apply below_alloc | apply pw_below_drewN | apply below_drew1) | exact HB.out)))); have n1_ := Aside0.mk (below_step (by repeat (first | (with_reducible first | exact HB.out | apply below_alloc | apply pw_below_drewN | apply below_drew1) | exact HB.out)) hb); clear HB; have HO156 := n0_; have HB := n1_; clear n0_ n1_; (try clear hb); (try clear hb2); (try clear hk); (try clear hi); (try clear hgw); (try clear ho0)))
    (try simp only [Act.put, List.setIfInBounds_toArray, List.set_cons_zero, List.set_cons_succ])
    go_loopg [6, 27] k1 (fun kq v6 v27 w' => ∃ (x6_2 : List (S36)) (x27_2 : Int), v27 = .int .i64 x27_2 ∧ Aside0 (api_Duty_64.l1 kq x6_2 l0 (l0.length : Int) x27_2 = some r) ∧ Aside0 (kq ≤ k1) ∧ Aside0 (Kd.R k36 36 w' w.heap.size (fun _ => True) v6 x6_2) ∧ Aside0 (Below w.heap.size w w'))
    case atStart => exact ⟨(t154), (0), (by first | rfl | (simp; done) | (simp [*]; done)), H', ⟨Nat.le_refl _⟩, ⟨by (with_reducible repeat (first | apply Kd.R_alloc | apply Kd.R_drewN | apply Kd.R_drew)); exact HO156.out⟩, ⟨by repeat (first | (with_reducible first | exact HB.out | apply below_alloc | apply pw_below_drewN | apply below_drew1) | exact HB.out)⟩⟩
    case round =>
     clear H'
     try clear c1
     try clear p1
     try clear q1
     try clear hx1
     try clear c2
     try clear c2b0
     try clear p2
     try clear c3
     try clear c3b0
     try clear c4
     try clear c4b0
     try clear c5
     try clear c5b0
     try clear c6
     try clear p6
     try clear hx153_0
     try clear p153
     try clear q153
     obtain ⟨x6_2, x27_2, rfl, HA, HK2, HO_6, HB⟩ := hrel
     cases gk with
     | zero => exact absurd HA.out (by simp [api_Duty_64.l1])
     | succ k2 =>
      have H := HA.out
      clear HA
      simp only [api_Duty_64.l1] at H
      by_cases c8 : x27_2 < (l0.length : Int)
      ·rw [if_pos c8] at H
       have c8b0 : decide (x27_2 < (l0.length : Int)) = true := decide_eq_true c8
       clear c8
       by_cases c9 : 0 ≤ x27_2
       ·rw [if_pos c9] at H
        have c9b0 : decide (0 ≤ x27_2) = true := decide_eq_true c9
        clear c9
        by_cases c10 : x27_2 < (l0.length : Int)
        ·rw [if_pos c10] at H
         have c10b0 : decide (x27_2 < (l0.length : Int)) = true := decide_eq_true c10
         clear c10
         by_cases c11 : x6_2.length + (rd_L6 l0 x27_2).length < 4398046511104
         ·rw [if_pos c11] at H
          have LMc11 := Aside0.mk c11
          clear c11
          obtain ⟨y158, hy158⟩ : ∃ y_ : List (S36), y_ = (x6_2 ++ (rd_L6 l0 x27_2)) := ⟨_, rfl⟩
          replace H : (api_Duty_64.l1 k2 y158 l0 (l0.length : Int) (wrap64 (x27_2 + 1))) = some r := by first | (rw [hy158]; with_reducible exact H) | (have H2_ := (Option.bind_some _ _).symm.trans H; rw [hy158]; with_reducible exact H2_) | (have H2_ := (Option.bind_some _ _).symm.trans H; with_reducible exact H2_) | with_reducible exact H | (rw [hy158]; exact H) | exact H
          have Ny158 := Aside0.mk hy158
          clear hy158
          have H' := Aside0.mk H
          clear H
          have p157 : 0 ≤ (x27_2 : Int) := of_decide_eq_true (by first | (with_reducible assumption) | assumption)
          have q157 : x27_2 < (l0.length : Int) := of_decide_eq_true (by first | (with_reducible assumption) | assumption)
          obtain ⟨ad157, A157_0, c157_0, e157, hx157_0, hl157_0, hi157_0⟩ := at_L6 HR0.out x27_2 p157 q157
          cases e157
          replace hx157_0 := (HB.out.cell (World.block_lt_of_cell? w _ hx157_0)).trans hx157_0
          have HR157_0 := Aside0.mk hi157_0
          have HC157_0 := Aside0.mk hl157_0
          clear hi157_0 hl157_0
          replace p157 := eq_true p157
          replace q157 := eq_true q157
          go_wp2_with (first | ((with_reducible refine gate_builtin (b := .append) (xs := #[.tmp 31, .tmp 32]) rfl ?_); at_builtin; refine Kd.R_append_rows k36 (w0 := w) w.heap.size rfl (.tmp 31) (.tmp 32) 30 36 (.agg #[(.int .i64 0), (.int .i64 0), (.int .i64 0), (.int .i64 0)]) 32 rfl Tryd.underlying30 info36 rfl (by decide) (by omega) u6 x6_2 (rd_L6 l0 x27_2) _ _ _ (fun _ => True) (fun _ => False) rfl rfl ?aO ?aR (fun _ _ h => h) (fun _ h => h.elim) ?aF ?aB ?aS ?aL ?_; (case aR => repeat (first | exact (Kd.C_below HR157_0.out HB.out) | (with_reducible refine Kd.C_alloc ?_ _) | (with_reducible refine Kd.C_drewN ?_ _) | (with_reducible refine Kd.C_drew ?_))); (case aB => exact (by repeat (first | (with_reducible first | exact HB.out | apply below_alloc | apply pw_below_drewN | apply below_drew1) | exact HB.out))); (case aF => exact (fun _ _ => trivial)); (case aO => exact (by (with_reducible repeat (first | apply Kd.R_alloc | apply Kd.R_drewN | apply Kd.R_drew)); exact HO_6.out)); (case aS => exact (below_size (by repeat (first | (with_reducible first | exact HB.out | apply below_alloc | apply pw_below_drewN | apply below_drew1) | exact HB.out)))); (case aL => have := LMc11.out; omega); intro v159 w12 ho hb hg hat; rw [← Ny158.out] at ho; have n0_ := Aside0.mk (hb); have n1_ := Aside0.mk (ho); clear HB; clear HO_6; have HB := n0_; have HO160 := n1_; clear n0_ n1_; clear ho hb hg hat))
          go_roundg k2
          case measure => have := HK1.out; have := HK2.out; omega
          case rel => exact ⟨(y158), (wrap64 (x27_2 + 1)), (by first | rfl | (simp; done) | (simp [*]; done)), H', ⟨by have := HK1.out; have := HK2.out; omega⟩, ⟨by (with_reducible repeat (first | apply Kd.R_alloc | apply Kd.R_drewN | apply Kd.R_drew)); exact HO160.out⟩, ⟨by repeat (first | (with_reducible first | exact HB.out | apply below_alloc | apply pw_below_drewN | apply below_drew1) | exact HB.out)⟩⟩
         ·rw [if_neg c11] at H
          exact absurd H (by simp)
        ·rw [if_neg c10] at H
         exact absurd H (by simp)
       ·rw [if_neg c9] at H
        exact absurd H (by simp)
      ·rw [if_neg c8] at H
       have c8b0 : decide (x27_2 < (l0.length : Int)) = false := decide_eq_false c8
       clear c8
       obtain rfl := Option.some.inj H
       go_wp2
       go_ret
       exact ⟨_, by first | rfl | (simp [errW_none, errW_some] <;> rfl) | (simp [*, errW_none, errW_some] <;> rfl), by (with_reducible repeat (first | apply Kd.R_alloc | apply Kd.R_drewN | apply Kd.R_drew)); exact HO_6.out, by repeat (first | (with_reducible first | exact HB.out | apply below_alloc | apply pw_below_drewN | apply below_drew1) | exact HB.out)⟩

/-! ### cmp_Or_int: function 67 -/
def cmp_Or_int.l0 : Nat → Int → List Int → Int → Int → Option (Int)
 | 0, _, _, _, _ => none
 | k + 1, x3, x6, x7, x8 => if x8 < x7 then (if 0 ≤ x8 then (if x8 < (x6.length : Int) then (if (rd x6 x8) = x3 then (cmp_Or_int.l0 k x3 x6 x7 (wrap64 (x8 + 1))) else (some (rd x6 x8))) else (none)) else (none)) else (some x3)
def cmp_Or_int.f (k : Nat) (l0 : List Int) : Option (Int) := cmp_Or_int.l0 k 0 l0 (l0.length : Int) 0
theorem cmp_Or_int.mono_l : ∀ k, (∀ y0 y1 y2 y3, LeO (cmp_Or_int.l0 k y0 y1 y2 y3) (cmp_Or_int.l0 (k + 1) y0 y1 y2 y3))
 | 0 => fun _ _ _ _ r h => by simp [cmp_Or_int.l0] at h
 | k + 1 => by
  have ih0 := cmp_Or_int.mono_l k
  ·intro y0 y1 y2 y3
   unfold cmp_Or_int.l0
   repeat' first
   | (with_reducible exact ih0 _ _ _ _)
   | (with_reducible exact LeO.refl _)
   | (with_reducible exact LeO.none _)
   | (with_reducible refine LeO.ite ?_ ?_)
   | (with_reducible refine LeO.bind ?_ (fun _ => ?_))
   | exact ih0 _ _ _ _
   | exact LeO.none _
   | refine LeO.ite ?_ ?_
   | refine LeO.bind ?_ (fun _ => ?_)
theorem cmp_Or_int.mono : ∀ a0 k, LeO (cmp_Or_int.f k a0) (cmp_Or_int.f (k + 1) a0) := by
 intro a0 k
 have ih0 := cmp_Or_int.mono_l k
 unfold cmp_Or_int.f
 repeat' first
   | (with_reducible exact ih0 _ _ _ _)
   | (with_reducible exact LeO.refl _)
   | (with_reducible exact LeO.none _)
   | (with_reducible refine LeO.ite ?_ ?_)
   | (with_reducible refine LeO.bind ?_ (fun _ => ?_))
   | exact ih0 _ _ _ _
   | exact LeO.none _
   | refine LeO.ite ?_ ?_
   | refine LeO.bind ?_ (fun _ => ?_)
set_option maxHeartbeats 8000000 in
set_option maxRecDepth 100000 in
theorem cmp_Or_int.calls (k : Nat) (A0 : Option Addr) (c0 : Nat) (l0 : List Int) (r : Int) (w : World) (hr0 : Kd.C (Kd.int .i64) w A0 l0.length l0) (hc0 : l0.length ≤ c0) (h : cmp_Or_int.f k l0 = some r) :
  Calls Tryd.prog 67 #[.slice A0 l0.length c0] w fun e w' => e = .returned (.int .i64 r) ∧ Drawn0 w w' := by
 have HR0 := Aside0.mk hr0
 have HC0 := Aside0.mk hc0
 clear hr0 hc0
 have H : (cmp_Or_int.l0 k 0 l0 (l0.length : Int) 0) = some r := h
 clear h
 have H' := Aside0.mk H
 clear H
 go_enter Tryd.func67, Tryd.ntmps67
 go_wp2
 go_loopg [8] k (fun kq v8 w' => ∃ (x8_1 : Int), v8 = .int .i64 x8_1 ∧ Aside0 (cmp_Or_int.l0 kq 0 l0 (l0.length : Int) x8_1 = some r) ∧ Aside0 (kq ≤ k) ∧ Drawn0 w w')
 case atStart => exact ⟨(0), (by first | rfl | (simp; done) | (simp [*]; done)), H', ⟨Nat.le_refl _⟩, by repeat (first | exact Drawn0.refl _ | apply Drawn0.step)⟩
 case round =>
  clear H'
  obtain ⟨x8_1, rfl, HA, HK1, ⟨m1, rfl⟩⟩ := hrel
  cases gk with
  | zero => exact absurd HA.out (by simp [cmp_Or_int.l0])
  | succ k1 =>
   have H := HA.out
   clear HA
   simp only [cmp_Or_int.l0] at H
   by_cases c2 : x8_1 < (l0.length : Int)
   ·rw [if_pos c2] at H
    have c2b0 : decide (x8_1 < (l0.length : Int)) = true := decide_eq_true c2
    clear c2
    by_cases c3 : 0 ≤ x8_1
    ·rw [if_pos c3] at H
     have c3b0 : decide (0 ≤ x8_1) = true := decide_eq_true c3
     clear c3
     by_cases c4 : x8_1 < (l0.length : Int)
     ·rw [if_pos c4] at H
      have c4b0 : decide (x8_1 < (l0.length : Int)) = true := decide_eq_true c4
      clear c4
      by_cases c5 : (rd l0 x8_1) = 0
      ·rw [if_pos c5] at H
       have c5b0 : ((rd l0 x8_1) == 0) = true := beq_iff_eq.mpr c5
       have c5b1 : ((rd l0 x8_1) != 0) = false := bne_eq_false_iff_eq.mpr c5
       clear c5
       have H' := Aside0.mk H
       clear H
       have p161 : 0 ≤ (x8_1 : Int) := of_decide_eq_true (by first | (with_reducible assumption) | assumption)
       have q161 : x8_1 < (l0.length : Int) := of_decide_eq_true (by first | (with_reducible assumption) | assumption)
       obtain ⟨ad161, e161, hx161_0⟩ := Kd.at_int HR0.out x8_1 p161 q161
       cases e161
       replace p161 := eq_true p161
       replace q161 := eq_true q161
       go_wp2
       go_roundg k1
       case measure => have := HK1.out; omega
       case rel => exact ⟨(wrap64 (x8_1 + 1)), (by first | rfl | (simp; done) | (simp [*]; done)), H', ⟨by have := HK1.out; omega⟩, by repeat (first | exact Drawn0.refl _ | apply Drawn0.step)⟩
      ·rw [if_neg c5] at H
       have c5b0 : ((rd l0 x8_1) == 0) = false := beq_eq_false_iff_ne.mpr c5
       have c5b1 : ((rd l0 x8_1) != 0) = true := bne_iff_ne.mpr c5
       obtain rfl := Option.some.inj H
       have p161 : 0 ≤ (x8_1 : Int) := of_decide_eq_true (by first | (with_reducible assumption) | assumption)
       have q161 : x8_1 < (l0.length : Int) := of_decide_eq_true (by first | (with_reducible assumption) | assumption)
       obtain ⟨ad161, e161, hx161_0⟩ := Kd.at_int HR0.out x8_1 p161 q161
       cases e161
       replace p161 := eq_true p161
       replace q161 := eq_true q161
       go_wp2
       go_ret
       exact ⟨by first | rfl | (simp; done) | (simp [*]; done), by repeat (first | exact Drawn0.refl _ | apply Drawn0.step)⟩
     ·rw [if_neg c4] at H
      exact absurd H (by simp)
    ·rw [if_neg c3] at H
     exact absurd H (by simp)
   ·rw [if_neg c2] at H
    have c2b0 : decide (x8_1 < (l0.length : Int)) = false := decide_eq_false c2
    clear c2
    obtain rfl := Option.some.inj H
    go_wp2
    go_ret
    exact ⟨by first | rfl | (simp; done) | (simp [*]; done), by repeat (first | exact Drawn0.refl _ | apply Drawn0.step)⟩

/-! ### cmp_isNaN_int: function 86 -/
def cmp_isNaN_int.f (a0 : Int) : Option (Bool) := some (a0 != a0)
set_option maxHeartbeats 8000000 in
set_option maxRecDepth 100000 in
theorem cmp_isNaN_int.calls (a0 : Int) (r : Bool) (w : World) (h : cmp_isNaN_int.f a0 = some r) :
  Calls Tryd.prog 86 #[.int .i64 a0] w fun e w' => e = .returned (.bool r) ∧ Drawn0 w w' := by
 have H : (some (a0 != a0)) = some r := h
 clear h
 obtain rfl := Option.some.inj H
 go_enter Tryd.func86, Tryd.ntmps86
 go_wp2
 go_ret
 exact ⟨by first | rfl | (simp; done) | (simp [*]; done), by repeat (first | exact Drawn0.refl _ | apply Drawn0.step)⟩

/-! ### cmp_Compare_int: function 68 -/
def cmp_Compare_int.f (a0 : Int) (a1 : Int) : Option (Int) := (cmp_isNaN_int.f a0).bind fun t162 => ((cmp_isNaN_int.f a1).bind fun t163 => (if t162 = true then (if t163 = true then (some 0) else (some (-1))) else (if t163 = true then (some 1) else (if a0 < a1 then (some (-1)) else (if a0 > a1 then (some 1) else (some 0))))))
set_option maxHeartbeats 8000000 in
set_option maxRecDepth 100000 in
theorem cmp_Compare_int.calls (a0 : Int) (a1 : Int) (r : Int) (w : World) (h : cmp_Compare_int.f a0 a1 = some r) :
  Calls Tryd.prog 68 #[.int .i64 a0, .int .i64 a1] w fun e w' => e = .returned (.int .i64 r) ∧ Drawn0 w w' := by
 have H : ((cmp_isNaN_int.f a0).bind fun t162 => ((cmp_isNaN_int.f a1).bind fun t163 => (if t162 = true then (if t163 = true then (some 0) else (some (-1))) else (if t163 = true then (some 1) else (if a0 < a1 then (some (-1)) else (if a0 > a1 then (some 1) else (some 0))))))) = some r := h
 clear h
 replace H := Option.bind_eq_some_iff.mp H
 obtain ⟨t162, A30, H⟩ := H
 replace H : ((cmp_isNaN_int.f a1).bind fun t163 => (if t162 = true then (if t163 = true then (some 0) else (some (-1))) else (if t163 = true then (some 1) else (if a0 < a1 then (some (-1)) else (if a0 > a1 then (some 1) else (some 0)))))) = some r := H
 have A3 := Aside0.mk A30
 clear A30
 replace H := Option.bind_eq_some_iff.mp H
 obtain ⟨t163, A40, H⟩ := H
 replace H : (if t162 = true then (if t163 = true then (some 0) else (some (-1))) else (if t163 = true then (some 1) else (if a0 < a1 then (some (-1)) else (if a0 > a1 then (some 1) else (some 0))))) = some r := H
 have A4 := Aside0.mk A40
 clear A40
 by_cases c5 : t162 = true
 ·subst c5
  have H1 : (if t163 = true then (some 0) else (some (-1))) = some r := by rw [if_pos rfl] at H; exact H
  clear H
  have H := H1
  clear H1
  by_cases c6 : t163 = true
  ·subst c6
   have H1 : (some 0) = some r := by rw [if_pos rfl] at H; exact H
   clear H
   have H := H1
   clear H1
   obtain rfl := Option.some.inj H
   go_enter Tryd.func68, Tryd.ntmps68
   go_wp2_with (first | ((with_reducible refine gate_callee (f := 86) rfl ?_); refine goesL_ (some 8) rfl rfl Tryd.func86 (by kernel_rfl) rfl #[.int .i64 a0] rfl (by (try simp only [List.map_toArray, List.map_cons, List.map_nil]); first | done | rfl | (simp only [List.length_drop, List.length_take]; rfl)) ?_; (with_reducible refine (cmp_isNaN_int.calls a0 true _ A3.out).mono ?_); rintro e w' ⟨rfl, ⟨nd, rfl⟩⟩; refine ⟨_, rfl, ?_⟩) | ((with_reducible refine gate_callee (f := 86) rfl ?_); refine goesL_ (some 10) rfl rfl Tryd.func86 (by kernel_rfl) rfl #[.int .i64 a1] rfl (by (try simp only [List.map_toArray, List.map_cons, List.map_nil]); first | done | rfl | (simp only [List.length_drop, List.length_take]; rfl)) ?_; (with_reducible refine (cmp_isNaN_int.calls a1 true _ A4.out).mono ?_); rintro e w' ⟨rfl, ⟨nd, rfl⟩⟩; refine ⟨_, rfl, ?_⟩))
   go_ret
   exact ⟨by first | rfl | (simp; done) | (simp [*]; done), by repeat (first | exact Drawn0.refl _ | apply Drawn0.step)⟩
  ·replace c6 := Bool.eq_false_iff.mpr c6
   subst c6
   have H1 : (some (-1)) = some r := by rw [if_neg (show ¬ (false = true) by decide)] at H; exact H
   clear H
   have H := H1
   clear H1
   obtain rfl := Option.some.inj H
   go_enter Tryd.func68, Tryd.ntmps68
   go_wp2_with (first | ((with_reducible refine gate_callee (f := 86) rfl ?_); refine goesL_ (some 8) rfl rfl Tryd.func86 (by kernel_rfl) rfl #[.int .i64 a0] rfl (by (try simp only [List.map_toArray, List.map_cons, List.map_nil]); first | done | rfl | (simp only [List.length_drop, List.length_take]; rfl)) ?_; (with_reducible refine (cmp_isNaN_int.calls a0 true _ A3.out).mono ?_); rintro e w' ⟨rfl, ⟨nd, rfl⟩⟩; refine ⟨_, rfl, ?_⟩) | ((with_reducible refine gate_callee (f := 86) rfl ?_); refine goesL_ (some 10) rfl rfl Tryd.func86 (by kernel_rfl) rfl #[.int .i64 a1] rfl (by (try simp only [List.map_toArray, List.map_cons, List.map_nil]); first | done | rfl | (simp only [List.length_drop, List.length_take]; rfl)) ?_; (with_reducible refine (cmp_isNaN_int.calls a1 false _ A4.out).mono ?_); rintro e w' ⟨rfl, ⟨nd, rfl⟩⟩; refine ⟨_, rfl, ?_⟩))
   go_ret
   exact ⟨by first | rfl | (simp; done) | (simp [*]; done), by repeat (first | exact Drawn0.refl _ | apply Drawn0.step)⟩
 ·replace c5 := Bool.eq_false_iff.mpr c5
  subst c5
  have H1 : (if t163 = true then (some 1) else (if a0 < a1 then (some (-1)) else (if a0 > a1 then (some 1) else (some 0)))) = some r := by rw [if_neg (show ¬ (false = true) by decide)] at H; exact H
  clear H
  have H := H1
  clear H1
  by_cases c7 : t163 = true
  ·subst c7
   have H1 : (some 1) = some r := by rw [if_pos rfl] at H; exact H
   clear H
   have H := H1
   clear H1
   obtain rfl := Option.some.inj H
   go_enter Tryd.func68, Tryd.ntmps68
   go_wp2_with (first | ((with_reducible refine gate_callee (f := 86) rfl ?_); refine goesL_ (some 8) rfl rfl Tryd.func86 (by kernel_rfl) rfl #[.int .i64 a0] rfl (by (try simp only [List.map_toArray, List.map_cons, List.map_nil]); first | done | rfl | (simp only [List.length_drop, List.length_take]; rfl)) ?_; (with_reducible refine (cmp_isNaN_int.calls a0 false _ A3.out).mono ?_); rintro e w' ⟨rfl, ⟨nd, rfl⟩⟩; refine ⟨_, rfl, ?_⟩) | ((with_reducible refine gate_callee (f := 86) rfl ?_); refine goesL_ (some 10) rfl rfl Tryd.func86 (by kernel_rfl) rfl #[.int .i64 a1] rfl (by (try simp only [List.map_toArray, List.map_cons, List.map_nil]); first | done | rfl | (simp only [List.length_drop, List.length_take]; rfl)) ?_; (with_reducible refine (cmp_isNaN_int.calls a1 true _ A4.out).mono ?_); rintro e w' ⟨rfl, ⟨nd, rfl⟩⟩; refine ⟨_, rfl, ?_⟩))
   go_ret
   exact ⟨by first | rfl | (simp; done) | (simp [*]; done), by repeat (first | exact Drawn0.refl _ | apply Drawn0.step)⟩
  ·replace c7 := Bool.eq_false_iff.mpr c7
   subst c7
   have H1 : (if a0 < a1 then (some (-1)) else (if a0 > a1 then (some 1) else (some 0))) = some r := by rw [if_neg (show ¬ (false = true) by decide)] at H; exact H
   clear H
   have H := H1
   clear H1
   by_cases c8 : a0 < a1
   ·rw [if_pos c8] at H
    have c8b0 : decide (a0 < a1) = true := decide_eq_true c8
    clear c8
    obtain rfl := Option.some.inj H
    go_enter Tryd.func68, Tryd.ntmps68
    go_wp2_with (first | ((with_reducible refine gate_callee (f := 86) rfl ?_); refine goesL_ (some 8) rfl rfl Tryd.func86 (by kernel_rfl) rfl #[.int .i64 a0] rfl (by (try simp only [List.map_toArray, List.map_cons, List.map_nil]); first | done | rfl | (simp only [List.length_drop, List.length_take]; rfl)) ?_; (with_reducible refine (cmp_isNaN_int.calls a0 false _ A3.out).mono ?_); rintro e w' ⟨rfl, ⟨nd, rfl⟩⟩; refine ⟨_, rfl, ?_⟩) | ((with_reducible refine gate_callee (f := 86) rfl ?_); refine goesL_ (some 10) rfl rfl Tryd.func86 (by kernel_rfl) rfl #[.int .i64 a1] rfl (by (try simp only [List.map_toArray, List.map_cons, List.map_nil]); first | done | rfl | (simp only [List.length_drop, List.length_take]; rfl)) ?_; (with_reducible refine (cmp_isNaN_int.calls a1 false _ A4.out).mono ?_); rintro e w' ⟨rfl, ⟨nd, rfl⟩⟩; refine ⟨_, rfl, ?_⟩))
    go_ret
    exact ⟨by first | rfl | (simp; done) | (simp [*]; done), by repeat (first | exact Drawn0.refl _ | apply Drawn0.step)⟩
   ·rw [if_neg c8] at H
    have c8b0 : decide (a0 < a1) = false := decide_eq_false c8
    clear c8
    by_cases c9 : a0 > a1
    ·rw [if_pos c9] at H
     have c9b0 : decide (a1 < a0) = true := decide_eq_true c9
     clear c9
     obtain rfl := Option.some.inj H
     go_enter Tryd.func68, Tryd.ntmps68
     go_wp2_with (first | ((with_reducible refine gate_callee (f := 86) rfl ?_); refine goesL_ (some 8) rfl rfl Tryd.func86 (by kernel_rfl) rfl #[.int .i64 a0] rfl (by (try simp only [List.map_toArray, List.map_cons, List.map_nil]); first | done | rfl | (simp only [List.length_drop, List.length_take]; rfl)) ?_; (with_reducible refine (cmp_isNaN_int.calls a0 false _ A3.out).mono ?_); rintro e w' ⟨rfl, ⟨nd, rfl⟩⟩; refine ⟨_, rfl, ?_⟩) | ((with_reducible refine gate_callee (f := 86) rfl ?_); refine goesL_ (some 10) rfl rfl Tryd.func86 (by kernel_rfl) rfl #[.int .i64 a1] rfl (by (try simp only [List.map_toArray, List.map_cons, List.map_nil]); first | done | rfl | (simp only [List.length_drop, List.length_take]; rfl)) ?_; (with_reducible refine (cmp_isNaN_int.calls a1 false _ A4.out).mono ?_); rintro e w' ⟨rfl, ⟨nd, rfl⟩⟩; refine ⟨_, rfl, ?_⟩))
     go_ret
     exact ⟨by first | rfl | (simp; done) | (simp [*]; done), by repeat (first | exact Drawn0.refl _ | apply Drawn0.step)⟩
    ·rw [if_neg c9] at H
     have c9b0 : decide (a1 < a0) = false := decide_eq_false c9
     clear c9
     obtain rfl := Option.some.inj H
     go_enter Tryd.func68, Tryd.ntmps68
     go_wp2_with (first | ((with_reducible refine gate_callee (f := 86) rfl ?_); refine goesL_ (some 8) rfl rfl Tryd.func86 (by kernel_rfl) rfl #[.int .i64 a0] rfl (by (try simp only [List.map_toArray, List.map_cons, List.map_nil]); first | done | rfl | (simp only [List.length_drop, List.length_take]; rfl)) ?_; (with_reducible refine (cmp_isNaN_int.calls a0 false _ A3.out).mono ?_); rintro e w' ⟨rfl, ⟨nd, rfl⟩⟩; refine ⟨_, rfl, ?_⟩) | ((with_reducible refine gate_callee (f := 86) rfl ?_); refine goesL_ (some 10) rfl rfl Tryd.func86 (by kernel_rfl) rfl #[.int .i64 a1] rfl (by (try simp only [List.map_toArray, List.map_cons, List.map_nil]); first | done | rfl | (simp only [List.length_drop, List.length_take]; rfl)) ?_; (with_reducible refine (cmp_isNaN_int.calls a1 false _ A4.out).mono ?_); rintro e w' ⟨rfl, ⟨nd, rfl⟩⟩; refine ⟨_, rfl, ?_⟩))
     go_ret
     exact ⟨by first | rfl | (simp; done) | (simp [*]; done), by repeat (first | exact Drawn0.refl _ | apply Drawn0.step)⟩

end Go.Proofs.YtgckkjgemkabnaaDoor.PPayoffFollows
