-- Written by a program of this repository (wip/tools/myprint.py over the print of the kit): contracts and rows.
import Derived.Test.YtgckkjgemkabnaaDoorPDutyAllx0
import Derived.Test.YtgckkjgemkabnaaDoorPDutyAllx1
import Derived.Test.YtgckkjgemkabnaaDoorPDutyAllx2
namespace Go.Proofs.YtgckkjgemkabnaaDoor.PDutyAll
open Go.RowKit Go.Proofs.YtgckkjgemkabnaaDoorW.PrintWords Go.Proofs.YtgckkjgemkabnaaDoorW.PrintLast Go.Proofs.YtgckkjgemkabnaaDoorW.PrintMore
attribute [local go_sem] max2_int min2_int max_two min_two max_three min_three max_four min_four   -- for this text's walks alone
set_option linter.unusedVariables false
set_option linter.unusedSimpArgs false

attribute [local go_sem high] eqA36
/-! ### duty_Plan: function 19 -/
def bothL (tick slot p q : Int) (ks : List Int) : List S36 := ks.flatMap fun kd => [(⟨tick, slot, p, kd⟩ : S36), (⟨tick, slot, q, kd⟩ : S36)]
theorem bothL_snoc (tick slot p q : Int) (ks : List Int) (kd : Int) : bothL tick slot p q (ks ++ [kd]) = bothL tick slot p q ks ++ [(⟨tick, slot, p, kd⟩ : S36)] ++ [(⟨tick, slot, q, kd⟩ : S36)] := by simp [bothL]
theorem bothL_length (tick slot p q : Int) (ks : List Int) : (bothL tick slot p q ks).length = 2 * ks.length := by
  induction ks with
  | nil => rfl
  | cons k t ih =>
    have e : bothL tick slot p q (k :: t) = [⟨tick, slot, p, k⟩, ⟨tick, slot, q, k⟩] ++ bothL tick slot p q t := rfl
    rw [e, List.length_append, ih]; simp; omega
theorem print_take_snoc {α : Type} (l : List α) (d : α) (i : Int) (h0 : 0 ≤ i) (h : i < l.length) : l.take (i + 1).toNat = l.take i.toNat ++ [l.getD i.toNat d] := by
  have e : (i + 1).toNat = i.toNat + 1 := by omega
  rw [e, List.take_succ_eq_append_getElem (by omega), List.getD_eq_getElem?_getD, List.getElem?_eq_getElem (by omega)]; rfl
theorem kinds_cell {w : World} {gk : Nat} {ks : List Int} (h : w.heap[gk]? = some (.cells (ks.map (Value.int .i64)).toArray 3 (0, 0))) (i : Int) (h0 : 0 ≤ i) (h1 : i < ks.length) : w.cell? ⟨gk, i.toNat, none⟩ = some (.int .i64 (rd ks i)) := by
  refine (blk_cell h i.toNat).trans ?_
  have hi : i.toNat < ks.length := by omega
  simp [rd, List.getD_eq_getElem?_getD, List.getElem?_eq_getElem hi]

theorem duty_pick (W : World) (p q j : Int) (h : j = 0 ∨ j = 1) : (Instr.index 51 (.agg #[.int .i64 p, .int .i64 q]) (.int .i64 j)).run Tryd.prog W = .ok (.int .i64 (if j = 0 then p else q)) W := by
  obtain ⟨i0, hi0, _, hsz, _⟩ := info_parts info3
  rcases h with rfl | rfl <;> simp [Instr.index, run_underlying Tryd.underlying51, asIntOf, sizeOf, typeInfo, hi0, hsz, part, isAgg, run_underlying Tryd.underlying3, go_sem]

set_option maxHeartbeats 4000000 in
set_option maxRecDepth 100000 in
theorem duty_both (ga go gs gk : Nat) (p q st te tick slot : Int) (vc v : Value) (ck : Nat) (ks : List Int) (xs : List S36) (base : Nat) (w : World)
    (ha : w.heap[ga]? = some (.cells #[.int .i64 p, .int .i64 q, .int .i64 st, .int .i64 te, vc] 26 (0, 0))) (hg : w.heap[go]? = some (.cells #[v] 30 (0, 0))) (hs : w.heap[gs]? = some (.cells #[.int .i64 slot] 3 (0, 0))) (hk : w.heap[gk]? = some (.cells (ks.map (Value.int .i64)).toArray 3 (0, 0))) (n1 : ga ≠ go) (n2 : gs ≠ go) (n3 : gk ≠ go)
    (hr : Kd.R k36 36 w base (fun k => k ≠ go ∧ k ≠ ga ∧ k ≠ gs ∧ k ≠ gk) v xs) (hb : base ≤ w.heap.size) (hgo : base ≤ go) (hl : xs.length ≤ 1000) (hkl : ks.length ≤ 10) (hkc : ks.length ≤ ck) :
    Calls Tryd.prog 59 #[.int .i64 tick, .slice (some ⟨gk, 0, none⟩) ks.length ck, .pointer (some ⟨ga, 0, none⟩), .pointer (some ⟨go, 0, none⟩), .pointer (some ⟨gs, 0, none⟩)] w fun e w' => ∃ v', e = .returned (.tuple #[]) ∧ w'.heap[ga]? = some (.cells #[.int .i64 p, .int .i64 q, .int .i64 st, .int .i64 te, vc] 26 (0, 0)) ∧ w'.heap[go]? = some (.cells #[v'] 30 (0, 0)) ∧ w'.heap[gs]? = some (.cells #[.int .i64 slot] 3 (0, 0)) ∧ Kd.R k36 36 w' base (fun k => k ≠ go ∧ k ≠ ga ∧ k ≠ gs ∧ k ≠ gk) v' (xs ++ bothL tick slot p q ks) ∧ Below base w w' := by
  have hu := Tryd.underlying26
  have hu2 := Tryd.underlying36
  have hx0 : ∀ W : World, (Instr.index 51 (.agg #[.int .i64 p, .int .i64 q]) (.int .i64 0)).run Tryd.prog W = .ok (.int .i64 p) W := fun W => duty_pick W p q 0 (by omega)
  have hx1 : ∀ W : World, (Instr.index 51 (.agg #[.int .i64 p, .int .i64 q]) (.int .i64 1)).run Tryd.prog W = .ok (.int .i64 q) W := fun W => duty_pick W p q 1 (by omega)
  obtain ⟨A, cap, rfl⟩ := Kd.R_slice hr
  have HA := Aside0.mk ha; have HG := Aside0.mk hg; have HS := Aside0.mk hs; have HK := Aside0.mk hk; have HR := Aside0.mk hr
  clear ha hg hs hk hr
  go_enter Tryd.func59, Tryd.ntmps59
  go_wp2
  go_loopw [13] (fun v13 w' => ∃ (i : Int) (A : Option Addr) (n cap : Nat) (zs : List S36), 0 ≤ i ∧ i ≤ ks.length ∧ v13 = .int .i64 i ∧ Aside0 (zs = xs ++ bothL tick slot p q (ks.take i.toNat)) ∧ Aside0 (w'.heap[ga]? = some (.cells #[.int .i64 p, .int .i64 q, .int .i64 st, .int .i64 te, vc] 26 (0, 0))) ∧ Aside0 (w'.heap[go]? = some (.cells #[.slice A n cap] 30 (0, 0))) ∧ Aside0 (w'.heap[gs]? = some (.cells #[.int .i64 slot] 3 (0, 0))) ∧ Aside0 (w'.heap[gk]? = some (.cells (ks.map (Value.int .i64)).toArray 3 (0, 0))) ∧ Aside0 (Kd.R k36 36 w' base (fun k => k ≠ go ∧ k ≠ ga ∧ k ≠ gs ∧ k ≠ gk) (.slice A n cap) zs) ∧ Aside0 (Below base w w')) (fun v13 _ => ks.length - (intOf v13).toNat)
  case atStart => exact ⟨0, A, _, cap, xs, by omega, by omega, rfl, ⟨by simp [bothL]⟩, HA, HG, HS, HK, HR, ⟨Below.refl _ _⟩⟩
  case round =>
    clear HA HG HS HK HR
    obtain ⟨i, A, n, cap, zs, hi0, hi, rfl, HZ, HA, HG, HS, HK, HR, HB⟩ := hrel
    by_cases hlt : i < (ks.length : Int)
    · have kk := kinds_cell HK.out i hi0 hlt
      obtain ⟨kd, hkd⟩ : ∃ kd, kd = rd ks i := ⟨_, rfl⟩
      rw [← hkd] at kk
      have HKD := Aside0.mk hkd
      clear hkd
      have ka := blk_cell HA.out 0
      have kb := blk_cell HA.out 1
      go_wp2
      clear kk ka kb
      have HLT := Aside0.mk hlt
      go_loopw [22] (fun v22 w' => ∃ (j : Int) (A : Option Addr) (n cap : Nat) (ws : List S36), v22 = .int .i64 j ∧ ((j = 0 ∧ ws = zs) ∨ (j = 1 ∧ ws = zs ++ [(⟨tick, slot, p, kd⟩ : S36)]) ∨ (j = 2 ∧ ws = zs ++ [(⟨tick, slot, p, kd⟩ : S36)] ++ [(⟨tick, slot, q, kd⟩ : S36)])) ∧ Aside0 (w'.heap[ga]? = some (.cells #[.int .i64 p, .int .i64 q, .int .i64 st, .int .i64 te, vc] 26 (0, 0))) ∧ Aside0 (w'.heap[go]? = some (.cells #[.slice A n cap] 30 (0, 0))) ∧ Aside0 (w'.heap[gs]? = some (.cells #[.int .i64 slot] 3 (0, 0))) ∧ Aside0 (w'.heap[gk]? = some (.cells (ks.map (Value.int .i64)).toArray 3 (0, 0))) ∧ Aside0 (Kd.R k36 36 w' base (fun k => k ≠ go ∧ k ≠ ga ∧ k ≠ gs ∧ k ≠ gk) (.slice A n cap) ws) ∧ Aside0 (Below base w w')) (fun v22 _ => 2 - (intOf v22).toNat)
      case atStart => exact ⟨0, A, n, cap, zs, rfl, .inl ⟨rfl, rfl⟩, HA, HG, HS, HK, HR, HB⟩
      case round =>
        clear HA HG HS HK HR HB
        obtain ⟨j, A, n, cap, ws, rfl, hj, HA, HG, HS, HK, HR, HB⟩ := hrel
        have hz0 : (zs.length : Int) ≤ 1000 + 20 := by have := HZ.out; subst this; have h2 := bothL_length tick slot p q (ks.take i.toNat); have h3 := List.length_take_le i.toNat ks; simp; omega
        rcases hj with ⟨rfl, hw⟩ | ⟨rfl, hw⟩ | ⟨rfl, hw⟩
        · subst hw
          have c0 := blk_cell HG.out 0
          have c1 := blk_cell HS.out 0
          have HBz := Aside0.mk (Nat.le_trans hb HB.out.size)
          obtain ⟨ys, hy⟩ : ∃ ys, ws ++ [(⟨tick, slot, p, kd⟩ : S36)] = ys := ⟨_, rfl⟩
          have HY := Aside0.mk hy
          clear hy
          go_wp2_with (at_builtin; go_loud (refine Kd.R_append k36 (w0 := w) base rfl (.tmp 25) (.tmp 31) 30 36 (.agg #[(.int .i64 0), (.int .i64 0), (.int .i64 0), (.int .i64 0)]) 32 rfl Tryd.underlying30 info36 rfl (by decide) (by omega) (.slice A n cap) (ws) (⟨tick, slot, p, kd⟩ : S36) [.int .i64 tick, .int .i64 slot, .int .i64 p, .int .i64 kd] (fun k => k ≠ go ∧ k ≠ ga ∧ k ≠ gs ∧ k ≠ gk) (fun _ => False) rfl rfl (k36_mkM _ _ _ (⟨tick, slot, p, kd⟩ : S36)) (fun _ hk => hk.elim) (fun k hk => ⟨fun e => absurd (blk_lt HG.out) (by subst e; exact Nat.not_lt.2 hk), fun e => absurd (blk_lt HA.out) (by subst e; exact Nat.not_lt.2 hk), fun e => absurd (blk_lt HS.out) (by subst e; exact Nat.not_lt.2 hk), fun e => absurd (blk_lt HK.out) (by subst e; exact Nat.not_lt.2 hk)⟩) HR.out HB.out HBz.out ?aL ?_; (case aL => (try simp); omega); intro v1 W4 ho hb4 hg_ hat; rw [HY.out] at ho; obtain ⟨A1, d1, rfl⟩ := Kd.R_slice ho; have HA4 := Aside0.mk (blk_grown (g := ga) (by exact HA.out) hg_ (Kd.R_away HR.out (fun _ hk => hk.2.1))); have hg4 := blk_grown (g := go) (by exact HG.out) hg_ (Kd.R_away HR.out (fun _ hk => hk.1)); have HS4 := Aside0.mk (blk_grown (g := gs) (by exact HS.out) hg_ (Kd.R_away HR.out (fun _ hk => hk.2.2.1))); have HK4 := Aside0.mk (blk_grown (g := gk) (by exact HK.out) hg_ (Kd.R_away HR.out (fun _ hk => hk.2.2.2))); have m0 := blk_cell hg4 0; have m0' := blk_frozen hg4 0; have HG4 := Aside0.mk hg4; have HO4 := Aside0.mk ho; have HB4 := Aside0.mk hb4; clear ho hb4 hg_ hat hg4))
          go_roundw
          case rel => exact ⟨1, A1, _, d1, ys, by go_num, .inr (.inl ⟨rfl, HY.out.symm⟩), ⟨blk_far HA4.out n1 _⟩, ⟨blk_set HG4.out 0 _⟩, ⟨blk_far HS4.out n2 _⟩, ⟨blk_far HK4.out n3 _⟩, ⟨Kd.R_far HO4.out (p := ⟨go, 0, none⟩) (fun k h => h.1) _⟩, ⟨HB4.out.setCell (p := ⟨go, 0, none⟩) hgo _⟩⟩
          case measure => simp [intOf]
        · subst hw
          have c0 := blk_cell HG.out 0
          have c1 := blk_cell HS.out 0
          have HBz := Aside0.mk (Nat.le_trans hb HB.out.size)
          obtain ⟨ys, hy⟩ : ∃ ys, zs ++ [(⟨tick, slot, p, kd⟩ : S36)] ++ [(⟨tick, slot, q, kd⟩ : S36)] = ys := ⟨_, rfl⟩
          have HY := Aside0.mk hy
          clear hy
          go_wp2_with (at_builtin; go_loud (refine Kd.R_append k36 (w0 := w) base rfl (.tmp 25) (.tmp 31) 30 36 (.agg #[(.int .i64 0), (.int .i64 0), (.int .i64 0), (.int .i64 0)]) 32 rfl Tryd.underlying30 info36 rfl (by decide) (by omega) (.slice A n cap) (zs ++ [(⟨tick, slot, p, kd⟩ : S36)]) (⟨tick, slot, q, kd⟩ : S36) [.int .i64 tick, .int .i64 slot, .int .i64 q, .int .i64 kd] (fun k => k ≠ go ∧ k ≠ ga ∧ k ≠ gs ∧ k ≠ gk) (fun _ => False) rfl rfl (k36_mkM _ _ _ (⟨tick, slot, q, kd⟩ : S36)) (fun _ hk => hk.elim) (fun k hk => ⟨fun e => absurd (blk_lt HG.out) (by subst e; exact Nat.not_lt.2 hk), fun e => absurd (blk_lt HA.out) (by subst e; exact Nat.not_lt.2 hk), fun e => absurd (blk_lt HS.out) (by subst e; exact Nat.not_lt.2 hk), fun e => absurd (blk_lt HK.out) (by subst e; exact Nat.not_lt.2 hk)⟩) HR.out HB.out HBz.out ?aL ?_; (case aL => (try simp); omega); intro v1 W4 ho hb4 hg_ hat; rw [HY.out] at ho; obtain ⟨A1, d1, rfl⟩ := Kd.R_slice ho; have HA4 := Aside0.mk (blk_grown (g := ga) (by exact HA.out) hg_ (Kd.R_away HR.out (fun _ hk => hk.2.1))); have hg4 := blk_grown (g := go) (by exact HG.out) hg_ (Kd.R_away HR.out (fun _ hk => hk.1)); have HS4 := Aside0.mk (blk_grown (g := gs) (by exact HS.out) hg_ (Kd.R_away HR.out (fun _ hk => hk.2.2.1))); have HK4 := Aside0.mk (blk_grown (g := gk) (by exact HK.out) hg_ (Kd.R_away HR.out (fun _ hk => hk.2.2.2))); have m0 := blk_cell hg4 0; have m0' := blk_frozen hg4 0; have HG4 := Aside0.mk hg4; have HO4 := Aside0.mk ho; have HB4 := Aside0.mk hb4; clear ho hb4 hg_ hat hg4))
          go_roundw
          case rel => exact ⟨2, A1, _, d1, ys, by go_num, .inr (.inr ⟨rfl, HY.out.symm⟩), ⟨blk_far HA4.out n1 _⟩, ⟨blk_set HG4.out 0 _⟩, ⟨blk_far HS4.out n2 _⟩, ⟨blk_far HK4.out n3 _⟩, ⟨Kd.R_far HO4.out (p := ⟨go, 0, none⟩) (fun k h => h.1) _⟩, ⟨HB4.out.setCell (p := ⟨go, 0, none⟩) hgo _⟩⟩
          case measure => simp [intOf]
        · subst hw
          have hlt := HLT.out
          go_wp2
          go_roundw
          case rel => exact ⟨i + 1, A, n, cap, _, by omega, by omega, by go_num, ⟨by rw [print_take_snoc ks 0 i hi0 hlt, bothL_snoc, HZ.out]; have := HKD.out; simp only [rd] at this; rw [← this]; simp⟩, HA, HG, HS, HK, HR, HB⟩
          case measure => simp [intOf]; omega
    · go_wp2
      go_end0
      rw [List.take_of_length_le (by omega)] at HZ
      obtain rfl := HZ.out
      exact ⟨rfl, HA.out, _, HG.out, HS.out, HR.out, HB.out⟩

theorem duty_both_at (ga go gs : Nat) (p q st te tick slot : Int) (vc v : Value) (ks : List Int) (xs : List S36) (base gk nk : Nat) (O : Obj) (W : World) (hgk : gk = W.heap.size) (hnk : nk = ks.length) (hO : O = (.cells (ks.map (Value.int .i64)).toArray 3 (0, 0)))
    (ha : W.heap[ga]? = some (.cells #[.int .i64 p, .int .i64 q, .int .i64 st, .int .i64 te, vc] 26 (0, 0))) (hg : W.heap[go]? = some (.cells #[v] 30 (0, 0))) (hs : W.heap[gs]? = some (.cells #[.int .i64 slot] 3 (0, 0))) (n1 : ga ≠ go) (n2 : gs ≠ go)
    (hr : Kd.R k36 36 W base (fun k => k ≠ go ∧ k ≠ ga ∧ k ≠ gs) v xs) (hb : base ≤ W.heap.size) (hgo : base ≤ go) (hl : xs.length ≤ 1000) (hkl : ks.length ≤ 10) :
    Calls Tryd.prog 59 #[.int .i64 tick, .slice (some ⟨gk, 0, none⟩) nk nk, .pointer (some ⟨ga, 0, none⟩), .pointer (some ⟨go, 0, none⟩), .pointer (some ⟨gs, 0, none⟩)] (W.alloc O) fun e w' => ∃ v', e = .returned (.tuple #[]) ∧ w'.heap[ga]? = some (.cells #[.int .i64 p, .int .i64 q, .int .i64 st, .int .i64 te, vc] 26 (0, 0)) ∧ w'.heap[go]? = some (.cells #[v'] 30 (0, 0)) ∧ w'.heap[gs]? = some (.cells #[.int .i64 slot] 3 (0, 0)) ∧ Kd.R k36 36 w' base (fun k => k ≠ go ∧ k ≠ ga ∧ k ≠ gs) v' (xs ++ bothL tick slot p q ks) ∧ Below base W w' := by
  subst hgk hnk hO
  have hlt := blk_lt hg
  refine (duty_both ga go gs W.heap.size p q st te tick slot vc v ks.length ks xs base (W.alloc (.cells (ks.map (Value.int .i64)).toArray 3 (0, 0))) (blk_alloc ha _) (blk_alloc hg _) (blk_alloc hs _) (blk_new W _) n1 n2 (by omega) (Kd.R_alloc (Kd.R_mono (Kd.R_bound hr) (fun k hk => ⟨hk.1.1, hk.1.2.1, hk.1.2.2, by have := hk.2.2.1; omega⟩)) _) (Nat.le_trans hb (by simp)) hgo hl hkl (Nat.le_refl _)).mono ?_
  rintro e w' ⟨v', he, h1, h2, h3, h4, h5⟩
  exact ⟨v', he, h1, h2, h3, Kd.R_mono h4 (fun k hk => ⟨hk.1, hk.2.1, hk.2.2.1⟩), ((Below.refl base W).alloc hb _).trans h5⟩

theorem w64_ {n : Int} (h0 : 0 ≤ n) (h1 : n < 9223372036854775808) : wrap64 n = n := by unfold wrap64; omega
theorem index_ok (l : List Int) (hl : l.length ≤ 9223372036854775807) (a : Int) : ∀ (t : List Int) (i : Int), 0 ≤ i → i + t.length = l.length → l.drop i.toNat = t → ∃ k r, slices_Index_int_int.l0 k l a l.length i = some r ∧ (0 ≤ r ↔ a ∈ t)
  | [], i, h0, hi, hd => ⟨1, -1, by rw [slices_Index_int_int.l0, if_neg (by simp at hi; omega)], by simp⟩
  | e :: t, i, h0, hi, hd => by
    rw [List.length_cons] at hi
    push_cast at hi
    have hr : rd l i = e := by
      have : (l.drop i.toNat)[0]? = some e := by rw [hd]; rfl
      rw [List.getElem?_drop] at this
      simp [rd, List.getD_eq_getElem?_getD] at this ⊢
      rw [this]; rfl
    by_cases q : a = e
    · exact ⟨1, i, by rw [slices_Index_int_int.l0, if_pos (by omega), if_pos h0, if_pos (by omega), hr, if_pos q], by simp [q]; omega⟩
    · obtain ⟨k, r, h1, h2⟩ := index_ok l hl a t (i + 1) (by omega) (by omega) (by rw [show (i + 1).toNat = i.toNat + 1 by omega, ← List.drop_drop, hd]; rfl)
      refine ⟨k + 1, r, ?_, by rw [h2]; simp [q]⟩
      rw [slices_Index_int_int.l0, if_pos (by omega), if_pos h0, if_pos (by omega), hr, if_neg q, w64_ (by omega) (by omega), h1]
theorem contains_ok (l : List Int) (hl : l.length ≤ 9223372036854775807) (a : Int) : ∃ k, slices_Contains_int_int.f k l a = some (decide (a ∈ l)) := by
  obtain ⟨k, r, h1, h2⟩ := index_ok l hl a l 0 (Int.le_refl _) (by omega) rfl
  refine ⟨k, ?_⟩
  unfold slices_Contains_int_int.f slices_Index_int_int.f
  rw [h1]
  simp only [Option.bind_some, ge_iff_le, h2]
def planT (slot p q : Int) (l : List Int) : Nat → Int → List S36
  | 0, _ => []
  | n + 1, t => bothL t slot p q [5] ++ (if t ∈ l then bothL t slot p q [6] else []) ++ planT slot p q l n (t + 1)
def planL (a0 a1 a2 a3 : Int) (l : List Int) (slot : Int) (settle : Bool) : List S36 := bothL a2 slot a0 a1 [1, 2, 3, 4] ++ planT slot a0 a1 l a3.toNat (a2 + 1) ++ (if settle = true then bothL (a2 + a3 + 1) slot a0 a1 [7] else [])
theorem valid_ok {k : Nat} {a0_0 a0_1 a0_2 a0_3 : Int} {l0_4 : List Int} (h : duty_Valid.f k a0_0 a0_1 a0_2 a0_3 l0_4 = some true) : 1 ≤ a0_3 ∧ a0_3 ≤ 16 ∧ 0 ≤ a0_2 ∧ a0_2 ≤ 16 - a0_3 := by
  have hj : ∀ k : Nat, duty_Valid.j0 k true a0_0 a0_1 a0_2 a0_3 l0_4 ≠ some true := fun k => by cases k <;> simp [duty_Valid.j0]
  unfold duty_Valid.f at h
  obtain ⟨t, -, h⟩ := Option.bind_eq_some_iff.mp h
  split at h
  · obtain ⟨t, -, h⟩ := Option.bind_eq_some_iff.mp h
    split at h
    · split at h
      · exact absurd h (hj _)
      · split at h
        · exact absurd h (hj _)
        · split at h
          · exact absurd h (hj _)
          · split at h
            · exact absurd h (hj _)
            · rename_i h1 h2 h3
              rw [w64_ (by omega) (by omega)] at h
              by_cases q : a0_2 > 16 - a0_3
              · rw [decide_eq_true q] at h; exact absurd h (hj _)
              · omega
    · exact absurd h (hj _)
  · exact absurd h (hj _)
def duty_Plan.f (k : Nat) (a0_0 : Int) (a0_1 : Int) (a0_2 : Int) (a0_3 : Int) (l0_4 : List Int) (a1 : Int) (a2 : Bool) : Option (List S36 × Int) := if a1 < 0 then some ([], 1) else if a1 ≥ 6 then some ([], 1) else (duty_Valid.f k a0_0 a0_1 a0_2 a0_3 l0_4).bind fun t => if t = true then some (planL a0_0 a0_1 a0_2 a0_3 l0_4 a1 a2, 0) else some ([], 44)
theorem duty_Plan.mono : ∀ a0 a1 a2 a3 a4 a5 a6 k, LeO (duty_Plan.f k a0 a1 a2 a3 a4 a5 a6) (duty_Plan.f (k + 1) a0 a1 a2 a3 a4 a5 a6) := by
  intro a0 a1 a2 a3 a4 a5 a6 k
  unfold duty_Plan.f
  exact LeO.ite (LeO.refl _) (LeO.ite (LeO.refl _) (LeO.bind (duty_Valid.mono _ _ _ _ _ _) (fun _ => LeO.refl _)))

set_option maxHeartbeats 4000000 in
set_option maxRecDepth 100000 in
theorem duty_Plan.calls (k : Nat) (a0_0 : Int) (a0_1 : Int) (a0_2 : Int) (a0_3 : Int) (A0_4 : Option Addr) (c0_4 : Nat) (l0_4 : List Int) (a1 : Int) (a2 : Bool) (r1 : List (S36)) (r2 : Int) (w : World) (hr0_4 : Kd.C (Kd.int .i64) w A0_4 l0_4.length l0_4) (hc0_4 : l0_4.length ≤ c0_4) (h : duty_Plan.f k a0_0 a0_1 a0_2 a0_3 l0_4 a1 a2 = some (r1, r2)) :
    Calls Tryd.prog 19 #[.agg #[.int .i64 a0_0, .int .i64 a0_1, .int .i64 a0_2, .int .i64 a0_3, .slice A0_4 l0_4.length c0_4], .int .i64 a1, .bool a2] w fun e w' => ∃ v0_ : Value, e = .returned (.tuple #[v0_, .int .i64 r2]) ∧ Kd.R k36 36 w' w.heap.size (fun _ => True) v0_ r1 ∧ Below w.heap.size w w' := by
  have hu := Tryd.underlying26
  unfold duty_Plan.f at h
  have HR0 := Aside0.mk hr0_4
  have HC0 := Aside0.mk hc0_4
  clear hr0_4 hc0_4
  by_cases q0 : a1 < 0
  · rw [if_pos q0] at h
    simp only [Option.some.injEq, Prod.mk.injEq] at h
    obtain ⟨rfl, rfl⟩ := h
    have b0 : decide (a1 < 0) = true := decide_eq_true q0
    clear q0
    go_enter Tryd.func19, Tryd.ntmps19
    go_wp2
    go_ret2
    exact ⟨_, rfl, Kd.R_nil _ _ _ _ _, below_alloc (below_alloc (Below.refl _ _) _) _⟩
  rw [if_neg q0] at h
  have b0 : decide (a1 < 0) = false := decide_eq_false q0
  by_cases q1 : a1 ≥ 6
  · rw [if_pos q1] at h
    simp only [Option.some.injEq, Prod.mk.injEq] at h
    obtain ⟨rfl, rfl⟩ := h
    have b1 : decide (a1 ≥ 6) = true := decide_eq_true q1
    have b2 : decide (6 ≤ a1) = true := decide_eq_true q1
    clear q0 q1
    go_enter Tryd.func19, Tryd.ntmps19
    go_wp2
    go_ret2
    exact ⟨_, rfl, Kd.R_nil _ _ _ _ _, below_alloc (below_alloc (Below.refl _ _) _) _⟩
  rw [if_neg q1] at h
  have b1 : decide (a1 ≥ 6) = false := decide_eq_false q1
  have b2 : decide (6 ≤ a1) = false := decide_eq_false q1
  have HQ := Aside0.mk (And.intro q0 q1)
  clear q0 q1
  obtain ⟨t, hv, h⟩ := Option.bind_eq_some_iff.mp h
  have HV := Aside0.mk hv
  clear hv
  cases t
  · rw [if_neg (by simp)] at h
    simp only [Option.some.injEq, Prod.mk.injEq] at h
    obtain ⟨rfl, rfl⟩ := h
    go_enter Tryd.func19, Tryd.ntmps19
    go_wp2_with fail
    refine (duty_Valid.calls k a0_0 a0_1 a0_2 a0_3 A0_4 c0_4 l0_4 false _ (Kd.C_alloc (Kd.C_alloc HR0.out _) _) HC0.out HV.out).mono ?_
    rintro e w1 ⟨rfl, hb⟩
    go_wp2
    go_ret2
    exact ⟨_, rfl, Kd.R_nil _ _ _ _ _, below_step (below_alloc (below_alloc (Below.refl _ _) _) _) hb⟩
  · rw [if_pos rfl] at h
    simp only [Option.some.injEq, Prod.mk.injEq] at h
    obtain ⟨rfl, rfl⟩ := h
    obtain ⟨v1, v2, v3, v4⟩ := valid_ok HV.out
    go_enter Tryd.func19, Tryd.ntmps19
    go_wp2_with fail
    have hA := blk_alloc (blk_new w (.cells #[.int .i64 a0_0, .int .i64 a0_1, .int .i64 a0_2, .int .i64 a0_3, .slice A0_4 l0_4.length c0_4] 26 (0, 0))) (.cells #[.int .i64 a1] 3 (0, 0))
    have hS := blk_new (w.alloc (.cells #[.int .i64 a0_0, .int .i64 a0_1, .int .i64 a0_2, .int .i64 a0_3, .slice A0_4 l0_4.length c0_4] 26 (0, 0))) (.cells #[.int .i64 a1] 3 (0, 0))
    rw [show (w.alloc (.cells #[.int .i64 a0_0, .int .i64 a0_1, .int .i64 a0_2, .int .i64 a0_3, .slice A0_4 l0_4.length c0_4] 26 (0, 0))).heap.size = w.heap.size + 1 by simp] at hS
    refine (duty_Valid.calls k a0_0 a0_1 a0_2 a0_3 A0_4 c0_4 l0_4 true _ (Kd.C_alloc (Kd.C_alloc HR0.out _) _) HC0.out HV.out).mono ?_
    rintro e w1 ⟨rfl, hb⟩
    have hsz : w.heap.size + 2 ≤ w1.heap.size := by have := hb.size; simpa using this
    have hA := blk_below hA hb; have hS := blk_below hS hb
    have HB1 := Aside0.mk (below_step (below_alloc (below_alloc (Below.refl w.heap.size w) (.cells #[.int .i64 a0_0, .int .i64 a0_1, .int .i64 a0_2, .int .i64 a0_3, .slice A0_4 l0_4.length c0_4] 26 (0, 0))) (.cells #[.int .i64 a1] 3 (0, 0))) hb)
    have HA1 := Aside0.mk (blk_alloc hA (.cells #[.slice none 0 0] 30 (0, 0))); have HS1 := Aside0.mk (blk_alloc hS (.cells #[.slice none 0 0] 30 (0, 0))); have HG1 := Aside0.mk (blk_new w1 (.cells #[.slice none 0 0] 30 (0, 0)))
    have HB2 := Aside0.mk (below_alloc HB1.out (.cells #[.slice none 0 0] 30 (0, 0)))
    have c2 := blk_cell HA1.out 2
    clear hA hS hb
    go_wp2_with fail
    refine (duty_both_at w.heap.size w1.heap.size (w.heap.size + 1) a0_0 a0_1 a0_2 a0_3 a0_2 a1 (.slice A0_4 l0_4.length c0_4) (.slice none 0 0) [1, 2, 3, 4] [] w.heap.size (w1.heap.size + 1) 4 (.cells #[.int .i64 1, .int .i64 2, .int .i64 3, .int .i64 4] 3 (0, 0)) (w1.alloc (.cells #[.slice none 0 0] 30 (0, 0))) (by simp) rfl rfl HA1.out HG1.out HS1.out (by omega) (by omega) (Kd.R_nil _ _ _ _ _) HB2.out.size (by omega) (by simp) (by simp)).mono ?_
    rintro e w2 ⟨v2, rfl, hA, hG, hS, ho, hb⟩
    obtain ⟨A2, d2, rfl⟩ := Kd.R_slice ho
    obtain ⟨F, hF⟩ : ∃ F, F = bothL a0_2 a1 a0_0 a0_1 [1, 2, 3, 4] ++ planT a1 a0_0 a0_1 l0_4 a0_3.toNat (a0_2 + 1) := ⟨_, rfl⟩
    have HF := Aside0.mk hF
    obtain ⟨z1, hz1⟩ : ∃ z1, z1 = [] ++ bothL a0_2 a1 a0_0 a0_1 [1, 2, 3, 4] := ⟨_, rfl⟩
    rw [← hz1] at ho hG
    have hzl : z1.length = 8 := by rw [hz1]; simp [bothL]
    have HF1 : Aside0 (z1 ++ planT a1 a0_0 a0_1 l0_4 a0_3.toNat (a0_2 + 1) = F) := ⟨by rw [hz1, hF]; simp⟩
    have HA := Aside0.mk hA; have HG := Aside0.mk hG; have HS := Aside0.mk hS; have HR := Aside0.mk ho; have HB := Aside0.mk (HB2.out.trans hb)
    clear hA hG hS ho hb hF hz1 HA1 HS1 HG1 HB1 HB2 c2
    generalize w1.heap.size = go at *
    have c2 := blk_cell HA.out 2
    have hw1 : IntKind.i64.wrap (a0_2 + 1) = a0_2 + 1 := IntWalk.i64_in _ (by omega)
    have hw2 : IntKind.i64.wrap (a0_2 + a0_3) = a0_2 + a0_3 := IntWalk.i64_in _ (by omega)
    have HW2 := Aside0.mk hw2
    clear hw2
    go_wp2
    clear c2 hw1
    go_loopg [10] a0_3.toNat (fun kq v10 w' => ∃ (t : Int) (A : Option Addr) (n cap : Nat) (zs : List S36), v10 = .int .i64 t ∧ t + kq = a0_2 + 1 + a0_3 ∧ 1 ≤ t ∧ (zs.length : Int) + 4 * kq ≤ 80 ∧ Aside0 (zs ++ planT a1 a0_0 a0_1 l0_4 kq t = F) ∧ Aside0 (w'.heap[w.heap.size]? = some (.cells #[.int .i64 a0_0, .int .i64 a0_1, .int .i64 a0_2, .int .i64 a0_3, .slice A0_4 l0_4.length c0_4] 26 (0, 0))) ∧ Aside0 (w'.heap[go]? = some (.cells #[.slice A n cap] 30 (0, 0))) ∧ Aside0 (w'.heap[w.heap.size + 1]? = some (.cells #[.int .i64 a1] 3 (0, 0))) ∧ Aside0 (Kd.R k36 36 w' w.heap.size (fun k => k ≠ go ∧ k ≠ w.heap.size ∧ k ≠ w.heap.size + 1) (.slice A n cap) zs) ∧ Aside0 (Below w.heap.size w w'))
    case atStart => exact ⟨a0_2 + 1, A2, z1.length, d2, z1, by go_num, by omega, by omega, by omega, HF1, HA, HG, HS, HR, HB⟩
    case round =>
      clear HA HG HS HR HB HF1
      obtain ⟨t, A, n, cap, zs, rfl, hk, ht1, hzn, HF1, HA, HG, HS, HR, HB⟩ := hrel
      have c2 := blk_cell HA.out 2
      have c3 := blk_cell HA.out 3
      have hw2 := HW2.out
      by_cases hlt : t ≤ a0_2 + a0_3
      · obtain ⟨m, rfl⟩ : ∃ m, gk = m + 1 := ⟨gk - 1, by omega⟩
        go_wp2_with fail
        refine (duty_both_at w.heap.size go (w.heap.size + 1) a0_0 a0_1 a0_2 a0_3 (t) a1 (.slice A0_4 l0_4.length c0_4) (.slice A n cap) [5] zs w.heap.size wr.heap.size 1 (.cells #[.int .i64 5] 3 (0, 0)) wr rfl rfl rfl HA.out HG.out HS.out (by omega) (by omega) HR.out HB.out.size (by omega) (by omega) (by simp)).mono ?_
        rintro e w2 ⟨v2, rfl, hA, hG, hS, ho, hb⟩
        obtain ⟨A2, d2, rfl⟩ := Kd.R_slice ho
        obtain ⟨z2, hz⟩ : ∃ z, z = zs ++ bothL (t) a1 a0_0 a0_1 [5] := ⟨_, rfl⟩
        rw [← hz] at ho hG
        have hzl2 : z2.length = zs.length + 2 := by rw [hz, List.length_append, bothL_length]; simp
        have HZ2 := Aside0.mk hz
        have HA2 := Aside0.mk hA; have HG2 := Aside0.mk hG; have HS2 := Aside0.mk hS; have HR2 := Aside0.mk ho; have HB2 := Aside0.mk (HB.out.trans hb)
        clear hA hG hS ho hb hz
        clear c2 c3
        have c4 := blk_cell HA2.out 4
        obtain ⟨kc, hc⟩ := contains_ok l0_4 (Kd.C_max HR0.out) t
        obtain ⟨bm, hbm⟩ : ∃ b, b = decide (t ∈ l0_4) := ⟨_, rfl⟩
        rw [← hbm] at hc
        have HC := Aside0.mk hc; have HBM := Aside0.mk hbm; clear hc hbm
        go_wp2_with fail
        refine (slices_Contains_int_int.calls kc A0_4 c0_4 l0_4 t bm _ (Kd.C_below HR0.out HB2.out) HC0.out HC.out).mono ?_
        rintro e w3 ⟨rfl, hd⟩
        obtain ⟨nd, rfl⟩ := hd.out
        clear c4 hd
        have HA3 : Aside0 ((w2.drewN nd).heap[w.heap.size]? = some (.cells #[.int .i64 a0_0, .int .i64 a0_1, .int .i64 a0_2, .int .i64 a0_3, .slice A0_4 l0_4.length c0_4] 26 (0, 0))) := ⟨HA2.out⟩
        have HG3 : Aside0 ((w2.drewN nd).heap[go]? = some (.cells #[.slice A2 z2.length d2] 30 (0, 0))) := ⟨HG2.out⟩
        have HS3 : Aside0 ((w2.drewN nd).heap[w.heap.size + 1]? = some (.cells #[.int .i64 a1] 3 (0, 0))) := ⟨HS2.out⟩
        have HR3 : Aside0 (Kd.R k36 36 (w2.drewN nd) w.heap.size (fun k => k ≠ go ∧ k ≠ w.heap.size ∧ k ≠ w.heap.size + 1) (.slice A2 z2.length d2) z2) := ⟨HR2.out⟩
        have HB3 : Aside0 (Below w.heap.size w (w2.drewN nd)) := ⟨pw_below_drewN HB2.out nd⟩
        clear HA2 HG2 HS2 HR2 HB2
        generalize w2.drewN nd = W3 at *
        cases bm
        · have HF2 : Aside0 (z2 ++ planT a1 a0_0 a0_1 l0_4 m (t + 1) = F) := ⟨by rw [← HF1.out, HZ2.out, planT, if_neg (of_decide_eq_false HBM.out.symm)]; simp⟩
          go_wp2
          go_roundg m
          case measure => omega
          case rel => exact ⟨t + 1, A2, z2.length, d2, z2, by go_num, by omega, by omega, by omega, HF2, HA3, HG3, HS3, HR3, HB3⟩
        · skip
          go_wp2_with fail
          refine (duty_both_at w.heap.size go (w.heap.size + 1) a0_0 a0_1 a0_2 a0_3 (t) a1 (.slice A0_4 l0_4.length c0_4) (.slice A2 z2.length d2) [6] z2 w.heap.size W3.heap.size 1 (.cells #[.int .i64 6] 3 (0, 0)) W3 rfl rfl rfl HA3.out HG3.out HS3.out (by omega) (by omega) HR3.out HB3.out.size (by omega) (by omega) (by simp)).mono ?_
          rintro e w4 ⟨v4, rfl, hA, hG, hS, ho, hb⟩
          obtain ⟨A4, d4, rfl⟩ := Kd.R_slice ho
          obtain ⟨z4, hz⟩ : ∃ z, z = z2 ++ bothL (t) a1 a0_0 a0_1 [6] := ⟨_, rfl⟩
          rw [← hz] at ho hG
          have hzl4 : z4.length = z2.length + 2 := by rw [hz, List.length_append, bothL_length]; simp
          have HZ4 := Aside0.mk hz
          have HA4 := Aside0.mk hA; have HG4 := Aside0.mk hG; have HS4 := Aside0.mk hS; have HR4 := Aside0.mk ho; have HB4 := Aside0.mk (HB3.out.trans hb)
          clear hA hG hS ho hb hz
          have HF2 : Aside0 (z4 ++ planT a1 a0_0 a0_1 l0_4 m (t + 1) = F) := ⟨by rw [← HF1.out, HZ4.out, HZ2.out, planT, if_pos (of_decide_eq_true HBM.out.symm)]; simp⟩
          go_wp2
          go_roundg m
          case measure => omega
          case rel => exact ⟨t + 1, A4, z4.length, d4, z4, by go_num, by omega, by omega, by omega, HF2, HA4, HG4, HS4, HR4, HB4⟩
      · obtain rfl : gk = 0 := by omega
        have hF1 : zs = F := by have := HF1.out; simpa [planT] using this
        cases a2
        · have e : planL a0_0 a0_1 a0_2 a0_3 l0_4 a1 false = zs := by rw [hF1, HF.out]; simp [planL]
          have HE := Aside0.mk e
          clear e hF1
          have c0 := blk_cell HG.out 0
          go_wp2
          go_ret2
          rw [HE.out]
          exact ⟨_, rfl, Kd.R_mono HR.out (fun _ _ => trivial), HB.out⟩
        · have hw3 : IntKind.i64.wrap (a0_2 + a0_3 + 1) = a0_2 + a0_3 + 1 := IntWalk.i64_in _ (by omega)
          have HFF := Aside0.mk hF1
          clear hF1
          go_wp2_with fail
          refine (duty_both_at w.heap.size go (w.heap.size + 1) a0_0 a0_1 a0_2 a0_3 (a0_2 + a0_3 + 1) a1 (.slice A0_4 l0_4.length c0_4) (.slice A n cap) [7] zs w.heap.size wr.heap.size 1 (.cells #[.int .i64 7] 3 (0, 0)) wr rfl rfl rfl HA.out HG.out HS.out (by omega) (by omega) HR.out HB.out.size (by omega) (by omega) (by simp)).mono ?_
          rintro e w2 ⟨v2, rfl, hA, hG, hS, ho, hb⟩
          obtain ⟨A2, d2, rfl⟩ := Kd.R_slice ho
          obtain ⟨z2, hz⟩ : ∃ z, z = zs ++ bothL (a0_2 + a0_3 + 1) a1 a0_0 a0_1 [7] := ⟨_, rfl⟩
          rw [← hz] at ho hG
          have hzl2 : z2.length = zs.length + 2 := by rw [hz, List.length_append, bothL_length]; simp
          have HZ2 := Aside0.mk hz
          have HA2 := Aside0.mk hA; have HG2 := Aside0.mk hG; have HS2 := Aside0.mk hS; have HR2 := Aside0.mk ho; have HB2 := Aside0.mk (HB.out.trans hb)
          clear hA hG hS ho hb hz
          have e : planL a0_0 a0_1 a0_2 a0_3 l0_4 a1 true = z2 := by rw [HZ2.out, HFF.out, HF.out]; simp [planL]
          have HE := Aside0.mk e
          clear e c2 c3 hzl2
          have c0 := blk_cell HG2.out 0
          go_wp2
          go_ret2
          rw [HE.out]
          exact ⟨_, rfl, Kd.R_mono HR2.out (fun _ _ => trivial), HB2.out⟩


/-! ### duty_Cost: function 27 -/
/-- the table of costs is laid -/
def Laid (w : World) : Prop := ∀ i : Nat, i < 8 → w.cell? ⟨0, i, none⟩ = some (.int .i64 (([0, 8, 8, 1, 2, 1, 1, 8] : List Int).getD i 0))
theorem laid_below {w w' : World} (h : Laid w) (hb : Below w.heap.size w w') : Laid w' := fun i hi => pw_cell_below hb (h i hi)
theorem laid_drawn {w w' : World} (h : Laid w) (hd : Drawn0 w w') : Laid w' := laid_below h hd.below
def costOf (k : Int) : Int := if k < 0 then 0 else if 8 ≤ k then 0 else ([0, 8, 8, 1, 2, 1, 1, 8] : List Int).getD k.toNat 0
def duty_Cost.f (a0 : Int) : Option (Int) := some (costOf a0)
set_option maxHeartbeats 4000000 in
set_option maxRecDepth 100000 in
theorem duty_Cost.calls (a0 : Int) (r : Int) (w : World) (h : duty_Cost.f a0 = some r) (hL_ : Laid w) :
    Calls Tryd.prog 27 #[.int .i64 a0] w fun e w' => e = .returned (.int .i64 r) ∧ Drawn0 w w' := by
  obtain rfl := Option.some.inj h
  have hu := Tryd.underlying93
  by_cases q0 : a0 < 0
  · have b0 : decide (a0 < 0) = true := decide_eq_true q0
    rw [show costOf a0 = 0 from if_pos q0]
    go_enter Tryd.func27, Tryd.ntmps27
    go_wp2
    go_ret
    exact ⟨rfl, Drawn0.refl _⟩
  have b0 : decide (a0 < 0) = false := decide_eq_false q0
  by_cases q1 : 8 ≤ a0
  · have b1 : decide (8 ≤ a0) = true := decide_eq_true q1
    rw [show costOf a0 = 0 from by unfold costOf; rw [if_neg q0, if_pos q1]]
    go_enter Tryd.func27, Tryd.ntmps27
    go_wp2
    go_ret
    exact ⟨rfl, Drawn0.refl _⟩
  have b1 : decide (8 ≤ a0) = false := decide_eq_false q1
  have c := hL_ a0.toNat (by omega)
  rw [show ([0, 8, 8, 1, 2, 1, 1, 8] : List Int).getD a0.toNat 0 = costOf a0 from by unfold costOf; rw [if_neg q0, if_neg q1]] at c
  have h0 : (0 : Int) ≤ a0 := by omega
  have h8 : a0 < 8 := by omega
  clear hL_
  obtain ⟨rr, hr⟩ : ∃ rr, rr = costOf a0 := ⟨_, rfl⟩
  rw [← hr] at c ⊢
  clear hr q0 q1
  go_enter Tryd.func27, Tryd.ntmps27
  go_wp2
  go_ret
  exact ⟨rfl, Drawn0.refl _⟩

/-! ### duty_Total: function 20 -/
def duty_Total.l0 : Nat → Int → Int → List (S36) → Int → Int → Option (Int)
  | 0, _, _, _, _, _ => none
  | k + 1, x1, x5, x8, x9, x10 => if x10 < x9 then (if 0 ≤ x10 then (if x10 < (x8.length : Int) then (if ((rd_T36 x8 x10).f2) = x1 then ((duty_Cost.f ((rd_T36 x8 x10).f3)).bind fun t110 => (duty_Total.l0 k x1 (wrap64 (x5 + t110)) x8 x9 (wrap64 (x10 + 1)))) else (duty_Total.l0 k x1 x5 x8 x9 (wrap64 (x10 + 1)))) else (none)) else (none)) else (some x5)
def duty_Total.f (k : Nat) (l0 : List (S36)) (a1 : Int) : Option (Int) := duty_Total.l0 k a1 0 l0 (l0.length : Int) 0
theorem duty_Total.mono_l : ∀ k, (∀ y0 y1 y2 y3 y4, LeO (duty_Total.l0 k y0 y1 y2 y3 y4) (duty_Total.l0 (k + 1) y0 y1 y2 y3 y4))
  | 0 => fun _ _ _ _ _ r h => by simp [duty_Total.l0] at h
  | k + 1 => by
    have ih0 := duty_Total.mono_l k
    · intro y0 y1 y2 y3 y4
      unfold duty_Total.l0
      repeat' first
      | (with_reducible exact ih0 _ _ _ _ _)
      | (with_reducible exact LeO.refl _)
      | (with_reducible exact LeO.none _)
      | (with_reducible refine LeO.ite ?_ ?_)
      | (with_reducible refine LeO.bind ?_ (fun _ => ?_))
      | exact ih0 _ _ _ _ _
      | exact LeO.none _
      | refine LeO.ite ?_ ?_
      | refine LeO.bind ?_ (fun _ => ?_)
theorem duty_Total.mono : ∀ a0 a1 k, LeO (duty_Total.f k a0 a1) (duty_Total.f (k + 1) a0 a1) := by
  intro a0 a1 k
  have ih0 := duty_Total.mono_l k
  unfold duty_Total.f
  repeat' first
      | (with_reducible exact ih0 _ _ _ _ _)
      | (with_reducible exact LeO.refl _)
      | (with_reducible exact LeO.none _)
      | (with_reducible refine LeO.ite ?_ ?_)
      | (with_reducible refine LeO.bind ?_ (fun _ => ?_))
      | exact ih0 _ _ _ _ _
      | exact LeO.none _
      | refine LeO.ite ?_ ?_
      | refine LeO.bind ?_ (fun _ => ?_)
set_option maxHeartbeats 8000000 in
set_option maxRecDepth 100000 in
theorem duty_Total.calls (k : Nat) (A0 : Option Addr) (c0 : Nat) (l0 : List (S36)) (a1 : Int) (r : Int) (w : World) (hr0 : Kd.C k36 w A0 l0.length l0) (hc0 : l0.length ≤ c0) (h : duty_Total.f k l0 a1 = some r) (hL_ : Laid w) :
    Calls Tryd.prog 20 #[.slice A0 l0.length c0, .int .i64 a1] w fun e w' => e = .returned (.int .i64 r) ∧ Below w.heap.size w w' := by
  have HL_ := Aside0.mk hL_
  clear hL_
  have hu36 := Tryd.underlying36
  have HR0 := Aside0.mk hr0
  have HC0 := Aside0.mk hc0
  clear hr0 hc0
  have HB := Aside0.mk (Below.refl w.heap.size w)
  have H : (duty_Total.l0 k a1 0 l0 (l0.length : Int) 0) = some r := h
  clear h
  have H' := Aside0.mk H
  clear H
  go_enter Tryd.func20, Tryd.ntmps20
  go_wp2
  go_loopg [5, 10] k (fun kq v5 v10 w' => ∃ (x5_1 : Int) (x10_1 : Int), v5 = .int .i64 x5_1 ∧ v10 = .int .i64 x10_1 ∧ Aside0 (duty_Total.l0 kq a1 x5_1 l0 (l0.length : Int) x10_1 = some r) ∧ Aside0 (kq ≤ k) ∧ Aside0 (Below w.heap.size w w'))
  case atStart => exact ⟨(0), (0), (by first | rfl | (simp; done) | (simp [*]; done)), (by first | rfl | (simp; done) | (simp [*]; done)), H', ⟨Nat.le_refl _⟩, ⟨by repeat (first | (with_reducible first | exact HB.out | apply below_alloc | apply pw_below_drewN | apply below_drew1) | exact HB.out)⟩⟩
  case round =>
    clear H'
    try clear c2
    try clear p2
    obtain ⟨x5_1, x10_1, rfl, rfl, HA, HK1, HB⟩ := hrel
    cases gk with
    | zero => exact absurd HA.out (by simp [duty_Total.l0])
    | succ k1 =>
      have H := HA.out
      clear HA
      simp only [duty_Total.l0] at H
      by_cases c3 : x10_1 < (l0.length : Int)
      · rw [if_pos c3] at H
        have c3b0 : decide (x10_1 < (l0.length : Int)) = true := decide_eq_true c3
        clear c3
        by_cases c4 : 0 ≤ x10_1
        · rw [if_pos c4] at H
          have c4b0 : decide (0 ≤ x10_1) = true := decide_eq_true c4
          clear c4
          by_cases c5 : x10_1 < (l0.length : Int)
          · rw [if_pos c5] at H
            have c5b0 : decide (x10_1 < (l0.length : Int)) = true := decide_eq_true c5
            clear c5
            by_cases c6 : ((rd_T36 l0 x10_1).f2) = a1
            · rw [if_pos c6] at H
              have c6b0 : (((rd_T36 l0 x10_1).f2) == a1) = true := beq_iff_eq.mpr c6
              have c6b1 : (((rd_T36 l0 x10_1).f2) != a1) = false := bne_eq_false_iff_eq.mpr c6
              clear c6
              replace H := Option.bind_eq_some_iff.mp H
              obtain ⟨t110, A70, H⟩ := H
              replace H : (duty_Total.l0 k1 a1 (wrap64 (x5_1 + t110)) l0 (l0.length : Int) (wrap64 (x10_1 + 1))) = some r := H
              have A7 := Aside0.mk A70
              clear A70
              have H' := Aside0.mk H
              clear H
              have p108 : 0 ≤ (x10_1 : Int) := of_decide_eq_true (by first | (with_reducible assumption) | assumption)
              have q108 : x10_1 < (l0.length : Int) := of_decide_eq_true (by first | (with_reducible assumption) | assumption)
              obtain ⟨ad108, e108, hx108_0, hx108_1, hx108_2, hx108_3⟩ := at_T36 HR0.out x10_1 p108 q108
              cases e108
              replace hx108_0 := (HB.out.cell (World.block_lt_of_cell? w _ hx108_0)).trans hx108_0
              replace hx108_1 := (HB.out.cell (World.block_lt_of_cell? w _ hx108_1)).trans hx108_1
              replace hx108_2 := (HB.out.cell (World.block_lt_of_cell? w _ hx108_2)).trans hx108_2
              replace hx108_3 := (HB.out.cell (World.block_lt_of_cell? w _ hx108_3)).trans hx108_3
              replace p108 := eq_true p108
              replace q108 := eq_true q108
              go_wp2_with (first | ((with_reducible refine gate_dst (N := 7) rfl ?_); refine box_event ?hg (N := 7) ?hd (cs := #[.int .i64 0, .int .i64 0, .int .i64 0, .int .i64 0]) (t := 36) ?hr ?_; (case hd => rfl); (case hg => rfl); (case hr => first | (go_simp; done) | (go_simp; rfl)); intro gb109 hg w8 hbox hb; have n0_ := Aside0.mk (below_step (by repeat (first | (with_reducible first | exact HB.out | apply below_alloc | apply pw_below_drewN | apply below_drew1) | exact HB.out)) hb); have n1_ := Aside0.mk (hbox); have n2_ := Aside0.mk ((by rw [hg]; exact (below_size (by repeat (first | (with_reducible first | exact HB.out | apply below_alloc | apply pw_below_drewN | apply below_drew1) | exact HB.out))) : w.heap.size ≤ gb109)); have n3_ := Aside0.mk ((by rw [hg]; exact (below_size (by repeat (first | (with_reducible first | exact HB.out | apply below_alloc | apply pw_below_drewN | apply below_drew1) | exact HB.out))) : w.heap.size ≤ gb109)); clear HB; have HB := n0_; have BK109 := n1_; have GW109 := n2_; have GE109 := n3_; clear n0_ n1_ n2_ n3_; clear hb hbox hg; have hcz9_0 : w8.cell? ⟨gb109, 0, none⟩ = some (.int .i64 0) := (blk_cell BK109.out 0).trans rfl; have hcz9_1 : w8.cell? ⟨gb109, 1, none⟩ = some (.int .i64 0) := (blk_cell BK109.out 1).trans rfl; have hcz9_2 : w8.cell? ⟨gb109, 2, none⟩ = some (.int .i64 0) := (blk_cell BK109.out 2).trans rfl; have hcz9_3 : w8.cell? ⟨gb109, 3, none⟩ = some (.int .i64 0) := (blk_cell BK109.out 3).trans rfl; have hfz9_0 := blk_frozen BK109.out 0; have hfz9_1 := blk_frozen BK109.out 1; have hfz9_2 := blk_frozen BK109.out 2; have hfz9_3 := blk_frozen BK109.out 3) | ((with_reducible refine gate_callee (f := 27) rfl ?_); refine goesL_ (some 21) rfl rfl Tryd.func27 (by kernel_rfl) rfl #[.int .i64 ((rd_T36 l0 x10_1).f3)] rfl (by (try simp only [List.map_toArray, List.map_cons, List.map_nil]); first | done | rfl | (simp only [List.length_drop, List.length_take]; rfl)) ?_; (with_reducible refine (duty_Cost.calls ((rd_T36 l0 x10_1).f3) t110 _ A7.out (by first | exact HL_.out | exact laid_below HL_.out (by repeat (first | (with_reducible first | exact HB.out | apply below_alloc | apply pw_below_drewN | apply below_drew1) | refine below_set ?_ (Aside0.out (by assumption)) | exact HB.out)) | exact laid_drawn HL_.out HD.out | exact laid_drawn HL_.out (HD.out.step _))).mono ?_); rintro e w' ⟨rfl, ⟨nd, rfl⟩⟩; refine ⟨_, rfl, ?_⟩))
              go_roundg k1
              case measure => have := HK1.out; omega
              case rel => exact ⟨(wrap64 (x5_1 + t110)), (wrap64 (x10_1 + 1)), (by first | rfl | (simp; done) | (simp [*]; done)), (by first | rfl | (simp; done) | (simp [*]; done)), H', ⟨by have := HK1.out; omega⟩, ⟨by repeat (first | (with_reducible first | exact HB.out | apply below_alloc | apply pw_below_drewN | apply below_drew1 | refine below_set ?_ GE109.out) | exact HB.out)⟩⟩
            · rw [if_neg c6] at H
              have c6b0 : (((rd_T36 l0 x10_1).f2) == a1) = false := beq_eq_false_iff_ne.mpr c6
              have c6b1 : (((rd_T36 l0 x10_1).f2) != a1) = true := bne_iff_ne.mpr c6
              have H' := Aside0.mk H
              clear H
              have p108 : 0 ≤ (x10_1 : Int) := of_decide_eq_true (by first | (with_reducible assumption) | assumption)
              have q108 : x10_1 < (l0.length : Int) := of_decide_eq_true (by first | (with_reducible assumption) | assumption)
              obtain ⟨ad108, e108, hx108_0, hx108_1, hx108_2, hx108_3⟩ := at_T36 HR0.out x10_1 p108 q108
              cases e108
              replace hx108_0 := (HB.out.cell (World.block_lt_of_cell? w _ hx108_0)).trans hx108_0
              replace hx108_1 := (HB.out.cell (World.block_lt_of_cell? w _ hx108_1)).trans hx108_1
              replace hx108_2 := (HB.out.cell (World.block_lt_of_cell? w _ hx108_2)).trans hx108_2
              replace hx108_3 := (HB.out.cell (World.block_lt_of_cell? w _ hx108_3)).trans hx108_3
              replace p108 := eq_true p108
              replace q108 := eq_true q108
              go_wp2_with (first | ((with_reducible refine gate_dst (N := 7) rfl ?_); refine box_event ?hg (N := 7) ?hd (cs := #[.int .i64 0, .int .i64 0, .int .i64 0, .int .i64 0]) (t := 36) ?hr ?_; (case hd => rfl); (case hg => rfl); (case hr => first | (go_simp; done) | (go_simp; rfl)); intro gb109 hg w10 hbox hb; have n0_ := Aside0.mk (below_step (by repeat (first | (with_reducible first | exact HB.out | apply below_alloc | apply pw_below_drewN | apply below_drew1) | exact HB.out)) hb); have n1_ := Aside0.mk (hbox); have n2_ := Aside0.mk ((by rw [hg]; exact (below_size (by repeat (first | (with_reducible first | exact HB.out | apply below_alloc | apply pw_below_drewN | apply below_drew1) | exact HB.out))) : w.heap.size ≤ gb109)); have n3_ := Aside0.mk ((by rw [hg]; exact (below_size (by repeat (first | (with_reducible first | exact HB.out | apply below_alloc | apply pw_below_drewN | apply below_drew1) | exact HB.out))) : w.heap.size ≤ gb109)); clear HB; have HB := n0_; have BK109 := n1_; have GW109 := n2_; have GE109 := n3_; clear n0_ n1_ n2_ n3_; clear hb hbox hg; have hcz11_0 : w10.cell? ⟨gb109, 0, none⟩ = some (.int .i64 0) := (blk_cell BK109.out 0).trans rfl; have hcz11_1 : w10.cell? ⟨gb109, 1, none⟩ = some (.int .i64 0) := (blk_cell BK109.out 1).trans rfl; have hcz11_2 : w10.cell? ⟨gb109, 2, none⟩ = some (.int .i64 0) := (blk_cell BK109.out 2).trans rfl; have hcz11_3 : w10.cell? ⟨gb109, 3, none⟩ = some (.int .i64 0) := (blk_cell BK109.out 3).trans rfl; have hfz11_0 := blk_frozen BK109.out 0; have hfz11_1 := blk_frozen BK109.out 1; have hfz11_2 := blk_frozen BK109.out 2; have hfz11_3 := blk_frozen BK109.out 3))
              go_roundg k1
              case measure => have := HK1.out; omega
              case rel => exact ⟨(x5_1), (wrap64 (x10_1 + 1)), (by first | rfl | (simp; done) | (simp [*]; done)), (by first | rfl | (simp; done) | (simp [*]; done)), H', ⟨by have := HK1.out; omega⟩, ⟨by repeat (first | (with_reducible first | exact HB.out | apply below_alloc | apply pw_below_drewN | apply below_drew1 | refine below_set ?_ GE109.out) | exact HB.out)⟩⟩
          · rw [if_neg c5] at H
            exact absurd H (by simp)
        · rw [if_neg c4] at H
          exact absurd H (by simp)
      · rw [if_neg c3] at H
        have c3b0 : decide (x10_1 < (l0.length : Int)) = false := decide_eq_false c3
        clear c3
        obtain rfl := Option.some.inj H
        go_wp2
        go_ret
        exact ⟨by first | rfl | (simp [errW_none, errW_some] <;> rfl) | (simp [*, errW_none, errW_some] <;> rfl), by repeat (first | (with_reducible first | exact HB.out | apply below_alloc | apply pw_below_drewN | apply below_drew1) | exact HB.out)⟩

/-! ### storagebarterlaw28_sane: function 16 -/
def storagebarterlaw28_sane.f (k : Nat)  : Option (Bool) := (duty_Plan.f k 1 2 0 2 (([1] : List Int)) 0 true).bind fun bt114 => (if bt114.2 = 0 then (if (bt114.1.length : Int) = 16 then (if 0 < (bt114.1.length : Int) then (if (((rd_T36 bt114.1 0).f0) == 0 && (((rd_T36 bt114.1 0).f1) == 0 && (((rd_T36 bt114.1 0).f2) == 1 && (((rd_T36 bt114.1 0).f3) == 1)))) = true then (if 15 < (bt114.1.length : Int) then (if (((rd_T36 bt114.1 15).f0) == 3 && (((rd_T36 bt114.1 15).f1) == 0 && (((rd_T36 bt114.1 15).f2) == 2 && (((rd_T36 bt114.1 15).f3) == 7)))) = true then ((duty_Total.f k bt114.1 1).bind fun t120 => (if t120 = 30 then ((duty_Cost.f 4).bind fun t121 => (some (t121 == 2))) else (some false))) else (some false)) else (none)) else (some false)) else (none)) else (some false)) else (some false))
theorem storagebarterlaw28_sane.mono : ∀ k, LeO (storagebarterlaw28_sane.f k ) (storagebarterlaw28_sane.f (k + 1) ) := by
  intro  k
  unfold storagebarterlaw28_sane.f
  repeat' first
      | (with_reducible exact duty_Plan.mono _ _ _ _ _ _ _ _)
      | (with_reducible exact duty_Total.mono _ _ _)
      | (with_reducible exact LeO.refl _)
      | (with_reducible exact LeO.none _)
      | (with_reducible refine LeO.ite ?_ ?_)
      | (with_reducible refine LeO.bind ?_ (fun _ => ?_))
      | exact duty_Plan.mono _ _ _ _ _ _ _ _
      | exact duty_Total.mono _ _ _
      | exact LeO.none _
      | refine LeO.ite ?_ ?_
      | refine LeO.bind ?_ (fun _ => ?_)
set_option maxHeartbeats 8000000 in
set_option maxRecDepth 100000 in
theorem storagebarterlaw28_sane.calls (k : Nat)  (r : Bool) (w : World) (h : storagebarterlaw28_sane.f k  = some r) (hL_ : Laid w) :
    Calls Tryd.prog 16 #[] w fun e w' => e = .returned (.bool r) ∧ Below w.heap.size w w' := by
  have HL_ := Aside0.mk hL_
  clear hL_
  have hu26 := Tryd.underlying26
  have hu36 := Tryd.underlying36
  have HB := Aside0.mk (Below.refl w.heap.size w)
  have H : ((duty_Plan.f k 1 2 0 2 (([1] : List Int)) 0 true).bind fun bt114 => (if bt114.2 = 0 then (if (bt114.1.length : Int) = 16 then (if 0 < (bt114.1.length : Int) then (if (((rd_T36 bt114.1 0).f0) == 0 && (((rd_T36 bt114.1 0).f1) == 0 && (((rd_T36 bt114.1 0).f2) == 1 && (((rd_T36 bt114.1 0).f3) == 1)))) = true then (if 15 < (bt114.1.length : Int) then (if (((rd_T36 bt114.1 15).f0) == 3 && (((rd_T36 bt114.1 15).f1) == 0 && (((rd_T36 bt114.1 15).f2) == 2 && (((rd_T36 bt114.1 15).f3) == 7)))) = true then ((duty_Total.f k bt114.1 1).bind fun t120 => (if t120 = 30 then ((duty_Cost.f 4).bind fun t121 => (some (t121 == 2))) else (some false))) else (some false)) else (none)) else (some false)) else (none)) else (some false)) else (some false))) = some r := h
  clear h
  obtain ⟨y111, hy111⟩ : ∃ y_ : List Int, y_ = (([1] : List Int)) := ⟨_, rfl⟩
  replace H : ((duty_Plan.f k 1 2 0 2 y111 0 true).bind fun bt114 => (if bt114.2 = 0 then (if (bt114.1.length : Int) = 16 then (if 0 < (bt114.1.length : Int) then (if (((rd_T36 bt114.1 0).f0) == 0 && (((rd_T36 bt114.1 0).f1) == 0 && (((rd_T36 bt114.1 0).f2) == 1 && (((rd_T36 bt114.1 0).f3) == 1)))) = true then (if 15 < (bt114.1.length : Int) then (if (((rd_T36 bt114.1 15).f0) == 3 && (((rd_T36 bt114.1 15).f1) == 0 && (((rd_T36 bt114.1 15).f2) == 2 && (((rd_T36 bt114.1 15).f3) == 7)))) = true then ((duty_Total.f k bt114.1 1).bind fun t120 => (if t120 = 30 then ((duty_Cost.f 4).bind fun t121 => (some (t121 == 2))) else (some false))) else (some false)) else (none)) else (some false)) else (none)) else (some false)) else (some false))) = some r := by first | (rw [hy111]; with_reducible exact H) | (have H2_ := (Option.bind_some _ _).symm.trans H; rw [hy111]; with_reducible exact H2_) | (have H2_ := (Option.bind_some _ _).symm.trans H; with_reducible exact H2_) | with_reducible exact H | (rw [hy111]; exact H) | exact H
  have Ny111 := Aside0.mk hy111
  clear hy111
  replace H := Option.bind_eq_some_iff.mp H
  obtain ⟨⟨t114, t117⟩, A10, H⟩ := H
  replace H : (if t117 = 0 then (if (t114.length : Int) = 16 then (if 0 < (t114.length : Int) then (if (((rd_T36 t114 0).f0) == 0 && (((rd_T36 t114 0).f1) == 0 && (((rd_T36 t114 0).f2) == 1 && (((rd_T36 t114 0).f3) == 1)))) = true then (if 15 < (t114.length : Int) then (if (((rd_T36 t114 15).f0) == 3 && (((rd_T36 t114 15).f1) == 0 && (((rd_T36 t114 15).f2) == 2 && (((rd_T36 t114 15).f3) == 7)))) = true then ((duty_Total.f k t114 1).bind fun t120 => (if t120 = 30 then ((duty_Cost.f 4).bind fun t121 => (some (t121 == 2))) else (some false))) else (some false)) else (none)) else (some false)) else (none)) else (some false)) else (some false)) = some r := H
  have A1 := Aside0.mk A10
  clear A10
  by_cases c2 : t117 = 0
  · rw [if_pos c2] at H
    have c2b0 : (t117 == 0) = true := beq_iff_eq.mpr c2
    have c2b1 : (t117 != 0) = false := bne_eq_false_iff_eq.mpr c2
    clear c2
    by_cases c3 : (t114.length : Int) = 16
    · rw [if_pos c3] at H
      have c3b0 : ((t114.length : Int) == 16) = true := beq_iff_eq.mpr c3
      have c3b1 : ((t114.length : Int) != 16) = false := bne_eq_false_iff_eq.mpr c3
      clear c3
      by_cases c4 : 0 < (t114.length : Int)
      · rw [if_pos c4] at H
        have c4b0 : decide (0 < (t114.length : Int)) = true := decide_eq_true c4
        have c4b1 : decide (0 < t114.length) = true := decide_eq_true (by omega)
        clear c4
        by_cases c5 : (((rd_T36 t114 0).f0) == 0 && (((rd_T36 t114 0).f1) == 0 && (((rd_T36 t114 0).f2) == 1 && (((rd_T36 t114 0).f3) == 1)))) = true
        · rw [if_pos c5] at H
          have c5b0 : (((rd_T36 t114 0).f0) == 0 && (((rd_T36 t114 0).f1) == 0 && (((rd_T36 t114 0).f2) == 1 && (((rd_T36 t114 0).f3) == 1)))) = true := c5
          (try (have c5b1 : decide (((rd_T36 t114 0).f0) = 0 && (((rd_T36 t114 0).f1) == 0 && (((rd_T36 t114 0).f2) == 1 && (((rd_T36 t114 0).f3) == 1)))) = true := by simpa using c5))
          (try (have c5b2 : (((rd_T36 t114 0).f0) == 0 && (((rd_T36 t114 0).f1) == 0 && (((rd_T36 t114 0).f2) == 1 && (((rd_T36 t114 0).f3) == 1)))) = true := by simpa using c5))
          clear c5
          by_cases c6 : 15 < (t114.length : Int)
          · rw [if_pos c6] at H
            have c6b0 : decide (15 < (t114.length : Int)) = true := decide_eq_true c6
            have c6b1 : decide (15 < t114.length) = true := decide_eq_true (by omega)
            clear c6
            by_cases c7 : (((rd_T36 t114 15).f0) == 3 && (((rd_T36 t114 15).f1) == 0 && (((rd_T36 t114 15).f2) == 2 && (((rd_T36 t114 15).f3) == 7)))) = true
            · rw [if_pos c7] at H
              have c7b0 : (((rd_T36 t114 15).f0) == 3 && (((rd_T36 t114 15).f1) == 0 && (((rd_T36 t114 15).f2) == 2 && (((rd_T36 t114 15).f3) == 7)))) = true := c7
              (try (have c7b1 : decide (((rd_T36 t114 15).f0) = 3 && (((rd_T36 t114 15).f1) == 0 && (((rd_T36 t114 15).f2) == 2 && (((rd_T36 t114 15).f3) == 7)))) = true := by simpa using c7))
              (try (have c7b2 : (((rd_T36 t114 15).f0) == 3 && (((rd_T36 t114 15).f1) == 0 && (((rd_T36 t114 15).f2) == 2 && (((rd_T36 t114 15).f3) == 7)))) = true := by simpa using c7))
              clear c7
              replace H := Option.bind_eq_some_iff.mp H
              obtain ⟨t120, A80, H⟩ := H
              replace H : (if t120 = 30 then ((duty_Cost.f 4).bind fun t121 => (some (t121 == 2))) else (some false)) = some r := H
              have A8 := Aside0.mk A80
              clear A80
              by_cases c9 : t120 = 30
              · rw [if_pos c9] at H
                have c9b0 : (t120 == 30) = true := beq_iff_eq.mpr c9
                have c9b1 : (t120 != 30) = false := bne_eq_false_iff_eq.mpr c9
                clear c9
                replace H := Option.bind_eq_some_iff.mp H
                obtain ⟨t121, A100, H⟩ := H
                replace H : (some (t121 == 2)) = some r := H
                have A10 := Aside0.mk A100
                clear A100
                obtain rfl := Option.some.inj H
                go_enter Tryd.func16, Tryd.ntmps16
                go_wp2_with (first | ((with_reducible refine gate_dst (N := 4) rfl ?_); (try (refine gate_guard (by rfl) ?_; dsimp only)); refine Kd.R_lit (Kd.int .i64) _ 3 ?hg (N := 4) ?hd (xs := ([1] : List Int)) (inner := [.int .i64 1]) (ok := fun _ => True) (okp := fun _ => True) ?hr ?hp (fun _ hk => hk) trivial (Below.refl _ _) (Nat.le_refl _) (by simp) ?_; (case hd => rfl); (case hg => rfl); (case hr => first | (go_simp; done) | (go_simp; rfl)); (case hp => exact (Reps.one (show Kd.M (Kd.int .i64) _ _ _ 1 [.int .i64 1] from rfl) (Reps.none _ _))); intro v112 w11 ho12 hb hg_ hnew_; clear hg_ hnew_; (first | rw [← Ny111.out] at ho12 | (simp only [Int.reduceToNat] at ho12; rw [← Ny111.out] at ho12)); have n0_ := Aside0.mk (Kd.R_lower ho12 (below_size (by repeat (first | (with_reducible first | exact HB.out | apply below_alloc | apply pw_below_drewN | apply below_drew1) | exact HB.out)))); have n1_ := Aside0.mk (below_step (by repeat (first | (with_reducible first | exact HB.out | apply below_alloc | apply pw_below_drewN | apply below_drew1) | exact HB.out)) hb); clear HB; have HO113 := n0_; have HB := n1_; clear n0_ n1_; clear hb ho12; obtain ⟨Ao13, co13, eo13⟩ := Kd.R_slice HO113.out; subst eo13) | ((with_reducible refine gate_callee (f := 19) rfl ?_); refine goesL_ (some 6) rfl rfl Tryd.func19 (by kernel_rfl) rfl #[.agg #[.int .i64 1, .int .i64 2, .int .i64 0, .int .i64 2, .slice Ao13 y111.length co13], .int .i64 0, .bool true] rfl (by (try simp only [List.map_toArray, List.map_cons, List.map_nil]); first | done | rfl | (simp only [List.length_drop, List.length_take]; rfl)) ?_; (with_reducible refine (duty_Plan.calls k 1 2 0 2 _ _ y111 0 true t114 t117 _ ?side1 ?side2 A1.out).mono ?_); (case side1 => repeat (first | exact (Kd.R_reads' HO113.out).2.2 | (with_reducible refine Kd.C_alloc ?_ _) | (with_reducible refine Kd.C_drewN ?_ _) | (with_reducible refine Kd.C_drew ?_))); (case side2 => exact (Kd.R_reads' HO113.out).2.1); rintro e w14 ⟨v115, rfl, ho0, hb⟩; refine ⟨_, rfl, ?_⟩; have n0_ := Aside0.mk (Kd.R_below (by (with_reducible repeat (first | apply Kd.R_alloc | apply Kd.R_drewN | apply Kd.R_drew)); exact HO113.out) hb); have n1_ := Aside0.mk (Kd.R_lower ho0 (below_size (by repeat (first | (with_reducible first | exact HB.out | apply below_alloc | apply pw_below_drewN | apply below_drew1) | exact HB.out)))); have n2_ := Aside0.mk (below_step (by repeat (first | (with_reducible first | exact HB.out | apply below_alloc | apply pw_below_drewN | apply below_drew1) | exact HB.out)) hb); clear HO113; clear HB; have HO113 := n0_; have HO116 := n1_; have HB := n2_; clear n0_ n1_ n2_; (try clear hb); (try clear hb2); (try clear hk); (try clear hi); (try clear hgw); (try clear ho0); obtain ⟨Ao15, co15, eo15⟩ := Kd.R_slice HO116.out; subst eo15; have p118 : 0 ≤ (0 : Int) := (by omega); have q118 : 0 < (t114.length : Int) := of_decide_eq_true (by first | (with_reducible assumption) | assumption); obtain ⟨ad118, e118, hx118_0, hx118_1, hx118_2, hx118_3⟩ := at_T36 (Kd.R_reads' HO116.out).2.2 0 p118 q118; cases e118; have qi118 : (0 < t114.length) = True := eq_true (by omega); (try rw [show ((0 : Int)).toNat = 0 from rfl] at hx118_0); (try rw [show 0 * 4 = 0 from rfl] at hx118_0); (try rw [Addr.add_zero'] at hx118_0); (try rw [show ((0 : Int)).toNat = 0 from rfl] at hx118_1); (try rw [show 0 * 4 = 0 from rfl] at hx118_1); (try rw [Addr.add_zero'] at hx118_1); (try rw [show ((0 : Int)).toNat = 0 from rfl] at hx118_2); (try rw [show 0 * 4 = 0 from rfl] at hx118_2); (try rw [Addr.add_zero'] at hx118_2); (try rw [show ((0 : Int)).toNat = 0 from rfl] at hx118_3); (try rw [show 0 * 4 = 0 from rfl] at hx118_3); (try rw [Addr.add_zero'] at hx118_3); replace p118 := eq_true p118; replace q118 := eq_true q118; have p119 : 0 ≤ (15 : Int) := (by omega); have q119 : 15 < (t114.length : Int) := of_decide_eq_true (by first | (with_reducible assumption) | assumption); obtain ⟨ad119, e119, hx119_0, hx119_1, hx119_2, hx119_3⟩ := at_T36 (Kd.R_reads' HO116.out).2.2 15 p119 q119; obtain rfl : ad118 = ad119 := (by injection e119); (try simp only [show (15 : Int).toNat = 15 from rfl, Nat.reduceMul, Nat.reduceEqDiff, Go.Addr.add, ↓reduceIte] at hx119_0); (try simp only [show (15 : Int).toNat = 15 from rfl, Nat.reduceMul, Nat.reduceEqDiff, Go.Addr.add, ↓reduceIte] at hx119_1); (try simp only [show (15 : Int).toNat = 15 from rfl, Nat.reduceMul, Nat.reduceEqDiff, Go.Addr.add, ↓reduceIte] at hx119_2); (try simp only [show (15 : Int).toNat = 15 from rfl, Nat.reduceMul, Nat.reduceEqDiff, Go.Addr.add, ↓reduceIte] at hx119_3); have qi119 : (15 < t114.length) = True := eq_true (by omega); (try rw [show ((15 : Int)).toNat = 15 from rfl] at hx119_0); (try rw [show 15 * 4 = 60 from rfl] at hx119_0); (try rw [show ((15 : Int)).toNat = 15 from rfl] at hx119_1); (try rw [show 15 * 4 = 60 from rfl] at hx119_1); (try rw [show ((15 : Int)).toNat = 15 from rfl] at hx119_2); (try rw [show 15 * 4 = 60 from rfl] at hx119_2); (try rw [show ((15 : Int)).toNat = 15 from rfl] at hx119_3); (try rw [show 15 * 4 = 60 from rfl] at hx119_3); replace p119 := eq_true p119; replace q119 := eq_true q119) | (go_at_call 20; (with_reducible refine (duty_Total.calls k _ _ t114 1 t120 _ ?side1 ?side2 A8.out (by first | exact HL_.out | exact laid_below HL_.out (by repeat (first | (with_reducible first | exact HB.out | apply below_alloc | apply pw_below_drewN | apply below_drew1) | refine below_set ?_ (Aside0.out (by assumption)) | exact HB.out)) | exact laid_drawn HL_.out HD.out | exact laid_drawn HL_.out (HD.out.step _))).mono ?_); (case side1 => repeat (first | exact (Kd.R_reads' HO116.out).2.2 | (with_reducible refine Kd.C_alloc ?_ _) | (with_reducible refine Kd.C_drewN ?_ _) | (with_reducible refine Kd.C_drew ?_))); (case side2 => exact (Kd.R_reads' HO116.out).2.1); rintro e w16 ⟨rfl, hb⟩; have n0_ := Aside0.mk (Kd.R_below (by (with_reducible repeat (first | apply Kd.R_alloc | apply Kd.R_drewN | apply Kd.R_drew)); exact HO113.out) hb); have n1_ := Aside0.mk (Kd.R_below (by (with_reducible repeat (first | apply Kd.R_alloc | apply Kd.R_drewN | apply Kd.R_drew)); exact HO116.out) hb); have n2_ := Aside0.mk (below_step (by repeat (first | (with_reducible first | exact HB.out | apply below_alloc | apply pw_below_drewN | apply below_drew1) | exact HB.out)) hb); clear HO113; clear HO116; clear HB; have HO113 := n0_; have HO116 := n1_; have HB := n2_; clear n0_ n1_ n2_; (try clear hb); (try clear hb2); (try clear hk); (try clear hi); (try clear hgw)) | (go_at_call 27; (with_reducible refine (duty_Cost.calls 4 t121 _ A10.out (by first | exact HL_.out | exact laid_below HL_.out (by repeat (first | (with_reducible first | exact HB.out | apply below_alloc | apply pw_below_drewN | apply below_drew1) | refine below_set ?_ (Aside0.out (by assumption)) | exact HB.out)) | exact laid_drawn HL_.out HD.out | exact laid_drawn HL_.out (HD.out.step _))).mono ?_); rintro e w' ⟨rfl, ⟨nd, rfl⟩⟩))
                go_ret
                exact ⟨by first | rfl | (simp [errW_none, errW_some] <;> rfl) | (simp [*, errW_none, errW_some] <;> rfl), by repeat (first | (with_reducible first | exact HB.out | apply below_alloc | apply pw_below_drewN | apply below_drew1) | exact HB.out)⟩
              · rw [if_neg c9] at H
                have c9b0 : (t120 == 30) = false := beq_eq_false_iff_ne.mpr c9
                have c9b1 : (t120 != 30) = true := bne_iff_ne.mpr c9
                obtain rfl := Option.some.inj H
                go_enter Tryd.func16, Tryd.ntmps16
                go_wp2_with (first | ((with_reducible refine gate_dst (N := 4) rfl ?_); (try (refine gate_guard (by rfl) ?_; dsimp only)); refine Kd.R_lit (Kd.int .i64) _ 3 ?hg (N := 4) ?hd (xs := ([1] : List Int)) (inner := [.int .i64 1]) (ok := fun _ => True) (okp := fun _ => True) ?hr ?hp (fun _ hk => hk) trivial (Below.refl _ _) (Nat.le_refl _) (by simp) ?_; (case hd => rfl); (case hg => rfl); (case hr => first | (go_simp; done) | (go_simp; rfl)); (case hp => exact (Reps.one (show Kd.M (Kd.int .i64) _ _ _ 1 [.int .i64 1] from rfl) (Reps.none _ _))); intro v112 w17 ho18 hb hg_ hnew_; clear hg_ hnew_; (first | rw [← Ny111.out] at ho18 | (simp only [Int.reduceToNat] at ho18; rw [← Ny111.out] at ho18)); have n0_ := Aside0.mk (Kd.R_lower ho18 (below_size (by repeat (first | (with_reducible first | exact HB.out | apply below_alloc | apply pw_below_drewN | apply below_drew1) | exact HB.out)))); have n1_ := Aside0.mk (below_step (by repeat (first | (with_reducible first | exact HB.out | apply below_alloc | apply pw_below_drewN | apply below_drew1) | exact HB.out)) hb); clear HB; have HO113 := n0_; have HB := n1_; clear n0_ n1_; clear hb ho18; obtain ⟨Ao19, co19, eo19⟩ := Kd.R_slice HO113.out; subst eo19) | ((with_reducible refine gate_callee (f := 19) rfl ?_); refine goesL_ (some 6) rfl rfl Tryd.func19 (by kernel_rfl) rfl #[.agg #[.int .i64 1, .int .i64 2, .int .i64 0, .int .i64 2, .slice Ao19 y111.length co19], .int .i64 0, .bool true] rfl (by (try simp only [List.map_toArray, List.map_cons, List.map_nil]); first | done | rfl | (simp only [List.length_drop, List.length_take]; rfl)) ?_; (with_reducible refine (duty_Plan.calls k 1 2 0 2 _ _ y111 0 true t114 t117 _ ?side1 ?side2 A1.out).mono ?_); (case side1 => repeat (first | exact (Kd.R_reads' HO113.out).2.2 | (with_reducible refine Kd.C_alloc ?_ _) | (with_reducible refine Kd.C_drewN ?_ _) | (with_reducible refine Kd.C_drew ?_))); (case side2 => exact (Kd.R_reads' HO113.out).2.1); rintro e w20 ⟨v115, rfl, ho0, hb⟩; refine ⟨_, rfl, ?_⟩; have n0_ := Aside0.mk (Kd.R_below (by (with_reducible repeat (first | apply Kd.R_alloc | apply Kd.R_drewN | apply Kd.R_drew)); exact HO113.out) hb); have n1_ := Aside0.mk (Kd.R_lower ho0 (below_size (by repeat (first | (with_reducible first | exact HB.out | apply below_alloc | apply pw_below_drewN | apply below_drew1) | exact HB.out)))); have n2_ := Aside0.mk (below_step (by repeat (first | (with_reducible first | exact HB.out | apply below_alloc | apply pw_below_drewN | apply below_drew1) | exact HB.out)) hb); clear HO113; clear HB; have HO113 := n0_; have HO116 := n1_; have HB := n2_; clear n0_ n1_ n2_; (try clear hb); (try clear hb2); (try clear hk); (try clear hi); (try clear hgw); (try clear ho0); obtain ⟨Ao21, co21, eo21⟩ := Kd.R_slice HO116.out; subst eo21; have p118 : 0 ≤ (0 : Int) := (by omega); have q118 : 0 < (t114.length : Int) := of_decide_eq_true (by first | (with_reducible assumption) | assumption); obtain ⟨ad118, e118, hx118_0, hx118_1, hx118_2, hx118_3⟩ := at_T36 (Kd.R_reads' HO116.out).2.2 0 p118 q118; cases e118; have qi118 : (0 < t114.length) = True := eq_true (by omega); (try rw [show ((0 : Int)).toNat = 0 from rfl] at hx118_0); (try rw [show 0 * 4 = 0 from rfl] at hx118_0); (try rw [Addr.add_zero'] at hx118_0); (try rw [show ((0 : Int)).toNat = 0 from rfl] at hx118_1); (try rw [show 0 * 4 = 0 from rfl] at hx118_1); (try rw [Addr.add_zero'] at hx118_1); (try rw [show ((0 : Int)).toNat = 0 from rfl] at hx118_2); (try rw [show 0 * 4 = 0 from rfl] at hx118_2); (try rw [Addr.add_zero'] at hx118_2); (try rw [show ((0 : Int)).toNat = 0 from rfl] at hx118_3); (try rw [show 0 * 4 = 0 from rfl] at hx118_3); (try rw [Addr.add_zero'] at hx118_3); replace p118 := eq_true p118; replace q118 := eq_true q118; have p119 : 0 ≤ (15 : Int) := (by omega); have q119 : 15 < (t114.length : Int) := of_decide_eq_true (by first | (with_reducible assumption) | assumption); obtain ⟨ad119, e119, hx119_0, hx119_1, hx119_2, hx119_3⟩ := at_T36 (Kd.R_reads' HO116.out).2.2 15 p119 q119; obtain rfl : ad118 = ad119 := (by injection e119); (try simp only [show (15 : Int).toNat = 15 from rfl, Nat.reduceMul, Nat.reduceEqDiff, Go.Addr.add, ↓reduceIte] at hx119_0); (try simp only [show (15 : Int).toNat = 15 from rfl, Nat.reduceMul, Nat.reduceEqDiff, Go.Addr.add, ↓reduceIte] at hx119_1); (try simp only [show (15 : Int).toNat = 15 from rfl, Nat.reduceMul, Nat.reduceEqDiff, Go.Addr.add, ↓reduceIte] at hx119_2); (try simp only [show (15 : Int).toNat = 15 from rfl, Nat.reduceMul, Nat.reduceEqDiff, Go.Addr.add, ↓reduceIte] at hx119_3); have qi119 : (15 < t114.length) = True := eq_true (by omega); (try rw [show ((15 : Int)).toNat = 15 from rfl] at hx119_0); (try rw [show 15 * 4 = 60 from rfl] at hx119_0); (try rw [show ((15 : Int)).toNat = 15 from rfl] at hx119_1); (try rw [show 15 * 4 = 60 from rfl] at hx119_1); (try rw [show ((15 : Int)).toNat = 15 from rfl] at hx119_2); (try rw [show 15 * 4 = 60 from rfl] at hx119_2); (try rw [show ((15 : Int)).toNat = 15 from rfl] at hx119_3); (try rw [show 15 * 4 = 60 from rfl] at hx119_3); replace p119 := eq_true p119; replace q119 := eq_true q119) | (go_at_call 20; (with_reducible refine (duty_Total.calls k _ _ t114 1 t120 _ ?side1 ?side2 A8.out (by first | exact HL_.out | exact laid_below HL_.out (by repeat (first | (with_reducible first | exact HB.out | apply below_alloc | apply pw_below_drewN | apply below_drew1) | refine below_set ?_ (Aside0.out (by assumption)) | exact HB.out)) | exact laid_drawn HL_.out HD.out | exact laid_drawn HL_.out (HD.out.step _))).mono ?_); (case side1 => repeat (first | exact (Kd.R_reads' HO116.out).2.2 | (with_reducible refine Kd.C_alloc ?_ _) | (with_reducible refine Kd.C_drewN ?_ _) | (with_reducible refine Kd.C_drew ?_))); (case side2 => exact (Kd.R_reads' HO116.out).2.1); rintro e w22 ⟨rfl, hb⟩; have n0_ := Aside0.mk (Kd.R_below (by (with_reducible repeat (first | apply Kd.R_alloc | apply Kd.R_drewN | apply Kd.R_drew)); exact HO113.out) hb); have n1_ := Aside0.mk (Kd.R_below (by (with_reducible repeat (first | apply Kd.R_alloc | apply Kd.R_drewN | apply Kd.R_drew)); exact HO116.out) hb); have n2_ := Aside0.mk (below_step (by repeat (first | (with_reducible first | exact HB.out | apply below_alloc | apply pw_below_drewN | apply below_drew1) | exact HB.out)) hb); clear HO113; clear HO116; clear HB; have HO113 := n0_; have HO116 := n1_; have HB := n2_; clear n0_ n1_ n2_; (try clear hb); (try clear hb2); (try clear hk); (try clear hi); (try clear hgw)))
                go_ret
                exact ⟨by first | rfl | (simp [errW_none, errW_some] <;> rfl) | (simp [*, errW_none, errW_some] <;> rfl), by repeat (first | (with_reducible first | exact HB.out | apply below_alloc | apply pw_below_drewN | apply below_drew1) | exact HB.out)⟩
            · rw [if_neg c7] at H
              have c7b0 : (((rd_T36 t114 15).f0) == 3 && (((rd_T36 t114 15).f1) == 0 && (((rd_T36 t114 15).f2) == 2 && (((rd_T36 t114 15).f3) == 7)))) = false := by simpa using c7
              (try (have c7b1 : decide (((rd_T36 t114 15).f0) = 3 && (((rd_T36 t114 15).f1) == 0 && (((rd_T36 t114 15).f2) == 2 && (((rd_T36 t114 15).f3) == 7)))) = false := by simpa using c7))
              (try (have c7b2 : (((rd_T36 t114 15).f0) == 3 && (((rd_T36 t114 15).f1) == 0 && (((rd_T36 t114 15).f2) == 2 && (((rd_T36 t114 15).f3) == 7)))) = false := by simpa using c7))
              (try (have c7b3 : ¬ (((rd_T36 t114 15).f0) = 3 && (((rd_T36 t114 15).f1) == 0 && (((rd_T36 t114 15).f2) == 2 && (((rd_T36 t114 15).f3) == 7)))) := by simpa using c7))
              clear c7
              obtain rfl := Option.some.inj H
              go_enter Tryd.func16, Tryd.ntmps16
              go_wp2_with (first | ((with_reducible refine gate_dst (N := 4) rfl ?_); (try (refine gate_guard (by rfl) ?_; dsimp only)); refine Kd.R_lit (Kd.int .i64) _ 3 ?hg (N := 4) ?hd (xs := ([1] : List Int)) (inner := [.int .i64 1]) (ok := fun _ => True) (okp := fun _ => True) ?hr ?hp (fun _ hk => hk) trivial (Below.refl _ _) (Nat.le_refl _) (by simp) ?_; (case hd => rfl); (case hg => rfl); (case hr => first | (go_simp; done) | (go_simp; rfl)); (case hp => exact (Reps.one (show Kd.M (Kd.int .i64) _ _ _ 1 [.int .i64 1] from rfl) (Reps.none _ _))); intro v112 w23 ho24 hb hg_ hnew_; clear hg_ hnew_; (first | rw [← Ny111.out] at ho24 | (simp only [Int.reduceToNat] at ho24; rw [← Ny111.out] at ho24)); have n0_ := Aside0.mk (Kd.R_lower ho24 (below_size (by repeat (first | (with_reducible first | exact HB.out | apply below_alloc | apply pw_below_drewN | apply below_drew1) | exact HB.out)))); have n1_ := Aside0.mk (below_step (by repeat (first | (with_reducible first | exact HB.out | apply below_alloc | apply pw_below_drewN | apply below_drew1) | exact HB.out)) hb); clear HB; have HO113 := n0_; have HB := n1_; clear n0_ n1_; clear hb ho24; obtain ⟨Ao25, co25, eo25⟩ := Kd.R_slice HO113.out; subst eo25) | ((with_reducible refine gate_callee (f := 19) rfl ?_); refine goesL_ (some 6) rfl rfl Tryd.func19 (by kernel_rfl) rfl #[.agg #[.int .i64 1, .int .i64 2, .int .i64 0, .int .i64 2, .slice Ao25 y111.length co25], .int .i64 0, .bool true] rfl (by (try simp only [List.map_toArray, List.map_cons, List.map_nil]); first | done | rfl | (simp only [List.length_drop, List.length_take]; rfl)) ?_; (with_reducible refine (duty_Plan.calls k 1 2 0 2 _ _ y111 0 true t114 t117 _ ?side1 ?side2 A1.out).mono ?_); (case side1 => repeat (first | exact (Kd.R_reads' HO113.out).2.2 | (with_reducible refine Kd.C_alloc ?_ _) | (with_reducible refine Kd.C_drewN ?_ _) | (with_reducible refine Kd.C_drew ?_))); (case side2 => exact (Kd.R_reads' HO113.out).2.1); rintro e w26 ⟨v115, rfl, ho0, hb⟩; refine ⟨_, rfl, ?_⟩; have n0_ := Aside0.mk (Kd.R_below (by (with_reducible repeat (first | apply Kd.R_alloc | apply Kd.R_drewN | apply Kd.R_drew)); exact HO113.out) hb); have n1_ := Aside0.mk (Kd.R_lower ho0 (below_size (by repeat (first | (with_reducible first | exact HB.out | apply below_alloc | apply pw_below_drewN | apply below_drew1) | exact HB.out)))); have n2_ := Aside0.mk (below_step (by repeat (first | (with_reducible first | exact HB.out | apply below_alloc | apply pw_below_drewN | apply below_drew1) | exact HB.out)) hb); clear HO113; clear HB; have HO113 := n0_; have HO116 := n1_; have HB := n2_; clear n0_ n1_ n2_; (try clear hb); (try clear hb2); (try clear hk); (try clear hi); (try clear hgw); (try clear ho0); obtain ⟨Ao27, co27, eo27⟩ := Kd.R_slice HO116.out; subst eo27; have p118 : 0 ≤ (0 : Int) := (by omega); have q118 : 0 < (t114.length : Int) := of_decide_eq_true (by first | (with_reducible assumption) | assumption); obtain ⟨ad118, e118, hx118_0, hx118_1, hx118_2, hx118_3⟩ := at_T36 (Kd.R_reads' HO116.out).2.2 0 p118 q118; cases e118; have qi118 : (0 < t114.length) = True := eq_true (by omega); (try rw [show ((0 : Int)).toNat = 0 from rfl] at hx118_0); (try rw [show 0 * 4 = 0 from rfl] at hx118_0); (try rw [Addr.add_zero'] at hx118_0); (try rw [show ((0 : Int)).toNat = 0 from rfl] at hx118_1); (try rw [show 0 * 4 = 0 from rfl] at hx118_1); (try rw [Addr.add_zero'] at hx118_1); (try rw [show ((0 : Int)).toNat = 0 from rfl] at hx118_2); (try rw [show 0 * 4 = 0 from rfl] at hx118_2); (try rw [Addr.add_zero'] at hx118_2); (try rw [show ((0 : Int)).toNat = 0 from rfl] at hx118_3); (try rw [show 0 * 4 = 0 from rfl] at hx118_3); (try rw [Addr.add_zero'] at hx118_3); replace p118 := eq_true p118; replace q118 := eq_true q118; have p119 : 0 ≤ (15 : Int) := (by omega); have q119 : 15 < (t114.length : Int) := of_decide_eq_true (by first | (with_reducible assumption) | assumption); obtain ⟨ad119, e119, hx119_0, hx119_1, hx119_2, hx119_3⟩ := at_T36 (Kd.R_reads' HO116.out).2.2 15 p119 q119; obtain rfl : ad118 = ad119 := (by injection e119); (try simp only [show (15 : Int).toNat = 15 from rfl, Nat.reduceMul, Nat.reduceEqDiff, Go.Addr.add, ↓reduceIte] at hx119_0); (try simp only [show (15 : Int).toNat = 15 from rfl, Nat.reduceMul, Nat.reduceEqDiff, Go.Addr.add, ↓reduceIte] at hx119_1); (try simp only [show (15 : Int).toNat = 15 from rfl, Nat.reduceMul, Nat.reduceEqDiff, Go.Addr.add, ↓reduceIte] at hx119_2); (try simp only [show (15 : Int).toNat = 15 from rfl, Nat.reduceMul, Nat.reduceEqDiff, Go.Addr.add, ↓reduceIte] at hx119_3); have qi119 : (15 < t114.length) = True := eq_true (by omega); (try rw [show ((15 : Int)).toNat = 15 from rfl] at hx119_0); (try rw [show 15 * 4 = 60 from rfl] at hx119_0); (try rw [show ((15 : Int)).toNat = 15 from rfl] at hx119_1); (try rw [show 15 * 4 = 60 from rfl] at hx119_1); (try rw [show ((15 : Int)).toNat = 15 from rfl] at hx119_2); (try rw [show 15 * 4 = 60 from rfl] at hx119_2); (try rw [show ((15 : Int)).toNat = 15 from rfl] at hx119_3); (try rw [show 15 * 4 = 60 from rfl] at hx119_3); replace p119 := eq_true p119; replace q119 := eq_true q119))
              go_ret
              exact ⟨by first | rfl | (simp [errW_none, errW_some] <;> rfl) | (simp [*, errW_none, errW_some] <;> rfl), by repeat (first | (with_reducible first | exact HB.out | apply below_alloc | apply pw_below_drewN | apply below_drew1) | exact HB.out)⟩
          · rw [if_neg c6] at H
            exact absurd H (by simp)
        · rw [if_neg c5] at H
          have c5b0 : (((rd_T36 t114 0).f0) == 0 && (((rd_T36 t114 0).f1) == 0 && (((rd_T36 t114 0).f2) == 1 && (((rd_T36 t114 0).f3) == 1)))) = false := by simpa using c5
          (try (have c5b1 : decide (((rd_T36 t114 0).f0) = 0 && (((rd_T36 t114 0).f1) == 0 && (((rd_T36 t114 0).f2) == 1 && (((rd_T36 t114 0).f3) == 1)))) = false := by simpa using c5))
          (try (have c5b2 : (((rd_T36 t114 0).f0) == 0 && (((rd_T36 t114 0).f1) == 0 && (((rd_T36 t114 0).f2) == 1 && (((rd_T36 t114 0).f3) == 1)))) = false := by simpa using c5))
          (try (have c5b3 : ¬ (((rd_T36 t114 0).f0) = 0 && (((rd_T36 t114 0).f1) == 0 && (((rd_T36 t114 0).f2) == 1 && (((rd_T36 t114 0).f3) == 1)))) := by simpa using c5))
          clear c5
          obtain rfl := Option.some.inj H
          go_enter Tryd.func16, Tryd.ntmps16
          go_wp2_with (first | ((with_reducible refine gate_dst (N := 4) rfl ?_); (try (refine gate_guard (by rfl) ?_; dsimp only)); refine Kd.R_lit (Kd.int .i64) _ 3 ?hg (N := 4) ?hd (xs := ([1] : List Int)) (inner := [.int .i64 1]) (ok := fun _ => True) (okp := fun _ => True) ?hr ?hp (fun _ hk => hk) trivial (Below.refl _ _) (Nat.le_refl _) (by simp) ?_; (case hd => rfl); (case hg => rfl); (case hr => first | (go_simp; done) | (go_simp; rfl)); (case hp => exact (Reps.one (show Kd.M (Kd.int .i64) _ _ _ 1 [.int .i64 1] from rfl) (Reps.none _ _))); intro v112 w28 ho29 hb hg_ hnew_; clear hg_ hnew_; (first | rw [← Ny111.out] at ho29 | (simp only [Int.reduceToNat] at ho29; rw [← Ny111.out] at ho29)); have n0_ := Aside0.mk (Kd.R_lower ho29 (below_size (by repeat (first | (with_reducible first | exact HB.out | apply below_alloc | apply pw_below_drewN | apply below_drew1) | exact HB.out)))); have n1_ := Aside0.mk (below_step (by repeat (first | (with_reducible first | exact HB.out | apply below_alloc | apply pw_below_drewN | apply below_drew1) | exact HB.out)) hb); clear HB; have HO113 := n0_; have HB := n1_; clear n0_ n1_; clear hb ho29; obtain ⟨Ao30, co30, eo30⟩ := Kd.R_slice HO113.out; subst eo30) | ((with_reducible refine gate_callee (f := 19) rfl ?_); refine goesL_ (some 6) rfl rfl Tryd.func19 (by kernel_rfl) rfl #[.agg #[.int .i64 1, .int .i64 2, .int .i64 0, .int .i64 2, .slice Ao30 y111.length co30], .int .i64 0, .bool true] rfl (by (try simp only [List.map_toArray, List.map_cons, List.map_nil]); first | done | rfl | (simp only [List.length_drop, List.length_take]; rfl)) ?_; (with_reducible refine (duty_Plan.calls k 1 2 0 2 _ _ y111 0 true t114 t117 _ ?side1 ?side2 A1.out).mono ?_); (case side1 => repeat (first | exact (Kd.R_reads' HO113.out).2.2 | (with_reducible refine Kd.C_alloc ?_ _) | (with_reducible refine Kd.C_drewN ?_ _) | (with_reducible refine Kd.C_drew ?_))); (case side2 => exact (Kd.R_reads' HO113.out).2.1); rintro e w31 ⟨v115, rfl, ho0, hb⟩; refine ⟨_, rfl, ?_⟩; have n0_ := Aside0.mk (Kd.R_below (by (with_reducible repeat (first | apply Kd.R_alloc | apply Kd.R_drewN | apply Kd.R_drew)); exact HO113.out) hb); have n1_ := Aside0.mk (Kd.R_lower ho0 (below_size (by repeat (first | (with_reducible first | exact HB.out | apply below_alloc | apply pw_below_drewN | apply below_drew1) | exact HB.out)))); have n2_ := Aside0.mk (below_step (by repeat (first | (with_reducible first | exact HB.out | apply below_alloc | apply pw_below_drewN | apply below_drew1) | exact HB.out)) hb); clear HO113; clear HB; have HO113 := n0_; have HO116 := n1_; have HB := n2_; clear n0_ n1_ n2_; (try clear hb); (try clear hb2); (try clear hk); (try clear hi); (try clear hgw); (try clear ho0); obtain ⟨Ao32, co32, eo32⟩ := Kd.R_slice HO116.out; subst eo32; have p118 : 0 ≤ (0 : Int) := (by omega); have q118 : 0 < (t114.length : Int) := of_decide_eq_true (by first | (with_reducible assumption) | assumption); obtain ⟨ad118, e118, hx118_0, hx118_1, hx118_2, hx118_3⟩ := at_T36 (Kd.R_reads' HO116.out).2.2 0 p118 q118; cases e118; have qi118 : (0 < t114.length) = True := eq_true (by omega); (try rw [show ((0 : Int)).toNat = 0 from rfl] at hx118_0); (try rw [show 0 * 4 = 0 from rfl] at hx118_0); (try rw [Addr.add_zero'] at hx118_0); (try rw [show ((0 : Int)).toNat = 0 from rfl] at hx118_1); (try rw [show 0 * 4 = 0 from rfl] at hx118_1); (try rw [Addr.add_zero'] at hx118_1); (try rw [show ((0 : Int)).toNat = 0 from rfl] at hx118_2); (try rw [show 0 * 4 = 0 from rfl] at hx118_2); (try rw [Addr.add_zero'] at hx118_2); (try rw [show ((0 : Int)).toNat = 0 from rfl] at hx118_3); (try rw [show 0 * 4 = 0 from rfl] at hx118_3); (try rw [Addr.add_zero'] at hx118_3); replace p118 := eq_true p118; replace q118 := eq_true q118))
          go_ret
          exact ⟨by first | rfl | (simp [errW_none, errW_some] <;> rfl) | (simp [*, errW_none, errW_some] <;> rfl), by repeat (first | (with_reducible first | exact HB.out | apply below_alloc | apply pw_below_drewN | apply below_drew1) | exact HB.out)⟩
      · rw [if_neg c4] at H
        exact absurd H (by simp)
    · rw [if_neg c3] at H
      have c3b0 : ((t114.length : Int) == 16) = false := beq_eq_false_iff_ne.mpr c3
      have c3b1 : ((t114.length : Int) != 16) = true := bne_iff_ne.mpr c3
      obtain rfl := Option.some.inj H
      go_enter Tryd.func16, Tryd.ntmps16
      go_wp2_with (first | ((with_reducible refine gate_dst (N := 4) rfl ?_); (try (refine gate_guard (by rfl) ?_; dsimp only)); refine Kd.R_lit (Kd.int .i64) _ 3 ?hg (N := 4) ?hd (xs := ([1] : List Int)) (inner := [.int .i64 1]) (ok := fun _ => True) (okp := fun _ => True) ?hr ?hp (fun _ hk => hk) trivial (Below.refl _ _) (Nat.le_refl _) (by simp) ?_; (case hd => rfl); (case hg => rfl); (case hr => first | (go_simp; done) | (go_simp; rfl)); (case hp => exact (Reps.one (show Kd.M (Kd.int .i64) _ _ _ 1 [.int .i64 1] from rfl) (Reps.none _ _))); intro v112 w33 ho34 hb hg_ hnew_; clear hg_ hnew_; (first | rw [← Ny111.out] at ho34 | (simp only [Int.reduceToNat] at ho34; rw [← Ny111.out] at ho34)); have n0_ := Aside0.mk (Kd.R_lower ho34 (below_size (by repeat (first | (with_reducible first | exact HB.out | apply below_alloc | apply pw_below_drewN | apply below_drew1) | exact HB.out)))); have n1_ := Aside0.mk (below_step (by repeat (first | (with_reducible first | exact HB.out | apply below_alloc | apply pw_below_drewN | apply below_drew1) | exact HB.out)) hb); clear HB; have HO113 := n0_; have HB := n1_; clear n0_ n1_; clear hb ho34; obtain ⟨Ao35, co35, eo35⟩ := Kd.R_slice HO113.out; subst eo35) | ((with_reducible refine gate_callee (f := 19) rfl ?_); refine goesL_ (some 6) rfl rfl Tryd.func19 (by kernel_rfl) rfl #[.agg #[.int .i64 1, .int .i64 2, .int .i64 0, .int .i64 2, .slice Ao35 y111.length co35], .int .i64 0, .bool true] rfl (by (try simp only [List.map_toArray, List.map_cons, List.map_nil]); first | done | rfl | (simp only [List.length_drop, List.length_take]; rfl)) ?_; (with_reducible refine (duty_Plan.calls k 1 2 0 2 _ _ y111 0 true t114 t117 _ ?side1 ?side2 A1.out).mono ?_); (case side1 => repeat (first | exact (Kd.R_reads' HO113.out).2.2 | (with_reducible refine Kd.C_alloc ?_ _) | (with_reducible refine Kd.C_drewN ?_ _) | (with_reducible refine Kd.C_drew ?_))); (case side2 => exact (Kd.R_reads' HO113.out).2.1); rintro e w36 ⟨v115, rfl, ho0, hb⟩; refine ⟨_, rfl, ?_⟩; have n0_ := Aside0.mk (Kd.R_below (by (with_reducible repeat (first | apply Kd.R_alloc | apply Kd.R_drewN | apply Kd.R_drew)); exact HO113.out) hb); have n1_ := Aside0.mk (Kd.R_lower ho0 (below_size (by repeat (first | (with_reducible first | exact HB.out | apply below_alloc | apply pw_below_drewN | apply below_drew1) | exact HB.out)))); have n2_ := Aside0.mk (below_step (by repeat (first | (with_reducible first | exact HB.out | apply below_alloc | apply pw_below_drewN | apply below_drew1) | exact HB.out)) hb); clear HO113; clear HB; have HO113 := n0_; have HO116 := n1_; have HB := n2_; clear n0_ n1_ n2_; (try clear hb); (try clear hb2); (try clear hk); (try clear hi); (try clear hgw); (try clear ho0); obtain ⟨Ao37, co37, eo37⟩ := Kd.R_slice HO116.out; subst eo37))
      go_ret
      exact ⟨by first | rfl | (simp [errW_none, errW_some] <;> rfl) | (simp [*, errW_none, errW_some] <;> rfl), by repeat (first | (with_reducible first | exact HB.out | apply below_alloc | apply pw_below_drewN | apply below_drew1) | exact HB.out)⟩
  · rw [if_neg c2] at H
    have c2b0 : (t117 == 0) = false := beq_eq_false_iff_ne.mpr c2
    have c2b1 : (t117 != 0) = true := bne_iff_ne.mpr c2
    obtain rfl := Option.some.inj H
    go_enter Tryd.func16, Tryd.ntmps16
    go_wp2_with (first | ((with_reducible refine gate_dst (N := 4) rfl ?_); (try (refine gate_guard (by rfl) ?_; dsimp only)); refine Kd.R_lit (Kd.int .i64) _ 3 ?hg (N := 4) ?hd (xs := ([1] : List Int)) (inner := [.int .i64 1]) (ok := fun _ => True) (okp := fun _ => True) ?hr ?hp (fun _ hk => hk) trivial (Below.refl _ _) (Nat.le_refl _) (by simp) ?_; (case hd => rfl); (case hg => rfl); (case hr => first | (go_simp; done) | (go_simp; rfl)); (case hp => exact (Reps.one (show Kd.M (Kd.int .i64) _ _ _ 1 [.int .i64 1] from rfl) (Reps.none _ _))); intro v112 w38 ho39 hb hg_ hnew_; clear hg_ hnew_; (first | rw [← Ny111.out] at ho39 | (simp only [Int.reduceToNat] at ho39; rw [← Ny111.out] at ho39)); have n0_ := Aside0.mk (Kd.R_lower ho39 (below_size (by repeat (first | (with_reducible first | exact HB.out | apply below_alloc | apply pw_below_drewN | apply below_drew1) | exact HB.out)))); have n1_ := Aside0.mk (below_step (by repeat (first | (with_reducible first | exact HB.out | apply below_alloc | apply pw_below_drewN | apply below_drew1) | exact HB.out)) hb); clear HB; have HO113 := n0_; have HB := n1_; clear n0_ n1_; clear hb ho39; obtain ⟨Ao40, co40, eo40⟩ := Kd.R_slice HO113.out; subst eo40) | ((with_reducible refine gate_callee (f := 19) rfl ?_); refine goesL_ (some 6) rfl rfl Tryd.func19 (by kernel_rfl) rfl #[.agg #[.int .i64 1, .int .i64 2, .int .i64 0, .int .i64 2, .slice Ao40 y111.length co40], .int .i64 0, .bool true] rfl (by (try simp only [List.map_toArray, List.map_cons, List.map_nil]); first | done | rfl | (simp only [List.length_drop, List.length_take]; rfl)) ?_; (with_reducible refine (duty_Plan.calls k 1 2 0 2 _ _ y111 0 true t114 t117 _ ?side1 ?side2 A1.out).mono ?_); (case side1 => repeat (first | exact (Kd.R_reads' HO113.out).2.2 | (with_reducible refine Kd.C_alloc ?_ _) | (with_reducible refine Kd.C_drewN ?_ _) | (with_reducible refine Kd.C_drew ?_))); (case side2 => exact (Kd.R_reads' HO113.out).2.1); rintro e w41 ⟨v115, rfl, ho0, hb⟩; refine ⟨_, rfl, ?_⟩; have n0_ := Aside0.mk (Kd.R_below (by (with_reducible repeat (first | apply Kd.R_alloc | apply Kd.R_drewN | apply Kd.R_drew)); exact HO113.out) hb); have n1_ := Aside0.mk (Kd.R_lower ho0 (below_size (by repeat (first | (with_reducible first | exact HB.out | apply below_alloc | apply pw_below_drewN | apply below_drew1) | exact HB.out)))); have n2_ := Aside0.mk (below_step (by repeat (first | (with_reducible first | exact HB.out | apply below_alloc | apply pw_below_drewN | apply below_drew1) | exact HB.out)) hb); clear HO113; clear HB; have HO113 := n0_; have HO116 := n1_; have HB := n2_; clear n0_ n1_ n2_; (try clear hb); (try clear hb2); (try clear hk); (try clear hi); (try clear hgw); (try clear ho0)))
    go_ret
    exact ⟨by first | rfl | (simp [errW_none, errW_some] <;> rfl) | (simp [*, errW_none, errW_some] <;> rfl), by repeat (first | (with_reducible first | exact HB.out | apply below_alloc | apply pw_below_drewN | apply below_drew1) | exact HB.out)⟩

/-- A state of type 88 at block g of W; what its slices lead to came in by w0. -/
def IsS88 (w0 W : World) (g : Nat) (f0 : List Int) (f1 : Int) : Prop := ∃ A0 c0, W.heap[g]? = some (.cells #[.slice A0 f0.length c0, .int .i64 f1] 88 (0, 0)) ∧ w0.heap.size ≤ g ∧ Kd.C (Kd.int .u8) w0 A0 f0.length f0
theorem IsS88.grown {w0 W : World} {g : Nat} {f0 : List Int} {f1 : Int} {W1 : World} {row : Option Nat} (h : IsS88 w0 W g f0 f1) (hw : W.grownBy W1 row) (hne : some g ≠ row) : IsS88 w0 W1 g f0 f1 := by
  obtain ⟨A0, c0, hb, hg, hr0⟩ := h
  exact ⟨A0, c0, blk_grown hb hw hne, hg, hr0⟩
theorem IsS88.own_neN {w0 W : World} {g : Nat} {f0 : List Int} {f1 : Int} {α : Type} {d : Kd α} {e : Nat} {base : Nat} {ok : Nat → Prop} {v : Value} {xs : List α} (h : IsS88 w0 W g f0 f1) (ho : Kd.N d e W base ok v xs) (ht : e ≠ 88) : some g ≠ v.ownBlock := by
  obtain ⟨A0, c0, hb, hg, hr0⟩ := h
  exact Kd.N_ne ho hb ht
theorem IsS88.fresh {w0 W : World} {g : Nat} {f0 : List Int} {f1 : Int} (h : IsS88 w0 W g f0 f1) : ∀ k, W.heap.size ≤ k → k ≠ g := by
  obtain ⟨A0, c0, hb, hg, hr0⟩ := h
  exact Kd.freshB hb
theorem IsS88.kept {w0 W : World} {g : Nat} {f0 : List Int} {f1 : Int} {W1 : World} {S : Nat → Prop} (h : IsS88 w0 W g f0 f1) (hk : Kept W W1 S) (hne : ¬ S g) : IsS88 w0 W1 g f0 f1 := by
  obtain ⟨A0, c0, hb, hg, hr0⟩ := h
  exact ⟨A0, c0, blk_kept hb hk hne, hg, hr0⟩
theorem IsS88.below {w0 W : World} {g : Nat} {f0 : List Int} {f1 : Int} {W1 : World} (h : IsS88 w0 W g f0 f1) (hw : Below W.heap.size W W1) : IsS88 w0 W1 g f0 f1 := h.grown (grown_of_below hw none) (by simp)
theorem IsS88.alloc {w0 W : World} {g : Nat} {f0 : List Int} {f1 : Int} (h : IsS88 w0 W g f0 f1) (o : Obj) : IsS88 w0 (W.alloc o) g f0 f1 := h.below (below_alloc (Below.refl _ _) o)
theorem IsS88.drewN {w0 W : World} {g : Nat} {f0 : List Int} {f1 : Int} (h : IsS88 w0 W g f0 f1) (m : Nat) : IsS88 w0 (W.drewN m) g f0 f1 := h
theorem IsS88.drew {w0 W : World} {g : Nat} {f0 : List Int} {f1 : Int} (h : IsS88 w0 W g f0 f1) : IsS88 w0 W.drew g f0 f1 := h
theorem IsS88.at_ {w0 W : World} {g : Nat} {f0 : List Int} {f1 : Int} {w' : World} {m : Nat} (hq : W.drewN m = w') (h : IsS88 w0 W g f0 f1) : IsS88 w0 w' g f0 f1 := by subst hq; exact IsS88.drewN h m
theorem IsS88.apart {w0 W : World} {g : Nat} {f0 : List Int} {f1 : Int} {α : Type} {d : Kd α} {e : Nat} {base : Nat} {ok : Nat → Prop} {v : Value} {xs : List α} (h : IsS88 w0 W g f0 f1) (ho : d.R e W base ok v xs) (ht : ∀ q, q ∈ e :: d.E → q ≠ 88) : d.R e W base (fun k => ok k ∧ k ≠ g) v xs := by
  obtain ⟨A0, c0, hb, hg, hr0⟩ := h
  exact Kd.R_types ho hb ht
theorem IsS88.own_ne {w0 W : World} {g : Nat} {f0 : List Int} {f1 : Int} {α : Type} {d : Kd α} {e : Nat} {base : Nat} {ok : Nat → Prop} {v : Value} {xs : List α} (h : IsS88 w0 W g f0 f1) (ho : d.R e W base ok v xs) (ht : e ≠ 88) : some g ≠ v.ownBlock := by
  obtain ⟨A0, c0, hb, hg, hr0⟩ := h
  exact Kd.R_ne ho hb ht
theorem IsS88.apartQ {w0 W : World} {g : Nat} {f0 : List Int} {f1 : Int} {α : Type} {d : Kd α} {e : Nat} {base : Nat} {ok : Nat → Prop} {v : Value} {xs : List α} (h : IsS88 w0 W g f0 f1) (ho : d.Q e W base ok v xs) (ht : ∀ q, q ∈ e :: d.E → q ≠ 88) : d.Q e W base (fun k => ok k ∧ k ≠ g) v xs := by
  obtain ⟨A0, c0, hb, hg, hr0⟩ := h
  exact Kd.Q_types ho hb ht
theorem IsS88.own_neQ {w0 W : World} {g : Nat} {f0 : List Int} {f1 : Int} {α : Type} {d : Kd α} {e : Nat} {base : Nat} {ok : Nat → Prop} {v : Value} {xs : List α} (h : IsS88 w0 W g f0 f1) (ho : d.Q e W base ok v xs) (ht : e ≠ 88) : some g ≠ v.ownBlock := by
  obtain ⟨A0, c0, hb, hg, hr0⟩ := h
  exact Kd.Q_ne ho hb ht
theorem IsS88.apartS {w0 W : World} {g : Nat} {f0 : List Int} {f1 : Int} {α : Type} {d : Kd α} {e : Nat} {base : Nat} {ok : Nat → Prop} {v : Value} {xs : List α} (h : IsS88 w0 W g f0 f1) (ho : d.S e W base ok v xs) (ht : ∀ q, q ∈ e :: d.E → q ≠ 88) : d.S e W base (fun k => ok k ∧ k ≠ g) v xs := by
  obtain ⟨A0, c0, hb, hg, hr0⟩ := h
  exact Kd.S_types ho hb ht
theorem IsS88.own_neS {w0 W : World} {g : Nat} {f0 : List Int} {f1 : Int} {α : Type} {d : Kd α} {e : Nat} {base : Nat} {ok : Nat → Prop} {v : Value} {xs : List α} (h : IsS88 w0 W g f0 f1) (ho : d.S e W base ok v xs) (ht : e ≠ 88) : some g ≠ v.ownBlock := by
  obtain ⟨A0, c0, hb, hg, hr0⟩ := h
  exact Kd.S_ne ho hb ht
theorem IsS88.lt {w0 W : World} {g : Nat} {f0 : List Int} {f1 : Int} (h : IsS88 w0 W g f0 f1) : g < W.heap.size := by
  obtain ⟨A0, c0, hb, hg, hr0⟩ := h
  exact blk_lt hb
theorem IsS88.ge {w0 W : World} {g : Nat} {f0 : List Int} {f1 : Int} (h : IsS88 w0 W g f0 f1) : w0.heap.size ≤ g := by
  obtain ⟨A0, c0, hb, hg, hr0⟩ := h
  exact hg
theorem IsS88.ne_blk {w0 W : World} {g : Nat} {f0 : List Int} {f1 : Int} {a : Nat} {cs : Array Value} {t : TypeId} {fr : Nat × Nat} (h : IsS88 w0 W g f0 f1) (hb2 : W.heap[a]? = some (.cells cs t fr)) (ht : t ≠ 88) : g ≠ a := by
  obtain ⟨A0, c0, hb, hg, hr0⟩ := h
  rintro rfl
  rw [hb] at hb2
  injection hb2 with hb2
  injection hb2 with _ ht2
  exact ht ht2.symm
theorem IsS88.far {w0 W : World} {g : Nat} {f0 : List Int} {f1 : Int} {p : Addr} (h : IsS88 w0 W g f0 f1) (hne : g ≠ p.block) (u : Value) : IsS88 w0 (W.setCell p u) g f0 f1 := by
  obtain ⟨A0, c0, hb, hg, hr0⟩ := h
  exact ⟨A0, c0, blk_far hb hne u, hg, hr0⟩
theorem cellS88_0 {W : World} {g : Nat} {A0 : Option Addr} {c0 : Nat} {f0 : List Int} {f1 : Int} (h : W.heap[g]? = some (.cells #[.slice A0 f0.length c0, .int .i64 f1] 88 (0, 0))) : W.cell? ⟨g, 0, none⟩ = some (.slice A0 f0.length c0) := (blk_cell h 0).trans rfl
theorem cellS88_1 {W : World} {g : Nat} {A0 : Option Addr} {c0 : Nat} {f0 : List Int} {f1 : Int} (h : W.heap[g]? = some (.cells #[.slice A0 f0.length c0, .int .i64 f1] 88 (0, 0))) : W.cell? ⟨g, 1, none⟩ = some (.int .i64 f1) := (blk_cell h 1).trans rfl
theorem IsS88.set_1 {w0 W : World} {g : Nat} {f0 : List Int} {f1 : Int} (h : IsS88 w0 W g f0 f1) (x : Int) : IsS88 w0 (W.setCell ⟨g, 1, none⟩ (.int .i64 x)) g f0 x := by
  obtain ⟨A0, c0, hb, hg, hr0⟩ := h
  exact ⟨A0, c0, by simpa using blk_set hb 1 (.int .i64 x), hg, hr0⟩
theorem IsS88.new (w0 W : World) (A0 : Option Addr) (c0 : Nat) (f0 : List Int) (f1 : Int) (hB : Below w0.heap.size w0 W) (hr0 : Kd.C (Kd.int .u8) w0 A0 f0.length f0) : IsS88 w0 (W.alloc (.cells #[.slice A0 f0.length c0, .int .i64 f1] 88)) W.heap.size f0 f1 := ⟨A0, c0, by simpa using heap_alloc_new W _, hB.size, hr0⟩

/-! ### storagebarterplay_New: function 17 -/
def storagebarterplay_New.f (l0 : List Int) : Option (List Int × Int) := if (l0.length : Int) > 300 then (if 300 ≤ (l0.length : Int) then (some (l0.take 300, 0)) else (none)) else (some (l0, 0))
set_option maxHeartbeats 8000000 in
set_option maxRecDepth 100000 in
theorem storagebarterplay_New.calls (A0 : Option Addr) (c0 : Nat) (l0 : List Int) (r1 : List Int) (r2 : Int) (w0 w : World) (hB : Below w0.heap.size w0 w) (hr0 : Kd.C (Kd.int .u8) w0 A0 l0.length l0) (hc0 : l0.length ≤ c0) (h : storagebarterplay_New.f l0 = some (r1, r2)) :
    Calls Tryd.prog 17 #[.slice A0 l0.length c0] w fun e w' => ∃ g_ : Nat, e = .returned (.pointer (some ⟨g_, 0, none⟩)) ∧ IsS88 w0 w' g_ r1 r2 ∧ Below w0.heap.size w0 w' ∧ Below w.heap.size w w' ∧ w.heap.size ≤ g_ := by
  have hu88 := Tryd.underlying88
  have HR0 := Aside0.mk hr0
  have HC0 := Aside0.mk hc0
  clear hr0 hc0
  have HBW := Aside0.mk (Below.refl w.heap.size w)
  have HW0 := Aside0.mk hB.size
  have HB := Aside0.mk hB
  clear hB
  have H : (if (l0.length : Int) > 300 then (if 300 ≤ (l0.length : Int) then (some (l0.take 300, 0)) else (none)) else (some (l0, 0))) = some (r1, r2) := h
  clear h
  by_cases c2 : (l0.length : Int) > 300
  · rw [if_pos c2] at H
    have c2b0 : decide (300 < (l0.length : Int)) = true := decide_eq_true c2
    have c2b1 : decide (300 < l0.length) = true := decide_eq_true (by omega)
    clear c2
    by_cases c3 : 300 ≤ (l0.length : Int)
    · rw [if_pos c3] at H
      have c3b0 := eq_true c3
      have c3b1 : decide (300 ≤ (l0.length : Int)) = true := decide_eq_true c3
      clear c3
      simp only [Option.some.injEq, Prod.mk.injEq] at H
      obtain ⟨rfl, rfl⟩ := H
      obtain ⟨i04, hi04, _, hsz4, _⟩ := info_parts info5
      obtain ⟨hcut4, hA4, hC4⟩ := print_take_of (P := Tryd.prog) (Value.int .u8) 0 22 5 .i64 Tryd.underlying22 hi04 hsz4 A0 c0 l0 300 (by omega) (of_decide_eq_true (by first | (with_reducible assumption) | assumption)) HC0.out
      have HR122 := Aside0.mk (Kd.C_of_reads (h1 := fun _ => rfl) (hA4 _ (Kd.reads_of_C HR0.out)))
      have HC122 := Aside0.mk hC4
      clear hA4 hC4 hi04 hsz4
      go_enter Tryd.func17, Tryd.ntmps17
      go_wp2_with (first | ((with_reducible refine gate_dst (N := 10) rfl ?_); refine box_event ?hg (N := 10) ?hd (cs := #[.slice A0 (l0.take 300).length c0, .int .i64 0]) (t := 88) ?hr ?_; (case hd => rfl); (case hg => rfl); (case hr => first | (go_simp; done) | (go_simp; rfl)); intro gb123 hg w5 hbox hb; have n0_ := Aside0.mk (below_step HBW.out hb); have n1_ := Aside0.mk (below_step (by repeat (first | (with_reducible first | exact HB.out | apply below_alloc | apply pw_below_drewN | apply below_drew1) | exact HB.out)) hb); have n2_ := Aside0.mk (hbox); have n3_ := Aside0.mk ((by rw [hg]; exact (below_size (by repeat (first | (with_reducible first | exact HBW.out | apply below_alloc | apply pw_below_drewN | apply below_drew1) | exact HBW.out))) : w.heap.size ≤ gb123)); have n4_ := Aside0.mk ((Nat.le_trans HW0.out (by rw [hg]; exact (below_size (by repeat (first | (with_reducible first | exact HBW.out | apply below_alloc | apply pw_below_drewN | apply below_drew1) | exact HBW.out))) : w.heap.size ≤ gb123) : w0.heap.size ≤ gb123)); clear HBW; clear HB; have HBW := n0_; have HB := n1_; have BK123 := n2_; have GW123 := n3_; have GE123 := n4_; clear n0_ n1_ n2_ n3_ n4_; clear hb hbox hg))
      go_ret
      exact ⟨_, rfl, (show IsS88 w0 _ gb123 (l0.take 300) 0 from ⟨_, _, by (with_reducible repeat (first | refine blk_drewN ?_ _ | refine blk_drew ?_ | refine blk_alloc ?_ _)); exact BK123.out, GE123.out, HR122.out⟩), by repeat (first | (with_reducible first | exact HB.out | apply below_alloc | apply pw_below_drewN | apply below_drew1 | refine below_set ?_ GE123.out) | exact HB.out), by repeat (first | (with_reducible first | exact HBW.out | apply below_alloc | apply pw_below_drewN | apply below_drew1 | refine below_set ?_ GW123.out) | exact HBW.out), GW123.out⟩
    · rw [if_neg c3] at H
      exact absurd H (by simp)
  · rw [if_neg c2] at H
    have c2b0 : decide (300 < (l0.length : Int)) = false := decide_eq_false c2
    have c2b1 : decide (300 < l0.length) = false := decide_eq_false (by omega)
    clear c2
    simp only [Option.some.injEq, Prod.mk.injEq] at H
    obtain ⟨rfl, rfl⟩ := H
    go_enter Tryd.func17, Tryd.ntmps17
    go_wp2_with (first | ((with_reducible refine gate_dst (N := 10) rfl ?_); refine box_event ?hg (N := 10) ?hd (cs := #[.slice A0 l0.length c0, .int .i64 0]) (t := 88) ?hr ?_; (case hd => rfl); (case hg => rfl); (case hr => first | (go_simp; done) | (go_simp; rfl)); intro gb124 hg w6 hbox hb; have n0_ := Aside0.mk (below_step HBW.out hb); have n1_ := Aside0.mk (below_step (by repeat (first | (with_reducible first | exact HB.out | apply below_alloc | apply pw_below_drewN | apply below_drew1) | exact HB.out)) hb); have n2_ := Aside0.mk (hbox); have n3_ := Aside0.mk ((by rw [hg]; exact (below_size (by repeat (first | (with_reducible first | exact HBW.out | apply below_alloc | apply pw_below_drewN | apply below_drew1) | exact HBW.out))) : w.heap.size ≤ gb124)); have n4_ := Aside0.mk ((Nat.le_trans HW0.out (by rw [hg]; exact (below_size (by repeat (first | (with_reducible first | exact HBW.out | apply below_alloc | apply pw_below_drewN | apply below_drew1) | exact HBW.out))) : w.heap.size ≤ gb124) : w0.heap.size ≤ gb124)); clear HBW; clear HB; have HBW := n0_; have HB := n1_; have BK124 := n2_; have GW124 := n3_; have GE124 := n4_; clear n0_ n1_ n2_ n3_ n4_; clear hb hbox hg))
    go_ret
    exact ⟨_, rfl, (show IsS88 w0 _ gb124 l0 0 from ⟨_, _, by (with_reducible repeat (first | refine blk_drewN ?_ _ | refine blk_drew ?_ | refine blk_alloc ?_ _)); exact BK124.out, GE124.out, HR0.out⟩), by repeat (first | (with_reducible first | exact HB.out | apply below_alloc | apply pw_below_drewN | apply below_drew1 | refine below_set ?_ GE124.out) | exact HB.out), by repeat (first | (with_reducible first | exact HBW.out | apply below_alloc | apply pw_below_drewN | apply below_drew1 | refine below_set ?_ GW124.out) | exact HBW.out), GW124.out⟩

theorem storagebarterplay_New.short (l0 : List Int) : ∃ s, storagebarterplay_New.f l0 = some (s, 0) ∧ s.length ≤ 300 := by
  unfold storagebarterplay_New.f
  split
  · rw [if_pos (by omega)]; exact ⟨_, rfl, by simp; omega⟩
  · exact ⟨_, rfl, by omega⟩

/-! ### storagebarterplay_Dice_Pick: function 32 -/
def storagebarterplay_Dice_Pick.f (s0_0 : List Int) (s0_1 : Int) (a1 : Int) : Option (Int × Int) := if s0_1 ≥ (s0_0.length : Int) then (some (0, s0_1)) else (if 0 ≤ (wrap64 ((wrap64 (s0_1 + 1)) - 1)) then (if (wrap64 ((wrap64 (s0_1 + 1)) - 1)) < (s0_0.length : Int) then (if a1 = 0 then (none) else (some (Int.tmod (wrap64 (rd s0_0 (wrap64 ((wrap64 (s0_1 + 1)) - 1)))) a1, wrap64 (s0_1 + 1)))) else (none)) else (none))
set_option maxHeartbeats 8000000 in
set_option maxRecDepth 100000 in
theorem storagebarterplay_Dice_Pick.calls (g : Nat) (s0_0 : List Int) (s0_1 : Int) (a1 : Int) (r1 : Int) (r2 : Int) (w0 w : World) (hI : IsS88 w0 w g s0_0 s0_1) (hB : Below w0.heap.size w0 w) (h : storagebarterplay_Dice_Pick.f s0_0 s0_1 a1 = some (r1, r2)) :
    Calls Tryd.prog 32 #[.pointer (some ⟨g, 0, none⟩), .int .i64 a1] w fun e w' => e = .returned (.int .i64 r1) ∧ IsS88 w0 w' g s0_0 r2 ∧ Below w0.heap.size w0 w' ∧ KeepBut w w' g none := by
  have HI0 := Aside0.mk hI
  have HK := Aside0.mk (KeepBut.refl w g none)
  have HL := Aside0.mk hB.size
  clear hI
  have HW0 := Aside0.mk hB.size
  have HB := Aside0.mk hB
  clear hB
  have H : (if s0_1 ≥ (s0_0.length : Int) then (some (0, s0_1)) else (if 0 ≤ (wrap64 ((wrap64 (s0_1 + 1)) - 1)) then (if (wrap64 ((wrap64 (s0_1 + 1)) - 1)) < (s0_0.length : Int) then (if a1 = 0 then (none) else (some (Int.tmod (wrap64 (rd s0_0 (wrap64 ((wrap64 (s0_1 + 1)) - 1)))) a1, wrap64 (s0_1 + 1)))) else (none)) else (none))) = some (r1, r2) := h
  clear h
  by_cases c3 : s0_1 ≥ (s0_0.length : Int)
  · rw [if_pos c3] at H
    have c3b0 : decide ((s0_0.length : Int) ≤ s0_1) = true := decide_eq_true c3
    clear c3
    simp only [Option.some.injEq, Prod.mk.injEq] at H
    obtain ⟨rfl, rfl⟩ := H
    obtain ⟨ASz4_0, cSz4_0, HGz4, hgz4, HSz4_0⟩ := HI0.out
    have hcz4_0 := cellS88_0 HGz4
    have hcz4_1 := cellS88_1 HGz4
    have hfz4_1 := blk_frozen HGz4 1
    clear HGz4 hgz4
    go_enter Tryd.func32, Tryd.ntmps32
    go_wp2
    repeat (go_quiet (fail); try go_wp2)
    go_ret
    exact ⟨by first | rfl | (simp [errW_none, errW_some] <;> rfl) | (simp [*, errW_none, errW_some] <;> rfl), by repeat (first | (with_reducible first | exact HI0.out | apply IsS88.alloc | apply IsS88.drewN | apply IsS88.drew | apply IsS88.set_1) | exact HI0.out), by repeat (first | (with_reducible first | exact HB.out | apply below_alloc | apply pw_below_drewN | apply below_drew1 | refine below_set ?_ (IsS88.ge HI0.out)) | exact HB.out), by repeat (first | (with_reducible first | exact HK.out | apply KeepBut.set_ | apply keep_drewN | apply keep_drew | apply keep_alloc) | exact HK.out)⟩
  · rw [if_neg c3] at H
    have c3b0 : decide ((s0_0.length : Int) ≤ s0_1) = false := decide_eq_false c3
    clear c3
    obtain ⟨ji5, hji5⟩ : ∃ j_ : Int, (wrap64 ((wrap64 (s0_1 + 1)) - 1)) = j_ := ⟨_, rfl⟩
    replace H : (if 0 ≤ (ji5) then (if (ji5) < (s0_0.length : Int) then (if a1 = 0 then (none) else (some (Int.tmod (wrap64 (rd s0_0 (ji5))) a1, wrap64 (s0_1 + 1)))) else (none)) else (none)) = some (r1, r2) := by first | (rw [hji5] at H; exact H) | (simp only [hji5] at H ⊢; exact H)
    have hji5w : (IntKind.i64.wrap ((wrap64 (s0_1 + 1)) - 1)) = ji5 := (i64_w _).trans hji5
    by_cases c6 : 0 ≤ (ji5)
    · rw [if_pos c6] at H
      have c6b0 : decide (0 ≤ (ji5)) = true := decide_eq_true c6
      clear c6
      by_cases c7 : (ji5) < (s0_0.length : Int)
      · rw [if_pos c7] at H
        have c7b0 : decide ((ji5) < (s0_0.length : Int)) = true := decide_eq_true c7
        clear c7
        by_cases c8 : a1 = 0
        · rw [if_pos c8] at H
          exact absurd H (by simp)
        · rw [if_neg c8] at H
          have c8b0 : (a1 == 0) = false := beq_eq_false_iff_ne.mpr c8
          have c8b1 : (a1 != 0) = true := bne_iff_ne.mpr c8
          simp only [Option.some.injEq, Prod.mk.injEq] at H
          obtain ⟨rfl, rfl⟩ := H
          obtain ⟨ASz9_0, cSz9_0, HGz9, hgz9, HSz9_0⟩ := HI0.out
          have hcz9_0 := cellS88_0 HGz9
          have hcz9_1 := cellS88_1 HGz9
          have hfz9_1 := blk_frozen HGz9 1
          clear HGz9 hgz9
          have p125 : 0 ≤ ((ji5) : Int) := of_decide_eq_true (by first | (with_reducible assumption) | assumption)
          have q125 : (ji5) < (s0_0.length : Int) := of_decide_eq_true (by first | (with_reducible assumption) | assumption)
          obtain ⟨ad125, e125, hx125_0⟩ := Kd.at_int HSz9_0 (ji5) p125 q125
          cases e125
          have hn125_0 : ad125.block ≠ g := Nat.ne_of_lt (Nat.lt_of_lt_of_le (by have := World.block_lt_of_cell? _ _ hx125_0; first | rwa [add_block] at this | exact this) (IsS88.ge HI0.out))
          replace hx125_0 := pw_cell_below HB.out hx125_0
          replace hx125_0 := (cell_far (p := ⟨g, 1, none⟩) (by first | (rw [add_block]; exact hn125_0) | (show (Addr.add _ _).block ≠ _; rw [add_block]; exact hn125_0) | exact hn125_0) (.int .i64 (wrap64 (s0_1 + 1)))).trans hx125_0
          (try have hy125_0 := fun (n_ : Nat) => (show (((w.drewN n_).setCell ⟨g, 1, none⟩ (.int .i64 (wrap64 (s0_1 + 1))))).cell? _ = some _ from hx125_0))
          clear hn125_0
          replace p125 := eq_true p125
          replace q125 := eq_true q125
          go_enter Tryd.func32, Tryd.ntmps32
          go_wp2
          repeat (go_quiet (fail); try go_wp2)
          go_ret
          exact ⟨by first | rfl | (simp [errW_none, errW_some] <;> rfl) | (simp only [← hji5]; first | rfl | (simp [errW_none, errW_some] <;> rfl)) | (simp [*, errW_none, errW_some] <;> rfl), by repeat (first | (with_reducible first | exact HI0.out | apply IsS88.alloc | apply IsS88.drewN | apply IsS88.drew | apply IsS88.set_1) | exact HI0.out), by repeat (first | (with_reducible first | exact HB.out | apply below_alloc | apply pw_below_drewN | apply below_drew1 | refine below_set ?_ (IsS88.ge HI0.out)) | exact HB.out), by repeat (first | (with_reducible first | exact HK.out | apply KeepBut.set_ | apply keep_drewN | apply keep_drew | apply keep_alloc) | exact HK.out)⟩
      · rw [if_neg c7] at H
        exact absurd H (by simp)
    · rw [if_neg c6] at H
      exact absurd H (by simp)

def dpick (s : List Int) (i n : Int) : Int × Int := if i ≥ s.length then (0, i) else (Int.tmod (wrap64 (rd s i)) n, i + 1)
theorem dpick_at {s : List Int} {i n t i' : Int} (e : dpick s i n = (t, i')) (h0 : 0 ≤ i) (h1 : i ≤ s.length) : 0 ≤ i' ∧ i' ≤ s.length := by
  unfold dpick at e
  split at e <;> (simp only [Prod.mk.injEq] at e; omega)
theorem dpick_lt {s : List Int} {i n t i' : Int} (e : dpick s i n = (t, i')) (hn : 0 < n) : -n < t ∧ t < n := by
  unfold dpick at e
  split at e
  · simp only [Prod.mk.injEq] at e; omega
  · simp only [Prod.mk.injEq] at e
    obtain ⟨rfl, _⟩ := e
    have a := Int.tmod_lt_of_pos (wrap64 (rd s i)) hn
    have b : -n < Int.tmod (wrap64 (rd s i)) n := by
      rcases Int.le_total 0 (wrap64 (rd s i)) with h | h
      · have := Int.tmod_nonneg n h; omega
      · have h2 := Int.tmod_lt_of_pos (-(wrap64 (rd s i))) hn
        rw [Int.neg_tmod] at h2; omega
    exact ⟨b, a⟩
theorem pick_calls {s : List Int} {i n t i' : Int} (e : dpick s i n = (t, i')) (g : Nat) (w0 w : World) (hI : IsS88 w0 w g s i) (hB : Below w0.heap.size w0 w) (h0 : 0 ≤ i) (h1 : i ≤ s.length) (hs : s.length ≤ 300) (hn : 0 < n) :
    Calls Tryd.prog 32 #[.pointer (some ⟨g, 0, none⟩), .int .i64 n] w fun e w' => e = .returned (.int .i64 t) ∧ IsS88 w0 w' g s i' ∧ Below w0.heap.size w0 w' ∧ KeepBut w w' g none := by
  refine storagebarterplay_Dice_Pick.calls g s i n t i' w0 w hI hB ?_
  unfold storagebarterplay_Dice_Pick.f
  unfold dpick at e
  by_cases h : i ≥ (s.length : Int)
  · rw [if_pos h] at e ⊢; rw [e]
  · rw [if_neg h] at e
    have e1 : wrap64 (i + 1) = i + 1 := by unfold wrap64; omega
    have e2 : wrap64 (i + 1 - 1) = i := by unfold wrap64; omega
    rw [if_neg h, e1, e2, if_pos h0, if_pos (by omega), if_neg (by omega), e]

end Go.Proofs.YtgckkjgemkabnaaDoor.PDutyAll
