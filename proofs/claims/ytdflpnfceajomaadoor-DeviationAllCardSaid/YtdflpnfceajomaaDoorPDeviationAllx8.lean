-- Written by a program of this repository (wip/tools/myprint.py over the print of the kit): contracts and rows.
import Derived.Test.YtdflpnfceajomaaDoorPDeviationAllx0
import Derived.Test.YtdflpnfceajomaaDoorPDeviationAllx1
import Derived.Test.YtdflpnfceajomaaDoorPDeviationAllx2
import Derived.Test.YtdflpnfceajomaaDoorPDeviationAllx7
namespace Go.Proofs.YtdflpnfceajomaaDoor.PDeviationAll
open Go.RowKit Go.Proofs.YtdflpnfceajomaaDoorW.PrintWords Go.Proofs.YtdflpnfceajomaaDoorW.PrintLast Go.Proofs.YtdflpnfceajomaaDoorW.PrintMore
attribute [local go_sem] max2_int min2_int max_two min_two max_three min_three max_four min_four   -- for this text's walks alone
set_option linter.unusedVariables false
set_option linter.unusedSimpArgs false

attribute [local go_sem high] eqA51
/-! ### deviation_Valid: function 18 -/
def deviation_ok (l : List S56) (p : Int) (acts : List S51) (i : Int) : Bool :=
  decide (0 ≤ (rd_T51 acts i).f0) && (decide ((rd_T51 acts i).f0 < (l.length : Int)) && ((rd_T56 l (rd_T51 acts i).f0).f2 == p && (((rd_T51 acts i).f1 == 1 || ((rd_T51 acts i).f1 == 2 || (rd_T51 acts i).f1 == 3)) && (decide (i ≤ 0) || decide ((rd_T51 acts (i - 1)).f0 < (rd_T51 acts i).f0)))))
def deviation_Valid.f (l0 : List S56) (a1_0 : Int) (l1_1 : List S51) : Option Bool := if l1_1.length < 1099511627776 then some ((List.range l1_1.length).all (fun k => deviation_ok l0 a1_0 l1_1 (k : Int))) else none
theorem deviation_hows (k : Nat) (h : Int) : slices_Contains_int_int.f (k + 4) [1, 2, 3] h = some (h == 1 || (h == 2 || h == 3)) := by
  have w1 : wrap64 1 = 1 := by unfold wrap64; omega
  have w2 : wrap64 2 = 2 := by unfold wrap64; omega
  have w3 : wrap64 3 = 3 := by unfold wrap64; omega
  have g1 : rd [1, 2, 3] 0 = 1 := rfl
  have g2 : rd [1, 2, 3] 1 = 2 := rfl
  have g3 : rd [1, 2, 3] 2 = 3 := rfl
  have hn : ((([1, 2, 3] : List Int).length : Nat) : Int) = 3 := rfl
  unfold slices_Contains_int_int.f slices_Index_int_int.f
  rw [hn]
  by_cases h1 : h = 1
  · subst h1
    simp [slices_Index_int_int.l0, g1]
  · by_cases h2 : h = 2
    · subst h2
      simp [slices_Index_int_int.l0, g1, g2, w1]
    · by_cases h3 : h = 3
      · subst h3
        simp [slices_Index_int_int.l0, g1, g2, g3, w1, w2]
      · simp [slices_Index_int_int.l0, g1, g2, g3, w1, w2, w3, h1, h2, h3]
theorem deviation_reads {w : World} (h : Laid w) : Kd.C (Kd.int .i64) w (some ⟨0, 0, none⟩) ([1, 2, 3] : List Int).length [1, 2, 3] :=
  Kd.C_of_reads (enc := Value.int .i64) (d := (0 : Int)) (h1 := fun _ => rfl) ⟨rfl, by decide, fun _ => ⟨_, rfl, fun j hj => by rw [add_plain]; exact h j hj⟩⟩
theorem deviation_quiet {f : FuncId} {args : Array Value} {w : World} {n : Nat} {v : Value} (h : Calls Tryd.prog f args (w.drewN n) fun e w' => e = .returned v ∧ Drawn0 (w.drewN n) w') :
    Calls Tryd.prog f args (w.drewN n) fun e w'' => e = .returned v ∧ ∃ m, w'' = w.drewN m := Calls.quiet_of (h.mono fun _ _ ⟨he, hd⟩ => ⟨he, hd.out⟩)
theorem deviation_all_false {l : List S56} {p : Int} {acts : List S51} {i : Int} (h0 : 0 ≤ i) (h1 : i < acts.length) (h : deviation_ok l p acts i = false) : (List.range acts.length).all (fun k => deviation_ok l p acts (k : Int)) = false := by
  rw [List.all_eq_false]
  exact ⟨i.toNat, by rw [List.mem_range]; omega, by rw [show ((i.toNat : Nat) : Int) = i by omega, h]; decide⟩
theorem deviation_all_next {l : List S56} {p : Int} {acts : List S51} {i : Int} (h0 : 0 ≤ i) (h : deviation_ok l p acts i = true) (ha : (List.range i.toNat).all (fun k => deviation_ok l p acts (k : Int)) = true) : (List.range (i + 1).toNat).all (fun k => deviation_ok l p acts (k : Int)) = true := by
  rw [show (i + 1).toNat = i.toNat + 1 by omega, List.range_succ, List.all_append, ha]
  simp [show ((i.toNat : Nat) : Int) = i by omega, h]
set_option maxHeartbeats 4000000 in
set_option maxRecDepth 100000 in
theorem deviation_Valid.calls (A0 : Option Addr) (c0 : Nat) (l0 : List S56) (a1_0 : Int) (A1_1 : Option Addr) (c1_1 : Nat) (l1_1 : List S51) (r : Bool) (w : World) (hr0 : Kd.C k56 w A0 l0.length l0) (hc0 : l0.length ≤ c0) (hr1_1 : Kd.C k51 w A1_1 l1_1.length l1_1) (hc1_1 : l1_1.length ≤ c1_1) (h : deviation_Valid.f l0 a1_0 l1_1 = some r) (hL_ : Laid w) :
    Calls Tryd.prog 18 #[.slice A0 l0.length c0, .agg #[.int .i64 a1_0, .slice A1_1 l1_1.length c1_1]] w fun e w' => e = .returned (.bool r) ∧ Below w.heap.size w w' := by
  unfold deviation_Valid.f at h
  split at h
  · rename_i hl
    obtain rfl := Option.some.inj h
    have HB := Aside0.mk (below_alloc (Below.refl w.heap.size w) (.cells #[.int .i64 a1_0, .slice A1_1 l1_1.length c1_1] 39))
    have HG := Aside0.mk (heap_alloc_new w (.cells #[.int .i64 a1_0, .slice A1_1 l1_1.length c1_1] 39))
    have HR0 := Aside0.mk hr0
    have HR1 := Aside0.mk hr1_1
    have HL := Aside0.mk hl
    have HLL := Aside0.mk hL_
    have hu := Tryd.underlying51
    obtain ⟨g, hg⟩ : ∃ g, g = w.heap.size := ⟨_, rfl⟩
    have HGE := Aside0.mk (Nat.le_of_eq hg.symm)
    clear hr0 hc0 hr1_1 hc1_1 h hl hL_
    go_enter Tryd.func18, Tryd.ntmps18
    go_wp2
    rw [← hg] at HG ⊢
    clear hg
    go_loopw [10] (fun v10 w' => ∃ i : Int, 0 ≤ i ∧ i ≤ l1_1.length ∧ v10 = .int .i64 i ∧ Aside0 ((List.range i.toNat).all (fun k => deviation_ok l0 a1_0 l1_1 (k : Int)) = true) ∧ Aside0 (w'.heap[g]? = some (.cells #[.int .i64 a1_0, .slice A1_1 l1_1.length c1_1] 39 (0, 0))) ∧ Aside0 (Below w.heap.size w w')) (fun v10 _ => l1_1.length - (intOf v10).toNat)
    case atStart => exact ⟨0, by omega, by omega, rfl, ⟨rfl⟩, HG, HB⟩
    case round =>
      clear HG HB
      obtain ⟨i, hi0, hi, rfl, HA, HG, HB⟩ := hrel
      by_cases hlt : i < (l1_1.length : Int)
      · obtain ⟨ad, e0, q0, q1⟩ := at_T51 (Kd.C_below HR1.out HB.out) i hi0 hlt
        subst e0
        obtain ⟨x0, hx0⟩ : ∃ x0, x0 = (rd_T51 l1_1 i).f0 := ⟨_, rfl⟩
        obtain ⟨x1, hx1⟩ : ∃ x1, x1 = (rd_T51 l1_1 i).f1 := ⟨_, rfl⟩
        have HX0 := Aside0.mk hx0
        have HX1 := Aside0.mk hx1
        rw [← hx0] at q0
        rw [← hx1] at q1
        clear hx0 hx1
        have i0 : (0 ≤ i) = True := eq_true (by omega)
        have i1 : (i < (l1_1.length : Int)) = True := eq_true (by omega)
        have i2 : decide (i < (l1_1.length : Int)) = true := decide_eq_true hlt
        have hm : wr.cell? ⟨g, 1, none⟩ = some (.slice (some ad) l1_1.length c1_1) := blk_cell HG.out 1
        go_upto_region 4 with (fail)
        have HB2 := Aside0.mk (HB.out.alloc HB.out.size (.cells #[.int .i64 x0, .int .i64 x1] 51))
        have HG2 := Aside0.mk (((below_alloc (Below.refl wr.heap.size wr) (.cells #[.int .i64 x0, .int .i64 x1] 51)).block g (blk_lt HG.out)).trans HG.out)
        have hn := heap_alloc_new wr (.cells #[.int .i64 x0, .int .i64 x1] 51)
        have HN := Aside0.mk hn
        clear hn hm q0 q1 HB HG
        generalize wr.alloc (.cells #[.int .i64 x0, .int .i64 x1] 51) = W at *
        obtain ⟨gn, hgn⟩ : ∃ gn, gn = wr.heap.size := ⟨_, rfl⟩
        rw [← hgn] at HN ⊢
        clear hgn
        have m0 : W.cell? ⟨g, 0, none⟩ = some (.int .i64 a1_0) := blk_cell HG2.out 0
        have m1 : W.cell? ⟨g, 1, none⟩ = some (.slice (some ad) l1_1.length c1_1) := blk_cell HG2.out 1
        have n0 : W.cell? ⟨gn, 0, none⟩ = some (.int .i64 x0) := blk_cell HN.out 0
        have n1 : W.cell? ⟨gn, 1, none⟩ = some (.int .i64 x1) := blk_cell HN.out 1
        have HLW := Aside0.mk (laid_below HLL.out HB2.out)
        by_cases d0 : x0 < 0
        · have f0 : deviation_ok l0 a1_0 l1_1 i = false := by unfold deviation_ok; rw [← HX0.out, decide_eq_false (by omega : ¬ 0 ≤ x0)]; rfl
          have HF := Aside0.mk (deviation_all_false hi0 hlt f0)
          clear f0
          have d0b : decide (x0 < 0) = true := decide_eq_true d0
          go_quiet (fail)
          go_wp2
          go_ret
          exact ⟨by rw [HF.out]; rfl, pw_below_drewN HB2.out _⟩
        · have d0b : decide (x0 < 0) = false := decide_eq_false d0
          by_cases d1 : (l0.length : Int) ≤ x0
          · have f0 : deviation_ok l0 a1_0 l1_1 i = false := by unfold deviation_ok; rw [← HX0.out, decide_eq_false (by omega : ¬ x0 < (l0.length : Int))]; simp
            have HF := Aside0.mk (deviation_all_false hi0 hlt f0)
            clear f0
            have d1b : decide ((l0.length : Int) ≤ x0) = true := decide_eq_true d1
            go_quiet (fail)
            go_wp2
            go_ret
            exact ⟨by rw [HF.out]; rfl, pw_below_drewN HB2.out _⟩
          · have d1b : decide ((l0.length : Int) ≤ x0) = false := decide_eq_false d1
            obtain ⟨ad2, ea, _, _, q2, _⟩ := at_T56 (Kd.C_below HR0.out HB2.out) x0 (by omega) (by omega)
            subst ea
            have j0 : (0 ≤ x0) = True := eq_true (by omega)
            have j1 : (x0 < (l0.length : Int)) = True := eq_true (by omega)
            obtain ⟨pr, hpr⟩ : ∃ pr, pr = (rd_T56 l0 x0).f2 := ⟨_, rfl⟩
            have HPR := Aside0.mk hpr
            rw [← hpr] at q2
            clear hpr
            cases d2 : pr == a1_0
            · have f0 : deviation_ok l0 a1_0 l1_1 i = false := by unfold deviation_ok; rw [← HX0.out, ← HPR.out, d2]; simp
              have HF := Aside0.mk (deviation_all_false hi0 hlt f0)
              clear f0
              have d2b : (pr != a1_0) = true := by simp only [bne, d2]; rfl
              go_quiet (fail)
              go_wp2
              go_ret
              exact ⟨by rw [HF.out]; rfl, pw_below_drewN HB2.out _⟩
            · have d2b : (pr != a1_0) = false := by simp only [bne, d2]; rfl
              have HC := Aside0.mk (deviation_hows 0 x1)
              cases d3 : (x1 == 1 || (x1 == 2 || x1 == 3))
              · have f0 : deviation_ok l0 a1_0 l1_1 i = false := by unfold deviation_ok; rw [← HX1.out, d3]; simp
                have HF := Aside0.mk (deviation_all_false hi0 hlt f0)
                clear f0
                rw [d3] at HC
                go_quiet ((go_at_call 33; exact deviation_quiet (slices_Contains_int_int.calls 4 _ 3 [1, 2, 3] x1 false _ (deviation_reads (laid_drawn HLW.out ⟨_, rfl⟩)) (by decide) HC.out)))
                go_wp2
                go_ret
                exact ⟨by rw [HF.out]; rfl, pw_below_drewN HB2.out _⟩
              · rw [d3] at HC
                have wi : wrap64 (i + 1) = i + 1 := by have := HL.out; unfold wrap64; omega
                by_cases d4 : i ≤ 0
                · have f0 : deviation_ok l0 a1_0 l1_1 i = true := by unfold deviation_ok; rw [← HX0.out, ← HX1.out, ← HPR.out, d2, d3, decide_eq_true (by omega : 0 ≤ x0), decide_eq_true (by omega : x0 < (l0.length : Int)), decide_eq_true d4]; rfl
                  have HF := Aside0.mk (deviation_all_next hi0 f0 HA.out)
                  clear f0
                  have d4b : decide (0 < i) = false := decide_eq_false (by omega)
                  go_quiet ((go_at_call 33; exact deviation_quiet (slices_Contains_int_int.calls 4 _ 3 [1, 2, 3] x1 true _ (deviation_reads (laid_drawn HLW.out ⟨_, rfl⟩)) (by decide) HC.out)))
                  go_wp2
                  go_roundw
                  case rel => exact ⟨i + 1, by omega, by omega, by first | rfl | go_num, HF, ⟨HG2.out⟩, ⟨pw_below_drewN HB2.out _⟩⟩
                  case measure => simp [intOf] <;> omega
                · have d4b : decide (0 < i) = true := decide_eq_true (by omega)
                  obtain ⟨im, him⟩ : ∃ im, im = i - 1 := ⟨_, rfl⟩
                  obtain ⟨ad3, ec, q3, _⟩ := at_T51 (Kd.C_below HR1.out HB2.out) im (by omega) (by omega)
                  cases ec
                  have w1 : wrap64 (i - 1) = im := by have := HL.out; unfold wrap64; omega
                  have w2 : IntKind.i64.wrap (i - 1) = im := by rw [IntWalk.i64_in _ (by have := HL.out; omega), him]
                  have k0 : (0 ≤ im) = True := eq_true (by omega)
                  have k1 : (im < (l1_1.length : Int)) = True := eq_true (by omega)
                  obtain ⟨y0, hy0⟩ : ∃ y0, y0 = (rd_T51 l1_1 (i - 1)).f0 := ⟨_, rfl⟩
                  have HY0 := Aside0.mk hy0
                  rw [show rd_T51 l1_1 im = rd_T51 l1_1 (i - 1) by rw [him], ← hy0] at q3
                  clear hy0 him
                  by_cases d5 : x0 ≤ y0
                  · have f0 : deviation_ok l0 a1_0 l1_1 i = false := by unfold deviation_ok; rw [← HX0.out, ← HX1.out, ← HPR.out, ← HY0.out, d2, d3, decide_eq_false d4, decide_eq_false (by omega : ¬ y0 < x0)]; simp
                    have HF := Aside0.mk (deviation_all_false hi0 hlt f0)
                    clear f0
                    have d5b : decide (x0 ≤ y0) = true := decide_eq_true d5
                    go_quiet ((go_at_call 33; exact deviation_quiet (slices_Contains_int_int.calls 4 _ 3 [1, 2, 3] x1 true _ (deviation_reads (laid_drawn HLW.out ⟨_, rfl⟩)) (by decide) HC.out)))
                    go_wp2
                    go_ret
                    exact ⟨by rw [HF.out]; rfl, pw_below_drewN HB2.out _⟩
                  · have f0 : deviation_ok l0 a1_0 l1_1 i = true := by unfold deviation_ok; rw [← HX0.out, ← HX1.out, ← HPR.out, ← HY0.out, d2, d3, decide_eq_true (by omega : 0 ≤ x0), decide_eq_true (by omega : x0 < (l0.length : Int)), decide_eq_false d4, decide_eq_true (by omega : y0 < x0)]; rfl
                    have HF := Aside0.mk (deviation_all_next hi0 f0 HA.out)
                    clear f0
                    have d5b : decide (x0 ≤ y0) = false := decide_eq_false d5
                    go_quiet ((go_at_call 33; exact deviation_quiet (slices_Contains_int_int.calls 4 _ 3 [1, 2, 3] x1 true _ (deviation_reads (laid_drawn HLW.out ⟨_, rfl⟩)) (by decide) HC.out)))
                    go_wp2
                    go_roundw
                    case rel => exact ⟨i + 1, by omega, by omega, by first | rfl | go_num, HF, ⟨HG2.out⟩, ⟨pw_below_drewN HB2.out _⟩⟩
                    case measure => simp [intOf] <;> omega
      · have i2 : decide (i < (l1_1.length : Int)) = false := decide_eq_false hlt
        go_wp2
        go_ret
        refine ⟨?_, HB.out⟩
        have h1 := HA.out
        rw [show i.toNat = l1_1.length by omega] at h1
        rw [h1]
        rfl
  · cases h

/-! ### storagebarterlaw30_before: function 19 -/
def storagebarterlaw30_before.l0 : Nat → List (S51) → List (S51) → Int → Int → Option (Bool)
  | 0, _, _, _, _ => none
  | k + 1, x0, x1, x17, x18 => if x18 < x17 then (if 0 ≤ x18 then (if x18 < (x0.length : Int) then (if x18 < (x1.length : Int) then (if ((rd_T51 x0 x18).f0) = ((rd_T51 x1 x18).f0) then (if ((rd_T51 x0 x18).f1) = ((rd_T51 x1 x18).f1) then (storagebarterlaw30_before.l0 k x0 x1 x17 (wrap64 (x18 + 1))) else (some (decide (((rd_T51 x0 x18).f1) < ((rd_T51 x1 x18).f1))))) else (some (decide (((rd_T51 x0 x18).f0) < ((rd_T51 x1 x18).f0))))) else (none)) else (none)) else (none)) else (some false)
def storagebarterlaw30_before.f (k : Nat) (l0 : List (S51)) (l1 : List (S51)) : Option (Bool) := if (l0.length : Int) = (l1.length : Int) then (storagebarterlaw30_before.l0 k l0 l1 (l0.length : Int) 0) else (some (decide ((l0.length : Int) < (l1.length : Int))))
theorem storagebarterlaw30_before.mono_l : ∀ k, (∀ y0 y1 y2 y3, LeO (storagebarterlaw30_before.l0 k y0 y1 y2 y3) (storagebarterlaw30_before.l0 (k + 1) y0 y1 y2 y3))
  | 0 => fun _ _ _ _ r h => by simp [storagebarterlaw30_before.l0] at h
  | k + 1 => by
    have ih0 := storagebarterlaw30_before.mono_l k
    · intro y0 y1 y2 y3
      unfold storagebarterlaw30_before.l0
      repeat' first
      | (with_reducible exact ih0 _ _ _ _)
      | (with_reducible exact LeO.refl _)
      | (with_reducible exact LeO.none _)
      | (with_reducible refine LeO.ite ?_ ?_)
      | (with_reducible refine LeO.bind ?_ (fun _ => ?_))
      | exact ih0 _ _ _ _
      | exact LeO.none _
      | refine LeO.ite ?_ ?_
      | refine LeO.bind ?_ (fun _ => ?_)
theorem storagebarterlaw30_before.mono : ∀ a0 a1 k, LeO (storagebarterlaw30_before.f k a0 a1) (storagebarterlaw30_before.f (k + 1) a0 a1) := by
  intro a0 a1 k
  have ih0 := storagebarterlaw30_before.mono_l k
  unfold storagebarterlaw30_before.f
  repeat' first
      | (with_reducible exact ih0 _ _ _ _)
      | (with_reducible exact LeO.refl _)
      | (with_reducible exact LeO.none _)
      | (with_reducible refine LeO.ite ?_ ?_)
      | (with_reducible refine LeO.bind ?_ (fun _ => ?_))
      | exact ih0 _ _ _ _
      | exact LeO.none _
      | refine LeO.ite ?_ ?_
      | refine LeO.bind ?_ (fun _ => ?_)
set_option maxHeartbeats 8000000 in
set_option maxRecDepth 100000 in
theorem storagebarterlaw30_before.calls (k : Nat) (A0 : Option Addr) (c0 : Nat) (l0 : List (S51)) (A1 : Option Addr) (c1 : Nat) (l1 : List (S51)) (r : Bool) (w : World) (hr0 : Kd.C k51 w A0 l0.length l0) (hc0 : l0.length ≤ c0) (hr1 : Kd.C k51 w A1 l1.length l1) (hc1 : l1.length ≤ c1) (h : storagebarterlaw30_before.f k l0 l1 = some r) :
    Calls Tryd.prog 19 #[.slice A0 l0.length c0, .slice A1 l1.length c1] w fun e w' => e = .returned (.bool r) ∧ Drawn0 w w' := by
  have HR0 := Aside0.mk hr0
  have HC0 := Aside0.mk hc0
  clear hr0 hc0
  have HR1 := Aside0.mk hr1
  have HC1 := Aside0.mk hc1
  clear hr1 hc1
  have H : (if (l0.length : Int) = (l1.length : Int) then (storagebarterlaw30_before.l0 k l0 l1 (l0.length : Int) 0) else (some (decide ((l0.length : Int) < (l1.length : Int))))) = some r := h
  clear h
  by_cases c3 : (l0.length : Int) = (l1.length : Int)
  · rw [if_pos c3] at H
    have c3b0 : ((l0.length : Int) == (l1.length : Int)) = true := beq_iff_eq.mpr c3
    have c3b1 : ((l0.length : Int) != (l1.length : Int)) = false := bne_eq_false_iff_eq.mpr c3
    have c3b2 : (l0.length == l1.length) = true := by first | simpa using c3 | (simp at c3 ⊢; omega)
    clear c3
    have H' := Aside0.mk H
    clear H
    go_enter Tryd.func19, Tryd.ntmps19
    go_wp2
    repeat (go_quiet (fail); try go_wp2)
    go_loopg [18] k (fun kq v18 w' => ∃ (x18_1 : Int), v18 = .int .i64 x18_1 ∧ Aside0 (storagebarterlaw30_before.l0 kq l0 l1 (l0.length : Int) x18_1 = some r) ∧ Aside0 (kq ≤ k) ∧ Drawn0 w w')
    case atStart => exact ⟨(0), (by first | rfl | (simp; done) | (simp [*]; done)), H', ⟨Nat.le_refl _⟩, by repeat (first | exact Drawn0.refl _ | apply Drawn0.step)⟩
    case round =>
      clear H'
      try clear c1
      try clear p2
      try clear c3
      try clear c3b0
      try clear c3b1
      try clear c3b2
      obtain ⟨x18_1, rfl, HA, HK1, ⟨m1, rfl⟩⟩ := hrel
      cases gk with
      | zero => exact absurd HA.out (by simp [storagebarterlaw30_before.l0])
      | succ k1 =>
        have H := HA.out
        clear HA
        simp only [storagebarterlaw30_before.l0] at H
        by_cases c4 : x18_1 < (l0.length : Int)
        · rw [if_pos c4] at H
          have c4b0 : decide (x18_1 < (l0.length : Int)) = true := decide_eq_true c4
          clear c4
          by_cases c5 : 0 ≤ x18_1
          · rw [if_pos c5] at H
            have c5b0 : decide (0 ≤ x18_1) = true := decide_eq_true c5
            clear c5
            by_cases c6 : x18_1 < (l0.length : Int)
            · rw [if_pos c6] at H
              have c6b0 : decide (x18_1 < (l0.length : Int)) = true := decide_eq_true c6
              clear c6
              by_cases c7 : x18_1 < (l1.length : Int)
              · rw [if_pos c7] at H
                have c7b0 : decide (x18_1 < (l1.length : Int)) = true := decide_eq_true c7
                clear c7
                by_cases c8 : ((rd_T51 l0 x18_1).f0) = ((rd_T51 l1 x18_1).f0)
                · rw [if_pos c8] at H
                  have c8b0 : (((rd_T51 l0 x18_1).f0) == ((rd_T51 l1 x18_1).f0)) = true := beq_iff_eq.mpr c8
                  have c8b1 : (((rd_T51 l0 x18_1).f0) != ((rd_T51 l1 x18_1).f0)) = false := bne_eq_false_iff_eq.mpr c8
                  clear c8
                  by_cases c9 : ((rd_T51 l0 x18_1).f1) = ((rd_T51 l1 x18_1).f1)
                  · rw [if_pos c9] at H
                    have c9b0 : (((rd_T51 l0 x18_1).f1) == ((rd_T51 l1 x18_1).f1)) = true := beq_iff_eq.mpr c9
                    have c9b1 : (((rd_T51 l0 x18_1).f1) != ((rd_T51 l1 x18_1).f1)) = false := bne_eq_false_iff_eq.mpr c9
                    clear c9
                    have H' := Aside0.mk H
                    clear H
                    have p282 : 0 ≤ (x18_1 : Int) := of_decide_eq_true (by first | (with_reducible assumption) | assumption)
                    have q282 : x18_1 < (l0.length : Int) := of_decide_eq_true (by first | (with_reducible assumption) | assumption)
                    obtain ⟨ad282, e282, hx282_0, hx282_1⟩ := at_T51 HR0.out x18_1 p282 q282
                    cases e282
                    replace p282 := eq_true p282
                    replace q282 := eq_true q282
                    have p283 : 0 ≤ (x18_1 : Int) := of_decide_eq_true (by first | (with_reducible assumption) | assumption)
                    have q283 : x18_1 < (l1.length : Int) := of_decide_eq_true (by first | (with_reducible assumption) | assumption)
                    obtain ⟨ad283, e283, hx283_0, hx283_1⟩ := at_T51 HR1.out x18_1 p283 q283
                    cases e283
                    replace p283 := eq_true p283
                    replace q283 := eq_true q283
                    have p284 : 0 ≤ (x18_1 : Int) := of_decide_eq_true (by first | (with_reducible assumption) | assumption)
                    have q284 : x18_1 < (l0.length : Int) := of_decide_eq_true (by first | (with_reducible assumption) | assumption)
                    obtain ⟨ad284, e284, hx284_0, hx284_1⟩ := at_T51 HR0.out x18_1 p284 q284
                    obtain rfl : ad282 = ad284 := (by injection e284)
                    replace p284 := eq_true p284
                    replace q284 := eq_true q284
                    have p285 : 0 ≤ (x18_1 : Int) := of_decide_eq_true (by first | (with_reducible assumption) | assumption)
                    have q285 : x18_1 < (l1.length : Int) := of_decide_eq_true (by first | (with_reducible assumption) | assumption)
                    obtain ⟨ad285, e285, hx285_0, hx285_1⟩ := at_T51 HR1.out x18_1 p285 q285
                    obtain rfl : ad283 = ad285 := (by injection e285)
                    replace p285 := eq_true p285
                    replace q285 := eq_true q285
                    go_wp2
                    repeat (go_quiet (fail); try go_wp2)
                    go_roundg k1
                    case measure => have := HK1.out; omega
                    case rel => exact ⟨(wrap64 (x18_1 + 1)), (by first | rfl | (simp; done) | (simp [*]; done)), H', ⟨by have := HK1.out; omega⟩, by repeat (first | exact Drawn0.refl _ | apply Drawn0.step)⟩
                  · rw [if_neg c9] at H
                    have c9b0 : (((rd_T51 l0 x18_1).f1) == ((rd_T51 l1 x18_1).f1)) = false := beq_eq_false_iff_ne.mpr c9
                    have c9b1 : (((rd_T51 l0 x18_1).f1) != ((rd_T51 l1 x18_1).f1)) = true := bne_iff_ne.mpr c9
                    obtain rfl := Option.some.inj H
                    have p282 : 0 ≤ (x18_1 : Int) := of_decide_eq_true (by first | (with_reducible assumption) | assumption)
                    have q282 : x18_1 < (l0.length : Int) := of_decide_eq_true (by first | (with_reducible assumption) | assumption)
                    obtain ⟨ad282, e282, hx282_0, hx282_1⟩ := at_T51 HR0.out x18_1 p282 q282
                    cases e282
                    replace p282 := eq_true p282
                    replace q282 := eq_true q282
                    have p283 : 0 ≤ (x18_1 : Int) := of_decide_eq_true (by first | (with_reducible assumption) | assumption)
                    have q283 : x18_1 < (l1.length : Int) := of_decide_eq_true (by first | (with_reducible assumption) | assumption)
                    obtain ⟨ad283, e283, hx283_0, hx283_1⟩ := at_T51 HR1.out x18_1 p283 q283
                    cases e283
                    replace p283 := eq_true p283
                    replace q283 := eq_true q283
                    have p284 : 0 ≤ (x18_1 : Int) := of_decide_eq_true (by first | (with_reducible assumption) | assumption)
                    have q284 : x18_1 < (l0.length : Int) := of_decide_eq_true (by first | (with_reducible assumption) | assumption)
                    obtain ⟨ad284, e284, hx284_0, hx284_1⟩ := at_T51 HR0.out x18_1 p284 q284
                    obtain rfl : ad282 = ad284 := (by injection e284)
                    replace p284 := eq_true p284
                    replace q284 := eq_true q284
                    have p285 : 0 ≤ (x18_1 : Int) := of_decide_eq_true (by first | (with_reducible assumption) | assumption)
                    have q285 : x18_1 < (l1.length : Int) := of_decide_eq_true (by first | (with_reducible assumption) | assumption)
                    obtain ⟨ad285, e285, hx285_0, hx285_1⟩ := at_T51 HR1.out x18_1 p285 q285
                    obtain rfl : ad283 = ad285 := (by injection e285)
                    replace p285 := eq_true p285
                    replace q285 := eq_true q285
                    have p286 : 0 ≤ (x18_1 : Int) := of_decide_eq_true (by first | (with_reducible assumption) | assumption)
                    have q286 : x18_1 < (l0.length : Int) := of_decide_eq_true (by first | (with_reducible assumption) | assumption)
                    obtain ⟨ad286, e286, hx286_0, hx286_1⟩ := at_T51 HR0.out x18_1 p286 q286
                    obtain rfl : ad282 = ad286 := (by injection e286)
                    replace p286 := eq_true p286
                    replace q286 := eq_true q286
                    have p287 : 0 ≤ (x18_1 : Int) := of_decide_eq_true (by first | (with_reducible assumption) | assumption)
                    have q287 : x18_1 < (l1.length : Int) := of_decide_eq_true (by first | (with_reducible assumption) | assumption)
                    obtain ⟨ad287, e287, hx287_0, hx287_1⟩ := at_T51 HR1.out x18_1 p287 q287
                    obtain rfl : ad283 = ad287 := (by injection e287)
                    replace p287 := eq_true p287
                    replace q287 := eq_true q287
                    go_wp2
                    repeat (go_quiet (fail); try go_wp2)
                    go_ret
                    exact ⟨by first | rfl | (simp; done) | (simp [*]; done), by repeat (first | exact Drawn0.refl _ | apply Drawn0.step)⟩
                · rw [if_neg c8] at H
                  have c8b0 : (((rd_T51 l0 x18_1).f0) == ((rd_T51 l1 x18_1).f0)) = false := beq_eq_false_iff_ne.mpr c8
                  have c8b1 : (((rd_T51 l0 x18_1).f0) != ((rd_T51 l1 x18_1).f0)) = true := bne_iff_ne.mpr c8
                  obtain rfl := Option.some.inj H
                  have p282 : 0 ≤ (x18_1 : Int) := of_decide_eq_true (by first | (with_reducible assumption) | assumption)
                  have q282 : x18_1 < (l0.length : Int) := of_decide_eq_true (by first | (with_reducible assumption) | assumption)
                  obtain ⟨ad282, e282, hx282_0, hx282_1⟩ := at_T51 HR0.out x18_1 p282 q282
                  cases e282
                  replace p282 := eq_true p282
                  replace q282 := eq_true q282
                  have p283 : 0 ≤ (x18_1 : Int) := of_decide_eq_true (by first | (with_reducible assumption) | assumption)
                  have q283 : x18_1 < (l1.length : Int) := of_decide_eq_true (by first | (with_reducible assumption) | assumption)
                  obtain ⟨ad283, e283, hx283_0, hx283_1⟩ := at_T51 HR1.out x18_1 p283 q283
                  cases e283
                  replace p283 := eq_true p283
                  replace q283 := eq_true q283
                  have p288 : 0 ≤ (x18_1 : Int) := of_decide_eq_true (by first | (with_reducible assumption) | assumption)
                  have q288 : x18_1 < (l0.length : Int) := of_decide_eq_true (by first | (with_reducible assumption) | assumption)
                  obtain ⟨ad288, e288, hx288_0, hx288_1⟩ := at_T51 HR0.out x18_1 p288 q288
                  obtain rfl : ad282 = ad288 := (by injection e288)
                  replace p288 := eq_true p288
                  replace q288 := eq_true q288
                  have p289 : 0 ≤ (x18_1 : Int) := of_decide_eq_true (by first | (with_reducible assumption) | assumption)
                  have q289 : x18_1 < (l1.length : Int) := of_decide_eq_true (by first | (with_reducible assumption) | assumption)
                  obtain ⟨ad289, e289, hx289_0, hx289_1⟩ := at_T51 HR1.out x18_1 p289 q289
                  obtain rfl : ad283 = ad289 := (by injection e289)
                  replace p289 := eq_true p289
                  replace q289 := eq_true q289
                  go_wp2
                  repeat (go_quiet (fail); try go_wp2)
                  go_ret
                  exact ⟨by first | rfl | (simp; done) | (simp [*]; done), by repeat (first | exact Drawn0.refl _ | apply Drawn0.step)⟩
              · rw [if_neg c7] at H
                exact absurd H (by simp)
            · rw [if_neg c6] at H
              exact absurd H (by simp)
          · rw [if_neg c5] at H
            exact absurd H (by simp)
        · rw [if_neg c4] at H
          have c4b0 : decide (x18_1 < (l0.length : Int)) = false := decide_eq_false c4
          clear c4
          obtain rfl := Option.some.inj H
          go_wp2
          repeat (go_quiet (fail); try go_wp2)
          go_ret
          exact ⟨by first | rfl | (simp; done) | (simp [*]; done), by repeat (first | exact Drawn0.refl _ | apply Drawn0.step)⟩
  · rw [if_neg c3] at H
    have c3b0 : ((l0.length : Int) == (l1.length : Int)) = false := beq_eq_false_iff_ne.mpr c3
    have c3b1 : ((l0.length : Int) != (l1.length : Int)) = true := bne_iff_ne.mpr c3
    have c3b2 : (l0.length == l1.length) = false := by first | simpa using c3 | (simp at c3 ⊢; omega)
    obtain rfl := Option.some.inj H
    go_enter Tryd.func19, Tryd.ntmps19
    go_wp2
    repeat (go_quiet (fail); try go_wp2)
    go_ret
    exact ⟨by first | rfl | (simp; done) | (simp [*]; done), by repeat (first | exact Drawn0.refl _ | apply Drawn0.step)⟩

/-! ### api_Act_34: function 34 -/
def api_Act_34.l0 : Nat → List (S51) → List (S51) → Int → Int → Option (Bool)
  | 0, _, _, _, _ => none
  | k + 1, x0, x1, x12, x13 => if x13 < x12 then (if 0 ≤ x13 then (if x13 < (x0.length : Int) then (if x13 < (x1.length : Int) then (if (!(((rd_T51 x0 x13).f0) == ((rd_T51 x1 x13).f0)) || (!(((rd_T51 x0 x13).f1) == ((rd_T51 x1 x13).f1)))) = true then (some false) else (api_Act_34.l0 k x0 x1 x12 (wrap64 (x13 + 1)))) else (none)) else (none)) else (none)) else (some true)
def api_Act_34.f (k : Nat) (l0 : List (S51)) (l1 : List (S51)) : Option (Bool) := if (l0.length : Int) = (l1.length : Int) then (api_Act_34.l0 k l0 l1 (l0.length : Int) 0) else (some false)
theorem api_Act_34.mono_l : ∀ k, (∀ y0 y1 y2 y3, LeO (api_Act_34.l0 k y0 y1 y2 y3) (api_Act_34.l0 (k + 1) y0 y1 y2 y3))
  | 0 => fun _ _ _ _ r h => by simp [api_Act_34.l0] at h
  | k + 1 => by
    have ih0 := api_Act_34.mono_l k
    · intro y0 y1 y2 y3
      unfold api_Act_34.l0
      repeat' first
      | (with_reducible exact ih0 _ _ _ _)
      | (with_reducible exact LeO.refl _)
      | (with_reducible exact LeO.none _)
      | (with_reducible refine LeO.ite ?_ ?_)
      | (with_reducible refine LeO.bind ?_ (fun _ => ?_))
      | exact ih0 _ _ _ _
      | exact LeO.none _
      | refine LeO.ite ?_ ?_
      | refine LeO.bind ?_ (fun _ => ?_)
theorem api_Act_34.mono : ∀ a0 a1 k, LeO (api_Act_34.f k a0 a1) (api_Act_34.f (k + 1) a0 a1) := by
  intro a0 a1 k
  have ih0 := api_Act_34.mono_l k
  unfold api_Act_34.f
  repeat' first
      | (with_reducible exact ih0 _ _ _ _)
      | (with_reducible exact LeO.refl _)
      | (with_reducible exact LeO.none _)
      | (with_reducible refine LeO.ite ?_ ?_)
      | (with_reducible refine LeO.bind ?_ (fun _ => ?_))
      | exact ih0 _ _ _ _
      | exact LeO.none _
      | refine LeO.ite ?_ ?_
      | refine LeO.bind ?_ (fun _ => ?_)
set_option maxHeartbeats 8000000 in
set_option maxRecDepth 100000 in
theorem api_Act_34.calls (k : Nat) (A0 : Option Addr) (c0 : Nat) (l0 : List (S51)) (A1 : Option Addr) (c1 : Nat) (l1 : List (S51)) (r : Bool) (w : World) (hr0 : Kd.C k51 w A0 l0.length l0) (hc0 : l0.length ≤ c0) (hr1 : Kd.C k51 w A1 l1.length l1) (hc1 : l1.length ≤ c1) (h : api_Act_34.f k l0 l1 = some r) :
    Calls Tryd.prog 34 #[.slice A0 l0.length c0, .slice A1 l1.length c1] w fun e w' => e = .returned (.bool r) ∧ Drawn0 w w' := by
  have hu51 := Tryd.underlying51
  have HR0 := Aside0.mk hr0
  have HC0 := Aside0.mk hc0
  clear hr0 hc0
  have HR1 := Aside0.mk hr1
  have HC1 := Aside0.mk hc1
  clear hr1 hc1
  have H : (if (l0.length : Int) = (l1.length : Int) then (api_Act_34.l0 k l0 l1 (l0.length : Int) 0) else (some false)) = some r := h
  clear h
  by_cases c3 : (l0.length : Int) = (l1.length : Int)
  · rw [if_pos c3] at H
    have c3b0 : ((l0.length : Int) == (l1.length : Int)) = true := beq_iff_eq.mpr c3
    have c3b1 : ((l0.length : Int) != (l1.length : Int)) = false := bne_eq_false_iff_eq.mpr c3
    have c3b2 : (l0.length == l1.length) = true := by first | simpa using c3 | (simp at c3 ⊢; omega)
    clear c3
    have H' := Aside0.mk H
    clear H
    go_enter Tryd.func34, Tryd.ntmps34
    go_wp2
    repeat (go_quiet (fail); try go_wp2)
    go_loopg [13] k (fun kq v13 w' => ∃ (x13_1 : Int), v13 = .int .i64 x13_1 ∧ Aside0 (api_Act_34.l0 kq l0 l1 (l0.length : Int) x13_1 = some r) ∧ Aside0 (kq ≤ k) ∧ Drawn0 w w')
    case atStart => exact ⟨(0), (by first | rfl | (simp; done) | (simp [*]; done)), H', ⟨Nat.le_refl _⟩, by repeat (first | exact Drawn0.refl _ | apply Drawn0.step)⟩
    case round =>
      clear H'
      try clear c1
      try clear p2
      try clear c3
      try clear c3b0
      try clear c3b1
      try clear c3b2
      obtain ⟨x13_1, rfl, HA, HK1, ⟨m1, rfl⟩⟩ := hrel
      cases gk with
      | zero => exact absurd HA.out (by simp [api_Act_34.l0])
      | succ k1 =>
        have H := HA.out
        clear HA
        simp only [api_Act_34.l0] at H
        by_cases c4 : x13_1 < (l0.length : Int)
        · rw [if_pos c4] at H
          have c4b0 : decide (x13_1 < (l0.length : Int)) = true := decide_eq_true c4
          clear c4
          by_cases c5 : 0 ≤ x13_1
          · rw [if_pos c5] at H
            have c5b0 : decide (0 ≤ x13_1) = true := decide_eq_true c5
            clear c5
            by_cases c6 : x13_1 < (l0.length : Int)
            · rw [if_pos c6] at H
              have c6b0 : decide (x13_1 < (l0.length : Int)) = true := decide_eq_true c6
              clear c6
              by_cases c7 : x13_1 < (l1.length : Int)
              · rw [if_pos c7] at H
                have c7b0 : decide (x13_1 < (l1.length : Int)) = true := decide_eq_true c7
                clear c7
                by_cases c8 : (!(((rd_T51 l0 x13_1).f0) == ((rd_T51 l1 x13_1).f0)) || (!(((rd_T51 l0 x13_1).f1) == ((rd_T51 l1 x13_1).f1)))) = true
                · rw [if_pos c8] at H
                  have c8b0 : (!(((rd_T51 l0 x13_1).f0) == ((rd_T51 l1 x13_1).f0)) || (!(((rd_T51 l0 x13_1).f1) == ((rd_T51 l1 x13_1).f1)))) = true := c8
                  clear c8
                  obtain rfl := Option.some.inj H
                  have p290 : 0 ≤ (x13_1 : Int) := of_decide_eq_true (by first | (with_reducible assumption) | assumption)
                  have q290 : x13_1 < (l0.length : Int) := of_decide_eq_true (by first | (with_reducible assumption) | assumption)
                  obtain ⟨ad290, e290, hx290_0, hx290_1⟩ := at_T51 HR0.out x13_1 p290 q290
                  cases e290
                  replace p290 := eq_true p290
                  replace q290 := eq_true q290
                  have p291 : 0 ≤ (x13_1 : Int) := of_decide_eq_true (by first | (with_reducible assumption) | assumption)
                  have q291 : x13_1 < (l1.length : Int) := of_decide_eq_true (by first | (with_reducible assumption) | assumption)
                  obtain ⟨ad291, e291, hx291_0, hx291_1⟩ := at_T51 HR1.out x13_1 p291 q291
                  cases e291
                  replace p291 := eq_true p291
                  replace q291 := eq_true q291
                  go_wp2
                  repeat (go_quiet (fail); try go_wp2)
                  go_ret
                  exact ⟨by first | rfl | (simp; done) | (simp [*]; done), by repeat (first | exact Drawn0.refl _ | apply Drawn0.step)⟩
                · rw [if_neg c8] at H
                  have c8b0 : (!(((rd_T51 l0 x13_1).f0) == ((rd_T51 l1 x13_1).f0)) || (!(((rd_T51 l0 x13_1).f1) == ((rd_T51 l1 x13_1).f1)))) = false := by simpa using c8
                  clear c8
                  have H' := Aside0.mk H
                  clear H
                  have p290 : 0 ≤ (x13_1 : Int) := of_decide_eq_true (by first | (with_reducible assumption) | assumption)
                  have q290 : x13_1 < (l0.length : Int) := of_decide_eq_true (by first | (with_reducible assumption) | assumption)
                  obtain ⟨ad290, e290, hx290_0, hx290_1⟩ := at_T51 HR0.out x13_1 p290 q290
                  cases e290
                  replace p290 := eq_true p290
                  replace q290 := eq_true q290
                  have p291 : 0 ≤ (x13_1 : Int) := of_decide_eq_true (by first | (with_reducible assumption) | assumption)
                  have q291 : x13_1 < (l1.length : Int) := of_decide_eq_true (by first | (with_reducible assumption) | assumption)
                  obtain ⟨ad291, e291, hx291_0, hx291_1⟩ := at_T51 HR1.out x13_1 p291 q291
                  cases e291
                  replace p291 := eq_true p291
                  replace q291 := eq_true q291
                  go_wp2
                  repeat (go_quiet (fail); try go_wp2)
                  go_roundg k1
                  case measure => have := HK1.out; omega
                  case rel => exact ⟨(wrap64 (x13_1 + 1)), (by first | rfl | (simp; done) | (simp [*]; done)), H', ⟨by have := HK1.out; omega⟩, by repeat (first | exact Drawn0.refl _ | apply Drawn0.step)⟩
              · rw [if_neg c7] at H
                exact absurd H (by simp)
            · rw [if_neg c6] at H
              exact absurd H (by simp)
          · rw [if_neg c5] at H
            exact absurd H (by simp)
        · rw [if_neg c4] at H
          have c4b0 : decide (x13_1 < (l0.length : Int)) = false := decide_eq_false c4
          clear c4
          obtain rfl := Option.some.inj H
          go_wp2
          repeat (go_quiet (fail); try go_wp2)
          go_ret
          exact ⟨by first | rfl | (simp; done) | (simp [*]; done), by repeat (first | exact Drawn0.refl _ | apply Drawn0.step)⟩
  · rw [if_neg c3] at H
    have c3b0 : ((l0.length : Int) == (l1.length : Int)) = false := beq_eq_false_iff_ne.mpr c3
    have c3b1 : ((l0.length : Int) != (l1.length : Int)) = true := bne_iff_ne.mpr c3
    have c3b2 : (l0.length == l1.length) = false := by first | simpa using c3 | (simp at c3 ⊢; omega)
    obtain rfl := Option.some.inj H
    go_enter Tryd.func34, Tryd.ntmps34
    go_wp2
    repeat (go_quiet (fail); try go_wp2)
    go_ret
    exact ⟨by first | rfl | (simp; done) | (simp [*]; done), by repeat (first | exact Drawn0.refl _ | apply Drawn0.step)⟩

/-! ### deviation_Same: function 20 -/
def deviation_Same.f (k : Nat) (a0_0 : Int) (l0_1 : List (S51)) (a1_0 : Int) (l1_1 : List (S51)) : Option (Bool) := if a0_0 = a1_0 then ((api_Act_34.f k l0_1 l1_1).bind fun t294 => (some t294)) else (some false)
theorem deviation_Same.mono : ∀ a0 a1 a2 a3 k, LeO (deviation_Same.f k a0 a1 a2 a3) (deviation_Same.f (k + 1) a0 a1 a2 a3) := by
  intro a0 a1 a2 a3 k
  unfold deviation_Same.f
  repeat' first
      | (with_reducible exact api_Act_34.mono _ _ _)
      | (with_reducible exact LeO.refl _)
      | (with_reducible exact LeO.none _)
      | (with_reducible refine LeO.ite ?_ ?_)
      | (with_reducible refine LeO.bind ?_ (fun _ => ?_))
      | exact api_Act_34.mono _ _ _
      | exact LeO.none _
      | refine LeO.ite ?_ ?_
      | refine LeO.bind ?_ (fun _ => ?_)
set_option maxHeartbeats 8000000 in
set_option maxRecDepth 100000 in
theorem deviation_Same.calls (k : Nat) (a0_0 : Int) (A0_1 : Option Addr) (c0_1 : Nat) (l0_1 : List (S51)) (a1_0 : Int) (A1_1 : Option Addr) (c1_1 : Nat) (l1_1 : List (S51)) (r : Bool) (w : World) (hr0_1 : Kd.C k51 w A0_1 l0_1.length l0_1) (hc0_1 : l0_1.length ≤ c0_1) (hr1_1 : Kd.C k51 w A1_1 l1_1.length l1_1) (hc1_1 : l1_1.length ≤ c1_1) (h : deviation_Same.f k a0_0 l0_1 a1_0 l1_1 = some r) :
    Calls Tryd.prog 20 #[.agg #[.int .i64 a0_0, .slice A0_1 l0_1.length c0_1], .agg #[.int .i64 a1_0, .slice A1_1 l1_1.length c1_1]] w fun e w' => e = .returned (.bool r) ∧ Below w.heap.size w w' := by
  have hu39 := Tryd.underlying39
  have HR0_1 := Aside0.mk hr0_1
  have HC0_1 := Aside0.mk hc0_1
  clear hr0_1 hc0_1
  have HR1_1 := Aside0.mk hr1_1
  have HC1_1 := Aside0.mk hc1_1
  clear hr1_1 hc1_1
  have HB := Aside0.mk (Below.refl w.heap.size w)
  have H : (if a0_0 = a1_0 then ((api_Act_34.f k l0_1 l1_1).bind fun t294 => (some t294)) else (some false)) = some r := h
  clear h
  by_cases c3 : a0_0 = a1_0
  · rw [if_pos c3] at H
    have c3b0 : (a0_0 == a1_0) = true := beq_iff_eq.mpr c3
    have c3b1 : (a0_0 != a1_0) = false := bne_eq_false_iff_eq.mpr c3
    clear c3
    replace H := Option.bind_eq_some_iff.mp H
    obtain ⟨t294, A40, H⟩ := H
    replace H : (some t294) = some r := H
    have A4 := Aside0.mk A40
    clear A40
    obtain rfl := Option.some.inj H
    go_enter Tryd.func20, Tryd.ntmps20
    go_wp2_with (first | ((with_reducible refine gate_dst (N := 2) rfl ?_); refine box_event ?hg (N := 2) ?hd (cs := #[.int .i64 a0_0, .slice A0_1 l0_1.length c0_1]) (t := 39) ?hr ?_; (case hd => rfl); (case hg => rfl); (case hr => first | (go_simp; done) | (go_simp; rfl)); intro gb292 hg w5 hbox hb; have n0_ := Aside0.mk (below_step (by repeat (first | (with_reducible first | exact HB.out | apply below_alloc | apply pw_below_drewN | apply below_drew1) | exact HB.out)) hb); have n1_ := Aside0.mk (hbox); have n2_ := Aside0.mk ((by rw [hg]; exact (below_size (by repeat (first | (with_reducible first | exact HB.out | apply below_alloc | apply pw_below_drewN | apply below_drew1) | exact HB.out))) : w.heap.size ≤ gb292)); have n3_ := Aside0.mk ((by rw [hg]; exact (below_size (by repeat (first | (with_reducible first | exact HB.out | apply below_alloc | apply pw_below_drewN | apply below_drew1) | exact HB.out))) : w.heap.size ≤ gb292)); clear HB; have HB := n0_; have BK292 := n1_; have GW292 := n2_; have GE292 := n3_; clear n0_ n1_ n2_ n3_; clear hb hbox hg) | ((with_reducible refine gate_dst (N := 3) rfl ?_); refine box_event ?hg (N := 3) ?hd (cs := #[.int .i64 a1_0, .slice A1_1 l1_1.length c1_1]) (t := 39) ?hr ?_; (case hd => rfl); (case hg => rfl); (case hr => first | (go_simp; done) | (go_simp; rfl)); intro gb293 hg w6 hbox hb; have n0_ := Aside0.mk (blk_below (g := gb292) (o := .cells #[.int .i64 a0_0, .slice A0_1 l0_1.length c0_1] 39 (0, 0)) (by (with_reducible repeat (first | refine blk_drewN ?_ _ | refine blk_drew ?_ | refine blk_alloc ?_ _)); exact BK292.out) hb); have n1_ := Aside0.mk (below_step (by repeat (first | (with_reducible first | exact HB.out | apply below_alloc | apply pw_below_drewN | apply below_drew1 | refine below_set ?_ GE292.out) | exact HB.out)) hb); have n2_ := Aside0.mk (hbox); have n3_ := Aside0.mk ((by rw [hg]; exact (below_size (by repeat (first | (with_reducible first | exact HB.out | apply below_alloc | apply pw_below_drewN | apply below_drew1 | refine below_set ?_ GE292.out) | exact HB.out))) : w.heap.size ≤ gb293)); have n4_ := Aside0.mk ((by rw [hg]; exact (below_size (by repeat (first | (with_reducible first | exact HB.out | apply below_alloc | apply pw_below_drewN | apply below_drew1 | refine below_set ?_ GE292.out) | exact HB.out))) : w.heap.size ≤ gb293)); have n5_ := Aside0.mk ((by rw [hg]; exact Nat.ne_of_lt (blk_lt (g := gb292) (o := .cells #[.int .i64 a0_0, .slice A0_1 l0_1.length c0_1] 39 (0, 0)) (by (with_reducible repeat (first | refine blk_drewN ?_ _ | refine blk_drew ?_ | refine blk_alloc ?_ _)); exact BK292.out)) : gb292 ≠ gb293)); have n6_ := Aside0.mk ((by rw [hg]; exact Nat.ne_of_gt (blk_lt (g := gb292) (o := .cells #[.int .i64 a0_0, .slice A0_1 l0_1.length c0_1] 39 (0, 0)) (by (with_reducible repeat (first | refine blk_drewN ?_ _ | refine blk_drew ?_ | refine blk_alloc ?_ _)); exact BK292.out)) : gb293 ≠ gb292)); clear BK292; clear HB; have BK292 := n0_; have HB := n1_; have BK293 := n2_; have GW293 := n3_; have GE293 := n4_; have NB292_293 := n5_; have NB293_292 := n6_; clear n0_ n1_ n2_ n3_ n4_ n5_ n6_; clear hb hbox hg; have hnb7 := NB292_293.out; have hnc7 := NB293_292.out; have hcz8_0 : w6.cell? ⟨gb292, 0, none⟩ = some (.int .i64 a0_0) := (blk_cell BK292.out 0).trans rfl; have hcz8_1 : w6.cell? ⟨gb292, 1, none⟩ = some (.slice A0_1 l0_1.length c0_1) := (blk_cell BK292.out 1).trans rfl; have hfz8_0 := blk_frozen BK292.out 0; have hfz8_1 := blk_frozen BK292.out 1; have hcz9_0 : w6.cell? ⟨gb293, 0, none⟩ = some (.int .i64 a1_0) := (blk_cell BK293.out 0).trans rfl; have hcz9_1 : w6.cell? ⟨gb293, 1, none⟩ = some (.slice A1_1 l1_1.length c1_1) := (blk_cell BK293.out 1).trans rfl; have hfz9_0 := blk_frozen BK293.out 0; have hfz9_1 := blk_frozen BK293.out 1) | (go_at_call 34; (with_reducible refine (api_Act_34.calls k _ _ l0_1 _ _ l1_1 t294 _ ?side1 ?side2 ?side3 ?side4 A4.out).mono ?_); (case side1 => repeat (first | exact (Kd.C_below HR0_1.out HB.out) | (with_reducible refine Kd.C_alloc ?_ _) | (with_reducible refine Kd.C_drewN ?_ _) | (with_reducible refine Kd.C_drew ?_))); (case side2 => exact HC0_1.out); (case side3 => repeat (first | exact (Kd.C_below HR1_1.out HB.out) | (with_reducible refine Kd.C_alloc ?_ _) | (with_reducible refine Kd.C_drewN ?_ _) | (with_reducible refine Kd.C_drew ?_))); (case side4 => exact HC1_1.out); rintro e w' ⟨rfl, ⟨nd, rfl⟩⟩))
    go_ret
    exact ⟨by first | rfl | (simp [errW_none, errW_some] <;> rfl) | (simp [*, errW_none, errW_some] <;> rfl), by repeat (first | (with_reducible first | exact HB.out | apply below_alloc | apply pw_below_drewN | apply below_drew1 | refine below_set ?_ GE292.out | refine below_set ?_ GE293.out) | exact HB.out)⟩
  · rw [if_neg c3] at H
    have c3b0 : (a0_0 == a1_0) = false := beq_eq_false_iff_ne.mpr c3
    have c3b1 : (a0_0 != a1_0) = true := bne_iff_ne.mpr c3
    obtain rfl := Option.some.inj H
    go_enter Tryd.func20, Tryd.ntmps20
    go_wp2_with (first | ((with_reducible refine gate_dst (N := 2) rfl ?_); refine box_event ?hg (N := 2) ?hd (cs := #[.int .i64 a0_0, .slice A0_1 l0_1.length c0_1]) (t := 39) ?hr ?_; (case hd => rfl); (case hg => rfl); (case hr => first | (go_simp; done) | (go_simp; rfl)); intro gb292 hg w10 hbox hb; have n0_ := Aside0.mk (below_step (by repeat (first | (with_reducible first | exact HB.out | apply below_alloc | apply pw_below_drewN | apply below_drew1) | exact HB.out)) hb); have n1_ := Aside0.mk (hbox); have n2_ := Aside0.mk ((by rw [hg]; exact (below_size (by repeat (first | (with_reducible first | exact HB.out | apply below_alloc | apply pw_below_drewN | apply below_drew1) | exact HB.out))) : w.heap.size ≤ gb292)); have n3_ := Aside0.mk ((by rw [hg]; exact (below_size (by repeat (first | (with_reducible first | exact HB.out | apply below_alloc | apply pw_below_drewN | apply below_drew1) | exact HB.out))) : w.heap.size ≤ gb292)); clear HB; have HB := n0_; have BK292 := n1_; have GW292 := n2_; have GE292 := n3_; clear n0_ n1_ n2_ n3_; clear hb hbox hg) | ((with_reducible refine gate_dst (N := 3) rfl ?_); refine box_event ?hg (N := 3) ?hd (cs := #[.int .i64 a1_0, .slice A1_1 l1_1.length c1_1]) (t := 39) ?hr ?_; (case hd => rfl); (case hg => rfl); (case hr => first | (go_simp; done) | (go_simp; rfl)); intro gb293 hg w11 hbox hb; have n0_ := Aside0.mk (blk_below (g := gb292) (o := .cells #[.int .i64 a0_0, .slice A0_1 l0_1.length c0_1] 39 (0, 0)) (by (with_reducible repeat (first | refine blk_drewN ?_ _ | refine blk_drew ?_ | refine blk_alloc ?_ _)); exact BK292.out) hb); have n1_ := Aside0.mk (below_step (by repeat (first | (with_reducible first | exact HB.out | apply below_alloc | apply pw_below_drewN | apply below_drew1 | refine below_set ?_ GE292.out) | exact HB.out)) hb); have n2_ := Aside0.mk (hbox); have n3_ := Aside0.mk ((by rw [hg]; exact (below_size (by repeat (first | (with_reducible first | exact HB.out | apply below_alloc | apply pw_below_drewN | apply below_drew1 | refine below_set ?_ GE292.out) | exact HB.out))) : w.heap.size ≤ gb293)); have n4_ := Aside0.mk ((by rw [hg]; exact (below_size (by repeat (first | (with_reducible first | exact HB.out | apply below_alloc | apply pw_below_drewN | apply below_drew1 | refine below_set ?_ GE292.out) | exact HB.out))) : w.heap.size ≤ gb293)); have n5_ := Aside0.mk ((by rw [hg]; exact Nat.ne_of_lt (blk_lt (g := gb292) (o := .cells #[.int .i64 a0_0, .slice A0_1 l0_1.length c0_1] 39 (0, 0)) (by (with_reducible repeat (first | refine blk_drewN ?_ _ | refine blk_drew ?_ | refine blk_alloc ?_ _)); exact BK292.out)) : gb292 ≠ gb293)); have n6_ := Aside0.mk ((by rw [hg]; exact Nat.ne_of_gt (blk_lt (g := gb292) (o := .cells #[.int .i64 a0_0, .slice A0_1 l0_1.length c0_1] 39 (0, 0)) (by (with_reducible repeat (first | refine blk_drewN ?_ _ | refine blk_drew ?_ | refine blk_alloc ?_ _)); exact BK292.out)) : gb293 ≠ gb292)); clear BK292; clear HB; have BK292 := n0_; have HB := n1_; have BK293 := n2_; have GW293 := n3_; have GE293 := n4_; have NB292_293 := n5_; have NB293_292 := n6_; clear n0_ n1_ n2_ n3_ n4_ n5_ n6_; clear hb hbox hg; have hnb12 := NB292_293.out; have hnc12 := NB293_292.out; have hcz13_0 : w11.cell? ⟨gb292, 0, none⟩ = some (.int .i64 a0_0) := (blk_cell BK292.out 0).trans rfl; have hcz13_1 : w11.cell? ⟨gb292, 1, none⟩ = some (.slice A0_1 l0_1.length c0_1) := (blk_cell BK292.out 1).trans rfl; have hfz13_0 := blk_frozen BK292.out 0; have hfz13_1 := blk_frozen BK292.out 1; have hcz14_0 : w11.cell? ⟨gb293, 0, none⟩ = some (.int .i64 a1_0) := (blk_cell BK293.out 0).trans rfl; have hcz14_1 : w11.cell? ⟨gb293, 1, none⟩ = some (.slice A1_1 l1_1.length c1_1) := (blk_cell BK293.out 1).trans rfl; have hfz14_0 := blk_frozen BK293.out 0; have hfz14_1 := blk_frozen BK293.out 1))
    go_ret
    exact ⟨by first | rfl | (simp [errW_none, errW_some] <;> rfl) | (simp [*, errW_none, errW_some] <;> rfl), by repeat (first | (with_reducible first | exact HB.out | apply below_alloc | apply pw_below_drewN | apply below_drew1 | refine below_set ?_ GE292.out | refine below_set ?_ GE293.out) | exact HB.out)⟩

end Go.Proofs.YtdflpnfceajomaaDoor.PDeviationAll
