/- The law MaintainBounds answers true for every input: what its printed functions compute, in plain Lean. -/
import Derived.Test.YtknpkoddchphkaaPMaintainBoundsx4
set_option linter.unusedVariables false
set_option linter.unusedSimpArgs false
set_option maxRecDepth 100000
namespace Go.Proofs.Ytknpkoddchphkaa.Pure
open Go.RowKit Go.Proofs.Ytknpkoddchphkaa.PMaintainBounds Go.Proofs.YtknpkoddchphkaaW.PrintWords Go.Proofs.YtknpkoddchphkaaW.PrintMore Go.Proofs.YtknpkoddchphkaaW.PrintLast

theorem w64 {n : Int} (h0 : 0 ≤ n) (h1 : n < 9223372036854775808) : wrap64 n = n := by unfold wrap64; omega
theorem drop_next {α : Type} {l : List α} {i : Int} {e : α} {t : List α} (h0 : 0 ≤ i) (h : l.drop i.toNat = e :: t) : l.drop (i + 1).toNat = t := by
  have e1 : (i + 1).toNat = i.toNat + 1 := by omega
  rw [e1, ← List.drop_drop, h]; rfl
theorem drop_len {α : Type} {l : List α} {i : Int} {t : List α} (h0 : 0 ≤ i) (hi : i ≤ l.length) (h : l.drop i.toNat = t) : (l.length : Int) = i + t.length := by
  rw [← h, List.length_drop]; omega
theorem getD_at {α : Type} {d : α} {l : List α} {i : Int} {e : α} {t : List α} (h : l.drop i.toNat = e :: t) : l.getD i.toNat d = e := by
  have : (l.drop i.toNat)[0]? = some e := by rw [h]; rfl
  rw [List.getElem?_drop] at this
  simp [List.getD_eq_getElem?_getD] at this ⊢
  rw [this]; rfl
/-! the dice: seeds are bytes, what is picked lies in the range, the place stays in the list -/
def Seeds (l : List Int) : Prop := l.length ≤ 300 ∧ ∀ x ∈ l, 0 ≤ x ∧ x ≤ 255
theorem new_ok {l : List Int} (h : ∀ x ∈ l, (Lit.int .u8 x).wf = true) : ∃ s, storagebarterplay_New.f l = some (s, 0) ∧ Seeds s := by
  have h' : ∀ x ∈ l, 0 ≤ x ∧ x ≤ 255 := fun x hx => by
    have := h x hx
    simp [Lit.wf, IntKind.min, IntKind.max, IntKind.signed, IntKind.bits] at this; omega
  unfold storagebarterplay_New.f
  by_cases q : (l.length : Int) > 300
  · rw [if_pos q, if_pos (by omega)]
    exact ⟨_, rfl, by rw [List.length_take]; omega, fun x hx => h' x (List.mem_of_mem_take hx)⟩
  · rw [if_neg q]
    exact ⟨_, rfl, by omega, h'⟩
theorem pick_ok {l : List Int} {p n : Int} (hs : Seeds l) (h0 : 0 ≤ p) (h1 : p ≤ l.length) (hn : 1 ≤ n) : ∃ r q, storagebarterplay_Dice_Pick.f l p n = some (r, q) ∧ 0 ≤ r ∧ r < n ∧ 0 ≤ q ∧ q ≤ l.length := by
  have hl := hs.1
  unfold storagebarterplay_Dice_Pick.f
  by_cases hp : p ≥ (l.length : Int)
  · rw [if_pos hp]; exact ⟨_, _, rfl, by omega, by omega, h0, h1⟩
  · rw [if_neg hp, w64 (n := p + 1) (by omega) (by omega), show p + 1 - 1 = p by omega, w64 (n := p) (by omega) (by omega), if_pos h0, if_pos (by omega), if_neg (by omega)]
    have hm : rd l p ∈ l := by
      have hi : p.toNat < l.length := by omega
      unfold rd
      rw [List.getD_eq_getElem?_getD, List.getElem?_eq_getElem hi]
      exact List.getElem_mem hi
    have hb := hs.2 _ hm
    rw [w64 (n := rd l p) (by omega) (by omega)]
    exact ⟨_, _, rfl, Int.tmod_nonneg _ hb.1, Int.tmod_lt_of_pos _ (by omega), by omega, by omega⟩

def small (l : List S32) : Prop := ∀ x ∈ l, 0 ≤ x.f3 ∧ x.f3 ≤ 100
def sum3 : List S32 → Int
  | [] => 0
  | x :: t => x.f3 + sum3 t
theorem sum3_append : ∀ l m : List S32, sum3 (l ++ m) = sum3 l + sum3 m
  | [], m => by simp [sum3]
  | x :: t, m => by simp only [sum3, List.cons_append, sum3_append t m]; omega
theorem sum3_bound : ∀ {l : List S32}, small l → 0 ≤ sum3 l ∧ sum3 l ≤ 100 * l.length
  | [], _ => by simp [sum3]
  | x :: t, h => by
    have h1 := h x (List.mem_cons_self ..)
    have h2 := sum3_bound (l := t) (fun y hy => h y (List.mem_cons_of_mem _ hy))
    simp only [sum3, List.length_cons]
    push_cast
    omega
theorem clone_ok {l : List S32} (h : l.length ≤ 1000) : api_Work.f l = some l := if_pos (by omega)
theorem take_next {l : List S32} {i : Int} {e : S32} {t : List S32} (h0 : 0 ≤ i) (h : l.drop i.toNat = e :: t) : l.take (i + 1).toNat = l.take i.toNat ++ [e] := by
  have hi : i.toNat < l.length := by
    rcases Nat.lt_or_ge i.toNat l.length with h2 | h2
    · exact h2
    · rw [List.drop_eq_nil_of_le h2] at h; cases h
  rw [show (i + 1).toNat = i.toNat + 1 by omega, List.take_succ_eq_append_getElem hi]
  rw [List.drop_eq_getElem_cons hi] at h
  rw [(List.cons.inj h).1]
theorem take_ok (W : List S32) (hW : W.length ≤ 100) (hs : small W) : ∀ (t : List S32) (b i : Int), 0 ≤ i → i ≤ W.length → W.drop i.toNat = t → 0 ≤ b → b ≤ 1000 → ∃ k n left, maintain_Take.l0 k W b i = some (W.take n, W.drop n, left) ∧ 0 ≤ left ∧ left + sum3 (W.take n) = b + sum3 (W.take i.toNat) ∧ (∀ x u, W.drop n = x :: u → left < x.f3)
  | [], b, i, h0, hi, hd, hb, hb2 => by
    have := drop_len h0 hi hd
    refine ⟨1, i.toNat, b, ?_, hb, rfl, fun x u h => by rw [hd] at h; cases h⟩
    rw [maintain_Take.l0, if_neg (by simp at this; omega), if_pos h0, if_pos hi, clone_ok (by rw [List.length_take]; omega)]
    simp only [Option.bind_some]
    rw [clone_ok (by rw [List.length_drop]; omega)]
    rfl
  | e :: t, b, i, h0, hi, hd, hb, hb2 => by
    have hl := drop_len h0 hi hd
    have hr : rd_T32 W i = e := getD_at hd
    rw [List.length_cons] at hl
    push_cast at hl
    have he := hs e (List.mem_of_mem_drop (hd ▸ List.mem_cons_self ..))
    by_cases q : e.f3 ≤ b
    · obtain ⟨k, n, left, h1, h2, h3, h4⟩ := take_ok W hW hs t (b - e.f3) (i + 1) (by omega) (by omega) (drop_next h0 hd) (by omega) (by omega)
      refine ⟨k + 1, n, left, ?_, h2, ?_, h4⟩
      · rw [maintain_Take.l0, if_pos (by omega), if_pos h0, hr, if_pos q, w64 (n := b - e.f3) (by omega) (by omega), w64 (n := i + 1) (by omega) (by omega), h1]
      · rw [h3, take_next h0 hd, sum3_append]; simp only [sum3]; omega
    · refine ⟨1, i.toNat, b, ?_, hb, rfl, fun x u h => by rw [hd] at h; rw [← (List.cons.inj h).1]; omega⟩
      rw [maintain_Take.l0, if_pos (by omega), if_pos h0, hr, if_neg q, if_pos hi, clone_ok (by rw [List.length_take]; omega)]
      simp only [Option.bind_some]
      rw [clone_ok (by rw [List.length_drop]; omega)]
      rfl
theorem bytes_l0 (W : List S32) (hW : W.length ≤ 100) (hs : small W) : ∀ (t : List S32) (x i : Int), 0 ≤ i → i ≤ W.length → W.drop i.toNat = t → 0 ≤ x → x + sum3 t ≤ 100000 → ∃ k, maintain_Bytes.l0 k x W W.length i = some (x + sum3 t)
  | [], x, i, h0, hi, hd, hx, hb => by
    have := drop_len h0 hi hd
    refine ⟨1, ?_⟩
    rw [maintain_Bytes.l0, if_neg (by simp at this; omega)]
    simp [sum3]
  | e :: t, x, i, h0, hi, hd, hx, hb => by
    have hl := drop_len h0 hi hd
    have hr : rd_T32 W i = e := getD_at hd
    rw [List.length_cons] at hl
    push_cast at hl
    have he := hs e (List.mem_of_mem_drop (hd ▸ List.mem_cons_self ..))
    have ht := sum3_bound (l := t) (fun y hy => hs y (List.mem_of_mem_drop (hd ▸ List.mem_cons_of_mem _ hy)))
    simp only [sum3] at hb ⊢
    obtain ⟨k, hk⟩ := bytes_l0 W hW hs t (x + e.f3) (i + 1) (by omega) (by omega) (drop_next h0 hd) (by omega) (by omega)
    refine ⟨k + 1, ?_⟩
    rw [maintain_Bytes.l0, if_pos (by omega), if_pos h0, if_pos (by omega), hr, w64 (n := x + e.f3) (by omega) (by omega), w64 (n := i + 1) (by omega) (by omega), hk, Int.add_assoc]
theorem bytes_ok (W : List S32) (hW : W.length ≤ 100) (hs : small W) : ∃ k, maintain_Bytes.f k W = some (sum3 W) := by
  have := sum3_bound hs
  obtain ⟨k, hk⟩ := bytes_l0 W hW hs W 0 0 (Int.le_refl _) (by omega) rfl (Int.le_refl _) (by omega)
  exact ⟨k, by unfold maintain_Bytes.f; rw [hk, Int.zero_add]⟩
theorem same_l0 (W : List S32) (hW : W.length ≤ 100) : ∀ (t : List S32) (i : Int), 0 ≤ i → i ≤ W.length → W.drop i.toNat = t → ∃ k, storagebarterref40_Same.l0 k W W i = some true
  | [], i, h0, hi, hd => by
    have := drop_len h0 hi hd
    exact ⟨1, by rw [storagebarterref40_Same.l0, if_neg (by simp at this; omega)]⟩
  | e :: t, i, h0, hi, hd => by
    have hl := drop_len h0 hi hd
    rw [List.length_cons] at hl
    push_cast at hl
    obtain ⟨k, hk⟩ := same_l0 W hW t (i + 1) (by omega) (by omega) (drop_next h0 hd)
    refine ⟨k + 1, ?_⟩
    rw [storagebarterref40_Same.l0, if_pos (by omega), if_pos h0, if_pos (by omega), if_neg (by simp), w64 (n := i + 1) (by omega) (by omega), hk]
theorem sane_ok (k : Nat) (hk : 100 ≤ k) : storagebarterlaw40_sane.f k = some true :=
  at_rounds storagebarterlaw40_sane.mono hk (show storagebarterlaw40_sane.f 100 = some true by kernel_rfl)
theorem end_ok (b : Int) (h0 : 0 ≤ b) (h1 : b ≤ 65535) (l : List Int) (hs : Seeds l) : ∀ (m : Nat) (W : List S32) (p : Int), 0 ≤ p → p ≤ l.length → small W → W.length + m ≤ 100 → ∃ k, storagebarterlaw40_MaintainBounds.l0 k b W m l p = some true
  | 0, W, p, hp0, hp1, hw, hl => by
    have tm : 0 ≤ b.tmod 200 ∧ b.tmod 200 < 200 := ⟨Int.tmod_nonneg _ h0, Int.tmod_lt_of_pos _ (by omega)⟩
    obtain ⟨k1, n, left, e1, a1, a2, a3⟩ := take_ok W (by omega) hw W (b.tmod 200) 0 (Int.le_refl _) (by omega) rfl tm.1 (by omega)
    have hw1 : small (W.take n) := fun x hx => hw x (List.mem_of_mem_take hx)
    obtain ⟨k2, e2⟩ := bytes_ok (W.take n) (by rw [List.length_take]; omega) hw1
    obtain ⟨k3, e3⟩ := same_l0 W (by omega) W 0 (Int.le_refl _) (by omega) rfl
    have e3 : storagebarterref40_Same.f k3 W W = some true := by unfold storagebarterref40_Same.f; rw [if_pos rfl, e3]
    have hb := sum3_bound hw1
    have a2 : left + sum3 (W.take n) = b.tmod 200 := by rw [a2]; simp [sum3]
    refine ⟨k1 + k2 + k3 + 1, ?_⟩
    rw [storagebarterlaw40_MaintainBounds.l0, if_neg (by omega), w64 (n := b) h0 (by omega)]
    have e1' : maintain_Take.f (k1 + k2 + k3) W (b.tmod 200) = some (W.take n, W.drop n, left) := at_rounds (maintain_Take.mono _ _) (show k1 ≤ k1 + k2 + k3 by omega) (show maintain_Take.f k1 W (b.tmod 200) = _ from e1)
    rw [e1']
    simp only [Option.bind_some, List.nil_append, List.length_nil, Nat.zero_add]
    rw [if_pos (by rw [List.length_take]; omega), if_pos (by rw [List.length_take, List.length_drop]; omega), List.take_append_drop, at_rounds (storagebarterref40_Same.mono _ _) (show k3 ≤ k1 + k2 + k3 by omega) e3]
    simp only [Option.bind_some, if_true]
    rw [at_rounds (maintain_Bytes.mono _) (show k2 ≤ k1 + k2 + k3 by omega) e2]
    simp only [Option.bind_some]
    rw [w64 (n := sum3 (W.take n) + left) (by omega) (by omega), if_pos (by omega), if_neg (by omega)]
    by_cases hz : ((W.drop n).length : Int) = 0
    · rw [if_pos hz]
    · rw [if_neg hz, if_pos (by omega)]
      cases hd : W.drop n with
      | nil => rw [hd] at hz; simp at hz
      | cons x u =>
        have := a3 x u hd
        rw [show rd_T32 (x :: u) 0 = x from rfl, decide_eq_true (by omega)]
  | m + 1, W, p, hp0, hp1, hw, hl => by
    obtain ⟨r, q, e, r0, r1, q0, q1⟩ := pick_ok hs hp0 hp1 (n := 40) (by omega)
    have hw' : small (W ++ [(⟨((m + 1 : Nat) : Int), 0, 0, r, (⟨0, 0, 0, 0⟩ : S30)⟩ : S32)]) := fun x hx => by
      rcases List.mem_append.mp hx with h | h
      · exact hw x h
      · rw [List.mem_singleton] at h; subst h; show 0 ≤ r ∧ r ≤ 100; omega
    obtain ⟨k, hk⟩ := end_ok b h0 h1 l hs m _ q q0 q1 hw' (by simp; omega)
    refine ⟨k + 1, ?_⟩
    rw [storagebarterlaw40_MaintainBounds.l0, if_pos (by omega), e]
    simp only [Option.bind_some]
    rw [if_pos (by omega), w64 (n := ((m + 1 : Nat) : Int) - 1) (by omega) (by omega), show ((m + 1 : Nat) : Int) - 1 = m by omega, hk]
theorem MaintainBounds : storagebarterlaw40_MaintainBounds.Pure := by
  intro l a1 _ _ hl w1
  have w1 : (0 : Int) ≤ a1 ∧ a1 ≤ 65535 := by simp [Lit.wf, IntKind.min, IntKind.max, IntKind.signed, IntKind.bits] at w1; omega
  obtain ⟨s, es, hs⟩ := new_ok hl
  obtain ⟨r, q, e, r0, r1, q0, q1⟩ := pick_ok hs (Int.le_refl 0) (by omega) (n := 9) (by omega)
  obtain ⟨k, hk⟩ := end_ok a1 w1.1 w1.2 s hs r.toNat [] q q0 q1 (fun x hx => by cases hx) (by simp; omega)
  rw [Int.toNat_of_nonneg r0] at hk
  refine ⟨100 + k, ?_⟩
  unfold storagebarterlaw40_MaintainBounds.f
  rw [sane_ok _ (by omega)]
  simp only [Option.bind_some, if_true]
  rw [es]
  simp only [Option.bind_some]
  rw [e]
  simp only [Option.bind_some]
  exact at_rounds (g := fun k => storagebarterlaw40_MaintainBounds.l0 k a1 [] r s q) (fun k => storagebarterlaw40_MaintainBounds.mono_l k _ _ _ _ _) (show k ≤ 100 + k by omega) hk

end Go.Proofs.Ytknpkoddchphkaa.Pure
