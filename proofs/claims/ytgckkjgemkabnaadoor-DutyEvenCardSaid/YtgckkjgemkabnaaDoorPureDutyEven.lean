/- The law DutyEven answers true for every input: what its printed functions compute, in plain Lean. -/
import Derived.Test.YtgckkjgemkabnaaDoorPDutyEvenx5
set_option linter.unusedVariables false
set_option linter.unusedSimpArgs false
set_option maxRecDepth 100000
namespace Go.Proofs.YtgckkjgemkabnaaDoor.Pure
open Go.RowKit Go.Proofs.YtgckkjgemkabnaaDoor.PDutyEven Go.Proofs.YtgckkjgemkabnaaDoorW.PrintWords Go.Proofs.YtgckkjgemkabnaaDoorW.PrintMore Go.Proofs.YtgckkjgemkabnaaDoorW.PrintLast

theorem w64 {n : Int} (h0 : 0 ≤ n) (h1 : n < 9223372036854775808) : wrap64 n = n := by unfold wrap64; omega
theorem drop_next {α : Type} {l : List α} {i : Int} {e : α} {t : List α} (h0 : 0 ≤ i) (h : l.drop i.toNat = e :: t) : l.drop (i + 1).toNat = t := by
  have e1 : (i + 1).toNat = i.toNat + 1 := by omega
  rw [e1, ← List.drop_drop, h]; rfl
theorem drop_len {α : Type} {l : List α} {i : Int} {t : List α} (h0 : 0 ≤ i) (hi : i ≤ l.length) (h : l.drop i.toNat = t) : (l.length : Int) = i + t.length := by
  rw [← h, List.length_drop]; omega
theorem getD_at {α : Type} {d : α} {l : List α} {i : Int} {e : α} {t : List α} (h : l.drop i.toNat = e :: t) : l.getD i.toNat d = e := by
  have : (l.drop i.toNat)[0]? = some e := by rw [h]; rfl
  rw [List.getElem?_drop] at this
  simp [List.getD_eq_getElem?_getD] at this ⊢
  rw [this]; rfl
/-! the dice: seeds are bytes, what is picked lies in the range, the place stays in the list -/
def Seeds (l : List Int) : Prop := l.length ≤ 300 ∧ ∀ x ∈ l, 0 ≤ x ∧ x ≤ 255
theorem new_ok {l : List Int} (h : ∀ x ∈ l, (Lit.int .u8 x).wf = true) : ∃ s, storagebarterplay_New.f l = some (s, 0) ∧ Seeds s := by
  have h' : ∀ x ∈ l, 0 ≤ x ∧ x ≤ 255 := fun x hx => by
    have := h x hx
    simp [Lit.wf, IntKind.min, IntKind.max, IntKind.signed, IntKind.bits] at this; omega
  unfold storagebarterplay_New.f
  by_cases q : (l.length : Int) > 300
  · rw [if_pos q, if_pos (by omega)]
    exact ⟨_, rfl, by rw [List.length_take]; omega, fun x hx => h' x (List.mem_of_mem_take hx)⟩
  · rw [if_neg q]
    exact ⟨_, rfl, by omega, h'⟩
theorem pick_ok {l : List Int} {p n : Int} (hs : Seeds l) (h0 : 0 ≤ p) (h1 : p ≤ l.length) (hn : 1 ≤ n) : ∃ r q, storagebarterplay_Dice_Pick.f l p n = some (r, q) ∧ 0 ≤ r ∧ r < n ∧ 0 ≤ q ∧ q ≤ l.length := by
  have hl := hs.1
  unfold storagebarterplay_Dice_Pick.f
  by_cases hp : p ≥ (l.length : Int)
  · rw [if_pos hp]; exact ⟨_, _, rfl, by omega, by omega, h0, h1⟩
  · rw [if_neg hp, w64 (n := p + 1) (by omega) (by omega), show p + 1 - 1 = p by omega, w64 (n := p) (by omega) (by omega), if_pos h0, if_pos (by omega), if_neg (by omega)]
    have hm : rd l p ∈ l := by
      have hi : p.toNat < l.length := by omega
      unfold rd
      rw [List.getD_eq_getElem?_getD, List.getElem?_eq_getElem hi]
      exact List.getElem_mem hi
    have hb := hs.2 _ hm
    rw [w64 (n := rd l p) (by omega) (by omega)]
    exact ⟨_, _, rfl, Int.tmod_nonneg _ hb.1, Int.tmod_lt_of_pos _ (by omega), by omega, by omega⟩

/-! arrangements: what the dice make is valid -/
def checksOK (st te : Int) (cs : List Int) : Prop := (∀ x ∈ cs, st < x ∧ x ≤ st + te) ∧ cs.Pairwise (· < ·)
theorem arr_l0 {l : List Int} (hs : Seeds l) (a b st te : Int) (h1 : 0 ≤ st) (h2 : st ≤ 100) (h3 : te ≤ 100) : ∀ (n : Nat) (t p : Int) (cs : List Int), t + n = st + te + 1 → st < t → 0 ≤ p → p ≤ l.length → (∀ x ∈ cs, st < x ∧ x < t) → cs.Pairwise (· < ·) → cs.length + n ≤ 1000 → ∃ k cs' q, storagebarterplay_Dice_Arrangement.l0 k t l p a b st te cs = some (a, b, st, te, cs', q) ∧ checksOK st te cs' ∧ cs'.length ≤ 1000 ∧ 0 ≤ q ∧ q ≤ l.length
  | 0, t, p, cs, ht, hst, hp0, hp1, hc, hw, hn => by
    refine ⟨1, cs, p, ?_, ⟨fun x hx => by have := hc x hx; omega, hw⟩, by omega, hp0, hp1⟩
    rw [storagebarterplay_Dice_Arrangement.l0, w64 (n := st + te) (by omega) (by omega), if_neg (by omega)]
  | n + 1, t, p, cs, ht, hst, hp0, hp1, hc, hw, hn => by
    push_cast at ht
    obtain ⟨r, q, e, r0, r1, q0, q1⟩ := pick_ok hs hp0 hp1 (n := 3) (by omega)
    by_cases hz : r = 0
    · obtain ⟨k, cs', q', hk, hk2, hk3, hk4, hk5⟩ := arr_l0 hs a b st te h1 h2 h3 n (t + 1) q (cs ++ [t]) (by omega) (by omega) q0 q1 (fun x hx => by
        rcases List.mem_append.mp hx with h | h
        · have := hc x h; omega
        · rw [List.mem_singleton] at h; omega) (List.pairwise_append.mpr ⟨hw, List.pairwise_singleton _ _, fun x hx y hy => by rw [List.mem_singleton] at hy; have := hc x hx; omega⟩) (by simp; omega)
      refine ⟨k + 1, cs', q', ?_, hk2, hk3, hk4, hk5⟩
      rw [storagebarterplay_Dice_Arrangement.l0, w64 (n := st + te) (by omega) (by omega), if_pos (by omega), e]
      simp only [Option.bind_some]
      rw [if_pos hz, if_pos (by omega), w64 (n := t + 1) (by omega) (by omega), hk]
    · obtain ⟨k, cs', q', hk, hk2, hk3, hk4, hk5⟩ := arr_l0 hs a b st te h1 h2 h3 n (t + 1) q cs (by omega) (by omega) q0 q1 (fun x hx => by have := hc x hx; omega) hw (by omega)
      refine ⟨k + 1, cs', q', ?_, hk2, hk3, hk4, hk5⟩
      rw [storagebarterplay_Dice_Arrangement.l0, w64 (n := st + te) (by omega) (by omega), if_pos (by omega), e]
      simp only [Option.bind_some]
      rw [if_neg hz, w64 (n := t + 1) (by omega) (by omega), hk]
theorem arr_ok {l : List Int} (hs : Seeds l) {p n : Int} (hp0 : 0 ≤ p) (hp1 : p ≤ l.length) (hn : 2 ≤ n) (hn2 : n ≤ 16) : ∃ k a b st te cs q, storagebarterplay_Dice_Arrangement.f k l p n = some (a, b, st, te, cs, q) ∧ 1 ≤ a ∧ a ≤ n ∧ 1 ≤ b ∧ b ≤ n ∧ a ≠ b ∧ 0 ≤ st ∧ st ≤ 2 ∧ 1 ≤ te ∧ te ≤ 3 ∧ checksOK st te cs ∧ cs.length ≤ 1000 ∧ 0 ≤ q ∧ q ≤ l.length := by
  obtain ⟨r1, q1, e1, a1, b1, m1, n1⟩ := pick_ok hs hp0 hp1 (n := n) (by omega)
  obtain ⟨r2, q2, e2, a2, b2, m2, n2⟩ := pick_ok hs m1 n1 (n := 3) (by omega)
  obtain ⟨r3, q3, e3, a3, b3, m3, n3⟩ := pick_ok hs m2 n2 (n := 3) (by omega)
  obtain ⟨r4, q4, e4, a4, b4, m4, n4⟩ := pick_ok hs m3 n3 (n := n - 1) (by omega)
  have hsec : ∃ s, (1 + r1 + r4).tmod n = s ∧ 0 ≤ s ∧ s < n ∧ s ≠ r1 := by
    refine ⟨_, rfl, Int.tmod_nonneg _ (by omega), Int.tmod_lt_of_pos _ (by omega), ?_⟩
    rw [Int.tmod_eq_emod_of_nonneg (by omega)]
    rcases Int.lt_or_le (1 + r1 + r4) n with h | h
    · rw [Int.emod_eq_of_lt (by omega) h]; omega
    · rw [show (1 + r1 + r4) % n = 1 + r1 + r4 - n from by rw [← Int.sub_emod_right, Int.emod_eq_of_lt (by omega) (by omega)]]; omega
  obtain ⟨s, hs', s0, s1, s2⟩ := hsec
  obtain ⟨k, cs, q, hk, hk2, hk3, hk4, hk5⟩ := arr_l0 hs (1 + r1) (1 + s) r2 (1 + r3) a2 (by omega) (by omega) (1 + r3).toNat (r2 + 1) q4 [] (by omega) (by omega) m4 n4 (fun x hx => by cases hx) List.Pairwise.nil (by simp; omega)
  refine ⟨k, 1 + r1, 1 + s, r2, 1 + r3, cs, q, ?_, by omega, by omega, by omega, by omega, by omega, by omega, by omega, by omega, by omega, hk2, hk3, hk4, hk5⟩
  unfold storagebarterplay_Dice_Arrangement.f
  rw [e1]
  simp only [Option.bind_some]
  rw [e2]
  simp only [Option.bind_some]
  rw [e3]
  simp only [Option.bind_some]
  rw [w64 (n := n - 1) (by omega) (by omega), e4]
  simp only [Option.bind_some]
  rw [if_neg (by omega), w64 (n := r2 + 1) (by omega) (by omega), w64 (n := 1 + r1) (by omega) (by omega), w64 (n := 1 + r1 + r4) (by omega) (by omega), hs', w64 (n := 1 + s) (by omega) (by omega), w64 (n := 1 + r3) (by omega) (by omega), hk]
theorem valid_l0 (a b st te : Int) (cs : List Int) (hl : cs.length ≤ 1000) (h0 : 0 ≤ st) (h1 : st + te ≤ 1000) (ht : 0 ≤ te) : ∀ (t : List Int) (last i : Int), 0 ≤ i → i ≤ cs.length → cs.drop i.toNat = t → (∀ x ∈ t, last < x ∧ x ≤ st + te) → t.Pairwise (· < ·) → ∃ k, duty_Valid.l0 k last cs cs.length i a b st te cs = some true
  | [], last, i, hi0, hi, hd, hb, hw => by
    have := drop_len hi0 hi hd
    exact ⟨1, by rw [duty_Valid.l0, if_neg (by simp at this; omega)]⟩
  | e :: t, last, i, hi0, hi, hd, hb, hw => by
    have hl2 := drop_len hi0 hi hd
    have hr : rd cs i = e := getD_at hd
    rw [List.length_cons] at hl2
    push_cast at hl2
    have he := hb e (List.mem_cons_self ..)
    have hw' := List.pairwise_cons.mp hw
    obtain ⟨k, hk⟩ := valid_l0 a b st te cs hl h0 h1 ht t e (i + 1) (by omega) (by omega) (drop_next hi0 hd) (fun x hx => ⟨hw'.1 x hx, (hb x (List.mem_cons_of_mem _ hx)).2⟩) hw'.2
    refine ⟨k + 1, ?_⟩
    rw [duty_Valid.l0, if_pos (by omega), if_pos hi0, if_pos (by omega), hr, if_neg (by omega), w64 (n := st + te) (by omega) (by omega), if_neg (by omega), w64 (n := i + 1) (by omega) (by omega), hk]
theorem valid_true {a b st te : Int} {cs : List Int} (ha : 1 ≤ a ∧ a ≤ 16) (hb : 1 ≤ b ∧ b ≤ 16) (hab : a ≠ b) (h0 : 0 ≤ st) (h1 : 1 ≤ te) (h2 : te ≤ 16) (h3 : st + te ≤ 16) (hc : checksOK st te cs) (hl : cs.length ≤ 1000) : ∃ k, duty_Valid.f k a b st te cs = some true := by
  obtain ⟨k, hk⟩ := valid_l0 a b st te cs hl h0 (by omega) (by omega) cs st 0 (Int.le_refl _) (by omega) rfl hc.1 hc.2
  refine ⟨k + 1, ?_⟩
  unfold duty_Valid.f duty_person.f
  rw [if_pos (by omega), if_pos (by omega)]
  simp only [Option.bind_some]
  rw [decide_eq_true (by omega), if_pos rfl, decide_eq_true (by omega), if_pos rfl, if_neg hab, if_neg (by omega), if_neg (by omega), if_neg (by omega), w64 (n := 16 - te) (by omega) (by omega), decide_eq_false (by omega), duty_Valid.j0, if_neg (by simp), hk]
theorem plan_ok {a b st te slot : Int} {cs : List Int} {settle : Bool} (hs0 : 0 ≤ slot) (hs1 : slot < 6) (ha : 1 ≤ a ∧ a ≤ 16) (hb : 1 ≤ b ∧ b ≤ 16) (hab : a ≠ b) (h0 : 0 ≤ st) (h1 : 1 ≤ te) (h2 : te ≤ 16) (h3 : st + te ≤ 16) (hc : checksOK st te cs) (hl : cs.length ≤ 1000) : ∃ k, duty_Plan.f k a b st te cs slot settle = some (planL a b st te cs slot settle, 0) := by
  obtain ⟨k, hk⟩ := valid_true ha hb hab h0 h1 h2 h3 hc hl
  refine ⟨k, ?_⟩
  unfold duty_Plan.f
  rw [if_neg (by omega), if_neg (by omega), hk]
  rfl
/-! what duties cost -/
def totL (p : Int) : List S36 → Int
  | [] => 0
  | d :: t => (if d.f2 = p then costOf d.f3 else 0) + totL p t
theorem totL_append (p : Int) : ∀ l m : List S36, totL p (l ++ m) = totL p l + totL p m
  | [], m => by simp [totL]
  | d :: t, m => by simp only [totL, List.cons_append, totL_append p t m]; omega
theorem cost_bound (k : Int) : 0 ≤ costOf k ∧ costOf k ≤ 8 := by
  unfold costOf
  by_cases h : k < 0
  · rw [if_pos h]; omega
  · rw [if_neg h]
    by_cases h8 : 8 ≤ k
    · rw [if_pos h8]; omega
    · rw [if_neg h8]
      rcases (show k = 0 ∨ k = 1 ∨ k = 2 ∨ k = 3 ∨ k = 4 ∨ k = 5 ∨ k = 6 ∨ k = 7 by omega) with h | h | h | h | h | h | h | h <;> subst h <;> simp
theorem totL_bound (p : Int) : ∀ l : List S36, 0 ≤ totL p l ∧ totL p l ≤ 8 * l.length
  | [] => by simp [totL]
  | d :: t => by
    have h1 := totL_bound p t
    have h2 := cost_bound d.f3
    simp only [totL, List.length_cons]
    push_cast
    split <;> omega
theorem total_l0 (L : List S36) (hL : L.length ≤ 100000) (p : Int) : ∀ (t : List S36) (x i : Int), 0 ≤ i → i ≤ L.length → L.drop i.toNat = t → 0 ≤ x → x + totL p t ≤ 1000000 → ∃ k, duty_Total.l0 k p x L L.length i = some (x + totL p t)
  | [], x, i, h0, hi, hd, hx, hb => by
    have := drop_len h0 hi hd
    exact ⟨1, by rw [duty_Total.l0, if_neg (by simp at this; omega)]; simp [totL]⟩
  | e :: t, x, i, h0, hi, hd, hx, hb => by
    have hl := drop_len h0 hi hd
    have hr : rd_T36 L i = e := getD_at hd
    rw [List.length_cons] at hl
    push_cast at hl
    have hc := cost_bound e.f3
    have ht := totL_bound p t
    simp only [totL] at hb ⊢
    by_cases q : e.f2 = p
    · rw [if_pos q] at hb ⊢
      obtain ⟨k, hk⟩ := total_l0 L hL p t (x + costOf e.f3) (i + 1) (by omega) (by omega) (drop_next h0 hd) (by omega) (by omega)
      refine ⟨k + 1, ?_⟩
      rw [duty_Total.l0, if_pos (by omega), if_pos h0, if_pos (by omega), hr, if_pos q]
      simp only [duty_Cost.f, Option.bind_some]
      rw [w64 (n := x + costOf e.f3) (by omega) (by omega), w64 (n := i + 1) (by omega) (by omega), hk, Int.add_assoc]
    · rw [if_neg q] at hb ⊢
      obtain ⟨k, hk⟩ := total_l0 L hL p t x (i + 1) (by omega) (by omega) (drop_next h0 hd) (by omega) (by omega)
      refine ⟨k + 1, ?_⟩
      rw [duty_Total.l0, if_pos (by omega), if_pos h0, if_pos (by omega), hr, if_neg q, w64 (n := i + 1) (by omega) (by omega), hk, Int.zero_add]
theorem total_ok (L : List S36) (hL : L.length ≤ 10000) (p : Int) : ∃ k, duty_Total.f k L p = some (totL p L) := by
  have := totL_bound p L
  obtain ⟨k, hk⟩ := total_l0 L (by omega) p L 0 0 (Int.le_refl _) (by omega) rfl (Int.le_refl _) (by omega)
  exact ⟨k, by unfold duty_Total.f; rw [hk, Int.zero_add]⟩

theorem tot_both (p a b t s : Int) (hab : a ≠ b) : ∀ ks : List Int, totL p (bothL t s a b ks) = if p = a then (ks.map costOf).sum else if p = b then (ks.map costOf).sum else 0
  | [] => by simp [bothL, totL]
  | k :: ks => by
    have e : bothL t s a b (k :: ks) = [⟨t, s, a, k⟩, ⟨t, s, b, k⟩] ++ bothL t s a b ks := rfl
    rw [e, totL_append, tot_both p a b t s hab ks]
    simp only [totL, List.map_cons, List.sum_cons]
    by_cases h1 : p = a
    · subst h1
      rw [if_pos rfl, if_neg (fun h => hab h.symm), if_pos rfl, if_pos rfl]; omega
    · by_cases h2 : p = b
      · subst h2
        rw [if_neg (fun h => h1 h.symm), if_pos rfl, if_neg h1, if_pos rfl, if_neg h1, if_pos rfl]; omega
      · rw [if_neg (fun h => h1 h.symm), if_neg (fun h => h2 h.symm), if_neg h1, if_neg h2, if_neg h1, if_neg h2]; rfl
theorem filter_step (t : Int) : ∀ l : List Int, l.Pairwise (· < ·) → ((l.filter fun x => decide (t ≤ x)).length : Int) = (if t ∈ l then 1 else 0) + (l.filter fun x => decide (t + 1 ≤ x)).length
  | [], _ => by simp
  | x :: l, h => by
    have h' := List.pairwise_cons.mp h
    have ih := filter_step t l h'.2
    rcases Int.lt_trichotomy x t with hx | hx | hx
    · rw [List.filter_cons_of_neg (by simp; omega), List.filter_cons_of_neg (by simp; omega), ih]
      have : t ∈ x :: l ↔ t ∈ l := by simp; omega
      simp only [this]
    · subst hx
      have hn : x ∉ l := fun hm => by have := h'.1 x hm; omega
      rw [if_neg hn] at ih
      rw [List.filter_cons_of_pos (by simp), List.filter_cons_of_neg (by simp; omega), if_pos (List.mem_cons_self ..), List.length_cons]
      push_cast
      omega
    · rw [List.filter_cons_of_pos (by simp; omega), List.filter_cons_of_pos (by simp; omega), List.length_cons, List.length_cons]
      have hn : t ∉ l := fun hm => by have := h'.1 t hm; omega
      have hn2 : t ∉ x :: l := by simp; exact ⟨by omega, hn⟩
      rw [if_neg hn] at ih
      rw [if_neg hn2]
      push_cast
      omega
theorem tot_T (p a b s : Int) (hab : a ≠ b) (cs : List Int) (hw : cs.Pairwise (· < ·)) : ∀ (n : Nat) (t : Int), (∀ x ∈ cs, x < t + n) → totL p (planT s a b cs n t) = if p = a ∨ p = b then (n : Int) + (cs.filter fun x => decide (t ≤ x)).length else 0
  | 0, t, h => by
    have : cs.filter (fun x => decide (t ≤ x)) = [] := by
      rw [List.filter_eq_nil_iff]
      intro x hx
      have := h x hx
      simp
      simpa using this
    rw [this]
    simp [planT, totL]
  | n + 1, t, h => by
    have ih := tot_T p a b s hab cs hw n (t + 1) (fun x hx => by have := h x hx; push_cast at this; omega)
    have hf := filter_step t cs hw
    have e1 := tot_both p a b t s hab [5]
    have e2 := tot_both p a b t s hab [6]
    have c5 : ([5].map costOf).sum = 1 := by decide
    have c6 : ([6].map costOf).sum = 1 := by decide
    rw [c5] at e1
    rw [c6] at e2
    rw [planT, totL_append, totL_append, ih, e1]
    by_cases hm : t ∈ cs
    · rw [if_pos hm] at hf ⊢
      rw [e2]
      by_cases h1 : p = a
      · simp only [h1, if_true, true_or]; push_cast; omega
      · by_cases h2 : p = b
        · rw [if_neg h1, if_pos h2, if_pos (Or.inr h2), if_pos (Or.inr h2)]; push_cast; omega
        · rw [if_neg h1, if_neg h2, if_neg (by simp [h1, h2]), if_neg (by simp [h1, h2])]; rfl
    · rw [if_neg hm] at hf ⊢
      simp only [totL]
      by_cases h1 : p = a
      · simp only [h1, if_true, true_or]; push_cast; omega
      · by_cases h2 : p = b
        · rw [if_neg h1, if_pos h2, if_pos (Or.inr h2), if_pos (Or.inr h2)]; push_cast; omega
        · rw [if_neg h1, if_neg h2, if_neg (by simp [h1, h2]), if_neg (by simp [h1, h2])]; rfl
theorem tot_plan (p a b st te slot : Int) (cs : List Int) (settle : Bool) (hab : a ≠ b) (hte : 0 ≤ te) (hc : checksOK st te cs) : totL p (planL a b st te cs slot settle) = if p = a ∨ p = b then 19 + te + cs.length + (if settle = true then 8 else 0) else 0 := by
  have hT := tot_T p a b slot hab cs hc.2 te.toNat (st + 1) (fun x hx => by have := hc.1 x hx; omega)
  have hfil : cs.filter (fun x => decide (st + 1 ≤ x)) = cs := by
    rw [List.filter_eq_self]
    intro x hx
    have := hc.1 x hx
    simp; omega
  rw [hfil, Int.toNat_of_nonneg hte] at hT
  have e1 := tot_both p a b st slot hab [1, 2, 3, 4]
  have e7 := tot_both p a b (st + te + 1) slot hab [7]
  have c1 : ([1, 2, 3, 4].map costOf).sum = 19 := by decide
  have c7 : ([7].map costOf).sum = 8 := by decide
  rw [c1] at e1
  rw [c7] at e7
  unfold planL
  rw [totL_append, totL_append, hT, e1]
  by_cases h1 : p = a
  · cases settle
    · simp [h1, totL]; omega
    · rw [if_pos rfl, e7]; simp [h1]; omega
  · by_cases h2 : p = b
    · cases settle
      · simp [h1, h2, totL]; omega
      · rw [if_pos rfl, e7]; simp [h1, h2]; omega
    · cases settle
      · simp [h1, h2, totL]
      · rw [if_pos rfl, e7]; simp [h1, h2]
theorem planT_length (s p q : Int) (l : List Int) : ∀ (n : Nat) (t : Int), (planT s p q l n t).length ≤ 4 * n
  | 0, t => by simp [planT]
  | n + 1, t => by
    have := planT_length s p q l n (t + 1)
    rw [planT, List.length_append, List.length_append, bothL_length]
    by_cases h : t ∈ l
    · rw [if_pos h, bothL_length]; simp; omega
    · rw [if_neg h]; simp; omega
theorem planL_length (a b st te slot : Int) (cs : List Int) (settle : Bool) (h : te ≤ 16) : (planL a b st te cs slot settle).length ≤ 100 := by
  have := planT_length slot a b cs te.toNat (st + 1)
  unfold planL
  rw [List.length_append, List.length_append, bothL_length]
  cases settle
  · simp; omega
  · rw [if_pos rfl, bothL_length]; simp; omega
theorem sane_ok (k : Nat) (hk : 100 ≤ k) : storagebarterlaw28_sane.f k = some true :=
  at_rounds storagebarterlaw28_sane.mono hk (show storagebarterlaw28_sane.f 100 = some true by kernel_rfl)

/-! a plan as pairs of duties -/
def pairL (s a b : Int) (ds : List (Int × Int)) : List S36 := ds.flatMap fun d => [(⟨d.1, s, a, d.2⟩ : S36), (⟨d.1, s, b, d.2⟩ : S36)]
theorem pairL_cons (s a b : Int) (d : Int × Int) (ds : List (Int × Int)) : pairL s a b (d :: ds) = (⟨d.1, s, a, d.2⟩ : S36) :: (⟨d.1, s, b, d.2⟩ : S36) :: pairL s a b ds := rfl
theorem pairL_append (s a b : Int) (d e : List (Int × Int)) : pairL s a b (d ++ e) = pairL s a b d ++ pairL s a b e := by simp [pairL]
theorem pairL_length (s a b : Int) : ∀ ds : List (Int × Int), (pairL s a b ds).length = 2 * ds.length
  | [] => rfl
  | d :: ds => by rw [pairL_cons, List.length_cons, List.length_cons, pairL_length s a b ds, List.length_cons]; omega
theorem pairL_drop (s a b : Int) : ∀ (j : Nat) (ds : List (Int × Int)), (pairL s a b ds).drop (2 * j) = pairL s a b (ds.drop j)
  | 0, ds => rfl
  | j + 1, [] => by simp [pairL]
  | j + 1, d :: ds => by rw [pairL_cons, show 2 * (j + 1) = 2 * j + 1 + 1 by omega, List.drop_succ_cons, List.drop_succ_cons, List.drop_succ_cons, pairL_drop s a b j ds]
theorem bothL_pair (t s a b : Int) : ∀ ks : List Int, bothL t s a b ks = pairL s a b (ks.map fun k => (t, k))
  | [] => rfl
  | k :: ks => by
    have e : bothL t s a b (k :: ks) = (⟨t, s, a, k⟩ : S36) :: (⟨t, s, b, k⟩ : S36) :: bothL t s a b ks := rfl
    rw [e, bothL_pair t s a b ks, List.map_cons, pairL_cons]
def dsT (cs : List Int) : Nat → Int → List (Int × Int)
  | 0, _ => []
  | n + 1, t => (t, 5) :: ((if t ∈ cs then [(t, 6)] else []) ++ dsT cs n (t + 1))
def dsL (st te : Int) (cs : List Int) (settle : Bool) : List (Int × Int) := (st, 1) :: (st, 2) :: (st, 3) :: (st, 4) :: (dsT cs te.toNat (st + 1) ++ (if settle = true then [(st + te + 1, 7)] else []))
theorem planT_pair (s a b : Int) (cs : List Int) : ∀ (n : Nat) (t : Int), planT s a b cs n t = pairL s a b (dsT cs n t)
  | 0, t => rfl
  | n + 1, t => by
    rw [planT, dsT, pairL_cons, pairL_append, planT_pair s a b cs n (t + 1), bothL_pair]
    by_cases h : t ∈ cs
    · rw [if_pos h, if_pos h, bothL_pair]; rfl
    · rw [if_neg h, if_neg h]; rfl
theorem planL_pair (a b st te s : Int) (cs : List Int) (settle : Bool) : planL a b st te cs s settle = pairL s a b (dsL st te cs settle) := by
  unfold planL dsL
  rw [bothL_pair, planT_pair, pairL_cons, pairL_cons, pairL_cons, pairL_cons, pairL_append]
  cases settle
  · rfl
  · rw [if_pos rfl, if_pos rfl, bothL_pair]; simp [pairL]
theorem dsT_mem (cs : List Int) : ∀ (n : Nat) (t : Int), ∀ d ∈ dsT cs n t, t ≤ d.1 ∧ d.1 < t + n
  | 0, t, d, hd => by cases hd
  | n + 1, t, d, hd => by
    rw [dsT] at hd
    push_cast
    rcases List.mem_cons.mp hd with rfl | hd
    · exact ⟨Int.le_refl _, by show t < _; omega⟩
    · rcases List.mem_append.mp hd with hd | hd
      · split at hd
        · rw [List.mem_singleton] at hd; subst hd; exact ⟨Int.le_refl _, by show t < _; omega⟩
        · cases hd
      · have := dsT_mem cs n (t + 1) d hd; omega
theorem dsT_sorted (cs : List Int) : ∀ (n : Nat) (t : Int), (dsT cs n t).Pairwise fun x y => x.1 ≤ y.1
  | 0, t => List.Pairwise.nil
  | n + 1, t => by
    have hm := dsT_mem cs n (t + 1)
    have ih := dsT_sorted cs n (t + 1)
    rw [dsT]
    refine List.pairwise_cons.mpr ⟨fun y hy => ?_, List.pairwise_append.mpr ⟨by split <;> simp, ih, fun x hx y hy => ?_⟩⟩
    · rcases List.mem_append.mp hy with hy | hy
      · split at hy
        · rw [List.mem_singleton] at hy; subst hy; exact Int.le_refl _
        · cases hy
      · have := hm y hy; show t ≤ y.1; omega
    · have := hm y hy
      split at hx
      · rw [List.mem_singleton] at hx; subst hx; show t ≤ y.1; omega
      · cases hx
theorem dsT_length (cs : List Int) (hw : cs.Pairwise (· < ·)) : ∀ (n : Nat) (t : Int), (∀ x ∈ cs, x < t + n) → ((dsT cs n t).length : Int) = n + (cs.filter fun x => decide (t ≤ x)).length
  | 0, t, h => by
    have : cs.filter (fun x => decide (t ≤ x)) = [] := by
      rw [List.filter_eq_nil_iff]
      intro x hx
      have := h x hx
      simp
      simpa using this
    rw [this]; rfl
  | n + 1, t, h => by
    have ih := dsT_length cs hw n (t + 1) (fun x hx => by have := h x hx; push_cast at this; omega)
    rw [dsT, List.length_cons, List.length_append, filter_step t cs hw]
    push_cast
    rw [ih]
    by_cases hm : t ∈ cs
    · rw [if_pos hm, if_pos hm]; simp; omega
    · rw [if_neg hm, if_neg hm]; simp; omega
theorem dsL_sorted (st te : Int) (cs : List Int) (settle : Bool) (h : 0 ≤ te) : (dsL st te cs settle).Pairwise fun x y => x.1 ≤ y.1 := by
  have hm := dsT_mem cs te.toNat (st + 1)
  have hq : ∀ y ∈ dsT cs te.toNat (st + 1) ++ (if settle = true then [(st + te + 1, (7 : Int))] else []), st ≤ y.1 := fun y hy => by
    rcases List.mem_append.mp hy with hy | hy
    · have := hm y hy; omega
    · split at hy
      · rw [List.mem_singleton] at hy; subst hy; show st ≤ st + te + 1; omega
      · cases hy
  have hp : (dsT cs te.toNat (st + 1) ++ (if settle = true then [(st + te + 1, (7 : Int))] else [])).Pairwise fun x y => x.1 ≤ y.1 := by
    refine List.pairwise_append.mpr ⟨dsT_sorted cs _ _, by split <;> simp, fun x hx y hy => ?_⟩
    have := hm x hx
    split at hy
    · rw [List.mem_singleton] at hy; subst hy; show x.1 ≤ st + te + 1; omega
    · cases hy
  unfold dsL
  refine List.pairwise_cons.mpr ⟨fun y hy => ?_, List.pairwise_cons.mpr ⟨fun y hy => ?_, List.pairwise_cons.mpr ⟨fun y hy => ?_, List.pairwise_cons.mpr ⟨fun y hy => hq y hy, hp⟩⟩⟩⟩
  · simp only [List.mem_cons] at hy
    rcases hy with rfl | rfl | rfl | hy
    · exact Int.le_refl _
    · exact Int.le_refl _
    · exact Int.le_refl _
    · exact hq y hy
  · simp only [List.mem_cons] at hy
    rcases hy with rfl | rfl | hy
    · exact Int.le_refl _
    · exact Int.le_refl _
    · exact hq y hy
  · simp only [List.mem_cons] at hy
    rcases hy with rfl | hy
    · exact Int.le_refl _
    · exact hq y hy
theorem dsL_length (st te : Int) (cs : List Int) (settle : Bool) (h : 0 ≤ te) (hc : checksOK st te cs) : ((dsL st te cs settle).length : Int) = 4 + te + cs.length + (if settle = true then 1 else 0) := by
  have h1 := dsT_length cs hc.2 te.toNat (st + 1) (fun x hx => by have := hc.1 x hx; omega)
  have hfil : cs.filter (fun x => decide (st + 1 ≤ x)) = cs := by
    rw [List.filter_eq_self]
    intro x hx
    have := hc.1 x hx
    simp; omega
  rw [hfil, Int.toNat_of_nonneg h] at h1
  unfold dsL
  simp only [List.length_cons, List.length_append]
  push_cast
  rw [h1]
  cases settle <;> simp <;> omega

theorem bind_eq {α β : Type} {o : Option α} {x : α} {f : α → Option β} {r : Option β} (h : o = some x) (h2 : f x = r) : o.bind f = r := by subst h; exact h2
theorem if_eq {α : Type} {c : Prop} [Decidable c] {x y r : α} (h : c) (h2 : x = r) : (if c then x else y) = r := by rw [if_pos h]; exact h2
theorem if_ne {α : Type} {c : Prop} [Decidable c] {x y r : α} (h : ¬ c) (h2 : y = r) : (if c then x else y) = r := by rw [if_neg h]; exact h2
theorem even_l0 (settle : Bool) (a b st te : Int) (cs : List Int) (ds : List (Int × Int)) (L : List S36) (hL : L = pairL 2 a b ds) (hlen : ds.length ≤ 1000) (hs : ds.Pairwise fun x y => x.1 ≤ y.1)
    (hF : (if settle = true then (some ((L.length : Int) == (wrap64 ((wrap64 ((wrap64 (8 + (wrap64 (2 * te)))) + (wrap64 (2 * (cs.length : Int))))) + 2)))) else (some ((L.length : Int) == (wrap64 ((wrap64 (8 + (wrap64 (2 * te)))) + (wrap64 (2 * (cs.length : Int)))))))) = some true) :
    ∀ (t : List (Int × Int)) (j : Nat), ds.drop j = t → j ≤ ds.length → ∃ k, storagebarterlaw28_DutyEven.l0 k settle L (2 * (j : Int)) a b st te cs = some true
  | [], j, hd, hj => by
    have h1 : ds.length = j := by have := congrArg List.length hd; rw [List.length_drop] at this; simp at this; omega
    have h2 : L.length = 2 * ds.length := by rw [hL, pairL_length]
    refine ⟨1, ?_⟩
    rw [storagebarterlaw28_DutyEven.l0, if_neg (by omega)]
    exact hF
  | e :: t, j, hd, hj => by
    have h1 : ds.length = j + (t.length + 1) := by have := congrArg List.length hd; rw [List.length_drop] at this; simp at this; omega
    have h2 : L.length = 2 * ds.length := by rw [hL, pairL_length]
    have hdn : ds.drop (j + 1) = t := by rw [← List.drop_drop, hd]; rfl
    obtain ⟨k, hk⟩ := even_l0 settle a b st te cs ds L hL hlen hs hF t (j + 1) hdn (by omega)
    have hx : L.drop (2 * (j : Int)).toNat = (⟨e.1, 2, a, e.2⟩ : S36) :: (⟨e.1, 2, b, e.2⟩ : S36) :: pairL 2 a b t := by
      rw [hL, show (2 * (j : Int)).toNat = 2 * j by omega, pairL_drop, hd, pairL_cons]
    have hy := drop_next (by omega) hx
    have rx : rd_T36 L (2 * (j : Int)) = (⟨e.1, 2, a, e.2⟩ : S36) := getD_at hx
    have ry : rd_T36 L (2 * (j : Int) + 1) = (⟨e.1, 2, b, e.2⟩ : S36) := getD_at hy
    refine ⟨k + 1, ?_⟩
    rw [storagebarterlaw28_DutyEven.l0, if_pos (by omega), if_pos (by omega), w64 (n := 2 * (j : Int) + 1) (by omega) (by omega), if_pos (by omega), if_pos (by omega), rx, ry]
    refine if_eq rfl (if_eq rfl (if_eq rfl (if_eq rfl (if_eq rfl (if_eq rfl ?_)))))
    rw [w64 (n := 2 * (j : Int) + 2) (by omega) (by omega)]
    have hk' : storagebarterlaw28_DutyEven.l0 k settle L (2 * (j : Int) + 2) a b st te cs = some true := by
      rw [show 2 * (j : Int) + 2 = 2 * ((j + 1 : Nat) : Int) by omega]; exact hk
    cases j with
    | zero => exact if_ne (by omega) hk'
    | succ m =>
      have hm : m < ds.length := by omega
      have hd' : ds.drop m = ds[m] :: e :: t := by rw [List.drop_eq_getElem_cons hm, hd]
      have hle : ds[m].1 ≤ e.1 := by
        have hp := hs.sublist (List.drop_sublist m ds)
        rw [hd'] at hp
        exact (List.pairwise_cons.mp hp).1 e (List.mem_cons_self ..)
      have hz : L.drop (2 * ((m + 1 : Nat) : Int) - 1).toNat = (⟨ds[m].1, 2, b, ds[m].2⟩ : S36) :: pairL 2 a b (e :: t) := by
        rw [hL, show (2 * ((m + 1 : Nat) : Int) - 1).toNat = 2 * m + 1 by omega, ← List.drop_drop, pairL_drop, hd', pairL_cons]; rfl
      have rz : rd_T36 L (2 * ((m + 1 : Nat) : Int) - 1) = (⟨ds[m].1, 2, b, ds[m].2⟩ : S36) := getD_at hz
      refine if_eq (by omega) ?_
      rw [w64 (n := 2 * ((m + 1 : Nat) : Int) - 1) (by omega) (by omega), if_pos (by omega), if_pos (by omega), rz]
      exact if_ne (by show ¬ ds[m].1 > e.1; omega) hk'
theorem DutyEven : storagebarterlaw28_DutyEven.Pure := by
  intro l a1 _ _ hl
  obtain ⟨s, es, hs⟩ := new_ok hl
  obtain ⟨k1, a, b, st, te, cs, q, e, x1, x2, x3, x4, x5, x6, x7, x8, x9, hc, hcl, q0, q1⟩ := arr_ok hs (Int.le_refl 0) (by omega) (n := 4) (by omega) (by omega)
  obtain ⟨k2, e2⟩ := plan_ok (settle := a1) (slot := 2) (by omega) (by omega) (a := a) (b := b) (by omega) (by omega) x5 x6 x8 (by omega) (by omega) hc hcl
  have hlen := planL_length a b st te 2 cs a1 (by omega)
  have t1 := tot_plan a a b st te 2 cs a1 x5 (by omega) hc
  have t2 := tot_plan b a b st te 2 cs a1 x5 (by omega) hc
  rw [if_pos (Or.inl rfl)] at t1
  rw [if_pos (Or.inr rfl)] at t2
  obtain ⟨k3, e3⟩ := total_ok (planL a b st te cs 2 a1) (by omega) a
  obtain ⟨k4, e4⟩ := total_ok (planL a b st te cs 2 a1) (by omega) b
  rw [t1] at e3
  rw [t2, ← t1] at e4
  rw [← t1] at e3
  have hp := planL_pair a b st te 2 cs a1
  have hdl := dsL_length st te cs a1 (by omega) hc
  have hll := pairL_length 2 a b (dsL st te cs a1)
  rw [← hp] at hll
  have hsort := dsL_sorted st te cs a1 (by omega)
  obtain ⟨L, hL⟩ : ∃ L, L = planL a b st te cs 2 a1 := ⟨_, rfl⟩
  rw [← hL] at e2 e3 e4 hp hll hlen t1 t2
  have hF : (if a1 = true then (some ((L.length : Int) == (wrap64 ((wrap64 ((wrap64 (8 + (wrap64 (2 * te)))) + (wrap64 (2 * (cs.length : Int))))) + 2)))) else (some ((L.length : Int) == (wrap64 ((wrap64 (8 + (wrap64 (2 * te)))) + (wrap64 (2 * (cs.length : Int)))))))) = some true := by
    rw [w64 (n := 2 * te) (by omega) (by omega), w64 (n := 2 * (cs.length : Int)) (by omega) (by omega), w64 (n := 8 + 2 * te) (by omega) (by omega), w64 (n := 8 + 2 * te + 2 * (cs.length : Int)) (by omega) (by omega), w64 (n := 8 + 2 * te + 2 * (cs.length : Int) + 2) (by omega) (by omega)]
    cases a1
    · simp only [Bool.false_eq_true, if_false] at hdl ⊢
      rw [show (L.length : Int) = 8 + 2 * te + 2 * (cs.length : Int) by omega]; simp
    · simp only [if_true] at hdl ⊢
      rw [show (L.length : Int) = 8 + 2 * te + 2 * (cs.length : Int) + 2 by omega]; simp
  obtain ⟨k5, e5⟩ := even_l0 a1 a b st te cs (dsL st te cs a1) L hp (by omega) hsort hF _ 0 rfl (by omega)
  obtain ⟨K, hK⟩ : ∃ K, K = 100 + k1 + k2 + k3 + k4 + k5 := ⟨_, rfl⟩
  refine ⟨K + 1, ?_⟩
  unfold storagebarterlaw28_DutyEven.f
  refine bind_eq (sane_ok _ (by omega)) (if_eq rfl (bind_eq es (bind_eq (at_rounds (storagebarterplay_Dice_Arrangement.mono _ _ _) (by omega) e) (bind_eq (at_rounds (duty_Plan.mono _ _ _ _ _ _ _) (by omega) e2) (if_eq rfl (if_eq ?_ ?_))))))
  · show (L.length : Int) % 2 = 0
    omega
  · refine bind_eq (at_rounds (duty_Total.mono _ _) (by omega) e3) (bind_eq (at_rounds (duty_Total.mono _ _) (by omega) e4) ?_)
    rw [storagebarterlaw28_DutyEven.j0, if_neg (by simp)]
    exact at_rounds (fun k => (storagebarterlaw28_DutyEven.mono_l k).2 _ _ _ _ _ _ _ _) (by omega) e5

end Go.Proofs.YtgckkjgemkabnaaDoor.Pure
