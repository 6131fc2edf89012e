/- The law DutySteps answers true for every input: what its printed functions compute, in plain Lean. -/
import Derived.Test.YtgckkjgemkabnaaDoorPDutyStepsx9
set_option linter.unusedVariables false
set_option linter.unusedSimpArgs false
set_option maxRecDepth 100000
namespace Go.Proofs.YtgckkjgemkabnaaDoor.Pure
open Go.RowKit Go.Proofs.YtgckkjgemkabnaaDoor.PDutySteps Go.Proofs.YtgckkjgemkabnaaDoorW.PrintWords Go.Proofs.YtgckkjgemkabnaaDoorW.PrintMore Go.Proofs.YtgckkjgemkabnaaDoorW.PrintLast

theorem w64 {n : Int} (h0 : 0 ≤ n) (h1 : n < 9223372036854775808) : wrap64 n = n := by unfold wrap64; omega
theorem drop_next {α : Type} {l : List α} {i : Int} {e : α} {t : List α} (h0 : 0 ≤ i) (h : l.drop i.toNat = e :: t) : l.drop (i + 1).toNat = t := by
  have e1 : (i + 1).toNat = i.toNat + 1 := by omega
  rw [e1, ← List.drop_drop, h]; rfl
theorem drop_len {α : Type} {l : List α} {i : Int} {t : List α} (h0 : 0 ≤ i) (hi : i ≤ l.length) (h : l.drop i.toNat = t) : (l.length : Int) = i + t.length := by
  rw [← h, List.length_drop]; omega
theorem getD_at {α : Type} {d : α} {l : List α} {i : Int} {e : α} {t : List α} (h : l.drop i.toNat = e :: t) : l.getD i.toNat d = e := by
  have : (l.drop i.toNat)[0]? = some e := by rw [h]; rfl
  rw [List.getElem?_drop] at this
  simp [List.getD_eq_getElem?_getD] at this ⊢
  rw [this]; rfl
/-! the dice: seeds are bytes, what is picked lies in the range, the place stays in the list -/
def Seeds (l : List Int) : Prop := l.length ≤ 300 ∧ ∀ x ∈ l, 0 ≤ x ∧ x ≤ 255
theorem new_ok {l : List Int} (h : ∀ x ∈ l, (Lit.int .u8 x).wf = true) : ∃ s, storagebarterplay_New.f l = some (s, 0) ∧ Seeds s := by
  have h' : ∀ x ∈ l, 0 ≤ x ∧ x ≤ 255 := fun x hx => by
    have := h x hx
    simp [Lit.wf, IntKind.min, IntKind.max, IntKind.signed, IntKind.bits] at this; omega
  unfold storagebarterplay_New.f
  by_cases q : (l.length : Int) > 300
  · rw [if_pos q, if_pos (by omega)]
    exact ⟨_, rfl, by rw [List.length_take]; omega, fun x hx => h' x (List.mem_of_mem_take hx)⟩
  · rw [if_neg q]
    exact ⟨_, rfl, by omega, h'⟩
theorem pick_ok {l : List Int} {p n : Int} (hs : Seeds l) (h0 : 0 ≤ p) (h1 : p ≤ l.length) (hn : 1 ≤ n) : ∃ r q, storagebarterplay_Dice_Pick.f l p n = some (r, q) ∧ 0 ≤ r ∧ r < n ∧ 0 ≤ q ∧ q ≤ l.length := by
  have hl := hs.1
  unfold storagebarterplay_Dice_Pick.f
  by_cases hp : p ≥ (l.length : Int)
  · rw [if_pos hp]; exact ⟨_, _, rfl, by omega, by omega, h0, h1⟩
  · rw [if_neg hp, w64 (n := p + 1) (by omega) (by omega), show p + 1 - 1 = p by omega, w64 (n := p) (by omega) (by omega), if_pos h0, if_pos (by omega), if_neg (by omega)]
    have hm : rd l p ∈ l := by
      have hi : p.toNat < l.length := by omega
      unfold rd
      rw [List.getD_eq_getElem?_getD, List.getElem?_eq_getElem hi]
      exact List.getElem_mem hi
    have hb := hs.2 _ hm
    rw [w64 (n := rd l p) (by omega) (by omega)]
    exact ⟨_, _, rfl, Int.tmod_nonneg _ hb.1, Int.tmod_lt_of_pos _ (by omega), by omega, by omega⟩

/-! arrangements: what the dice make is valid -/
def checksOK (st te : Int) (cs : List Int) : Prop := (∀ x ∈ cs, st < x ∧ x ≤ st + te) ∧ cs.Pairwise (· < ·)
theorem arr_l0 {l : List Int} (hs : Seeds l) (a b st te : Int) (h1 : 0 ≤ st) (h2 : st ≤ 100) (h3 : te ≤ 100) : ∀ (n : Nat) (t p : Int) (cs : List Int), t + n = st + te + 1 → st < t → 0 ≤ p → p ≤ l.length → (∀ x ∈ cs, st < x ∧ x < t) → cs.Pairwise (· < ·) → cs.length + n ≤ 1000 → ∃ k cs' q, storagebarterplay_Dice_Arrangement.l0 k t l p a b st te cs = some (a, b, st, te, cs', q) ∧ checksOK st te cs' ∧ cs'.length ≤ 1000 ∧ 0 ≤ q ∧ q ≤ l.length
  | 0, t, p, cs, ht, hst, hp0, hp1, hc, hw, hn => by
    refine ⟨1, cs, p, ?_, ⟨fun x hx => by have := hc x hx; omega, hw⟩, by omega, hp0, hp1⟩
    rw [storagebarterplay_Dice_Arrangement.l0, w64 (n := st + te) (by omega) (by omega), if_neg (by omega)]
  | n + 1, t, p, cs, ht, hst, hp0, hp1, hc, hw, hn => by
    push_cast at ht
    obtain ⟨r, q, e, r0, r1, q0, q1⟩ := pick_ok hs hp0 hp1 (n := 3) (by omega)
    by_cases hz : r = 0
    · obtain ⟨k, cs', q', hk, hk2, hk3, hk4, hk5⟩ := arr_l0 hs a b st te h1 h2 h3 n (t + 1) q (cs ++ [t]) (by omega) (by omega) q0 q1 (fun x hx => by
        rcases List.mem_append.mp hx with h | h
        · have := hc x h; omega
        · rw [List.mem_singleton] at h; omega) (List.pairwise_append.mpr ⟨hw, List.pairwise_singleton _ _, fun x hx y hy => by rw [List.mem_singleton] at hy; have := hc x hx; omega⟩) (by simp; omega)
      refine ⟨k + 1, cs', q', ?_, hk2, hk3, hk4, hk5⟩
      rw [storagebarterplay_Dice_Arrangement.l0, w64 (n := st + te) (by omega) (by omega), if_pos (by omega), e]
      simp only [Option.bind_some]
      rw [if_pos hz, if_pos (by omega), w64 (n := t + 1) (by omega) (by omega), hk]
    · obtain ⟨k, cs', q', hk, hk2, hk3, hk4, hk5⟩ := arr_l0 hs a b st te h1 h2 h3 n (t + 1) q cs (by omega) (by omega) q0 q1 (fun x hx => by have := hc x hx; omega) hw (by omega)
      refine ⟨k + 1, cs', q', ?_, hk2, hk3, hk4, hk5⟩
      rw [storagebarterplay_Dice_Arrangement.l0, w64 (n := st + te) (by omega) (by omega), if_pos (by omega), e]
      simp only [Option.bind_some]
      rw [if_neg hz, w64 (n := t + 1) (by omega) (by omega), hk]
theorem arr_ok {l : List Int} (hs : Seeds l) {p n : Int} (hp0 : 0 ≤ p) (hp1 : p ≤ l.length) (hn : 2 ≤ n) (hn2 : n ≤ 16) : ∃ k a b st te cs q, storagebarterplay_Dice_Arrangement.f k l p n = some (a, b, st, te, cs, q) ∧ 1 ≤ a ∧ a ≤ n ∧ 1 ≤ b ∧ b ≤ n ∧ a ≠ b ∧ 0 ≤ st ∧ st ≤ 2 ∧ 1 ≤ te ∧ te ≤ 3 ∧ checksOK st te cs ∧ cs.length ≤ 1000 ∧ 0 ≤ q ∧ q ≤ l.length := by
  obtain ⟨r1, q1, e1, a1, b1, m1, n1⟩ := pick_ok hs hp0 hp1 (n := n) (by omega)
  obtain ⟨r2, q2, e2, a2, b2, m2, n2⟩ := pick_ok hs m1 n1 (n := 3) (by omega)
  obtain ⟨r3, q3, e3, a3, b3, m3, n3⟩ := pick_ok hs m2 n2 (n := 3) (by omega)
  obtain ⟨r4, q4, e4, a4, b4, m4, n4⟩ := pick_ok hs m3 n3 (n := n - 1) (by omega)
  have hsec : ∃ s, (1 + r1 + r4).tmod n = s ∧ 0 ≤ s ∧ s < n ∧ s ≠ r1 := by
    refine ⟨_, rfl, Int.tmod_nonneg _ (by omega), Int.tmod_lt_of_pos _ (by omega), ?_⟩
    rw [Int.tmod_eq_emod_of_nonneg (by omega)]
    rcases Int.lt_or_le (1 + r1 + r4) n with h | h
    · rw [Int.emod_eq_of_lt (by omega) h]; omega
    · rw [show (1 + r1 + r4) % n = 1 + r1 + r4 - n from by rw [← Int.sub_emod_right, Int.emod_eq_of_lt (by omega) (by omega)]]; omega
  obtain ⟨s, hs', s0, s1, s2⟩ := hsec
  obtain ⟨k, cs, q, hk, hk2, hk3, hk4, hk5⟩ := arr_l0 hs (1 + r1) (1 + s) r2 (1 + r3) a2 (by omega) (by omega) (1 + r3).toNat (r2 + 1) q4 [] (by omega) (by omega) m4 n4 (fun x hx => by cases hx) List.Pairwise.nil (by simp; omega)
  refine ⟨k, 1 + r1, 1 + s, r2, 1 + r3, cs, q, ?_, by omega, by omega, by omega, by omega, by omega, by omega, by omega, by omega, by omega, hk2, hk3, hk4, hk5⟩
  unfold storagebarterplay_Dice_Arrangement.f
  rw [e1]
  simp only [Option.bind_some]
  rw [e2]
  simp only [Option.bind_some]
  rw [e3]
  simp only [Option.bind_some]
  rw [w64 (n := n - 1) (by omega) (by omega), e4]
  simp only [Option.bind_some]
  rw [if_neg (by omega), w64 (n := r2 + 1) (by omega) (by omega), w64 (n := 1 + r1) (by omega) (by omega), w64 (n := 1 + r1 + r4) (by omega) (by omega), hs', w64 (n := 1 + s) (by omega) (by omega), w64 (n := 1 + r3) (by omega) (by omega), hk]
theorem valid_l0 (a b st te : Int) (cs : List Int) (hl : cs.length ≤ 1000) (h0 : 0 ≤ st) (h1 : st + te ≤ 1000) (ht : 0 ≤ te) : ∀ (t : List Int) (last i : Int), 0 ≤ i → i ≤ cs.length → cs.drop i.toNat = t → (∀ x ∈ t, last < x ∧ x ≤ st + te) → t.Pairwise (· < ·) → ∃ k, duty_Valid.l0 k last cs cs.length i a b st te cs = some true
  | [], last, i, hi0, hi, hd, hb, hw => by
    have := drop_len hi0 hi hd
    exact ⟨1, by rw [duty_Valid.l0, if_neg (by simp at this; omega)]⟩
  | e :: t, last, i, hi0, hi, hd, hb, hw => by
    have hl2 := drop_len hi0 hi hd
    have hr : rd cs i = e := getD_at hd
    rw [List.length_cons] at hl2
    push_cast at hl2
    have he := hb e (List.mem_cons_self ..)
    have hw' := List.pairwise_cons.mp hw
    obtain ⟨k, hk⟩ := valid_l0 a b st te cs hl h0 h1 ht t e (i + 1) (by omega) (by omega) (drop_next hi0 hd) (fun x hx => ⟨hw'.1 x hx, (hb x (List.mem_cons_of_mem _ hx)).2⟩) hw'.2
    refine ⟨k + 1, ?_⟩
    rw [duty_Valid.l0, if_pos (by omega), if_pos hi0, if_pos (by omega), hr, if_neg (by omega), w64 (n := st + te) (by omega) (by omega), if_neg (by omega), w64 (n := i + 1) (by omega) (by omega), hk]
theorem valid_true {a b st te : Int} {cs : List Int} (ha : 1 ≤ a ∧ a ≤ 16) (hb : 1 ≤ b ∧ b ≤ 16) (hab : a ≠ b) (h0 : 0 ≤ st) (h1 : 1 ≤ te) (h2 : te ≤ 16) (h3 : st + te ≤ 16) (hc : checksOK st te cs) (hl : cs.length ≤ 1000) : ∃ k, duty_Valid.f k a b st te cs = some true := by
  obtain ⟨k, hk⟩ := valid_l0 a b st te cs hl h0 (by omega) (by omega) cs st 0 (Int.le_refl _) (by omega) rfl hc.1 hc.2
  refine ⟨k + 1, ?_⟩
  unfold duty_Valid.f duty_person.f
  rw [if_pos (by omega), if_pos (by omega)]
  simp only [Option.bind_some]
  rw [decide_eq_true (by omega), if_pos rfl, decide_eq_true (by omega), if_pos rfl, if_neg hab, if_neg (by omega), if_neg (by omega), if_neg (by omega), w64 (n := 16 - te) (by omega) (by omega), decide_eq_false (by omega), duty_Valid.j0, if_neg (by simp), hk]
theorem plan_ok {a b st te slot : Int} {cs : List Int} {settle : Bool} (hs0 : 0 ≤ slot) (hs1 : slot < 6) (ha : 1 ≤ a ∧ a ≤ 16) (hb : 1 ≤ b ∧ b ≤ 16) (hab : a ≠ b) (h0 : 0 ≤ st) (h1 : 1 ≤ te) (h2 : te ≤ 16) (h3 : st + te ≤ 16) (hc : checksOK st te cs) (hl : cs.length ≤ 1000) : ∃ k, duty_Plan.f k a b st te cs slot settle = some (planL a b st te cs slot settle, 0) := by
  obtain ⟨k, hk⟩ := valid_true ha hb hab h0 h1 h2 h3 hc hl
  refine ⟨k, ?_⟩
  unfold duty_Plan.f
  rw [if_neg (by omega), if_neg (by omega), hk]
  rfl
/-! what duties cost -/
def totL (p : Int) : List S36 → Int
  | [] => 0
  | d :: t => (if d.f2 = p then costOf d.f3 else 0) + totL p t
theorem totL_append (p : Int) : ∀ l m : List S36, totL p (l ++ m) = totL p l + totL p m
  | [], m => by simp [totL]
  | d :: t, m => by simp only [totL, List.cons_append, totL_append p t m]; omega
theorem cost_bound (k : Int) : 0 ≤ costOf k ∧ costOf k ≤ 8 := by
  unfold costOf
  by_cases h : k < 0
  · rw [if_pos h]; omega
  · rw [if_neg h]
    by_cases h8 : 8 ≤ k
    · rw [if_pos h8]; omega
    · rw [if_neg h8]
      rcases (show k = 0 ∨ k = 1 ∨ k = 2 ∨ k = 3 ∨ k = 4 ∨ k = 5 ∨ k = 6 ∨ k = 7 by omega) with h | h | h | h | h | h | h | h <;> subst h <;> simp
theorem totL_bound (p : Int) : ∀ l : List S36, 0 ≤ totL p l ∧ totL p l ≤ 8 * l.length
  | [] => by simp [totL]
  | d :: t => by
    have h1 := totL_bound p t
    have h2 := cost_bound d.f3
    simp only [totL, List.length_cons]
    push_cast
    split <;> omega
theorem total_l0 (L : List S36) (hL : L.length ≤ 100000) (p : Int) : ∀ (t : List S36) (x i : Int), 0 ≤ i → i ≤ L.length → L.drop i.toNat = t → 0 ≤ x → x + totL p t ≤ 1000000 → ∃ k, duty_Total.l0 k p x L L.length i = some (x + totL p t)
  | [], x, i, h0, hi, hd, hx, hb => by
    have := drop_len h0 hi hd
    exact ⟨1, by rw [duty_Total.l0, if_neg (by simp at this; omega)]; simp [totL]⟩
  | e :: t, x, i, h0, hi, hd, hx, hb => by
    have hl := drop_len h0 hi hd
    have hr : rd_T36 L i = e := getD_at hd
    rw [List.length_cons] at hl
    push_cast at hl
    have hc := cost_bound e.f3
    have ht := totL_bound p t
    simp only [totL] at hb ⊢
    by_cases q : e.f2 = p
    · rw [if_pos q] at hb ⊢
      obtain ⟨k, hk⟩ := total_l0 L hL p t (x + costOf e.f3) (i + 1) (by omega) (by omega) (drop_next h0 hd) (by omega) (by omega)
      refine ⟨k + 1, ?_⟩
      rw [duty_Total.l0, if_pos (by omega), if_pos h0, if_pos (by omega), hr, if_pos q]
      simp only [duty_Cost.f, Option.bind_some]
      rw [w64 (n := x + costOf e.f3) (by omega) (by omega), w64 (n := i + 1) (by omega) (by omega), hk, Int.add_assoc]
    · rw [if_neg q] at hb ⊢
      obtain ⟨k, hk⟩ := total_l0 L hL p t x (i + 1) (by omega) (by omega) (drop_next h0 hd) (by omega) (by omega)
      refine ⟨k + 1, ?_⟩
      rw [duty_Total.l0, if_pos (by omega), if_pos h0, if_pos (by omega), hr, if_neg q, w64 (n := i + 1) (by omega) (by omega), hk, Int.zero_add]
theorem total_ok (L : List S36) (hL : L.length ≤ 10000) (p : Int) : ∃ k, duty_Total.f k L p = some (totL p L) := by
  have := totL_bound p L
  obtain ⟨k, hk⟩ := total_l0 L (by omega) p L 0 0 (Int.le_refl _) (by omega) rfl (Int.le_refl _) (by omega)
  exact ⟨k, by unfold duty_Total.f; rw [hk, Int.zero_add]⟩

theorem planT_length (s p q : Int) (l : List Int) : ∀ (n : Nat) (t : Int), (planT s p q l n t).length ≤ 4 * n
  | 0, _ => Nat.le_refl _
  | n + 1, t => by
    have ih := planT_length s p q l n (t + 1)
    rw [planT, List.length_append, List.length_append, bothL_length]
    split
    · rw [bothL_length]; simp; omega
    · simp; omega
theorem planL_length (a b st te slot : Int) (cs : List Int) (settle : Bool) (h : te ≤ 16) : (planL a b st te cs slot settle).length ≤ 100 := by
  have ht := planT_length slot a b cs te.toNat (st + 1)
  have hn : te.toNat ≤ 16 := by omega
  unfold planL
  rw [List.length_append, List.length_append, bothL_length]
  cases settle
  · simp; omega
  · rw [if_pos rfl, bothL_length]; simp; omega
/-! ### which arrangements are valid -/
theorem rvalid_l0 : ∀ (k : Nat) (x : Int) (i : Int) (a b st te : Int) (cs : List Int), storagebarterref28_Valid.l0 k x i a b st te cs = duty_Valid.l0 k x cs (cs.length : Int) i a b st te cs
  | 0, _, _, _, _, _, _, _ => by rw [storagebarterref28_Valid.l0, duty_Valid.l0]
  | k + 1, x, i, a, b, st, te, cs => by
    rw [storagebarterref28_Valid.l0, duty_Valid.l0, rvalid_l0 k]
    by_cases c : i < (cs.length : Int)
    · simp only [if_pos c]
    · simp only [if_neg c]
theorem rvalid_j0 (k : Nat) (c : Bool) (a b st te : Int) (cs : List Int) : storagebarterref28_Valid.j0 k c a b st te cs = duty_Valid.j0 k c a b st te cs := by
  cases k with
  | zero => rw [storagebarterref28_Valid.j0, duty_Valid.j0]
  | succ k => rw [storagebarterref28_Valid.j0, duty_Valid.j0, rvalid_l0]
theorem person_eq (n : Int) : duty_person.f n = some (decide (1 ≤ n ∧ n ≤ 16)) := by
  unfold duty_person.f
  by_cases h : n ≥ 1
  · rw [if_pos h]
    congr 1
    simp; omega
  · rw [if_neg h]
    congr 1
    simp; omega
def okA (a b st te : Int) : Prop := 1 ≤ a ∧ a ≤ 16 ∧ 1 ≤ b ∧ b ≤ 16 ∧ a ≠ b ∧ 0 ≤ st ∧ 1 ≤ te ∧ te ≤ 16 ∧ st + te ≤ 16
instance (a b st te : Int) : Decidable (okA a b st te) := by unfold okA; infer_instance
theorem valid_j (k : Nat) (a b st te : Int) (cs : List Int) : duty_Valid.f k a b st te cs = duty_Valid.j0 k (!(decide (okA a b st te))) a b st te cs := by
  unfold duty_Valid.f
  rw [person_eq, person_eq]
  simp only [Option.bind_some]
  by_cases h : okA a b st te
  · rw [decide_eq_true h]
    obtain ⟨a1, a2, b1, b2, hab, s0, t1, t2, h3⟩ := h
    rw [decide_eq_true (show 1 ≤ a ∧ a ≤ 16 from ⟨a1, a2⟩), if_pos rfl, decide_eq_true (show 1 ≤ b ∧ b ≤ 16 from ⟨b1, b2⟩), if_pos rfl, if_neg hab, if_neg (by omega), if_neg (by omega), if_neg (by omega), w64 (n := 16 - te) (by omega) (by omega), decide_eq_false (by omega)]
    rfl
  · rw [decide_eq_false h]
    by_cases ha : 1 ≤ a ∧ a ≤ 16
    · rw [decide_eq_true ha, if_pos rfl]
      by_cases hb : 1 ≤ b ∧ b ≤ 16
      · rw [decide_eq_true hb, if_pos rfl]
        by_cases hab : a = b
        · rw [if_pos hab]; rfl
        · rw [if_neg hab]
          by_cases hs : st < 0
          · rw [if_pos hs]; rfl
          · rw [if_neg hs]
            by_cases ht : te < 1
            · rw [if_pos ht]; rfl
            · rw [if_neg ht]
              by_cases ht2 : te > 16
              · rw [if_pos ht2]; rfl
              · rw [if_neg ht2, w64 (n := 16 - te) (by omega) (by omega), decide_eq_true (show st > 16 - te by unfold okA at h; omega)]; rfl
      · rw [decide_eq_false hb, if_neg (by simp)]; rfl
    · rw [decide_eq_false ha, if_neg (by simp)]; rfl
theorem rvalid_j (k : Nat) (a b st te : Int) (cs : List Int) : storagebarterref28_Valid.f k a b st te cs = duty_Valid.j0 k (!(decide (okA a b st te))) a b st te cs := by
  unfold storagebarterref28_Valid.f
  simp only [rvalid_j0]
  by_cases h : okA a b st te
  · rw [decide_eq_true h]
    obtain ⟨a1, a2, b1, b2, hab, s0, t1, t2, h3⟩ := h
    rw [if_neg hab, if_neg (by omega), if_neg (by omega), if_neg (by omega), if_neg (by omega), if_neg (by omega), if_neg (by omega), if_neg (by omega), if_neg (by omega), w64 (n := st + te) (by omega) (by omega), decide_eq_false (by omega)]
    rfl
  · rw [decide_eq_false h]
    by_cases c1 : a = b
    · rw [if_pos c1]; rfl
    rw [if_neg c1]
    by_cases c2 : a < 1
    · rw [if_pos c2]; rfl
    rw [if_neg c2]
    by_cases c3 : a > 16
    · rw [if_pos c3]; rfl
    rw [if_neg c3]
    by_cases c4 : b < 1
    · rw [if_pos c4]; rfl
    rw [if_neg c4]
    by_cases c5 : b > 16
    · rw [if_pos c5]; rfl
    rw [if_neg c5]
    by_cases c6 : st < 0
    · rw [if_pos c6]; rfl
    rw [if_neg c6]
    by_cases c7 : st > 16
    · rw [if_pos c7]; rfl
    rw [if_neg c7]
    by_cases c8 : te < 1
    · rw [if_pos c8]; rfl
    rw [if_neg c8]
    by_cases c9 : te > 16
    · rw [if_pos c9]; rfl
    rw [if_neg c9, w64 (n := st + te) (by omega) (by omega), decide_eq_true (show st + te > 16 by unfold okA at h; omega)]; rfl
theorem rvalid (k : Nat) (a b st te : Int) (cs : List Int) : storagebarterref28_Valid.f k a b st te cs = duty_Valid.f k a b st te cs := (rvalid_j ..).trans (valid_j ..).symm
theorem valid_some_l0 (a b st te : Int) (cs : List Int) (hl : cs.length ≤ 100000) : ∀ (t : List Int) (x i : Int), 0 ≤ i → i ≤ cs.length → cs.drop i.toNat = t → ∃ k v, duty_Valid.l0 k x cs (cs.length : Int) i a b st te cs = some v
  | [], x, i, h0, hi, hd => by
    have := drop_len h0 hi hd
    exact ⟨1, true, by rw [duty_Valid.l0, if_neg (by simp at this; omega)]⟩
  | e :: t, x, i, h0, hi, hd => by
    have hl2 := drop_len h0 hi hd
    rw [List.length_cons] at hl2
    push_cast at hl2
    obtain ⟨k, v, hk⟩ := valid_some_l0 a b st te cs hl t (rd cs i) (i + 1) (by omega) (by omega) (drop_next h0 hd)
    by_cases c1 : rd cs i ≤ x
    · exact ⟨1, false, by rw [duty_Valid.l0, if_pos (by omega), if_pos h0, if_pos (by omega), if_pos c1]⟩
    · by_cases c2 : rd cs i > wrap64 (st + te)
      · exact ⟨1, false, by rw [duty_Valid.l0, if_pos (by omega), if_pos h0, if_pos (by omega), if_neg c1, if_pos c2]⟩
      · exact ⟨k + 1, v, by rw [duty_Valid.l0, if_pos (by omega), if_pos h0, if_pos (by omega), if_neg c1, if_neg c2, w64 (n := i + 1) (by omega) (by omega), hk]⟩
theorem valid_some (a b st te : Int) (cs : List Int) (hl : cs.length ≤ 100000) : ∃ k v, duty_Valid.f k a b st te cs = some v := by
  obtain ⟨k, v, hk⟩ := valid_some_l0 a b st te cs hl cs st 0 (Int.le_refl _) (by omega) rfl
  by_cases h : okA a b st te
  · refine ⟨k + 1, v, ?_⟩
    rw [valid_j, decide_eq_true h, duty_Valid.j0, if_neg (by decide), hk]
  · refine ⟨1, false, ?_⟩
    rw [valid_j, decide_eq_false h, duty_Valid.j0, if_pos (show (!false) = true from rfl)]
/-! ### plans -/
theorem has_l0 (cs : List Int) (hl : cs.length ≤ 100000) (x : Int) : ∀ (t : List Int) (i : Int), 0 ≤ i → i ≤ cs.length → cs.drop i.toNat = t → ∃ k, storagebarterref28_Has.l0 k cs x i = some (decide (x ∈ t))
  | [], i, h0, hi, hd => by
    have := drop_len h0 hi hd
    exact ⟨1, by rw [storagebarterref28_Has.l0, if_neg (by simp at this; omega)]; simp⟩
  | e :: t, i, h0, hi, hd => by
    have hl2 := drop_len h0 hi hd
    have hr : rd cs i = e := getD_at hd
    rw [List.length_cons] at hl2
    push_cast at hl2
    obtain ⟨k, hk⟩ := has_l0 cs hl x t (i + 1) (by omega) (by omega) (drop_next h0 hd)
    by_cases c : e = x
    · exact ⟨1, by rw [storagebarterref28_Has.l0, if_pos (by omega), if_pos h0, hr, if_pos c]; simp [c]⟩
    · refine ⟨k + 1, ?_⟩
      rw [storagebarterref28_Has.l0, if_pos (by omega), if_pos h0, hr, if_neg c, w64 (n := i + 1) (by omega) (by omega), hk]
      congr 1
      simp [Ne.symm c]
theorem has_ok (cs : List Int) (hl : cs.length ≤ 100000) (x : Int) : ∃ k, storagebarterref28_Has.f k cs x = some (decide (x ∈ cs)) := has_l0 cs hl x cs 0 (Int.le_refl _) (by omega) rfl
theorem both_eq (a b st te : Int) (cs : List Int) (t slot kd : Int) : storagebarterref28_both.f a b st te cs t slot kd = some (bothL t slot a b [kd]) := rfl
theorem rplan_l1 (a b st te slot : Int) (cs : List Int) (settle : Bool) (hl : cs.length ≤ 100000) (h0 : 0 ≤ st) (h1 : 1 ≤ te) (h2 : st + te ≤ 16) : ∀ (n : Nat) (t : Int) (acc : List S36), t + n = st + te + 1 → st < t → acc.length + 4 * n ≤ 1000 → ∃ k, storagebarterref28_Plan.l1 k slot settle acc t a b st te cs = some (acc ++ planT slot a b cs n t ++ (if settle = true then bothL (st + te + 1) slot a b [7] else []), 0)
  | 0, t, acc, ht, hs, hn => by
    refine ⟨1, ?_⟩
    rw [storagebarterref28_Plan.l1, w64 (n := st + te) (by omega) (by omega), if_neg (by omega)]
    cases settle
    · rw [if_neg (by decide)]; simp [planT]
    · rw [if_pos rfl, both_eq]
      simp only [Option.bind_some]
      rw [w64 (n := st + te + 1) (by omega) (by omega), if_pos (by rw [bothL_length]; simp; omega)]
      simp [planT]
  | n + 1, t, acc, ht, hs, hn => by
    push_cast at ht
    obtain ⟨k1, e1⟩ := has_ok cs hl t
    by_cases hm : t ∈ cs
    · obtain ⟨k, hk⟩ := rplan_l1 a b st te slot cs settle hl h0 h1 h2 n (t + 1) (acc ++ bothL t slot a b [5] ++ bothL t slot a b [6]) (by omega) (by omega) (by simp [bothL_length]; omega)
      have hk2 := at_rounds (g := fun k => storagebarterref28_Plan.l1 k slot settle (acc ++ bothL t slot a b [5] ++ bothL t slot a b [6]) (t + 1) a b st te cs) (fun k => (storagebarterref28_Plan.mono_l k).2.2 _ _ _ _ _ _ _ _ _) (show k ≤ k + k1 by omega) hk
      refine ⟨k + k1 + 1, ?_⟩
      rw [storagebarterref28_Plan.l1, w64 (n := st + te) (by omega) (by omega), if_pos (by omega), both_eq]
      simp only [Option.bind_some]
      rw [if_pos (by rw [bothL_length]; simp; omega), at_rounds (storagebarterref28_Has.mono _ _) (show k1 ≤ k + k1 by omega) e1]
      simp only [Option.bind_some]
      rw [if_pos (by simpa using hm), both_eq]
      simp only [Option.bind_some]
      rw [if_pos (by simp [bothL_length]; omega), w64 (n := t + 1) (by omega) (by omega), hk2]
      rw [planT, if_pos hm]
      simp
    · obtain ⟨k, hk⟩ := rplan_l1 a b st te slot cs settle hl h0 h1 h2 n (t + 1) (acc ++ bothL t slot a b [5]) (by omega) (by omega) (by simp [bothL_length]; omega)
      have hk2 := at_rounds (g := fun k => storagebarterref28_Plan.l1 k slot settle (acc ++ bothL t slot a b [5]) (t + 1) a b st te cs) (fun k => (storagebarterref28_Plan.mono_l k).2.2 _ _ _ _ _ _ _ _ _) (show k ≤ k + k1 by omega) hk
      refine ⟨k + k1 + 1, ?_⟩
      rw [storagebarterref28_Plan.l1, w64 (n := st + te) (by omega) (by omega), if_pos (by omega), both_eq]
      simp only [Option.bind_some]
      rw [if_pos (by rw [bothL_length]; simp; omega), at_rounds (storagebarterref28_Has.mono _ _) (show k1 ≤ k + k1 by omega) e1]
      simp only [Option.bind_some]
      rw [if_neg (by simpa using hm), w64 (n := t + 1) (by omega) (by omega), hk2]
      rw [planT, if_neg hm]
      simp
theorem rplan_l0 (a b st te slot : Int) (cs : List Int) (settle : Bool) (hl : cs.length ≤ 100000) (h0 : 0 ≤ st) (h1 : 1 ≤ te) (h2 : st + te ≤ 16) : ∃ k, storagebarterref28_Plan.l0 k slot settle [] 1 a b st te cs = some (planL a b st te cs slot settle, 0) := by
  obtain ⟨k, hk⟩ := rplan_l1 a b st te slot cs settle hl h0 h1 h2 te.toNat (st + 1) (bothL st slot a b [1] ++ bothL st slot a b [2] ++ bothL st slot a b [3] ++ bothL st slot a b [4]) (by omega) (by omega) (by simp [bothL_length]; omega)
  refine ⟨k + 5, ?_⟩
  rw [storagebarterref28_Plan.l0, if_pos (by omega), both_eq]
  simp only [Option.bind_some]
  rw [if_pos (by simp [bothL_length]), w64 (n := (1 : Int) + 1) (by omega) (by omega), show (1 : Int) + 1 = 2 from rfl, storagebarterref28_Plan.l0, if_pos (by omega), both_eq]
  simp only [Option.bind_some]
  rw [if_pos (by simp [bothL_length]), w64 (n := (2 : Int) + 1) (by omega) (by omega), show (2 : Int) + 1 = 3 from rfl, storagebarterref28_Plan.l0, if_pos (by omega), both_eq]
  simp only [Option.bind_some]
  rw [if_pos (by simp [bothL_length]), w64 (n := (3 : Int) + 1) (by omega) (by omega), show (3 : Int) + 1 = 4 from rfl, storagebarterref28_Plan.l0, if_pos (by omega), both_eq]
  simp only [Option.bind_some]
  rw [if_pos (by simp [bothL_length]), w64 (n := (4 : Int) + 1) (by omega) (by omega), show (4 : Int) + 1 = 5 from rfl, storagebarterref28_Plan.l0, if_neg (by omega), w64 (n := st + 1) (by omega) (by omega)]
  rw [List.nil_append, hk]
  simp [planL, bothL]
theorem plan_cases (a b st te : Int) (cs : List Int) (hl : cs.length ≤ 100000) : ∃ k v, duty_Valid.f k a b st te cs = some v ∧ (v = true → 1 ≤ te ∧ te ≤ 16 ∧ 0 ≤ st ∧ st ≤ 16 - te) := by
  obtain ⟨k, v, hv⟩ := valid_some a b st te cs hl
  exact ⟨k, v, hv, fun h => valid_ok (by rw [h] at hv; exact hv)⟩
/-- both plans: the same list, the same code -/
theorem plan_both (a b st te slot : Int) (cs : List Int) (settle : Bool) (hl : cs.length ≤ 100000) : ∃ k L e, duty_Plan.f k a b st te cs slot settle = some (L, e) ∧ storagebarterref28_Plan.f k a b st te cs slot settle = some (L, e) ∧ L.length ≤ 100 := by
  by_cases c0 : slot < 0
  · refine ⟨1, [], 1, by unfold duty_Plan.f; rw [if_pos c0], by unfold storagebarterref28_Plan.f; rw [if_pos c0, storagebarterref28_Plan.j0, if_pos rfl], by simp⟩
  by_cases c1 : slot ≥ 6
  · refine ⟨1, [], 1, by unfold duty_Plan.f; rw [if_neg c0, if_pos c1], by unfold storagebarterref28_Plan.f; rw [if_neg c0, decide_eq_true c1, storagebarterref28_Plan.j0, if_pos rfl], by simp⟩
  obtain ⟨k, v, hv, hok⟩ := plan_cases a b st te cs hl
  cases v
  · refine ⟨k + 1, [], 44, ?_, ?_, by simp⟩
    · unfold duty_Plan.f
      rw [if_neg c0, if_neg c1, at_rounds (duty_Valid.mono _ _ _ _ _) (show k ≤ k + 1 by omega) hv]
      rfl
    · unfold storagebarterref28_Plan.f
      rw [if_neg c0, decide_eq_false c1, storagebarterref28_Plan.j0, if_neg (by decide), rvalid, hv]
      rfl
  · obtain ⟨t1, t2, s0, s1⟩ := hok rfl
    obtain ⟨k2, h2⟩ := rplan_l0 a b st te slot cs settle hl s0 t1 (by omega)
    refine ⟨k + k2 + 1, planL a b st te cs slot settle, 0, ?_, ?_, planL_length _ _ _ _ _ _ _ t2⟩
    · unfold duty_Plan.f
      rw [if_neg c0, if_neg c1, at_rounds (duty_Valid.mono _ _ _ _ _) (show k ≤ k + k2 + 1 by omega) hv]
      rfl
    · unfold storagebarterref28_Plan.f
      rw [if_neg c0, decide_eq_false c1, storagebarterref28_Plan.j0, if_neg (by decide), rvalid, at_rounds (duty_Valid.mono _ _ _ _ _) (show k ≤ k + k2 by omega) hv]
      simp only [Option.bind_some, if_true]
      exact at_rounds (g := fun k => storagebarterref28_Plan.l0 k slot settle [] 1 a b st te cs) (fun k => (storagebarterref28_Plan.mono_l k).2.1 _ _ _ _ _ _ _ _ _) (show k2 ≤ k + k2 by omega) h2
/-! ### the same lists, totals, numbers -/
theorem same_l0 (L : List S36) (hl : L.length ≤ 100000) : ∀ (t : List S36) (i : Int), 0 ≤ i → i ≤ L.length → L.drop i.toNat = t → ∃ k, storagebarterref28_Same.l0 k L L i = some true
  | [], i, h0, hi, hd => by
    have := drop_len h0 hi hd
    exact ⟨1, by rw [storagebarterref28_Same.l0, if_neg (by simp at this; omega)]⟩
  | e :: t, i, h0, hi, hd => by
    have hl2 := drop_len h0 hi hd
    rw [List.length_cons] at hl2
    push_cast at hl2
    obtain ⟨k, hk⟩ := same_l0 L hl t (i + 1) (by omega) (by omega) (drop_next h0 hd)
    exact ⟨k + 1, by rw [storagebarterref28_Same.l0, if_pos (by omega), if_pos h0, if_pos (by omega), if_neg (by simp), w64 (n := i + 1) (by omega) (by omega), hk]⟩
theorem same_ok (L : List S36) (hl : L.length ≤ 100000) : ∃ k, storagebarterref28_Same.f k L L = some true := by
  obtain ⟨k, hk⟩ := same_l0 L hl L 0 (Int.le_refl _) (by omega) rfl
  exact ⟨k, by unfold storagebarterref28_Same.f; rw [if_pos rfl, hk]⟩
theorem sameints_l0 (L : List Int) (hl : L.length ≤ 100000) : ∀ (t : List Int) (i : Int), 0 ≤ i → i ≤ L.length → L.drop i.toNat = t → ∃ k, storagebarterref28_SameInts.l0 k L L i = some true
  | [], i, h0, hi, hd => by
    have := drop_len h0 hi hd
    exact ⟨1, by rw [storagebarterref28_SameInts.l0, if_neg (by simp at this; omega)]⟩
  | e :: t, i, h0, hi, hd => by
    have hl2 := drop_len h0 hi hd
    rw [List.length_cons] at hl2
    push_cast at hl2
    obtain ⟨k, hk⟩ := sameints_l0 L hl t (i + 1) (by omega) (by omega) (drop_next h0 hd)
    exact ⟨k + 1, by rw [storagebarterref28_SameInts.l0, if_pos (by omega), if_pos h0, if_pos (by omega), if_pos rfl, w64 (n := i + 1) (by omega) (by omega), hk]⟩
theorem sameints_ok (L : List Int) (hl : L.length ≤ 100000) : ∃ k, storagebarterref28_SameInts.f k L L = some true := by
  obtain ⟨k, hk⟩ := sameints_l0 L hl L 0 (Int.le_refl _) (by omega) rfl
  exact ⟨k, by unfold storagebarterref28_SameInts.f; rw [if_pos rfl, hk]⟩
theorem rcost (n : Int) : storagebarterref28_Cost.f n = some (costOf n) := by
  unfold storagebarterref28_Cost.f costOf
  by_cases h : n < 0
  · rw [if_pos h]
    rw [if_neg (by omega), if_neg (by omega), if_neg (by omega), if_neg (by omega), if_neg (by omega), if_neg (by omega), if_neg (by omega)]
  · rw [if_neg h]
    by_cases h8 : 8 ≤ n
    · rw [if_pos h8, if_neg (by omega), if_neg (by omega), if_neg (by omega), if_neg (by omega), if_neg (by omega), if_neg (by omega), if_neg (by omega)]
    · rw [if_neg h8]
      rcases (show n = 0 ∨ n = 1 ∨ n = 2 ∨ n = 3 ∨ n = 4 ∨ n = 5 ∨ n = 6 ∨ n = 7 by omega) with h | h | h | h | h | h | h | h <;> subst h <;> rfl
theorem rtotal_l0 (L : List S36) (p : Int) : ∀ (k : Nat) (x i : Int), storagebarterref28_Total.l0 k L p x i = duty_Total.l0 k p x L (L.length : Int) i
  | 0, _, _ => by rw [storagebarterref28_Total.l0, duty_Total.l0]
  | k + 1, x, i => by
    rw [storagebarterref28_Total.l0, duty_Total.l0, rcost, show duty_Cost.f (rd_T36 L i).f3 = some (costOf (rd_T36 L i).f3) from rfl]
    simp only [Option.bind_some, rtotal_l0 L p k]
    by_cases c : i < L.length
    · rw [if_pos c, if_pos c, if_pos c]
    · rw [if_neg c, if_neg c]
theorem rtotal (L : List S36) (p : Int) (k : Nat) : storagebarterref28_Total.f k L p = duty_Total.f k L p := rtotal_l0 L p k 0 0
theorem rof_l0 (L : List S36) (p : Int) : ∀ (k : Nat) (x : List Int) (i : Int), storagebarterref28_Of.l0 k L p x i = duty_Of.l0 k p x L (L.length : Int) i
  | 0, _, _ => by rw [storagebarterref28_Of.l0, duty_Of.l0]
  | k + 1, x, i => by
    rw [storagebarterref28_Of.l0, duty_Of.l0]
    simp only [rof_l0 L p k]
    by_cases c : i < L.length
    · rw [if_pos c, if_pos c, if_pos c]
    · rw [if_neg c, if_neg c]
theorem rof (L : List S36) (p : Int) (k : Nat) : storagebarterref28_Of.f k L p = duty_Of.f k L p := rof_l0 L p k [] 0
theorem of_l0 (L : List S36) (hL : L.length ≤ 10000) (p : Int) : ∀ (t : List S36) (x : List Int) (i : Int), 0 ≤ i → i ≤ L.length → L.drop i.toNat = t → x.length ≤ i → ∃ k r, duty_Of.l0 k p x L L.length i = some r ∧ r.length ≤ L.length
  | [], x, i, h0, hi, hd, hx => by
    have := drop_len h0 hi hd
    exact ⟨1, x, by rw [duty_Of.l0, if_neg (by simp at this; omega)], by omega⟩
  | e :: t, x, i, h0, hi, hd, hx => by
    have hl2 := drop_len h0 hi hd
    rw [List.length_cons] at hl2
    push_cast at hl2
    by_cases c : (rd_T36 L i).f2 = p
    · obtain ⟨k, r, hk, hr⟩ := of_l0 L hL p t (x ++ [i]) (i + 1) (by omega) (by omega) (drop_next h0 hd) (by simp; omega)
      exact ⟨k + 1, r, by rw [duty_Of.l0, if_pos (by omega), if_pos h0, if_pos (by omega), if_pos c, if_pos (by omega), w64 (n := i + 1) (by omega) (by omega), hk], hr⟩
    · obtain ⟨k, r, hk, hr⟩ := of_l0 L hL p t x (i + 1) (by omega) (by omega) (drop_next h0 hd) (by omega)
      exact ⟨k + 1, r, by rw [duty_Of.l0, if_pos (by omega), if_pos h0, if_pos (by omega), if_neg c, w64 (n := i + 1) (by omega) (by omega), hk], hr⟩
theorem of_some (L : List S36) (hL : L.length ≤ 10000) (p : Int) : ∃ k r, duty_Of.f k L p = some r ∧ r.length ≤ L.length := of_l0 L hL p L [] 0 (Int.le_refl _) (by omega) rfl (by simp)
/-! ### the law's loops -/
theorem st_l3s (x3 x4 : Int) (L : List S36) (hL : L.length ≤ 1000) : ∃ k, storagebarterlaw28_DutySteps.l3 k x3 x4 L 10 = some true := by
  obtain ⟨k1, e1⟩ := total_ok L (by omega) x4
  obtain ⟨k2, r, e2, hr⟩ := of_some L (by omega) x4
  obtain ⟨k3, e3⟩ := sameints_ok r (by omega)
  refine ⟨k1 + k2 + k3 + 1, ?_⟩
  have f1 := at_rounds (g := fun k => duty_Total.f k L x4) (duty_Total.mono _ _) (show k1 ≤ k1 + k2 + k3 by omega) e1
  have f2 := at_rounds (g := fun k => duty_Of.f k L x4) (duty_Of.mono _ _) (show k2 ≤ k1 + k2 + k3 by omega) e2
  have f3 := at_rounds (g := fun k => storagebarterref28_SameInts.f k r r) (storagebarterref28_SameInts.mono _ _) (show k3 ≤ k1 + k2 + k3 by omega) e3
  rw [storagebarterlaw28_DutySteps.l3, if_neg (by omega), rcost, rtotal, rof, f1, f2, show duty_Cost.f x3 = some (costOf x3) from rfl]
  simp only [Option.bind_some, if_true]
  rw [f3]
  rfl
theorem st_l3 (x3 x4 : Int) (L : List S36) (hL : L.length ≤ 1000) : ∀ (n : Nat) (i : Int), i + n = 10 → -1 ≤ i → ∃ k, storagebarterlaw28_DutySteps.l3 k x3 x4 L i = some true
  | 0, i, h, h0 => by
    obtain rfl : i = 10 := by omega
    exact st_l3s x3 x4 L hL
  | n + 1, i, h, h0 => by
    push_cast at h
    obtain ⟨k, hk⟩ := st_l3 x3 x4 L hL n (i + 1) (by omega) (by omega)
    refine ⟨k + 1, ?_⟩
    rw [storagebarterlaw28_DutySteps.l3, if_pos (by omega), rcost, show duty_Cost.f i = some (costOf i) from rfl]
    simp only [Option.bind_some, if_true]
    rw [w64 (n := i + 1) (by omega) (by omega), hk]
theorem st_l2 (x2 x3 x4 : Int) (x5 : List S36) (x17 : Int) (x45 : List S26) (x46 x47 : Int) (x57 : List Int) (x58 x59 : Int) (bl : List Bool) (a b st te : Int) (cs : List Int) (hl : cs.length ≤ 100000) (hb : bl.length ≤ 1000)
    (hn : ∃ k, storagebarterlaw28_DutySteps.l1 k x2 x3 x4 x5 x45 x46 x47 x57 x58 (wrap64 (x59 + 1)) a b st te cs = some true) : ∀ (t : List Bool) (i : Int), 0 ≤ i → i ≤ bl.length → bl.drop i.toNat = t → ∃ k, storagebarterlaw28_DutySteps.l2 k x2 x3 x4 x5 x17 x45 x46 x47 x57 x58 x59 bl bl.length i a b st te cs = some true
  | [], i, h0, hi, hd => by
    have := drop_len h0 hi hd
    obtain ⟨k, hk⟩ := hn
    exact ⟨k + 1, by rw [storagebarterlaw28_DutySteps.l2, if_neg (by simp at this; omega), hk]⟩
  | e :: t, i, h0, hi, hd => by
    have hl2 := drop_len h0 hi hd
    rw [List.length_cons] at hl2
    push_cast at hl2
    obtain ⟨k, hk⟩ := st_l2 x2 x3 x4 x5 x17 x45 x46 x47 x57 x58 x59 bl a b st te cs hl hb hn t (i + 1) (by omega) (by omega) (drop_next h0 hd)
    obtain ⟨k1, L, c, e1, e2, hL⟩ := plan_both a b st te x17 cs (rdOf false bl i) hl
    obtain ⟨k2, e3⟩ := same_ok L (by omega)
    obtain ⟨k3, e4⟩ := total_ok L (by omega) a
    refine ⟨k + k1 + k2 + k3 + 1, ?_⟩
    have f0 := at_rounds (g := fun k => storagebarterlaw28_DutySteps.l2 k x2 x3 x4 x5 x17 x45 x46 x47 x57 x58 x59 bl bl.length (i + 1) a b st te cs) (fun k => (storagebarterlaw28_DutySteps.mono_l k).2.2.2.1 _ _ _ _ _ _ _ _ _ _ _ _ _ _ _ _ _ _ _) (show k ≤ k + k1 + k2 + k3 by omega) hk
    have f1 := at_rounds (g := fun k => duty_Plan.f k a b st te cs x17 (rdOf false bl i)) (duty_Plan.mono _ _ _ _ _ _ _) (show k1 ≤ k + k1 + k2 + k3 by omega) e1
    have f2 := at_rounds (g := fun k => storagebarterref28_Plan.f k a b st te cs x17 (rdOf false bl i)) (storagebarterref28_Plan.mono _ _ _ _ _ _ _) (show k1 ≤ k + k1 + k2 + k3 by omega) e2
    have f3 := at_rounds (g := fun k => storagebarterref28_Same.f k L L) (storagebarterref28_Same.mono _ _) (show k2 ≤ k + k1 + k2 + k3 by omega) e3
    have f4 := at_rounds (g := fun k => duty_Total.f k L a) (duty_Total.mono _ _) (show k3 ≤ k + k1 + k2 + k3 by omega) e4
    rw [storagebarterlaw28_DutySteps.l2, if_pos (by omega), if_pos h0, if_pos (by omega), f1, f2]
    simp only [Option.bind_some, if_true]
    rw [f3]
    simp only [Option.bind_some, if_true]
    rw [rtotal, f4]
    simp only [Option.bind_some, if_true]
    rw [w64 (n := i + 1) (by omega) (by omega), f0]
theorem st_l1 (x2 x3 x4 : Int) (x5 : List S36) (x45 : List S26) (x46 x47 : Int) (x57 : List Int) (a b st te : Int) (cs : List Int) (hl : cs.length ≤ 100000) (hb : x57.length ≤ 1000)
    (hn : ∃ k, storagebarterlaw28_DutySteps.l0 k x2 x3 x4 x5 x45 x46 (wrap64 (x47 + 1)) = some true) : ∀ (t : List Int) (i : Int), 0 ≤ i → i ≤ x57.length → x57.drop i.toNat = t → ∃ k, storagebarterlaw28_DutySteps.l1 k x2 x3 x4 x5 x45 x46 x47 x57 x57.length i a b st te cs = some true
  | [], i, h0, hi, hd => by
    have := drop_len h0 hi hd
    obtain ⟨k, hk⟩ := hn
    exact ⟨k + 1, by rw [storagebarterlaw28_DutySteps.l1, if_neg (by simp at this; omega), hk]⟩
  | e :: t, i, h0, hi, hd => by
    have hl2 := drop_len h0 hi hd
    rw [List.length_cons] at hl2
    push_cast at hl2
    obtain ⟨k, hk⟩ := st_l2 x2 x3 x4 x5 (rd x57 i) x45 x46 x47 x57 x57.length i [true, false] a b st te cs hl (by simp) (by rw [w64 (n := i + 1) (by omega) (by omega)]; exact st_l1 x2 x3 x4 x5 x45 x46 x47 x57 a b st te cs hl hb hn t (i + 1) (by omega) (by omega) (drop_next h0 hd)) [true, false] 0 (Int.le_refl _) (by simp) rfl
    refine ⟨k + 1, ?_⟩
    rw [storagebarterlaw28_DutySteps.l1, if_pos (by omega), if_pos h0, if_pos (by omega)]
    exact hk
theorem st_l0 (x2 x3 x4 : Int) (x5 : List S36) (hL : x5.length ≤ 1000) (x45 : List S26) (hl : ∀ z ∈ x45, z.f4.length ≤ 100000) (hb : x45.length ≤ 1000) : ∀ (t : List S26) (i : Int), 0 ≤ i → i ≤ x45.length → x45.drop i.toNat = t → ∃ k, storagebarterlaw28_DutySteps.l0 k x2 x3 x4 x5 x45 x45.length i = some true
  | [], i, h0, hi, hd => by
    have := drop_len h0 hi hd
    obtain ⟨k, hk⟩ := st_l3 x3 x4 x5 hL 11 (-1) (by omega) (by omega)
    exact ⟨k + 1, by rw [storagebarterlaw28_DutySteps.l0, if_neg (by simp at this; omega), hk]⟩
  | e :: t, i, h0, hi, hd => by
    have hl2 := drop_len h0 hi hd
    have hr : rd_T26 x45 i = e := getD_at hd
    have hm : e ∈ x45 := List.mem_of_mem_drop (i := i.toNat) (by rw [hd]; exact List.mem_cons_self ..)
    rw [List.length_cons] at hl2
    push_cast at hl2
    obtain ⟨k1, v, e1⟩ := valid_some e.f0 e.f1 e.f2 e.f3 e.f4 (hl e hm)
    obtain ⟨k, hk⟩ := st_l1 x2 x3 x4 x5 x45 x45.length i [x2, 0, 5, 6, (-1)] e.f0 e.f1 e.f2 e.f3 e.f4 (hl e hm) (by simp) (by rw [w64 (n := i + 1) (by omega) (by omega)]; exact st_l0 x2 x3 x4 x5 hL x45 hl hb t (i + 1) (by omega) (by omega) (drop_next h0 hd)) [x2, 0, 5, 6, (-1)] 0 (Int.le_refl _) (by simp) rfl
    refine ⟨k + k1 + 1, ?_⟩
    have f0 := at_rounds (g := fun k => storagebarterlaw28_DutySteps.l1 k x2 x3 x4 x5 x45 x45.length i [x2, 0, 5, 6, (-1)] ([x2, 0, 5, 6, (-1)] : List Int).length 0 e.f0 e.f1 e.f2 e.f3 e.f4) (fun k => (storagebarterlaw28_DutySteps.mono_l k).2.2.1 _ _ _ _ _ _ _ _ _ _ _ _ _ _ _) (show k ≤ k + k1 by omega) hk
    have f1 := at_rounds (g := fun k => duty_Valid.f k e.f0 e.f1 e.f2 e.f3 e.f4) (duty_Valid.mono _ _ _ _ _) (show k1 ≤ k + k1 by omega) e1
    rw [storagebarterlaw28_DutySteps.l0, if_pos (by omega), if_pos h0, if_pos (by omega), hr, rvalid, f1]
    simp only [Option.bind_some]
    rw [if_neg (by simp)]
    exact f0
theorem odd_ok {l : List Int} (hs : Seeds l) {p : Int} (hp0 : 0 ≤ p) (hp1 : p ≤ l.length) : ∃ k a b st te cs q, storagebarterplay_Dice_Odd.f k l p = some (a, b, st, te, cs, q) ∧ cs.length ≤ 1001 ∧ 0 ≤ q ∧ q ≤ l.length := by
  obtain ⟨k, a, b, st, te, cs, q, e, a1, a2, b1, b2, hab, s0, s1, t1, t2, hc, hl, q0, q1⟩ := arr_ok hs hp0 hp1 (n := 3) (by omega) (by omega)
  obtain ⟨r, q2, e2, r0, r1, m0, m1⟩ := pick_ok hs q0 q1 (n := 7) (by omega)
  refine ⟨k, ?_⟩
  unfold storagebarterplay_Dice_Odd.f
  rw [e]
  simp only [Option.bind_some]
  rw [e2]
  simp only [Option.bind_some]
  by_cases c0 : r = 0
  · rw [if_pos c0]; exact ⟨_, _, _, _, _, _, rfl, by omega, m0, m1⟩
  rw [if_neg c0]
  by_cases c1 : r = 1
  · obtain ⟨r', q', e', r0', r1', m0', m1'⟩ := pick_ok hs m0 m1 (n := 4) (by omega)
    rw [if_pos c1, e']
    simp only [Option.bind_some]
    rw [if_pos r0', if_pos (by simpa using r1')]
    exact ⟨_, _, _, _, _, _, rfl, by omega, m0', m1'⟩
  rw [if_neg c1]
  by_cases c2 : r = 2
  · obtain ⟨r', q', e', r0', r1', m0', m1'⟩ := pick_ok hs m0 m1 (n := 3) (by omega)
    rw [if_pos c2, e']
    simp only [Option.bind_some]
    rw [if_pos r0', if_pos (by simpa using r1')]
    exact ⟨_, _, _, _, _, _, rfl, by omega, m0', m1'⟩
  rw [if_neg c2]
  by_cases c3 : r = 3
  · obtain ⟨r', q', e', r0', r1', m0', m1'⟩ := pick_ok hs m0 m1 (n := 4) (by omega)
    rw [if_pos c3, e']
    simp only [Option.bind_some]
    rw [if_pos r0', if_pos (by simpa using r1')]
    exact ⟨_, _, _, _, _, _, rfl, by omega, m0', m1'⟩
  rw [if_neg c3]
  by_cases c4 : r = 4
  · obtain ⟨r', q', e', r0', r1', m0', m1'⟩ := pick_ok hs m0 m1 (n := 5) (by omega)
    rw [if_pos c4, e']
    simp only [Option.bind_some]
    rw [if_pos (by omega)]
    exact ⟨_, _, _, _, _, _, rfl, by simp; omega, m0', m1'⟩
  rw [if_neg c4]
  exact ⟨_, _, _, _, _, _, rfl, by omega, m0, m1⟩
theorem sane_ok (k : Nat) (hk : 100 ≤ k) : storagebarterlaw28_sane.f k = some true :=
  at_rounds storagebarterlaw28_sane.mono hk (show storagebarterlaw28_sane.f 100 = some true by kernel_rfl)
theorem st_j0 {l : List Int} (hw : ∀ x ∈ l, (Lit.int .u8 x).wf = true) (x2 x3 x4 : Int) (x5 : List S36) (hL : x5.length ≤ 1000) (a b st te : Int) (cs : List Int) (hl : cs.length ≤ 1000) : ∃ k, storagebarterlaw28_DutySteps.j0 k l x2 x3 x4 x5 false a b st te cs = some true := by
  obtain ⟨s, hn, hs⟩ := new_ok hw
  obtain ⟨k1, a1, b1, st1, te1, cs1, q1, e1, l1, m1, n1⟩ := odd_ok hs (p := 0) (Int.le_refl _) (by omega)
  obtain ⟨k2, a2, b2, st2, te2, cs2, q2, e2, l2, m2, n2⟩ := odd_ok hs m1 n1
  obtain ⟨k3, a3, b3, st3, te3, cs3, q3, e3, _, _, _, _, _, _, _, _, _, _, l3, m3, n3⟩ := arr_ok hs m2 n2 (n := 4) (by omega) (by omega)
  obtain ⟨k, hk⟩ := st_l0 x2 x3 x4 x5 hL [⟨a, b, st, te, cs⟩, ⟨a1, b1, st1, te1, cs1⟩, ⟨a2, b2, st2, te2, cs2⟩, ⟨a3, b3, st3, te3, cs3⟩] (by simp; omega) (by simp) _ 0 (Int.le_refl _) (by simp) rfl
  refine ⟨k + k1 + k2 + k3 + 1, ?_⟩
  have f0 := at_rounds (g := fun k => storagebarterlaw28_DutySteps.l0 k x2 x3 x4 x5 [⟨a, b, st, te, cs⟩, ⟨a1, b1, st1, te1, cs1⟩, ⟨a2, b2, st2, te2, cs2⟩, ⟨a3, b3, st3, te3, cs3⟩] ([⟨a, b, st, te, cs⟩, ⟨a1, b1, st1, te1, cs1⟩, ⟨a2, b2, st2, te2, cs2⟩, ⟨a3, b3, st3, te3, cs3⟩] : List S26).length 0) (fun k => (storagebarterlaw28_DutySteps.mono_l k).2.1 _ _ _ _ _ _ _) (show k ≤ k + k1 + k2 + k3 by omega) hk
  have f1 := at_rounds (g := fun k => storagebarterplay_Dice_Odd.f k s 0) (storagebarterplay_Dice_Odd.mono _ _) (show k1 ≤ k + k1 + k2 + k3 by omega) e1
  have f2 := at_rounds (g := fun k => storagebarterplay_Dice_Odd.f k s q1) (storagebarterplay_Dice_Odd.mono _ _) (show k2 ≤ k + k1 + k2 + k3 by omega) e2
  have f3 := at_rounds (g := fun k => storagebarterplay_Dice_Arrangement.f k s q2 4) (storagebarterplay_Dice_Arrangement.mono _ _ _) (show k3 ≤ k + k1 + k2 + k3 by omega) e3
  rw [storagebarterlaw28_DutySteps.j0, if_neg (by simp), hn]
  simp only [Option.bind_some]
  rw [f1]
  simp only [Option.bind_some]
  rw [f2]
  simp only [Option.bind_some]
  rw [f3]
  simp only [Option.bind_some]
  exact f0
theorem DutySteps : storagebarterlaw28_DutySteps.Pure := by
  intro l0 a b st te cs x2 x3 x4 x5 _ _ hw _ _ _ _ _
  by_cases c1 : (cs.length : Int) > 20
  · refine ⟨100, ?_⟩
    unfold storagebarterlaw28_DutySteps.f
    rw [sane_ok 100 (Nat.le_refl _)]
    simp only [Option.bind_some, if_true]
    rw [if_pos c1, storagebarterlaw28_DutySteps.j0, if_pos rfl]
  by_cases c2 : (x5.length : Int) > 20
  · refine ⟨100, ?_⟩
    unfold storagebarterlaw28_DutySteps.f
    rw [sane_ok 100 (Nat.le_refl _)]
    simp only [Option.bind_some, if_true]
    rw [if_neg c1, decide_eq_true c2, storagebarterlaw28_DutySteps.j0, if_pos rfl]
  obtain ⟨k, hk⟩ := st_j0 hw x2 x3 x4 x5 (by omega) a b st te cs (by omega)
  refine ⟨k + 100, ?_⟩
  unfold storagebarterlaw28_DutySteps.f
  rw [sane_ok (k + 100) (by omega)]
  simp only [Option.bind_some, if_true]
  rw [if_neg c1, decide_eq_false c2]
  exact at_rounds (g := fun k => storagebarterlaw28_DutySteps.j0 k l0 x2 x3 x4 x5 false a b st te cs) (fun k => (storagebarterlaw28_DutySteps.mono_l k).1 _ _ _ _ _ _ _ _ _ _ _) (show k ≤ k + 100 by omega) hk

end Go.Proofs.YtgckkjgemkabnaaDoor.Pure
