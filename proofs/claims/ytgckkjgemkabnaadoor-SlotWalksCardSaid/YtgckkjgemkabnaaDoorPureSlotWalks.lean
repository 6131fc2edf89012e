/- The law SlotWalks answers true for every input: what its printed functions compute, in plain Lean. -/
import Derived.Test.YtgckkjgemkabnaaDoorPSlotWalksx13
set_option linter.unusedVariables false
set_option linter.unusedSimpArgs false
set_option maxRecDepth 100000
namespace Go.Proofs.YtgckkjgemkabnaaDoor.Pure
open Go.RowKit Go.Proofs.YtgckkjgemkabnaaDoor.PSlotWalks Go.Proofs.YtgckkjgemkabnaaDoorW.PrintWords Go.Proofs.YtgckkjgemkabnaaDoorW.PrintMore Go.Proofs.YtgckkjgemkabnaaDoorW.PrintLast

theorem at_rounds {α : Type} {g : Nat → Option α} (h : ∀ k, LeO (g k) (g (k + 1))) {k k' : Nat} (hk : k ≤ k') {r : α} (hr : g k = some r) : g k' = some r := by
  induction hk with
  | refl => exact hr
  | step _ ih => exact h _ _ ih

theorem w64 {n : Int} (h0 : 0 ≤ n) (h1 : n < 9223372036854775808) : wrap64 n = n := by unfold wrap64; omega
theorem drop_next {α : Type} {l : List α} {i : Int} {e : α} {t : List α} (h0 : 0 ≤ i) (h : l.drop i.toNat = e :: t) : l.drop (i + 1).toNat = t := by
  have e1 : (i + 1).toNat = i.toNat + 1 := by omega
  rw [e1, ← List.drop_drop, h]; rfl
theorem drop_len {α : Type} {l : List α} {i : Int} {t : List α} (h0 : 0 ≤ i) (hi : i ≤ l.length) (h : l.drop i.toNat = t) : (l.length : Int) = i + t.length := by
  rw [← h, List.length_drop]; omega
theorem getD_at {α : Type} {d : α} {l : List α} {i : Int} {e : α} {t : List α} (h : l.drop i.toNat = e :: t) : l.getD i.toNat d = e := by
  have : (l.drop i.toNat)[0]? = some e := by rw [h]; rfl
  rw [List.getElem?_drop] at this
  simp [List.getD_eq_getElem?_getD] at this ⊢
  rw [this]; rfl
/-! the dice: seeds are bytes, what is picked lies in the range, the place stays in the list -/
def Seeds (l : List Int) : Prop := l.length ≤ 300 ∧ ∀ x ∈ l, 0 ≤ x ∧ x ≤ 255
theorem new_ok {l : List Int} (h : ∀ x ∈ l, (Lit.int .u8 x).wf = true) : ∃ s, storagebarterplay_New.f l = some (s, 0) ∧ Seeds s := by
  have h' : ∀ x ∈ l, 0 ≤ x ∧ x ≤ 255 := fun x hx => by
    have := h x hx
    simp [Lit.wf, IntKind.min, IntKind.max, IntKind.signed, IntKind.bits] at this; omega
  unfold storagebarterplay_New.f
  by_cases q : (l.length : Int) > 300
  · rw [if_pos q, if_pos (by omega)]
    exact ⟨_, rfl, by rw [List.length_take]; omega, fun x hx => h' x (List.mem_of_mem_take hx)⟩
  · rw [if_neg q]
    exact ⟨_, rfl, by omega, h'⟩
theorem pick_ok {l : List Int} {p n : Int} (hs : Seeds l) (h0 : 0 ≤ p) (h1 : p ≤ l.length) (hn : 1 ≤ n) : ∃ r q, storagebarterplay_Dice_Pick.f l p n = some (r, q) ∧ 0 ≤ r ∧ r < n ∧ 0 ≤ q ∧ q ≤ l.length := by
  have hl := hs.1
  unfold storagebarterplay_Dice_Pick.f
  by_cases hp : p ≥ (l.length : Int)
  · rw [if_pos hp]; exact ⟨_, _, rfl, by omega, by omega, h0, h1⟩
  · rw [if_neg hp, w64 (n := p + 1) (by omega) (by omega), show p + 1 - 1 = p by omega, w64 (n := p) (by omega) (by omega), if_pos h0, if_pos (by omega), if_neg (by omega)]
    have hm : rd l p ∈ l := by
      have hi : p.toNat < l.length := by omega
      unfold rd
      rw [List.getD_eq_getElem?_getD, List.getElem?_eq_getElem hi]
      exact List.getElem_mem hi
    have hb := hs.2 _ hm
    rw [w64 (n := rd l p) (by omega) (by omega)]
    exact ⟨_, _, rfl, Int.tmod_nonneg _ hb.1, Int.tmod_lt_of_pos _ (by omega), by omega, by omega⟩

/-! arrangements: what the dice make is valid -/
def checksOK (st te : Int) (cs : List Int) : Prop := (∀ x ∈ cs, st < x ∧ x ≤ st + te) ∧ cs.Pairwise (· < ·)
theorem arr_l0 {l : List Int} (hs : Seeds l) (a b st te : Int) (h1 : 0 ≤ st) (h2 : st ≤ 100) (h3 : te ≤ 100) : ∀ (n : Nat) (t p : Int) (cs : List Int), t + n = st + te + 1 → st < t → 0 ≤ p → p ≤ l.length → (∀ x ∈ cs, st < x ∧ x < t) → cs.Pairwise (· < ·) → cs.length + n ≤ 1000 → ∃ k cs' q, storagebarterplay_Dice_Arrangement.l0 k t l p a b st te cs = some (a, b, st, te, cs', q) ∧ checksOK st te cs' ∧ cs'.length ≤ 1000 ∧ 0 ≤ q ∧ q ≤ l.length
  | 0, t, p, cs, ht, hst, hp0, hp1, hc, hw, hn => by
    refine ⟨1, cs, p, ?_, ⟨fun x hx => by have := hc x hx; omega, hw⟩, by omega, hp0, hp1⟩
    rw [storagebarterplay_Dice_Arrangement.l0, w64 (n := st + te) (by omega) (by omega), if_neg (by omega)]
  | n + 1, t, p, cs, ht, hst, hp0, hp1, hc, hw, hn => by
    push_cast at ht
    obtain ⟨r, q, e, r0, r1, q0, q1⟩ := pick_ok hs hp0 hp1 (n := 3) (by omega)
    by_cases hz : r = 0
    · obtain ⟨k, cs', q', hk, hk2, hk3, hk4, hk5⟩ := arr_l0 hs a b st te h1 h2 h3 n (t + 1) q (cs ++ [t]) (by omega) (by omega) q0 q1 (fun x hx => by
        rcases List.mem_append.mp hx with h | h
        · have := hc x h; omega
        · rw [List.mem_singleton] at h; omega) (List.pairwise_append.mpr ⟨hw, List.pairwise_singleton _ _, fun x hx y hy => by rw [List.mem_singleton] at hy; have := hc x hx; omega⟩) (by simp; omega)
      refine ⟨k + 1, cs', q', ?_, hk2, hk3, hk4, hk5⟩
      rw [storagebarterplay_Dice_Arrangement.l0, w64 (n := st + te) (by omega) (by omega), if_pos (by omega), e]
      simp only [Option.bind_some]
      rw [if_pos hz, if_pos (by omega), w64 (n := t + 1) (by omega) (by omega), hk]
    · obtain ⟨k, cs', q', hk, hk2, hk3, hk4, hk5⟩ := arr_l0 hs a b st te h1 h2 h3 n (t + 1) q cs (by omega) (by omega) q0 q1 (fun x hx => by have := hc x hx; omega) hw (by omega)
      refine ⟨k + 1, cs', q', ?_, hk2, hk3, hk4, hk5⟩
      rw [storagebarterplay_Dice_Arrangement.l0, w64 (n := st + te) (by omega) (by omega), if_pos (by omega), e]
      simp only [Option.bind_some]
      rw [if_neg hz, w64 (n := t + 1) (by omega) (by omega), hk]
theorem arr_ok {l : List Int} (hs : Seeds l) {p n : Int} (hp0 : 0 ≤ p) (hp1 : p ≤ l.length) (hn : 2 ≤ n) (hn2 : n ≤ 16) : ∃ k a b st te cs q, storagebarterplay_Dice_Arrangement.f k l p n = some (a, b, st, te, cs, q) ∧ 1 ≤ a ∧ a ≤ n ∧ 1 ≤ b ∧ b ≤ n ∧ a ≠ b ∧ 0 ≤ st ∧ st ≤ 2 ∧ 1 ≤ te ∧ te ≤ 3 ∧ checksOK st te cs ∧ cs.length ≤ 1000 ∧ 0 ≤ q ∧ q ≤ l.length := by
  obtain ⟨r1, q1, e1, a1, b1, m1, n1⟩ := pick_ok hs hp0 hp1 (n := n) (by omega)
  obtain ⟨r2, q2, e2, a2, b2, m2, n2⟩ := pick_ok hs m1 n1 (n := 3) (by omega)
  obtain ⟨r3, q3, e3, a3, b3, m3, n3⟩ := pick_ok hs m2 n2 (n := 3) (by omega)
  obtain ⟨r4, q4, e4, a4, b4, m4, n4⟩ := pick_ok hs m3 n3 (n := n - 1) (by omega)
  have hsec : ∃ s, (1 + r1 + r4).tmod n = s ∧ 0 ≤ s ∧ s < n ∧ s ≠ r1 := by
    refine ⟨_, rfl, Int.tmod_nonneg _ (by omega), Int.tmod_lt_of_pos _ (by omega), ?_⟩
    rw [Int.tmod_eq_emod_of_nonneg (by omega)]
    rcases Int.lt_or_le (1 + r1 + r4) n with h | h
    · rw [Int.emod_eq_of_lt (by omega) h]; omega
    · rw [show (1 + r1 + r4) % n = 1 + r1 + r4 - n from by rw [← Int.sub_emod_right, Int.emod_eq_of_lt (by omega) (by omega)]]; omega
  obtain ⟨s, hs', s0, s1, s2⟩ := hsec
  obtain ⟨k, cs, q, hk, hk2, hk3, hk4, hk5⟩ := arr_l0 hs (1 + r1) (1 + s) r2 (1 + r3) a2 (by omega) (by omega) (1 + r3).toNat (r2 + 1) q4 [] (by omega) (by omega) m4 n4 (fun x hx => by cases hx) List.Pairwise.nil (by simp; omega)
  refine ⟨k, 1 + r1, 1 + s, r2, 1 + r3, cs, q, ?_, by omega, by omega, by omega, by omega, by omega, by omega, by omega, by omega, by omega, hk2, hk3, hk4, hk5⟩
  unfold storagebarterplay_Dice_Arrangement.f
  rw [e1]
  simp only [Option.bind_some]
  rw [e2]
  simp only [Option.bind_some]
  rw [e3]
  simp only [Option.bind_some]
  rw [w64 (n := n - 1) (by omega) (by omega), e4]
  simp only [Option.bind_some]
  rw [if_neg (by omega), w64 (n := r2 + 1) (by omega) (by omega), w64 (n := 1 + r1) (by omega) (by omega), w64 (n := 1 + r1 + r4) (by omega) (by omega), hs', w64 (n := 1 + s) (by omega) (by omega), w64 (n := 1 + r3) (by omega) (by omega), hk]
theorem valid_l0 (a b st te : Int) (cs : List Int) (hl : cs.length ≤ 1000) (h0 : 0 ≤ st) (h1 : st + te ≤ 1000) (ht : 0 ≤ te) : ∀ (t : List Int) (last i : Int), 0 ≤ i → i ≤ cs.length → cs.drop i.toNat = t → (∀ x ∈ t, last < x ∧ x ≤ st + te) → t.Pairwise (· < ·) → ∃ k, duty_Valid.l0 k last cs cs.length i a b st te cs = some true
  | [], last, i, hi0, hi, hd, hb, hw => by
    have := drop_len hi0 hi hd
    exact ⟨1, by rw [duty_Valid.l0, if_neg (by simp at this; omega)]⟩
  | e :: t, last, i, hi0, hi, hd, hb, hw => by
    have hl2 := drop_len hi0 hi hd
    have hr : rd cs i = e := getD_at hd
    rw [List.length_cons] at hl2
    push_cast at hl2
    have he := hb e (List.mem_cons_self ..)
    have hw' := List.pairwise_cons.mp hw
    obtain ⟨k, hk⟩ := valid_l0 a b st te cs hl h0 h1 ht t e (i + 1) (by omega) (by omega) (drop_next hi0 hd) (fun x hx => ⟨hw'.1 x hx, (hb x (List.mem_cons_of_mem _ hx)).2⟩) hw'.2
    refine ⟨k + 1, ?_⟩
    rw [duty_Valid.l0, if_pos (by omega), if_pos hi0, if_pos (by omega), hr, if_neg (by omega), w64 (n := st + te) (by omega) (by omega), if_neg (by omega), w64 (n := i + 1) (by omega) (by omega), hk]
theorem valid_true {a b st te : Int} {cs : List Int} (ha : 1 ≤ a ∧ a ≤ 16) (hb : 1 ≤ b ∧ b ≤ 16) (hab : a ≠ b) (h0 : 0 ≤ st) (h1 : 1 ≤ te) (h2 : te ≤ 16) (h3 : st + te ≤ 16) (hc : checksOK st te cs) (hl : cs.length ≤ 1000) : ∃ k, duty_Valid.f k a b st te cs = some true := by
  obtain ⟨k, hk⟩ := valid_l0 a b st te cs hl h0 (by omega) (by omega) cs st 0 (Int.le_refl _) (by omega) rfl hc.1 hc.2
  refine ⟨k + 1, ?_⟩
  unfold duty_Valid.f duty_person.f
  rw [if_pos (by omega), if_pos (by omega)]
  simp only [Option.bind_some]
  rw [decide_eq_true (by omega), if_pos rfl, decide_eq_true (by omega), if_pos rfl, if_neg hab, if_neg (by omega), if_neg (by omega), if_neg (by omega), w64 (n := 16 - te) (by omega) (by omega), decide_eq_false (by omega), duty_Valid.j0, if_neg (by simp), hk]
theorem plan_ok {a b st te slot : Int} {cs : List Int} {settle : Bool} (hs0 : 0 ≤ slot) (hs1 : slot < 6) (ha : 1 ≤ a ∧ a ≤ 16) (hb : 1 ≤ b ∧ b ≤ 16) (hab : a ≠ b) (h0 : 0 ≤ st) (h1 : 1 ≤ te) (h2 : te ≤ 16) (h3 : st + te ≤ 16) (hc : checksOK st te cs) (hl : cs.length ≤ 1000) : ∃ k, duty_Plan.f k a b st te cs slot settle = some (planL a b st te cs slot settle, 0) := by
  obtain ⟨k, hk⟩ := valid_true ha hb hab h0 h1 h2 h3 hc hl
  refine ⟨k, ?_⟩
  unfold duty_Plan.f
  rw [if_neg (by omega), if_neg (by omega), hk]
  rfl

theorem planT_length (s p q : Int) (l : List Int) : ∀ (n : Nat) (t : Int), (planT s p q l n t).length ≤ 4 * n
  | 0, _ => Nat.le_refl _
  | n + 1, t => by
    have ih := planT_length s p q l n (t + 1)
    rw [planT, List.length_append, List.length_append, bothL_length]
    split
    · rw [bothL_length]; simp; omega
    · simp; omega
theorem planL_22 (a b st te slot : Int) (cs : List Int) (settle : Bool) (h : te ≤ 3) : (planL a b st te cs slot settle).length ≤ 22 := by
  have ht := planT_length slot a b cs te.toNat (st + 1)
  have hn : te.toNat ≤ 3 := by omega
  unfold planL
  rw [List.length_append, List.length_append, bothL_length]
  cases settle
  · simp; omega
  · rw [if_pos rfl, bothL_length]; simp; omega

/-! whose duties a plan has -/
theorem bothL_mem {t s a b : Int} {ks : List Int} {z : S36} (h : z ∈ bothL t s a b ks) : z.f0 = t ∧ z.f1 = s ∧ (z.f2 = a ∨ z.f2 = b) := by
  unfold bothL at h
  obtain ⟨k, hk, h⟩ := List.mem_flatMap.1 h
  rcases List.mem_cons.1 h with rfl | h
  · exact ⟨rfl, rfl, Or.inl rfl⟩
  · rw [List.mem_singleton.1 h]; exact ⟨rfl, rfl, Or.inr rfl⟩
theorem planT_mem {s p q : Int} {l : List Int} : ∀ {n : Nat} {t : Int} {z : S36}, z ∈ planT s p q l n t → t ≤ z.f0 ∧ z.f0 < t + n ∧ z.f1 = s ∧ (z.f2 = p ∨ z.f2 = q)
  | 0, t, z, h => by simp [planT] at h
  | n + 1, t, z, h => by
    rw [planT] at h
    push_cast
    rcases List.mem_append.1 h with h | h
    · rcases List.mem_append.1 h with h | h
      · have := bothL_mem h; exact ⟨by omega, by omega, this.2.1, this.2.2⟩
      · by_cases c : t ∈ l
        · rw [if_pos c] at h
          have := bothL_mem h; exact ⟨by omega, by omega, this.2.1, this.2.2⟩
        · rw [if_neg c] at h; cases h
    · have := planT_mem h; exact ⟨by omega, by omega, this.2.2.1, this.2.2.2⟩
theorem planL_mem {a b st te slot : Int} {cs : List Int} {settle : Bool} {z : S36} (h : z ∈ planL a b st te cs slot settle) : z.f1 = slot ∧ (z.f2 = a ∨ z.f2 = b) := by
  unfold planL at h
  rcases List.mem_append.1 h with h | h
  · rcases List.mem_append.1 h with h | h
    · exact (bothL_mem h).2
    · exact (planT_mem h).2.2
  · cases settle
    · rw [if_neg (by decide)] at h; cases h
    · rw [if_pos rfl] at h; exact (bothL_mem h).2

theorem planL_length (a b st te slot : Int) (cs : List Int) (settle : Bool) (h : te ≤ 16) : (planL a b st te cs slot settle).length ≤ 100 := by
  have ht := planT_length slot a b cs te.toNat (st + 1)
  have hn : te.toNat ≤ 16 := by omega
  unfold planL
  rw [List.length_append, List.length_append, bothL_length]
  cases settle
  · simp; omega
  · rw [if_pos rfl, bothL_length]; simp; omega
/-! ### which arrangements are valid -/
theorem rvalid_l0 : ∀ (k : Nat) (x : Int) (i : Int) (a b st te : Int) (cs : List Int), storagebarterref28_Valid.l0 k x i a b st te cs = duty_Valid.l0 k x cs (cs.length : Int) i a b st te cs
  | 0, _, _, _, _, _, _, _ => by rw [storagebarterref28_Valid.l0, duty_Valid.l0]
  | k + 1, x, i, a, b, st, te, cs => by
    rw [storagebarterref28_Valid.l0, duty_Valid.l0, rvalid_l0 k]
    by_cases c : i < (cs.length : Int)
    · simp only [if_pos c]
    · simp only [if_neg c]
theorem rvalid_j0 (k : Nat) (c : Bool) (a b st te : Int) (cs : List Int) : storagebarterref28_Valid.j0 k c a b st te cs = duty_Valid.j0 k c a b st te cs := by
  cases k with
  | zero => rw [storagebarterref28_Valid.j0, duty_Valid.j0]
  | succ k => rw [storagebarterref28_Valid.j0, duty_Valid.j0, rvalid_l0]
theorem person_eq (n : Int) : duty_person.f n = some (decide (1 ≤ n ∧ n ≤ 16)) := by
  unfold duty_person.f
  by_cases h : n ≥ 1
  · rw [if_pos h]
    congr 1
    simp; omega
  · rw [if_neg h]
    congr 1
    simp; omega
def okA (a b st te : Int) : Prop := 1 ≤ a ∧ a ≤ 16 ∧ 1 ≤ b ∧ b ≤ 16 ∧ a ≠ b ∧ 0 ≤ st ∧ 1 ≤ te ∧ te ≤ 16 ∧ st + te ≤ 16
instance (a b st te : Int) : Decidable (okA a b st te) := by unfold okA; infer_instance
theorem valid_j (k : Nat) (a b st te : Int) (cs : List Int) : duty_Valid.f k a b st te cs = duty_Valid.j0 k (!(decide (okA a b st te))) a b st te cs := by
  unfold duty_Valid.f
  rw [person_eq, person_eq]
  simp only [Option.bind_some]
  by_cases h : okA a b st te
  · rw [decide_eq_true h]
    obtain ⟨a1, a2, b1, b2, hab, s0, t1, t2, h3⟩ := h
    rw [decide_eq_true (show 1 ≤ a ∧ a ≤ 16 from ⟨a1, a2⟩), if_pos rfl, decide_eq_true (show 1 ≤ b ∧ b ≤ 16 from ⟨b1, b2⟩), if_pos rfl, if_neg hab, if_neg (by omega), if_neg (by omega), if_neg (by omega), w64 (n := 16 - te) (by omega) (by omega), decide_eq_false (by omega)]
    rfl
  · rw [decide_eq_false h]
    by_cases ha : 1 ≤ a ∧ a ≤ 16
    · rw [decide_eq_true ha, if_pos rfl]
      by_cases hb : 1 ≤ b ∧ b ≤ 16
      · rw [decide_eq_true hb, if_pos rfl]
        by_cases hab : a = b
        · rw [if_pos hab]; rfl
        · rw [if_neg hab]
          by_cases hs : st < 0
          · rw [if_pos hs]; rfl
          · rw [if_neg hs]
            by_cases ht : te < 1
            · rw [if_pos ht]; rfl
            · rw [if_neg ht]
              by_cases ht2 : te > 16
              · rw [if_pos ht2]; rfl
              · rw [if_neg ht2, w64 (n := 16 - te) (by omega) (by omega), decide_eq_true (show st > 16 - te by unfold okA at h; omega)]; rfl
      · rw [decide_eq_false hb, if_neg (by simp)]; rfl
    · rw [decide_eq_false ha, if_neg (by simp)]; rfl
theorem rvalid_j (k : Nat) (a b st te : Int) (cs : List Int) : storagebarterref28_Valid.f k a b st te cs = duty_Valid.j0 k (!(decide (okA a b st te))) a b st te cs := by
  unfold storagebarterref28_Valid.f
  simp only [rvalid_j0]
  by_cases h : okA a b st te
  · rw [decide_eq_true h]
    obtain ⟨a1, a2, b1, b2, hab, s0, t1, t2, h3⟩ := h
    rw [if_neg hab, if_neg (by omega), if_neg (by omega), if_neg (by omega), if_neg (by omega), if_neg (by omega), if_neg (by omega), if_neg (by omega), if_neg (by omega), w64 (n := st + te) (by omega) (by omega), decide_eq_false (by omega)]
    rfl
  · rw [decide_eq_false h]
    by_cases c1 : a = b
    · rw [if_pos c1]; rfl
    rw [if_neg c1]
    by_cases c2 : a < 1
    · rw [if_pos c2]; rfl
    rw [if_neg c2]
    by_cases c3 : a > 16
    · rw [if_pos c3]; rfl
    rw [if_neg c3]
    by_cases c4 : b < 1
    · rw [if_pos c4]; rfl
    rw [if_neg c4]
    by_cases c5 : b > 16
    · rw [if_pos c5]; rfl
    rw [if_neg c5]
    by_cases c6 : st < 0
    · rw [if_pos c6]; rfl
    rw [if_neg c6]
    by_cases c7 : st > 16
    · rw [if_pos c7]; rfl
    rw [if_neg c7]
    by_cases c8 : te < 1
    · rw [if_pos c8]; rfl
    rw [if_neg c8]
    by_cases c9 : te > 16
    · rw [if_pos c9]; rfl
    rw [if_neg c9, w64 (n := st + te) (by omega) (by omega), decide_eq_true (show st + te > 16 by unfold okA at h; omega)]; rfl
theorem rvalid (k : Nat) (a b st te : Int) (cs : List Int) : storagebarterref28_Valid.f k a b st te cs = duty_Valid.f k a b st te cs := (rvalid_j ..).trans (valid_j ..).symm
theorem valid_some_l0 (a b st te : Int) (cs : List Int) (hl : cs.length ≤ 100000) : ∀ (t : List Int) (x i : Int), 0 ≤ i → i ≤ cs.length → cs.drop i.toNat = t → ∃ k v, duty_Valid.l0 k x cs (cs.length : Int) i a b st te cs = some v
  | [], x, i, h0, hi, hd => by
    have := drop_len h0 hi hd
    exact ⟨1, true, by rw [duty_Valid.l0, if_neg (by simp at this; omega)]⟩
  | e :: t, x, i, h0, hi, hd => by
    have hl2 := drop_len h0 hi hd
    rw [List.length_cons] at hl2
    push_cast at hl2
    obtain ⟨k, v, hk⟩ := valid_some_l0 a b st te cs hl t (rd cs i) (i + 1) (by omega) (by omega) (drop_next h0 hd)
    by_cases c1 : rd cs i ≤ x
    · exact ⟨1, false, by rw [duty_Valid.l0, if_pos (by omega), if_pos h0, if_pos (by omega), if_pos c1]⟩
    · by_cases c2 : rd cs i > wrap64 (st + te)
      · exact ⟨1, false, by rw [duty_Valid.l0, if_pos (by omega), if_pos h0, if_pos (by omega), if_neg c1, if_pos c2]⟩
      · exact ⟨k + 1, v, by rw [duty_Valid.l0, if_pos (by omega), if_pos h0, if_pos (by omega), if_neg c1, if_neg c2, w64 (n := i + 1) (by omega) (by omega), hk]⟩
theorem valid_some (a b st te : Int) (cs : List Int) (hl : cs.length ≤ 100000) : ∃ k v, duty_Valid.f k a b st te cs = some v := by
  obtain ⟨k, v, hk⟩ := valid_some_l0 a b st te cs hl cs st 0 (Int.le_refl _) (by omega) rfl
  by_cases h : okA a b st te
  · refine ⟨k + 1, v, ?_⟩
    rw [valid_j, decide_eq_true h, duty_Valid.j0, if_neg (by decide), hk]
  · refine ⟨1, false, ?_⟩
    rw [valid_j, decide_eq_false h, duty_Valid.j0, if_pos (show (!false) = true from rfl)]
/-! ### plans -/
theorem has_l0 (cs : List Int) (hl : cs.length ≤ 100000) (x : Int) : ∀ (t : List Int) (i : Int), 0 ≤ i → i ≤ cs.length → cs.drop i.toNat = t → ∃ k, storagebarterref28_Has.l0 k cs x i = some (decide (x ∈ t))
  | [], i, h0, hi, hd => by
    have := drop_len h0 hi hd
    exact ⟨1, by rw [storagebarterref28_Has.l0, if_neg (by simp at this; omega)]; simp⟩
  | e :: t, i, h0, hi, hd => by
    have hl2 := drop_len h0 hi hd
    have hr : rd cs i = e := getD_at hd
    rw [List.length_cons] at hl2
    push_cast at hl2
    obtain ⟨k, hk⟩ := has_l0 cs hl x t (i + 1) (by omega) (by omega) (drop_next h0 hd)
    by_cases c : e = x
    · exact ⟨1, by rw [storagebarterref28_Has.l0, if_pos (by omega), if_pos h0, hr, if_pos c]; simp [c]⟩
    · refine ⟨k + 1, ?_⟩
      rw [storagebarterref28_Has.l0, if_pos (by omega), if_pos h0, hr, if_neg c, w64 (n := i + 1) (by omega) (by omega), hk]
      congr 1
      simp [Ne.symm c]
theorem has_ok (cs : List Int) (hl : cs.length ≤ 100000) (x : Int) : ∃ k, storagebarterref28_Has.f k cs x = some (decide (x ∈ cs)) := has_l0 cs hl x cs 0 (Int.le_refl _) (by omega) rfl
theorem both_eq (a b st te : Int) (cs : List Int) (t slot kd : Int) : storagebarterref28_both.f a b st te cs t slot kd = some (bothL t slot a b [kd]) := rfl
theorem rplan_l1 (a b st te slot : Int) (cs : List Int) (settle : Bool) (hl : cs.length ≤ 100000) (h0 : 0 ≤ st) (h1 : 1 ≤ te) (h2 : st + te ≤ 16) : ∀ (n : Nat) (t : Int) (acc : List S36), t + n = st + te + 1 → st < t → acc.length + 4 * n ≤ 1000 → ∃ k, storagebarterref28_Plan.l1 k slot settle acc t a b st te cs = some (acc ++ planT slot a b cs n t ++ (if settle = true then bothL (st + te + 1) slot a b [7] else []), 0)
  | 0, t, acc, ht, hs, hn => by
    refine ⟨1, ?_⟩
    rw [storagebarterref28_Plan.l1, w64 (n := st + te) (by omega) (by omega), if_neg (by omega)]
    cases settle
    · rw [if_neg (by decide)]; simp [planT]
    · rw [if_pos rfl, both_eq]
      simp only [Option.bind_some]
      rw [w64 (n := st + te + 1) (by omega) (by omega), if_pos (by rw [bothL_length]; simp; omega)]
      simp [planT]
  | n + 1, t, acc, ht, hs, hn => by
    push_cast at ht
    obtain ⟨k1, e1⟩ := has_ok cs hl t
    by_cases hm : t ∈ cs
    · obtain ⟨k, hk⟩ := rplan_l1 a b st te slot cs settle hl h0 h1 h2 n (t + 1) (acc ++ bothL t slot a b [5] ++ bothL t slot a b [6]) (by omega) (by omega) (by simp [bothL_length]; omega)
      have hk2 := at_rounds (g := fun k => storagebarterref28_Plan.l1 k slot settle (acc ++ bothL t slot a b [5] ++ bothL t slot a b [6]) (t + 1) a b st te cs) (fun k => (storagebarterref28_Plan.mono_l k).2.2 _ _ _ _ _ _ _ _ _) (show k ≤ k + k1 by omega) hk
      refine ⟨k + k1 + 1, ?_⟩
      rw [storagebarterref28_Plan.l1, w64 (n := st + te) (by omega) (by omega), if_pos (by omega), both_eq]
      simp only [Option.bind_some]
      rw [if_pos (by rw [bothL_length]; simp; omega), at_rounds (storagebarterref28_Has.mono _ _) (show k1 ≤ k + k1 by omega) e1]
      simp only [Option.bind_some]
      rw [if_pos (by simpa using hm), both_eq]
      simp only [Option.bind_some]
      rw [if_pos (by simp [bothL_length]; omega), w64 (n := t + 1) (by omega) (by omega), hk2]
      rw [planT, if_pos hm]
      simp
    · obtain ⟨k, hk⟩ := rplan_l1 a b st te slot cs settle hl h0 h1 h2 n (t + 1) (acc ++ bothL t slot a b [5]) (by omega) (by omega) (by simp [bothL_length]; omega)
      have hk2 := at_rounds (g := fun k => storagebarterref28_Plan.l1 k slot settle (acc ++ bothL t slot a b [5]) (t + 1) a b st te cs) (fun k => (storagebarterref28_Plan.mono_l k).2.2 _ _ _ _ _ _ _ _ _) (show k ≤ k + k1 by omega) hk
      refine ⟨k + k1 + 1, ?_⟩
      rw [storagebarterref28_Plan.l1, w64 (n := st + te) (by omega) (by omega), if_pos (by omega), both_eq]
      simp only [Option.bind_some]
      rw [if_pos (by rw [bothL_length]; simp; omega), at_rounds (storagebarterref28_Has.mono _ _) (show k1 ≤ k + k1 by omega) e1]
      simp only [Option.bind_some]
      rw [if_neg (by simpa using hm), w64 (n := t + 1) (by omega) (by omega), hk2]
      rw [planT, if_neg hm]
      simp
theorem rplan_l0 (a b st te slot : Int) (cs : List Int) (settle : Bool) (hl : cs.length ≤ 100000) (h0 : 0 ≤ st) (h1 : 1 ≤ te) (h2 : st + te ≤ 16) : ∃ k, storagebarterref28_Plan.l0 k slot settle [] 1 a b st te cs = some (planL a b st te cs slot settle, 0) := by
  obtain ⟨k, hk⟩ := rplan_l1 a b st te slot cs settle hl h0 h1 h2 te.toNat (st + 1) (bothL st slot a b [1] ++ bothL st slot a b [2] ++ bothL st slot a b [3] ++ bothL st slot a b [4]) (by omega) (by omega) (by simp [bothL_length]; omega)
  refine ⟨k + 5, ?_⟩
  rw [storagebarterref28_Plan.l0, if_pos (by omega), both_eq]
  simp only [Option.bind_some]
  rw [if_pos (by simp [bothL_length]), w64 (n := (1 : Int) + 1) (by omega) (by omega), show (1 : Int) + 1 = 2 from rfl, storagebarterref28_Plan.l0, if_pos (by omega), both_eq]
  simp only [Option.bind_some]
  rw [if_pos (by simp [bothL_length]), w64 (n := (2 : Int) + 1) (by omega) (by omega), show (2 : Int) + 1 = 3 from rfl, storagebarterref28_Plan.l0, if_pos (by omega), both_eq]
  simp only [Option.bind_some]
  rw [if_pos (by simp [bothL_length]), w64 (n := (3 : Int) + 1) (by omega) (by omega), show (3 : Int) + 1 = 4 from rfl, storagebarterref28_Plan.l0, if_pos (by omega), both_eq]
  simp only [Option.bind_some]
  rw [if_pos (by simp [bothL_length]), w64 (n := (4 : Int) + 1) (by omega) (by omega), show (4 : Int) + 1 = 5 from rfl, storagebarterref28_Plan.l0, if_neg (by omega), w64 (n := st + 1) (by omega) (by omega)]
  rw [List.nil_append, hk]
  simp [planL, bothL]
theorem plan_cases (a b st te : Int) (cs : List Int) (hl : cs.length ≤ 100000) : ∃ k v, duty_Valid.f k a b st te cs = some v ∧ (v = true → 1 ≤ te ∧ te ≤ 16 ∧ 0 ≤ st ∧ st ≤ 16 - te) := by
  obtain ⟨k, v, hv⟩ := valid_some a b st te cs hl
  exact ⟨k, v, hv, fun h => valid_ok (by rw [h] at hv; exact hv)⟩
/-- both plans: the same list, the same code -/
theorem plan_both (a b st te slot : Int) (cs : List Int) (settle : Bool) (hl : cs.length ≤ 100000) : ∃ k L e, duty_Plan.f k a b st te cs slot settle = some (L, e) ∧ storagebarterref28_Plan.f k a b st te cs slot settle = some (L, e) ∧ L.length ≤ 100 := by
  by_cases c0 : slot < 0
  · refine ⟨1, [], 1, by unfold duty_Plan.f; rw [if_pos c0], by unfold storagebarterref28_Plan.f; rw [if_pos c0, storagebarterref28_Plan.j0, if_pos rfl], by simp⟩
  by_cases c1 : slot ≥ 6
  · refine ⟨1, [], 1, by unfold duty_Plan.f; rw [if_neg c0, if_pos c1], by unfold storagebarterref28_Plan.f; rw [if_neg c0, decide_eq_true c1, storagebarterref28_Plan.j0, if_pos rfl], by simp⟩
  obtain ⟨k, v, hv, hok⟩ := plan_cases a b st te cs hl
  cases v
  · refine ⟨k + 1, [], 44, ?_, ?_, by simp⟩
    · unfold duty_Plan.f
      rw [if_neg c0, if_neg c1, at_rounds (duty_Valid.mono _ _ _ _ _) (show k ≤ k + 1 by omega) hv]
      rfl
    · unfold storagebarterref28_Plan.f
      rw [if_neg c0, decide_eq_false c1, storagebarterref28_Plan.j0, if_neg (by decide), rvalid, hv]
      rfl
  · obtain ⟨t1, t2, s0, s1⟩ := hok rfl
    obtain ⟨k2, h2⟩ := rplan_l0 a b st te slot cs settle hl s0 t1 (by omega)
    refine ⟨k + k2 + 1, planL a b st te cs slot settle, 0, ?_, ?_, planL_length _ _ _ _ _ _ _ t2⟩
    · unfold duty_Plan.f
      rw [if_neg c0, if_neg c1, at_rounds (duty_Valid.mono _ _ _ _ _) (show k ≤ k + k2 + 1 by omega) hv]
      rfl
    · unfold storagebarterref28_Plan.f
      rw [if_neg c0, decide_eq_false c1, storagebarterref28_Plan.j0, if_neg (by decide), rvalid, at_rounds (duty_Valid.mono _ _ _ _ _) (show k ≤ k + k2 by omega) hv]
      simp only [Option.bind_some, if_true]
      exact at_rounds (g := fun k => storagebarterref28_Plan.l0 k slot settle [] 1 a b st te cs) (fun k => (storagebarterref28_Plan.mono_l k).2.1 _ _ _ _ _ _ _ _ _) (show k2 ≤ k + k2 by omega) h2
/-! ### the same lists, totals, numbers -/

theorem do_ended (sd pe kd how : Int) (s : SlotS) (h : s.en = true) : doF sd pe kd how s = s := by unfold doF; rw [if_pos h]

theorem rd_mem36 {L : List S36} {i : Int} (h0 : 0 ≤ i) (h1 : i < L.length) : rd_T36 L i ∈ L := by
  have hi : i.toNat < L.length := by omega
  unfold rd_T36
  rw [List.getD_eq_getElem?_getD, List.getElem?_eq_getElem hi]
  exact List.getElem_mem hi

/-! ### the reference's step does what the slot's step does -/
theorem rcost (n : Int) : storagebarterref28_Cost.f n = some (costOf n) := by
  unfold storagebarterref28_Cost.f costOf
  by_cases h : n < 0
  · rw [if_pos h]
    rw [if_neg (by omega), if_neg (by omega), if_neg (by omega), if_neg (by omega), if_neg (by omega), if_neg (by omega), if_neg (by omega)]
  · rw [if_neg h]
    by_cases h8 : 8 ≤ n
    · rw [if_pos h8, if_neg (by omega), if_neg (by omega), if_neg (by omega), if_neg (by omega), if_neg (by omega), if_neg (by omega), if_neg (by omega)]
    · rw [if_neg h8]
      rcases (show n = 0 ∨ n = 1 ∨ n = 2 ∨ n = 3 ∨ n = 4 ∨ n = 5 ∨ n = 6 ∨ n = 7 by omega) with h | h | h | h | h | h | h | h <;> subst h <;> rfl
theorem how_cases {how : Int} (h0 : 0 ≤ how) (h1 : how ≤ 3) : how = 0 ∨ how = 1 ∨ how = 2 ∨ how = 3 := by omega
section
variable (m : Nat) (a b st te : Int) (cs : List Int) (sp tk sl pe : Int)
theorem rdo_keep (side how : Int) (hs : side = 0 ∨ side = 1) (hh : how = 0 ∨ how = 1 ∨ how = 2 ∨ how = 3) (s : SlotS) (he : s.en = false) : storagebarterref29_Step.j1 (m + 1) how side (if how = 0 then true else how == 2) a b st te cs sp s.c0 s.c1 s.h0 s.h1 s.t0 s.t1 s.en s.bl tk sl pe 5 = some (a, b, st, te, cs, sp, (doF side pe 5 how s).c0, (doF side pe 5 how s).c1, (doF side pe 5 how s).h0, (doF side pe 5 how s).h1, (doF side pe 5 how s).t0, (doF side pe 5 how s).t1, (doF side pe 5 how s).en, (doF side pe 5 how s).bl, 0) := by
  obtain ⟨c0, c1, h0, h1, t0, t1, en, bl⟩ := s
  dsimp only at he
  subst he
  have c5 : costOf 5 = 1 := rfl
  rcases hs with rfl | rfl <;> rcases hh with rfl | rfl | rfl | rfl <;> cases h0 <;> cases h1 <;> simp [storagebarterref29_Step.j1, doF, keepF, holdsF, payF, holdF, followsB, c5]
theorem rdo_answer (side how kd : Int) (hk : kd = 6 ∨ kd = 7) (hs : side = 0 ∨ side = 1) (hh : how = 0 ∨ how = 1 ∨ how = 2 ∨ how = 3) (s : SlotS) (he : s.en = false) : storagebarterref29_Step.j1 (m + 3) how side (if how = 0 then true else how == 2) a b st te cs sp s.c0 s.c1 s.h0 s.h1 s.t0 s.t1 s.en s.bl tk sl pe kd = some (a, b, st, te, cs, sp, (doF side pe kd how s).c0, (doF side pe kd how s).c1, (doF side pe kd how s).h0, (doF side pe kd how s).h1, (doF side pe kd how s).t0, (doF side pe kd how s).t1, (doF side pe kd how s).en, (doF side pe kd how s).bl, 0) := by
  obtain ⟨c0, c1, h0, h1, t0, t1, en, bl⟩ := s
  dsimp only at he
  subst he
  rcases hk with rfl | rfl <;> rcases hs with rfl | rfl <;> rcases hh with rfl | rfl | rfl | rfl <;> cases h0 <;> cases h1 <;> simp [storagebarterref29_Step.j1, storagebarterref29_Step.j2, storagebarterref29_Step.j3, storagebarterref29_End.f, rcost, doF, answerF, holdsF, payF, endF, followsB]
theorem rdo_begin (side how kd : Int) (h5 : kd ≠ 5) (h6 : kd ≠ 6) (h7 : kd ≠ 7) (hs : side = 0 ∨ side = 1) (hh : how = 0 ∨ how = 1 ∨ how = 2 ∨ how = 3) (s : SlotS) (he : s.en = false) : storagebarterref29_Step.j1 (m + 4) how side (if how = 0 then true else how == 2) a b st te cs sp s.c0 s.c1 s.h0 s.h1 s.t0 s.t1 s.en s.bl tk sl pe kd = some (a, b, st, te, cs, sp, (doF side pe kd how s).c0, (doF side pe kd how s).c1, (doF side pe kd how s).h0, (doF side pe kd how s).h1, (doF side pe kd how s).t0, (doF side pe kd how s).t1, (doF side pe kd how s).en, (doF side pe kd how s).bl, 0) := by
  obtain ⟨c0, c1, h0, h1, t0, t1, en, bl⟩ := s
  dsimp only at he
  subst he
  have c3 : costOf 3 = 1 := rfl
  by_cases k1 : kd = 1
  · subst k1
    rcases hs with rfl | rfl <;> rcases hh with rfl | rfl | rfl | rfl <;> simp [storagebarterref29_Step.j1, storagebarterref29_Step.j2, storagebarterref29_begin.f, storagebarterref29_begin.j0, storagebarterref29_begin.j1, storagebarterref29_End.f, rcost, doF, exchangeF, holdsF, payF, holdF, twistF, endF, followsB]
  by_cases k3 : kd = 3
  · subst k3
    rcases hs with rfl | rfl <;> rcases hh with rfl | rfl | rfl | rfl <;> simp [storagebarterref29_Step.j1, storagebarterref29_Step.j2, storagebarterref29_begin.f, storagebarterref29_begin.j0, storagebarterref29_begin.j1, storagebarterref29_End.f, rcost, doF, exchangeF, holdsF, payF, holdF, twistF, endF, followsB]
  by_cases k4 : kd = 4
  · subst k4
    rcases hs with rfl | rfl <;> rcases hh with rfl | rfl | rfl | rfl <;> simp [storagebarterref29_Step.j1, storagebarterref29_Step.j2, storagebarterref29_begin.f, storagebarterref29_begin.j0, storagebarterref29_begin.j1, storagebarterref29_End.f, rcost, doF, exchangeF, holdsF, payF, holdF, twistF, endF, followsB]
  rcases hs with rfl | rfl <;> rcases hh with rfl | rfl | rfl | rfl <;> simp [storagebarterref29_Step.j1, storagebarterref29_Step.j2, storagebarterref29_begin.f, storagebarterref29_begin.j0, storagebarterref29_begin.j1, storagebarterref29_End.f, rcost, doF, exchangeF, holdsF, payF, holdF, twistF, endF, followsB, h5, h6, h7, k1, k3, k4]
theorem rdo (side how kd : Int) (hs : side = 0 ∨ side = 1) (hh : how = 0 ∨ how = 1 ∨ how = 2 ∨ how = 3) (s : SlotS) (he : s.en = false) : storagebarterref29_Step.j1 (m + 4) how side (if how = 0 then true else how == 2) a b st te cs sp s.c0 s.c1 s.h0 s.h1 s.t0 s.t1 s.en s.bl tk sl pe kd = some (a, b, st, te, cs, sp, (doF side pe kd how s).c0, (doF side pe kd how s).c1, (doF side pe kd how s).h0, (doF side pe kd how s).h1, (doF side pe kd how s).t0, (doF side pe kd how s).t1, (doF side pe kd how s).en, (doF side pe kd how s).bl, 0) := by
  by_cases h5 : kd = 5
  · subst h5; exact rdo_keep (m + 3) a b st te cs sp tk sl pe side how hs hh s he
  by_cases h6 : kd = 6
  · exact rdo_answer (m + 1) a b st te cs sp tk sl pe side how kd (.inl h6) hs hh s he
  by_cases h7 : kd = 7
  · exact rdo_answer (m + 1) a b st te cs sp tk sl pe side how kd (.inr h7) hs hh s he
  exact rdo_begin m a b st te cs sp tk sl pe side how kd h5 h6 h7 hs hh s he
end
section
variable {k0 : Nat} {a b st te : Int} {cs : List Int} {L : List S36} (hp : storagebarterref28_Plan.f k0 a b st te cs 0 true = some (L, 0)) (hL2 : ∀ x ∈ L, x.f2 = a ∨ x.f2 = b)
include hp in
theorem rnext_some (k : Nat) (hk : k0 ≤ k) (sp : Int) (s : SlotS) (h0 : 0 ≤ sp) (h2 : sp < L.length) : storagebarterref29_Next.f k a b st te cs sp s.c0 s.c1 s.h0 s.h1 s.t0 s.t1 s.en s.bl = some ((rd_T36 L sp).f0, (rd_T36 L sp).f1, (rd_T36 L sp).f2, (rd_T36 L sp).f3, true) := by
  unfold storagebarterref29_Next.f
  rw [at_rounds (storagebarterref28_Plan.mono _ _ _ _ _ _ _) hk hp]
  simp only [Option.bind_some]
  rw [if_pos trivial, if_neg (by omega), if_neg (by omega), if_pos h0, if_pos h2]
include hp in
theorem rnext_none (k : Nat) (hk : k0 ≤ k) (sp : Int) (s : SlotS) (h0 : 0 ≤ sp) (h2 : ¬ sp < L.length) : storagebarterref29_Next.f k a b st te cs sp s.c0 s.c1 s.h0 s.h1 s.t0 s.t1 s.en s.bl = some (0, 0, 0, 0, false) := by
  unfold storagebarterref29_Next.f
  rw [at_rounds (storagebarterref28_Plan.mono _ _ _ _ _ _ _) hk hp]
  simp only [Option.bind_some]
  rw [if_pos trivial, if_neg (by omega), if_pos (by omega)]
include hp hL2 in
theorem rstep_some (k : Nat) (hk : k0 ≤ k) (hk5 : 5 ≤ k) (sp : Int) (s : SlotS) (how : Int) (h0 : 0 ≤ sp) (h1 : sp < 1000000) (h2 : sp < L.length) (hw0 : 0 ≤ how) (hw1 : how ≤ 3) (t : SlotS) (ht : t = doF (if (rd_T36 L sp).f2 = a then 0 else 1) (rd_T36 L sp).f2 (rd_T36 L sp).f3 how s) : storagebarterref29_Step.f k a b st te cs sp s.c0 s.c1 s.h0 s.h1 s.t0 s.t1 s.en s.bl how = some (a, b, st, te, cs, sp + 1, t.c0, t.c1, t.h0, t.h1, t.t0, t.t1, t.en, t.bl, 0) := by
  unfold storagebarterref29_Step.f
  rw [rnext_some hp k hk sp s h0 h2]
  simp only [Option.bind_some, if_true]
  obtain ⟨m, rfl⟩ : ∃ m, k = m + 5 := ⟨k - 5, by omega⟩
  rw [if_neg (by omega), decide_eq_false (by omega), storagebarterref29_Step.j0, if_neg (by simp), w64 (n := sp + 1) (by omega) (by omega)]
  by_cases he : s.en = true
  · rw [if_pos he, ht, do_ended _ _ _ _ _ he]
  · rw [if_neg he]
    have he' : s.en = false := by simpa using he
    have hside : storagebarterref29_Side.f a b st te cs (rd_T36 L sp).f2 = some (if (rd_T36 L sp).f2 = a then 0 else 1) := by
      unfold storagebarterref29_Side.f
      by_cases ha : (rd_T36 L sp).f2 = a
      · rw [if_pos ha, if_pos ha]
      · rw [if_neg ha, if_neg ha, if_pos ((hL2 _ (rd_mem36 h0 h2)).resolve_left ha)]
    rw [hside]
    simp only [Option.bind_some]
    have hr := rdo m a b st te cs (sp + 1) (rd_T36 L sp).f0 (rd_T36 L sp).f1 (rd_T36 L sp).f2 (if (rd_T36 L sp).f2 = a then 0 else 1) how (rd_T36 L sp).f3 (by split <;> simp) (how_cases hw0 hw1) s he'
    rw [← ht] at hr
    rw [← hr]
    by_cases hz : how = 0
    · rw [if_pos hz, if_pos hz]
    · rw [if_neg hz, if_neg hz]
include hp in
theorem rstep_none (k : Nat) (hk : k0 ≤ k) (sp : Int) (s : SlotS) (how : Int) (h0 : 0 ≤ sp) (h2 : ¬ sp < L.length) : storagebarterref29_Step.f k a b st te cs sp s.c0 s.c1 s.h0 s.h1 s.t0 s.t1 s.en s.bl how = some (a, b, st, te, cs, sp, s.c0, s.c1, s.h0, s.h1, s.t0, s.t1, s.en, s.bl, 5) := by
  unfold storagebarterref29_Step.f
  rw [rnext_none hp k hk sp s h0 h2]
  simp only [Option.bind_some]
  rw [if_neg (by simp)]
end
theorem sameints_l0 (L : List Int) (hl : L.length ≤ 100000) : ∀ (t : List Int) (i : Int), 0 ≤ i → i ≤ L.length → L.drop i.toNat = t → ∃ k, storagebarterref28_SameInts.l0 k L L i = some true
  | [], i, h0, hi, hd => by
    have := drop_len h0 hi hd
    exact ⟨1, by rw [storagebarterref28_SameInts.l0, if_neg (by simp at this; omega)]⟩
  | e :: t, i, h0, hi, hd => by
    have hl2 := drop_len h0 hi hd
    rw [List.length_cons] at hl2
    push_cast at hl2
    obtain ⟨k, hk⟩ := sameints_l0 L hl t (i + 1) (by omega) (by omega) (drop_next h0 hd)
    exact ⟨k + 1, by rw [storagebarterref28_SameInts.l0, if_pos (by omega), if_pos h0, if_pos (by omega), if_pos rfl, w64 (n := i + 1) (by omega) (by omega), hk]⟩
theorem sameints_ok (L : List Int) (hl : L.length ≤ 100000) : ∃ k, storagebarterref28_SameInts.f k L L = some true := by
  obtain ⟨k, hk⟩ := sameints_l0 L hl L 0 (Int.le_refl _) (by omega) rfl
  exact ⟨k, by unfold storagebarterref28_SameInts.f; rw [if_pos rfl, hk]⟩
theorem same_slot {k0 : Nat} {cs : List Int} (hc : storagebarterref28_SameInts.f k0 cs cs = some true) (a b st te sp : Int) (s : SlotS) (k : Nat) (hk : k0 ≤ k) : storagebarterref29_Same.f k a b st te cs sp s.c0 s.c1 s.h0 s.h1 s.t0 s.t1 s.en s.bl a b st te cs sp s.c0 s.c1 s.h0 s.h1 s.t0 s.t1 s.en s.bl = some true := by
  unfold storagebarterref29_Same.f storagebarterref28_SameArrangement.f
  rw [at_rounds (storagebarterref28_SameInts.mono _ _) hk hc]
  simp

section
variable {k0 : Nat} {a b st te : Int} {cs : List Int} {L : List S36} (hp : duty_Plan.f k0 a b st te cs 0 true = some (L, 0)) (hr : storagebarterref28_Plan.f k0 a b st te cs 0 true = some (L, 0)) (hq : storagebarterref28_SameInts.f k0 cs cs = some true) (hcl : cs.length ≤ 1000) (hL2 : ∀ x ∈ L, x.f2 = a ∨ x.f2 = b) (hLn : L.length ≤ 22)
include hp hcl hL2 in
theorem step_some (k : Nat) (hk : k0 ≤ k) (sp : Int) (s : SlotS) (how : Int) (h0 : 0 ≤ sp) (h1 : sp < 1000000) (h2 : sp < L.length) (hw0 : 0 ≤ how) (hw1 : how ≤ 3) (t : SlotS) (ht : t = doF (if (rd_T36 L sp).f2 = a then 0 else 1) (rd_T36 L sp).f2 (rd_T36 L sp).f3 how s) : slot_Step.f k a b st te cs sp s.c0 s.c1 s.h0 s.h1 s.t0 s.t1 s.en s.bl how = some (a, b, st, te, cs, sp + 1, t.c0, t.c1, t.h0, t.h1, t.t0, t.t1, t.en, t.bl, 0) := by
  subst ht
  unfold slot_Step.f
  rw [if_pos (by omega), at_rounds (duty_Plan.mono _ _ _ _ _ _ _) hk hp]
  simp only [Option.bind_some]
  rw [if_pos ⟨trivial, h0, h1⟩, if_pos h2, if_pos ⟨hw0, hw1, hL2 _ (rd_mem36 h0 h2)⟩]
include hp hcl in
theorem step_none (k : Nat) (hk : k0 ≤ k) (sp : Int) (s : SlotS) (how : Int) (h0 : 0 ≤ sp) (h1 : sp < 1000000) (h2 : ¬ sp < L.length) : slot_Step.f k a b st te cs sp s.c0 s.c1 s.h0 s.h1 s.t0 s.t1 s.en s.bl how = some (a, b, st, te, cs, sp, s.c0, s.c1, s.h0, s.h1, s.t0, s.t1, s.en, s.bl, 5) := by
  unfold slot_Step.f
  rw [if_pos (by omega), at_rounds (duty_Plan.mono _ _ _ _ _ _ _) hk hp]
  simp only [Option.bind_some]
  rw [if_pos ⟨trivial, h0, h1⟩, if_neg h2]
include hp hr hq hcl hL2 hLn in
theorem law_round {D : List Int} (sd : Seeds D) : ∀ (m : Nat) (n : Int) (q sp : Int) (s : SlotS), n + m = 60 → 0 ≤ n → n = sp → n ≤ L.length → 0 ≤ q → q ≤ D.length → ∃ k, storagebarterlaw29_SlotWalks.l0 k n D q a b st te cs sp s.c0 s.c1 s.h0 s.h1 s.t0 s.t1 s.en s.bl a b st te cs sp s.c0 s.c1 s.h0 s.h1 s.t0 s.t1 s.en s.bl = some true
  | 0, n, q, sp, s, hm, hn, hs, hle, hq0, hq1 => by omega
  | m + 1, n, q, sp, s, hm, hn, hs, hle, hq0, hq1 => by
    push_cast at hm
    -- the step, whatever is done
    have body : ∀ (how q' : Int), 0 ≤ how → how ≤ 3 → 0 ≤ q' → q' ≤ D.length → ∃ k, storagebarterlaw29_SlotWalks.j1 k n how D q' a b st te cs sp s.c0 s.c1 s.h0 s.h1 s.t0 s.t1 s.en s.bl a b st te cs sp s.c0 s.c1 s.h0 s.h1 s.t0 s.t1 s.en s.bl = some true := by
      intro how q' hw0 hw1 hq0' hq1'
      by_cases h2 : sp < L.length
      · obtain ⟨t, ht⟩ : ∃ t, t = doF (if (rd_T36 L sp).f2 = a then 0 else 1) (rd_T36 L sp).f2 (rd_T36 L sp).f3 how s := ⟨_, rfl⟩
        obtain ⟨k, hk⟩ := law_round sd m (n + 1) q' (sp + 1) t (by omega) (by omega) (by omega) (by omega) hq0' hq1'
        have hk2 := at_rounds (g := fun k => storagebarterlaw29_SlotWalks.l0 k (n + 1) D q' a b st te cs (sp + 1) t.c0 t.c1 t.h0 t.h1 t.t0 t.t1 t.en t.bl a b st te cs (sp + 1) t.c0 t.c1 t.h0 t.h1 t.t0 t.t1 t.en t.bl) (fun k => (storagebarterlaw29_SlotWalks.mono_l k).1 _ _ _ _ _ _ _ _ _ _ _ _ _ _ _ _ _ _ _ _ _ _ _ _ _ _ _ _ _ _ _) (show k ≤ k0 + k + 5 by omega) hk
        refine ⟨k0 + k + 5 + 1 + 1, ?_⟩
        rw [storagebarterlaw29_SlotWalks.j1, step_some hp hcl hL2 (k0 + k + 5 + 1) (by omega) sp s how (by omega) (by omega) h2 hw0 hw1 t ht]
        simp only [Option.bind_some]
        rw [rstep_some hr hL2 (k0 + k + 5 + 1) (by omega) (by omega) sp s how (by omega) (by omega) h2 hw0 hw1 t ht]
        simp only [Option.bind_some]
        rw [if_pos trivial, same_slot hq a b st te (sp + 1) t (k0 + k + 5 + 1) (by omega)]
        simp only [Option.bind_some]
        rw [storagebarterlaw29_SlotWalks.j2, if_neg (by simp), if_pos rfl, w64 (n := n + 1) (by omega) (by omega)]
        exact hk2
      · refine ⟨k0 + 1 + 1, ?_⟩
        rw [storagebarterlaw29_SlotWalks.j1, step_none hp hcl (k0 + 1) (by omega) sp s how (by omega) (by omega) h2]
        simp only [Option.bind_some]
        rw [rstep_none hr (k0 + 1) (by omega) sp s how (by omega) h2]
        simp only [Option.bind_some]
        rw [if_pos trivial, same_slot hq a b st te sp s (k0 + 1) (by omega)]
        simp only [Option.bind_some]
        rw [storagebarterlaw29_SlotWalks.j2, if_neg (by simp), if_neg (by decide)]
    obtain ⟨r, q1, e, r0, r1, a0, a1⟩ := pick_ok sd hq0 hq1 (n := 6) (by omega)
    by_cases hz : r = 0
    · obtain ⟨r', q2, e', r0', r1', a0', a1'⟩ := pick_ok sd a0 a1 (n := 4) (by omega)
      obtain ⟨k, hk⟩ := body r' q2 r0' (by omega) a0' a1'
      refine ⟨k + 1, ?_⟩
      rw [storagebarterlaw29_SlotWalks.l0, if_pos (by omega), e]
      simp only [Option.bind_some]
      rw [if_pos hz, e']
      simp only [Option.bind_some]
      exact hk
    · obtain ⟨k, hk⟩ := body 0 q1 (Int.le_refl _) (by omega) a0 a1
      refine ⟨k + 1, ?_⟩
      rw [storagebarterlaw29_SlotWalks.l0, if_pos (by omega), e]
      simp only [Option.bind_some]
      rw [if_neg hz]
      exact hk
end
theorem SlotWalks : storagebarterlaw29_SlotWalks.Pure := by
  intro l _ _ hw
  obtain ⟨s, hs, sd⟩ := new_ok hw
  obtain ⟨k, a, b, st, te, cs, q, ea, ha0, ha1, hb0, hb1, hab, hs0, hs1, ht0, ht1, hc, hl, q0, q1⟩ := arr_ok sd (p := 0) (Int.le_refl 0) (by omega) (n := 4) (by omega) (by omega)
  obtain ⟨k0, hp⟩ := plan_ok (slot := 0) (settle := true) (Int.le_refl 0) (by omega) (a := a) (b := b) (by omega) (by omega) hab hs0 ht0 (by omega) (by omega) hc hl
  obtain ⟨k1, hv⟩ := valid_true (a := a) (b := b) (by omega) (by omega) hab hs0 ht0 (by omega) (by omega) hc hl
  obtain ⟨k3, L, e, p1, p2, -⟩ := plan_both a b st te 0 cs true (by omega)
  obtain ⟨k4, hq⟩ := sameints_ok cs (by omega)
  have e1 := at_rounds (duty_Plan.mono _ _ _ _ _ _ _) (show k0 ≤ k0 + k3 + k4 by omega) hp
  have e2 := at_rounds (duty_Plan.mono _ _ _ _ _ _ _) (show k3 ≤ k0 + k3 + k4 by omega) p1
  have e3 := Option.some.inj (e1.symm.trans e2)
  have e4 := at_rounds (storagebarterref28_Plan.mono _ _ _ _ _ _ _) (show k3 ≤ k0 + k3 + k4 by omega) p2
  rw [← e3] at e4
  obtain ⟨k2, hk⟩ := law_round e1 e4 (at_rounds (storagebarterref28_SameInts.mono _ _) (show k4 ≤ k0 + k3 + k4 by omega) hq) hl (fun x hx => (planL_mem hx).2) (planL_22 _ _ _ _ _ _ _ ht1) sd 60 0 q 0 ⟨0, 0, false, false, false, false, false, 0⟩ (by omega) (Int.le_refl _) rfl (by omega) q0 q1
  have hn : slot_New.f (k + k1 + k2) a b st te cs = some (a, b, st, te, cs, 0, 0, 0, false, false, false, false, false, 0, 0) := by
    unfold slot_New.f
    rw [if_pos (by omega), at_rounds (duty_Valid.mono _ _ _ _ _) (show k1 ≤ k + k1 + k2 by omega) hv]
    simp only [Option.bind_some]
    rw [if_pos trivial]
  refine ⟨k + k1 + k2, ?_⟩
  unfold storagebarterlaw29_SlotWalks.f
  simp only [storagebarterlaw29_sane.f, Option.bind_some, if_true]
  rw [hs]
  simp only [Option.bind_some]
  rw [at_rounds (storagebarterplay_Dice_Arrangement.mono _ _ _) (show k ≤ k + k1 + k2 by omega) ea]
  simp only [Option.bind_some]
  rw [hn]
  simp only [Option.bind_some, if_true]
  exact at_rounds (g := fun k => storagebarterlaw29_SlotWalks.l0 k 0 s q a b st te cs 0 0 0 false false false false false 0 a b st te cs 0 0 0 false false false false false 0) (fun k => (storagebarterlaw29_SlotWalks.mono_l k).1 _ _ _ _ _ _ _ _ _ _ _ _ _ _ _ _ _ _ _ _ _ _ _ _ _ _ _ _ _ _ _) (show k2 ≤ k + k1 + k2 by omega) hk

end Go.Proofs.YtgckkjgemkabnaaDoor.Pure
