/- The law PayoffFollows answers true for every input: what its printed functions compute, in plain Lean. -/
import Derived.Test.YtgckkjgemkabnaaDoorPPayoffFollowsx12
set_option linter.unusedVariables false
set_option linter.unusedSimpArgs false
set_option maxRecDepth 100000
namespace Go.Proofs.YtgckkjgemkabnaaDoor.Pure
open Go.RowKit Go.Proofs.YtgckkjgemkabnaaDoor.PPayoffFollows Go.Proofs.YtgckkjgemkabnaaDoorW.PrintWords Go.Proofs.YtgckkjgemkabnaaDoorW.PrintMore Go.Proofs.YtgckkjgemkabnaaDoorW.PrintLast

theorem at_rounds {α : Type} {g : Nat → Option α} (h : ∀ k, LeO (g k) (g (k + 1))) {k k' : Nat} (hk : k ≤ k') {r : α} (hr : g k = some r) : g k' = some r := by
  induction hk with
  | refl => exact hr
  | step _ ih => exact h _ _ ih

theorem w64 {n : Int} (h0 : 0 ≤ n) (h1 : n < 9223372036854775808) : wrap64 n = n := by unfold wrap64; omega
theorem drop_next {α : Type} {l : List α} {i : Int} {e : α} {t : List α} (h0 : 0 ≤ i) (h : l.drop i.toNat = e :: t) : l.drop (i + 1).toNat = t := by
  have e1 : (i + 1).toNat = i.toNat + 1 := by omega
  rw [e1, ← List.drop_drop, h]; rfl
theorem drop_len {α : Type} {l : List α} {i : Int} {t : List α} (h0 : 0 ≤ i) (hi : i ≤ l.length) (h : l.drop i.toNat = t) : (l.length : Int) = i + t.length := by
  rw [← h, List.length_drop]; omega
theorem getD_at {α : Type} {d : α} {l : List α} {i : Int} {e : α} {t : List α} (h : l.drop i.toNat = e :: t) : l.getD i.toNat d = e := by
  have : (l.drop i.toNat)[0]? = some e := by rw [h]; rfl
  rw [List.getElem?_drop] at this
  simp [List.getD_eq_getElem?_getD] at this ⊢
  rw [this]; rfl
/-! the dice: seeds are bytes, what is picked lies in the range, the place stays in the list -/
def Seeds (l : List Int) : Prop := l.length ≤ 300 ∧ ∀ x ∈ l, 0 ≤ x ∧ x ≤ 255
theorem new_ok {l : List Int} (h : ∀ x ∈ l, (Lit.int .u8 x).wf = true) : ∃ s, storagebarterplay_New.f l = some (s, 0) ∧ Seeds s := by
  have h' : ∀ x ∈ l, 0 ≤ x ∧ x ≤ 255 := fun x hx => by
    have := h x hx
    simp [Lit.wf, IntKind.min, IntKind.max, IntKind.signed, IntKind.bits] at this; omega
  unfold storagebarterplay_New.f
  by_cases q : (l.length : Int) > 300
  · rw [if_pos q, if_pos (by omega)]
    exact ⟨_, rfl, by rw [List.length_take]; omega, fun x hx => h' x (List.mem_of_mem_take hx)⟩
  · rw [if_neg q]
    exact ⟨_, rfl, by omega, h'⟩
theorem pick_ok {l : List Int} {p n : Int} (hs : Seeds l) (h0 : 0 ≤ p) (h1 : p ≤ l.length) (hn : 1 ≤ n) : ∃ r q, storagebarterplay_Dice_Pick.f l p n = some (r, q) ∧ 0 ≤ r ∧ r < n ∧ 0 ≤ q ∧ q ≤ l.length := by
  have hl := hs.1
  unfold storagebarterplay_Dice_Pick.f
  by_cases hp : p ≥ (l.length : Int)
  · rw [if_pos hp]; exact ⟨_, _, rfl, by omega, by omega, h0, h1⟩
  · rw [if_neg hp, w64 (n := p + 1) (by omega) (by omega), show p + 1 - 1 = p by omega, w64 (n := p) (by omega) (by omega), if_pos h0, if_pos (by omega), if_neg (by omega)]
    have hm : rd l p ∈ l := by
      have hi : p.toNat < l.length := by omega
      unfold rd
      rw [List.getD_eq_getElem?_getD, List.getElem?_eq_getElem hi]
      exact List.getElem_mem hi
    have hb := hs.2 _ hm
    rw [w64 (n := rd l p) (by omega) (by omega)]
    exact ⟨_, _, rfl, Int.tmod_nonneg _ hb.1, Int.tmod_lt_of_pos _ (by omega), by omega, by omega⟩

/-! arrangements: what the dice make is valid -/
def checksOK (st te : Int) (cs : List Int) : Prop := (∀ x ∈ cs, st < x ∧ x ≤ st + te) ∧ cs.Pairwise (· < ·)
theorem arr_l0 {l : List Int} (hs : Seeds l) (a b st te : Int) (h1 : 0 ≤ st) (h2 : st ≤ 100) (h3 : te ≤ 100) : ∀ (n : Nat) (t p : Int) (cs : List Int), t + n = st + te + 1 → st < t → 0 ≤ p → p ≤ l.length → (∀ x ∈ cs, st < x ∧ x < t) → cs.Pairwise (· < ·) → cs.length + n ≤ 1000 → ∃ k cs' q, storagebarterplay_Dice_Arrangement.l0 k t l p a b st te cs = some (a, b, st, te, cs', q) ∧ checksOK st te cs' ∧ cs'.length ≤ 1000 ∧ 0 ≤ q ∧ q ≤ l.length
  | 0, t, p, cs, ht, hst, hp0, hp1, hc, hw, hn => by
    refine ⟨1, cs, p, ?_, ⟨fun x hx => by have := hc x hx; omega, hw⟩, by omega, hp0, hp1⟩
    rw [storagebarterplay_Dice_Arrangement.l0, w64 (n := st + te) (by omega) (by omega), if_neg (by omega)]
  | n + 1, t, p, cs, ht, hst, hp0, hp1, hc, hw, hn => by
    push_cast at ht
    obtain ⟨r, q, e, r0, r1, q0, q1⟩ := pick_ok hs hp0 hp1 (n := 3) (by omega)
    by_cases hz : r = 0
    · obtain ⟨k, cs', q', hk, hk2, hk3, hk4, hk5⟩ := arr_l0 hs a b st te h1 h2 h3 n (t + 1) q (cs ++ [t]) (by omega) (by omega) q0 q1 (fun x hx => by
        rcases List.mem_append.mp hx with h | h
        · have := hc x h; omega
        · rw [List.mem_singleton] at h; omega) (List.pairwise_append.mpr ⟨hw, List.pairwise_singleton _ _, fun x hx y hy => by rw [List.mem_singleton] at hy; have := hc x hx; omega⟩) (by simp; omega)
      refine ⟨k + 1, cs', q', ?_, hk2, hk3, hk4, hk5⟩
      rw [storagebarterplay_Dice_Arrangement.l0, w64 (n := st + te) (by omega) (by omega), if_pos (by omega), e]
      simp only [Option.bind_some]
      rw [if_pos hz, if_pos (by omega), w64 (n := t + 1) (by omega) (by omega), hk]
    · obtain ⟨k, cs', q', hk, hk2, hk3, hk4, hk5⟩ := arr_l0 hs a b st te h1 h2 h3 n (t + 1) q cs (by omega) (by omega) q0 q1 (fun x hx => by have := hc x hx; omega) hw (by omega)
      refine ⟨k + 1, cs', q', ?_, hk2, hk3, hk4, hk5⟩
      rw [storagebarterplay_Dice_Arrangement.l0, w64 (n := st + te) (by omega) (by omega), if_pos (by omega), e]
      simp only [Option.bind_some]
      rw [if_neg hz, w64 (n := t + 1) (by omega) (by omega), hk]
theorem arr_ok {l : List Int} (hs : Seeds l) {p n : Int} (hp0 : 0 ≤ p) (hp1 : p ≤ l.length) (hn : 2 ≤ n) (hn2 : n ≤ 16) : ∃ k a b st te cs q, storagebarterplay_Dice_Arrangement.f k l p n = some (a, b, st, te, cs, q) ∧ 1 ≤ a ∧ a ≤ n ∧ 1 ≤ b ∧ b ≤ n ∧ a ≠ b ∧ 0 ≤ st ∧ st ≤ 2 ∧ 1 ≤ te ∧ te ≤ 3 ∧ checksOK st te cs ∧ cs.length ≤ 1000 ∧ 0 ≤ q ∧ q ≤ l.length := by
  obtain ⟨r1, q1, e1, a1, b1, m1, n1⟩ := pick_ok hs hp0 hp1 (n := n) (by omega)
  obtain ⟨r2, q2, e2, a2, b2, m2, n2⟩ := pick_ok hs m1 n1 (n := 3) (by omega)
  obtain ⟨r3, q3, e3, a3, b3, m3, n3⟩ := pick_ok hs m2 n2 (n := 3) (by omega)
  obtain ⟨r4, q4, e4, a4, b4, m4, n4⟩ := pick_ok hs m3 n3 (n := n - 1) (by omega)
  have hsec : ∃ s, (1 + r1 + r4).tmod n = s ∧ 0 ≤ s ∧ s < n ∧ s ≠ r1 := by
    refine ⟨_, rfl, Int.tmod_nonneg _ (by omega), Int.tmod_lt_of_pos _ (by omega), ?_⟩
    rw [Int.tmod_eq_emod_of_nonneg (by omega)]
    rcases Int.lt_or_le (1 + r1 + r4) n with h | h
    · rw [Int.emod_eq_of_lt (by omega) h]; omega
    · rw [show (1 + r1 + r4) % n = 1 + r1 + r4 - n from by rw [← Int.sub_emod_right, Int.emod_eq_of_lt (by omega) (by omega)]]; omega
  obtain ⟨s, hs', s0, s1, s2⟩ := hsec
  obtain ⟨k, cs, q, hk, hk2, hk3, hk4, hk5⟩ := arr_l0 hs (1 + r1) (1 + s) r2 (1 + r3) a2 (by omega) (by omega) (1 + r3).toNat (r2 + 1) q4 [] (by omega) (by omega) m4 n4 (fun x hx => by cases hx) List.Pairwise.nil (by simp; omega)
  refine ⟨k, 1 + r1, 1 + s, r2, 1 + r3, cs, q, ?_, by omega, by omega, by omega, by omega, by omega, by omega, by omega, by omega, by omega, hk2, hk3, hk4, hk5⟩
  unfold storagebarterplay_Dice_Arrangement.f
  rw [e1]
  simp only [Option.bind_some]
  rw [e2]
  simp only [Option.bind_some]
  rw [e3]
  simp only [Option.bind_some]
  rw [w64 (n := n - 1) (by omega) (by omega), e4]
  simp only [Option.bind_some]
  rw [if_neg (by omega), w64 (n := r2 + 1) (by omega) (by omega), w64 (n := 1 + r1) (by omega) (by omega), w64 (n := 1 + r1 + r4) (by omega) (by omega), hs', w64 (n := 1 + s) (by omega) (by omega), w64 (n := 1 + r3) (by omega) (by omega), hk]
theorem valid_l0 (a b st te : Int) (cs : List Int) (hl : cs.length ≤ 1000) (h0 : 0 ≤ st) (h1 : st + te ≤ 1000) (ht : 0 ≤ te) : ∀ (t : List Int) (last i : Int), 0 ≤ i → i ≤ cs.length → cs.drop i.toNat = t → (∀ x ∈ t, last < x ∧ x ≤ st + te) → t.Pairwise (· < ·) → ∃ k, duty_Valid.l0 k last cs cs.length i a b st te cs = some true
  | [], last, i, hi0, hi, hd, hb, hw => by
    have := drop_len hi0 hi hd
    exact ⟨1, by rw [duty_Valid.l0, if_neg (by simp at this; omega)]⟩
  | e :: t, last, i, hi0, hi, hd, hb, hw => by
    have hl2 := drop_len hi0 hi hd
    have hr : rd cs i = e := getD_at hd
    rw [List.length_cons] at hl2
    push_cast at hl2
    have he := hb e (List.mem_cons_self ..)
    have hw' := List.pairwise_cons.mp hw
    obtain ⟨k, hk⟩ := valid_l0 a b st te cs hl h0 h1 ht t e (i + 1) (by omega) (by omega) (drop_next hi0 hd) (fun x hx => ⟨hw'.1 x hx, (hb x (List.mem_cons_of_mem _ hx)).2⟩) hw'.2
    refine ⟨k + 1, ?_⟩
    rw [duty_Valid.l0, if_pos (by omega), if_pos hi0, if_pos (by omega), hr, if_neg (by omega), w64 (n := st + te) (by omega) (by omega), if_neg (by omega), w64 (n := i + 1) (by omega) (by omega), hk]
theorem valid_true {a b st te : Int} {cs : List Int} (ha : 1 ≤ a ∧ a ≤ 16) (hb : 1 ≤ b ∧ b ≤ 16) (hab : a ≠ b) (h0 : 0 ≤ st) (h1 : 1 ≤ te) (h2 : te ≤ 16) (h3 : st + te ≤ 16) (hc : checksOK st te cs) (hl : cs.length ≤ 1000) : ∃ k, duty_Valid.f k a b st te cs = some true := by
  obtain ⟨k, hk⟩ := valid_l0 a b st te cs hl h0 (by omega) (by omega) cs st 0 (Int.le_refl _) (by omega) rfl hc.1 hc.2
  refine ⟨k + 1, ?_⟩
  unfold duty_Valid.f duty_person.f
  rw [if_pos (by omega), if_pos (by omega)]
  simp only [Option.bind_some]
  rw [decide_eq_true (by omega), if_pos rfl, decide_eq_true (by omega), if_pos rfl, if_neg hab, if_neg (by omega), if_neg (by omega), if_neg (by omega), w64 (n := 16 - te) (by omega) (by omega), decide_eq_false (by omega), duty_Valid.j0, if_neg (by simp), hk]
theorem plan_ok {a b st te slot : Int} {cs : List Int} {settle : Bool} (hs0 : 0 ≤ slot) (hs1 : slot < 6) (ha : 1 ≤ a ∧ a ≤ 16) (hb : 1 ≤ b ∧ b ≤ 16) (hab : a ≠ b) (h0 : 0 ≤ st) (h1 : 1 ≤ te) (h2 : te ≤ 16) (h3 : st + te ≤ 16) (hc : checksOK st te cs) (hl : cs.length ≤ 1000) : ∃ k, duty_Plan.f k a b st te cs slot settle = some (planL a b st te cs slot settle, 0) := by
  obtain ⟨k, hk⟩ := valid_true ha hb hab h0 h1 h2 h3 hc hl
  refine ⟨k, ?_⟩
  unfold duty_Plan.f
  rw [if_neg (by omega), if_neg (by omega), hk]
  rfl
/-! what duties cost -/
def totL (p : Int) : List S36 → Int
  | [] => 0
  | d :: t => (if d.f2 = p then costOf d.f3 else 0) + totL p t
theorem totL_append (p : Int) : ∀ l m : List S36, totL p (l ++ m) = totL p l + totL p m
  | [], m => by simp [totL]
  | d :: t, m => by simp only [totL, List.cons_append, totL_append p t m]; omega
theorem cost_bound (k : Int) : 0 ≤ costOf k ∧ costOf k ≤ 8 := by
  unfold costOf
  by_cases h : k < 0
  · rw [if_pos h]; omega
  · rw [if_neg h]
    by_cases h8 : 8 ≤ k
    · rw [if_pos h8]; omega
    · rw [if_neg h8]
      rcases (show k = 0 ∨ k = 1 ∨ k = 2 ∨ k = 3 ∨ k = 4 ∨ k = 5 ∨ k = 6 ∨ k = 7 by omega) with h | h | h | h | h | h | h | h <;> subst h <;> simp
theorem totL_bound (p : Int) : ∀ l : List S36, 0 ≤ totL p l ∧ totL p l ≤ 8 * l.length
  | [] => by simp [totL]
  | d :: t => by
    have h1 := totL_bound p t
    have h2 := cost_bound d.f3
    simp only [totL, List.length_cons]
    push_cast
    split <;> omega
theorem total_l0 (L : List S36) (hL : L.length ≤ 100000) (p : Int) : ∀ (t : List S36) (x i : Int), 0 ≤ i → i ≤ L.length → L.drop i.toNat = t → 0 ≤ x → x + totL p t ≤ 1000000 → ∃ k, duty_Total.l0 k p x L L.length i = some (x + totL p t)
  | [], x, i, h0, hi, hd, hx, hb => by
    have := drop_len h0 hi hd
    exact ⟨1, by rw [duty_Total.l0, if_neg (by simp at this; omega)]; simp [totL]⟩
  | e :: t, x, i, h0, hi, hd, hx, hb => by
    have hl := drop_len h0 hi hd
    have hr : rd_T36 L i = e := getD_at hd
    rw [List.length_cons] at hl
    push_cast at hl
    have hc := cost_bound e.f3
    have ht := totL_bound p t
    simp only [totL] at hb ⊢
    by_cases q : e.f2 = p
    · rw [if_pos q] at hb ⊢
      obtain ⟨k, hk⟩ := total_l0 L hL p t (x + costOf e.f3) (i + 1) (by omega) (by omega) (drop_next h0 hd) (by omega) (by omega)
      refine ⟨k + 1, ?_⟩
      rw [duty_Total.l0, if_pos (by omega), if_pos h0, if_pos (by omega), hr, if_pos q]
      simp only [duty_Cost.f, Option.bind_some]
      rw [w64 (n := x + costOf e.f3) (by omega) (by omega), w64 (n := i + 1) (by omega) (by omega), hk, Int.add_assoc]
    · rw [if_neg q] at hb ⊢
      obtain ⟨k, hk⟩ := total_l0 L hL p t x (i + 1) (by omega) (by omega) (drop_next h0 hd) (by omega) (by omega)
      refine ⟨k + 1, ?_⟩
      rw [duty_Total.l0, if_pos (by omega), if_pos h0, if_pos (by omega), hr, if_neg q, w64 (n := i + 1) (by omega) (by omega), hk, Int.zero_add]
theorem total_ok (L : List S36) (hL : L.length ≤ 10000) (p : Int) : ∃ k, duty_Total.f k L p = some (totL p L) := by
  have := totL_bound p L
  obtain ⟨k, hk⟩ := total_l0 L (by omega) p L 0 0 (Int.le_refl _) (by omega) rfl (Int.le_refl _) (by omega)
  exact ⟨k, by unfold duty_Total.f; rw [hk, Int.zero_add]⟩

theorem planT_length (s p q : Int) (l : List Int) : ∀ (n : Nat) (t : Int), (planT s p q l n t).length ≤ 4 * n
  | 0, _ => Nat.le_refl _
  | n + 1, t => by
    have ih := planT_length s p q l n (t + 1)
    rw [planT, List.length_append, List.length_append, bothL_length]
    split
    · rw [bothL_length]; simp; omega
    · simp; omega
theorem planL_22 (a b st te slot : Int) (cs : List Int) (settle : Bool) (h : te ≤ 3) : (planL a b st te cs slot settle).length ≤ 22 := by
  have ht := planT_length slot a b cs te.toNat (st + 1)
  have hn : te.toNat ≤ 3 := by omega
  unfold planL
  rw [List.length_append, List.length_append, bothL_length]
  cases settle
  · simp; omega
  · rw [if_pos rfl, bothL_length]; simp; omega

theorem planL_length (a b st te slot : Int) (cs : List Int) (settle : Bool) (h : te ≤ 16) : (planL a b st te cs slot settle).length ≤ 100 := by
  have ht := planT_length slot a b cs te.toNat (st + 1)
  have hn : te.toNat ≤ 16 := by omega
  unfold planL
  rw [List.length_append, List.length_append, bothL_length]
  cases settle
  · simp; omega
  · rw [if_pos rfl, bothL_length]; simp; omega
/-! ### which arrangements are valid -/
theorem rvalid_l0 : ∀ (k : Nat) (x : Int) (i : Int) (a b st te : Int) (cs : List Int), storagebarterref28_Valid.l0 k x i a b st te cs = duty_Valid.l0 k x cs (cs.length : Int) i a b st te cs
  | 0, _, _, _, _, _, _, _ => by rw [storagebarterref28_Valid.l0, duty_Valid.l0]
  | k + 1, x, i, a, b, st, te, cs => by
    rw [storagebarterref28_Valid.l0, duty_Valid.l0, rvalid_l0 k]
    by_cases c : i < (cs.length : Int)
    · simp only [if_pos c]
    · simp only [if_neg c]
theorem rvalid_j0 (k : Nat) (c : Bool) (a b st te : Int) (cs : List Int) : storagebarterref28_Valid.j0 k c a b st te cs = duty_Valid.j0 k c a b st te cs := by
  cases k with
  | zero => rw [storagebarterref28_Valid.j0, duty_Valid.j0]
  | succ k => rw [storagebarterref28_Valid.j0, duty_Valid.j0, rvalid_l0]
theorem person_eq (n : Int) : duty_person.f n = some (decide (1 ≤ n ∧ n ≤ 16)) := by
  unfold duty_person.f
  by_cases h : n ≥ 1
  · rw [if_pos h]
    congr 1
    simp; omega
  · rw [if_neg h]
    congr 1
    simp; omega
def okA (a b st te : Int) : Prop := 1 ≤ a ∧ a ≤ 16 ∧ 1 ≤ b ∧ b ≤ 16 ∧ a ≠ b ∧ 0 ≤ st ∧ 1 ≤ te ∧ te ≤ 16 ∧ st + te ≤ 16
instance (a b st te : Int) : Decidable (okA a b st te) := by unfold okA; infer_instance
theorem valid_j (k : Nat) (a b st te : Int) (cs : List Int) : duty_Valid.f k a b st te cs = duty_Valid.j0 k (!(decide (okA a b st te))) a b st te cs := by
  unfold duty_Valid.f
  rw [person_eq, person_eq]
  simp only [Option.bind_some]
  by_cases h : okA a b st te
  · rw [decide_eq_true h]
    obtain ⟨a1, a2, b1, b2, hab, s0, t1, t2, h3⟩ := h
    rw [decide_eq_true (show 1 ≤ a ∧ a ≤ 16 from ⟨a1, a2⟩), if_pos rfl, decide_eq_true (show 1 ≤ b ∧ b ≤ 16 from ⟨b1, b2⟩), if_pos rfl, if_neg hab, if_neg (by omega), if_neg (by omega), if_neg (by omega), w64 (n := 16 - te) (by omega) (by omega), decide_eq_false (by omega)]
    rfl
  · rw [decide_eq_false h]
    by_cases ha : 1 ≤ a ∧ a ≤ 16
    · rw [decide_eq_true ha, if_pos rfl]
      by_cases hb : 1 ≤ b ∧ b ≤ 16
      · rw [decide_eq_true hb, if_pos rfl]
        by_cases hab : a = b
        · rw [if_pos hab]; rfl
        · rw [if_neg hab]
          by_cases hs : st < 0
          · rw [if_pos hs]; rfl
          · rw [if_neg hs]
            by_cases ht : te < 1
            · rw [if_pos ht]; rfl
            · rw [if_neg ht]
              by_cases ht2 : te > 16
              · rw [if_pos ht2]; rfl
              · rw [if_neg ht2, w64 (n := 16 - te) (by omega) (by omega), decide_eq_true (show st > 16 - te by unfold okA at h; omega)]; rfl
      · rw [decide_eq_false hb, if_neg (by simp)]; rfl
    · rw [decide_eq_false ha, if_neg (by simp)]; rfl
theorem rvalid_j (k : Nat) (a b st te : Int) (cs : List Int) : storagebarterref28_Valid.f k a b st te cs = duty_Valid.j0 k (!(decide (okA a b st te))) a b st te cs := by
  unfold storagebarterref28_Valid.f
  simp only [rvalid_j0]
  by_cases h : okA a b st te
  · rw [decide_eq_true h]
    obtain ⟨a1, a2, b1, b2, hab, s0, t1, t2, h3⟩ := h
    rw [if_neg hab, if_neg (by omega), if_neg (by omega), if_neg (by omega), if_neg (by omega), if_neg (by omega), if_neg (by omega), if_neg (by omega), if_neg (by omega), w64 (n := st + te) (by omega) (by omega), decide_eq_false (by omega)]
    rfl
  · rw [decide_eq_false h]
    by_cases c1 : a = b
    · rw [if_pos c1]; rfl
    rw [if_neg c1]
    by_cases c2 : a < 1
    · rw [if_pos c2]; rfl
    rw [if_neg c2]
    by_cases c3 : a > 16
    · rw [if_pos c3]; rfl
    rw [if_neg c3]
    by_cases c4 : b < 1
    · rw [if_pos c4]; rfl
    rw [if_neg c4]
    by_cases c5 : b > 16
    · rw [if_pos c5]; rfl
    rw [if_neg c5]
    by_cases c6 : st < 0
    · rw [if_pos c6]; rfl
    rw [if_neg c6]
    by_cases c7 : st > 16
    · rw [if_pos c7]; rfl
    rw [if_neg c7]
    by_cases c8 : te < 1
    · rw [if_pos c8]; rfl
    rw [if_neg c8]
    by_cases c9 : te > 16
    · rw [if_pos c9]; rfl
    rw [if_neg c9, w64 (n := st + te) (by omega) (by omega), decide_eq_true (show st + te > 16 by unfold okA at h; omega)]; rfl
theorem rvalid (k : Nat) (a b st te : Int) (cs : List Int) : storagebarterref28_Valid.f k a b st te cs = duty_Valid.f k a b st te cs := (rvalid_j ..).trans (valid_j ..).symm
theorem valid_some_l0 (a b st te : Int) (cs : List Int) (hl : cs.length ≤ 100000) : ∀ (t : List Int) (x i : Int), 0 ≤ i → i ≤ cs.length → cs.drop i.toNat = t → ∃ k v, duty_Valid.l0 k x cs (cs.length : Int) i a b st te cs = some v
  | [], x, i, h0, hi, hd => by
    have := drop_len h0 hi hd
    exact ⟨1, true, by rw [duty_Valid.l0, if_neg (by simp at this; omega)]⟩
  | e :: t, x, i, h0, hi, hd => by
    have hl2 := drop_len h0 hi hd
    rw [List.length_cons] at hl2
    push_cast at hl2
    obtain ⟨k, v, hk⟩ := valid_some_l0 a b st te cs hl t (rd cs i) (i + 1) (by omega) (by omega) (drop_next h0 hd)
    by_cases c1 : rd cs i ≤ x
    · exact ⟨1, false, by rw [duty_Valid.l0, if_pos (by omega), if_pos h0, if_pos (by omega), if_pos c1]⟩
    · by_cases c2 : rd cs i > wrap64 (st + te)
      · exact ⟨1, false, by rw [duty_Valid.l0, if_pos (by omega), if_pos h0, if_pos (by omega), if_neg c1, if_pos c2]⟩
      · exact ⟨k + 1, v, by rw [duty_Valid.l0, if_pos (by omega), if_pos h0, if_pos (by omega), if_neg c1, if_neg c2, w64 (n := i + 1) (by omega) (by omega), hk]⟩
theorem valid_some (a b st te : Int) (cs : List Int) (hl : cs.length ≤ 100000) : ∃ k v, duty_Valid.f k a b st te cs = some v := by
  obtain ⟨k, v, hk⟩ := valid_some_l0 a b st te cs hl cs st 0 (Int.le_refl _) (by omega) rfl
  by_cases h : okA a b st te
  · refine ⟨k + 1, v, ?_⟩
    rw [valid_j, decide_eq_true h, duty_Valid.j0, if_neg (by decide), hk]
  · refine ⟨1, false, ?_⟩
    rw [valid_j, decide_eq_false h, duty_Valid.j0, if_pos (show (!false) = true from rfl)]
/-! ### plans -/
theorem has_l0 (cs : List Int) (hl : cs.length ≤ 100000) (x : Int) : ∀ (t : List Int) (i : Int), 0 ≤ i → i ≤ cs.length → cs.drop i.toNat = t → ∃ k, storagebarterref28_Has.l0 k cs x i = some (decide (x ∈ t))
  | [], i, h0, hi, hd => by
    have := drop_len h0 hi hd
    exact ⟨1, by rw [storagebarterref28_Has.l0, if_neg (by simp at this; omega)]; simp⟩
  | e :: t, i, h0, hi, hd => by
    have hl2 := drop_len h0 hi hd
    have hr : rd cs i = e := getD_at hd
    rw [List.length_cons] at hl2
    push_cast at hl2
    obtain ⟨k, hk⟩ := has_l0 cs hl x t (i + 1) (by omega) (by omega) (drop_next h0 hd)
    by_cases c : e = x
    · exact ⟨1, by rw [storagebarterref28_Has.l0, if_pos (by omega), if_pos h0, hr, if_pos c]; simp [c]⟩
    · refine ⟨k + 1, ?_⟩
      rw [storagebarterref28_Has.l0, if_pos (by omega), if_pos h0, hr, if_neg c, w64 (n := i + 1) (by omega) (by omega), hk]
      congr 1
      simp [Ne.symm c]
theorem has_ok (cs : List Int) (hl : cs.length ≤ 100000) (x : Int) : ∃ k, storagebarterref28_Has.f k cs x = some (decide (x ∈ cs)) := has_l0 cs hl x cs 0 (Int.le_refl _) (by omega) rfl
theorem both_eq (a b st te : Int) (cs : List Int) (t slot kd : Int) : storagebarterref28_both.f a b st te cs t slot kd = some (bothL t slot a b [kd]) := rfl
theorem rplan_l1 (a b st te slot : Int) (cs : List Int) (settle : Bool) (hl : cs.length ≤ 100000) (h0 : 0 ≤ st) (h1 : 1 ≤ te) (h2 : st + te ≤ 16) : ∀ (n : Nat) (t : Int) (acc : List S36), t + n = st + te + 1 → st < t → acc.length + 4 * n ≤ 1000 → ∃ k, storagebarterref28_Plan.l1 k slot settle acc t a b st te cs = some (acc ++ planT slot a b cs n t ++ (if settle = true then bothL (st + te + 1) slot a b [7] else []), 0)
  | 0, t, acc, ht, hs, hn => by
    refine ⟨1, ?_⟩
    rw [storagebarterref28_Plan.l1, w64 (n := st + te) (by omega) (by omega), if_neg (by omega)]
    cases settle
    · rw [if_neg (by decide)]; simp [planT]
    · rw [if_pos rfl, both_eq]
      simp only [Option.bind_some]
      rw [w64 (n := st + te + 1) (by omega) (by omega), if_pos (by rw [bothL_length]; simp; omega)]
      simp [planT]
  | n + 1, t, acc, ht, hs, hn => by
    push_cast at ht
    obtain ⟨k1, e1⟩ := has_ok cs hl t
    by_cases hm : t ∈ cs
    · obtain ⟨k, hk⟩ := rplan_l1 a b st te slot cs settle hl h0 h1 h2 n (t + 1) (acc ++ bothL t slot a b [5] ++ bothL t slot a b [6]) (by omega) (by omega) (by simp [bothL_length]; omega)
      have hk2 := at_rounds (g := fun k => storagebarterref28_Plan.l1 k slot settle (acc ++ bothL t slot a b [5] ++ bothL t slot a b [6]) (t + 1) a b st te cs) (fun k => (storagebarterref28_Plan.mono_l k).2.2 _ _ _ _ _ _ _ _ _) (show k ≤ k + k1 by omega) hk
      refine ⟨k + k1 + 1, ?_⟩
      rw [storagebarterref28_Plan.l1, w64 (n := st + te) (by omega) (by omega), if_pos (by omega), both_eq]
      simp only [Option.bind_some]
      rw [if_pos (by rw [bothL_length]; simp; omega), at_rounds (storagebarterref28_Has.mono _ _) (show k1 ≤ k + k1 by omega) e1]
      simp only [Option.bind_some]
      rw [if_pos (by simpa using hm), both_eq]
      simp only [Option.bind_some]
      rw [if_pos (by simp [bothL_length]; omega), w64 (n := t + 1) (by omega) (by omega), hk2]
      rw [planT, if_pos hm]
      simp
    · obtain ⟨k, hk⟩ := rplan_l1 a b st te slot cs settle hl h0 h1 h2 n (t + 1) (acc ++ bothL t slot a b [5]) (by omega) (by omega) (by simp [bothL_length]; omega)
      have hk2 := at_rounds (g := fun k => storagebarterref28_Plan.l1 k slot settle (acc ++ bothL t slot a b [5]) (t + 1) a b st te cs) (fun k => (storagebarterref28_Plan.mono_l k).2.2 _ _ _ _ _ _ _ _ _) (show k ≤ k + k1 by omega) hk
      refine ⟨k + k1 + 1, ?_⟩
      rw [storagebarterref28_Plan.l1, w64 (n := st + te) (by omega) (by omega), if_pos (by omega), both_eq]
      simp only [Option.bind_some]
      rw [if_pos (by rw [bothL_length]; simp; omega), at_rounds (storagebarterref28_Has.mono _ _) (show k1 ≤ k + k1 by omega) e1]
      simp only [Option.bind_some]
      rw [if_neg (by simpa using hm), w64 (n := t + 1) (by omega) (by omega), hk2]
      rw [planT, if_neg hm]
      simp
theorem rplan_l0 (a b st te slot : Int) (cs : List Int) (settle : Bool) (hl : cs.length ≤ 100000) (h0 : 0 ≤ st) (h1 : 1 ≤ te) (h2 : st + te ≤ 16) : ∃ k, storagebarterref28_Plan.l0 k slot settle [] 1 a b st te cs = some (planL a b st te cs slot settle, 0) := by
  obtain ⟨k, hk⟩ := rplan_l1 a b st te slot cs settle hl h0 h1 h2 te.toNat (st + 1) (bothL st slot a b [1] ++ bothL st slot a b [2] ++ bothL st slot a b [3] ++ bothL st slot a b [4]) (by omega) (by omega) (by simp [bothL_length]; omega)
  refine ⟨k + 5, ?_⟩
  rw [storagebarterref28_Plan.l0, if_pos (by omega), both_eq]
  simp only [Option.bind_some]
  rw [if_pos (by simp [bothL_length]), w64 (n := (1 : Int) + 1) (by omega) (by omega), show (1 : Int) + 1 = 2 from rfl, storagebarterref28_Plan.l0, if_pos (by omega), both_eq]
  simp only [Option.bind_some]
  rw [if_pos (by simp [bothL_length]), w64 (n := (2 : Int) + 1) (by omega) (by omega), show (2 : Int) + 1 = 3 from rfl, storagebarterref28_Plan.l0, if_pos (by omega), both_eq]
  simp only [Option.bind_some]
  rw [if_pos (by simp [bothL_length]), w64 (n := (3 : Int) + 1) (by omega) (by omega), show (3 : Int) + 1 = 4 from rfl, storagebarterref28_Plan.l0, if_pos (by omega), both_eq]
  simp only [Option.bind_some]
  rw [if_pos (by simp [bothL_length]), w64 (n := (4 : Int) + 1) (by omega) (by omega), show (4 : Int) + 1 = 5 from rfl, storagebarterref28_Plan.l0, if_neg (by omega), w64 (n := st + 1) (by omega) (by omega)]
  rw [List.nil_append, hk]
  simp [planL, bothL]
theorem plan_cases (a b st te : Int) (cs : List Int) (hl : cs.length ≤ 100000) : ∃ k v, duty_Valid.f k a b st te cs = some v ∧ (v = true → 1 ≤ te ∧ te ≤ 16 ∧ 0 ≤ st ∧ st ≤ 16 - te) := by
  obtain ⟨k, v, hv⟩ := valid_some a b st te cs hl
  exact ⟨k, v, hv, fun h => valid_ok (by rw [h] at hv; exact hv)⟩
/-- both plans: the same list, the same code -/
theorem plan_both (a b st te slot : Int) (cs : List Int) (settle : Bool) (hl : cs.length ≤ 100000) : ∃ k L e, duty_Plan.f k a b st te cs slot settle = some (L, e) ∧ storagebarterref28_Plan.f k a b st te cs slot settle = some (L, e) ∧ L.length ≤ 100 := by
  by_cases c0 : slot < 0
  · refine ⟨1, [], 1, by unfold duty_Plan.f; rw [if_pos c0], by unfold storagebarterref28_Plan.f; rw [if_pos c0, storagebarterref28_Plan.j0, if_pos rfl], by simp⟩
  by_cases c1 : slot ≥ 6
  · refine ⟨1, [], 1, by unfold duty_Plan.f; rw [if_neg c0, if_pos c1], by unfold storagebarterref28_Plan.f; rw [if_neg c0, decide_eq_true c1, storagebarterref28_Plan.j0, if_pos rfl], by simp⟩
  obtain ⟨k, v, hv, hok⟩ := plan_cases a b st te cs hl
  cases v
  · refine ⟨k + 1, [], 44, ?_, ?_, by simp⟩
    · unfold duty_Plan.f
      rw [if_neg c0, if_neg c1, at_rounds (duty_Valid.mono _ _ _ _ _) (show k ≤ k + 1 by omega) hv]
      rfl
    · unfold storagebarterref28_Plan.f
      rw [if_neg c0, decide_eq_false c1, storagebarterref28_Plan.j0, if_neg (by decide), rvalid, hv]
      rfl
  · obtain ⟨t1, t2, s0, s1⟩ := hok rfl
    obtain ⟨k2, h2⟩ := rplan_l0 a b st te slot cs settle hl s0 t1 (by omega)
    refine ⟨k + k2 + 1, planL a b st te cs slot settle, 0, ?_, ?_, planL_length _ _ _ _ _ _ _ t2⟩
    · unfold duty_Plan.f
      rw [if_neg c0, if_neg c1, at_rounds (duty_Valid.mono _ _ _ _ _) (show k ≤ k + k2 + 1 by omega) hv]
      rfl
    · unfold storagebarterref28_Plan.f
      rw [if_neg c0, decide_eq_false c1, storagebarterref28_Plan.j0, if_neg (by decide), rvalid, at_rounds (duty_Valid.mono _ _ _ _ _) (show k ≤ k + k2 by omega) hv]
      simp only [Option.bind_some, if_true]
      exact at_rounds (g := fun k => storagebarterref28_Plan.l0 k slot settle [] 1 a b st te cs) (fun k => (storagebarterref28_Plan.mono_l k).2.1 _ _ _ _ _ _ _ _ _) (show k2 ≤ k + k2 by omega) h2
/-! ### the same lists, totals, numbers -/

theorem rcost (n : Int) : storagebarterref28_Cost.f n = some (costOf n) := by
  unfold storagebarterref28_Cost.f costOf
  by_cases h : n < 0
  · rw [if_pos h]
    rw [if_neg (by omega), if_neg (by omega), if_neg (by omega), if_neg (by omega), if_neg (by omega), if_neg (by omega), if_neg (by omega)]
  · rw [if_neg h]
    by_cases h8 : 8 ≤ n
    · rw [if_pos h8, if_neg (by omega), if_neg (by omega), if_neg (by omega), if_neg (by omega), if_neg (by omega), if_neg (by omega), if_neg (by omega)]
    · rw [if_neg h8]
      rcases (show n = 0 ∨ n = 1 ∨ n = 2 ∨ n = 3 ∨ n = 4 ∨ n = 5 ∨ n = 6 ∨ n = 7 by omega) with h | h | h | h | h | h | h | h <;> subst h <;> rfl
theorem rtotal_l0 (L : List S36) (p : Int) : ∀ (k : Nat) (x i : Int), storagebarterref28_Total.l0 k L p x i = duty_Total.l0 k p x L (L.length : Int) i
  | 0, _, _ => by rw [storagebarterref28_Total.l0, duty_Total.l0]
  | k + 1, x, i => by
    rw [storagebarterref28_Total.l0, duty_Total.l0, rcost, show duty_Cost.f (rd_T36 L i).f3 = some (costOf (rd_T36 L i).f3) from rfl]
    simp only [Option.bind_some, rtotal_l0 L p k]
    by_cases c : i < L.length
    · rw [if_pos c, if_pos c, if_pos c]
    · rw [if_neg c, if_neg c]
theorem rtotal (L : List S36) (p : Int) (k : Nat) : storagebarterref28_Total.f k L p = duty_Total.f k L p := rtotal_l0 L p k 0 0

/-! ### from some number of rounds on -/
def Ev {α : Type} (g : Nat → Option α) (r : α) : Prop := ∃ K, ∀ k, K ≤ k → g k = some r
theorem k_succ {K k : Nat} (h : K + 1 ≤ k) : ∃ j, k = j + 1 ∧ K ≤ j := ⟨k - 1, by omega, by omega⟩
theorem ev_of {α : Type} {g : Nat → Option α} {r : α} (hm : ∀ k, LeO (g k) (g (k + 1))) (h : ∃ k, g k = some r) : Ev g r := by
  obtain ⟨k, hk⟩ := h
  exact ⟨k, fun k' hk' => at_rounds hm hk' hk⟩
theorem ev_ex {α : Type} {g : Nat → Option α} {r : α} (h : Ev g r) : ∃ k, g k = some r := by
  obtain ⟨K, h⟩ := h
  exact ⟨K, h K (Nat.le_refl _)⟩
theorem ev_step {α : Type} {g g' : Nat → Option α} {r : α} (h : Ev g' r) (e : ∀ k, 3 ≤ k → g (k + 1) = g' k) : Ev g r := by
  obtain ⟨K, h⟩ := h
  refine ⟨K + 4, fun k hk => ?_⟩
  obtain ⟨j, rfl, hj⟩ := k_succ hk
  rw [e j (by omega), h j (by omega)]
theorem ev_bind {α β : Type} {g : Nat → Option α} {x : α} {f : Nat → α → Option β} {r : β} (hg : Ev g x) (hf : Ev (fun k => f k x) r) : Ev (fun k => (g k).bind (f k)) r := by
  obtain ⟨K, h⟩ := hg
  obtain ⟨K', h'⟩ := hf
  exact ⟨K + K', fun k hk => by dsimp only; rw [h k (by omega)]; exact h' k (by omega)⟩
theorem ev_some {α : Type} (r : α) : Ev (fun _ => some r) r := ⟨0, fun _ _ => rfl⟩
/-! ### the order of duties, stable merges -/
def ltk (x y : S36) : Prop := x.f0 < y.f0 ∨ x.f0 = y.f0 ∧ x.f1 < y.f1
instance (x y : S36) : Decidable (ltk x y) := by unfold ltk; infer_instance
theorem ltk_ge {x y z : S36} (h : ¬ ltk y x) (h' : ¬ ltk z y) : ¬ ltk z x := by unfold ltk at *; omega
theorem ltk_lt_ge {x y z : S36} (h : ltk x y) (h' : ¬ ltk z y) : ltk x z := by unfold ltk at *; omega
theorem ltk_ge_lt {x y z : S36} (h : ¬ ltk y x) (h' : ltk y z) : ltk x z := by unfold ltk at *; omega
theorem ltk_asymm {x y : S36} (h : ltk x y) : ¬ ltk y x := by unfold ltk at *; omega
theorem ltk_irr (x : S36) : ¬ ltk x x := by unfold ltk; omega
def smerge : List S36 → List S36 → List S36
  | [], r => r
  | x :: l, [] => x :: l
  | x :: l, y :: r => if ltk y x then y :: smerge (x :: l) r else x :: smerge l (y :: r)
termination_by l r => l.length + r.length
theorem smerge_l (r : List S36) : smerge [] r = r := by rw [smerge]
theorem smerge_r (l : List S36) : smerge l [] = l := by cases l <;> rw [smerge]
theorem smerge_lt {x y : S36} (h : ltk y x) (l r : List S36) : smerge (x :: l) (y :: r) = y :: smerge (x :: l) r := by rw [smerge, if_pos h]
theorem smerge_ge {x y : S36} (h : ¬ ltk y x) (l r : List S36) : smerge (x :: l) (y :: r) = x :: smerge l (y :: r) := by rw [smerge, if_neg h]
theorem smerge_split : ∀ (L1 R1 L2 R2 : List S36), (∀ x ∈ L1, ∀ y ∈ R2, ¬ ltk y x) → (∀ y ∈ R1, ∀ x ∈ L2, ltk y x) → smerge (L1 ++ L2) (R1 ++ R2) = smerge L1 R1 ++ smerge L2 R2
  | [], [], L2, R2, _, _ => by rw [smerge_l]; rfl
  | x :: L1, [], L2, [], h1, h2 => by simp [smerge_r]
  | x :: L1, [], L2, y :: R2, h1, h2 => by
    have ih := smerge_split L1 [] L2 (y :: R2) (fun z hz => h1 z (List.mem_cons_of_mem _ hz)) h2
    rw [List.nil_append, smerge_r] at ih
    rw [List.cons_append, List.nil_append, smerge_ge (h1 x (List.mem_cons_self ..) y (List.mem_cons_self ..)), ih, smerge_r]; rfl
  | [], y :: R1, [], R2, h1, h2 => by simp [smerge_l]
  | [], y :: R1, x :: L2, R2, h1, h2 => by
    have ih := smerge_split [] R1 (x :: L2) R2 h1 (fun z hz => h2 z (List.mem_cons_of_mem _ hz))
    rw [List.nil_append, smerge_l] at ih
    rw [List.cons_append, List.nil_append, smerge_lt (h2 y (List.mem_cons_self ..) x (List.mem_cons_self ..)), ih, smerge_l]; rfl
  | x :: L1, y :: R1, L2, R2, h1, h2 => by
    by_cases c : ltk y x
    · have ih := smerge_split (x :: L1) R1 L2 R2 h1 (fun z hz => h2 z (List.mem_cons_of_mem _ hz))
      rw [List.cons_append] at ih
      rw [List.cons_append, List.cons_append, smerge_lt c, ih, smerge_lt c]; rfl
    · have ih := smerge_split L1 (y :: R1) L2 R2 (fun z hz => h1 z (List.mem_cons_of_mem _ hz)) h2
      rw [List.cons_append] at ih
      rw [List.cons_append, List.cons_append, smerge_ge c, ih, smerge_ge c]; rfl
termination_by L1 R1 => L1.length + R1.length
theorem smerge_assoc : ∀ A B C : List S36, smerge A (smerge B C) = smerge (smerge A B) C
  | [], B, C => by rw [smerge_l, smerge_l]
  | a :: A, [], C => by rw [smerge_l, smerge_r]
  | a :: A, b :: B, [] => by rw [smerge_r, smerge_r]
  | a :: A, b :: B, c :: C => by
    by_cases cb : ltk c b
    · rw [smerge_lt cb]
      by_cases ca : ltk c a
      · have ih := smerge_assoc (a :: A) (b :: B) C
        rw [smerge_lt ca, ih]
        by_cases ba : ltk b a
        · rw [smerge_lt ba, smerge_lt cb]
        · rw [smerge_ge ba, smerge_lt ca]
      · have ih := smerge_assoc A (b :: B) (c :: C)
        rw [smerge_lt cb] at ih
        rw [smerge_ge ca, ih, smerge_ge (show ¬ ltk b a from fun h => ca (by unfold ltk at *; omega)), smerge_ge ca]
    · rw [smerge_ge cb]
      by_cases ba : ltk b a
      · have ih := smerge_assoc (a :: A) B (c :: C)
        rw [smerge_lt ba, ih, smerge_lt ba, smerge_ge cb]
      · have ih := smerge_assoc A (b :: B) (c :: C)
        rw [smerge_ge cb] at ih
        rw [smerge_ge ba, ih, smerge_ge ba, smerge_ge (ltk_ge ba cb)]
termination_by A B C => A.length + B.length + C.length
theorem smerge_mem {z : S36} : ∀ {A B : List S36}, z ∈ smerge A B ↔ z ∈ A ∨ z ∈ B
  | [], B => by rw [smerge_l]; simp
  | a :: A, [] => by rw [smerge_r]; simp
  | a :: A, b :: B => by
    by_cases c : ltk b a
    · rw [smerge_lt c, List.mem_cons, smerge_mem (A := a :: A) (B := B)]
      simp only [List.mem_cons]
      constructor
      · rintro (h | h | h) <;> simp [h]
      · rintro ((h | h) | h | h) <;> simp [h]
    · rw [smerge_ge c, List.mem_cons, smerge_mem (A := A) (B := b :: B)]
      simp only [List.mem_cons]
      constructor
      · rintro (h | h | h) <;> simp [h]
      · rintro ((h | h) | h | h) <;> simp [h]
termination_by A B => A.length + B.length
theorem smerge_length : ∀ A B : List S36, (smerge A B).length = A.length + B.length
  | [], B => by rw [smerge_l]; simp
  | a :: A, [] => by rw [smerge_r]; simp
  | a :: A, b :: B => by
    by_cases c : ltk b a
    · rw [smerge_lt c, List.length_cons, smerge_length (a :: A) B]; simp only [List.length_cons]; omega
    · rw [smerge_ge c, List.length_cons, smerge_length A (b :: B)]; simp only [List.length_cons]; omega
termination_by A B => A.length + B.length
def Srt (l : List S36) : Prop := l.Pairwise (fun x y => ¬ ltk y x)
theorem smerge_sorted : ∀ {A B : List S36}, Srt A → Srt B → Srt (smerge A B)
  | [], B, _, hB => by rw [smerge_l]; exact hB
  | a :: A, [], hA, _ => by rw [smerge_r]; exact hA
  | a :: A, b :: B, hA, hB => by
    have hA' := List.pairwise_cons.1 hA
    have hB' := List.pairwise_cons.1 hB
    by_cases c : ltk b a
    · rw [smerge_lt c]
      refine List.pairwise_cons.2 ⟨fun z hz => ?_, smerge_sorted hA hB'.2⟩
      rcases smerge_mem.1 hz with h | h
      · rcases List.mem_cons.1 h with rfl | h
        · exact ltk_asymm c
        · exact ltk_ge (ltk_asymm c) (hA'.1 z h)
      · exact hB'.1 z h
    · rw [smerge_ge c]
      refine List.pairwise_cons.2 ⟨fun z hz => ?_, smerge_sorted hA'.2 hB⟩
      rcases smerge_mem.1 hz with h | h
      · exact hA'.1 z h
      · rcases List.mem_cons.1 h with rfl | h
        · exact c
        · exact ltk_ge c (hB'.1 z h)
termination_by A B => A.length + B.length
def srt : List S36 → List S36
  | [] => []
  | d :: T => smerge [d] (srt T)
theorem srt_append : ∀ A B : List S36, srt (A ++ B) = smerge (srt A) (srt B)
  | [], B => by rw [srt, smerge_l]; rfl
  | a :: A, B => by rw [List.cons_append, srt, srt, srt_append A B, smerge_assoc]
theorem srt_sorted : ∀ A : List S36, Srt (srt A)
  | [] => List.Pairwise.nil
  | a :: A => by
    rw [srt]
    exact smerge_sorted (List.pairwise_singleton ..) (srt_sorted A)
theorem srt_length : ∀ A : List S36, (srt A).length = A.length
  | [] => rfl
  | a :: A => by rw [srt, smerge_length, srt_length A]; simp; omega
theorem srt_mem {z : S36} : ∀ {A : List S36}, z ∈ srt A ↔ z ∈ A
  | [] => Iff.rfl
  | a :: A => by rw [srt, smerge_mem, srt_mem]; simp
theorem srt_one (d : S36) : srt [d] = [d] := by rw [srt, srt, smerge_r]
theorem smerge_snoc_lt {d e : S36} (h : ltk d e) (A : List S36) : smerge (A ++ [e]) [d] = smerge A [d] ++ [e] := by
  have := smerge_split A [d] [e] [] (fun _ _ _ h => by cases h) (fun y hy x hx => by rw [List.mem_singleton.1 hy, List.mem_singleton.1 hx]; exact h)
  rwa [List.append_nil, smerge_r] at this
theorem smerge_snoc_ge {d e : S36} (h : ¬ ltk d e) {A : List S36} (hs : Srt (A ++ [e])) : smerge (A ++ [e]) [d] = A ++ [e] ++ [d] := by
  have := smerge_split (A ++ [e]) [] [] [d] (fun x hx y hy => by
    rw [List.mem_singleton.1 hy]
    rcases List.mem_append.1 hx with h' | h'
    · exact ltk_ge ((List.pairwise_append.1 hs).2.2 x h' e (List.mem_singleton.2 rfl)) h
    · rw [List.mem_singleton.1 h']; exact h) (fun y hy => by cases hy)
  rwa [List.append_nil, List.nil_append, smerge_r, smerge_l] at this
theorem all_lt {x : S36} : ∀ {R : List S36}, Srt R → (R = [] ∨ ∃ R0 e, R = R0 ++ [e] ∧ ltk e x) → ∀ y ∈ R, ltk y x
  | R, hs, h, y, hy => by
    rcases h with rfl | ⟨R0, e, rfl, h⟩
    · cases hy
    · rcases List.mem_append.1 hy with h' | h'
      · exact ltk_ge_lt ((List.pairwise_append.1 hs).2.2 y h' e (List.mem_singleton.2 rfl)) h
      · rw [List.mem_singleton.1 h']; exact h
theorem all_ge {x : S36} : ∀ {R : List S36}, Srt R → (R = [] ∨ ∃ e R0, R = e :: R0 ∧ ¬ ltk e x) → ∀ y ∈ R, ¬ ltk y x
  | R, hs, h, y, hy => by
    rcases h with rfl | ⟨e, R0, rfl, h⟩
    · cases hy
    · rcases List.mem_cons.1 hy with rfl | h'
      · exact h
      · exact ltk_ge h ((List.pairwise_cons.1 hs).1 y h')
/-! ### places in a list -/
theorem rd_mid {xs U V : List S36} {x : S36} {i : Int} (hd : xs = U ++ x :: V) (hi : i = U.length) : rd_T36 xs i = x := by
  subst hd hi
  unfold rd_T36
  simp
theorem set_mid {xs U V : List S36} {x a : S36} {n : Nat} (hd : xs = U ++ x :: V) (hn : n = U.length) : xs.set n a = U ++ a :: V := by
  subst hd hn
  simp
theorem eta36 (x : S36) : (⟨x.f0, x.f1, x.f2, x.f3⟩ : S36) = x := rfl
def cmpv (x y : S36) : Int := if x.f0 < y.f0 then -1 else if x.f0 > y.f0 then 1 else if x.f1 < y.f1 then -1 else if x.f1 > y.f1 then 1 else 0
theorem cmpv_lt {x y : S36} : cmpv x y < 0 ↔ ltk x y := by
  unfold cmpv ltk
  by_cases c1 : x.f0 < y.f0
  · rw [if_pos c1]; omega
  rw [if_neg c1]
  by_cases c2 : x.f0 > y.f0
  · rw [if_pos c2]; omega
  rw [if_neg c2]
  by_cases c3 : x.f1 < y.f1
  · rw [if_pos c3]; omega
  rw [if_neg c3]
  by_cases c4 : x.f1 > y.f1
  · rw [if_pos c4]; omega
  rw [if_neg c4]; omega
theorem compare_ok (a b : Int) : cmp_Compare_int.f a b = some (if a < b then -1 else if a > b then 1 else 0) := by
  unfold cmp_Compare_int.f cmp_isNaN_int.f
  simp only [Option.bind_some]
  rw [if_neg (by simp), if_neg (by simp)]
  by_cases c1 : a < b
  · rw [if_pos c1, if_pos c1]
  rw [if_neg c1, if_neg c1]
  by_cases c2 : a > b
  · rw [if_pos c2, if_pos c2]
  rw [if_neg c2, if_neg c2]
theorem or_ok (a b : Int) {k : Nat} (hk : 3 ≤ k) : cmp_Or_int.f k [a, b] = some (if a = 0 then b else a) := by
  obtain ⟨k1, rfl, h1⟩ := k_succ hk
  obtain ⟨k2, rfl, h2⟩ := k_succ h1
  obtain ⟨k3, rfl, h3⟩ := k_succ h2
  unfold cmp_Or_int.f
  rw [cmp_Or_int.l0, if_pos (by simp), if_pos (by omega), if_pos (by simp), show rd [a, b] 0 = a from rfl]
  by_cases c : a = 0
  · rw [if_pos c, if_pos c, w64 (n := 0 + 1) (by omega) (by omega), show (0 : Int) + 1 = 1 from rfl, cmp_Or_int.l0, if_pos (by simp), if_pos (by omega), if_pos (by simp), show rd [a, b] 1 = b from rfl]
    by_cases c2 : b = 0
    · rw [if_pos c2, w64 (n := 1 + 1) (by omega) (by omega), show (1 : Int) + 1 = 2 from rfl, cmp_Or_int.l0, if_neg (by simp), c2]
    · rw [if_neg c2]
  · rw [if_neg c, if_neg c]
theorem cmp_ok (x y : S36) {k : Nat} (hk : 3 ≤ k) : duty_Merge_1.f k x.f0 x.f1 x.f2 x.f3 y.f0 y.f1 y.f2 y.f3 = some (cmpv x y) := by
  unfold duty_Merge_1.f
  rw [compare_ok, compare_ok]
  simp only [Option.bind_some]
  rw [or_ok _ _ hk]
  simp only [Option.bind_some]
  congr 1
  unfold cmpv
  by_cases c1 : x.f0 < y.f0
  · rw [if_pos c1, if_pos c1]; rfl
  rw [if_neg c1, if_neg c1]
  by_cases c2 : x.f0 > y.f0
  · rw [if_pos c2, if_pos c2]; rfl
  rw [if_neg c2, if_neg c2]; rfl
theorem half_ok {i j : Int} (h0 : 0 ≤ i) (h1 : 0 ≤ j) (h2 : i + j ≤ 1000000) : wrap64 ((IntKind.u64.wrap (wrap64 (i + j))) / 2) = (i + j) / 2 := by
  rw [w64 (n := i + j) (by omega) (by omega)]
  have : IntKind.u64.wrap (i + j) = i + j := by
    unfold IntKind.wrap
    simp [IntKind.signed, IntKind.bits]
    omega
  rw [this, w64 (by omega) (by omega)]

/-! ### insertion -/
theorem snoc_of {α : Type} {l : List α} {n : Nat} (h : l.length = n + 1) : ∃ l' e, l = l' ++ [e] ∧ l'.length = n := by
  rcases List.eq_nil_or_concat l with rfl | ⟨l', e, rfl⟩
  · simp at h
  · exact ⟨l', e, by simp, by simpa using h⟩
theorem set_adj1 {U V : List S36} {x y a b : S36} : ((U ++ x :: y :: V).set (U.length + 1) b).set U.length a = U ++ a :: b :: V := by
  rw [set_mid (U := U ++ [x]) (x := y) (V := V) (a := b) (n := U.length + 1) (by simp) (by simp), set_mid (U := U) (x := x) (V := b :: V) (by simp) rfl]
theorem set_adj2 {U V : List S36} {x y a b : S36} : ((U ++ x :: y :: V).set U.length a).set (U.length + 1) b = U ++ a :: b :: V := by
  rw [set_mid (U := U) (x := x) (V := y :: V) (a := a) rfl rfl, set_mid (U := U ++ [a]) (x := y) (V := V) (by simp) (by simp)]
  simp
theorem ins_l1 (P : List S36) (b i : Int) (d : S36) : ∀ (n : Nat) (A S : List S36) (j : Int), A.length = n → j = P.length + n → Srt A → P.length + A.length + S.length ≤ 1000 → ∀ r, Ev (fun k => api_Duty_91.l0 k (P ++ smerge A [d] ++ S) P.length b (wrap64 (i + 1))) r → Ev (fun k => api_Duty_91.l1 k (P ++ A ++ d :: S) P.length b i j) r
  | 0, A, S, j, hn, hj, hs, hl, r, h => by
    obtain rfl : A = [] := List.eq_nil_of_length_eq_zero hn
    refine ev_step h (fun k hk => ?_)
    rw [api_Duty_91.l1, if_neg (by omega), smerge_l]; simp
  | n + 1, A, S, j, hn, hj, hs, hl, r, h => by
    obtain ⟨A', e, rfl, hn'⟩ := snoc_of hn
    simp only [List.length_append, List.length_cons, List.length_nil] at hl
    push_cast at hj
    have e1 : P ++ (A' ++ [e]) ++ d :: S = (P ++ A') ++ e :: d :: S := by simp
    have r1 : rd_T36 ((P ++ A') ++ e :: d :: S) j = d := rd_mid (U := P ++ A' ++ [e]) (V := S) (by simp) (by simp; omega)
    have r2 : rd_T36 ((P ++ A') ++ e :: d :: S) (j - 1) = e := rd_mid (U := P ++ A') (V := d :: S) rfl (by simp; omega)
    have hlen : (((P ++ A') ++ e :: d :: S).length : Int) = P.length + A'.length + S.length + 2 := by simp; omega
    have p1 : j.toNat = (P ++ A').length + 1 := by simp; omega
    have p2 : (j - 1).toNat = (P ++ A').length := by simp; omega
    rw [e1]
    by_cases c : ltk d e
    · have ih := ins_l1 P b i d n A' (e :: S) (j - 1) hn' (by omega) (List.pairwise_append.1 hs).1 (by simp; omega) r (by rw [smerge_snoc_lt c] at h; simpa using h)
      refine ev_step ih (fun k hk => ?_)
      rw [api_Duty_91.l1, if_pos (by omega), if_pos (by omega), if_pos (by omega), w64 (n := j - 1) (by omega) (by omega), if_pos (by omega), if_pos (by omega), r1, r2, cmp_ok d e hk]
      simp only [Option.bind_some]
      rw [if_pos (cmpv_lt.2 c), eta36, eta36, p1, p2, set_adj1]
    · refine ev_step h (fun k hk => ?_)
      rw [api_Duty_91.l1, if_pos (by omega), if_pos (by omega), if_pos (by omega), w64 (n := j - 1) (by omega) (by omega), if_pos (by omega), if_pos (by omega), r1, r2, cmp_ok d e hk]
      simp only [Option.bind_some]
      rw [if_neg (fun h => c (cmpv_lt.1 h)), smerge_snoc_ge c hs]
      simp
theorem ins_l0 (P : List S36) (b : Int) : ∀ (T A S : List S36) (i : Int), i = P.length + A.length → b = i + T.length → Srt A → P.length + A.length + T.length + S.length ≤ 1000 → Ev (fun k => api_Duty_91.l0 k (P ++ A ++ T ++ S) P.length b i) (P ++ smerge A (srt T) ++ S)
  | [], A, S, i, hi, hb, hs, hl => by
    refine ev_step (ev_some _) (fun k hk => ?_)
    rw [api_Duty_91.l0, if_neg (by simp at hb; omega), srt, smerge_r]; simp
  | d :: T, A, S, i, hi, hb, hs, hl => by
    simp only [List.length_cons] at hb hl
    push_cast at hb
    have ih := ins_l0 P b T (smerge A [d]) S (i + 1) (by rw [smerge_length]; simp; omega) (by omega) (smerge_sorted hs (List.pairwise_singleton ..)) (by rw [smerge_length]; simp; omega)
    rw [← smerge_assoc, show smerge [d] (srt T) = srt (d :: T) by rw [srt]] at ih
    have h1 := ins_l1 P b i d A.length A (T ++ S) i rfl hi hs (by simp; omega) _ (by rw [w64 (n := i + 1) (by omega) (by omega)]; simpa using ih)
    have h2 : Ev (fun k => api_Duty_91.l1 k (P ++ A ++ d :: (T ++ S)) P.length b i i) (P ++ smerge A (srt (d :: T)) ++ S) := by simpa using h1
    refine ev_step h2 (fun k hk => ?_)
    rw [api_Duty_91.l0, if_pos (by omega)]
    simp
theorem ins_f (P X S : List S36) (a b : Int) (ha : a = P.length) (hb : b = P.length + X.length) (hl : P.length + X.length + S.length ≤ 1000) : Ev (fun k => api_Duty_91.f k (P ++ X ++ S) a b) (P ++ srt X ++ S) := by
  subst ha
  unfold api_Duty_91.f
  rw [w64 (n := (P.length : Int) + 1) (by omega) (by omega)]
  cases X with
  | nil =>
    refine ev_step (ev_some _) (fun k hk => ?_)
    rw [api_Duty_91.l0, if_neg (by simp at hb; omega), srt]
  | cons x T =>
    have := ins_l0 P b T [x] S (P.length + 1) (by simp) (by simp at hb; omega) (List.pairwise_singleton ..) (by simp at hl ⊢; omega)
    rw [show smerge [x] (srt T) = srt (x :: T) by rw [srt]] at this
    simpa using this
/-! ### rotation -/
theorem swp_l0 (P M S : List S36) (a b n : Int) : ∀ (X2 Y2 X1 Y1 : List S36) (i : Int), a = P.length → X2.length = Y2.length → X1.length = Y1.length → i = Y1.length → n = i + X2.length → b = P.length + Y1.length + X2.length + M.length → P.length + 2 * Y1.length + 2 * X2.length + M.length + S.length ≤ 1000 → Ev (fun k => api_Duty_100.l0 k (P ++ Y1 ++ X2 ++ M ++ X1 ++ Y2 ++ S) a b n i) (P ++ Y1 ++ Y2 ++ M ++ X1 ++ X2 ++ S)
  | [], Y2, X1, Y1, i, ha, h1, h2, hi, hn, hb, hl => by
    obtain rfl : Y2 = [] := List.eq_nil_of_length_eq_zero h1.symm
    refine ev_step (ev_some _) (fun k hk => ?_)
    rw [api_Duty_100.l0, if_neg (by simp at hn; omega)]
  | x :: X2, [], X1, Y1, i, ha, h1, h2, hi, hn, hb, hl => by simp at h1
  | x :: X2, y :: Y2, X1, Y1, i, ha, h1, h2, hi, hn, hb, hl => by
    simp only [List.length_cons] at h1 hn hb hl
    push_cast at hn hb
    have ih := swp_l0 P M S a b n X2 Y2 (X1 ++ [x]) (Y1 ++ [y]) (i + 1) ha (by omega) (by simp; omega) (by simp; omega) (by omega) (by simp; omega) (by simp; omega)
    have e1 : P ++ Y1 ++ (x :: X2) ++ M ++ X1 ++ (y :: Y2) ++ S = (P ++ Y1) ++ x :: (X2 ++ M ++ X1 ++ (y :: Y2) ++ S) := by simp
    have e2 : P ++ Y1 ++ (x :: X2) ++ M ++ X1 ++ (y :: Y2) ++ S = (P ++ Y1 ++ (x :: X2) ++ M ++ X1) ++ y :: (Y2 ++ S) := by simp
    have e3 : (P ++ Y1) ++ y :: (X2 ++ M ++ X1 ++ (y :: Y2) ++ S) = (P ++ Y1 ++ (y :: X2) ++ M ++ X1) ++ y :: (Y2 ++ S) := by simp
    have r1 : rd_T36 (P ++ Y1 ++ (x :: X2) ++ M ++ X1 ++ (y :: Y2) ++ S) (a + i) = x := rd_mid e1 (by simp; omega)
    have r2 : rd_T36 (P ++ Y1 ++ (x :: X2) ++ M ++ X1 ++ (y :: Y2) ++ S) (b + i) = y := rd_mid e2 (by simp; omega)
    have hlen : ((P ++ Y1 ++ (x :: X2) ++ M ++ X1 ++ (y :: Y2) ++ S).length : Int) = P.length + 2 * Y1.length + 2 * X2.length + M.length + S.length + 2 := by simp; omega
    have ih' : Ev (fun k => api_Duty_100.l0 k (P ++ (Y1 ++ [y]) ++ X2 ++ M ++ (X1 ++ [x]) ++ Y2 ++ S) a b n (i + 1)) (P ++ Y1 ++ (y :: Y2) ++ M ++ X1 ++ (x :: X2) ++ S) := by simpa using ih
    refine ev_step ih' (fun k hk => ?_)
    rw [api_Duty_100.l0, if_pos (by omega), w64 (n := b + i) (by omega) (by omega), w64 (n := a + i) (by omega) (by omega), if_pos (by omega), if_pos (by omega), if_pos (by omega), if_pos (by omega), r1, r2, eta36, eta36, set_mid e1 (by simp; omega), set_mid e3 (by simp; omega), w64 (n := i + 1) (by omega) (by omega)]
    simp
theorem swp_f (P X M Y S : List S36) (a b n : Int) (ha : a = P.length) (hb : b = P.length + X.length + M.length) (hn : n = X.length) (hxy : X.length = Y.length) (hl : P.length + 2 * X.length + M.length + S.length ≤ 1000) : Ev (fun k => api_Duty_100.f k (P ++ X ++ M ++ Y ++ S) a b n) (P ++ Y ++ M ++ X ++ S) := by
  have := swp_l0 P M S a b n X Y [] [] 0 ha hxy rfl rfl (by omega) (by simp; omega) (by simp; omega)
  unfold api_Duty_100.f
  simpa using this
theorem ev_id {α : Type} {g : Nat → Option α} {r : α} (h : Ev g r) : Ev (fun k => (g k).bind fun t => some t) r := ev_bind h (ev_some _)
theorem rot_l0 : ∀ (n : Nat) (P X Y S : List S36) (m i j : Int), X.length + Y.length ≤ n → 0 < X.length → 0 < Y.length → m = P.length + X.length → i = X.length → j = Y.length → P.length + X.length + Y.length + S.length ≤ 500 → Ev (fun k => api_Duty_98.l0 k (P ++ X ++ Y ++ S) m i j) (P ++ Y ++ X ++ S)
  | 0, P, X, Y, S, m, i, j, hn, hx, hy, hm, hi, hj, hl => by omega
  | n + 1, P, X, Y, S, m, i, j, hn, hx, hy, hm, hi, hj, hl => by
    rcases Int.lt_trichotomy i j with c | c | c
    · have hY : Y = Y.take (Y.length - X.length) ++ Y.drop (Y.length - X.length) := (List.take_append_drop ..).symm
      have l1 : (Y.take (Y.length - X.length)).length = Y.length - X.length := by rw [List.length_take]; omega
      have l2 : (Y.drop (Y.length - X.length)).length = X.length := by rw [List.length_drop]; omega
      revert hY l1 l2
      generalize Y.take (Y.length - X.length) = Y1
      generalize Y.drop (Y.length - X.length) = Y2
      intro hY l1 l2
      subst hY
      have hs := swp_f P X Y1 Y2 S (m - i) (m + j - i) i (by omega) (by omega) hi (by omega) (by simp at hl; omega)
      have ih := rot_l0 n P Y2 Y1 (X ++ S) m i (j - i) (by simp at hn; omega) (by omega) (by omega) (by omega) (by omega) (by omega) (by simp at hl ⊢; omega)
      have := ev_bind (f := fun k t => api_Duty_98.l0 k t m i (j - i)) hs (by simpa using ih)
      refine ev_step (by simpa using this) (fun k hk => ?_)
      rw [api_Duty_98.l0, if_neg (by omega), if_neg (by omega), w64 (n := m - i) (by omega) (by omega), w64 (n := m + j) (by omega) (by omega), w64 (n := m + j - i) (by omega) (by omega), w64 (n := j - i) (by omega) (by omega)]
      simp
    · have hs := swp_f P X [] Y S (m - i) m i (by omega) (by simp; omega) hi (by omega) (by simp; omega)
      refine ev_step (by simpa using ev_id hs) (fun k hk => ?_)
      rw [api_Duty_98.l0, if_pos c, w64 (n := m - i) (by omega) (by omega)]
      simp
    · have hX : X = X.take Y.length ++ X.drop Y.length := (List.take_append_drop ..).symm
      have l1 : (X.take Y.length).length = Y.length := by rw [List.length_take]; omega
      have l2 : (X.drop Y.length).length = X.length - Y.length := by rw [List.length_drop]
      revert hX l1 l2
      generalize X.take Y.length = X1
      generalize X.drop Y.length = X2
      intro hX l1 l2
      subst hX
      simp only [List.length_append] at *
      push_cast at *
      have hs := swp_f P X1 X2 Y S (m - i) m j (by omega) (by omega) (by omega) (by omega) (by omega)
      have ih := rot_l0 n (P ++ Y) X2 X1 S m (i - j) j (by omega) (by omega) (by omega) (by simp; omega) (by omega) (by omega) (by simp; omega)
      have := ev_bind (f := fun k t => api_Duty_98.l0 k t m (i - j) j) hs (by simpa using ih)
      refine ev_step (by simpa using this) (fun k hk => ?_)
      rw [api_Duty_98.l0, if_neg (by omega), if_pos (by omega), w64 (n := m - i) (by omega) (by omega), w64 (n := i - j) (by omega) (by omega)]
      simp
theorem rot_f (P X Y S : List S36) (a m b : Int) (ha : a = P.length) (hm : m = P.length + X.length) (hb : b = m + Y.length) (hx : 0 < X.length) (hy : 0 < Y.length) (hl : P.length + X.length + Y.length + S.length ≤ 500) : Ev (fun k => api_Duty_98.f k (P ++ X ++ Y ++ S) a m b) (P ++ Y ++ X ++ S) := by
  unfold api_Duty_98.f
  rw [w64 (n := m - a) (by omega) (by omega), w64 (n := b - m) (by omega) (by omega)]
  exact rot_l0 _ P X Y S m _ _ (Nat.le_refl _) hx hy hm (by omega) (by omega) hl

theorem w64n {n : Int} (h0 : -1000000 ≤ n) (h1 : n < 1000000) : wrap64 n = n := by unfold wrap64; omega
/-! ### the searches -/
theorem bs_l0 (xs : List S36) (a : Int) (lo hi : Int) (h0 : 0 ≤ lo) (h1 : hi ≤ xs.length) (hx : xs.length ≤ 1000) (ha0 : 0 ≤ a) (ha1 : a < xs.length) : ∀ (n : Nat) (i j : Int), j - i ≤ n → lo ≤ i → i ≤ j → j ≤ hi → (i = lo ∨ ltk (rd_T36 xs (i - 1)) (rd_T36 xs a)) → (j = hi ∨ ¬ ltk (rd_T36 xs j) (rd_T36 xs a)) → ∃ s, lo ≤ s ∧ s ≤ hi ∧ (s = lo ∨ ltk (rd_T36 xs (s - 1)) (rd_T36 xs a)) ∧ (s = hi ∨ ¬ ltk (rd_T36 xs s) (rd_T36 xs a)) ∧ ∀ r, Ev (fun k => api_Duty_92.l1 k xs s a) r → Ev (fun k => api_Duty_92.l0 k xs a i j) r
  | n, i, j, hn, hi0, hij, hj, hi1, hj1 => by
    by_cases c : i < j
    · cases n with
      | zero => omega
      | succ n =>
        push_cast at hn
        have hh : wrap64 ((IntKind.u64.wrap (wrap64 (i + j))) / 2) = (i + j) / 2 := half_ok (by omega) (by omega) (by omega)
        by_cases q : ltk (rd_T36 xs ((i + j) / 2)) (rd_T36 xs a)
        · obtain ⟨s, s0, s1, s2, s3, hs⟩ := bs_l0 xs a lo hi h0 h1 hx ha0 ha1 n ((i + j) / 2 + 1) j (by omega) (by omega) (by omega) hj (Or.inr (by rw [show (i + j) / 2 + 1 - 1 = (i + j) / 2 by omega]; exact q)) hj1
          refine ⟨s, s0, s1, s2, s3, fun r hr => ev_step (hs r hr) (fun k hk => ?_)⟩
          rw [api_Duty_92.l0, if_pos c, hh, if_pos (by omega), if_pos (by omega), if_pos ha0, if_pos ha1, cmp_ok _ _ hk]
          simp only [Option.bind_some]
          rw [if_pos (cmpv_lt.2 q), w64 (n := (i + j) / 2 + 1) (by omega) (by omega)]
        · obtain ⟨s, s0, s1, s2, s3, hs⟩ := bs_l0 xs a lo hi h0 h1 hx ha0 ha1 n i ((i + j) / 2) (by omega) hi0 (by omega) (by omega) hi1 (Or.inr q)
          refine ⟨s, s0, s1, s2, s3, fun r hr => ev_step (hs r hr) (fun k hk => ?_)⟩
          rw [api_Duty_92.l0, if_pos c, hh, if_pos (by omega), if_pos (by omega), if_pos ha0, if_pos ha1, cmp_ok _ _ hk]
          simp only [Option.bind_some]
          rw [if_neg (fun h => q (cmpv_lt.1 h))]
    · obtain rfl : i = j := by omega
      refine ⟨i, hi0, hj, hi1, hj1, fun r hr => ev_step hr (fun k hk => ?_)⟩
      rw [api_Duty_92.l0, if_neg c]
theorem bs_l2 (xs : List S36) (a : Int) (lo hi : Int) (h0 : 0 ≤ lo) (h1 : hi ≤ xs.length) (hx : xs.length ≤ 1000) (ha0 : 0 ≤ a) (ha1 : a < xs.length) : ∀ (n : Nat) (i j : Int), j - i ≤ n → lo ≤ i → i ≤ j → j ≤ hi → (i = lo ∨ ¬ ltk (rd_T36 xs a) (rd_T36 xs (i - 1))) → (j = hi ∨ ltk (rd_T36 xs a) (rd_T36 xs j)) → ∃ s, lo ≤ s ∧ s ≤ hi ∧ (s = lo ∨ ¬ ltk (rd_T36 xs a) (rd_T36 xs (s - 1))) ∧ (s = hi ∨ ltk (rd_T36 xs a) (rd_T36 xs s)) ∧ ∀ r, Ev (fun k => api_Duty_92.l3 k xs s a) r → Ev (fun k => api_Duty_92.l2 k xs a i j) r
  | n, i, j, hn, hi0, hij, hj, hi1, hj1 => by
    by_cases c : i < j
    · cases n with
      | zero => omega
      | succ n =>
        push_cast at hn
        have hh : wrap64 ((IntKind.u64.wrap (wrap64 (i + j))) / 2) = (i + j) / 2 := half_ok (by omega) (by omega) (by omega)
        by_cases q : ltk (rd_T36 xs a) (rd_T36 xs ((i + j) / 2))
        · obtain ⟨s, s0, s1, s2, s3, hs⟩ := bs_l2 xs a lo hi h0 h1 hx ha0 ha1 n i ((i + j) / 2) (by omega) hi0 (by omega) (by omega) hi1 (Or.inr q)
          refine ⟨s, s0, s1, s2, s3, fun r hr => ev_step (hs r hr) (fun k hk => ?_)⟩
          rw [api_Duty_92.l2, if_pos c, if_pos ha0, if_pos ha1, hh, if_pos (by omega), if_pos (by omega), cmp_ok _ _ hk]
          simp only [Option.bind_some]
          rw [if_pos (cmpv_lt.2 q)]
        · obtain ⟨s, s0, s1, s2, s3, hs⟩ := bs_l2 xs a lo hi h0 h1 hx ha0 ha1 n ((i + j) / 2 + 1) j (by omega) (by omega) (by omega) hj (Or.inr (by rw [show (i + j) / 2 + 1 - 1 = (i + j) / 2 by omega]; exact q)) hj1
          refine ⟨s, s0, s1, s2, s3, fun r hr => ev_step (hs r hr) (fun k hk => ?_)⟩
          rw [api_Duty_92.l2, if_pos c, if_pos ha0, if_pos ha1, hh, if_pos (by omega), if_pos (by omega), cmp_ok _ _ hk]
          simp only [Option.bind_some]
          rw [if_neg (fun h => q (cmpv_lt.1 h)), w64 (n := (i + j) / 2 + 1) (by omega) (by omega)]
    · obtain rfl : i = j := by omega
      refine ⟨i, hi0, hj, hi1, hj1, fun r hr => ev_step hr (fun k hk => ?_)⟩
      rw [api_Duty_92.l2, if_neg c]
theorem bs_l4 (xs : List S36) (a m b mid nn p lo hi : Int) (h0 : 0 ≤ lo) (h1 : hi ≤ xs.length) (hp : p - lo < xs.length) (hp2 : hi - 1 ≤ p) (hx : xs.length ≤ 1000) (hb : 0 ≤ nn ∧ nn ≤ 10000) (hpb : p ≤ 10000) : ∀ (n : Nat) (i j : Int), j - i ≤ n → lo ≤ i → i ≤ j → j ≤ hi → (i = lo ∨ ¬ ltk (rd_T36 xs (p - (i - 1))) (rd_T36 xs (i - 1))) → (j = hi ∨ ltk (rd_T36 xs (p - j)) (rd_T36 xs j)) → ∃ s, lo ≤ s ∧ s ≤ hi ∧ (s = lo ∨ ¬ ltk (rd_T36 xs (p - (s - 1))) (rd_T36 xs (s - 1))) ∧ (s = hi ∨ ltk (rd_T36 xs (p - s)) (rd_T36 xs s)) ∧ ∀ r, Ev (fun k => api_Duty_92.j6 k xs a m b mid s (nn - s) (decide (s < m ∧ m < nn - s))) r → Ev (fun k => api_Duty_92.l4 k xs a m b mid nn i j p) r
  | n, i, j, hn, hi0, hij, hj, hi1, hj1 => by
    by_cases c : i < j
    · cases n with
      | zero => omega
      | succ n =>
        push_cast at hn
        have hh : wrap64 ((IntKind.u64.wrap (wrap64 (i + j))) / 2) = (i + j) / 2 := half_ok (by omega) (by omega) (by omega)
        by_cases q : ltk (rd_T36 xs (p - (i + j) / 2)) (rd_T36 xs ((i + j) / 2))
        · obtain ⟨s, s0, s1, s2, s3, hs⟩ := bs_l4 xs a m b mid nn p lo hi h0 h1 hp hp2 hx hb hpb n i ((i + j) / 2) (by omega) hi0 (by omega) (by omega) hi1 (Or.inr q)
          refine ⟨s, s0, s1, s2, s3, fun r hr => ev_step (hs r hr) (fun k hk => ?_)⟩
          rw [api_Duty_92.l4, if_pos c, hh, w64 (n := p - (i + j) / 2) (by omega) (by omega), if_pos (by omega), if_pos (by omega), if_pos (by omega), if_pos (by omega), cmp_ok _ _ hk]
          simp only [Option.bind_some]
          rw [if_pos (cmpv_lt.2 q)]
        · obtain ⟨s, s0, s1, s2, s3, hs⟩ := bs_l4 xs a m b mid nn p lo hi h0 h1 hp hp2 hx hb hpb n ((i + j) / 2 + 1) j (by omega) (by omega) (by omega) hj (Or.inr (by rw [show (i + j) / 2 + 1 - 1 = (i + j) / 2 by omega]; exact q)) hj1
          refine ⟨s, s0, s1, s2, s3, fun r hr => ev_step (hs r hr) (fun k hk => ?_)⟩
          rw [api_Duty_92.l4, if_pos c, hh, w64 (n := p - (i + j) / 2) (by omega) (by omega), if_pos (by omega), if_pos (by omega), if_pos (by omega), if_pos (by omega), cmp_ok _ _ hk]
          simp only [Option.bind_some]
          rw [if_neg (fun h => q (cmpv_lt.1 h)), w64 (n := (i + j) / 2 + 1) (by omega) (by omega)]
    · obtain rfl : i = j := by omega
      refine ⟨i, hi0, hj, hi1, hj1, fun r hr => ev_step hr (fun k hk => ?_)⟩
      rw [api_Duty_92.l4, if_neg c, w64n (n := nn - i) (by omega) (by omega)]
      by_cases q : i < m
      · rw [if_pos q]
        congr 1
        by_cases q2 : m < nn - i
        · rw [decide_eq_true q2, decide_eq_true ⟨q, q2⟩]
        · rw [decide_eq_false q2, decide_eq_false (fun h => q2 h.2)]
      · rw [if_neg q, decide_eq_false (fun h => q h.1)]
/-! ### the shifts -/
theorem sh_l1 (s : Int) : ∀ (R P V : List S36) (x : S36) (i : Int), i = P.length → s = P.length + R.length + 1 → P.length + R.length + V.length ≤ 900 → Ev (fun k => api_Duty_92.l1 k (P ++ x :: (R ++ V)) s i) (P ++ R ++ x :: V)
  | [], P, V, x, i, hi, hs, hl => by
    refine ev_step (ev_some _) (fun k hk => ?_)
    rw [api_Duty_92.l1, w64 (n := s - 1) (by simp at hs; omega) (by simp at hs; omega), if_neg (by simp at hs; omega)]; simp
  | y :: R, P, V, x, i, hi, hs, hl => by
    simp only [List.length_cons] at hs hl
    push_cast at hs
    have ih := sh_l1 s R (P ++ [y]) V x (i + 1) (by simp; omega) (by simp; omega) (by simp; omega)
    have ih' : Ev (fun k => api_Duty_92.l1 k (P ++ y :: x :: (R ++ V)) s (i + 1)) (P ++ (y :: R) ++ x :: V) := by simpa using ih
    have r1 : rd_T36 (P ++ x :: y :: (R ++ V)) i = x := rd_mid rfl hi
    have r2 : rd_T36 (P ++ x :: y :: (R ++ V)) (i + 1) = y := rd_mid (U := P ++ [x]) (V := R ++ V) (by simp) (by simp; omega)
    have hlen : ((P ++ x :: y :: (R ++ V)).length : Int) = P.length + R.length + V.length + 2 := by simp; omega
    refine ev_step ih' (fun k hk => ?_)
    rw [List.cons_append, api_Duty_92.l1, w64 (n := s - 1) (by omega) (by omega), if_pos (by omega), w64 (n := i + 1) (by omega) (by omega), if_pos (by omega), if_pos (by omega), if_pos (by omega), if_pos (by omega), r1, r2, eta36, eta36, show i.toNat = P.length by omega, show (i + 1).toNat = P.length + 1 by omega, set_adj2]
theorem sh_l3 (s : Int) : ∀ (n : Nat) (L U V : List S36) (y : S36) (j : Int), L.length = n → s = U.length → j = U.length + L.length → U.length + L.length + V.length ≤ 900 → Ev (fun k => api_Duty_92.l3 k (U ++ L ++ y :: V) s j) (U ++ y :: (L ++ V))
  | 0, L, U, V, y, j, hn, hs, hj, hl => by
    obtain rfl : L = [] := List.eq_nil_of_length_eq_zero hn
    refine ev_step (ev_some _) (fun k hk => ?_)
    rw [api_Duty_92.l3, if_neg (by simp at hj; omega)]; simp
  | n + 1, L, U, V, y, j, hn, hs, hj, hl => by
    obtain ⟨L', e, rfl, hn'⟩ := snoc_of hn
    simp only [List.length_append, List.length_cons, List.length_nil] at hl hj
    push_cast at hj
    have ih := sh_l3 s n L' U (e :: V) y (j - 1) hn' hs (by omega) (by simp; omega)
    have e1 : U ++ (L' ++ [e]) ++ y :: V = (U ++ L') ++ e :: y :: V := by simp
    have ih' : Ev (fun k => api_Duty_92.l3 k ((U ++ L') ++ y :: e :: V) s (j - 1)) (U ++ y :: ((L' ++ [e]) ++ V)) := by simpa using ih
    have r1 : rd_T36 ((U ++ L') ++ e :: y :: V) (j - 1) = e := rd_mid rfl (by simp; omega)
    have r2 : rd_T36 ((U ++ L') ++ e :: y :: V) j = y := rd_mid (U := U ++ L' ++ [e]) (V := V) (by simp) (by simp; omega)
    have hlen : (((U ++ L') ++ e :: y :: V).length : Int) = U.length + L'.length + V.length + 2 := by simp; omega
    rw [e1]
    refine ev_step ih' (fun k hk => ?_)
    rw [api_Duty_92.l3, if_pos (by omega), w64 (n := j - 1) (by omega) (by omega), if_pos (by omega), if_pos (by omega), if_pos (by omega), if_pos (by omega), r1, r2, eta36, eta36, show j.toNat = (U ++ L').length + 1 by simp; omega, show (j - 1).toNat = (U ++ L').length by simp; omega, set_adj1]

/-! ### the symmetric merge -/
theorem cut_at {l : List S36} {n : Nat} (h : n ≤ l.length) : ∃ l1 l2, l = l1 ++ l2 ∧ l1.length = n ∧ l2.length = l.length - n :=
  ⟨l.take n, l.drop n, (List.take_append_drop n l).symm, by rw [List.length_take]; omega, List.length_drop ..⟩
theorem nil_of {l : List S36} (h : (l.length : Int) ≤ 0) : l = [] := List.eq_nil_of_length_eq_zero (by omega)
def Good (N : Nat) : Prop := ∀ (P L R S : List S36) (a m b : Int), L.length + R.length < N → 0 < L.length → 0 < R.length → Srt L → Srt R → a = P.length → m = P.length + L.length → b = P.length + L.length + R.length → P.length + L.length + R.length + S.length ≤ 400 → Ev (fun k => api_Duty_92.f k (P ++ L ++ R ++ S) a m b) (P ++ smerge L R ++ S)
theorem tail_ok {N : Nat} (hN : Good N) (Q L R S : List S36) (mid e b : Int) (h : L.length + R.length < N) (sL : Srt L) (sR : Srt R) (ha : mid = Q.length) (hm : e = Q.length + L.length) (hb : b = Q.length + L.length + R.length) (hl : Q.length + L.length + R.length + S.length ≤ 400) :
    Ev (fun k => if mid < e then (if e < b then ((api_Duty_92.f k (Q ++ L ++ R ++ S) mid e b).bind fun t => some t) else some (Q ++ L ++ R ++ S)) else some (Q ++ L ++ R ++ S)) (Q ++ smerge L R ++ S) := by
  by_cases c1 : mid < e
  · by_cases c2 : e < b
    · simp only [if_pos c1, if_pos c2]
      exact ev_id (hN Q L R S mid e b h (by omega) (by omega) sL sR ha hm hb hl)
    · obtain rfl : R = [] := nil_of (by omega)
      simp only [if_pos c1, if_neg c2]
      rw [smerge_r, List.append_nil]
      exact ev_some _
  · obtain rfl : L = [] := nil_of (by omega)
    simp only [if_neg c1]
    rw [smerge_l, List.append_nil]
    exact ev_some _
theorem j7_ok {N : Nat} (hN : Good N) (P L1 R1 L2 R2 S : List S36) (a b mid s e : Int) (h1 : L1.length + R1.length < N) (h2 : L2.length + R2.length < N) (s1 : Srt L1) (t1 : Srt R1) (s2 : Srt L2) (t2 : Srt R2) (ha : a = P.length) (hs : s = P.length + L1.length) (hm : mid = P.length + L1.length + R1.length) (he : e = P.length + L1.length + R1.length + L2.length) (hb : b = P.length + L1.length + R1.length + L2.length + R2.length) (hl : P.length + L1.length + R1.length + L2.length + R2.length + S.length ≤ 400) :
    Ev (fun k => api_Duty_92.j7 k (P ++ L1 ++ R1 ++ L2 ++ R2 ++ S) a b mid s e) (P ++ smerge L1 R1 ++ smerge L2 R2 ++ S) := by
  have ht := tail_ok hN (P ++ smerge L1 R1) L2 R2 S mid e b h2 s2 t2 (by simp [smerge_length]; omega) (by simp [smerge_length]; omega) (by simp [smerge_length]; omega) (by simp [smerge_length]; omega)
  by_cases c1 : a < s
  · by_cases c2 : s < mid
    · have hf := hN P L1 R1 (L2 ++ R2 ++ S) a s mid h1 (by omega) (by omega) s1 t1 ha hs hm (by simp; omega)
      have hq := ev_bind (f := fun k t => if mid < e then (if e < b then ((api_Duty_92.f k t mid e b).bind fun t => some t) else some t) else some t) hf (by simpa using ht)
      refine ev_step (ev_step (g := fun k => api_Duty_92.j8 k (P ++ L1 ++ R1 ++ L2 ++ R2 ++ S) a b mid s e true) (by simpa using hq) (fun k hk => ?_)) (fun k hk => ?_)
      · rw [api_Duty_92.j8, if_pos rfl]
        simp
      · rw [api_Duty_92.j7, if_pos c1, decide_eq_true c2]
    · obtain rfl : R1 = [] := nil_of (by omega)
      refine ev_step (ev_step (g := fun k => api_Duty_92.j8 k (P ++ L1 ++ [] ++ L2 ++ R2 ++ S) a b mid s e false) (by simpa [smerge_r] using ht) (fun k hk => ?_)) (fun k hk => ?_)
      · rw [api_Duty_92.j8, if_neg (by decide)]
        simp
      · rw [api_Duty_92.j7, if_pos c1, decide_eq_false c2]
  · obtain rfl : L1 = [] := nil_of (by omega)
    refine ev_step (ev_step (g := fun k => api_Duty_92.j8 k (P ++ [] ++ R1 ++ L2 ++ R2 ++ S) a b mid s e false) (by simpa [smerge_l] using ht) (fun k hk => ?_)) (fun k hk => ?_)
    · rw [api_Duty_92.j8, if_neg (by decide)]
      simp
    · rw [api_Duty_92.j7, if_neg c1]
theorem j6_ok {N : Nat} (hN : Good N) (P L1 L2 R1 R2 S : List S36) (a m b mid s e : Int) (h1 : L1.length + R1.length < N) (h2 : L2.length + R2.length < N) (s1 : Srt L1) (t1 : Srt R1) (s2 : Srt L2) (t2 : Srt R2) (ha : a = P.length) (hs : s = P.length + L1.length) (hmm : m = P.length + L1.length + L2.length) (hm : mid = P.length + L1.length + R1.length) (he : e = P.length + L1.length + R1.length + L2.length) (hb : b = P.length + L1.length + R1.length + L2.length + R2.length) (hl : P.length + L1.length + R1.length + L2.length + R2.length + S.length ≤ 400) :
    Ev (fun k => api_Duty_92.j6 k (P ++ L1 ++ L2 ++ R1 ++ R2 ++ S) a m b mid s e (decide (s < m ∧ m < e))) (P ++ smerge L1 R1 ++ smerge L2 R2 ++ S) := by
  have hj := j7_ok hN P L1 R1 L2 R2 S a b mid s e h1 h2 s1 t1 s2 t2 ha hs hm he hb hl
  by_cases c : s < m ∧ m < e
  · rw [decide_eq_true c]
    have hr := rot_f (P ++ L1) L2 R1 (R2 ++ S) s m e (by simp; omega) (by simp; omega) (by omega) (by omega) (by omega) (by simp; omega)
    have hq := ev_bind (f := fun k t => api_Duty_92.j7 k t a b mid s e) hr (by simpa using hj)
    refine ev_step (by simpa using hq) (fun k hk => ?_)
    rw [api_Duty_92.j6, if_pos rfl]
    simp
  · rw [decide_eq_false c]
    have : L2 = [] ∨ R1 = [] := by
      by_cases q : s < m
      · exact Or.inr (nil_of (by omega))
      · exact Or.inl (nil_of (by omega))
    refine ev_step hj (fun k hk => ?_)
    rw [api_Duty_92.j6, if_neg (by decide)]
    rcases this with rfl | rfl <;> simp
theorem smerge_one_l {x : S36} {R1 R2 : List S36} (h1 : ∀ y ∈ R1, ltk y x) (h2 : ∀ y ∈ R2, ¬ ltk y x) : smerge [x] (R1 ++ R2) = R1 ++ x :: R2 := by
  have e1 := smerge_split [] R1 [x] R2 (fun _ h => by cases h) (fun y hy z hz => by rw [List.mem_singleton.1 hz]; exact h1 y hy)
  have e2 := smerge_split [x] [] [] R2 (fun z hz y hy => by rw [List.mem_singleton.1 hz]; exact h2 y hy) (fun _ h => by cases h)
  rw [List.nil_append, smerge_l] at e1
  rw [List.append_nil, List.nil_append, smerge_r, smerge_l] at e2
  rw [e1, e2]; rfl
theorem smerge_one_r {y : S36} {L1 L2 : List S36} (h1 : ∀ x ∈ L1, ¬ ltk y x) (h2 : ∀ x ∈ L2, ltk y x) : smerge (L1 ++ L2) [y] = L1 ++ y :: L2 := by
  have e1 := smerge_split L1 [] L2 [y] (fun x hx z hz => by rw [List.mem_singleton.1 hz]; exact h1 x hx) (fun _ h => by cases h)
  have e2 := smerge_split [] [y] L2 [] (fun _ h => by cases h) (fun z hz x hx => by rw [List.mem_singleton.1 hz]; exact h2 x hx)
  rw [List.nil_append, smerge_r] at e1
  rw [List.append_nil, List.nil_append, smerge_r, smerge_l] at e2
  rw [e1, e2]; rfl
theorem sym_one_l (P R S : List S36) (x : S36) (a m b : Int) (hR : 0 < R.length) (sR : Srt R) (ha : a = P.length) (hm : m = P.length + 1) (hb : b = P.length + 1 + R.length) (hl : P.length + 1 + R.length + S.length ≤ 400) : Ev (fun k => api_Duty_92.f k (P ++ [x] ++ R ++ S) a m b) (P ++ smerge [x] R ++ S) := by
  have hlen : ((P ++ [x] ++ R ++ S).length : Int) = P.length + 1 + R.length + S.length := by simp; omega
  have hx : rd_T36 (P ++ [x] ++ R ++ S) a = x := rd_mid (U := P) (V := R ++ S) (by simp) ha
  obtain ⟨s, g0, g1, g2, g3, hs⟩ := bs_l0 (P ++ [x] ++ R ++ S) a m b (by omega) (by omega) (by omega) (by omega) (by omega) R.length m b (by omega) (by omega) (by omega) (by omega) (Or.inl rfl) (Or.inl rfl)
  obtain ⟨R1, R2, rfl, l1, l2⟩ := cut_at (l := R) (n := (s - m).toNat) (by omega)
  rw [List.length_append] at l2
  rw [hx] at g2 g3
  have k1 : ∀ y ∈ R1, ltk y x := by
    refine all_lt (List.pairwise_append.1 sR).1 ?_
    cases hq : R1.length with
    | zero => exact Or.inl (List.eq_nil_of_length_eq_zero hq)
    | succ n =>
      obtain ⟨R0, e, rfl, h0⟩ := snoc_of hq
      refine Or.inr ⟨R0, e, rfl, ?_⟩
      rcases g2 with g | g
      · omega
      · rwa [rd_mid (U := P ++ [x] ++ R0) (V := R2 ++ S) (x := e) (by simp) (by simp; omega)] at g
  have k2 : ∀ y ∈ R2, ¬ ltk y x := by
    refine all_ge (List.pairwise_append.1 sR).2.1 ?_
    cases R2 with
    | nil => exact Or.inl rfl
    | cons e R0 =>
      refine Or.inr ⟨e, R0, rfl, ?_⟩
      rcases g3 with g | g
      · simp at l2 hb; omega
      · rwa [rd_mid (U := P ++ [x] ++ R1) (V := R0 ++ S) (x := e) (by simp) (by simp; omega)] at g
  rw [smerge_one_l k1 k2]
  have hsh := sh_l1 s R1 P (R2 ++ S) x a ha (by omega) (by simp at hl ⊢; omega)
  refine ev_step (hs _ (by simpa using hsh)) (fun k hk => ?_)
  rw [api_Duty_92.f, w64n (n := m - a) (by omega) (by omega), if_pos (by omega)]
theorem sym_one_r (P L S : List S36) (y : S36) (a m b : Int) (hL : 1 < L.length) (sL : Srt L) (ha : a = P.length) (hm : m = P.length + L.length) (hb : b = P.length + L.length + 1) (hl : P.length + 1 + L.length + S.length ≤ 400) : Ev (fun k => api_Duty_92.f k (P ++ L ++ [y] ++ S) a m b) (P ++ smerge L [y] ++ S) := by
  have hlen : ((P ++ L ++ [y] ++ S).length : Int) = P.length + 1 + L.length + S.length := by simp; omega
  have hy : rd_T36 (P ++ L ++ [y] ++ S) m = y := rd_mid (U := P ++ L) (V := S) (by simp) (by simp; omega)
  obtain ⟨s, g0, g1, g2, g3, hs⟩ := bs_l2 (P ++ L ++ [y] ++ S) m a m (by omega) (by omega) (by omega) (by omega) (by omega) L.length a m (by omega) (by omega) (by omega) (by omega) (Or.inl rfl) (Or.inl rfl)
  obtain ⟨L1, L2, rfl, l1, l2⟩ := cut_at (l := L) (n := (s - a).toNat) (by omega)
  rw [List.length_append] at l2
  rw [hy] at g2 g3
  have k1 : ∀ x ∈ L1, ¬ ltk y x := by
    cases hq : L1.length with
    | zero => rw [List.eq_nil_of_length_eq_zero hq]; exact fun _ h => by cases h
    | succ n =>
      obtain ⟨R0, e, rfl, h0⟩ := snoc_of hq
      rcases g2 with g | g
      · omega
      · rw [rd_mid (U := P ++ R0) (V := L2 ++ [y] ++ S) (x := e) (by simp) (by simp; omega)] at g
        intro x hx
        rcases List.mem_append.1 hx with h' | h'
        · exact ltk_ge ((List.pairwise_append.1 (List.pairwise_append.1 sL).1).2.2 x h' e (List.mem_singleton.2 rfl)) g
        · rw [List.mem_singleton.1 h']; exact g
  have k2 : ∀ x ∈ L2, ltk y x := by
    cases L2 with
    | nil => exact fun _ h => by cases h
    | cons e R0 =>
      rcases g3 with g | g
      · simp at l2 hm; omega
      · rw [rd_mid (U := P ++ L1) (V := R0 ++ [y] ++ S) (x := e) (by simp) (by simp; omega)] at g
        intro x hx
        rcases List.mem_cons.1 hx with rfl | h'
        · exact g
        · exact ltk_lt_ge g ((List.pairwise_cons.1 (List.pairwise_append.1 sL).2.1).1 x h')
  rw [smerge_one_r k1 k2]
  have hsh := sh_l3 s L2.length L2 (P ++ L1) S y m rfl (by simp; omega) (by simp at hm ⊢; omega) (by simp at hl ⊢; omega)
  refine ev_step (hs _ (by simpa using hsh)) (fun k hk => ?_)
  rw [api_Duty_92.f, w64n (n := m - a) (by omega) (by omega), if_neg (by omega), w64n (n := b - m) (by omega) (by omega), if_pos (by omega)]
theorem sym_gen {N : Nat} (hN : Good N) (P L R S : List S36) (a m b mid p lo hi : Int) (h : L.length + R.length ≤ N) (hL : 1 < L.length) (hR : 1 < R.length) (sL : Srt L) (sR : Srt R) (ha : a = P.length) (hm : m = P.length + L.length) (hb : b = P.length + L.length + R.length) (hl : P.length + L.length + R.length + S.length ≤ 400) (hmid : mid = (a + b) / 2) (hp : p = mid + m - 1)
    (hc : (m > mid ∧ lo = mid + m - b ∧ hi = mid) ∨ (m ≤ mid ∧ lo = a ∧ hi = m)) : Ev (fun k => api_Duty_92.l4 k (P ++ L ++ R ++ S) a m b mid (mid + m) lo hi p) (P ++ smerge L R ++ S) := by
  have hlen : ((P ++ L ++ R ++ S).length : Int) = P.length + L.length + R.length + S.length := by simp; omega
  obtain ⟨s, g0, g1, g2, g3, hs⟩ := bs_l4 (P ++ L ++ R ++ S) a m b mid (mid + m) p lo hi (by omega) (by omega) (by omega) (by omega) (by omega) (by omega) (by omega) (hi - lo).toNat lo hi (by omega) (by omega) (by omega) (by omega) (Or.inl rfl) (Or.inl rfl)
  obtain ⟨L1, L2, rfl, l1, l2⟩ := cut_at (l := L) (n := (s - a).toNat) (by omega)
  obtain ⟨R1, R2, rfl, q1, q2⟩ := cut_at (l := R) (n := (mid - s).toNat) (by omega)
  rw [List.length_append] at l2 q2 hm hb hL hR
  rw [List.length_append] at hb
  simp only [List.length_append] at h hl
  push_cast at hm hb
  have sL' := List.pairwise_append.1 sL
  have sR' := List.pairwise_append.1 sR
  have k1 : ∀ x ∈ L1, ∀ y ∈ R2, ¬ ltk y x := by
    cases hq : L1.length with
    | zero => rw [List.eq_nil_of_length_eq_zero hq]; exact fun _ h => by cases h
    | succ n =>
      obtain ⟨L0, e, rfl, h0⟩ := snoc_of hq
      cases R2 with
      | nil => exact fun _ _ _ h => by cases h
      | cons f R0 =>
        simp only [List.length_cons] at q2 hb
        push_cast at hb
        rcases g2 with g | g
        · omega
        · rw [rd_mid (i := s - 1) (U := P ++ L0) (V := L2 ++ (R1 ++ f :: R0) ++ S) (x := e) (by simp) (by simp; omega), rd_mid (i := p - (s - 1)) (U := P ++ (L0 ++ [e] ++ L2) ++ R1) (V := R0 ++ S) (x := f) (by simp) (by simp; omega)] at g
          intro x hx y hy
          have hxe : ¬ ltk e x := by
            rcases List.mem_append.1 hx with h' | h'
            · exact (List.pairwise_append.1 sL'.1).2.2 x h' e (List.mem_singleton.2 rfl)
            · rw [List.mem_singleton.1 h']; exact ltk_irr e
          have hfy : ¬ ltk y f := by
            rcases List.mem_cons.1 hy with rfl | h'
            · exact ltk_irr _
            · exact (List.pairwise_cons.1 sR'.2.1).1 y h'
          exact ltk_ge (ltk_ge hxe g) hfy
  have k2 : ∀ y ∈ R1, ∀ x ∈ L2, ltk y x := by
    cases hq : R1.length with
    | zero => rw [List.eq_nil_of_length_eq_zero hq]; exact fun _ h => by cases h
    | succ n =>
      obtain ⟨R0, e, rfl, h0⟩ := snoc_of hq
      cases L2 with
      | nil => exact fun _ _ _ h => by cases h
      | cons f L0 =>
        simp only [List.length_cons] at l2 hb hm
        push_cast at hb hm
        rcases g3 with g | g
        · omega
        · rw [rd_mid (i := s) (U := P ++ L1) (V := L0 ++ (R0 ++ [e] ++ R2) ++ S) (x := f) (by simp) (by simp; omega), rd_mid (i := p - s) (U := P ++ (L1 ++ f :: L0) ++ R0) (V := R2 ++ S) (x := e) (by simp) (by simp; omega)] at g
          intro y hy x hx
          have hye : ¬ ltk e y := by
            rcases List.mem_append.1 hy with h' | h'
            · exact (List.pairwise_append.1 sR'.1).2.2 y h' e (List.mem_singleton.2 rfl)
            · rw [List.mem_singleton.1 h']; exact ltk_irr e
          have hfx : ¬ ltk x f := by
            rcases List.mem_cons.1 hx with rfl | h'
            · exact ltk_irr _
            · exact (List.pairwise_cons.1 sL'.2.1).1 x h'
          exact ltk_lt_ge (ltk_ge_lt hye g) hfx
  rw [smerge_split L1 R1 L2 R2 k1 k2]
  have hj := j6_ok hN P L1 L2 R1 R2 S a m b mid s (mid + m - s) (by omega) (by omega) sL'.1 sR'.1 sL'.2.1 sR'.2.1 ha (by omega) (by omega) (by omega) (by omega) (by omega) (by omega)
  have := hs _ (by simpa using hj)
  simpa using this
theorem sym_ok : ∀ N, Good N
  | 0 => fun P L R S a m b h => by omega
  | N + 1 => by
    intro P L R S a m b h hL hR sL sR ha hm hb hl
    by_cases c1 : L.length = 1
    · obtain ⟨L', x, rfl, h'⟩ := snoc_of (n := 0) c1
      obtain rfl : L' = [] := List.eq_nil_of_length_eq_zero h'
      exact sym_one_l P R S x a m b hR sR ha (by simp at hm; omega) (by simp at hb; omega) (by simp at hl; omega)
    by_cases c2 : R.length = 1
    · obtain ⟨R', y, rfl, h'⟩ := snoc_of (n := 0) c2
      obtain rfl : R' = [] := List.eq_nil_of_length_eq_zero h'
      exact sym_one_r P L S y a m b (by omega) sL ha hm (by simp at hb; omega) (by simp at hl; omega)
    have hh : wrap64 ((IntKind.u64.wrap (wrap64 (a + b))) / 2) = (a + b) / 2 := half_ok (by omega) (by omega) (by omega)
    by_cases c3 : m > (a + b) / 2
    · have hg := sym_gen (sym_ok N) P L R S a m b ((a + b) / 2) ((a + b) / 2 + m - 1) ((a + b) / 2 + m - b) ((a + b) / 2) (by omega) (by omega) (by omega) sL sR ha hm hb hl rfl rfl (Or.inl ⟨c3, rfl, rfl⟩)
      refine ev_step (ev_step (g := fun k => api_Duty_92.j4 k (P ++ L ++ R ++ S) a m b ((a + b) / 2) ((a + b) / 2 + m) ((a + b) / 2 + m - b) ((a + b) / 2)) hg (fun k hk => ?_)) (fun k hk => ?_)
      · rw [api_Duty_92.j4, w64n (n := (a + b) / 2 + m - 1) (by omega) (by omega)]
      · rw [api_Duty_92.f, w64n (n := m - a) (by omega) (by omega), if_neg (by omega), w64n (n := b - m) (by omega) (by omega), if_neg (by omega), hh, if_pos c3, w64n (n := (a + b) / 2 + m) (by omega) (by omega), w64n (n := (a + b) / 2 + m - b) (by omega) (by omega)]
    · have hg := sym_gen (sym_ok N) P L R S a m b ((a + b) / 2) ((a + b) / 2 + m - 1) a m (by omega) (by omega) (by omega) sL sR ha hm hb hl rfl rfl (Or.inr ⟨by omega, rfl, rfl⟩)
      refine ev_step (ev_step (g := fun k => api_Duty_92.j4 k (P ++ L ++ R ++ S) a m b ((a + b) / 2) ((a + b) / 2 + m) a m) hg (fun k hk => ?_)) (fun k hk => ?_)
      · rw [api_Duty_92.j4, w64n (n := (a + b) / 2 + m - 1) (by omega) (by omega)]
      · rw [api_Duty_92.f, w64n (n := m - a) (by omega) (by omega), if_neg (by omega), w64n (n := b - m) (by omega) (by omega), if_neg (by omega), hh, if_neg c3, w64n (n := (a + b) / 2 + m) (by omega) (by omega)]
theorem sym_f (P L R S : List S36) (a m b : Int) (hL : 0 < L.length) (hR : 0 < R.length) (sL : Srt L) (sR : Srt R) (ha : a = P.length) (hm : m = P.length + L.length) (hb : b = P.length + L.length + R.length) (hl : P.length + L.length + R.length + S.length ≤ 400) : Ev (fun k => api_Duty_92.f k (P ++ L ++ R ++ S) a m b) (P ++ smerge L R ++ S) :=
  sym_ok _ P L R S a m b (Nat.lt_succ_self _) hL hR sL sR ha hm hb hl

/-! ### the stable sort -/
inductive Blk (bs : Nat) : List S36 → List S36 → Prop
  | last (T : List S36) : T.length ≤ bs → Blk bs T (srt T)
  | more (X T D : List S36) : X.length = bs → Blk bs T D → Blk bs (X ++ T) (srt X ++ D)
theorem blk_len {bs : Nat} {T D : List S36} (h : Blk bs T D) : D.length = T.length := by
  induction h with
  | last T h => exact srt_length T
  | more X T D hX _ ih => simp [srt_length, ih]
theorem blk_small {bs : Nat} (h0 : 0 < bs) {T D : List S36} (h : Blk bs T D) (hl : T.length ≤ bs) : D = srt T := by
  induction h with
  | last T h => rfl
  | more X T D hX hT ih =>
    rw [List.length_append] at hl
    obtain rfl : T = [] := List.eq_nil_of_length_eq_zero (by omega)
    rw [ih (by simp), List.append_nil, srt, List.append_nil]
theorem blk_take {bs : Nat} {T D : List S36} (h : Blk bs T D) (hl : bs ≤ T.length) : ∃ X T' D', T = X ++ T' ∧ D = srt X ++ D' ∧ X.length = bs ∧ Blk bs T' D' := by
  cases h with
  | last T h => exact ⟨T, [], [], by simp, by simp, by omega, Blk.last [] (by simp)⟩
  | more X T D hX hT => exact ⟨X, T, D, rfl, rfl, hX, hT⟩
theorem st_l0b (r : List S36) (n : Int) : ∀ (f : Nat) (T P : List S36) (a b : Int), T.length ≤ f → a = P.length → b = a + 20 → n = P.length + T.length → P.length + T.length ≤ 300 → (∀ D, Blk 20 T D → Ev (fun k => api_Duty_85.l1 k (P ++ D) n 20) r) → Ev (fun k => api_Duty_85.l0 k (P ++ T) n 20 a b) r
  | f, T, P, a, b, hf, ha, hb, hn, hl, h => by
    by_cases c : b ≤ n
    · cases f with
      | zero => omega
      | succ f =>
        obtain ⟨X, T', rfl, lX, lT⟩ := cut_at (l := T) (n := 20) (by omega)
        rw [List.length_append] at lT hf hn hl
        push_cast at hn
        have hi := ins_f P X T' a b ha (by omega) (by omega)
        have ih := st_l0b r n f T' (P ++ srt X) b (b + 20) (by omega) (by simp [srt_length]; omega) rfl (by simp [srt_length]; omega) (by simp [srt_length]; omega) (fun D hD => by simpa using h (srt X ++ D) (Blk.more X T' D lX hD))
        have hq := ev_bind (f := fun k t => api_Duty_85.l0 k t n 20 b (b + 20)) hi ih
        refine ev_step hq (fun k hk => ?_)
        rw [api_Duty_85.l0, if_pos c, w64 (n := b + 20) (by omega) (by omega)]
        simp
    · have hi := ins_f P T [] a n ha (by omega) (by simp; omega)
      have hq := ev_bind (f := fun k t => api_Duty_85.l1 k t n 20) hi (by simpa using h (srt T) (Blk.last T (by omega)))
      refine ev_step hq (fun k hk => ?_)
      rw [api_Duty_85.l0, if_neg c]
      simp
theorem st_l2b (r : List S36) (n : Int) (bs : Nat) (h0 : 0 < bs) (h1 : bs ≤ 10000) : ∀ (f : Nat) (T D P : List S36) (a b : Int), T.length ≤ f → Blk bs T D → a = P.length → b = a + 2 * bs → n = P.length + T.length → P.length + T.length ≤ 300 → (∀ D', Blk (2 * bs) T D' → Ev (fun k => api_Duty_85.l1 k (P ++ D') n (2 * bs)) r) → Ev (fun k => api_Duty_85.l2 k (P ++ D) n bs a b) r
  | f, T, D, P, a, b, hf, hB, ha, hb, hn, hl, h => by
    have hw : wrap64 ((bs : Int) * 2) = 2 * bs := by rw [w64 (n := (bs : Int) * 2) (by omega) (by omega)]; omega
    by_cases c : b ≤ n
    · cases f with
      | zero => omega
      | succ f =>
        obtain ⟨X, T1, D1, rfl, rfl, lX, hB1⟩ := blk_take hB (by omega)
        rw [List.length_append] at hf hn hl
        push_cast at hn
        obtain ⟨Y, T2, D2, rfl, rfl, lY, hB2⟩ := blk_take hB1 (by omega)
        rw [List.length_append] at hf hn hl
        push_cast at hn
        have hd2 := blk_len hB2
        have hi := sym_f P (srt X) (srt Y) D2 a (a + bs) b (by rw [srt_length]; omega) (by rw [srt_length]; omega) (srt_sorted X) (srt_sorted Y) ha (by rw [srt_length]; omega) (by rw [srt_length, srt_length]; omega) (by rw [srt_length, srt_length]; omega)
        rw [← srt_append] at hi
        have ih := st_l2b r n bs h0 h1 f T2 D2 (P ++ srt (X ++ Y)) b (b + 2 * bs) (by omega) hB2 (by simp [srt_length]; omega) rfl (by simp [srt_length]; omega) (by simp [srt_length]; omega) (fun D' hD => by
          have := h (srt (X ++ Y) ++ D') (by rw [← List.append_assoc]; exact Blk.more (X ++ Y) T2 D' (by simp; omega) hD)
          simpa using this)
        have hq := ev_bind (f := fun k t => api_Duty_85.l2 k t n bs b (b + 2 * bs)) hi ih
        refine ev_step (by simpa using hq) (fun k hk => ?_)
        rw [api_Duty_85.l2, if_pos c, w64 (n := 2 * (bs : Int)) (by omega) (by omega), w64 (n := a + bs) (by omega) (by omega), w64 (n := b + 2 * bs) (by omega) (by omega)]
    · by_cases c2 : a + bs < n
      · obtain ⟨X, T1, D1, rfl, rfl, lX, hB1⟩ := blk_take hB (by omega)
        rw [List.length_append] at hf hn hl
        push_cast at hn
        have e1 := blk_small h0 hB1 (by omega)
        subst e1
        have hi := sym_f P (srt X) (srt T1) [] a (a + bs) n (by rw [srt_length]; omega) (by rw [srt_length]; omega) (srt_sorted X) (srt_sorted T1) ha (by rw [srt_length]; omega) (by rw [srt_length, srt_length]; omega) (by rw [srt_length, srt_length]; simp; omega)
        rw [← srt_append] at hi
        have hq := ev_bind (f := fun k t => api_Duty_85.l1 k t n (2 * bs)) hi (by simpa using h (srt (X ++ T1)) (Blk.last _ (by simp; omega)))
        refine ev_step (by simpa using hq) (fun k hk => ?_)
        rw [api_Duty_85.l2, if_neg c, w64 (n := a + bs) (by omega) (by omega), if_pos c2, hw]
      · have e1 := blk_small h0 hB (by omega)
        subst e1
        refine ev_step (h (srt T) (Blk.last _ (by omega))) (fun k hk => ?_)
        rw [api_Duty_85.l2, if_neg c, w64 (n := a + bs) (by omega) (by omega), if_neg c2, hw]
theorem st_l1b (T : List S36) (hl : T.length ≤ 300) : ∀ (f bs : Nat) (D : List S36), 0 < bs → bs ≤ 10000 → T.length ≤ bs * 2 ^ f → Blk bs T D → Ev (fun k => api_Duty_85.l1 k D T.length bs) (srt T)
  | 0, bs, D, h0, h1, hf, hB => by
    rw [blk_small h0 hB (by simpa using hf)]
    refine ev_step (ev_some _) (fun k hk => ?_)
    rw [api_Duty_85.l1, if_neg (by simp at hf; omega)]
  | f + 1, bs, D, h0, h1, hf, hB => by
    by_cases c : (bs : Int) < T.length
    · have := st_l2b (srt T) T.length bs h0 h1 T.length T D [] 0 (2 * bs) (Nat.le_refl _) hB rfl (by omega) (by simp) (by simpa using hl) (fun D' hD' => by
        have := st_l1b T hl f (2 * bs) D' (by omega) (by omega) (by rw [Nat.pow_succ] at hf; rw [Nat.mul_comm 2 bs, Nat.mul_assoc, Nat.mul_comm 2]; exact hf) hD'
        push_cast at this
        simpa using this)
      refine ev_step (by simpa using this) (fun k hk => ?_)
      rw [api_Duty_85.l1, if_pos c, w64 (n := 2 * (bs : Int)) (by omega) (by omega)]
    · rw [blk_small h0 hB (by omega)]
      refine ev_step (ev_some _) (fun k hk => ?_)
      rw [api_Duty_85.l1, if_neg c]
theorem stable_ok (T : List S36) (hl : T.length ≤ 300) : Ev (fun k => api_Duty_85.f k T T.length) (srt T) := by
  have := st_l0b (srt T) T.length T.length T [] 0 20 (Nat.le_refl _) rfl rfl (by simp) (by simpa using hl) (fun D hD => by
    have := st_l1b T hl 9 20 D (by omega) (by omega) (by omega) hD
    simpa using this)
  unfold api_Duty_85.f
  simpa using this
/-! ### Concat and Merge -/
def sumL : List (List S36) → Nat
  | [] => 0
  | l :: t => l.length + sumL t
theorem flat_length : ∀ ls : List (List S36), ls.flatten.length = sumL ls
  | [] => rfl
  | l :: t => by rw [List.flatten_cons, List.length_append, flat_length t, sumL]
theorem cat_l1 (ls : List (List S36)) (hl : ls.length ≤ 1000) : ∀ (t : List (List S36)) (acc : List S36) (i : Int), 0 ≤ i → i ≤ ls.length → ls.drop i.toNat = t → acc.length + sumL t ≤ 100000 → Ev (fun k => api_Duty_64.l1 k acc ls ls.length i) (acc ++ t.flatten)
  | [], acc, i, h0, hi, hd, hs => by
    have := drop_len h0 hi hd
    refine ev_step (ev_some _) (fun k hk => ?_)
    rw [api_Duty_64.l1, if_neg (by simp at this; omega)]; simp
  | e :: t, acc, i, h0, hi, hd, hs => by
    have hl2 := drop_len h0 hi hd
    have hr : rd_L6 ls i = e := getD_at hd
    rw [List.length_cons] at hl2
    push_cast at hl2
    rw [sumL] at hs
    have ih := cat_l1 ls hl t (acc ++ e) (i + 1) (by omega) (by omega) (drop_next h0 hd) (by simp; omega)
    refine ev_step (by simpa using ih) (fun k hk => ?_)
    rw [api_Duty_64.l1, if_pos (by omega), if_pos h0, if_pos (by omega), hr, if_pos (by omega), w64 (n := i + 1) (by omega) (by omega)]
theorem cat_l0 (ls : List (List S36)) (hl : ls.length ≤ 1000) (hs : sumL ls ≤ 100000) : ∀ (t : List (List S36)) (n i : Int), 0 ≤ i → i ≤ ls.length → ls.drop i.toNat = t → 0 ≤ n → n + sumL t ≤ 100000 → Ev (fun k => api_Duty_64.l0 k ls n ls ls.length i) ls.flatten
  | [], n, i, h0, hi, hd, hn, hn2 => by
    have := drop_len h0 hi hd
    have h1 := cat_l1 ls hl ls [] 0 (Int.le_refl _) (by omega) rfl (by simpa using hs)
    refine ev_step h1 (fun k hk => ?_)
    rw [api_Duty_64.l0, if_neg (by simp at this; omega)]
    unfold api_Duty_84.f
    rw [if_pos (by constructor <;> omega)]
    rfl
  | e :: t, n, i, h0, hi, hd, hn, hn2 => by
    have hl2 := drop_len h0 hi hd
    have hr : rd_L6 ls i = e := getD_at hd
    rw [List.length_cons] at hl2
    push_cast at hl2
    rw [sumL] at hn2
    push_cast at hn2
    have ih := cat_l0 ls hl hs t (n + e.length) (i + 1) (by omega) (by omega) (drop_next h0 hd) (by omega) (by omega)
    refine ev_step ih (fun k hk => ?_)
    rw [api_Duty_64.l0, if_pos (by omega), if_pos h0, if_pos (by omega), hr, w64 (n := n + e.length) (by omega) (by omega), if_neg (by omega), w64 (n := i + 1) (by omega) (by omega)]
theorem merge_ok (ls : List (List S36)) (hl : ls.length ≤ 1000) (hs : sumL ls ≤ 300) : Ev (fun k => duty_Merge.f k ls) (srt ls.flatten) := by
  have h1 : Ev (fun k => api_Duty_64.f k ls) ls.flatten := cat_l0 ls hl (by omega) ls 0 0 (Int.le_refl _) (by omega) rfl (Int.le_refl _) (by omega)
  have h2 := stable_ok ls.flatten (by rw [flat_length]; exact hs)
  have h3 : Ev (fun k => api_Duty_65.f k ls.flatten) (srt ls.flatten) := ev_id h2
  exact ev_bind (f := fun k t => (api_Duty_65.f k t).bind fun t => some t) h1 (ev_id h3)

/-! whose duties a plan has -/
theorem bothL_mem {t s a b : Int} {ks : List Int} {z : S36} (h : z ∈ bothL t s a b ks) : z.f0 = t ∧ z.f1 = s ∧ (z.f2 = a ∨ z.f2 = b) := by
  unfold bothL at h
  obtain ⟨k, hk, h⟩ := List.mem_flatMap.1 h
  rcases List.mem_cons.1 h with rfl | h
  · exact ⟨rfl, rfl, Or.inl rfl⟩
  · rw [List.mem_singleton.1 h]; exact ⟨rfl, rfl, Or.inr rfl⟩
theorem planT_mem {s p q : Int} {l : List Int} : ∀ {n : Nat} {t : Int} {z : S36}, z ∈ planT s p q l n t → t ≤ z.f0 ∧ z.f0 < t + n ∧ z.f1 = s ∧ (z.f2 = p ∨ z.f2 = q)
  | 0, t, z, h => by simp [planT] at h
  | n + 1, t, z, h => by
    rw [planT] at h
    push_cast
    rcases List.mem_append.1 h with h | h
    · rcases List.mem_append.1 h with h | h
      · have := bothL_mem h; exact ⟨by omega, by omega, this.2.1, this.2.2⟩
      · by_cases c : t ∈ l
        · rw [if_pos c] at h
          have := bothL_mem h; exact ⟨by omega, by omega, this.2.1, this.2.2⟩
        · rw [if_neg c] at h; cases h
    · have := planT_mem h; exact ⟨by omega, by omega, this.2.2.1, this.2.2.2⟩
theorem planL_mem {a b st te slot : Int} {cs : List Int} {settle : Bool} {z : S36} (h : z ∈ planL a b st te cs slot settle) : z.f1 = slot ∧ (z.f2 = a ∨ z.f2 = b) := by
  unfold planL at h
  rcases List.mem_append.1 h with h | h
  · rcases List.mem_append.1 h with h | h
    · exact (bothL_mem h).2
    · exact (planT_mem h).2.2
  · cases settle
    · rw [if_neg (by decide)] at h; cases h
    · rw [if_pos rfl] at h; exact (bothL_mem h).2

/-! following is worth the kept shards less the total of one's duties, slot by slot -/
theorem rplan_ok {a b st te slot : Int} {cs : List Int} {settle : Bool} (hs0 : 0 ≤ slot) (hs1 : slot < 6) (ha : 1 ≤ a ∧ a ≤ 16) (hb : 1 ≤ b ∧ b ≤ 16) (hab : a ≠ b) (h0 : 0 ≤ st) (h1 : 1 ≤ te) (h2 : te ≤ 16) (h3 : st + te ≤ 16) (hc : checksOK st te cs) (hl : cs.length ≤ 1000) : ∃ k, storagebarterref28_Plan.f k a b st te cs slot settle = some (planL a b st te cs slot settle, 0) := by
  obtain ⟨k1, e1⟩ := plan_ok (slot := slot) (settle := settle) hs0 hs1 ha hb hab h0 h1 h2 h3 hc hl
  obtain ⟨k2, L, e, f1, f2, _⟩ := plan_both a b st te slot cs settle (by omega)
  have g1 := at_rounds (g := fun k => duty_Plan.f k a b st te cs slot settle) (duty_Plan.mono _ _ _ _ _ _ _) (show k1 ≤ k1 + k2 by omega) e1
  have g2 := at_rounds (g := fun k => duty_Plan.f k a b st te cs slot settle) (duty_Plan.mono _ _ _ _ _ _ _) (show k2 ≤ k1 + k2 by omega) f1
  rw [g1] at g2
  injection g2 with g2
  exact ⟨k2, by rw [f2, g2]⟩
theorem tot_smerge (p : Int) : ∀ A B : List S36, totL p (smerge A B) = totL p A + totL p B
  | [], B => by rw [smerge_l]; simp [totL]
  | x :: A, [] => by rw [smerge_r]; simp [totL]
  | x :: A, y :: B => by
    by_cases c : ltk y x
    · rw [smerge_lt c, totL, tot_smerge p (x :: A) B]; simp only [totL]; omega
    · rw [smerge_ge c, totL, tot_smerge p A (y :: B)]; simp only [totL]; omega
termination_by A B => A.length + B.length
theorem tot_srt (p : Int) : ∀ T : List S36, totL p (srt T) = totL p T
  | [] => rfl
  | d :: T => by rw [srt, tot_smerge, tot_srt p T]; simp [totL]
theorem tot_none (p : Int) : ∀ T : List S36, (∀ z ∈ T, z.f2 ≠ p) → totL p T = 0
  | [], _ => rfl
  | d :: T, h => by rw [totL, if_neg (h d (List.mem_cons_self ..)), tot_none p T (fun z hz => h z (List.mem_cons_of_mem _ hz))]; rfl
def ArrOK (z : S26) : Prop := 1 ≤ z.f0 ∧ z.f0 ≤ 3 ∧ 1 ≤ z.f1 ∧ z.f1 ≤ 3 ∧ z.f0 ≠ z.f1 ∧ 0 ≤ z.f2 ∧ z.f2 ≤ 2 ∧ 1 ≤ z.f3 ∧ z.f3 ≤ 3 ∧ checksOK z.f2 z.f3 z.f4 ∧ z.f4.length ≤ 1000
def planOf (se : Bool) (n : Int) (z : S26) : List S36 := planL z.f0 z.f1 z.f2 z.f3 z.f4 n se
theorem planOf_len (se : Bool) (n : Int) {z : S26} (h : ArrOK z) : (planOf se n z).length ≤ 22 := planL_22 _ _ _ _ _ _ _ h.2.2.2.2.2.2.2.2.1
theorem rd26 {G : List S26} {i : Int} {z : S26} {t : List S26} (h : G.drop i.toNat = z :: t) : rd_T26 G i = z := getD_at h
theorem game_l0 {s : List Int} (hs : Seeds s) (se : Bool) (w : Int) : ∀ (n : Nat) (acc : List S26) (x p : Int), x = n → acc.length + n ≤ 4 → (∀ z ∈ acc, ArrOK z) → 0 ≤ p → p ≤ s.length → ∃ G q, Ev (fun k => storagebarterplay_Dice_Game.l0 k x s p acc se w) (G, se, w, q) ∧ (∀ z ∈ G, ArrOK z) ∧ G.length ≤ 4
  | 0, acc, x, p, hx, hn, ha, p0, p1 => by
    obtain rfl : x = 0 := hx
    exact ⟨acc, p, ⟨1, fun k hk => by obtain ⟨k, rfl, _⟩ := k_succ hk; dsimp only; rw [storagebarterplay_Dice_Game.l0, if_neg (by omega)]⟩, ha, by omega⟩
  | n + 1, acc, x, p, hx, hn, ha, p0, p1 => by
    push_cast at hx
    obtain ⟨k1, a, b, st, te, cs, q, e1, a1, a2, b1, b2, hab, t0, t1, u1, u2, hc, hcl, q0, q1⟩ := arr_ok hs p0 p1 (n := 3) (by omega) (by omega)
    obtain ⟨K1, f1⟩ := ev_of (g := fun k => storagebarterplay_Dice_Arrangement.f k s p 3) (storagebarterplay_Dice_Arrangement.mono _ _ _) ⟨k1, e1⟩
    obtain ⟨G, q', ⟨K2, f2⟩, hG, hl⟩ := game_l0 hs se w n (acc ++ [(⟨a, b, st, te, cs⟩ : S26)]) (x - 1) q (by omega) (by simp; omega) (fun z hz => by
      rcases List.mem_append.1 hz with hz | hz
      · exact ha z hz
      · obtain rfl := List.mem_singleton.1 hz
        exact ⟨a1, a2, b1, b2, hab, t0, t1, u1, u2, hc, hcl⟩) q0 q1
    refine ⟨G, q', ⟨K1 + K2 + 1, fun k hk => ?_⟩, hG, hl⟩
    obtain ⟨k, rfl, hk⟩ := k_succ hk
    dsimp only at f1 f2
    show storagebarterplay_Dice_Game.l0 (k + 1) x s p acc se w = _
    rw [storagebarterplay_Dice_Game.l0, if_pos (by omega), f1 k (by omega)]
    simp only [Option.bind_some]
    rw [if_pos (by omega), w64 (n := x - 1) (by omega) (by omega), f2 k (by omega)]
theorem game_ok {s : List Int} (hs : Seeds s) {p : Int} (p0 : 0 ≤ p) (p1 : p ≤ s.length) : ∃ G se w q, Ev (fun k => storagebarterplay_Dice_Game.f k s p 4) (G, se, w, q) ∧ (∀ z ∈ G, ArrOK z) ∧ G.length ≤ 4 ∧ 0 ≤ w ∧ w ≤ 100 := by
  obtain ⟨r1, q1, e1, a1, b1, m1, n1⟩ := pick_ok hs p0 p1 (n := 3) (by omega)
  obtain ⟨r2, q2, e2, a2, b2, m2, n2⟩ := pick_ok hs m1 n1 (n := 6) (by omega)
  obtain ⟨r3, q3, e3, a3, b3, m3, n3⟩ := pick_ok hs m2 n2 (n := 4) (by omega)
  have hw : 0 ≤ rd ([100, 60, 30, 20, 5, 0] : List Int) r2 ∧ rd ([100, 60, 30, 20, 5, 0] : List Int) r2 ≤ 100 := by
    have : r2 = 0 ∨ r2 = 1 ∨ r2 = 2 ∨ r2 = 3 ∨ r2 = 4 ∨ r2 = 5 := by omega
    rcases this with rfl | rfl | rfl | rfl | rfl | rfl <;> decide
  obtain ⟨G, q, ⟨K, hK⟩, hG, hl⟩ := game_l0 hs (decide (r1 > 0)) (rd ([100, 60, 30, 20, 5, 0] : List Int) r2) (1 + r3).toNat [] (1 + r3) q3 (by omega) (by simp; omega) (fun z hz => by cases hz) m3 n3
  refine ⟨G, decide (r1 > 0), rd ([100, 60, 30, 20, 5, 0] : List Int) r2, q, ⟨K, fun k hk => ?_⟩, hG, hl, hw⟩
  dsimp only
  unfold storagebarterplay_Dice_Game.f
  rw [e1]
  simp only [Option.bind_some]
  rw [e2]
  simp only [Option.bind_some]
  rw [if_pos (by omega), if_pos (by simp; omega), e3]
  simp only [Option.bind_some]
  rw [w64 (n := 1 + r3) (by omega) (by omega)]
  exact hK k hk
/-! the greatest peer -/
def peersL : Int → List S26 → Int
  | x, [] => x
  | x, z :: t => peersL (mx (mx x z.f0) z.f1) t
theorem peersL_le : ∀ (t : List S26) (x : Int), x ≤ 3 → (∀ z ∈ t, ArrOK z) → peersL x t ≤ 3
  | [], x, h, _ => h
  | z :: t, x, h, ha => by
    have hz := ha z (List.mem_cons_self ..)
    refine peersL_le t _ ?_ (fun y hy => ha y (List.mem_cons_of_mem _ hy))
    unfold mx
    have h1 := hz.2.1
    have h2 := hz.2.2.2.1
    split <;> split <;> omega
theorem peers_l0 (G : List S26) (hG : G.length ≤ 4) : ∀ (t : List S26) (x i : Int), 0 ≤ i → i ≤ G.length → G.drop i.toNat = t → Ev (fun k => play_Peers.l0 k x G G.length i) (peersL x t)
  | [], x, i, h0, hi, hd => by
    have := drop_len h0 hi hd
    exact ⟨1, fun k hk => by obtain ⟨k, rfl, _⟩ := k_succ hk; dsimp only; rw [play_Peers.l0, if_neg (by simp at this; omega)]; rfl⟩
  | z :: t, x, i, h0, hi, hd => by
    have hl := drop_len h0 hi hd
    rw [List.length_cons] at hl
    push_cast at hl
    refine ev_step (peers_l0 G hG t (mx (mx x z.f0) z.f1) (i + 1) (by omega) (by omega) (drop_next h0 hd)) (fun k _ => ?_)
    rw [play_Peers.l0, if_pos (by omega), if_pos h0, if_pos (by omega), rd26 hd, w64 (n := i + 1) (by omega) (by omega)]
theorem rpeers_l0 (G : List S26) (hG : G.length ≤ 4) (se : Bool) (w : Int) : ∀ (t : List S26) (x i : Int), 0 ≤ i → i ≤ G.length → G.drop i.toNat = t → Ev (fun k => storagebarterref31_Peers.l0 k x i G se w) (peersL x t)
  | [], x, i, h0, hi, hd => by
    have := drop_len h0 hi hd
    exact ⟨1, fun k hk => by obtain ⟨k, rfl, _⟩ := k_succ hk; dsimp only; rw [storagebarterref31_Peers.l0, if_neg (by simp at this; omega)]; rfl⟩
  | z :: t, x, i, h0, hi, hd => by
    have hl := drop_len h0 hi hd
    rw [List.length_cons] at hl
    push_cast at hl
    refine ev_step (rpeers_l0 G hG se w t (mx (mx x z.f0) z.f1) (i + 1) (by omega) (by omega) (drop_next h0 hd)) (fun k _ => ?_)
    rw [storagebarterref31_Peers.l0, if_pos (by omega), if_pos h0, rd26 hd, w64 (n := i + 1) (by omega) (by omega)]
/-! the plan of a game -/
theorem arr_valid {z : S26} (h : ArrOK z) : Ev (fun k => play_Valid_1.f k z.f0 z.f1 z.f2 z.f3 z.f4) false := by
  obtain ⟨a1, a2, b1, b2, hab, t0, t1, u1, u2, hc, hl⟩ := h
  obtain ⟨K, f⟩ := ev_of (g := fun k => duty_Valid.f k z.f0 z.f1 z.f2 z.f3 z.f4) (duty_Valid.mono _ _ _ _ _) (valid_true ⟨a1, by omega⟩ ⟨b1, by omega⟩ hab t0 u1 (by omega) (by omega) hc hl)
  exact ⟨K, fun k hk => by
    dsimp only at f ⊢
    unfold play_Valid_1.f
    rw [f k hk]
    rfl⟩
theorem find_l0 (G : List S26) (hG : G.length ≤ 4) : ∀ (t : List S26) (i : Int), 0 ≤ i → i ≤ G.length → G.drop i.toNat = t → (∀ z ∈ t, ArrOK z) → Ev (fun k => api_Arrangement_99.l0 k G G.length i) (-1)
  | [], i, h0, hi, hd, _ => by
    have := drop_len h0 hi hd
    exact ⟨1, fun k hk => by obtain ⟨k, rfl, _⟩ := k_succ hk; dsimp only; rw [api_Arrangement_99.l0, if_neg (by simp at this; omega)]⟩
  | z :: t, i, h0, hi, hd, ha => by
    have hl := drop_len h0 hi hd
    rw [List.length_cons] at hl
    push_cast at hl
    obtain ⟨K1, f1⟩ := arr_valid (ha z (List.mem_cons_self ..))
    obtain ⟨K2, f2⟩ := find_l0 G hG t (i + 1) (by omega) (by omega) (drop_next h0 hd) (fun y hy => ha y (List.mem_cons_of_mem _ hy))
    refine ⟨K1 + K2 + 1, fun k hk => ?_⟩
    obtain ⟨k, rfl, hk⟩ := k_succ hk
    dsimp only at f1 f2 ⊢
    rw [api_Arrangement_99.l0, if_pos (by omega), if_pos h0, if_pos (by omega), rd26 hd, f1 k (by omega)]
    simp only [Option.bind_some]
    rw [if_neg (by decide), w64 (n := i + 1) (by omega) (by omega), f2 k (by omega)]
theorem gvalid (G : List S26) (hG : G.length ≤ 4) (ha : ∀ z ∈ G, ArrOK z) (se : Bool) {w : Int} (w0 : 0 ≤ w) (w1 : w ≤ 100) : Ev (fun k => play_Valid.f k G se w) true := by
  obtain ⟨K, f⟩ := find_l0 G hG G 0 (Int.le_refl _) (by omega) rfl ha
  exact ⟨K, fun k hk => by
    dsimp only at f ⊢
    unfold play_Valid.f
    rw [if_pos (by omega), if_pos (by omega), if_pos (by omega)]
    unfold api_Arrangement_96.f api_Arrangement_99.f
    rw [f k hk]
    rfl⟩
def plansL (se : Bool) : Int → List S26 → List (List S36)
  | _, [] => []
  | n, z :: t => planOf se n z :: plansL se (n + 1) t
theorem plansL_len (se : Bool) : ∀ (t : List S26) (n : Int), (plansL se n t).length = t.length
  | [], _ => rfl
  | z :: t, n => by rw [plansL, List.length_cons, plansL_len se t (n + 1), List.length_cons]
theorem plansL_sum (se : Bool) : ∀ (t : List S26) (n : Int), (∀ z ∈ t, ArrOK z) → sumL (plansL se n t) ≤ 22 * t.length
  | [], _, _ => by simp [plansL, sumL]
  | z :: t, n, h => by
    have h1 := planOf_len se n (h z (List.mem_cons_self ..))
    have h2 := plansL_sum se t (n + 1) (fun y hy => h y (List.mem_cons_of_mem _ hy))
    simp only [plansL, sumL, List.length_cons]
    omega
theorem plan_at {z : S26} (h : ArrOK z) (se : Bool) {n : Int} (n0 : 0 ≤ n) (n1 : n < 6) : Ev (fun k => duty_Plan.f k z.f0 z.f1 z.f2 z.f3 z.f4 n se) (planOf se n z, 0) := by
  obtain ⟨a1, a2, b1, b2, hab, t0, t1, u1, u2, hc, hl⟩ := h
  exact ev_of (g := fun k => duty_Plan.f k z.f0 z.f1 z.f2 z.f3 z.f4 n se) (duty_Plan.mono _ _ _ _ _ _ _) (plan_ok n0 n1 ⟨a1, by omega⟩ ⟨b1, by omega⟩ hab t0 u1 (by omega) (by omega) hc hl)
theorem rplan_at {z : S26} (h : ArrOK z) (se : Bool) {n : Int} (n0 : 0 ≤ n) (n1 : n < 6) : Ev (fun k => storagebarterref28_Plan.f k z.f0 z.f1 z.f2 z.f3 z.f4 n se) (planOf se n z, 0) := by
  obtain ⟨a1, a2, b1, b2, hab, t0, t1, u1, u2, hc, hl⟩ := h
  exact ev_of (g := fun k => storagebarterref28_Plan.f k z.f0 z.f1 z.f2 z.f3 z.f4 n se) (storagebarterref28_Plan.mono _ _ _ _ _ _ _) (rplan_ok n0 n1 ⟨a1, by omega⟩ ⟨b1, by omega⟩ hab t0 u1 (by omega) (by omega) hc hl)
theorem gplan_l0 (G : List S26) (hG : G.length ≤ 4) (se : Bool) (w : Int) : ∀ (t : List S26) (acc : List (List S36)) (i : Int), 0 ≤ i → i ≤ G.length → G.drop i.toNat = t → (∀ z ∈ t, ArrOK z) → acc.length + t.length ≤ 4 → sumL acc + 22 * t.length ≤ 100 → Ev (fun k => play_Plan.l0 k acc G G.length i G se w) (srt (acc ++ plansL se i t).flatten, 0)
  | [], acc, i, h0, hi, hd, _, hl, hs => by
    have := drop_len h0 hi hd
    obtain ⟨K, f⟩ := merge_ok acc (by simp at hl; omega) (by simp at hs; omega)
    refine ⟨K + 1, fun k hk => ?_⟩
    obtain ⟨k, rfl, hk⟩ := k_succ hk
    dsimp only at f ⊢
    rw [play_Plan.l0, if_neg (by simp at this; omega), f k (by omega)]
    simp [plansL]
  | z :: t, acc, i, h0, hi, hd, ha, hl, hs => by
    have hln := drop_len h0 hi hd
    rw [List.length_cons] at hln hl hs
    push_cast at hln
    have hz := ha z (List.mem_cons_self ..)
    obtain ⟨K1, f1⟩ := plan_at hz se h0 (show i < 6 by omega)
    have hp := planOf_len se i hz
    obtain ⟨K2, f2⟩ := gplan_l0 G hG se w t (acc ++ [planOf se i z]) (i + 1) (by omega) (by omega) (drop_next h0 hd) (fun y hy => ha y (List.mem_cons_of_mem _ hy)) (by simp; omega) (by
      have : sumL (acc ++ [planOf se i z]) = sumL acc + (planOf se i z).length := by
        rw [← flat_length, ← flat_length, List.flatten_append, List.length_append]; simp
      omega)
    refine ⟨K1 + K2 + 1, fun k hk => ?_⟩
    obtain ⟨k, rfl, hk⟩ := k_succ hk
    dsimp only at f1 f2 ⊢
    rw [play_Plan.l0, if_pos (by omega), if_pos h0, if_pos (by omega), rd26 hd, f1 k (by omega)]
    simp only [Option.bind_some]
    rw [if_pos (by omega), w64 (n := i + 1) (by omega) (by omega), f2 k (by omega)]
    simp [plansL]
theorem gplan (G : List S26) (hG : G.length ≤ 4) (ha : ∀ z ∈ G, ArrOK z) (se : Bool) {w : Int} (w0 : 0 ≤ w) (w1 : w ≤ 100) : Ev (fun k => play_Plan.f k G se w) (srt (plansL se 0 G).flatten, 0) := by
  obtain ⟨K1, f1⟩ := gvalid G hG ha se w0 w1
  obtain ⟨K2, f2⟩ := gplan_l0 G hG se w G [] 0 (Int.le_refl _) (by omega) rfl ha (by simp; omega) (by simp [sumL]; omega)
  exact ⟨K1 + K2, fun k hk => by
    dsimp only at f1 f2 ⊢
    unfold play_Plan.f
    rw [f1 k (by omega)]
    simp only [Option.bind_some, if_true]
    exact f2 k (by omega)⟩
/-! sums over slots -/
def side (p : Int) (z : S26) : Bool := z.f0 == p || z.f1 == p
def cntL (p : Int) : List S26 → Int
  | [] => 0
  | z :: t => (if z.f0 = p ∨ z.f1 = p then 1 else 0) + cntL p t
def sumT (p : Int) (se : Bool) : Int → List S26 → Int
  | _, [] => 0
  | n, z :: t => totL p (planOf se n z) + sumT p se (n + 1) t
def wantL (p : Int) (se : Bool) (w : Int) : Int → List S26 → Int
  | _, [] => 0
  | n, z :: t => (if z.f0 = p ∨ z.f1 = p then w - totL p (planOf se n z) else 0) + wantL p se w (n + 1) t
theorem sumT_flat (p : Int) (se : Bool) : ∀ (t : List S26) (n : Int), totL p (plansL se n t).flatten = sumT p se n t
  | [], _ => rfl
  | z :: t, n => by rw [plansL, List.flatten_cons, totL_append, sumT_flat p se t (n + 1)]; rfl
theorem want_eq (p : Int) (se : Bool) (w : Int) : ∀ (t : List S26) (n : Int), wantL p se w n t = w * cntL p t - sumT p se n t
  | [], _ => by simp [wantL, cntL, sumT]
  | z :: t, n => by
    rw [wantL, cntL, sumT, want_eq p se w t (n + 1)]
    by_cases c : z.f0 = p ∨ z.f1 = p
    · rw [if_pos c, if_pos c, Int.mul_add, Int.mul_one]; omega
    · rw [if_neg c, if_neg c, tot_none p (planOf se n z) (fun y hy he => c (by
        have := (planL_mem hy).2
        omega))]
      simp
theorem cnt_bound (p : Int) : ∀ t : List S26, 0 ≤ cntL p t ∧ cntL p t ≤ t.length
  | [] => by simp [cntL]
  | z :: t => by
    have := cnt_bound p t
    simp only [cntL, List.length_cons]
    push_cast
    split <;> omega
theorem sum_bound (p : Int) (se : Bool) : ∀ (t : List S26) (n : Int), (∀ z ∈ t, ArrOK z) → 0 ≤ sumT p se n t ∧ sumT p se n t ≤ 176 * t.length
  | [], _, _ => by simp [sumT]
  | z :: t, n, h => by
    have h1 := planOf_len se n (h z (List.mem_cons_self ..))
    have h2 := sum_bound p se t (n + 1) (fun y hy => h y (List.mem_cons_of_mem _ hy))
    have h3 := totL_bound p (planOf se n z)
    simp only [sumT, List.length_cons]
    push_cast
    omega
theorem mulb {w c : Int} (w0 : 0 ≤ w) (w1 : w ≤ 100) (c0 : 0 ≤ c) (c1 : c ≤ 4) : 0 ≤ w * c ∧ w * c ≤ 400 := by
  have : c = 0 ∨ c = 1 ∨ c = 2 ∨ c = 3 ∨ c = 4 := by omega
  rcases this with rfl | rfl | rfl | rfl | rfl <;> omega
theorem follow_l0 (G : List S26) (hG : G.length ≤ 4) (se : Bool) {w : Int} (w0 : 0 ≤ w) (w1 : w ≤ 100) (p : Int) (L : List S36) (hL : L.length ≤ 100) : ∀ (t : List S26) (c i : Int), 0 ≤ i → i ≤ G.length → G.drop i.toNat = t → 0 ≤ c → c + t.length ≤ 4 → Ev (fun k => payoff_Follow.l0 k p L c G G.length i G se w) (w * (c + cntL p t) - totL p L, 0)
  | [], c, i, h0, hi, hd, c0, c1 => by
    have := drop_len h0 hi hd
    obtain ⟨K, f⟩ := ev_of (g := fun k => duty_Total.f k L p) (duty_Total.mono _ _) (total_ok L (by omega) p)
    have hb := totL_bound p L
    have hm := mulb w0 w1 c0 (by simp at c1; omega)
    refine ⟨K + 1, fun k hk => ?_⟩
    obtain ⟨k, rfl, hk⟩ := k_succ hk
    dsimp only at f ⊢
    rw [payoff_Follow.l0, if_neg (by simp at this; omega), f k (by omega)]
    simp only [Option.bind_some, cntL, Int.add_zero]
    rw [w64n (n := w * c) (by omega) (by omega), w64n (by omega) (by omega)]
  | z :: t, c, i, h0, hi, hd, c0, c1 => by
    have hl := drop_len h0 hi hd
    rw [List.length_cons] at hl c1
    push_cast at hl c1
    by_cases s : z.f0 = p ∨ z.f1 = p
    · refine ev_step (follow_l0 G hG se w0 w1 p L hL t (c + 1) (i + 1) (by omega) (by omega) (drop_next h0 hd) (by omega) (by omega)) (fun k _ => ?_) |> (fun h => by
        rw [cntL, if_pos s, ← Int.add_assoc]; exact h)
      rw [payoff_Follow.l0, if_pos (by omega), if_pos h0, if_pos (by omega), rd26 hd, w64 (n := i + 1) (by omega) (by omega), w64 (n := c + 1) (by omega) (by omega)]
      by_cases s0 : z.f0 = p
      · rw [if_pos s0]
      · rw [if_neg s0, if_pos (s.resolve_left s0)]
    · refine ev_step (follow_l0 G hG se w0 w1 p L hL t c (i + 1) (by omega) (by omega) (drop_next h0 hd) c0 (by omega)) (fun k _ => ?_) |> (fun h => by
        rw [cntL, if_neg s, Int.zero_add]; exact h)
      rw [payoff_Follow.l0, if_pos (by omega), if_pos h0, if_pos (by omega), rd26 hd, w64 (n := i + 1) (by omega) (by omega), if_neg (fun h => s (.inl h)), if_neg (fun h => s (.inr h))]
theorem follow_ok (G : List S26) (hG : G.length ≤ 4) (ha : ∀ z ∈ G, ArrOK z) (se : Bool) {w : Int} (w0 : 0 ≤ w) (w1 : w ≤ 100) (p : Int) (p0 : 1 ≤ p) (p1 : p ≤ peersL 0 G) : Ev (fun k => payoff_Follow.f k G se w p) (wantL p se w 0 G, 0) := by
  obtain ⟨K1, f1⟩ := gplan G hG ha se w0 w1
  obtain ⟨K2, f2⟩ := peers_l0 G hG G 0 0 (Int.le_refl _) (by omega) rfl
  have hL : (srt (plansL se 0 G).flatten).length ≤ 100 := by
    rw [srt_length, flat_length]
    have := plansL_sum se G 0 ha
    omega
  obtain ⟨K3, f3⟩ := follow_l0 G hG se w0 w1 p _ hL G 0 0 (Int.le_refl _) (by omega) rfl (Int.le_refl _) (by omega)
  refine ⟨K1 + K2 + K3, fun k hk => ?_⟩
  dsimp only at f1 f2 f3 ⊢
  unfold payoff_Follow.f play_Peers.f
  rw [f1 k (by omega)]
  simp only [Option.bind_some, if_true]
  rw [if_neg (by omega), f2 k (by omega)]
  simp only [Option.bind_some]
  rw [if_neg (by omega), f3 k (by omega), want_eq, tot_srt, sumT_flat, Int.zero_add]
/-! the law -/
theorem pf_l1 (G : List S26) (hG : G.length ≤ 4) (ha : ∀ z ∈ G, ArrOK z) (se : Bool) {w : Int} (w0 : 0 ≤ w) (w1 : w ≤ 100) (p : Int) (p0 : 1 ≤ p) (p1 : p ≤ peersL 0 G) (p3 : p ≤ 3) (hn : Ev (fun k => storagebarterlaw32_PayoffFollows.l0 k (p + 1) G se w) true) : ∀ (t : List S26) (x i : Int), 0 ≤ i → i ≤ G.length → G.drop i.toNat = t → (∀ z ∈ t, ArrOK z) → x + wantL p se w i t = wantL p se w 0 G → -1000 * i ≤ x ∧ x ≤ 1000 * i → Ev (fun k => storagebarterlaw32_PayoffFollows.l1 k p x G G.length i G se w) true
  | [], x, i, h0, hi, hd, _, hx, hb => by
    have := drop_len h0 hi hd
    obtain ⟨K1, f1⟩ := follow_ok G hG ha se w0 w1 p p0 p1
    obtain ⟨K2, f2⟩ := hn
    refine ⟨K1 + K2 + 1, fun k hk => ?_⟩
    obtain ⟨k, rfl, hk⟩ := k_succ hk
    dsimp only at f1 f2 ⊢
    rw [storagebarterlaw32_PayoffFollows.l1, if_neg (by simp at this; omega), f1 k (by omega)]
    simp only [Option.bind_some, if_true]
    rw [if_pos (by simp only [wantL] at hx; omega), w64 (n := p + 1) (by omega) (by omega), f2 k (by omega)]
  | z :: t, x, i, h0, hi, hd, hz, hx, hb => by
    have hl := drop_len h0 hi hd
    rw [List.length_cons] at hl
    push_cast at hl
    have hzz := hz z (List.mem_cons_self ..)
    have ht := fun y hy => hz y (List.mem_cons_of_mem _ hy)
    by_cases s : z.f0 = p ∨ z.f1 = p
    · obtain ⟨K1, f1⟩ := rplan_at hzz se h0 (show i < 6 by omega)
      have hpl := planOf_len se i hzz
      obtain ⟨K2, f2⟩ := ev_of (g := fun k => storagebarterref28_Total.f k (planOf se i z) p) (storagebarterref28_Total.mono _ _) (by obtain ⟨k, hk⟩ := total_ok (planOf se i z) (by omega) p; exact ⟨k, by rw [rtotal, hk]⟩)
      have htb := totL_bound p (planOf se i z)
      rw [wantL, if_pos s] at hx
      obtain ⟨K3, f3⟩ := pf_l1 G hG ha se w0 w1 p p0 p1 p3 hn t (x + (w - totL p (planOf se i z))) (i + 1) (by omega) (by omega) (drop_next h0 hd) ht (by omega) (by omega)
      refine ⟨K1 + K2 + K3 + 1, fun k hk => ?_⟩
      obtain ⟨k, rfl, hk⟩ := k_succ hk
      dsimp only at f1 f2 f3 ⊢
      have hside : ∃ v, storagebarterref29_Side.f z.f0 z.f1 z.f2 z.f3 z.f4 p = some v ∧ v ≥ 0 := by
        unfold storagebarterref29_Side.f
        by_cases s0 : p = z.f0
        · exact ⟨0, by rw [if_pos s0], by decide⟩
        · exact ⟨1, by rw [if_neg s0, if_pos (by omega)], by decide⟩
      obtain ⟨v, hv, hv0⟩ := hside
      rw [storagebarterlaw32_PayoffFollows.l1, if_pos (by omega), if_pos h0, if_pos (by omega), rd26 hd, hv]
      simp only [Option.bind_some]
      rw [if_pos hv0, f1 k (by omega)]
      simp only [Option.bind_some]
      rw [f2 k (by omega)]
      simp only [Option.bind_some]
      rw [w64n (n := w - totL p (planOf se i z)) (by omega) (by omega), w64n (n := x + (w - totL p (planOf se i z))) (by omega) (by omega), w64 (n := i + 1) (by omega) (by omega), f3 k (by omega)]
    · rw [wantL, if_neg s] at hx
      obtain ⟨K3, f3⟩ := pf_l1 G hG ha se w0 w1 p p0 p1 p3 hn t x (i + 1) (by omega) (by omega) (drop_next h0 hd) ht (by omega) (by omega)
      refine ⟨K3 + 1, fun k hk => ?_⟩
      obtain ⟨k, rfl, hk⟩ := k_succ hk
      dsimp only at f3 ⊢
      have hv : storagebarterref29_Side.f z.f0 z.f1 z.f2 z.f3 z.f4 p = some (-1) := by
        unfold storagebarterref29_Side.f
        rw [if_neg (by omega), if_neg (by omega)]
      rw [storagebarterlaw32_PayoffFollows.l1, if_pos (by omega), if_pos h0, if_pos (by omega), rd26 hd, hv]
      simp only [Option.bind_some]
      rw [if_neg (by decide), w64 (n := i + 1) (by omega) (by omega), f3 k (by omega)]
theorem pf_l0 (G : List S26) (hG : G.length ≤ 4) (ha : ∀ z ∈ G, ArrOK z) (se : Bool) {w : Int} (w0 : 0 ≤ w) (w1 : w ≤ 100) : ∀ (n : Nat) (p : Int), p + n = 4 → 1 ≤ p → Ev (fun k => storagebarterlaw32_PayoffFollows.l0 k p G se w) true
  | n, p, hp, p0 => by
    obtain ⟨K1, f1⟩ := rpeers_l0 G hG se w G 0 0 (Int.le_refl _) (by omega) rfl
    have h3 := peersL_le G 0 (by omega) ha
    by_cases c : p ≤ peersL 0 G
    · match n, hp with
      | 0, hp => exact absurd c (by omega)
      | n + 1, hp =>
        push_cast at hp
        obtain ⟨K2, f2⟩ := pf_l1 G hG ha se w0 w1 p p0 c (by omega) (pf_l0 G hG ha se w0 w1 n (p + 1) (by omega) (by omega)) G 0 0 (Int.le_refl _) (by omega) rfl ha (by omega) (by omega)
        refine ⟨K1 + K2 + 1, fun k hk => ?_⟩
        obtain ⟨k, rfl, hk⟩ := k_succ hk
        dsimp only at f1 f2 ⊢
        rw [storagebarterlaw32_PayoffFollows.l0]
        unfold storagebarterref31_Peers.f
        rw [f1 k (by omega)]
        simp only [Option.bind_some]
        rw [if_pos c, f2 k (by omega)]
    · refine ⟨K1 + 1, fun k hk => ?_⟩
      obtain ⟨k, rfl, hk⟩ := k_succ hk
      dsimp only at f1 ⊢
      rw [storagebarterlaw32_PayoffFollows.l0]
      unfold storagebarterref31_Peers.f
      rw [f1 k (by omega)]
      simp only [Option.bind_some]
      rw [if_neg c]
theorem sane_want : wantL 2 true 100 0 [(⟨1, 2, 0, 2, []⟩ : S26)] = 71 := by kernel_rfl
theorem sane_ev : Ev (fun k => storagebarterlaw32_sane.f k) true := by
  obtain ⟨K, f⟩ := follow_ok [(⟨1, 2, 0, 2, []⟩ : S26)] (by decide) (by simp [ArrOK, checksOK]) true (w := 100) (by decide) (by decide) 2 (by decide) (by decide)
  refine ⟨K, fun k hk => ?_⟩
  dsimp only at f ⊢
  unfold storagebarterlaw32_sane.f
  have h := f k hk
  rw [sane_want] at h
  show (payoff_Follow.f k [(⟨1, 2, 0, 2, []⟩ : S26)] true 100 2).bind _ = _
  rw [h]
  rfl
theorem PayoffFollows : storagebarterlaw32_PayoffFollows.Pure := by
  intro l0 _ _ hw
  obtain ⟨s, hn, hs⟩ := new_ok hw
  obtain ⟨G, se, w, q, ⟨K1, f1⟩, hG, hl, w0, w1⟩ := game_ok hs (p := 0) (Int.le_refl _) (by omega)
  obtain ⟨K2, f2⟩ := pf_l0 G hl hG se w0 w1 3 1 (by omega) (by omega)
  obtain ⟨K0, f0⟩ := sane_ev
  dsimp only at f0 f1 f2
  refine ⟨K0 + K1 + K2, ?_⟩
  unfold storagebarterlaw32_PayoffFollows.f
  rw [f0 _ (by omega)]
  simp only [Option.bind_some, if_true]
  rw [hn]
  simp only [Option.bind_some]
  rw [f1 _ (by omega)]
  simp only [Option.bind_some]
  exact f2 _ (by omega)

end Go.Proofs.YtgckkjgemkabnaaDoor.Pure
