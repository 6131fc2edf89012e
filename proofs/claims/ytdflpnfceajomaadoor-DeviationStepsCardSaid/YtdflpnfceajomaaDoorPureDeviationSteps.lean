/- The law DeviationSteps answers true for every input: what its printed functions compute, in plain Lean. -/
import Derived.Test.YtdflpnfceajomaaDoorPDeviationStepsx11
set_option linter.unusedVariables false
set_option linter.unusedSimpArgs false
set_option maxRecDepth 100000
namespace Go.Proofs.YtdflpnfceajomaaDoor.Pure
open Go.RowKit Go.Proofs.YtdflpnfceajomaaDoor.PDeviationSteps Go.Proofs.YtdflpnfceajomaaDoorW.PrintWords Go.Proofs.YtdflpnfceajomaaDoorW.PrintMore Go.Proofs.YtdflpnfceajomaaDoorW.PrintLast

theorem at_rounds {α : Type} {g : Nat → Option α} (h : ∀ k, LeO (g k) (g (k + 1))) {k k' : Nat} (hk : k ≤ k') {r : α} (hr : g k = some r) : g k' = some r := by
  induction hk with
  | refl => exact hr
  | step _ ih => exact h _ _ ih

theorem w64 {n : Int} (h0 : 0 ≤ n) (h1 : n < 9223372036854775808) : wrap64 n = n := by unfold wrap64; omega
theorem drop_next {α : Type} {l : List α} {i : Int} {e : α} {t : List α} (h0 : 0 ≤ i) (h : l.drop i.toNat = e :: t) : l.drop (i + 1).toNat = t := by
  have e1 : (i + 1).toNat = i.toNat + 1 := by omega
  rw [e1, ← List.drop_drop, h]; rfl
theorem drop_len {α : Type} {l : List α} {i : Int} {t : List α} (h0 : 0 ≤ i) (hi : i ≤ l.length) (h : l.drop i.toNat = t) : (l.length : Int) = i + t.length := by
  rw [← h, List.length_drop]; omega
theorem getD_at {α : Type} {d : α} {l : List α} {i : Int} {e : α} {t : List α} (h : l.drop i.toNat = e :: t) : l.getD i.toNat d = e := by
  have : (l.drop i.toNat)[0]? = some e := by rw [h]; rfl
  rw [List.getElem?_drop] at this
  simp [List.getD_eq_getElem?_getD] at this ⊢
  rw [this]; rfl
/-! the dice: seeds are bytes, what is picked lies in the range, the place stays in the list -/
def Seeds (l : List Int) : Prop := l.length ≤ 300 ∧ ∀ x ∈ l, 0 ≤ x ∧ x ≤ 255
theorem new_ok {l : List Int} (h : ∀ x ∈ l, (Lit.int .u8 x).wf = true) : ∃ s, storagebarterplay_New.f l = some (s, 0) ∧ Seeds s := by
  have h' : ∀ x ∈ l, 0 ≤ x ∧ x ≤ 255 := fun x hx => by
    have := h x hx
    simp [Lit.wf, IntKind.min, IntKind.max, IntKind.signed, IntKind.bits] at this; omega
  unfold storagebarterplay_New.f
  by_cases q : (l.length : Int) > 300
  · rw [if_pos q, if_pos (by omega)]
    exact ⟨_, rfl, by rw [List.length_take]; omega, fun x hx => h' x (List.mem_of_mem_take hx)⟩
  · rw [if_neg q]
    exact ⟨_, rfl, by omega, h'⟩
theorem pick_ok {l : List Int} {p n : Int} (hs : Seeds l) (h0 : 0 ≤ p) (h1 : p ≤ l.length) (hn : 1 ≤ n) : ∃ r q, storagebarterplay_Dice_Pick.f l p n = some (r, q) ∧ 0 ≤ r ∧ r < n ∧ 0 ≤ q ∧ q ≤ l.length := by
  have hl := hs.1
  unfold storagebarterplay_Dice_Pick.f
  by_cases hp : p ≥ (l.length : Int)
  · rw [if_pos hp]; exact ⟨_, _, rfl, by omega, by omega, h0, h1⟩
  · rw [if_neg hp, w64 (n := p + 1) (by omega) (by omega), show p + 1 - 1 = p by omega, w64 (n := p) (by omega) (by omega), if_pos h0, if_pos (by omega), if_neg (by omega)]
    have hm : rd l p ∈ l := by
      have hi : p.toNat < l.length := by omega
      unfold rd
      rw [List.getD_eq_getElem?_getD, List.getElem?_eq_getElem hi]
      exact List.getElem_mem hi
    have hb := hs.2 _ hm
    rw [w64 (n := rd l p) (by omega) (by omega)]
    exact ⟨_, _, rfl, Int.tmod_nonneg _ hb.1, Int.tmod_lt_of_pos _ (by omega), by omega, by omega⟩

/-! ### from some number of rounds on -/
def Ev {α : Type} (g : Nat → Option α) (r : α) : Prop := ∃ K, ∀ k, K ≤ k → g k = some r
theorem k_succ {K k : Nat} (h : K + 1 ≤ k) : ∃ j, k = j + 1 ∧ K ≤ j := ⟨k - 1, by omega, by omega⟩
theorem ev_of {α : Type} {g : Nat → Option α} {r : α} (hm : ∀ k, LeO (g k) (g (k + 1))) (h : ∃ k, g k = some r) : Ev g r := by
  obtain ⟨k, hk⟩ := h
  exact ⟨k, fun k' hk' => at_rounds hm hk' hk⟩
theorem ev_ex {α : Type} {g : Nat → Option α} {r : α} (h : Ev g r) : ∃ k, g k = some r := by
  obtain ⟨K, h⟩ := h
  exact ⟨K, h K (Nat.le_refl _)⟩
theorem ev_step {α : Type} {g g' : Nat → Option α} {r : α} (h : Ev g' r) (e : ∀ k, 3 ≤ k → g (k + 1) = g' k) : Ev g r := by
  obtain ⟨K, h⟩ := h
  refine ⟨K + 4, fun k hk => ?_⟩
  obtain ⟨j, rfl, hj⟩ := k_succ hk
  rw [e j (by omega), h j (by omega)]
theorem ev_bind {α β : Type} {g : Nat → Option α} {x : α} {f : Nat → α → Option β} {r : β} (hg : Ev g x) (hf : Ev (fun k => f k x) r) : Ev (fun k => (g k).bind (f k)) r := by
  obtain ⟨K, h⟩ := hg
  obtain ⟨K', h'⟩ := hf
  exact ⟨K + K', fun k hk => by dsimp only; rw [h k (by omega)]; exact h' k (by omega)⟩
theorem ev_some {α : Type} (r : α) : Ev (fun _ => some r) r := ⟨0, fun _ _ => rfl⟩
theorem ev_const {α : Type} {x : Option α} {r : α} (h : x = some r) : Ev (fun _ => x) r := ⟨0, fun _ _ => h⟩
theorem ev_pos {α : Type} {c : Prop} [Decidable c] {a b : Nat → Option α} {r : α} (h : c) (he : Ev a r) : Ev (fun k => if c then a k else b k) r := by
  obtain ⟨K, hK⟩ := he
  exact ⟨K, fun k hk => by dsimp only; rw [if_pos h]; exact hK k hk⟩
theorem ev_neg {α : Type} {c : Prop} [Decidable c] {a b : Nat → Option α} {r : α} (h : ¬ c) (he : Ev b r) : Ev (fun k => if c then a k else b k) r := by
  obtain ⟨K, hK⟩ := he
  exact ⟨K, fun k hk => by dsimp only; rw [if_neg h]; exact hK k hk⟩
theorem ev_up {α : Type} {g g' : Nat → Option α} {r : α} (h : Ev g' r) (e : ∀ k, g (k + 1) = g' k) : Ev g r := ev_step h (fun k _ => e k)

/-! arrangements: what the dice make is valid -/
def checksOK (st te : Int) (cs : List Int) : Prop := (∀ x ∈ cs, st < x ∧ x ≤ st + te) ∧ cs.Pairwise (· < ·)
theorem arr_l0 {l : List Int} (hs : Seeds l) (a b st te : Int) (h1 : 0 ≤ st) (h2 : st ≤ 100) (h3 : te ≤ 100) : ∀ (n : Nat) (t p : Int) (cs : List Int), t + n = st + te + 1 → st < t → 0 ≤ p → p ≤ l.length → (∀ x ∈ cs, st < x ∧ x < t) → cs.Pairwise (· < ·) → cs.length + n ≤ 1000 → ∃ k cs' q, storagebarterplay_Dice_Arrangement.l0 k t l p a b st te cs = some (a, b, st, te, cs', q) ∧ checksOK st te cs' ∧ cs'.length ≤ 1000 ∧ 0 ≤ q ∧ q ≤ l.length
  | 0, t, p, cs, ht, hst, hp0, hp1, hc, hw, hn => by
    refine ⟨1, cs, p, ?_, ⟨fun x hx => by have := hc x hx; omega, hw⟩, by omega, hp0, hp1⟩
    rw [storagebarterplay_Dice_Arrangement.l0, w64 (n := st + te) (by omega) (by omega), if_neg (by omega)]
  | n + 1, t, p, cs, ht, hst, hp0, hp1, hc, hw, hn => by
    push_cast at ht
    obtain ⟨r, q, e, r0, r1, q0, q1⟩ := pick_ok hs hp0 hp1 (n := 3) (by omega)
    by_cases hz : r = 0
    · obtain ⟨k, cs', q', hk, hk2, hk3, hk4, hk5⟩ := arr_l0 hs a b st te h1 h2 h3 n (t + 1) q (cs ++ [t]) (by omega) (by omega) q0 q1 (fun x hx => by
        rcases List.mem_append.mp hx with h | h
        · have := hc x h; omega
        · rw [List.mem_singleton] at h; omega) (List.pairwise_append.mpr ⟨hw, List.pairwise_singleton _ _, fun x hx y hy => by rw [List.mem_singleton] at hy; have := hc x hx; omega⟩) (by simp; omega)
      refine ⟨k + 1, cs', q', ?_, hk2, hk3, hk4, hk5⟩
      rw [storagebarterplay_Dice_Arrangement.l0, w64 (n := st + te) (by omega) (by omega), if_pos (by omega), e]
      simp only [Option.bind_some]
      rw [if_pos hz, if_pos (by omega), w64 (n := t + 1) (by omega) (by omega), hk]
    · obtain ⟨k, cs', q', hk, hk2, hk3, hk4, hk5⟩ := arr_l0 hs a b st te h1 h2 h3 n (t + 1) q cs (by omega) (by omega) q0 q1 (fun x hx => by have := hc x hx; omega) hw (by omega)
      refine ⟨k + 1, cs', q', ?_, hk2, hk3, hk4, hk5⟩
      rw [storagebarterplay_Dice_Arrangement.l0, w64 (n := st + te) (by omega) (by omega), if_pos (by omega), e]
      simp only [Option.bind_some]
      rw [if_neg hz, w64 (n := t + 1) (by omega) (by omega), hk]
theorem arr_ok {l : List Int} (hs : Seeds l) {p n : Int} (hp0 : 0 ≤ p) (hp1 : p ≤ l.length) (hn : 2 ≤ n) (hn2 : n ≤ 16) : ∃ k a b st te cs q, storagebarterplay_Dice_Arrangement.f k l p n = some (a, b, st, te, cs, q) ∧ 1 ≤ a ∧ a ≤ n ∧ 1 ≤ b ∧ b ≤ n ∧ a ≠ b ∧ 0 ≤ st ∧ st ≤ 2 ∧ 1 ≤ te ∧ te ≤ 3 ∧ checksOK st te cs ∧ cs.length ≤ 1000 ∧ 0 ≤ q ∧ q ≤ l.length := by
  obtain ⟨r1, q1, e1, a1, b1, m1, n1⟩ := pick_ok hs hp0 hp1 (n := n) (by omega)
  obtain ⟨r2, q2, e2, a2, b2, m2, n2⟩ := pick_ok hs m1 n1 (n := 3) (by omega)
  obtain ⟨r3, q3, e3, a3, b3, m3, n3⟩ := pick_ok hs m2 n2 (n := 3) (by omega)
  obtain ⟨r4, q4, e4, a4, b4, m4, n4⟩ := pick_ok hs m3 n3 (n := n - 1) (by omega)
  have hsec : ∃ s, (1 + r1 + r4).tmod n = s ∧ 0 ≤ s ∧ s < n ∧ s ≠ r1 := by
    refine ⟨_, rfl, Int.tmod_nonneg _ (by omega), Int.tmod_lt_of_pos _ (by omega), ?_⟩
    rw [Int.tmod_eq_emod_of_nonneg (by omega)]
    rcases Int.lt_or_le (1 + r1 + r4) n with h | h
    · rw [Int.emod_eq_of_lt (by omega) h]; omega
    · rw [show (1 + r1 + r4) % n = 1 + r1 + r4 - n from by rw [← Int.sub_emod_right, Int.emod_eq_of_lt (by omega) (by omega)]]; omega
  obtain ⟨s, hs', s0, s1, s2⟩ := hsec
  obtain ⟨k, cs, q, hk, hk2, hk3, hk4, hk5⟩ := arr_l0 hs (1 + r1) (1 + s) r2 (1 + r3) a2 (by omega) (by omega) (1 + r3).toNat (r2 + 1) q4 [] (by omega) (by omega) m4 n4 (fun x hx => by cases hx) List.Pairwise.nil (by simp; omega)
  refine ⟨k, 1 + r1, 1 + s, r2, 1 + r3, cs, q, ?_, by omega, by omega, by omega, by omega, by omega, by omega, by omega, by omega, by omega, hk2, hk3, hk4, hk5⟩
  unfold storagebarterplay_Dice_Arrangement.f
  rw [e1]
  simp only [Option.bind_some]
  rw [e2]
  simp only [Option.bind_some]
  rw [e3]
  simp only [Option.bind_some]
  rw [w64 (n := n - 1) (by omega) (by omega), e4]
  simp only [Option.bind_some]
  rw [if_neg (by omega), w64 (n := r2 + 1) (by omega) (by omega), w64 (n := 1 + r1) (by omega) (by omega), w64 (n := 1 + r1 + r4) (by omega) (by omega), hs', w64 (n := 1 + s) (by omega) (by omega), w64 (n := 1 + r3) (by omega) (by omega), hk]

/-! plans exist, and are short -/
theorem c30_valid_l0 (a b st te : Int) (cs : List Int) (hl : cs.length ≤ 100000) : ∀ (t : List Int) (x i : Int), 0 ≤ i → i ≤ cs.length → cs.drop i.toNat = t → ∃ v, Ev (fun k => storagebarterref28_Valid.l0 k x i a b st te cs) v
  | [], x, i, h0, hi, hd => by
    have := drop_len h0 hi hd
    exact ⟨true, ev_up (ev_some true) (fun k => by rw [storagebarterref28_Valid.l0, if_neg (by simp at this; omega)])⟩
  | e :: t, x, i, h0, hi, hd => by
    have hl2 := drop_len h0 hi hd
    rw [List.length_cons] at hl2
    push_cast at hl2
    obtain ⟨v, hk⟩ := c30_valid_l0 a b st te cs hl t (rd cs i) (i + 1) (by omega) (by omega) (drop_next h0 hd)
    by_cases c1 : rd cs i ≤ x
    · exact ⟨false, ev_up (ev_some false) (fun k => by rw [storagebarterref28_Valid.l0, if_pos (by omega), if_pos h0, if_pos c1])⟩
    · by_cases c2 : rd cs i > wrap64 (st + te)
      · exact ⟨false, ev_up (ev_some false) (fun k => by rw [storagebarterref28_Valid.l0, if_pos (by omega), if_pos h0, if_neg c1, if_pos c2])⟩
      · exact ⟨v, ev_up hk (fun k => by rw [storagebarterref28_Valid.l0, if_pos (by omega), if_pos h0, if_neg c1, if_neg c2, w64 (n := i + 1) (by omega) (by omega)])⟩
theorem c30_valid_j0 (c : Bool) (a b st te : Int) (cs : List Int) (hl : cs.length ≤ 100000) : ∃ v, Ev (fun k => storagebarterref28_Valid.j0 k c a b st te cs) v := by
  cases c with
  | true => exact ⟨false, ev_up (ev_some false) (fun k => by rw [storagebarterref28_Valid.j0, if_pos rfl])⟩
  | false =>
    obtain ⟨v, hv⟩ := c30_valid_l0 a b st te cs hl cs st 0 (Int.le_refl _) (by omega) rfl
    exact ⟨v, ev_up hv (fun k => by rw [storagebarterref28_Valid.j0, if_neg (by decide)])⟩
theorem c30_valid (a b st te : Int) (cs : List Int) (hl : cs.length ≤ 100000) : ∃ v, Ev (fun k => storagebarterref28_Valid.f k a b st te cs) v := by
  unfold storagebarterref28_Valid.f
  split
  · exact c30_valid_j0 true a b st te cs hl
  split
  · exact c30_valid_j0 true a b st te cs hl
  split
  · exact c30_valid_j0 true a b st te cs hl
  split
  · exact c30_valid_j0 true a b st te cs hl
  split
  · exact c30_valid_j0 true a b st te cs hl
  split
  · exact c30_valid_j0 true a b st te cs hl
  split
  · exact c30_valid_j0 true a b st te cs hl
  split
  · exact c30_valid_j0 true a b st te cs hl
  split
  · exact c30_valid_j0 true a b st te cs hl
  exact c30_valid_j0 _ a b st te cs hl
theorem c30_has_l0 (cs : List Int) (hl : cs.length ≤ 100000) (x : Int) : ∀ (t : List Int) (i : Int), 0 ≤ i → i ≤ cs.length → cs.drop i.toNat = t → ∃ v, Ev (fun k => storagebarterref28_Has.l0 k cs x i) v
  | [], i, h0, hi, hd => by
    have := drop_len h0 hi hd
    exact ⟨false, ev_up (ev_some false) (fun k => by rw [storagebarterref28_Has.l0, if_neg (by simp at this; omega)])⟩
  | e :: t, i, h0, hi, hd => by
    have hl2 := drop_len h0 hi hd
    rw [List.length_cons] at hl2
    push_cast at hl2
    obtain ⟨v, hk⟩ := c30_has_l0 cs hl x t (i + 1) (by omega) (by omega) (drop_next h0 hd)
    by_cases c : rd cs i = x
    · exact ⟨true, ev_up (ev_some true) (fun k => by rw [storagebarterref28_Has.l0, if_pos (by omega), if_pos h0, if_pos c])⟩
    · exact ⟨v, ev_up hk (fun k => by rw [storagebarterref28_Has.l0, if_pos (by omega), if_pos h0, if_neg c, w64 (n := i + 1) (by omega) (by omega)])⟩
theorem c30_both (a b st te : Int) (cs : List Int) (t slot kd : Int) : ∃ L : List S56, storagebarterref28_both.f a b st te cs t slot kd = some L ∧ L.length = 2 := ⟨_, rfl, rfl⟩
theorem c30_plan_l1 (a b st te slot : Int) (cs : List Int) (settle : Bool) (hl : cs.length ≤ 100000) (h0 : 0 ≤ st) (h1 : 1 ≤ te) (h2 : st + te ≤ 16) : ∀ (n : Nat) (t : Int) (acc : List S56), t + n = st + te + 1 → st < t → acc.length + 4 * n ≤ 1000 → ∃ L : List S56, Ev (fun k => storagebarterref28_Plan.l1 k slot settle acc t a b st te cs) (L, 0) ∧ L.length ≤ acc.length + 4 * n + 2
  | 0, t, acc, ht, hs, hn => by
    cases settle
    · exact ⟨acc, ev_up (ev_some _) (fun k => by rw [storagebarterref28_Plan.l1, w64 (n := st + te) (by omega) (by omega), if_neg (by omega), if_neg (by decide)]), by omega⟩
    · obtain ⟨L, e, l⟩ := c30_both a b st te cs (wrap64 (wrap64 (st + te) + 1)) slot 7
      refine ⟨acc ++ L, ev_up (ev_some _) (fun k => ?_), by simp; omega⟩
      rw [storagebarterref28_Plan.l1, e, w64 (n := st + te) (by omega) (by omega), if_neg (by omega), if_pos rfl]
      simp only [Option.bind_some]
      rw [if_pos (by omega)]
  | n + 1, t, acc, ht, hs, hn => by
    push_cast at ht
    obtain ⟨v, e1⟩ := c30_has_l0 cs hl t cs 0 (Int.le_refl _) (by omega) rfl
    obtain ⟨L5, e5, l5⟩ := c30_both a b st te cs t slot 5
    obtain ⟨L6, e6, l6⟩ := c30_both a b st te cs t slot 6
    cases v with
    | true =>
      obtain ⟨L, hk, hL⟩ := c30_plan_l1 a b st te slot cs settle hl h0 h1 h2 n (t + 1) (acc ++ L5 ++ L6) (by omega) (by omega) (by simp; omega)
      refine ⟨L, ?_, by simp at hL; omega⟩
      obtain ⟨K1, f1⟩ := e1
      obtain ⟨K2, f2⟩ := hk
      refine ⟨K1 + K2 + 1, fun k hk => ?_⟩
      obtain ⟨k, rfl, hk⟩ := k_succ hk
      dsimp only at f1 f2 ⊢
      rw [storagebarterref28_Plan.l1, w64 (n := st + te) (by omega) (by omega), if_pos (by omega), e5]
      simp only [Option.bind_some]
      rw [if_pos (by omega), storagebarterref28_Has.f, f1 k (by omega)]
      simp only [Option.bind_some, if_true]
      rw [e6]
      simp only [Option.bind_some]
      rw [if_pos (by simp; omega), w64 (n := t + 1) (by omega) (by omega), f2 k (by omega)]
    | false =>
      obtain ⟨L, hk, hL⟩ := c30_plan_l1 a b st te slot cs settle hl h0 h1 h2 n (t + 1) (acc ++ L5) (by omega) (by omega) (by simp; omega)
      refine ⟨L, ?_, by simp at hL; omega⟩
      obtain ⟨K1, f1⟩ := e1
      obtain ⟨K2, f2⟩ := hk
      refine ⟨K1 + K2 + 1, fun k hk => ?_⟩
      obtain ⟨k, rfl, hk⟩ := k_succ hk
      dsimp only at f1 f2 ⊢
      rw [storagebarterref28_Plan.l1, w64 (n := st + te) (by omega) (by omega), if_pos (by omega), e5]
      simp only [Option.bind_some]
      rw [if_pos (by omega), storagebarterref28_Has.f, f1 k (by omega)]
      simp only [Option.bind_some]
      rw [if_neg (by decide), w64 (n := t + 1) (by omega) (by omega), f2 k (by omega)]
theorem c30_plan_l0 (a b st te slot : Int) (cs : List Int) (settle : Bool) (hl : cs.length ≤ 100000) (h0 : 0 ≤ st) (h1 : 1 ≤ te) (h2 : st + te ≤ 16) : ∀ (n : Nat) (kd : Int) (acc : List S56), kd + n = 5 → 1 ≤ kd → acc.length + 2 * n ≤ 100 → ∃ L : List S56, Ev (fun k => storagebarterref28_Plan.l0 k slot settle acc kd a b st te cs) (L, 0) ∧ L.length ≤ acc.length + 2 * n + 4 * te.toNat + 2
  | 0, kd, acc, hk, h1k, ha => by
    obtain ⟨L, e, l⟩ := c30_plan_l1 a b st te slot cs settle hl h0 h1 h2 te.toNat (st + 1) acc (by omega) (by omega) (by omega)
    exact ⟨L, ev_up e (fun k => by rw [storagebarterref28_Plan.l0, if_neg (by omega), w64 (n := st + 1) (by omega) (by omega)]), by omega⟩
  | n + 1, kd, acc, hk, h1k, ha => by
    obtain ⟨L5, e5, l5⟩ := c30_both a b st te cs st slot kd
    obtain ⟨L, e, l⟩ := c30_plan_l0 a b st te slot cs settle hl h0 h1 h2 n (kd + 1) (acc ++ L5) (by omega) (by omega) (by simp; omega)
    refine ⟨L, ev_up e (fun k => ?_), by simp at l; omega⟩
    rw [storagebarterref28_Plan.l0, if_pos (by omega), e5]
    simp only [Option.bind_some]
    rw [if_pos (by omega), w64 (n := kd + 1) (by omega) (by omega)]
theorem c30_plan (a b st te slot : Int) (cs : List Int) (settle : Bool) (hl : cs.length ≤ 100000) (h0 : 0 ≤ st) (h1 : 1 ≤ te) (h2 : st + te ≤ 16) (h3 : te ≤ 3) (s0 : 0 ≤ slot) (s1 : slot < 6) : ∃ (L : List S56) (e : Int), Ev (fun k => storagebarterref28_Plan.f k a b st te cs slot settle) (L, e) ∧ L.length ≤ 22 := by
  obtain ⟨v, K1, hv⟩ := c30_valid a b st te cs hl
  dsimp only at hv
  cases v with
  | false =>
    refine ⟨[], 44, ⟨K1 + 1, fun k hk => ?_⟩, by simp⟩
    obtain ⟨k, rfl, hk⟩ := k_succ hk
    dsimp only
    unfold storagebarterref28_Plan.f
    rw [if_neg (by omega), decide_eq_false (by omega), storagebarterref28_Plan.j0, if_neg (by decide), hv k (by omega)]
    rfl
  | true =>
    obtain ⟨L, ⟨K2, e⟩, l⟩ := c30_plan_l0 a b st te slot cs settle hl h0 h1 h2 4 1 [] (by omega) (by omega) (by simp)
    dsimp only at e
    refine ⟨L, 0, ⟨K1 + K2 + 1, fun k hk => ?_⟩, by simp at l; omega⟩
    obtain ⟨k, rfl, hk⟩ := k_succ hk
    dsimp only
    unfold storagebarterref28_Plan.f
    rw [if_neg (by omega), decide_eq_false (by omega), storagebarterref28_Plan.j0, if_neg (by decide), hv k (by omega)]
    simp only [Option.bind_some, if_true]
    exact e k (by omega)
/-! merging -/
theorem c30_l2 (ls : List (List S56)) (i j d0 d1 d2 d3 : Int) (P : List S56 → Prop) : ∀ (n : Nat) (A : List S56) (x : Int), x = n → n ≤ A.length → A.length ≤ 1000 → (∀ A' : List S56, A'.length = A.length + 1 → ∃ r, P r ∧ Ev (fun k => storagebarterref28_Merge.l1 k ls A' i (wrap64 (j + 1))) r) → ∃ r, P r ∧ Ev (fun k => storagebarterref28_Merge.l2 k ls A i j x d0 d1 d2 d3) r
  | 0, A, x, hx, hn, hl, h => by
    obtain rfl : x = 0 := hx
    obtain ⟨r, hp, he⟩ := h ([] ++ A.take 0 ++ [⟨d0, d1, d2, d3⟩] ++ A.drop 0) (by simp)
    refine ⟨r, hp, ev_up he (fun k => ?_)⟩
    rw [storagebarterref28_Merge.l2, if_neg (by omega), if_pos (by omega), if_pos (by omega)]
    simp only [Option.bind_some, Int.toNat_zero]
    rw [if_pos (by simp), if_pos (by simp), if_pos (by simp; omega)]
  | n + 1, A, x, hx, hn, hl, h => by
    push_cast at hx
    obtain ⟨r, hp, he⟩ := h ([] ++ A.take x.toNat ++ [⟨d0, d1, d2, d3⟩] ++ A.drop x.toNat) (by simp; omega)
    obtain ⟨r', hp', he'⟩ := c30_l2 ls i j d0 d1 d2 d3 P n A (x - 1) (by omega) (by omega) hl h
    have hst : ∀ k, (if 0 ≤ x then (if x ≤ (A.length : Int) then ((some (A.take (x : Int).toNat : List (S56))).bind fun y188 => (if ([] : List (S56)).length + y188.length < 4398046511104 then ((some (([] : List (S56)) ++ y188 : List (S56))).bind fun y192 => (if y192.length < 4398046511104 then ((some (y192 ++ [(⟨d0, d1, d2, d3⟩ : S56)] : List (S56))).bind fun y195 => ((some (A.drop (x : Int).toNat : List (S56))).bind fun y198 => (if y195.length + y198.length < 4398046511104 then (storagebarterref28_Merge.l1 k ls (y195 ++ y198) i (wrap64 (j + 1))) else (none)))) else (none))) else (none))) else (none)) else (none)) = storagebarterref28_Merge.l1 k ls ([] ++ A.take x.toNat ++ [⟨d0, d1, d2, d3⟩] ++ A.drop x.toNat) i (wrap64 (j + 1)) := fun k => by
      rw [if_pos (by omega), if_pos (by omega)]
      simp only [Option.bind_some]
      rw [if_pos (by simp; omega), if_pos (by simp; omega), if_pos (by simp; omega)]
    have hw : wrap64 (x - 1) = x - 1 := w64 (by omega) (by omega)
    by_cases c1 : (rd_T56 A (x - 1)).f0 > d0
    · refine ⟨r', hp', ev_up he' (fun k => ?_)⟩
      rw [storagebarterref28_Merge.l2, hw, if_pos (by omega), if_pos (by omega), if_pos (by omega), if_pos c1]
    · by_cases c2 : (rd_T56 A (x - 1)).f0 = d0
      · by_cases c3 : (rd_T56 A (x - 1)).f1 > d1
        · refine ⟨r', hp', ev_up he' (fun k => ?_)⟩
          rw [storagebarterref28_Merge.l2, hw, if_pos (by omega), if_pos (by omega), if_pos (by omega), if_neg c1, if_pos c2, if_pos c3]
        · refine ⟨r, hp, ev_up he (fun k => ?_)⟩
          rw [storagebarterref28_Merge.l2, hw, if_pos (by omega), if_pos (by omega), if_pos (by omega), if_neg c1, if_pos c2, if_neg c3]
          exact hst k
      · refine ⟨r, hp, ev_up he (fun k => ?_)⟩
        rw [storagebarterref28_Merge.l2, hw, if_pos (by omega), if_pos (by omega), if_pos (by omega), if_neg c1, if_neg c2]
        exact hst k
theorem c30_l1 (ls : List (List S56)) (i : Int) (hi0 : 0 ≤ i) (hi1 : i < ls.length) (P : List S56 → Prop) (hq : (rd_L4 ls i).length ≤ 100) (m : Nat) (hm : m ≤ 500) (h : ∀ A : List S56, A.length = m + (rd_L4 ls i).length → ∃ r, P r ∧ Ev (fun k => storagebarterref28_Merge.l0 k ls A (wrap64 (i + 1))) r) : ∀ (n : Nat) (A : List S56) (j : Int), 0 ≤ j → j + n = (rd_L4 ls i).length → (A.length : Int) = m + j → ∃ r, P r ∧ Ev (fun k => storagebarterref28_Merge.l1 k ls A i j) r
  | 0, A, j, h0, hj, hA => by
    obtain ⟨r, hp, he⟩ := h A (by omega)
    refine ⟨r, hp, ev_up he (fun k => ?_)⟩
    rw [storagebarterref28_Merge.l1, if_pos hi0, if_pos hi1, if_neg (by omega)]
  | n + 1, A, j, h0, hj, hA => by
    push_cast at hj
    obtain ⟨r, hp, he⟩ := c30_l2 ls i j (rd_T56 (rd_L4 ls i) j).f0 (rd_T56 (rd_L4 ls i) j).f1 (rd_T56 (rd_L4 ls i) j).f2 (rd_T56 (rd_L4 ls i) j).f3 P A.length A A.length rfl (Nat.le_refl _) (by omega) (fun A' hA' => by
      rw [w64 (n := j + 1) (by omega) (by omega)]
      exact c30_l1 ls i hi0 hi1 P hq m hm h n A' (j + 1) (by omega) (by omega) (by omega))
    refine ⟨r, hp, ev_up he (fun k => ?_)⟩
    rw [storagebarterref28_Merge.l1, if_pos hi0, if_pos hi1, if_pos (by omega), if_pos h0]
def sumL : List (List S56) → Nat
  | [] => 0
  | e :: t => e.length + sumL t
theorem c30_l0 (ls : List (List S56)) (hl : ls.length ≤ 10) (hq : ∀ e ∈ ls, e.length ≤ 22) : ∀ (t : List (List S56)) (A : List S56) (i : Int), 0 ≤ i → i ≤ ls.length → ls.drop i.toNat = t → A.length ≤ 22 * i.toNat → ∃ r : List S56, r.length = A.length + sumL t ∧ Ev (fun k => storagebarterref28_Merge.l0 k ls A i) r
  | [], A, i, h0, hi, hd, hA => by
    have := drop_len h0 hi hd
    exact ⟨A, rfl, ev_up (ev_some A) (fun k => by rw [storagebarterref28_Merge.l0, if_neg (by simp at this; omega)])⟩
  | e :: t, A, i, h0, hi, hd, hA => by
    have hl2 := drop_len h0 hi hd
    have hr : rd_L4 ls i = e := getD_at hd
    rw [List.length_cons] at hl2
    push_cast at hl2
    have he : e.length ≤ 22 := hq e (List.mem_of_mem_drop (by rw [hd]; exact List.mem_cons_self ..))
    obtain ⟨r, hp, he⟩ := c30_l1 ls i h0 (by omega) (fun r => r.length = A.length + sumL (e :: t)) (by rw [hr]; omega) A.length (by omega) (fun A' hA' => by
      rw [w64 (n := i + 1) (by omega) (by omega)]
      obtain ⟨r, h1, h2⟩ := c30_l0 ls hl hq t A' (i + 1) (by omega) (by omega) (drop_next h0 hd) (by rw [hr] at hA'; omega)
      exact ⟨r, by rw [hr] at hA'; rw [sumL]; omega, h2⟩) e.length A 0 (by omega) (by rw [hr]; omega) (by omega)
    exact ⟨r, hp, ev_up he (fun k => by rw [storagebarterref28_Merge.l0, if_pos (by omega)])⟩
theorem sumL_le {ls : List (List S56)} (hq : ∀ e ∈ ls, e.length ≤ 22) : sumL ls ≤ 22 * ls.length := by
  induction ls with
  | nil => simp [sumL]
  | cons e t ih =>
    have := hq e (List.mem_cons_self ..)
    have := ih (fun x hx => hq x (List.mem_cons_of_mem _ hx))
    simp [sumL]; omega
theorem c30_merge (ls : List (List S56)) (hl : ls.length ≤ 10) (hq : ∀ e ∈ ls, e.length ≤ 22) : ∃ r : List S56, Ev (fun k => storagebarterref28_Merge.f k ls) r ∧ r.length ≤ 22 * ls.length := by
  obtain ⟨r, h1, h2⟩ := c30_l0 ls hl hq ls [] 0 (Int.le_refl _) (by omega) rfl (by simp)
  exact ⟨r, h2, by have := sumL_le hq; simp at h1; omega⟩
theorem c30_lawplan_l0 {s : List Int} (hs : Seeds s) : ∀ (n : Nat) (ls : List (List S56)) (x p : Int), x = n → n ≤ 5 → ls.length + n ≤ 2 → (∀ e ∈ ls, e.length ≤ 22) → 0 ≤ p → p ≤ s.length → ∃ (r : List S56) (q : Int), Ev (fun k => storagebarterlaw30_plan.l0 k ls x s p) (r, q) ∧ r.length ≤ 44 ∧ 0 ≤ q ∧ q ≤ s.length
  | 0, ls, x, p, hx, hn, hl, hq, p0, p1 => by
    obtain rfl : x = 0 := hx
    obtain ⟨r, hr, hl'⟩ := c30_merge ls (by omega) hq
    refine ⟨r, p, ?_, by omega, p0, p1⟩
    obtain ⟨K, hK⟩ := hr
    refine ⟨K + 1, fun k hk => ?_⟩
    obtain ⟨k, rfl, hk⟩ := k_succ hk
    dsimp only at hK ⊢
    rw [storagebarterlaw30_plan.l0, if_neg (by omega), hK k (by omega)]
    rfl
  | n + 1, ls, x, p, hx, hn, hl, hq, p0, p1 => by
    push_cast at hx
    obtain ⟨k1, a, b, st, te, cs, q, e1, a1, a2, b1, b2, hab, t0, t1, u1, u2, hc, hcl, q0, q1⟩ := arr_ok hs p0 p1 (n := 3) (by omega) (by omega)
    obtain ⟨r, q', e2, r0, r1, m0, m1⟩ := pick_ok hs q0 q1 (n := 2) (by omega)
    obtain ⟨K1, f1⟩ := ev_of (g := fun k => storagebarterplay_Dice_Arrangement.f k s p 3) (storagebarterplay_Dice_Arrangement.mono _ _ _) ⟨k1, e1⟩
    obtain ⟨L, e, ⟨K2, f2⟩, hL⟩ := c30_plan a b st te x cs (r == 0) (by omega) t0 u1 (by omega) u2 (by omega) (by omega)
    obtain ⟨R, Q, ⟨K3, f3⟩, hR, Q0, Q1⟩ := c30_lawplan_l0 hs n (ls ++ [L]) (x - 1) q' (by omega) (by omega) (by simp; omega) (fun e he => by
      rcases List.mem_append.1 he with h | h
      · exact hq e h
      · rw [List.mem_singleton.1 h]; exact hL) m0 m1
    refine ⟨R, Q, ⟨K1 + K2 + K3 + 1, fun k hk => ?_⟩, hR, Q0, Q1⟩
    obtain ⟨k, rfl, hk⟩ := k_succ hk
    dsimp only at f1 f2 f3 ⊢
    rw [storagebarterlaw30_plan.l0, if_pos (by omega), f1 k (by omega)]
    simp only [Option.bind_some]
    rw [e2]
    simp only [Option.bind_some]
    rw [f2 k (by omega)]
    simp only [Option.bind_some]
    rw [if_pos (by omega), w64 (n := x - 1) (by omega) (by omega), f3 k (by omega)]
theorem c30_lawplan {s : List Int} (hs : Seeds s) {p : Int} (p0 : 0 ≤ p) (p1 : p ≤ s.length) : ∃ (r : List S56) (q : Int), Ev (fun k => storagebarterlaw30_plan.f k s p) (r, q) ∧ r.length ≤ 44 ∧ 0 ≤ q ∧ q ≤ s.length := by
  obtain ⟨r, q, e, r0, r1, m0, m1⟩ := pick_ok hs p0 p1 (n := 2) (by omega)
  obtain ⟨R, Q, h, hR, Q0, Q1⟩ := c30_lawplan_l0 hs (1 + r).toNat [] (1 + r) q (by omega) (by omega) (by simp; omega) (fun e he => by cases he) m0 m1
  refine ⟨R, Q, ?_, hR, Q0, Q1⟩
  unfold storagebarterlaw30_plan.f
  rw [e]
  simp only [Option.bind_some]
  rw [w64 (n := 1 + r) (by omega) (by omega)]
  exact h

/-! whose duties: the numbers -/
def ofL (L : List S56) (p : Int) : Nat → Int → List Int
  | 0, _ => []
  | n + 1, i => if (rd_T56 L i).f2 = p then i :: ofL L p n (i + 1) else ofL L p n (i + 1)
theorem ofL_mem {L : List S56} {p : Int} : ∀ {n : Nat} {i x : Int}, x ∈ ofL L p n i → i ≤ x ∧ x < i + n ∧ (rd_T56 L x).f2 = p
  | 0, i, x, h => by simp [ofL] at h
  | n + 1, i, x, h => by
    rw [ofL] at h
    push_cast
    by_cases c : (rd_T56 L i).f2 = p
    · rw [if_pos c] at h
      rcases List.mem_cons.1 h with rfl | h
      · exact ⟨by omega, by omega, c⟩
      · have := ofL_mem h; exact ⟨by omega, by omega, this.2.2⟩
    · rw [if_neg c] at h
      have := ofL_mem h; exact ⟨by omega, by omega, this.2.2⟩
theorem ofL_pw {L : List S56} {p : Int} : ∀ (n : Nat) (i : Int), (ofL L p n i).Pairwise (· < ·)
  | 0, i => List.Pairwise.nil
  | n + 1, i => by
    rw [ofL]
    split
    · refine List.pairwise_cons.2 ⟨fun x hx => ?_, ofL_pw n (i + 1)⟩
      have := ofL_mem hx; omega
    · exact ofL_pw n (i + 1)
theorem ofL_len {L : List S56} {p : Int} : ∀ (n : Nat) (i : Int), (ofL L p n i).length ≤ n
  | 0, i => by simp [ofL]
  | n + 1, i => by
    rw [ofL]
    have := ofL_len (L := L) (p := p) n (i + 1)
    split
    · simp; omega
    · omega
theorem c30_of_l0 (L : List S56) (hL : L.length ≤ 10000) (p : Int) : ∀ (n : Nat) (x : List Int) (i : Int), 0 ≤ i → i + n = L.length → x.length ≤ i → Ev (fun k => storagebarterref28_Of.l0 k L p x i) (x ++ ofL L p n i)
  | 0, x, i, h0, hi, hx => ev_up (ev_some _) (fun k => by rw [storagebarterref28_Of.l0, if_neg (by omega)]; simp [ofL])
  | n + 1, x, i, h0, hi, hx => by
    push_cast at hi
    rw [ofL]
    by_cases c : (rd_T56 L i).f2 = p
    · rw [if_pos c]
      have ih := c30_of_l0 L hL p n (x ++ [i]) (i + 1) (by omega) (by omega) (by simp; omega)
      refine ev_up (by simpa using ih) (fun k => ?_)
      rw [storagebarterref28_Of.l0, if_pos (by omega), if_pos h0, if_pos c, if_pos (by omega), w64 (n := i + 1) (by omega) (by omega)]
    · rw [if_neg c]
      refine ev_up (c30_of_l0 L hL p n x (i + 1) (by omega) (by omega) (by omega)) (fun k => ?_)
      rw [storagebarterref28_Of.l0, if_pos (by omega), if_pos h0, if_neg c, w64 (n := i + 1) (by omega) (by omega)]
def Ofs (L : List S56) (p : Int) : List Int := ofL L p L.length 0
theorem c30_of (L : List S56) (hL : L.length ≤ 10000) (p : Int) : Ev (fun k => storagebarterref28_Of.f k L p) (Ofs L p) := c30_of_l0 L hL p L.length [] 0 (Int.le_refl _) (by omega) (by simp)
/-! what the dice make -/
def Hows (acts : List S51) : Prop := ∀ a ∈ acts, 1 ≤ a.f1 ∧ a.f1 ≤ 3
theorem ofs_mem {L : List S56} {p x : Int} (h : x ∈ Ofs L p) : 0 ≤ x ∧ x < L.length ∧ (rd_T56 L x).f2 = p := by
  have := ofL_mem h
  exact ⟨this.1, by omega, this.2.2⟩
theorem ofs_pw (L : List S56) (p : Int) : (Ofs L p).Pairwise (· < ·) := ofL_pw _ _
theorem ofs_len (L : List S56) (p : Int) : (Ofs L p).length ≤ L.length := ofL_len _ _

/-! tables that are in order -/
def ActsOK (L : List S56) (p : Int) (acts : List S51) : Prop := (∀ a ∈ acts, 1 ≤ a.f1 ∧ a.f1 ≤ 3 ∧ 0 ≤ a.f0 ∧ a.f0 < L.length ∧ (rd_T56 L a.f0).f2 = p) ∧ acts.Pairwise (fun a b => a.f0 < b.f0)
theorem ActsOK.sub {L : List S56} {p : Int} {acts acts' : List S51} (h : ActsOK L p acts) (hs : acts'.Sublist acts) : ActsOK L p acts' := ⟨fun a ha => h.1 a (hs.subset ha), h.2.sublist hs⟩
theorem rd51_get {acts : List S51} {i : Int} (h0 : 0 ≤ i) (h1 : i < acts.length) : rd_T51 acts i = acts[i.toNat]'(by omega) := by
  unfold rd_T51
  rw [List.getD_eq_getElem?_getD, List.getElem?_eq_getElem (by omega)]
  rfl
theorem ok_of {L : List S56} {p : Int} {acts : List S51} (h : ActsOK L p acts) {i : Int} (h0 : 0 ≤ i) (h1 : i < acts.length) : deviation_ok L p acts i = true := by
  have e := rd51_get h0 h1
  have hm : rd_T51 acts i ∈ acts := by rw [e]; exact List.getElem_mem _
  obtain ⟨a1, a2, a3, a4, a5⟩ := h.1 _ hm
  unfold deviation_ok
  rw [decide_eq_true a3, decide_eq_true a4, a5]
  have hh : ((rd_T51 acts i).f1 == 1 || ((rd_T51 acts i).f1 == 2 || (rd_T51 acts i).f1 == 3)) = true := by
    rcases (show (rd_T51 acts i).f1 = 1 ∨ (rd_T51 acts i).f1 = 2 ∨ (rd_T51 acts i).f1 = 3 by omega) with h | h | h <;> rw [h] <;> rfl
  rw [hh]
  by_cases hz : i ≤ 0
  · rw [decide_eq_true hz]; simp
  · have := List.pairwise_iff_getElem.1 h.2 (i - 1).toNat i.toNat (by omega) (by omega) (by omega)
    rw [← rd51_get (by omega) (by omega), ← e] at this
    rw [decide_eq_true this]; simp
theorem valid_of {L : List S56} {p : Int} {acts : List S51} (h : ActsOK L p acts) (hl : acts.length ≤ 100000) : deviation_Valid.f L p acts = some true := by
  unfold deviation_Valid.f
  rw [if_pos (by omega)]
  congr 1
  rw [List.all_eq_true]
  intro i hi
  have := List.mem_range.1 hi
  exact ok_of h (by omega) (by omega)
theorem acts_of_sub {L : List S56} {p : Int} {acts : List S51} (h : Hows acts) (hs : (acts.map (·.f0)).Sublist (Ofs L p)) : ActsOK L p acts :=
  ⟨fun a ha => by
    have := ofs_mem (hs.subset (List.mem_map_of_mem ha))
    exact ⟨(h a ha).1, (h a ha).2, this.1, this.2.1, this.2.2⟩, List.pairwise_map.1 ((ofs_pw L p).sublist hs)⟩

def DevOK (L : List S56) (s : List Int) (p most : Int) (x : Int × List S51 × Int) : Prop := x.1 = p ∧ ActsOK L p x.2.1 ∧ (x.2.1.length : Int) ≤ most ∧ 0 ≤ x.2.2 ∧ x.2.2 ≤ s.length ∧ Hows x.2.1 ∧ (x.2.1.map (·.f0)).Sublist (Ofs L p)
theorem c30_dev_l0 (L : List S56) (hL : L.length ≤ 10000) {s : List Int} (hs : Seeds s) (p most : Int) (hm : most ≤ 100) : ∀ (n : Nat) (at_ x q : Int) (acts : List S51), x = n → 0 ≤ at_ → at_ ≤ (Ofs L p).length → 0 ≤ q → q ≤ s.length → Hows acts → (acts.map (·.f0)).Sublist ((Ofs L p).take at_.toNat) → (acts.length : Int) + n ≤ most → ∃ v, Ev (fun k => storagebarterplay_Dice_Deviation.l0 k (Ofs L p) at_ x s q p acts) v ∧ DevOK L s p most v
  | 0, at_, x, q, acts, hx, a0, a1, q0, q1, hA, hB, hl => by
    obtain rfl : x = 0 := hx
    have hB' := hB.trans (List.take_sublist _ _)
    refine ⟨(p, acts, q), ⟨2, fun k hk => ?_⟩, rfl, acts_of_sub hA hB', by simp only; omega, q0, q1, hA, hB'⟩
    obtain ⟨k1, rfl, hk1⟩ := k_succ hk
    obtain ⟨k, rfl, hk2⟩ := k_succ hk1
    dsimp only
    rw [storagebarterplay_Dice_Deviation.l0, if_neg (by omega), storagebarterplay_Dice_Deviation.j1, if_neg (by decide)]
  | n + 1, at_, x, q, acts, hx, a0, a1, q0, q1, hA, hB, hl => by
    push_cast at hx hl
    have hO2 := ofs_len L p
    by_cases c : at_ < (Ofs L p).length
    · obtain ⟨r, m, e, r0, r1, m0, m1⟩ := pick_ok hs q0 q1 (n := (Ofs L p).length - at_) (by omega)
      obtain ⟨r', m', e', r0', r1', m0', m1'⟩ := pick_ok hs m0 m1 (n := 3) (by omega)
      obtain ⟨j, hj⟩ : ∃ j : Nat, (j : Int) = at_ + r := ⟨(at_ + r).toNat, by omega⟩
      have hjl : j < (Ofs L p).length := by omega
      have hrd : rd (Ofs L p) (at_ + r) = (Ofs L p)[j] := by
        unfold rd
        rw [← hj, Int.toNat_natCast, List.getD_eq_getElem?_getD, List.getElem?_eq_getElem hjl]
        rfl
      have hsub : ((acts ++ [⟨(Ofs L p)[j], 1 + r'⟩] : List S51).map (·.f0)).Sublist ((Ofs L p).take (at_ + r + 1).toNat) := by
        rw [show (at_ + r + 1).toNat = j + 1 by omega, List.take_succ_eq_append_getElem hjl, List.map_append]
        refine List.Sublist.append ?_ (List.Sublist.refl _)
        refine hB.trans ?_
        rw [show (Ofs L p).take at_.toNat = ((Ofs L p).take j).take at_.toNat by rw [List.take_take, Nat.min_eq_left (by omega)]]
        exact List.take_sublist _ _
      obtain ⟨v, hv, hd⟩ := c30_dev_l0 L hL hs p most hm n (at_ + r + 1) (x - 1) m' (acts ++ [⟨(Ofs L p)[j], 1 + r'⟩]) (by omega) (by omega) (by omega) m0' m1' (fun a ha => by
          rcases List.mem_append.1 ha with h | h
          · exact hA a h
          · rw [List.mem_singleton.1 h]; exact ⟨by simp; omega, by simp; omega⟩) hsub (by simp; omega)
      refine ⟨v, ?_, hd⟩
      obtain ⟨K, hK⟩ := hv
      refine ⟨K + 2, fun k hk => ?_⟩
      obtain ⟨k1, rfl, hk1⟩ := k_succ hk
      obtain ⟨k, rfl, hk2⟩ := k_succ hk1
      dsimp only at hK ⊢
      rw [storagebarterplay_Dice_Deviation.l0, if_pos (by omega), decide_eq_true (by omega), storagebarterplay_Dice_Deviation.j1, if_pos rfl, w64 (n := (Ofs L p).length - at_) (by omega) (by omega), e]
      simp only [Option.bind_some]
      rw [w64 (n := at_ + r) (by omega) (by omega), if_pos (by omega), if_pos (by omega), e']
      simp only [Option.bind_some]
      rw [if_pos (by omega), w64 (n := at_ + r + 1) (by omega) (by omega), w64 (n := x - 1) (by omega) (by omega), w64 (n := 1 + r') (by omega) (by omega), hrd, hK k (by omega)]
    · have hB' := hB.trans (List.take_sublist _ _)
      refine ⟨(p, acts, q), ⟨2, fun k hk => ?_⟩, rfl, acts_of_sub hA hB', by simp only; omega, q0, q1, hA, hB'⟩
      obtain ⟨k1, rfl, hk1⟩ := k_succ hk
      obtain ⟨k, rfl, hk2⟩ := k_succ hk1
      dsimp only
      rw [storagebarterplay_Dice_Deviation.l0, if_pos (by omega), decide_eq_false c, storagebarterplay_Dice_Deviation.j1, if_neg (by decide)]
theorem c30_dev (L : List S56) (hL : L.length ≤ 10000) {s : List Int} (hs : Seeds s) (p most : Int) (h0 : 0 ≤ most) (hm : most ≤ 100) {q : Int} (q0 : 0 ≤ q) (q1 : q ≤ s.length) : ∃ v, Ev (fun k => storagebarterplay_Dice_Deviation.f k s q L p most) v ∧ DevOK L s p most v := by
  obtain ⟨r, m, e, r0, r1, m0, m1⟩ := pick_ok hs q0 q1 (n := most + 1) (by omega)
  obtain ⟨v, ⟨K2, hv⟩, hd⟩ := c30_dev_l0 L hL hs p most hm r.toNat 0 r m [] (by omega) (by omega) (by omega) m0 m1 (fun a ha => by cases ha) (by simp) (by simp; omega)
  obtain ⟨K1, hO⟩ := c30_of L hL p
  refine ⟨v, ⟨K1 + K2, fun k hk => ?_⟩, hd⟩
  dsimp only at hO hv ⊢
  unfold storagebarterplay_Dice_Deviation.f
  rw [hO k (by omega)]
  simp only [Option.bind_some]
  rw [w64 (n := most + 1) (by omega) (by omega), e]
  simp only [Option.bind_some]
  exact hv k (by omega)

/-! the tables of a peer -/
instance : DecidableEq S51 := fun a b => decidable_of_iff (a.f0 = b.f0 ∧ a.f1 = b.f1) (by cases a; cases b; simp)
def Tab (p : Int) (ns : List Int) (m : Nat) (i : Int) (acts : List S51) (x : S39) : Prop := ∃ ext : List S51, x = ⟨p, acts ++ ext⟩ ∧ ext.length = m ∧ Hows ext ∧ (ext.map (·.f0)).Sublist (ns.drop i.toNat)
theorem drop_rd {ns : List Int} {i : Int} (h0 : 0 ≤ i) (h1 : i < ns.length) : ns.drop i.toNat = rd ns i :: ns.drop (i + 1).toNat := by
  rw [show (i + 1).toNat = i.toNat + 1 by omega, List.drop_eq_getElem_cons (by omega)]
  congr 1
  unfold rd
  rw [List.getD_eq_getElem?_getD, List.getElem?_eq_getElem (by omega)]
  rfl
theorem rou_mem {p : Int} {ns : List Int} {m : Nat} (hf : ∀ (i : Int) (acts : List S51) (x : S39), 0 ≤ i → x ∈ deviation_tables p ns m i acts → Tab p ns m i acts x) : ∀ (n : Nat) (i : Int) (acts : List S51) (x : S39), 0 ≤ i → (0 < n → i + n ≤ ns.length) → x ∈ deviation_rounds (deviation_tables p ns m) ns acts n i → ∃ (a : S51) (ext : List S51), x = ⟨p, acts ++ a :: ext⟩ ∧ ext.length = m ∧ Hows (a :: ext) ∧ ((a :: ext).map (·.f0)).Sublist (ns.drop i.toNat)
  | 0, i, acts, x, h0, hn, hx => by simp [deviation_rounds] at hx
  | n + 1, i, acts, x, h0, hn, hx => by
    have hi := hn (by omega)
    push_cast at hi
    rw [deviation_rounds] at hx
    rcases List.mem_append.1 hx with h | h
    · obtain ⟨hh, hm, hx⟩ := List.mem_flatMap.1 h
      obtain ⟨ext, rfl, hl, ho, hs⟩ := hf _ _ _ (by omega) hx
      refine ⟨⟨rd ns i, hh⟩, ext, by simp, hl, fun a ha => ?_, ?_⟩
      · rcases List.mem_cons.1 ha with rfl | ha
        · have : hh = 1 ∨ hh = 2 ∨ hh = 3 := by simpa using hm
          simp only; omega
        · exact ho a ha
      · rw [drop_rd h0 (by omega)]
        exact hs.cons_cons _
    · obtain ⟨a, ext, rfl, hl, ho, hs⟩ := rou_mem hf n (i + 1) acts x (by omega) (by omega) h
      refine ⟨a, ext, rfl, hl, ho, ?_⟩
      rw [drop_rd h0 (by omega)]
      exact hs.cons _
theorem tab_mem {p : Int} {ns : List Int} : ∀ (m : Nat) (i : Int) (acts : List S51) (x : S39), 0 ≤ i → x ∈ deviation_tables p ns m i acts → Tab p ns m i acts x
  | 0, i, acts, x, h0, hx => by
    rw [deviation_tables, List.mem_singleton] at hx
    exact ⟨[], by rw [hx, List.append_nil], rfl, (fun a ha => by cases ha), List.nil_sublist _⟩
  | m + 1, i, acts, x, h0, hx => by
    rw [deviation_tables] at hx
    obtain ⟨a, ext, e, hl, ho, hs⟩ := rou_mem (tab_mem m) _ i acts x h0 (by omega) hx
    exact ⟨a :: ext, e, by simp [hl], ho, hs⟩
/-! their order -/
def bf : List S51 → List S51 → Bool
  | a :: s, b :: t => if a.f0 = b.f0 then (if a.f1 = b.f1 then bf s t else decide (a.f1 < b.f1)) else decide (a.f0 < b.f0)
  | [], _ => false
  | _ :: _, [] => false
theorem bf_app : ∀ (A s t : List S51), bf (A ++ s) (A ++ t) = bf s t
  | [], s, t => rfl
  | a :: A, s, t => by
    show bf (a :: (A ++ s)) (a :: (A ++ t)) = _
    rw [bf, if_pos rfl, if_pos rfl, bf_app A s t]
theorem rou_pw {p : Int} {ns : List Int} (hns : ns.Pairwise (· < ·)) {m : Nat} (hf : ∀ (i : Int) (acts : List S51), 0 ≤ i → (deviation_tables p ns m i acts).Pairwise (fun x y => bf x.f1 y.f1 = true)) : ∀ (n : Nat) (i : Int) (acts : List S51), 0 ≤ i → (0 < n → i + n ≤ ns.length) → (deviation_rounds (deviation_tables p ns m) ns acts n i).Pairwise (fun x y => bf x.f1 y.f1 = true)
  | 0, i, acts, h0, hn => by rw [deviation_rounds]; exact List.Pairwise.nil
  | n + 1, i, acts, h0, hn => by
    have hi := hn (by omega)
    push_cast at hi
    have hd := drop_rd (ns := ns) h0 (by omega)
    have hpw : (rd ns i :: ns.drop (i + 1).toNat).Pairwise (· < ·) := by rw [← hd]; exact hns.sublist (List.drop_sublist _ _)
    have cross : ∀ (h h' : Int), h < h' → ∀ x ∈ deviation_tables p ns m (i + 1) (acts ++ [⟨rd ns i, h⟩]), ∀ y ∈ deviation_tables p ns m (i + 1) (acts ++ [⟨rd ns i, h'⟩]), bf x.f1 y.f1 = true := by
      intro h h' hh x hx y hy
      obtain ⟨e, rfl, _⟩ := tab_mem m _ _ _ (by omega) hx
      obtain ⟨e', rfl, _⟩ := tab_mem m _ _ _ (by omega) hy
      simp only [List.append_assoc, List.cons_append, List.nil_append]
      rw [bf_app, bf, if_pos rfl, if_neg (by simp only; omega)]
      exact decide_eq_true hh
    rw [deviation_rounds]
    simp only [List.flatMap_cons, List.flatMap_nil, List.append_nil]
    refine List.pairwise_append.2 ⟨List.pairwise_append.2 ⟨hf _ _ (by omega), List.pairwise_append.2 ⟨hf _ _ (by omega), hf _ _ (by omega), cross 2 3 (by omega)⟩, ?_⟩, rou_pw hns hf n (i + 1) acts (by omega) (by omega), ?_⟩
    · intro x hx y hy
      rcases List.mem_append.1 hy with h | h
      · exact cross 1 2 (by omega) x hx y h
      · exact cross 1 3 (by omega) x hx y h
    · intro x hx y hy
      obtain ⟨h, hx'⟩ : ∃ h, x ∈ deviation_tables p ns m (i + 1) (acts ++ [⟨rd ns i, h⟩]) := by
        rcases List.mem_append.1 hx with h | h
        · exact ⟨1, h⟩
        · rcases List.mem_append.1 h with h | h
          · exact ⟨2, h⟩
          · exact ⟨3, h⟩
      obtain ⟨e, rfl, _⟩ := tab_mem m _ _ _ (by omega) hx'
      obtain ⟨a, e', rfl, _, _, hs⟩ := rou_mem (tab_mem m) n (i + 1) acts y (by omega) (by omega) hy
      have hlt := (List.pairwise_cons.1 hpw).1 a.f0 (hs.subset (by simp))
      simp only [List.append_assoc, List.cons_append, List.nil_append]
      rw [bf_app, bf, if_neg (by simp only; omega)]
      exact decide_eq_true hlt
theorem tab_pw {p : Int} {ns : List Int} (hns : ns.Pairwise (· < ·)) : ∀ (m : Nat) (i : Int) (acts : List S51), 0 ≤ i → (deviation_tables p ns m i acts).Pairwise (fun x y => bf x.f1 y.f1 = true)
  | 0, i, acts, h0 => by rw [deviation_tables]; exact List.pairwise_singleton _ _
  | m + 1, i, acts, h0 => by
    rw [deviation_tables]
    exact rou_pw hns (tab_pw hns m) _ i acts h0 (by omega)
/-! how many -/
def cntR (g : Nat → Nat) : Nat → Nat → Nat
  | 0, _ => 0
  | n + 1, N => 3 * g (N - 1) + cntR g n (N - 1)
def cnt : Nat → Nat → Nat
  | 0, _ => 1
  | m + 1, N => cntR (cnt m) (N - m) N
def cntU : Nat → Nat → Nat
  | 0, _ => 0
  | n + 1, N => cntU n N + cnt n N
theorem rou_len {p : Int} {ns : List Int} {m : Nat} (hf : ∀ (i : Int) (acts : List S51), 0 ≤ i → (deviation_tables p ns m i acts).length = cnt m ((ns.length : Int) - i).toNat) : ∀ (n : Nat) (i : Int) (acts : List S51), 0 ≤ i → (deviation_rounds (deviation_tables p ns m) ns acts n i).length = cntR (cnt m) n ((ns.length : Int) - i).toNat
  | 0, i, acts, h0 => by rw [deviation_rounds, cntR]; rfl
  | n + 1, i, acts, h0 => by
    rw [deviation_rounds, cntR]
    simp only [List.flatMap_cons, List.flatMap_nil, List.append_nil, List.length_append]
    rw [hf _ _ (by omega), hf _ _ (by omega), hf _ _ (by omega), rou_len hf n (i + 1) acts (by omega), show ((ns.length : Int) - (i + 1)).toNat = ((ns.length : Int) - i).toNat - 1 by omega]
    omega
theorem tab_len {p : Int} {ns : List Int} : ∀ (m : Nat) (i : Int) (acts : List S51), 0 ≤ i → (deviation_tables p ns m i acts).length = cnt m ((ns.length : Int) - i).toNat
  | 0, i, acts, h0 => by rw [deviation_tables, cnt]; rfl
  | m + 1, i, acts, h0 => by
    rw [deviation_tables, cnt, rou_len (tab_len m) _ i acts h0, show ((ns.length : Int) - (m : Int) - i).toNat = ((ns.length : Int) - i).toNat - m by omega]
theorem upto_len (p : Int) (ns : List Int) : ∀ n : Nat, (deviation_upto p ns n).length = cntU n ns.length
  | 0 => rfl
  | n + 1 => by
    rw [deviation_upto, cntU, List.length_append, upto_len p ns n, tab_len n 0 [] (Int.le_refl _)]
    simp
/-! all of them -/
theorem sub_drop {A B : List Int} {x : Int} {t : List Int} (h : A.Sublist B) : A = x :: t → 0 < B.length := fun e => by
  have := h.length_le
  rw [e] at this
  simp at this
  omega
theorem rou_all {p : Int} {ns : List Int} {m : Nat} (hf : ∀ (i : Int) (acts ext : List S51), 0 ≤ i → (ext.map (·.f0)).Sublist (ns.drop i.toNat) → ext.length = m → Hows ext → (⟨p, acts ++ ext⟩ : S39) ∈ deviation_tables p ns m i acts) : ∀ (n : Nat) (i : Int) (acts : List S51) (a : S51) (ext : List S51), 0 ≤ i → n = ((ns.length : Int) - (m : Int) - i).toNat → ((a :: ext).map (·.f0)).Sublist (ns.drop i.toNat) → ext.length = m → Hows (a :: ext) → (⟨p, acts ++ a :: ext⟩ : S39) ∈ deviation_rounds (deviation_tables p ns m) ns acts n i
  | 0, i, acts, a, ext, h0, hn, hs, hl, ho => by
    have := hs.length_le
    simp at this
    omega
  | n + 1, i, acts, a, ext, h0, hn, hs, hl, ho => by
    have hi : i < ns.length := by omega
    rw [deviation_rounds]
    rw [drop_rd h0 hi] at hs
    rw [List.map_cons] at hs
    rcases List.sublist_cons_iff.1 hs with hs | ⟨r, he, hs⟩
    · exact List.mem_append_right _ (rou_all hf n (i + 1) acts a ext (by omega) (by omega) (by rw [List.map_cons]; exact hs) hl ho)
    · obtain ⟨h1, rfl⟩ := List.cons.inj he
      refine List.mem_append_left _ (List.mem_flatMap.2 ⟨a.f1, ?_, ?_⟩)
      · have := ho a (List.mem_cons_self ..)
        have : a.f1 = 1 ∨ a.f1 = 2 ∨ a.f1 = 3 := by omega
        simpa using this
      · have := hf (i + 1) (acts ++ [⟨a.f0, a.f1⟩]) ext (by omega) hs hl (fun x hx => ho x (List.mem_cons_of_mem _ hx))
        rw [← h1]
        simpa using this
theorem tab_all {p : Int} {ns : List Int} : ∀ (m : Nat) (i : Int) (acts ext : List S51), 0 ≤ i → (ext.map (·.f0)).Sublist (ns.drop i.toNat) → ext.length = m → Hows ext → (⟨p, acts ++ ext⟩ : S39) ∈ deviation_tables p ns m i acts
  | 0, i, acts, ext, h0, hs, hl, ho => by
    obtain rfl := List.eq_nil_of_length_eq_zero hl
    rw [deviation_tables, List.append_nil]
    exact List.mem_singleton.2 rfl
  | m + 1, i, acts, [], h0, hs, hl, ho => by simp at hl
  | m + 1, i, acts, a :: ext, h0, hs, hl, ho => by
    rw [deviation_tables]
    exact rou_all (tab_all m) _ i acts a ext h0 rfl hs (by simpa using hl) ho
theorem upto_mem {p : Int} {ns : List Int} : ∀ {n : Nat} {x : S39}, x ∈ deviation_upto p ns n → ∃ m, m < n ∧ x ∈ deviation_tables p ns m 0 []
  | 0, x, h => by simp [deviation_upto] at h
  | n + 1, x, h => by
    rw [deviation_upto] at h
    rcases List.mem_append.1 h with h | h
    · obtain ⟨m, hm, hx⟩ := upto_mem h
      exact ⟨m, by omega, hx⟩
    · exact ⟨n, by omega, h⟩
theorem upto_sub {p : Int} {ns : List Int} : ∀ {n m : Nat} {x : S39}, m < n → x ∈ deviation_tables p ns m 0 [] → x ∈ deviation_upto p ns n
  | 0, m, x, h, _ => absurd h (by omega)
  | n + 1, m, x, h, hx => by
    rw [deviation_upto]
    by_cases c : m = n
    · subst c; exact List.mem_append_right _ hx
    · exact List.mem_append_left _ (upto_sub (by omega) hx)
theorem upto_tab {p : Int} {ns : List Int} {n : Nat} {x : S39} (h : x ∈ deviation_upto p ns n) : x.f0 = p ∧ x.f1.length < n ∧ Hows x.f1 ∧ (x.f1.map (·.f0)).Sublist ns := by
  obtain ⟨m, hm, hx⟩ := upto_mem h
  obtain ⟨ext, rfl, hl, ho, hs⟩ := tab_mem m 0 [] x (Int.le_refl _) hx
  exact ⟨rfl, by simp; omega, by simpa using ho, by simpa using hs⟩
def lt_ (a b : List S51) : Bool := if a.length = b.length then bf a b else decide (a.length < b.length)
theorem upto_pw {p : Int} {ns : List Int} (hns : ns.Pairwise (· < ·)) : ∀ n : Nat, (deviation_upto p ns n).Pairwise (fun x y => lt_ x.f1 y.f1 = true)
  | 0 => by rw [deviation_upto]; exact List.Pairwise.nil
  | n + 1 => by
    rw [deviation_upto]
    refine List.pairwise_append.2 ⟨upto_pw hns n, ?_, ?_⟩
    · refine (tab_pw hns n 0 [] (Int.le_refl _)).imp_of_mem (fun {x y} hx hy h => ?_)
      obtain ⟨e, rfl, hl, _⟩ := tab_mem n 0 [] x (Int.le_refl _) hx
      obtain ⟨e', rfl, hl', _⟩ := tab_mem n 0 [] y (Int.le_refl _) hy
      rw [lt_, if_pos (by simp [hl, hl'])]
      exact h
    · intro x hx y hy
      have h1 := upto_tab hx
      obtain ⟨e', rfl, hl', _⟩ := tab_mem n 0 [] y (Int.le_refl _) hy
      have h2 : x.f1.length < ([] ++ e').length := by simp [hl']; exact h1.2.1
      rw [lt_, if_neg (by simp only; omega)]
      exact decide_eq_true h2
theorem upto_head (p : Int) (ns : List Int) : ∀ n : Nat, ∃ t, deviation_upto p ns (n + 1) = (⟨p, []⟩ : S39) :: t
  | 0 => ⟨[], rfl⟩
  | n + 1 => by
    obtain ⟨t, ht⟩ := upto_head p ns n
    rw [deviation_upto, ht]
    exact ⟨_, rfl⟩

/-! comparisons -/
theorem same_l0 (A B : List S51) (hl : A.length ≤ 100000) (hAB : B.length = A.length) : ∀ (s t : List S51) (i : Int), 0 ≤ i → i ≤ A.length → A.drop i.toNat = s → B.drop i.toNat = t → Ev (fun k => api_Act_34.l0 k A B (A.length : Int) i) (decide (s = t))
  | [], t, i, h0, hi, hs, ht => by
    have h1 := drop_len h0 hi hs
    have h2 := drop_len h0 (by omega) ht
    obtain rfl : t = [] := List.eq_nil_of_length_eq_zero (by simp at h1; omega)
    exact ev_up (ev_some _) (fun k => by rw [api_Act_34.l0, if_neg (by simp at h1; omega)]; rfl)
  | a :: s, [], i, h0, hi, hs, ht => by
    have h1 := drop_len h0 hi hs
    have h2 := drop_len h0 (by omega) ht
    simp at h1 h2
    omega
  | a :: s, b :: t, i, h0, hi, hs, ht => by
    have h1 := drop_len h0 hi hs
    rw [List.length_cons] at h1
    push_cast at h1
    have hr : rd_T51 A i = a := getD_at hs
    have hr' : rd_T51 B i = b := getD_at ht
    have ih := same_l0 A B hl hAB s t (i + 1) (by omega) (by omega) (drop_next h0 hs) (drop_next h0 ht)
    by_cases c : a = b
    · subst c
      have e : decide (a :: s = a :: t) = decide (s = t) := by simp
      rw [e]
      exact ev_up ih (fun k => by rw [api_Act_34.l0, if_pos (by omega), if_pos h0, if_pos (by omega), if_pos (by omega), hr, hr', if_neg (by simp), w64 (n := i + 1) (by omega) (by omega)])
    · have e : decide (a :: s = b :: t) = false := decide_eq_false (fun h => c (List.cons.inj h).1)
      rw [e]
      have hne : (!(a.f0 == b.f0) || (!(a.f1 == b.f1))) = true := by
        by_cases c0 : a.f0 = b.f0
        · by_cases c1 : a.f1 = b.f1
          · exact absurd (by cases a; cases b; simp at c0 c1; rw [c0, c1]) c
          · simp [c1]
        · simp [c0]
      exact ev_up (ev_some false) (fun k => by rw [api_Act_34.l0, if_pos (by omega), if_pos h0, if_pos (by omega), if_pos (by omega), hr, hr', if_pos hne])
theorem same_ok (p q : Int) (A B : List S51) (hl : A.length ≤ 100000) : Ev (fun k => deviation_Same.f k p A q B) (decide (p = q ∧ A = B)) := by
  unfold deviation_Same.f
  by_cases c : p = q
  · refine ev_pos c ?_
    unfold api_Act_34.f
    by_cases d : A.length = B.length
    · have h := same_l0 A B hl d.symm A B 0 (Int.le_refl _) (by omega) rfl rfl
      rw [show decide (p = q ∧ A = B) = decide (A = B) by simp [c]]
      exact ev_bind (ev_pos (by omega) h) (ev_some _)
    · rw [show decide (p = q ∧ A = B) = false from decide_eq_false (fun h => d (by rw [h.2]))]
      exact ev_bind (ev_neg (by omega) (ev_some false)) (ev_some _)
  · rw [show decide (p = q ∧ A = B) = false from decide_eq_false (fun h => c h.1)]
    exact ev_neg c (ev_some false)

/-! ### how many tables: both countings, for any numbers -/
def ch : Nat → Nat → Nat
  | _, 0 => 1
  | 0, _ + 1 => 0
  | n + 1, j + 1 => ch n j + ch n (j + 1)
theorem ch_step : ∀ n j : Nat, (j + 1) * ch n (j + 1) + j * ch n j = n * ch n j
  | 0, 0 => rfl
  | 0, j + 1 => by simp [ch]
  | n + 1, 0 => by
    have := ch_step n 0
    simp [ch] at this ⊢
    omega
  | n + 1, i + 1 => by
    have h1 := ch_step n i
    have h2 := ch_step n (i + 1)
    rw [show ch (n + 1) (i + 1 + 1) = ch n (i + 1) + ch n (i + 1 + 1) by rw [ch], show ch (n + 1) (i + 1) = ch n i + ch n (i + 1) by rw [ch]]
    simp only [Nat.mul_add, Nat.add_mul, Nat.one_mul] at h1 h2 ⊢
    omega
def tt (n j : Nat) : Int := (ch n j : Int) * ((3 ^ j : Nat) : Int)
theorem tt_nonneg (n j : Nat) : 0 ≤ tt n j := Int.mul_nonneg (Int.natCast_nonneg _) (Int.natCast_nonneg _)
theorem tt_step (n j : Nat) : tt n j * ((n : Int) - j) = (ch n (j + 1) : Int) * ((3 ^ j : Nat) : Int) * ((j : Int) + 1) := by
  have h := ch_step n j
  have h' : ((j : Int) + 1) * (ch n (j + 1) : Int) + (j : Int) * (ch n j : Int) = (n : Int) * (ch n j : Int) := by
    have := congrArg (fun x : Nat => (x : Int)) h
    push_cast at this
    exact this
  have e : (ch n j : Int) * ((n : Int) - j) = (ch n (j + 1) : Int) * ((j : Int) + 1) := by
    rw [Int.mul_sub, Int.mul_comm (ch n j : Int) n, Int.mul_comm (ch n j : Int) j, Int.mul_comm (ch n (j + 1) : Int) ((j : Int) + 1)]
    omega
  unfold tt
  rw [Int.mul_right_comm, e, Int.mul_right_comm]
theorem tt_succ (n j : Nat) : tt n (j + 1) = (ch n (j + 1) : Int) * ((3 ^ j : Nat) : Int) * 3 := by
  unfold tt
  rw [Nat.pow_succ]
  push_cast
  rw [Int.mul_assoc]
theorem tt_code (n j : Nat) : Int.tdiv (tt n j * ((n : Int) - j) * 3) ((j : Int) + 1) = tt n (j + 1) := by
  rw [tt_step, tt_succ, Int.mul_right_comm]
  exact Int.mul_tdiv_cancel _ (by omega)
theorem tt_ref (n j : Nat) : Int.tdiv (tt n j * ((n : Int) - j)) ((j : Int) + 1) * 3 = tt n (j + 1) := by
  rw [tt_step, tt_succ, Int.mul_tdiv_cancel _ (by omega)]
theorem tt_bound {n j : Nat} (hn : n ≤ 16384) (hj : j ≤ n) (h : tt n j ≤ 16384) : 0 ≤ tt n j * ((n : Int) - j) ∧ tt n j * ((n : Int) - j) ≤ 268435456 := by
  have h0 := tt_nonneg n j
  refine ⟨Int.mul_nonneg h0 (by omega), ?_⟩
  have := Int.mul_le_mul h (show (n : Int) - j ≤ 16384 by omega) (by omega) (by omega)
  exact Int.le_trans this (by decide)
theorem tt_next {n j : Nat} (hn : n ≤ 16384) (hj : j ≤ n) (h : tt n j ≤ 16384) : tt n (j + 1) ≤ 805306368 := by
  have hb := tt_bound hn hj h
  rw [← tt_ref]
  have h1 : Int.tdiv (tt n j * ((n : Int) - j)) ((j : Int) + 1) ≤ tt n j * ((n : Int) - j) := by
    rw [Int.tdiv_eq_ediv_of_nonneg hb.1]
    exact Int.ediv_le_self _ hb.1
  omega
theorem mn_le {a b c : Int} : c ≤ mn a b ↔ c ≤ a ∧ c ≤ b := by unfold mn; split <;> omega
theorem code_step (n most S T T1 P i : Int) (hn : n ≤ 16384) (i0 : 0 ≤ i) (i1 : i + 1 ≤ n) (i2 : i + 1 ≤ most) (s0 : 0 ≤ S) (s1 : S ≤ 16384) (hP : P = T * (n - i)) (p0 : 0 ≤ P) (p1 : P ≤ 268435456) (t0 : 0 ≤ T1) (t1 : T1 ≤ 805306368) (hc : Int.tdiv (P * 3) (i + 1) = T1) (k : Nat) :
    deviation_Count.l0 (k + 1) n most S T (i + 1) = if S + T1 > 16384 then some (0, false) else deviation_Count.l0 k n most (S + T1) T1 (i + 1 + 1) := by
  have e1 : wrap64 (n - (i + 1)) = n - i - 1 := by rw [w64 (by omega) (by omega)]; omega
  have e2 : wrap64 (n - i - 1 + 1) = n - i := by rw [w64 (by omega) (by omega)]; omega
  rw [deviation_Count.l0, if_pos (mn_le.2 ⟨i1, i2⟩), if_neg (by omega), if_neg (by omega), e1, e2, ← hP, w64 (n := P) p0 (by omega), w64 (n := P * 3) (by omega) (by omega), hc, w64 (n := T1) t0 (by omega), w64 (n := S + T1) (by omega) (by omega), w64 (n := i + 1 + 1) (by omega) (by omega)]
theorem ref_high (n most S P j : Int) (j0 : 0 ≤ j) (j1 : j ≤ n) (j2 : j ≤ most) (s : wrap64 (S + P) > 16384) (k : Nat) : storagebarterref30_Count.l0 (k + 2) n most S P j = some (0, false) := by
  rw [storagebarterref30_Count.l0, if_pos j2, decide_eq_true j1, storagebarterref30_Count.j2, if_pos rfl, if_pos s]
theorem ref_end (n most S P j : Int) (h : ¬ (j ≤ n ∧ j ≤ most)) (k : Nat) : storagebarterref30_Count.l0 (k + 2) n most S P j = some (S, true) := by
  rw [storagebarterref30_Count.l0]
  by_cases g1 : j ≤ most
  · rw [if_pos g1, decide_eq_false (fun h' => h ⟨h', g1⟩), storagebarterref30_Count.j2, if_neg (by decide)]
  · rw [if_neg g1, storagebarterref30_Count.j2, if_neg (by decide)]
theorem ref_step (n most S T P T1 j : Int) (hn : n ≤ 16384) (j0 : 0 ≤ j) (j1 : j ≤ n) (j2 : j ≤ most) (s0 : 0 ≤ S) (t0 : 0 ≤ T) (s1 : S + T ≤ 16384) (hP : P = T * (n - j)) (p0 : 0 ≤ P) (p1 : P ≤ 268435456) (q0 : 0 ≤ T1) (q1 : T1 ≤ 805306368) (hc : Int.tdiv P (j + 1) * 3 = T1) (k : Nat) :
    storagebarterref30_Count.l0 (k + 2) n most S T j = storagebarterref30_Count.l0 k n most (S + T) T1 (j + 1) := by
  have e1 : wrap64 (j + 1) = j + 1 := w64 (by omega) (by omega)
  obtain ⟨D, hD⟩ : ∃ D, D = Int.tdiv P (j + 1) := ⟨_, rfl⟩
  rw [← hD] at hc
  have hst : storagebarterref30_Count.l0 k n most (S + T) (wrap64 (wrap64 (Int.tdiv (wrap64 (T * wrap64 (n - j))) (wrap64 (j + 1))) * 3)) (wrap64 (j + 1)) = storagebarterref30_Count.l0 k n most (S + T) T1 (j + 1) := by
    rw [e1, w64 (n := n - j) (by omega) (by omega), ← hP, w64 (n := P) p0 (by omega), ← hD, w64 (n := D) (by omega) (by omega), hc, w64 (n := T1) q0 (by omega)]
  rw [storagebarterref30_Count.l0, if_pos j2, decide_eq_true j1, storagebarterref30_Count.j2, if_pos rfl, w64 (n := S + T) (by omega) (by omega), if_neg (by omega)]
  by_cases g1 : j < most
  · rw [if_pos g1]
    by_cases g2 : j < n
    · rw [if_pos g2, if_neg (by omega), if_neg (by omega)]
      exact hst
    · rw [if_neg g2, if_neg (by omega)]
      exact hst
  · rw [if_neg g1, if_neg (by omega)]
    exact hst
theorem tt_facts {n i : Nat} (hn : n ≤ 16384) (hi : i ≤ n) (h : tt n i ≤ 16384) : ∃ P : Int, P = tt n i * ((n : Int) - i) ∧ 0 ≤ P ∧ P ≤ 268435456 ∧ 0 ≤ tt n (i + 1) ∧ tt n (i + 1) ≤ 805306368 ∧ Int.tdiv (P * 3) ((i : Int) + 1) = tt n (i + 1) ∧ Int.tdiv P ((i : Int) + 1) * 3 = tt n (i + 1) := by
  have hb := tt_bound hn hi h
  exact ⟨_, rfl, hb.1, hb.2, tt_nonneg _ _, tt_next hn hi h, tt_code n i, tt_ref n i⟩
theorem count_claim (n : Nat) (most : Int) (hn : n ≤ 16384) : ∀ (q i : Nat) (S T T1 : Int), i + q = n + 1 → 0 ≤ S → S ≤ 16384 → T = tt n i → T1 = tt n (i + 1) → T ≤ 16384 → ∃ c : Int × Bool, Ev (fun k => deviation_Count.l0 k (n : Int) most S T ((i : Int) + 1)) c ∧ Ev (fun k => storagebarterref30_Count.l0 k (n : Int) most S T1 ((i : Int) + 1)) c
  | 0, i, S, T, T1, hq, s0, s1, hT, hT1, ht =>
    ⟨(S, true), ev_up (ev_some _) (fun k => by rw [deviation_Count.l0, if_neg (fun h => by have := (mn_le.1 h).1; omega)]), ⟨2, fun k hk => by
      obtain ⟨k, rfl⟩ : ∃ q, k = q + 2 := ⟨k - 2, by omega⟩
      exact ref_end _ _ _ _ _ (fun h => by omega) k⟩⟩
  | q + 1, i, S, T, T1, hq, s0, s1, hT, hT1, ht => by
    by_cases c : ((i : Int) + 1) ≤ (n : Int) ∧ ((i : Int) + 1) ≤ most
    · obtain ⟨P, hP, p0, p1, t0, t1, hc, _⟩ := tt_facts (n := n) (i := i) hn (by omega) (by rw [← hT]; exact ht)
      rw [← hT1] at t0 t1 hc
      rw [← hT] at hP
      have hcode := code_step (n : Int) most S T T1 P i (by omega) (by omega) c.1 c.2 s0 s1 hP p0 p1 t0 t1 hc
      by_cases h2 : S + T1 > 16384
      · refine ⟨(0, false), ev_up (ev_some _) (fun k => by rw [hcode, if_pos h2]), ⟨2, fun k hk => ?_⟩⟩
        obtain ⟨k, rfl⟩ : ∃ q, k = q + 2 := ⟨k - 2, by omega⟩
        exact ref_high _ _ _ _ _ (by omega) c.1 c.2 (by rw [w64 (by omega) (by omega)]; exact h2) k
      · obtain ⟨x, x1, ⟨K, x2⟩⟩ := count_claim n most hn q (i + 1) (S + T1) T1 (tt n (i + 2)) (by omega) (by omega) (by omega) hT1 rfl (by omega)
        obtain ⟨P2, hP2, p20, p21, t20, t21, _, hr2⟩ := tt_facts (n := n) (i := i + 1) hn (by omega) (by rw [← hT1]; omega)
        rw [← hT1] at hP2
        push_cast at x1 x2 hP2 hr2
        refine ⟨x, ev_up x1 (fun k => by rw [hcode, if_neg h2]), ⟨K + 2, fun k hk => ?_⟩⟩
        obtain ⟨k, rfl⟩ : ∃ q, k = q + 2 := ⟨k - 2, by omega⟩
        dsimp only at x2 ⊢
        rw [ref_step (n : Int) most S T1 P2 (tt n (i + 2)) ((i : Int) + 1) (by omega) (by omega) c.1 c.2 s0 t0 (by omega) hP2 p20 p21 t20 t21 hr2 k]
        exact x2 k (by omega)
    · refine ⟨(S, true), ev_up (ev_some _) (fun k => by rw [deviation_Count.l0, if_neg (fun h => c (mn_le.1 h))]), ⟨2, fun k hk => ?_⟩⟩
      obtain ⟨k, rfl⟩ : ∃ q, k = q + 2 := ⟨k - 2, by omega⟩
      exact ref_end _ _ _ _ _ c k
theorem both_count (n most : Int) (h1 : n ≤ 9223372036854775807) (h2 : most ≤ 9223372036854775807) : ∃ c : Int × Bool, Ev (fun k => deviation_Count.f k n most) c ∧ Ev (fun k => storagebarterref30_Count.f k n most) c := by
  unfold deviation_Count.f storagebarterref30_Count.f
  by_cases c0 : n < 0
  · exact ⟨(0, false), ev_pos c0 (ev_up (ev_some _) (fun k => by rw [deviation_Count.j0, if_pos rfl])), ev_pos c0 (ev_up (ev_some _) (fun k => by rw [storagebarterref30_Count.j0, if_pos rfl]))⟩
  by_cases c1 : most < 0
  · refine ⟨(0, false), ev_neg c0 ?_, ev_neg c0 ?_⟩
    · rw [decide_eq_true c1]; exact ev_up (ev_some _) (fun k => by rw [deviation_Count.j0, if_pos rfl])
    · rw [decide_eq_true c1]; exact ev_up (ev_some _) (fun k => by rw [storagebarterref30_Count.j0, if_pos rfl])
  rw [decide_eq_false c1]
  have hg : ∀ {c : Int × Bool}, Ev (fun k => deviation_Count.l0 k n most 1 1 1) c → Ev (fun k => storagebarterref30_Count.l0 k n most 0 1 0) c → ∃ c : Int × Bool, Ev (fun k => if n < 0 then deviation_Count.j0 k n most true else deviation_Count.j0 k n most false) c ∧ Ev (fun k => if n < 0 then storagebarterref30_Count.j0 k n most true else storagebarterref30_Count.j0 k n most false) c := fun {c} a b =>
    ⟨c, ev_neg c0 (ev_up a (fun k => by rw [deviation_Count.j0, if_neg (by decide)])), ev_neg c0 (ev_up b (fun k => by rw [storagebarterref30_Count.j0, if_neg (by decide)]))⟩
  have w01 : wrap64 (0 + 1) = 1 := w64 (by omega) (by omega)
  have hr : ∀ k (P : Int), storagebarterref30_Count.l0 (k + 2) n most 0 P 0 = storagebarterref30_Count.j2 (k + 1) n most 0 P 0 true := fun k P => by
    rw [storagebarterref30_Count.l0, if_pos (by omega), decide_eq_true (by omega)]
  by_cases cm : most = 0
  · subst cm
    refine hg (c := (1, true)) (ev_up (ev_some _) (fun k => by rw [deviation_Count.l0, if_neg (fun h => by have := (mn_le.1 h).2; omega)])) ⟨4, fun k hk => ?_⟩
    obtain ⟨k, rfl⟩ : ∃ q, k = q + 4 := ⟨k - 4, by omega⟩
    dsimp only
    rw [hr, storagebarterref30_Count.j2, if_pos rfl, w01, if_neg (by omega), if_neg (by omega), if_neg (by omega), storagebarterref30_Count.l0, if_neg (by omega), storagebarterref30_Count.j2, if_neg (by decide)]
  by_cases cn : n = 0
  · subst cn
    refine hg (c := (1, true)) (ev_up (ev_some _) (fun k => by rw [deviation_Count.l0, if_neg (fun h => by have := (mn_le.1 h).1; omega)])) ⟨4, fun k hk => ?_⟩
    obtain ⟨k, rfl⟩ : ∃ q, k = q + 4 := ⟨k - 4, by omega⟩
    dsimp only
    rw [hr, storagebarterref30_Count.j2, if_pos rfl, w01, if_neg (by omega), if_pos (by omega), if_neg (by omega), if_neg (by omega), storagebarterref30_Count.l0, if_pos (by omega), decide_eq_false (by omega), storagebarterref30_Count.j2, if_neg (by decide)]
  by_cases cb : n > 16384
  · refine hg (c := (0, false)) (ev_up (ev_some _) (fun k => by rw [deviation_Count.l0, if_pos (mn_le.2 ⟨by omega, by omega⟩), if_pos cb])) ⟨2, fun k hk => ?_⟩
    obtain ⟨k, rfl⟩ : ∃ q, k = q + 2 := ⟨k - 2, by omega⟩
    dsimp only
    rw [hr, storagebarterref30_Count.j2, if_pos rfl, w01, if_neg (by omega), if_pos (by omega), if_pos (by omega), if_pos cb]
  · obtain ⟨m, rfl⟩ : ∃ m : Nat, (m : Int) = n := ⟨n.toNat, by omega⟩
    have t0 : tt m 0 = 1 := by cases m <;> rfl
    have t1 : tt m 1 = m * 3 := by
      have := tt_ref m 0
      rw [t0] at this
      simp at this
      omega
    obtain ⟨x, x1, ⟨K, x2⟩⟩ := count_claim m most (by omega) (m + 1) 0 1 1 (tt m 1) (by omega) (by omega) (by omega) t0.symm rfl (by omega)
    simp only [Int.natCast_zero, Int.zero_add] at x1 x2
    refine hg (c := x) x1 ⟨K + 2, fun k hk => ?_⟩
    obtain ⟨k, rfl⟩ : ∃ q, k = q + 2 := ⟨k - 2, by omega⟩
    dsimp only at x2 ⊢
    rw [hr, storagebarterref30_Count.j2, if_pos rfl, w01, if_neg (by omega), if_pos (by omega), if_pos (by omega), if_neg cb, if_neg (by omega)]
    have e1 : wrap64 (wrap64 (Int.tdiv (wrap64 (1 * wrap64 ((m : Int) - 0))) 1) * 3) = tt m 1 := by
      rw [Int.sub_zero, w64 (n := (m : Int)) (by omega) (by omega), Int.one_mul, w64 (n := (m : Int)) (by omega) (by omega), Int.tdiv_one, w64 (n := (m : Int)) (by omega) (by omega), w64 (by omega) (by omega), t1]
    rw [e1]
    exact x2 k (by omega)

/-! what a table says -/
def howL (d : Int) : List S51 → Int
  | [] => 0
  | a :: t => if a.f0 = d then a.f1 else howL d t
theorem how_l0 (acts : List S51) (hl : acts.length ≤ 100000) (d : Int) : ∀ (t : List S51) (i : Int), 0 ≤ i → i ≤ acts.length → acts.drop i.toNat = t → Ev (fun k => deviation_How.l0 k d acts (acts.length : Int) i) (howL d t)
  | [], i, h0, hi, hd => by
    have := drop_len h0 hi hd
    exact ev_up (ev_some 0) (fun k => by rw [deviation_How.l0, if_neg (by simp at this; omega)])
  | e :: t, i, h0, hi, hd => by
    have hl2 := drop_len h0 hi hd
    have hr : rd_T51 acts i = e := getD_at hd
    rw [List.length_cons] at hl2
    push_cast at hl2
    rw [howL]
    by_cases c : e.f0 = d
    · rw [if_pos c]
      exact ev_up (ev_some e.f1) (fun k => by rw [deviation_How.l0, if_pos (by omega), if_pos h0, if_pos (by omega), hr, if_pos c])
    · rw [if_neg c]
      exact ev_up (how_l0 acts hl d t (i + 1) (by omega) (by omega) (drop_next h0 hd)) (fun k => by rw [deviation_How.l0, if_pos (by omega), if_pos h0, if_pos (by omega), hr, if_neg c, w64 (n := i + 1) (by omega) (by omega)])
theorem how_ok (p : Int) (acts : List S51) (hl : acts.length ≤ 100000) (d : Int) : Ev (fun k => deviation_How.f k p acts d) (howL d acts) := how_l0 acts hl d acts 0 (Int.le_refl _) (by omega) rfl

theorem rhow_l0 (p : Int) (acts : List S51) (hl : acts.length ≤ 100000) (d : Int) : ∀ (t : List S51) (i : Int), 0 ≤ i → i ≤ acts.length → acts.drop i.toNat = t → Ev (fun k => storagebarterref30_How.l0 k d i p acts) (howL d t)
  | [], i, h0, hi, hd => by
    have := drop_len h0 hi hd
    exact ev_up (ev_some 0) (fun k => by rw [storagebarterref30_How.l0, if_neg (by simp at this; omega)])
  | e :: t, i, h0, hi, hd => by
    have hl2 := drop_len h0 hi hd
    have hr : rd_T51 acts i = e := getD_at hd
    rw [List.length_cons] at hl2
    push_cast at hl2
    rw [howL]
    by_cases c : e.f0 = d
    · rw [if_pos c]
      exact ev_up (ev_some e.f1) (fun k => by rw [storagebarterref30_How.l0, if_pos (by omega), if_pos h0, hr, if_pos c])
    · rw [if_neg c]
      exact ev_up (rhow_l0 p acts hl d t (i + 1) (by omega) (by omega) (drop_next h0 hd)) (fun k => by rw [storagebarterref30_How.l0, if_pos (by omega), if_pos h0, hr, if_neg c, w64 (n := i + 1) (by omega) (by omega)])
theorem rhow_ok (p : Int) (acts : List S51) (hl : acts.length ≤ 100000) (d : Int) : Ev (fun k => storagebarterref30_How.f k p acts d) (howL d acts) := rhow_l0 p acts hl d acts 0 (Int.le_refl _) (by omega) rfl
theorem rsame_l0 (p q : Int) (A B : List S51) (hl : A.length ≤ 100000) (hAB : B.length = A.length) : ∀ (s t : List S51) (i : Int), 0 ≤ i → i ≤ A.length → A.drop i.toNat = s → B.drop i.toNat = t → Ev (fun k => storagebarterref30_Same.l0 k i p A q B) (decide (s = t))
  | [], t, i, h0, hi, hs, ht => by
    have h1 := drop_len h0 hi hs
    have h2 := drop_len h0 (by omega) ht
    obtain rfl : t = [] := List.eq_nil_of_length_eq_zero (by simp at h1; omega)
    exact ev_up (ev_some _) (fun k => by rw [storagebarterref30_Same.l0, if_neg (by simp at h1; omega)]; rfl)
  | a :: s, [], i, h0, hi, hs, ht => by
    have h1 := drop_len h0 hi hs
    have h2 := drop_len h0 (by omega) ht
    simp at h1 h2
    omega
  | a :: s, b :: t, i, h0, hi, hs, ht => by
    have h1 := drop_len h0 hi hs
    rw [List.length_cons] at h1
    push_cast at h1
    have hr : rd_T51 A i = a := getD_at hs
    have hr' : rd_T51 B i = b := getD_at ht
    have ih := rsame_l0 p q A B hl hAB s t (i + 1) (by omega) (by omega) (drop_next h0 hs) (drop_next h0 ht)
    by_cases c : a = b
    · subst c
      have e : decide (a :: s = a :: t) = decide (s = t) := by simp
      rw [e]
      exact ev_up ih (fun k => by rw [storagebarterref30_Same.l0, if_pos (by omega), if_pos h0, if_pos (by omega), hr, hr', if_neg (by simp), w64 (n := i + 1) (by omega) (by omega)])
    · have e : decide (a :: s = b :: t) = false := decide_eq_false (fun h => c (List.cons.inj h).1)
      rw [e]
      have hne : (!(a.f0 == b.f0) || (!(a.f1 == b.f1))) = true := by
        by_cases c0 : a.f0 = b.f0
        · by_cases c1 : a.f1 = b.f1
          · exact absurd (by cases a; cases b; simp at c0 c1; rw [c0, c1]) c
          · simp [c1]
        · simp [c0]
      exact ev_up (ev_some false) (fun k => by rw [storagebarterref30_Same.l0, if_pos (by omega), if_pos h0, if_pos (by omega), hr, hr', if_pos hne])
theorem rsame_ok (p q : Int) (A B : List S51) (hl : A.length ≤ 100000) : Ev (fun k => storagebarterref30_Same.f k p A q B) (decide (p = q ∧ A = B)) := by
  unfold storagebarterref30_Same.f
  by_cases c : p = q
  · refine ev_pos c ?_
    by_cases d : A.length = B.length
    · have h := rsame_l0 p q A B hl d.symm A B 0 (Int.le_refl _) (by omega) rfl rfl
      rw [show decide (p = q ∧ A = B) = decide (A = B) by simp [c]]
      exact ev_up h (fun k => by rw [storagebarterref30_Same.j0, if_neg (by simp; omega)])
    · rw [show decide (p = q ∧ A = B) = false from decide_eq_false (fun h => d (by rw [h.2]))]
      exact ev_up (ev_some false) (fun k => by rw [storagebarterref30_Same.j0, if_pos (by simp; omega)])
  · rw [show decide (p = q ∧ A = B) = false from decide_eq_false (fun h => c h.1)]
    exact ev_neg c (ev_up (ev_some false) (fun k => by rw [storagebarterref30_Same.j0, if_pos rfl]))
/-! ### the law -/
theorem ds_l3 (ks : List S28) (hk : ∀ x ∈ ks, x.f0 ≤ 9223372036854775807 ∧ x.f1 ≤ 9223372036854775807) (hl : ks.length ≤ 100) : ∀ (t : List S28) (i : Int), 0 ≤ i → i ≤ ks.length → ks.drop i.toNat = t → Ev (fun k => storagebarterlaw30_DeviationSteps.l3 k ks (ks.length : Int) i) true
  | [], i, h0, hi, hd => by
    have h1 := drop_len h0 hi hd
    exact ev_up (ev_some true) (fun k => by rw [storagebarterlaw30_DeviationSteps.l3, if_neg (by simp at h1; omega)])
  | e :: t, i, h0, hi, hd => by
    have h1 := drop_len h0 hi hd
    rw [List.length_cons] at h1
    push_cast at h1
    have hr : rd_T28 ks i = e := getD_at hd
    have he := hk e (List.mem_of_mem_drop (by rw [hd]; exact List.mem_cons_self ..))
    obtain ⟨⟨a, b⟩, ⟨K1, e1⟩, ⟨K2, e2⟩⟩ := both_count e.f0 e.f1 he.1 he.2
    obtain ⟨K3, e3⟩ := ds_l3 ks hk hl t (i + 1) (by omega) (by omega) (drop_next h0 hd)
    refine ⟨K1 + K2 + K3 + 1, fun k hk => ?_⟩
    obtain ⟨k, rfl, hk⟩ := k_succ hk
    dsimp only at e1 e2 e3 ⊢
    rw [storagebarterlaw30_DeviationSteps.l3, if_pos (by omega), if_pos h0, if_pos (by omega), hr, e1 k (by omega)]
    simp only [Option.bind_some]
    rw [e2 k (by omega)]
    simp only [Option.bind_some]
    rw [if_pos trivial, if_neg (by simp), w64 (n := i + 1) (by omega) (by omega)]
    exact e3 k (by omega)
theorem ds_l2 (x3 x16 : List S56) (x4 x5 x6 x88 x89 bab baj bag bad : Int) (x87 : List S39) (bac bah bae : List S51) (baf : List Int) (ys : List Int) (hys : ys.length ≤ 10) (hb : bae.length ≤ 1000) (h : Ev (fun k => storagebarterlaw30_DeviationSteps.l0 k x3 x4 x5 x6 x16 x87 x88 (wrap64 (x89 + 1)) bab bac baf baj bag bah) true) : ∀ (t : List Int) (i : Int), 0 ≤ i → i ≤ ys.length → ys.drop i.toNat = t → Ev (fun k => storagebarterlaw30_DeviationSteps.l2 k x3 x4 x5 x6 x16 x87 x88 x89 ys (ys.length : Int) i bab bac baf baj bag bah bad bae) true
  | [], i, h0, hi, hd => by
    have h1 := drop_len h0 hi hd
    obtain ⟨K1, e1⟩ := same_ok bad bab bae bac (by omega)
    obtain ⟨K2, e2⟩ := rsame_ok bad bab bae bac (by omega)
    obtain ⟨K3, e3⟩ := same_ok bad bag bae bah (by omega)
    obtain ⟨K4, e4⟩ := rsame_ok bad bag bae bah (by omega)
    obtain ⟨K5, e5⟩ := h
    refine ⟨K1 + K2 + K3 + K4 + K5 + 1, fun k hk => ?_⟩
    obtain ⟨k, rfl, hk⟩ := k_succ hk
    dsimp only at e1 e2 e3 e4 e5 ⊢
    rw [storagebarterlaw30_DeviationSteps.l2, if_neg (by simp at h1; omega), e1 k (by omega)]
    simp only [Option.bind_some]
    rw [e2 k (by omega)]
    simp only [Option.bind_some]
    rw [if_neg (by simp), e3 k (by omega)]
    simp only [Option.bind_some]
    rw [e4 k (by omega)]
    simp only [Option.bind_some]
    rw [if_neg (by simp)]
    exact e5 k (by omega)
  | e :: t, i, h0, hi, hd => by
    have h1 := drop_len h0 hi hd
    rw [List.length_cons] at h1
    push_cast at h1
    obtain ⟨K1, e1⟩ := how_ok bad bae (by omega) (rd ys i)
    obtain ⟨K2, e2⟩ := rhow_ok bad bae (by omega) (rd ys i)
    obtain ⟨K3, e3⟩ := ds_l2 x3 x16 x4 x5 x6 x88 x89 bab baj bag bad x87 bac bah bae baf ys hys hb h t (i + 1) (by omega) (by omega) (drop_next h0 hd)
    refine ⟨K1 + K2 + K3 + 1, fun k hk => ?_⟩
    obtain ⟨k, rfl, hk⟩ := k_succ hk
    dsimp only at e1 e2 e3 ⊢
    rw [storagebarterlaw30_DeviationSteps.l2, if_pos (by omega), if_pos h0, if_pos (by omega), e1 k (by omega)]
    simp only [Option.bind_some]
    rw [e2 k (by omega)]
    simp only [Option.bind_some]
    rw [if_pos trivial, w64 (n := i + 1) (by omega) (by omega)]
    exact e3 k (by omega)
theorem valid_any (L : List S56) (p : Int) (acts : List S51) (hl : acts.length ≤ 1000) : ∃ b, deviation_Valid.f L p acts = some b ∧ storagebarterref30_Valid.f L p acts = some b := by
  unfold storagebarterref30_Valid.f deviation_Valid.f
  rw [if_pos (by omega)]
  exact ⟨_, rfl, rfl⟩
theorem twist_any (L : List S56) (p : Int) (acts : List S51) (hl : acts.length ≤ 1000) : ∃ b, deviation_Twists.f L p acts = some b ∧ storagebarterref30_Twists.f L p acts = some b := by
  unfold storagebarterref30_Twists.f deviation_Twists.f
  rw [if_pos (by omega)]
  exact ⟨_, rfl, rfl⟩
theorem ds_l1 (x3 x16 : List S56) (x4 x5 x6 x88 x89 bab baj bag bad : Int) (x87 : List S39) (bac bah bae : List S51) {baf : List Int} (hs : Seeds baf) (p0 : 0 ≤ baj) (p1 : baj ≤ baf.length) (ys : List (List S56)) (hys : ys.length ≤ 10) (hb : bae.length ≤ 1000) (h : ∀ baj : Int, 0 ≤ baj → baj ≤ baf.length → Ev (fun k => storagebarterlaw30_DeviationSteps.l0 k x3 x4 x5 x6 x16 x87 x88 (wrap64 (x89 + 1)) bab bac baf baj bag bah) true) : ∀ (t : List (List S56)) (i : Int), 0 ≤ i → i ≤ ys.length → ys.drop i.toNat = t → Ev (fun k => storagebarterlaw30_DeviationSteps.l1 k x3 x4 x5 x6 x16 x87 x88 x89 ys (ys.length : Int) i bab bac baf baj bag bah bad bae) true
  | [], i, h0, hi, hd => by
    have h1 := drop_len h0 hi hd
    obtain ⟨r, q, e, r0, r1, q0, q1⟩ := pick_ok hs p0 p1 (n := 20) (by omega)
    obtain ⟨K1, e1⟩ := ds_l2 x3 x16 x4 x5 x6 x88 x89 bab q bag bad x87 bac bah bae baf [x4, r] (by simp) hb (h q q0 q1) [x4, r] 0 (Int.le_refl _) (by simp) rfl
    refine ⟨K1 + 1, fun k hk => ?_⟩
    obtain ⟨k, rfl, hk⟩ := k_succ hk
    dsimp only at e1 ⊢
    rw [storagebarterlaw30_DeviationSteps.l1, if_neg (by simp at h1; omega), e]
    simp only [Option.bind_some]
    exact e1 k (by omega)
  | e :: t, i, h0, hi, hd => by
    have h1 := drop_len h0 hi hd
    rw [List.length_cons] at h1
    push_cast at h1
    obtain ⟨b, v1, v2⟩ := valid_any (rd_L4 ys i) bad bae hb
    obtain ⟨b', v3, v4⟩ := twist_any (rd_L4 ys i) bad bae hb
    refine ev_up (ds_l1 x3 x16 x4 x5 x6 x88 x89 bab baj bag bad x87 bac bah bae hs p0 p1 ys hys hb h t (i + 1) (by omega) (by omega) (drop_next h0 hd)) (fun k => ?_)
    rw [storagebarterlaw30_DeviationSteps.l1, if_pos (by omega), if_pos h0, if_pos (by omega), v1, v2]
    simp only [Option.bind_some]
    rw [if_neg (by simp), v3, v4]
    simp only [Option.bind_some]
    rw [if_neg (by simp), w64 (n := i + 1) (by omega) (by omega)]
theorem ds_l0 (x3 x16 : List S56) (x4 x5 x6 bab bag : Int) (h5 : x5 ≤ 9223372036854775807) (h6 : x6 ≤ 9223372036854775807) (x87 : List S39) (hx : ∀ x ∈ x87, x.f1.length ≤ 1000) (hl : x87.length ≤ 10) (bac bah : List S51) {baf : List Int} (hs : Seeds baf) : ∀ (t : List S39) (i baj : Int), 0 ≤ i → i ≤ x87.length → x87.drop i.toNat = t → 0 ≤ baj → baj ≤ baf.length → Ev (fun k => storagebarterlaw30_DeviationSteps.l0 k x3 x4 x5 x6 x16 x87 (x87.length : Int) i bab bac baf baj bag bah) true
  | [], i, baj, h0, hi, hd, p0, p1 => by
    have h1 := drop_len h0 hi hd
    obtain ⟨r, q, e, r0, r1, q0, q1⟩ := pick_ok hs p0 p1 (n := 30) (by omega)
    obtain ⟨r', q', e', r0', r1', q0', q1'⟩ := pick_ok hs q0 q1 (n := 6) (by omega)
    obtain ⟨K1, e1⟩ := ds_l3 [⟨x5, x6⟩, ⟨r, r'⟩, ⟨x5, 0⟩, ⟨x5, 1⟩, ⟨5461, 1⟩, ⟨5462, 1⟩, ⟨6, x6⟩, ⟨7, 7⟩, ⟨8, 7⟩] (fun x hx => by
      simp only [List.mem_cons, List.not_mem_nil, or_false] at hx
      rcases hx with rfl | rfl | rfl | rfl | rfl | rfl | rfl | rfl | rfl <;> exact ⟨by simp only; omega, by simp only; omega⟩) (by simp) _ 0 (Int.le_refl _) (by simp) rfl
    refine ⟨K1 + 1, fun k hk => ?_⟩
    obtain ⟨k, rfl, hk⟩ := k_succ hk
    dsimp only at e1 ⊢
    rw [storagebarterlaw30_DeviationSteps.l0, if_neg (by simp at h1; omega), e]
    simp only [Option.bind_some]
    rw [e']
    simp only [Option.bind_some]
    exact e1 k (by omega)
  | e :: t, i, baj, h0, hi, hd, p0, p1 => by
    have h1 := drop_len h0 hi hd
    rw [List.length_cons] at h1
    push_cast at h1
    have hr : rd_T39 x87 i = e := getD_at hd
    have he := hx e (List.mem_of_mem_drop (by rw [hd]; exact List.mem_cons_self ..))
    have ih : ∀ baj : Int, 0 ≤ baj → baj ≤ baf.length → Ev (fun k => storagebarterlaw30_DeviationSteps.l0 k x3 x4 x5 x6 x16 x87 (x87.length : Int) (wrap64 (i + 1)) bab bac baf baj bag bah) true := fun baj g0 g1 => by
      rw [w64 (n := i + 1) (by omega) (by omega)]
      exact ds_l0 x3 x16 x4 x5 x6 bab bag h5 h6 x87 hx hl bac bah hs t (i + 1) baj (by omega) (by omega) (drop_next h0 hd) g0 g1
    refine ev_up (ds_l1 x3 x16 x4 x5 x6 (x87.length : Int) i bab baj bag e.f0 x87 bac bah e.f1 hs p0 p1 [x16, x3] (by simp) he ih _ 0 (Int.le_refl _) (by simp) rfl) (fun k => ?_)
    rw [storagebarterlaw30_DeviationSteps.l0, if_pos (by omega), if_pos h0, if_pos (by omega), hr]
    rfl
theorem ds_j1 (x3 x16 : List S56) (x4 x5 x6 r0 o0 v0 w0 baj : Int) (h5 : x5 ≤ 9223372036854775807) (h6 : x6 ≤ 9223372036854775807) (r1 o1 v1 w1 : List S51) (g1 : r1.length ≤ 1000) (g2 : v1.length ≤ 1000) (g3 : w1.length ≤ 1000) {baf : List Int} (hs : Seeds baf) (p0 : 0 ≤ baj) (p1 : baj ≤ baf.length) : Ev (fun k => storagebarterlaw30_DeviationSteps.j1 k x3 x4 x5 x6 x16 r0 r1 o0 o1 baf baj v0 v1 w0 w1) true := by
  refine ev_up (ds_l0 x3 x16 x4 x5 x6 o0 v0 h5 h6 [⟨r0, r1⟩, ⟨v0, v1⟩, ⟨w0, w1⟩] (fun x hx => by
    simp only [List.mem_cons, List.not_mem_nil, or_false] at hx
    rcases hx with rfl | rfl | rfl
    · exact g1
    · exact g2
    · exact g3) (by simp) o1 v1 hs _ 0 baj (Int.le_refl _) (by simp) rfl p0 p1) (fun k => ?_)
  rw [storagebarterlaw30_DeviationSteps.j1]
  rfl
theorem c30_sane : Ev (fun k => storagebarterlaw30_sane.f k) true := ev_of storagebarterlaw30_sane.mono ⟨30, by kernel_rfl⟩
theorem ds_wf {n : Int} (h : (Lit.int .i64 n).wf = true) : n ≤ 9223372036854775807 := by
  have m0 : IntKind.i64.min = -9223372036854775808 := rfl
  have m1 : IntKind.i64.max = 9223372036854775807 := rfl
  simp [Lit.wf] at h
  omega
theorem ds_j0 (l0 : List Int) (hw : ∀ x ∈ l0, (Lit.int .u8 x).wf = true) (l3 : List S56) (a4 a5 a6 r0 o0 : Int) (h5 : a5 ≤ 9223372036854775807) (h6 : a6 ≤ 9223372036854775807) (r1 o1 : List S51) (g1 : r1.length ≤ 1000) : ∀ b : Bool, Ev (fun k => storagebarterlaw30_DeviationSteps.j0 k l0 l3 a4 a5 a6 b r0 r1 o0 o1) true
  | true => ev_up (ev_some true) (fun k => by rw [storagebarterlaw30_DeviationSteps.j0, if_pos rfl])
  | false => by
    obtain ⟨s, hn, hs⟩ := new_ok hw
    obtain ⟨L, q, ⟨K1, hp⟩, hL, q0, q1⟩ := c30_lawplan hs (p := 0) (Int.le_refl _) (by omega)
    obtain ⟨r, m, e, r0', r1', m0, m1⟩ := pick_ok hs q0 q1 (n := 3) (by omega)
    obtain ⟨⟨p, acts, q'⟩, ⟨K2, hd⟩, rfl, hA, hl, k0, k1, ho, hsub⟩ := c30_dev L (by omega) hs (1 + r) 4 (by omega) (by omega) m0 m1
    dsimp only at hp hd hA hl k0 k1
    by_cases c : (acts.length : Int) > 0
    · obtain ⟨i, m', e', i0, i1, n0, n1⟩ := pick_ok hs k0 k1 (n := acts.length) (by omega)
      obtain ⟨d, m'', e'', d0, d1, n0', n1'⟩ := pick_ok hs n0 n1 (n := 3) (by omega)
      obtain ⟨K3, e3⟩ := ds_j1 l3 L a4 a5 a6 r0 o0 (1 + r) (1 + r) m'' h5 h6 r1 o1 acts (acts.set i.toNat ⟨wrap64 ((rd_T51 acts i).f0 + wrap64 (d - 1)), (rd_T51 acts i).f1⟩) g1 (by omega) (by simp; omega) hs n0' n1'
      refine ⟨K1 + K2 + K3 + 1, fun k hk => ?_⟩
      obtain ⟨k, rfl, hk⟩ := k_succ hk
      dsimp only at e3 ⊢
      rw [storagebarterlaw30_DeviationSteps.j0, if_neg (by decide), hn]
      simp only [Option.bind_some]
      rw [hp k (by omega)]
      simp only [Option.bind_some]
      rw [e]
      simp only [Option.bind_some]
      rw [w64 (n := 1 + r) (by omega) (by omega), hd k (by omega)]
      simp only [Option.bind_some, List.nil_append, List.length_nil]
      rw [if_pos (by omega), if_pos c, e']
      simp only [Option.bind_some]
      rw [if_pos i0, if_pos (by omega), e'']
      simp only [Option.bind_some]
      exact e3 k (by omega)
    · obtain ⟨K3, e3⟩ := ds_j1 l3 L a4 a5 a6 r0 o0 (1 + r) (1 + r) q' h5 h6 r1 o1 acts acts g1 (by omega) (by omega) hs k0 k1
      refine ⟨K1 + K2 + K3 + 1, fun k hk => ?_⟩
      obtain ⟨k, rfl, hk⟩ := k_succ hk
      dsimp only at e3 ⊢
      rw [storagebarterlaw30_DeviationSteps.j0, if_neg (by decide), hn]
      simp only [Option.bind_some]
      rw [hp k (by omega)]
      simp only [Option.bind_some]
      rw [e]
      simp only [Option.bind_some]
      rw [w64 (n := 1 + r) (by omega) (by omega), hd k (by omega)]
      simp only [Option.bind_some, List.nil_append, List.length_nil]
      rw [if_pos (by omega), if_neg c]
      exact e3 k (by omega)
theorem DeviationSteps : storagebarterlaw30_DeviationSteps.Pure := by
  intro l0 r0 r1 o0 o1 l3 a4 a5 a6 _ _ hw _ _ _ _ h5 h6
  have hj := ds_j0 l0 hw l3 a4 a5 a6 r0 o0 (ds_wf h5) (ds_wf h6) r1 o1
  refine ev_ex ?_
  unfold storagebarterlaw30_DeviationSteps.f
  refine ev_bind c30_sane ?_
  refine ev_pos rfl ?_
  have ht : Ev (fun k => storagebarterlaw30_DeviationSteps.j0 k l0 l3 a4 a5 a6 true r0 r1 o0 o1) true := ev_up (ev_some true) (fun k => by rw [storagebarterlaw30_DeviationSteps.j0, if_pos rfl])
  by_cases c1 : (r1.length : Int) > 10
  · exact ev_pos c1 ht
  refine ev_neg c1 ?_
  by_cases c2 : (o1.length : Int) > 10
  · exact ev_pos c2 ht
  exact ev_neg c2 (hj (by omega) _)

end Go.Proofs.YtdflpnfceajomaaDoor.Pure
