/- The law DeviationLess answers true for every input: what its printed functions compute, in plain Lean. -/
import Derived.Test.YtdflpnfceajomaaDoorPDeviationLessx9
set_option linter.unusedVariables false
set_option linter.unusedSimpArgs false
set_option maxRecDepth 100000
namespace Go.Proofs.YtdflpnfceajomaaDoor.Pure
open Go.RowKit Go.Proofs.YtdflpnfceajomaaDoor.PDeviationLess Go.Proofs.YtdflpnfceajomaaDoorW.PrintWords Go.Proofs.YtdflpnfceajomaaDoorW.PrintMore Go.Proofs.YtdflpnfceajomaaDoorW.PrintLast

theorem at_rounds {α : Type} {g : Nat → Option α} (h : ∀ k, LeO (g k) (g (k + 1))) {k k' : Nat} (hk : k ≤ k') {r : α} (hr : g k = some r) : g k' = some r := by
  induction hk with
  | refl => exact hr
  | step _ ih => exact h _ _ ih

theorem w64 {n : Int} (h0 : 0 ≤ n) (h1 : n < 9223372036854775808) : wrap64 n = n := by unfold wrap64; omega
theorem drop_next {α : Type} {l : List α} {i : Int} {e : α} {t : List α} (h0 : 0 ≤ i) (h : l.drop i.toNat = e :: t) : l.drop (i + 1).toNat = t := by
  have e1 : (i + 1).toNat = i.toNat + 1 := by omega
  rw [e1, ← List.drop_drop, h]; rfl
theorem drop_len {α : Type} {l : List α} {i : Int} {t : List α} (h0 : 0 ≤ i) (hi : i ≤ l.length) (h : l.drop i.toNat = t) : (l.length : Int) = i + t.length := by
  rw [← h, List.length_drop]; omega
theorem getD_at {α : Type} {d : α} {l : List α} {i : Int} {e : α} {t : List α} (h : l.drop i.toNat = e :: t) : l.getD i.toNat d = e := by
  have : (l.drop i.toNat)[0]? = some e := by rw [h]; rfl
  rw [List.getElem?_drop] at this
  simp [List.getD_eq_getElem?_getD] at this ⊢
  rw [this]; rfl
/-! the dice: seeds are bytes, what is picked lies in the range, the place stays in the list -/
def Seeds (l : List Int) : Prop := l.length ≤ 300 ∧ ∀ x ∈ l, 0 ≤ x ∧ x ≤ 255
theorem new_ok {l : List Int} (h : ∀ x ∈ l, (Lit.int .u8 x).wf = true) : ∃ s, storagebarterplay_New.f l = some (s, 0) ∧ Seeds s := by
  have h' : ∀ x ∈ l, 0 ≤ x ∧ x ≤ 255 := fun x hx => by
    have := h x hx
    simp [Lit.wf, IntKind.min, IntKind.max, IntKind.signed, IntKind.bits] at this; omega
  unfold storagebarterplay_New.f
  by_cases q : (l.length : Int) > 300
  · rw [if_pos q, if_pos (by omega)]
    exact ⟨_, rfl, by rw [List.length_take]; omega, fun x hx => h' x (List.mem_of_mem_take hx)⟩
  · rw [if_neg q]
    exact ⟨_, rfl, by omega, h'⟩
theorem pick_ok {l : List Int} {p n : Int} (hs : Seeds l) (h0 : 0 ≤ p) (h1 : p ≤ l.length) (hn : 1 ≤ n) : ∃ r q, storagebarterplay_Dice_Pick.f l p n = some (r, q) ∧ 0 ≤ r ∧ r < n ∧ 0 ≤ q ∧ q ≤ l.length := by
  have hl := hs.1
  unfold storagebarterplay_Dice_Pick.f
  by_cases hp : p ≥ (l.length : Int)
  · rw [if_pos hp]; exact ⟨_, _, rfl, by omega, by omega, h0, h1⟩
  · rw [if_neg hp, w64 (n := p + 1) (by omega) (by omega), show p + 1 - 1 = p by omega, w64 (n := p) (by omega) (by omega), if_pos h0, if_pos (by omega), if_neg (by omega)]
    have hm : rd l p ∈ l := by
      have hi : p.toNat < l.length := by omega
      unfold rd
      rw [List.getD_eq_getElem?_getD, List.getElem?_eq_getElem hi]
      exact List.getElem_mem hi
    have hb := hs.2 _ hm
    rw [w64 (n := rd l p) (by omega) (by omega)]
    exact ⟨_, _, rfl, Int.tmod_nonneg _ hb.1, Int.tmod_lt_of_pos _ (by omega), by omega, by omega⟩

/-! ### from some number of rounds on -/
def Ev {α : Type} (g : Nat → Option α) (r : α) : Prop := ∃ K, ∀ k, K ≤ k → g k = some r
theorem k_succ {K k : Nat} (h : K + 1 ≤ k) : ∃ j, k = j + 1 ∧ K ≤ j := ⟨k - 1, by omega, by omega⟩
theorem ev_of {α : Type} {g : Nat → Option α} {r : α} (hm : ∀ k, LeO (g k) (g (k + 1))) (h : ∃ k, g k = some r) : Ev g r := by
  obtain ⟨k, hk⟩ := h
  exact ⟨k, fun k' hk' => at_rounds hm hk' hk⟩
theorem ev_ex {α : Type} {g : Nat → Option α} {r : α} (h : Ev g r) : ∃ k, g k = some r := by
  obtain ⟨K, h⟩ := h
  exact ⟨K, h K (Nat.le_refl _)⟩
theorem ev_step {α : Type} {g g' : Nat → Option α} {r : α} (h : Ev g' r) (e : ∀ k, 3 ≤ k → g (k + 1) = g' k) : Ev g r := by
  obtain ⟨K, h⟩ := h
  refine ⟨K + 4, fun k hk => ?_⟩
  obtain ⟨j, rfl, hj⟩ := k_succ hk
  rw [e j (by omega), h j (by omega)]
theorem ev_bind {α β : Type} {g : Nat → Option α} {x : α} {f : Nat → α → Option β} {r : β} (hg : Ev g x) (hf : Ev (fun k => f k x) r) : Ev (fun k => (g k).bind (f k)) r := by
  obtain ⟨K, h⟩ := hg
  obtain ⟨K', h'⟩ := hf
  exact ⟨K + K', fun k hk => by dsimp only; rw [h k (by omega)]; exact h' k (by omega)⟩
theorem ev_some {α : Type} (r : α) : Ev (fun _ => some r) r := ⟨0, fun _ _ => rfl⟩
theorem ev_const {α : Type} {x : Option α} {r : α} (h : x = some r) : Ev (fun _ => x) r := ⟨0, fun _ _ => h⟩
theorem ev_pos {α : Type} {c : Prop} [Decidable c] {a b : Nat → Option α} {r : α} (h : c) (he : Ev a r) : Ev (fun k => if c then a k else b k) r := by
  obtain ⟨K, hK⟩ := he
  exact ⟨K, fun k hk => by dsimp only; rw [if_pos h]; exact hK k hk⟩
theorem ev_neg {α : Type} {c : Prop} [Decidable c] {a b : Nat → Option α} {r : α} (h : ¬ c) (he : Ev b r) : Ev (fun k => if c then a k else b k) r := by
  obtain ⟨K, hK⟩ := he
  exact ⟨K, fun k hk => by dsimp only; rw [if_neg h]; exact hK k hk⟩
theorem ev_up {α : Type} {g g' : Nat → Option α} {r : α} (h : Ev g' r) (e : ∀ k, g (k + 1) = g' k) : Ev g r := ev_step h (fun k _ => e k)

/-! arrangements: what the dice make is valid -/
def checksOK (st te : Int) (cs : List Int) : Prop := (∀ x ∈ cs, st < x ∧ x ≤ st + te) ∧ cs.Pairwise (· < ·)
theorem arr_l0 {l : List Int} (hs : Seeds l) (a b st te : Int) (h1 : 0 ≤ st) (h2 : st ≤ 100) (h3 : te ≤ 100) : ∀ (n : Nat) (t p : Int) (cs : List Int), t + n = st + te + 1 → st < t → 0 ≤ p → p ≤ l.length → (∀ x ∈ cs, st < x ∧ x < t) → cs.Pairwise (· < ·) → cs.length + n ≤ 1000 → ∃ k cs' q, storagebarterplay_Dice_Arrangement.l0 k t l p a b st te cs = some (a, b, st, te, cs', q) ∧ checksOK st te cs' ∧ cs'.length ≤ 1000 ∧ 0 ≤ q ∧ q ≤ l.length
  | 0, t, p, cs, ht, hst, hp0, hp1, hc, hw, hn => by
    refine ⟨1, cs, p, ?_, ⟨fun x hx => by have := hc x hx; omega, hw⟩, by omega, hp0, hp1⟩
    rw [storagebarterplay_Dice_Arrangement.l0, w64 (n := st + te) (by omega) (by omega), if_neg (by omega)]
  | n + 1, t, p, cs, ht, hst, hp0, hp1, hc, hw, hn => by
    push_cast at ht
    obtain ⟨r, q, e, r0, r1, q0, q1⟩ := pick_ok hs hp0 hp1 (n := 3) (by omega)
    by_cases hz : r = 0
    · obtain ⟨k, cs', q', hk, hk2, hk3, hk4, hk5⟩ := arr_l0 hs a b st te h1 h2 h3 n (t + 1) q (cs ++ [t]) (by omega) (by omega) q0 q1 (fun x hx => by
        rcases List.mem_append.mp hx with h | h
        · have := hc x h; omega
        · rw [List.mem_singleton] at h; omega) (List.pairwise_append.mpr ⟨hw, List.pairwise_singleton _ _, fun x hx y hy => by rw [List.mem_singleton] at hy; have := hc x hx; omega⟩) (by simp; omega)
      refine ⟨k + 1, cs', q', ?_, hk2, hk3, hk4, hk5⟩
      rw [storagebarterplay_Dice_Arrangement.l0, w64 (n := st + te) (by omega) (by omega), if_pos (by omega), e]
      simp only [Option.bind_some]
      rw [if_pos hz, if_pos (by omega), w64 (n := t + 1) (by omega) (by omega), hk]
    · obtain ⟨k, cs', q', hk, hk2, hk3, hk4, hk5⟩ := arr_l0 hs a b st te h1 h2 h3 n (t + 1) q cs (by omega) (by omega) q0 q1 (fun x hx => by have := hc x hx; omega) hw (by omega)
      refine ⟨k + 1, cs', q', ?_, hk2, hk3, hk4, hk5⟩
      rw [storagebarterplay_Dice_Arrangement.l0, w64 (n := st + te) (by omega) (by omega), if_pos (by omega), e]
      simp only [Option.bind_some]
      rw [if_neg hz, w64 (n := t + 1) (by omega) (by omega), hk]
theorem arr_ok {l : List Int} (hs : Seeds l) {p n : Int} (hp0 : 0 ≤ p) (hp1 : p ≤ l.length) (hn : 2 ≤ n) (hn2 : n ≤ 16) : ∃ k a b st te cs q, storagebarterplay_Dice_Arrangement.f k l p n = some (a, b, st, te, cs, q) ∧ 1 ≤ a ∧ a ≤ n ∧ 1 ≤ b ∧ b ≤ n ∧ a ≠ b ∧ 0 ≤ st ∧ st ≤ 2 ∧ 1 ≤ te ∧ te ≤ 3 ∧ checksOK st te cs ∧ cs.length ≤ 1000 ∧ 0 ≤ q ∧ q ≤ l.length := by
  obtain ⟨r1, q1, e1, a1, b1, m1, n1⟩ := pick_ok hs hp0 hp1 (n := n) (by omega)
  obtain ⟨r2, q2, e2, a2, b2, m2, n2⟩ := pick_ok hs m1 n1 (n := 3) (by omega)
  obtain ⟨r3, q3, e3, a3, b3, m3, n3⟩ := pick_ok hs m2 n2 (n := 3) (by omega)
  obtain ⟨r4, q4, e4, a4, b4, m4, n4⟩ := pick_ok hs m3 n3 (n := n - 1) (by omega)
  have hsec : ∃ s, (1 + r1 + r4).tmod n = s ∧ 0 ≤ s ∧ s < n ∧ s ≠ r1 := by
    refine ⟨_, rfl, Int.tmod_nonneg _ (by omega), Int.tmod_lt_of_pos _ (by omega), ?_⟩
    rw [Int.tmod_eq_emod_of_nonneg (by omega)]
    rcases Int.lt_or_le (1 + r1 + r4) n with h | h
    · rw [Int.emod_eq_of_lt (by omega) h]; omega
    · rw [show (1 + r1 + r4) % n = 1 + r1 + r4 - n from by rw [← Int.sub_emod_right, Int.emod_eq_of_lt (by omega) (by omega)]]; omega
  obtain ⟨s, hs', s0, s1, s2⟩ := hsec
  obtain ⟨k, cs, q, hk, hk2, hk3, hk4, hk5⟩ := arr_l0 hs (1 + r1) (1 + s) r2 (1 + r3) a2 (by omega) (by omega) (1 + r3).toNat (r2 + 1) q4 [] (by omega) (by omega) m4 n4 (fun x hx => by cases hx) List.Pairwise.nil (by simp; omega)
  refine ⟨k, 1 + r1, 1 + s, r2, 1 + r3, cs, q, ?_, by omega, by omega, by omega, by omega, by omega, by omega, by omega, by omega, by omega, hk2, hk3, hk4, hk5⟩
  unfold storagebarterplay_Dice_Arrangement.f
  rw [e1]
  simp only [Option.bind_some]
  rw [e2]
  simp only [Option.bind_some]
  rw [e3]
  simp only [Option.bind_some]
  rw [w64 (n := n - 1) (by omega) (by omega), e4]
  simp only [Option.bind_some]
  rw [if_neg (by omega), w64 (n := r2 + 1) (by omega) (by omega), w64 (n := 1 + r1) (by omega) (by omega), w64 (n := 1 + r1 + r4) (by omega) (by omega), hs', w64 (n := 1 + s) (by omega) (by omega), w64 (n := 1 + r3) (by omega) (by omega), hk]

/-! plans exist, and are short -/
theorem c30_valid_l0 (a b st te : Int) (cs : List Int) (hl : cs.length ≤ 100000) : ∀ (t : List Int) (x i : Int), 0 ≤ i → i ≤ cs.length → cs.drop i.toNat = t → ∃ v, Ev (fun k => storagebarterref28_Valid.l0 k x i a b st te cs) v
  | [], x, i, h0, hi, hd => by
    have := drop_len h0 hi hd
    exact ⟨true, ev_up (ev_some true) (fun k => by rw [storagebarterref28_Valid.l0, if_neg (by simp at this; omega)])⟩
  | e :: t, x, i, h0, hi, hd => by
    have hl2 := drop_len h0 hi hd
    rw [List.length_cons] at hl2
    push_cast at hl2
    obtain ⟨v, hk⟩ := c30_valid_l0 a b st te cs hl t (rd cs i) (i + 1) (by omega) (by omega) (drop_next h0 hd)
    by_cases c1 : rd cs i ≤ x
    · exact ⟨false, ev_up (ev_some false) (fun k => by rw [storagebarterref28_Valid.l0, if_pos (by omega), if_pos h0, if_pos c1])⟩
    · by_cases c2 : rd cs i > wrap64 (st + te)
      · exact ⟨false, ev_up (ev_some false) (fun k => by rw [storagebarterref28_Valid.l0, if_pos (by omega), if_pos h0, if_neg c1, if_pos c2])⟩
      · exact ⟨v, ev_up hk (fun k => by rw [storagebarterref28_Valid.l0, if_pos (by omega), if_pos h0, if_neg c1, if_neg c2, w64 (n := i + 1) (by omega) (by omega)])⟩
theorem c30_valid_j0 (c : Bool) (a b st te : Int) (cs : List Int) (hl : cs.length ≤ 100000) : ∃ v, Ev (fun k => storagebarterref28_Valid.j0 k c a b st te cs) v := by
  cases c with
  | true => exact ⟨false, ev_up (ev_some false) (fun k => by rw [storagebarterref28_Valid.j0, if_pos rfl])⟩
  | false =>
    obtain ⟨v, hv⟩ := c30_valid_l0 a b st te cs hl cs st 0 (Int.le_refl _) (by omega) rfl
    exact ⟨v, ev_up hv (fun k => by rw [storagebarterref28_Valid.j0, if_neg (by decide)])⟩
theorem c30_valid (a b st te : Int) (cs : List Int) (hl : cs.length ≤ 100000) : ∃ v, Ev (fun k => storagebarterref28_Valid.f k a b st te cs) v := by
  unfold storagebarterref28_Valid.f
  split
  · exact c30_valid_j0 true a b st te cs hl
  split
  · exact c30_valid_j0 true a b st te cs hl
  split
  · exact c30_valid_j0 true a b st te cs hl
  split
  · exact c30_valid_j0 true a b st te cs hl
  split
  · exact c30_valid_j0 true a b st te cs hl
  split
  · exact c30_valid_j0 true a b st te cs hl
  split
  · exact c30_valid_j0 true a b st te cs hl
  split
  · exact c30_valid_j0 true a b st te cs hl
  split
  · exact c30_valid_j0 true a b st te cs hl
  exact c30_valid_j0 _ a b st te cs hl
theorem c30_has_l0 (cs : List Int) (hl : cs.length ≤ 100000) (x : Int) : ∀ (t : List Int) (i : Int), 0 ≤ i → i ≤ cs.length → cs.drop i.toNat = t → ∃ v, Ev (fun k => storagebarterref28_Has.l0 k cs x i) v
  | [], i, h0, hi, hd => by
    have := drop_len h0 hi hd
    exact ⟨false, ev_up (ev_some false) (fun k => by rw [storagebarterref28_Has.l0, if_neg (by simp at this; omega)])⟩
  | e :: t, i, h0, hi, hd => by
    have hl2 := drop_len h0 hi hd
    rw [List.length_cons] at hl2
    push_cast at hl2
    obtain ⟨v, hk⟩ := c30_has_l0 cs hl x t (i + 1) (by omega) (by omega) (drop_next h0 hd)
    by_cases c : rd cs i = x
    · exact ⟨true, ev_up (ev_some true) (fun k => by rw [storagebarterref28_Has.l0, if_pos (by omega), if_pos h0, if_pos c])⟩
    · exact ⟨v, ev_up hk (fun k => by rw [storagebarterref28_Has.l0, if_pos (by omega), if_pos h0, if_neg c, w64 (n := i + 1) (by omega) (by omega)])⟩
theorem c30_both (a b st te : Int) (cs : List Int) (t slot kd : Int) : ∃ L : List S56, storagebarterref28_both.f a b st te cs t slot kd = some L ∧ L.length = 2 := ⟨_, rfl, rfl⟩
theorem c30_plan_l1 (a b st te slot : Int) (cs : List Int) (settle : Bool) (hl : cs.length ≤ 100000) (h0 : 0 ≤ st) (h1 : 1 ≤ te) (h2 : st + te ≤ 16) : ∀ (n : Nat) (t : Int) (acc : List S56), t + n = st + te + 1 → st < t → acc.length + 4 * n ≤ 1000 → ∃ L : List S56, Ev (fun k => storagebarterref28_Plan.l1 k slot settle acc t a b st te cs) (L, 0) ∧ L.length ≤ acc.length + 4 * n + 2
  | 0, t, acc, ht, hs, hn => by
    cases settle
    · exact ⟨acc, ev_up (ev_some _) (fun k => by rw [storagebarterref28_Plan.l1, w64 (n := st + te) (by omega) (by omega), if_neg (by omega), if_neg (by decide)]), by omega⟩
    · obtain ⟨L, e, l⟩ := c30_both a b st te cs (wrap64 (wrap64 (st + te) + 1)) slot 7
      refine ⟨acc ++ L, ev_up (ev_some _) (fun k => ?_), by simp; omega⟩
      rw [storagebarterref28_Plan.l1, e, w64 (n := st + te) (by omega) (by omega), if_neg (by omega), if_pos rfl]
      simp only [Option.bind_some]
      rw [if_pos (by omega)]
  | n + 1, t, acc, ht, hs, hn => by
    push_cast at ht
    obtain ⟨v, e1⟩ := c30_has_l0 cs hl t cs 0 (Int.le_refl _) (by omega) rfl
    obtain ⟨L5, e5, l5⟩ := c30_both a b st te cs t slot 5
    obtain ⟨L6, e6, l6⟩ := c30_both a b st te cs t slot 6
    cases v with
    | true =>
      obtain ⟨L, hk, hL⟩ := c30_plan_l1 a b st te slot cs settle hl h0 h1 h2 n (t + 1) (acc ++ L5 ++ L6) (by omega) (by omega) (by simp; omega)
      refine ⟨L, ?_, by simp at hL; omega⟩
      obtain ⟨K1, f1⟩ := e1
      obtain ⟨K2, f2⟩ := hk
      refine ⟨K1 + K2 + 1, fun k hk => ?_⟩
      obtain ⟨k, rfl, hk⟩ := k_succ hk
      dsimp only at f1 f2 ⊢
      rw [storagebarterref28_Plan.l1, w64 (n := st + te) (by omega) (by omega), if_pos (by omega), e5]
      simp only [Option.bind_some]
      rw [if_pos (by omega), storagebarterref28_Has.f, f1 k (by omega)]
      simp only [Option.bind_some, if_true]
      rw [e6]
      simp only [Option.bind_some]
      rw [if_pos (by simp; omega), w64 (n := t + 1) (by omega) (by omega), f2 k (by omega)]
    | false =>
      obtain ⟨L, hk, hL⟩ := c30_plan_l1 a b st te slot cs settle hl h0 h1 h2 n (t + 1) (acc ++ L5) (by omega) (by omega) (by simp; omega)
      refine ⟨L, ?_, by simp at hL; omega⟩
      obtain ⟨K1, f1⟩ := e1
      obtain ⟨K2, f2⟩ := hk
      refine ⟨K1 + K2 + 1, fun k hk => ?_⟩
      obtain ⟨k, rfl, hk⟩ := k_succ hk
      dsimp only at f1 f2 ⊢
      rw [storagebarterref28_Plan.l1, w64 (n := st + te) (by omega) (by omega), if_pos (by omega), e5]
      simp only [Option.bind_some]
      rw [if_pos (by omega), storagebarterref28_Has.f, f1 k (by omega)]
      simp only [Option.bind_some]
      rw [if_neg (by decide), w64 (n := t + 1) (by omega) (by omega), f2 k (by omega)]
theorem c30_plan_l0 (a b st te slot : Int) (cs : List Int) (settle : Bool) (hl : cs.length ≤ 100000) (h0 : 0 ≤ st) (h1 : 1 ≤ te) (h2 : st + te ≤ 16) : ∀ (n : Nat) (kd : Int) (acc : List S56), kd + n = 5 → 1 ≤ kd → acc.length + 2 * n ≤ 100 → ∃ L : List S56, Ev (fun k => storagebarterref28_Plan.l0 k slot settle acc kd a b st te cs) (L, 0) ∧ L.length ≤ acc.length + 2 * n + 4 * te.toNat + 2
  | 0, kd, acc, hk, h1k, ha => by
    obtain ⟨L, e, l⟩ := c30_plan_l1 a b st te slot cs settle hl h0 h1 h2 te.toNat (st + 1) acc (by omega) (by omega) (by omega)
    exact ⟨L, ev_up e (fun k => by rw [storagebarterref28_Plan.l0, if_neg (by omega), w64 (n := st + 1) (by omega) (by omega)]), by omega⟩
  | n + 1, kd, acc, hk, h1k, ha => by
    obtain ⟨L5, e5, l5⟩ := c30_both a b st te cs st slot kd
    obtain ⟨L, e, l⟩ := c30_plan_l0 a b st te slot cs settle hl h0 h1 h2 n (kd + 1) (acc ++ L5) (by omega) (by omega) (by simp; omega)
    refine ⟨L, ev_up e (fun k => ?_), by simp at l; omega⟩
    rw [storagebarterref28_Plan.l0, if_pos (by omega), e5]
    simp only [Option.bind_some]
    rw [if_pos (by omega), w64 (n := kd + 1) (by omega) (by omega)]
theorem c30_plan (a b st te slot : Int) (cs : List Int) (settle : Bool) (hl : cs.length ≤ 100000) (h0 : 0 ≤ st) (h1 : 1 ≤ te) (h2 : st + te ≤ 16) (h3 : te ≤ 3) (s0 : 0 ≤ slot) (s1 : slot < 6) : ∃ (L : List S56) (e : Int), Ev (fun k => storagebarterref28_Plan.f k a b st te cs slot settle) (L, e) ∧ L.length ≤ 22 := by
  obtain ⟨v, K1, hv⟩ := c30_valid a b st te cs hl
  dsimp only at hv
  cases v with
  | false =>
    refine ⟨[], 44, ⟨K1 + 1, fun k hk => ?_⟩, by simp⟩
    obtain ⟨k, rfl, hk⟩ := k_succ hk
    dsimp only
    unfold storagebarterref28_Plan.f
    rw [if_neg (by omega), decide_eq_false (by omega), storagebarterref28_Plan.j0, if_neg (by decide), hv k (by omega)]
    rfl
  | true =>
    obtain ⟨L, ⟨K2, e⟩, l⟩ := c30_plan_l0 a b st te slot cs settle hl h0 h1 h2 4 1 [] (by omega) (by omega) (by simp)
    dsimp only at e
    refine ⟨L, 0, ⟨K1 + K2 + 1, fun k hk => ?_⟩, by simp at l; omega⟩
    obtain ⟨k, rfl, hk⟩ := k_succ hk
    dsimp only
    unfold storagebarterref28_Plan.f
    rw [if_neg (by omega), decide_eq_false (by omega), storagebarterref28_Plan.j0, if_neg (by decide), hv k (by omega)]
    simp only [Option.bind_some, if_true]
    exact e k (by omega)
/-! merging -/
theorem c30_l2 (ls : List (List S56)) (i j d0 d1 d2 d3 : Int) (P : List S56 → Prop) : ∀ (n : Nat) (A : List S56) (x : Int), x = n → n ≤ A.length → A.length ≤ 1000 → (∀ A' : List S56, A'.length = A.length + 1 → ∃ r, P r ∧ Ev (fun k => storagebarterref28_Merge.l1 k ls A' i (wrap64 (j + 1))) r) → ∃ r, P r ∧ Ev (fun k => storagebarterref28_Merge.l2 k ls A i j x d0 d1 d2 d3) r
  | 0, A, x, hx, hn, hl, h => by
    obtain rfl : x = 0 := hx
    obtain ⟨r, hp, he⟩ := h ([] ++ A.take 0 ++ [⟨d0, d1, d2, d3⟩] ++ A.drop 0) (by simp)
    refine ⟨r, hp, ev_up he (fun k => ?_)⟩
    rw [storagebarterref28_Merge.l2, if_neg (by omega), if_pos (by omega), if_pos (by omega)]
    simp only [Option.bind_some, Int.toNat_zero]
    rw [if_pos (by simp), if_pos (by simp), if_pos (by simp; omega)]
  | n + 1, A, x, hx, hn, hl, h => by
    push_cast at hx
    obtain ⟨r, hp, he⟩ := h ([] ++ A.take x.toNat ++ [⟨d0, d1, d2, d3⟩] ++ A.drop x.toNat) (by simp; omega)
    obtain ⟨r', hp', he'⟩ := c30_l2 ls i j d0 d1 d2 d3 P n A (x - 1) (by omega) (by omega) hl h
    have hst : ∀ k, (if 0 ≤ x then (if x ≤ (A.length : Int) then ((some (A.take (x : Int).toNat : List (S56))).bind fun y188 => (if ([] : List (S56)).length + y188.length < 4398046511104 then ((some (([] : List (S56)) ++ y188 : List (S56))).bind fun y192 => (if y192.length < 4398046511104 then ((some (y192 ++ [(⟨d0, d1, d2, d3⟩ : S56)] : List (S56))).bind fun y195 => ((some (A.drop (x : Int).toNat : List (S56))).bind fun y198 => (if y195.length + y198.length < 4398046511104 then (storagebarterref28_Merge.l1 k ls (y195 ++ y198) i (wrap64 (j + 1))) else (none)))) else (none))) else (none))) else (none)) else (none)) = storagebarterref28_Merge.l1 k ls ([] ++ A.take x.toNat ++ [⟨d0, d1, d2, d3⟩] ++ A.drop x.toNat) i (wrap64 (j + 1)) := fun k => by
      rw [if_pos (by omega), if_pos (by omega)]
      simp only [Option.bind_some]
      rw [if_pos (by simp; omega), if_pos (by simp; omega), if_pos (by simp; omega)]
    have hw : wrap64 (x - 1) = x - 1 := w64 (by omega) (by omega)
    by_cases c1 : (rd_T56 A (x - 1)).f0 > d0
    · refine ⟨r', hp', ev_up he' (fun k => ?_)⟩
      rw [storagebarterref28_Merge.l2, hw, if_pos (by omega), if_pos (by omega), if_pos (by omega), if_pos c1]
    · by_cases c2 : (rd_T56 A (x - 1)).f0 = d0
      · by_cases c3 : (rd_T56 A (x - 1)).f1 > d1
        · refine ⟨r', hp', ev_up he' (fun k => ?_)⟩
          rw [storagebarterref28_Merge.l2, hw, if_pos (by omega), if_pos (by omega), if_pos (by omega), if_neg c1, if_pos c2, if_pos c3]
        · refine ⟨r, hp, ev_up he (fun k => ?_)⟩
          rw [storagebarterref28_Merge.l2, hw, if_pos (by omega), if_pos (by omega), if_pos (by omega), if_neg c1, if_pos c2, if_neg c3]
          exact hst k
      · refine ⟨r, hp, ev_up he (fun k => ?_)⟩
        rw [storagebarterref28_Merge.l2, hw, if_pos (by omega), if_pos (by omega), if_pos (by omega), if_neg c1, if_neg c2]
        exact hst k
theorem c30_l1 (ls : List (List S56)) (i : Int) (hi0 : 0 ≤ i) (hi1 : i < ls.length) (P : List S56 → Prop) (hq : (rd_L4 ls i).length ≤ 100) (m : Nat) (hm : m ≤ 500) (h : ∀ A : List S56, A.length = m + (rd_L4 ls i).length → ∃ r, P r ∧ Ev (fun k => storagebarterref28_Merge.l0 k ls A (wrap64 (i + 1))) r) : ∀ (n : Nat) (A : List S56) (j : Int), 0 ≤ j → j + n = (rd_L4 ls i).length → (A.length : Int) = m + j → ∃ r, P r ∧ Ev (fun k => storagebarterref28_Merge.l1 k ls A i j) r
  | 0, A, j, h0, hj, hA => by
    obtain ⟨r, hp, he⟩ := h A (by omega)
    refine ⟨r, hp, ev_up he (fun k => ?_)⟩
    rw [storagebarterref28_Merge.l1, if_pos hi0, if_pos hi1, if_neg (by omega)]
  | n + 1, A, j, h0, hj, hA => by
    push_cast at hj
    obtain ⟨r, hp, he⟩ := c30_l2 ls i j (rd_T56 (rd_L4 ls i) j).f0 (rd_T56 (rd_L4 ls i) j).f1 (rd_T56 (rd_L4 ls i) j).f2 (rd_T56 (rd_L4 ls i) j).f3 P A.length A A.length rfl (Nat.le_refl _) (by omega) (fun A' hA' => by
      rw [w64 (n := j + 1) (by omega) (by omega)]
      exact c30_l1 ls i hi0 hi1 P hq m hm h n A' (j + 1) (by omega) (by omega) (by omega))
    refine ⟨r, hp, ev_up he (fun k => ?_)⟩
    rw [storagebarterref28_Merge.l1, if_pos hi0, if_pos hi1, if_pos (by omega), if_pos h0]
def sumL : List (List S56) → Nat
  | [] => 0
  | e :: t => e.length + sumL t
theorem c30_l0 (ls : List (List S56)) (hl : ls.length ≤ 10) (hq : ∀ e ∈ ls, e.length ≤ 22) : ∀ (t : List (List S56)) (A : List S56) (i : Int), 0 ≤ i → i ≤ ls.length → ls.drop i.toNat = t → A.length ≤ 22 * i.toNat → ∃ r : List S56, r.length = A.length + sumL t ∧ Ev (fun k => storagebarterref28_Merge.l0 k ls A i) r
  | [], A, i, h0, hi, hd, hA => by
    have := drop_len h0 hi hd
    exact ⟨A, rfl, ev_up (ev_some A) (fun k => by rw [storagebarterref28_Merge.l0, if_neg (by simp at this; omega)])⟩
  | e :: t, A, i, h0, hi, hd, hA => by
    have hl2 := drop_len h0 hi hd
    have hr : rd_L4 ls i = e := getD_at hd
    rw [List.length_cons] at hl2
    push_cast at hl2
    have he : e.length ≤ 22 := hq e (List.mem_of_mem_drop (by rw [hd]; exact List.mem_cons_self ..))
    obtain ⟨r, hp, he⟩ := c30_l1 ls i h0 (by omega) (fun r => r.length = A.length + sumL (e :: t)) (by rw [hr]; omega) A.length (by omega) (fun A' hA' => by
      rw [w64 (n := i + 1) (by omega) (by omega)]
      obtain ⟨r, h1, h2⟩ := c30_l0 ls hl hq t A' (i + 1) (by omega) (by omega) (drop_next h0 hd) (by rw [hr] at hA'; omega)
      exact ⟨r, by rw [hr] at hA'; rw [sumL]; omega, h2⟩) e.length A 0 (by omega) (by rw [hr]; omega) (by omega)
    exact ⟨r, hp, ev_up he (fun k => by rw [storagebarterref28_Merge.l0, if_pos (by omega)])⟩
theorem sumL_le {ls : List (List S56)} (hq : ∀ e ∈ ls, e.length ≤ 22) : sumL ls ≤ 22 * ls.length := by
  induction ls with
  | nil => simp [sumL]
  | cons e t ih =>
    have := hq e (List.mem_cons_self ..)
    have := ih (fun x hx => hq x (List.mem_cons_of_mem _ hx))
    simp [sumL]; omega
theorem c30_merge (ls : List (List S56)) (hl : ls.length ≤ 10) (hq : ∀ e ∈ ls, e.length ≤ 22) : ∃ r : List S56, Ev (fun k => storagebarterref28_Merge.f k ls) r ∧ r.length ≤ 22 * ls.length := by
  obtain ⟨r, h1, h2⟩ := c30_l0 ls hl hq ls [] 0 (Int.le_refl _) (by omega) rfl (by simp)
  exact ⟨r, h2, by have := sumL_le hq; simp at h1; omega⟩
theorem c30_lawplan_l0 {s : List Int} (hs : Seeds s) : ∀ (n : Nat) (ls : List (List S56)) (x p : Int), x = n → n ≤ 5 → ls.length + n ≤ 2 → (∀ e ∈ ls, e.length ≤ 22) → 0 ≤ p → p ≤ s.length → ∃ (r : List S56) (q : Int), Ev (fun k => storagebarterlaw30_plan.l0 k ls x s p) (r, q) ∧ r.length ≤ 44 ∧ 0 ≤ q ∧ q ≤ s.length
  | 0, ls, x, p, hx, hn, hl, hq, p0, p1 => by
    obtain rfl : x = 0 := hx
    obtain ⟨r, hr, hl'⟩ := c30_merge ls (by omega) hq
    refine ⟨r, p, ?_, by omega, p0, p1⟩
    obtain ⟨K, hK⟩ := hr
    refine ⟨K + 1, fun k hk => ?_⟩
    obtain ⟨k, rfl, hk⟩ := k_succ hk
    dsimp only at hK ⊢
    rw [storagebarterlaw30_plan.l0, if_neg (by omega), hK k (by omega)]
    rfl
  | n + 1, ls, x, p, hx, hn, hl, hq, p0, p1 => by
    push_cast at hx
    obtain ⟨k1, a, b, st, te, cs, q, e1, a1, a2, b1, b2, hab, t0, t1, u1, u2, hc, hcl, q0, q1⟩ := arr_ok hs p0 p1 (n := 3) (by omega) (by omega)
    obtain ⟨r, q', e2, r0, r1, m0, m1⟩ := pick_ok hs q0 q1 (n := 2) (by omega)
    obtain ⟨K1, f1⟩ := ev_of (g := fun k => storagebarterplay_Dice_Arrangement.f k s p 3) (storagebarterplay_Dice_Arrangement.mono _ _ _) ⟨k1, e1⟩
    obtain ⟨L, e, ⟨K2, f2⟩, hL⟩ := c30_plan a b st te x cs (r == 0) (by omega) t0 u1 (by omega) u2 (by omega) (by omega)
    obtain ⟨R, Q, ⟨K3, f3⟩, hR, Q0, Q1⟩ := c30_lawplan_l0 hs n (ls ++ [L]) (x - 1) q' (by omega) (by omega) (by simp; omega) (fun e he => by
      rcases List.mem_append.1 he with h | h
      · exact hq e h
      · rw [List.mem_singleton.1 h]; exact hL) m0 m1
    refine ⟨R, Q, ⟨K1 + K2 + K3 + 1, fun k hk => ?_⟩, hR, Q0, Q1⟩
    obtain ⟨k, rfl, hk⟩ := k_succ hk
    dsimp only at f1 f2 f3 ⊢
    rw [storagebarterlaw30_plan.l0, if_pos (by omega), f1 k (by omega)]
    simp only [Option.bind_some]
    rw [e2]
    simp only [Option.bind_some]
    rw [f2 k (by omega)]
    simp only [Option.bind_some]
    rw [if_pos (by omega), w64 (n := x - 1) (by omega) (by omega), f3 k (by omega)]
theorem c30_lawplan {s : List Int} (hs : Seeds s) {p : Int} (p0 : 0 ≤ p) (p1 : p ≤ s.length) : ∃ (r : List S56) (q : Int), Ev (fun k => storagebarterlaw30_plan.f k s p) (r, q) ∧ r.length ≤ 44 ∧ 0 ≤ q ∧ q ≤ s.length := by
  obtain ⟨r, q, e, r0, r1, m0, m1⟩ := pick_ok hs p0 p1 (n := 2) (by omega)
  obtain ⟨R, Q, h, hR, Q0, Q1⟩ := c30_lawplan_l0 hs (1 + r).toNat [] (1 + r) q (by omega) (by omega) (by simp; omega) (fun e he => by cases he) m0 m1
  refine ⟨R, Q, ?_, hR, Q0, Q1⟩
  unfold storagebarterlaw30_plan.f
  rw [e]
  simp only [Option.bind_some]
  rw [w64 (n := 1 + r) (by omega) (by omega)]
  exact h

/-! whose duties: the numbers -/
def ofL (L : List S56) (p : Int) : Nat → Int → List Int
  | 0, _ => []
  | n + 1, i => if (rd_T56 L i).f2 = p then i :: ofL L p n (i + 1) else ofL L p n (i + 1)
theorem ofL_mem {L : List S56} {p : Int} : ∀ {n : Nat} {i x : Int}, x ∈ ofL L p n i → i ≤ x ∧ x < i + n ∧ (rd_T56 L x).f2 = p
  | 0, i, x, h => by simp [ofL] at h
  | n + 1, i, x, h => by
    rw [ofL] at h
    push_cast
    by_cases c : (rd_T56 L i).f2 = p
    · rw [if_pos c] at h
      rcases List.mem_cons.1 h with rfl | h
      · exact ⟨by omega, by omega, c⟩
      · have := ofL_mem h; exact ⟨by omega, by omega, this.2.2⟩
    · rw [if_neg c] at h
      have := ofL_mem h; exact ⟨by omega, by omega, this.2.2⟩
theorem ofL_pw {L : List S56} {p : Int} : ∀ (n : Nat) (i : Int), (ofL L p n i).Pairwise (· < ·)
  | 0, i => List.Pairwise.nil
  | n + 1, i => by
    rw [ofL]
    split
    · refine List.pairwise_cons.2 ⟨fun x hx => ?_, ofL_pw n (i + 1)⟩
      have := ofL_mem hx; omega
    · exact ofL_pw n (i + 1)
theorem ofL_len {L : List S56} {p : Int} : ∀ (n : Nat) (i : Int), (ofL L p n i).length ≤ n
  | 0, i => by simp [ofL]
  | n + 1, i => by
    rw [ofL]
    have := ofL_len (L := L) (p := p) n (i + 1)
    split
    · simp; omega
    · omega
theorem c30_of_l0 (L : List S56) (hL : L.length ≤ 10000) (p : Int) : ∀ (n : Nat) (x : List Int) (i : Int), 0 ≤ i → i + n = L.length → x.length ≤ i → Ev (fun k => storagebarterref28_Of.l0 k L p x i) (x ++ ofL L p n i)
  | 0, x, i, h0, hi, hx => ev_up (ev_some _) (fun k => by rw [storagebarterref28_Of.l0, if_neg (by omega)]; simp [ofL])
  | n + 1, x, i, h0, hi, hx => by
    push_cast at hi
    rw [ofL]
    by_cases c : (rd_T56 L i).f2 = p
    · rw [if_pos c]
      have ih := c30_of_l0 L hL p n (x ++ [i]) (i + 1) (by omega) (by omega) (by simp; omega)
      refine ev_up (by simpa using ih) (fun k => ?_)
      rw [storagebarterref28_Of.l0, if_pos (by omega), if_pos h0, if_pos c, if_pos (by omega), w64 (n := i + 1) (by omega) (by omega)]
    · rw [if_neg c]
      refine ev_up (c30_of_l0 L hL p n x (i + 1) (by omega) (by omega) (by omega)) (fun k => ?_)
      rw [storagebarterref28_Of.l0, if_pos (by omega), if_pos h0, if_neg c, w64 (n := i + 1) (by omega) (by omega)]
def Ofs (L : List S56) (p : Int) : List Int := ofL L p L.length 0
theorem c30_of (L : List S56) (hL : L.length ≤ 10000) (p : Int) : Ev (fun k => storagebarterref28_Of.f k L p) (Ofs L p) := c30_of_l0 L hL p L.length [] 0 (Int.le_refl _) (by omega) (by simp)
/-! tables that are in order -/
def ActsOK (L : List S56) (p : Int) (acts : List S51) : Prop := (∀ a ∈ acts, 1 ≤ a.f1 ∧ a.f1 ≤ 3 ∧ 0 ≤ a.f0 ∧ a.f0 < L.length ∧ (rd_T56 L a.f0).f2 = p) ∧ acts.Pairwise (fun a b => a.f0 < b.f0)
theorem ActsOK.sub {L : List S56} {p : Int} {acts acts' : List S51} (h : ActsOK L p acts) (hs : acts'.Sublist acts) : ActsOK L p acts' := ⟨fun a ha => h.1 a (hs.subset ha), h.2.sublist hs⟩
theorem rd51_get {acts : List S51} {i : Int} (h0 : 0 ≤ i) (h1 : i < acts.length) : rd_T51 acts i = acts[i.toNat]'(by omega) := by
  unfold rd_T51
  rw [List.getD_eq_getElem?_getD, List.getElem?_eq_getElem (by omega)]
  rfl
theorem ok_of {L : List S56} {p : Int} {acts : List S51} (h : ActsOK L p acts) {i : Int} (h0 : 0 ≤ i) (h1 : i < acts.length) : deviation_ok L p acts i = true := by
  have e := rd51_get h0 h1
  have hm : rd_T51 acts i ∈ acts := by rw [e]; exact List.getElem_mem _
  obtain ⟨a1, a2, a3, a4, a5⟩ := h.1 _ hm
  unfold deviation_ok
  rw [decide_eq_true a3, decide_eq_true a4, a5]
  have hh : ((rd_T51 acts i).f1 == 1 || ((rd_T51 acts i).f1 == 2 || (rd_T51 acts i).f1 == 3)) = true := by
    rcases (show (rd_T51 acts i).f1 = 1 ∨ (rd_T51 acts i).f1 = 2 ∨ (rd_T51 acts i).f1 = 3 by omega) with h | h | h <;> rw [h] <;> rfl
  rw [hh]
  by_cases hz : i ≤ 0
  · rw [decide_eq_true hz]; simp
  · have := List.pairwise_iff_getElem.1 h.2 (i - 1).toNat i.toNat (by omega) (by omega) (by omega)
    rw [← rd51_get (by omega) (by omega), ← e] at this
    rw [decide_eq_true this]; simp
theorem valid_of {L : List S56} {p : Int} {acts : List S51} (h : ActsOK L p acts) (hl : acts.length ≤ 100000) : deviation_Valid.f L p acts = some true := by
  unfold deviation_Valid.f
  rw [if_pos (by omega)]
  congr 1
  rw [List.all_eq_true]
  intro i hi
  have := List.mem_range.1 hi
  exact ok_of h (by omega) (by omega)
/-! what the dice make -/
def DevOK (L : List S56) (s : List Int) (p most : Int) (x : Int × List S51 × Int) : Prop := x.1 = p ∧ ActsOK L p x.2.1 ∧ (x.2.1.length : Int) ≤ most ∧ 0 ≤ x.2.2 ∧ x.2.2 ≤ s.length
theorem c30_dev_l0 (L : List S56) (hL : L.length ≤ 10000) {s : List Int} (hs : Seeds s) (p most : Int) (hm : most ≤ 100) : ∀ (n : Nat) (at_ x q : Int) (acts : List S51), x = n → 0 ≤ at_ → at_ ≤ (Ofs L p).length → 0 ≤ q → q ≤ s.length → ActsOK L p acts → (∀ a ∈ acts, ∀ j : Nat, at_ ≤ j → (h : j < (Ofs L p).length) → a.f0 < (Ofs L p)[j]) → (acts.length : Int) + n ≤ most → ∃ v, Ev (fun k => storagebarterplay_Dice_Deviation.l0 k (Ofs L p) at_ x s q p acts) v ∧ DevOK L s p most v
  | 0, at_, x, q, acts, hx, a0, a1, q0, q1, hA, hB, hl => by
    obtain rfl : x = 0 := hx
    refine ⟨(p, acts, q), ⟨2, fun k hk => ?_⟩, rfl, hA, by simp only; omega, q0, q1⟩
    obtain ⟨k1, rfl, hk1⟩ := k_succ hk
    obtain ⟨k, rfl, hk2⟩ := k_succ hk1
    dsimp only
    rw [storagebarterplay_Dice_Deviation.l0, if_neg (by omega), storagebarterplay_Dice_Deviation.j1, if_neg (by decide)]
  | n + 1, at_, x, q, acts, hx, a0, a1, q0, q1, hA, hB, hl => by
    push_cast at hx hl
    have hO := ofL_len (L := L) (p := p) L.length 0
    have hO2 : (Ofs L p).length ≤ L.length := hO
    by_cases c : at_ < (Ofs L p).length
    · obtain ⟨r, m, e, r0, r1, m0, m1⟩ := pick_ok hs q0 q1 (n := (Ofs L p).length - at_) (by omega)
      obtain ⟨r', m', e', r0', r1', m0', m1'⟩ := pick_ok hs m0 m1 (n := 3) (by omega)
      obtain ⟨j, hj⟩ : ∃ j : Nat, (j : Int) = at_ + r := ⟨(at_ + r).toNat, by omega⟩
      have hjl : j < (Ofs L p).length := by omega
      have hrd : rd (Ofs L p) (at_ + r) = (Ofs L p)[j] := by
        unfold rd
        rw [← hj, Int.toNat_natCast, List.getD_eq_getElem?_getD, List.getElem?_eq_getElem hjl]
        rfl
      have hmem := ofL_mem (List.getElem_mem hjl : (Ofs L p)[j] ∈ ofL L p L.length 0)
      obtain ⟨v, hv, hd⟩ := c30_dev_l0 L hL hs p most hm n (at_ + r + 1) (x - 1) m' (acts ++ [⟨(Ofs L p)[j], 1 + r'⟩]) (by omega) (by omega) (by omega) m0' m1' ⟨fun a ha => by
          rcases List.mem_append.1 ha with h | h
          · exact hA.1 a h
          · rw [List.mem_singleton.1 h]; exact ⟨by simp; omega, by simp; omega, hmem.1, by simp at hmem ⊢; omega, hmem.2.2⟩,
        List.pairwise_append.2 ⟨hA.2, List.pairwise_singleton _ _, fun a ha b hb => by rw [List.mem_singleton.1 hb]; exact hB a ha j (by omega) hjl⟩⟩ (fun a ha i hi hil => by
          rcases List.mem_append.1 ha with h | h
          · exact hB a h i (by omega) hil
          · rw [List.mem_singleton.1 h]
            exact List.pairwise_iff_getElem.1 (ofL_pw L.length 0) j i hjl hil (by omega)) (by simp; omega)
      refine ⟨v, ?_, hd⟩
      obtain ⟨K, hK⟩ := hv
      refine ⟨K + 2, fun k hk => ?_⟩
      obtain ⟨k1, rfl, hk1⟩ := k_succ hk
      obtain ⟨k, rfl, hk2⟩ := k_succ hk1
      dsimp only at hK ⊢
      rw [storagebarterplay_Dice_Deviation.l0, if_pos (by omega), decide_eq_true (by omega), storagebarterplay_Dice_Deviation.j1, if_pos rfl, w64 (n := (Ofs L p).length - at_) (by omega) (by omega), e]
      simp only [Option.bind_some]
      rw [w64 (n := at_ + r) (by omega) (by omega), if_pos (by omega), if_pos (by omega), e']
      simp only [Option.bind_some]
      rw [if_pos (by omega), w64 (n := at_ + r + 1) (by omega) (by omega), w64 (n := x - 1) (by omega) (by omega), w64 (n := 1 + r') (by omega) (by omega), hrd, hK k (by omega)]
    · refine ⟨(p, acts, q), ⟨2, fun k hk => ?_⟩, rfl, hA, by simp only; omega, q0, q1⟩
      obtain ⟨k1, rfl, hk1⟩ := k_succ hk
      obtain ⟨k, rfl, hk2⟩ := k_succ hk1
      dsimp only
      rw [storagebarterplay_Dice_Deviation.l0, if_pos (by omega), decide_eq_false c, storagebarterplay_Dice_Deviation.j1, if_neg (by decide)]
theorem c30_dev (L : List S56) (hL : L.length ≤ 10000) {s : List Int} (hs : Seeds s) (p most : Int) (h0 : 0 ≤ most) (hm : most ≤ 100) {q : Int} (q0 : 0 ≤ q) (q1 : q ≤ s.length) : ∃ v, Ev (fun k => storagebarterplay_Dice_Deviation.f k s q L p most) v ∧ DevOK L s p most v := by
  obtain ⟨r, m, e, r0, r1, m0, m1⟩ := pick_ok hs q0 q1 (n := most + 1) (by omega)
  obtain ⟨v, ⟨K2, hv⟩, hd⟩ := c30_dev_l0 L hL hs p most hm r.toNat 0 r m [] (by omega) (by omega) (by omega) m0 m1 ⟨(fun a ha => by cases ha), List.Pairwise.nil⟩ (fun a ha => by cases ha) (by simp; omega)
  obtain ⟨K1, hO⟩ := c30_of L hL p
  refine ⟨v, ⟨K1 + K2, fun k hk => ?_⟩, hd⟩
  dsimp only at hO hv ⊢
  unfold storagebarterplay_Dice_Deviation.f
  rw [hO k (by omega)]
  simp only [Option.bind_some]
  rw [w64 (n := most + 1) (by omega) (by omega), e]
  simp only [Option.bind_some]
  exact hv k (by omega)

/-! what a table says -/
def howL (d : Int) : List S51 → Int
  | [] => 0
  | a :: t => if a.f0 = d then a.f1 else howL d t
theorem how_l0 (acts : List S51) (hl : acts.length ≤ 100000) (d : Int) : ∀ (t : List S51) (i : Int), 0 ≤ i → i ≤ acts.length → acts.drop i.toNat = t → Ev (fun k => deviation_How.l0 k d acts (acts.length : Int) i) (howL d t)
  | [], i, h0, hi, hd => by
    have := drop_len h0 hi hd
    exact ev_up (ev_some 0) (fun k => by rw [deviation_How.l0, if_neg (by simp at this; omega)])
  | e :: t, i, h0, hi, hd => by
    have hl2 := drop_len h0 hi hd
    have hr : rd_T51 acts i = e := getD_at hd
    rw [List.length_cons] at hl2
    push_cast at hl2
    rw [howL]
    by_cases c : e.f0 = d
    · rw [if_pos c]
      exact ev_up (ev_some e.f1) (fun k => by rw [deviation_How.l0, if_pos (by omega), if_pos h0, if_pos (by omega), hr, if_pos c])
    · rw [if_neg c]
      exact ev_up (how_l0 acts hl d t (i + 1) (by omega) (by omega) (drop_next h0 hd)) (fun k => by rw [deviation_How.l0, if_pos (by omega), if_pos h0, if_pos (by omega), hr, if_neg c, w64 (n := i + 1) (by omega) (by omega)])
theorem how_ok (p : Int) (acts : List S51) (hl : acts.length ≤ 100000) (d : Int) : Ev (fun k => deviation_How.f k p acts d) (howL d acts) := how_l0 acts hl d acts 0 (Int.le_refl _) (by omega) rfl
theorem howL_none {d : Int} : ∀ {l : List S51}, (∀ a ∈ l, a.f0 ≠ d) → howL d l = 0
  | [], _ => rfl
  | a :: t, h => by rw [howL, if_neg (h a (List.mem_cons_self ..)), howL_none (fun x hx => h x (List.mem_cons_of_mem _ hx))]
theorem howL_drop {d : Int} {y : S51} : ∀ {A B : List S51}, (A ++ y :: B).Pairwise (fun a b => a.f0 < b.f0) → howL d (A ++ B) = if d = y.f0 then 0 else howL d (A ++ y :: B)
  | [], B, h => by
    by_cases c : d = y.f0
    · rw [if_pos c]
      exact howL_none (fun a ha => by have := (List.pairwise_cons.1 h).1 a ha; omega)
    · rw [if_neg c]
      show howL d B = howL d (y :: B)
      rw [howL, if_neg (Ne.symm c)]
  | a :: A, B, h => by
    have h1 := (List.pairwise_cons.1 h).1 y (List.mem_append_right _ (List.mem_cons_self ..))
    have ih := howL_drop (d := d) (List.pairwise_cons.1 h).2
    show howL d (a :: (A ++ B)) = if d = y.f0 then 0 else howL d (a :: (A ++ y :: B))
    rw [howL, howL, ih]
    by_cases c : a.f0 = d
    · rw [if_pos c, if_neg (by omega), if_pos c]
    · rw [if_neg c, if_neg c]
theorem less_l0 (x6 N p : Int) (acts acts' : List S51) (y : S51) (h0 : 0 ≤ x6) (h1 : x6 < acts.length) (hy : rd_T51 acts x6 = y) (hl : acts.length ≤ 100000) (hl' : acts'.length ≤ 100000) (hN : N ≤ 100000) (hh : ∀ d, howL d acts' = if d = y.f0 then 0 else howL d acts) : ∀ (n : Nat) (i : Int), 0 ≤ i → i + n = N → Ev (fun k => storagebarterlaw30_DeviationLess.l0 k x6 N i p acts p acts') true
  | 0, i, hi, hn => ev_up (ev_some true) (fun k => by rw [storagebarterlaw30_DeviationLess.l0, if_neg (by omega)])
  | n + 1, i, hi, hn => by
    push_cast at hn
    obtain ⟨K1, e1⟩ := how_ok p acts hl i
    obtain ⟨K2, e2⟩ := how_ok p acts' hl' i
    obtain ⟨K3, e3⟩ := less_l0 x6 N p acts acts' y h0 h1 hy hl hl' hN hh n (i + 1) (by omega) (by omega)
    refine ⟨K1 + K2 + K3 + 1, fun k hk => ?_⟩
    obtain ⟨k, rfl, hk⟩ := k_succ hk
    dsimp only at e1 e2 e3 ⊢
    have hi' := hh i
    rw [storagebarterlaw30_DeviationLess.l0, if_pos (by omega), e1 k (by omega)]
    simp only [Option.bind_some]
    rw [if_pos h0, if_pos h1, hy, e2 k (by omega), hi']
    simp only [Option.bind_some]
    by_cases c : i = y.f0
    · simp only [if_pos c, if_true]
      rw [w64 (n := i + 1) (by omega) (by omega)]
      exact e3 k (by omega)
    · simp only [if_neg c, if_true]
      rw [w64 (n := i + 1) (by omega) (by omega)]
      exact e3 k (by omega)
theorem c30_sane : Ev (fun k => storagebarterlaw30_sane.f k) true := ev_of storagebarterlaw30_sane.mono ⟨30, by kernel_rfl⟩
theorem DeviationLess : storagebarterlaw30_DeviationLess.Pure := by
  intro l0 _ _ hw
  obtain ⟨s, hn, hs⟩ := new_ok hw
  refine ev_ex ?_
  unfold storagebarterlaw30_DeviationLess.f
  refine ev_bind c30_sane ?_
  refine ev_pos rfl ?_
  refine ev_bind (ev_const hn) ?_
  obtain ⟨L, q, hp, hL, q0, q1⟩ := c30_lawplan hs (p := 0) (Int.le_refl _) (by omega)
  refine ev_bind hp ?_
  obtain ⟨r, m, e, r0, r1, m0, m1⟩ := pick_ok hs q0 q1 (n := 3) (by omega)
  refine ev_bind (ev_const e) ?_
  obtain ⟨⟨p, acts, q'⟩, hd, rfl, hA, hl, k0, k1⟩ := c30_dev L (by omega) hs (1 + r) 5 (by omega) (by omega) m0 m1
  dsimp only at hA hl k0 k1
  rw [w64 (n := 1 + r) (by omega) (by omega)]
  refine ev_bind hd ?_
  dsimp only
  refine ev_bind (ev_const (valid_of hA (by omega))) ?_
  refine ev_pos rfl ?_
  by_cases hz : (acts.length : Int) = 0
  · exact ev_pos hz (ev_some true)
  refine ev_neg hz ?_
  obtain ⟨x6, m', e', a0, a1, b0, b1⟩ := pick_ok hs k0 k1 (n := acts.length) (by omega)
  refine ev_bind (ev_const e') ?_
  refine ev_bind (ev_const rfl) ?_
  refine ev_pos a0 ?_
  refine ev_pos (by omega) ?_
  refine ev_bind (ev_const rfl) ?_
  refine ev_pos (by simp; omega) ?_
  refine ev_bind (ev_const rfl) ?_
  dsimp only
  rw [w64 (n := x6 + 1) (by omega) (by omega)]
  refine ev_pos (by omega) ?_
  refine ev_pos (by omega) ?_
  refine ev_bind (ev_const rfl) ?_
  refine ev_pos (by simp; omega) ?_
  refine ev_bind (ev_const rfl) ?_
  rw [List.nil_append]
  obtain ⟨n6, rfl⟩ : ∃ n : Nat, (n : Int) = x6 := ⟨x6.toNat, by omega⟩
  have hn6 : n6 < acts.length := by omega
  rw [Int.toNat_natCast, show ((n6 : Int) + 1).toNat = n6 + 1 by omega]
  have hsplit : acts = acts.take n6 ++ acts[n6] :: acts.drop (n6 + 1) := by
    rw [← List.drop_eq_getElem_cons hn6, List.take_append_drop]
  have hsub : (acts.take n6 ++ acts.drop (n6 + 1)).Sublist acts := by
    conv => rhs; rw [hsplit]
    exact (List.Sublist.refl _).append (List.sublist_cons_self _ _)
  have hlen : (acts.take n6 ++ acts.drop (n6 + 1)).length = acts.length - 1 := by simp; omega
  have hA' := hA.sub hsub
  refine ev_bind (ev_const (valid_of hA' (by omega))) ?_
  refine ev_pos rfl ?_
  have hsame : Ev (fun k => deviation_Same.f k (1 + r) acts (1 + r) (acts.take n6 ++ acts.drop (n6 + 1))) false := by
    unfold deviation_Same.f
    refine ev_pos rfl ?_
    unfold api_Act_34.f
    exact ev_bind (ev_neg (by omega) (ev_some false)) (ev_some false)
  refine ev_bind hsame ?_
  have hrd : rd_T51 acts (n6 : Int) = acts[n6] := by rw [rd51_get (by omega) (by omega)]; simp
  have hfin := less_l0 (n6 : Int) L.length (1 + r) acts (acts.take n6 ++ acts.drop (n6 + 1)) acts[n6] (by omega) (by omega) hrd (by omega) (by omega) (by omega) (fun d => by
    have h := howL_drop (d := d) (y := acts[n6]) (A := acts.take n6) (B := acts.drop (n6 + 1)) (by rw [← hsplit]; exact hA.2)
    rw [h, ← hsplit]) L.length 0 (by omega) (by omega)
  exact ev_up hfin (fun k => by rw [storagebarterlaw30_DeviationLess.j0, if_neg (by decide)])

end Go.Proofs.YtdflpnfceajomaaDoor.Pure
