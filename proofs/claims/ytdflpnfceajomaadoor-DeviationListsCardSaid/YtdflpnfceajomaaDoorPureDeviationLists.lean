/- The law DeviationLists answers true for every input: what its printed functions compute, in plain Lean. -/
import Derived.Test.YtdflpnfceajomaaDoorPDeviationListsx10
set_option linter.unusedVariables false
set_option linter.unusedSimpArgs false
set_option maxRecDepth 100000
namespace Go.Proofs.YtdflpnfceajomaaDoor.Pure
open Go.RowKit Go.Proofs.YtdflpnfceajomaaDoor.PDeviationLists Go.Proofs.YtdflpnfceajomaaDoorW.PrintWords Go.Proofs.YtdflpnfceajomaaDoorW.PrintMore Go.Proofs.YtdflpnfceajomaaDoorW.PrintLast

theorem at_rounds {α : Type} {g : Nat → Option α} (h : ∀ k, LeO (g k) (g (k + 1))) {k k' : Nat} (hk : k ≤ k') {r : α} (hr : g k = some r) : g k' = some r := by
  induction hk with
  | refl => exact hr
  | step _ ih => exact h _ _ ih

theorem w64 {n : Int} (h0 : 0 ≤ n) (h1 : n < 9223372036854775808) : wrap64 n = n := by unfold wrap64; omega
theorem drop_next {α : Type} {l : List α} {i : Int} {e : α} {t : List α} (h0 : 0 ≤ i) (h : l.drop i.toNat = e :: t) : l.drop (i + 1).toNat = t := by
  have e1 : (i + 1).toNat = i.toNat + 1 := by omega
  rw [e1, ← List.drop_drop, h]; rfl
theorem drop_len {α : Type} {l : List α} {i : Int} {t : List α} (h0 : 0 ≤ i) (hi : i ≤ l.length) (h : l.drop i.toNat = t) : (l.length : Int) = i + t.length := by
  rw [← h, List.length_drop]; omega
theorem getD_at {α : Type} {d : α} {l : List α} {i : Int} {e : α} {t : List α} (h : l.drop i.toNat = e :: t) : l.getD i.toNat d = e := by
  have : (l.drop i.toNat)[0]? = some e := by rw [h]; rfl
  rw [List.getElem?_drop] at this
  simp [List.getD_eq_getElem?_getD] at this ⊢
  rw [this]; rfl
/-! the dice: seeds are bytes, what is picked lies in the range, the place stays in the list -/
def Seeds (l : List Int) : Prop := l.length ≤ 300 ∧ ∀ x ∈ l, 0 ≤ x ∧ x ≤ 255
theorem new_ok {l : List Int} (h : ∀ x ∈ l, (Lit.int .u8 x).wf = true) : ∃ s, storagebarterplay_New.f l = some (s, 0) ∧ Seeds s := by
  have h' : ∀ x ∈ l, 0 ≤ x ∧ x ≤ 255 := fun x hx => by
    have := h x hx
    simp [Lit.wf, IntKind.min, IntKind.max, IntKind.signed, IntKind.bits] at this; omega
  unfold storagebarterplay_New.f
  by_cases q : (l.length : Int) > 300
  · rw [if_pos q, if_pos (by omega)]
    exact ⟨_, rfl, by rw [List.length_take]; omega, fun x hx => h' x (List.mem_of_mem_take hx)⟩
  · rw [if_neg q]
    exact ⟨_, rfl, by omega, h'⟩
theorem pick_ok {l : List Int} {p n : Int} (hs : Seeds l) (h0 : 0 ≤ p) (h1 : p ≤ l.length) (hn : 1 ≤ n) : ∃ r q, storagebarterplay_Dice_Pick.f l p n = some (r, q) ∧ 0 ≤ r ∧ r < n ∧ 0 ≤ q ∧ q ≤ l.length := by
  have hl := hs.1
  unfold storagebarterplay_Dice_Pick.f
  by_cases hp : p ≥ (l.length : Int)
  · rw [if_pos hp]; exact ⟨_, _, rfl, by omega, by omega, h0, h1⟩
  · rw [if_neg hp, w64 (n := p + 1) (by omega) (by omega), show p + 1 - 1 = p by omega, w64 (n := p) (by omega) (by omega), if_pos h0, if_pos (by omega), if_neg (by omega)]
    have hm : rd l p ∈ l := by
      have hi : p.toNat < l.length := by omega
      unfold rd
      rw [List.getD_eq_getElem?_getD, List.getElem?_eq_getElem hi]
      exact List.getElem_mem hi
    have hb := hs.2 _ hm
    rw [w64 (n := rd l p) (by omega) (by omega)]
    exact ⟨_, _, rfl, Int.tmod_nonneg _ hb.1, Int.tmod_lt_of_pos _ (by omega), by omega, by omega⟩

/-! ### from some number of rounds on -/
def Ev {α : Type} (g : Nat → Option α) (r : α) : Prop := ∃ K, ∀ k, K ≤ k → g k = some r
theorem k_succ {K k : Nat} (h : K + 1 ≤ k) : ∃ j, k = j + 1 ∧ K ≤ j := ⟨k - 1, by omega, by omega⟩
theorem ev_of {α : Type} {g : Nat → Option α} {r : α} (hm : ∀ k, LeO (g k) (g (k + 1))) (h : ∃ k, g k = some r) : Ev g r := by
  obtain ⟨k, hk⟩ := h
  exact ⟨k, fun k' hk' => at_rounds hm hk' hk⟩
theorem ev_ex {α : Type} {g : Nat → Option α} {r : α} (h : Ev g r) : ∃ k, g k = some r := by
  obtain ⟨K, h⟩ := h
  exact ⟨K, h K (Nat.le_refl _)⟩
theorem ev_step {α : Type} {g g' : Nat → Option α} {r : α} (h : Ev g' r) (e : ∀ k, 3 ≤ k → g (k + 1) = g' k) : Ev g r := by
  obtain ⟨K, h⟩ := h
  refine ⟨K + 4, fun k hk => ?_⟩
  obtain ⟨j, rfl, hj⟩ := k_succ hk
  rw [e j (by omega), h j (by omega)]
theorem ev_bind {α β : Type} {g : Nat → Option α} {x : α} {f : Nat → α → Option β} {r : β} (hg : Ev g x) (hf : Ev (fun k => f k x) r) : Ev (fun k => (g k).bind (f k)) r := by
  obtain ⟨K, h⟩ := hg
  obtain ⟨K', h'⟩ := hf
  exact ⟨K + K', fun k hk => by dsimp only; rw [h k (by omega)]; exact h' k (by omega)⟩
theorem ev_some {α : Type} (r : α) : Ev (fun _ => some r) r := ⟨0, fun _ _ => rfl⟩
theorem ev_const {α : Type} {x : Option α} {r : α} (h : x = some r) : Ev (fun _ => x) r := ⟨0, fun _ _ => h⟩
theorem ev_pos {α : Type} {c : Prop} [Decidable c] {a b : Nat → Option α} {r : α} (h : c) (he : Ev a r) : Ev (fun k => if c then a k else b k) r := by
  obtain ⟨K, hK⟩ := he
  exact ⟨K, fun k hk => by dsimp only; rw [if_pos h]; exact hK k hk⟩
theorem ev_neg {α : Type} {c : Prop} [Decidable c] {a b : Nat → Option α} {r : α} (h : ¬ c) (he : Ev b r) : Ev (fun k => if c then a k else b k) r := by
  obtain ⟨K, hK⟩ := he
  exact ⟨K, fun k hk => by dsimp only; rw [if_neg h]; exact hK k hk⟩
theorem ev_up {α : Type} {g g' : Nat → Option α} {r : α} (h : Ev g' r) (e : ∀ k, g (k + 1) = g' k) : Ev g r := ev_step h (fun k _ => e k)

/-! arrangements: what the dice make is valid -/
def checksOK (st te : Int) (cs : List Int) : Prop := (∀ x ∈ cs, st < x ∧ x ≤ st + te) ∧ cs.Pairwise (· < ·)
theorem arr_l0 {l : List Int} (hs : Seeds l) (a b st te : Int) (h1 : 0 ≤ st) (h2 : st ≤ 100) (h3 : te ≤ 100) : ∀ (n : Nat) (t p : Int) (cs : List Int), t + n = st + te + 1 → st < t → 0 ≤ p → p ≤ l.length → (∀ x ∈ cs, st < x ∧ x < t) → cs.Pairwise (· < ·) → cs.length + n ≤ 1000 → ∃ k cs' q, storagebarterplay_Dice_Arrangement.l0 k t l p a b st te cs = some (a, b, st, te, cs', q) ∧ checksOK st te cs' ∧ cs'.length ≤ 1000 ∧ 0 ≤ q ∧ q ≤ l.length
  | 0, t, p, cs, ht, hst, hp0, hp1, hc, hw, hn => by
    refine ⟨1, cs, p, ?_, ⟨fun x hx => by have := hc x hx; omega, hw⟩, by omega, hp0, hp1⟩
    rw [storagebarterplay_Dice_Arrangement.l0, w64 (n := st + te) (by omega) (by omega), if_neg (by omega)]
  | n + 1, t, p, cs, ht, hst, hp0, hp1, hc, hw, hn => by
    push_cast at ht
    obtain ⟨r, q, e, r0, r1, q0, q1⟩ := pick_ok hs hp0 hp1 (n := 3) (by omega)
    by_cases hz : r = 0
    · obtain ⟨k, cs', q', hk, hk2, hk3, hk4, hk5⟩ := arr_l0 hs a b st te h1 h2 h3 n (t + 1) q (cs ++ [t]) (by omega) (by omega) q0 q1 (fun x hx => by
        rcases List.mem_append.mp hx with h | h
        · have := hc x h; omega
        · rw [List.mem_singleton] at h; omega) (List.pairwise_append.mpr ⟨hw, List.pairwise_singleton _ _, fun x hx y hy => by rw [List.mem_singleton] at hy; have := hc x hx; omega⟩) (by simp; omega)
      refine ⟨k + 1, cs', q', ?_, hk2, hk3, hk4, hk5⟩
      rw [storagebarterplay_Dice_Arrangement.l0, w64 (n := st + te) (by omega) (by omega), if_pos (by omega), e]
      simp only [Option.bind_some]
      rw [if_pos hz, if_pos (by omega), w64 (n := t + 1) (by omega) (by omega), hk]
    · obtain ⟨k, cs', q', hk, hk2, hk3, hk4, hk5⟩ := arr_l0 hs a b st te h1 h2 h3 n (t + 1) q cs (by omega) (by omega) q0 q1 (fun x hx => by have := hc x hx; omega) hw (by omega)
      refine ⟨k + 1, cs', q', ?_, hk2, hk3, hk4, hk5⟩
      rw [storagebarterplay_Dice_Arrangement.l0, w64 (n := st + te) (by omega) (by omega), if_pos (by omega), e]
      simp only [Option.bind_some]
      rw [if_neg hz, w64 (n := t + 1) (by omega) (by omega), hk]
theorem arr_ok {l : List Int} (hs : Seeds l) {p n : Int} (hp0 : 0 ≤ p) (hp1 : p ≤ l.length) (hn : 2 ≤ n) (hn2 : n ≤ 16) : ∃ k a b st te cs q, storagebarterplay_Dice_Arrangement.f k l p n = some (a, b, st, te, cs, q) ∧ 1 ≤ a ∧ a ≤ n ∧ 1 ≤ b ∧ b ≤ n ∧ a ≠ b ∧ 0 ≤ st ∧ st ≤ 2 ∧ 1 ≤ te ∧ te ≤ 3 ∧ checksOK st te cs ∧ cs.length ≤ 1000 ∧ 0 ≤ q ∧ q ≤ l.length := by
  obtain ⟨r1, q1, e1, a1, b1, m1, n1⟩ := pick_ok hs hp0 hp1 (n := n) (by omega)
  obtain ⟨r2, q2, e2, a2, b2, m2, n2⟩ := pick_ok hs m1 n1 (n := 3) (by omega)
  obtain ⟨r3, q3, e3, a3, b3, m3, n3⟩ := pick_ok hs m2 n2 (n := 3) (by omega)
  obtain ⟨r4, q4, e4, a4, b4, m4, n4⟩ := pick_ok hs m3 n3 (n := n - 1) (by omega)
  have hsec : ∃ s, (1 + r1 + r4).tmod n = s ∧ 0 ≤ s ∧ s < n ∧ s ≠ r1 := by
    refine ⟨_, rfl, Int.tmod_nonneg _ (by omega), Int.tmod_lt_of_pos _ (by omega), ?_⟩
    rw [Int.tmod_eq_emod_of_nonneg (by omega)]
    rcases Int.lt_or_le (1 + r1 + r4) n with h | h
    · rw [Int.emod_eq_of_lt (by omega) h]; omega
    · rw [show (1 + r1 + r4) % n = 1 + r1 + r4 - n from by rw [← Int.sub_emod_right, Int.emod_eq_of_lt (by omega) (by omega)]]; omega
  obtain ⟨s, hs', s0, s1, s2⟩ := hsec
  obtain ⟨k, cs, q, hk, hk2, hk3, hk4, hk5⟩ := arr_l0 hs (1 + r1) (1 + s) r2 (1 + r3) a2 (by omega) (by omega) (1 + r3).toNat (r2 + 1) q4 [] (by omega) (by omega) m4 n4 (fun x hx => by cases hx) List.Pairwise.nil (by simp; omega)
  refine ⟨k, 1 + r1, 1 + s, r2, 1 + r3, cs, q, ?_, by omega, by omega, by omega, by omega, by omega, by omega, by omega, by omega, by omega, hk2, hk3, hk4, hk5⟩
  unfold storagebarterplay_Dice_Arrangement.f
  rw [e1]
  simp only [Option.bind_some]
  rw [e2]
  simp only [Option.bind_some]
  rw [e3]
  simp only [Option.bind_some]
  rw [w64 (n := n - 1) (by omega) (by omega), e4]
  simp only [Option.bind_some]
  rw [if_neg (by omega), w64 (n := r2 + 1) (by omega) (by omega), w64 (n := 1 + r1) (by omega) (by omega), w64 (n := 1 + r1 + r4) (by omega) (by omega), hs', w64 (n := 1 + s) (by omega) (by omega), w64 (n := 1 + r3) (by omega) (by omega), hk]

/-! plans exist, and are short -/
theorem c30_valid_l0 (a b st te : Int) (cs : List Int) (hl : cs.length ≤ 100000) : ∀ (t : List Int) (x i : Int), 0 ≤ i → i ≤ cs.length → cs.drop i.toNat = t → ∃ v, Ev (fun k => storagebarterref28_Valid.l0 k x i a b st te cs) v
  | [], x, i, h0, hi, hd => by
    have := drop_len h0 hi hd
    exact ⟨true, ev_up (ev_some true) (fun k => by rw [storagebarterref28_Valid.l0, if_neg (by simp at this; omega)])⟩
  | e :: t, x, i, h0, hi, hd => by
    have hl2 := drop_len h0 hi hd
    rw [List.length_cons] at hl2
    push_cast at hl2
    obtain ⟨v, hk⟩ := c30_valid_l0 a b st te cs hl t (rd cs i) (i + 1) (by omega) (by omega) (drop_next h0 hd)
    by_cases c1 : rd cs i ≤ x
    · exact ⟨false, ev_up (ev_some false) (fun k => by rw [storagebarterref28_Valid.l0, if_pos (by omega), if_pos h0, if_pos c1])⟩
    · by_cases c2 : rd cs i > wrap64 (st + te)
      · exact ⟨false, ev_up (ev_some false) (fun k => by rw [storagebarterref28_Valid.l0, if_pos (by omega), if_pos h0, if_neg c1, if_pos c2])⟩
      · exact ⟨v, ev_up hk (fun k => by rw [storagebarterref28_Valid.l0, if_pos (by omega), if_pos h0, if_neg c1, if_neg c2, w64 (n := i + 1) (by omega) (by omega)])⟩
theorem c30_valid_j0 (c : Bool) (a b st te : Int) (cs : List Int) (hl : cs.length ≤ 100000) : ∃ v, Ev (fun k => storagebarterref28_Valid.j0 k c a b st te cs) v := by
  cases c with
  | true => exact ⟨false, ev_up (ev_some false) (fun k => by rw [storagebarterref28_Valid.j0, if_pos rfl])⟩
  | false =>
    obtain ⟨v, hv⟩ := c30_valid_l0 a b st te cs hl cs st 0 (Int.le_refl _) (by omega) rfl
    exact ⟨v, ev_up hv (fun k => by rw [storagebarterref28_Valid.j0, if_neg (by decide)])⟩
theorem c30_valid (a b st te : Int) (cs : List Int) (hl : cs.length ≤ 100000) : ∃ v, Ev (fun k => storagebarterref28_Valid.f k a b st te cs) v := by
  unfold storagebarterref28_Valid.f
  split
  · exact c30_valid_j0 true a b st te cs hl
  split
  · exact c30_valid_j0 true a b st te cs hl
  split
  · exact c30_valid_j0 true a b st te cs hl
  split
  · exact c30_valid_j0 true a b st te cs hl
  split
  · exact c30_valid_j0 true a b st te cs hl
  split
  · exact c30_valid_j0 true a b st te cs hl
  split
  · exact c30_valid_j0 true a b st te cs hl
  split
  · exact c30_valid_j0 true a b st te cs hl
  split
  · exact c30_valid_j0 true a b st te cs hl
  exact c30_valid_j0 _ a b st te cs hl
theorem c30_has_l0 (cs : List Int) (hl : cs.length ≤ 100000) (x : Int) : ∀ (t : List Int) (i : Int), 0 ≤ i → i ≤ cs.length → cs.drop i.toNat = t → ∃ v, Ev (fun k => storagebarterref28_Has.l0 k cs x i) v
  | [], i, h0, hi, hd => by
    have := drop_len h0 hi hd
    exact ⟨false, ev_up (ev_some false) (fun k => by rw [storagebarterref28_Has.l0, if_neg (by simp at this; omega)])⟩
  | e :: t, i, h0, hi, hd => by
    have hl2 := drop_len h0 hi hd
    rw [List.length_cons] at hl2
    push_cast at hl2
    obtain ⟨v, hk⟩ := c30_has_l0 cs hl x t (i + 1) (by omega) (by omega) (drop_next h0 hd)
    by_cases c : rd cs i = x
    · exact ⟨true, ev_up (ev_some true) (fun k => by rw [storagebarterref28_Has.l0, if_pos (by omega), if_pos h0, if_pos c])⟩
    · exact ⟨v, ev_up hk (fun k => by rw [storagebarterref28_Has.l0, if_pos (by omega), if_pos h0, if_neg c, w64 (n := i + 1) (by omega) (by omega)])⟩
theorem c30_both (a b st te : Int) (cs : List Int) (t slot kd : Int) : ∃ L : List S56, storagebarterref28_both.f a b st te cs t slot kd = some L ∧ L.length = 2 := ⟨_, rfl, rfl⟩
theorem c30_plan_l1 (a b st te slot : Int) (cs : List Int) (settle : Bool) (hl : cs.length ≤ 100000) (h0 : 0 ≤ st) (h1 : 1 ≤ te) (h2 : st + te ≤ 16) : ∀ (n : Nat) (t : Int) (acc : List S56), t + n = st + te + 1 → st < t → acc.length + 4 * n ≤ 1000 → ∃ L : List S56, Ev (fun k => storagebarterref28_Plan.l1 k slot settle acc t a b st te cs) (L, 0) ∧ L.length ≤ acc.length + 4 * n + 2
  | 0, t, acc, ht, hs, hn => by
    cases settle
    · exact ⟨acc, ev_up (ev_some _) (fun k => by rw [storagebarterref28_Plan.l1, w64 (n := st + te) (by omega) (by omega), if_neg (by omega), if_neg (by decide)]), by omega⟩
    · obtain ⟨L, e, l⟩ := c30_both a b st te cs (wrap64 (wrap64 (st + te) + 1)) slot 7
      refine ⟨acc ++ L, ev_up (ev_some _) (fun k => ?_), by simp; omega⟩
      rw [storagebarterref28_Plan.l1, e, w64 (n := st + te) (by omega) (by omega), if_neg (by omega), if_pos rfl]
      simp only [Option.bind_some]
      rw [if_pos (by omega)]
  | n + 1, t, acc, ht, hs, hn => by
    push_cast at ht
    obtain ⟨v, e1⟩ := c30_has_l0 cs hl t cs 0 (Int.le_refl _) (by omega) rfl
    obtain ⟨L5, e5, l5⟩ := c30_both a b st te cs t slot 5
    obtain ⟨L6, e6, l6⟩ := c30_both a b st te cs t slot 6
    cases v with
    | true =>
      obtain ⟨L, hk, hL⟩ := c30_plan_l1 a b st te slot cs settle hl h0 h1 h2 n (t + 1) (acc ++ L5 ++ L6) (by omega) (by omega) (by simp; omega)
      refine ⟨L, ?_, by simp at hL; omega⟩
      obtain ⟨K1, f1⟩ := e1
      obtain ⟨K2, f2⟩ := hk
      refine ⟨K1 + K2 + 1, fun k hk => ?_⟩
      obtain ⟨k, rfl, hk⟩ := k_succ hk
      dsimp only at f1 f2 ⊢
      rw [storagebarterref28_Plan.l1, w64 (n := st + te) (by omega) (by omega), if_pos (by omega), e5]
      simp only [Option.bind_some]
      rw [if_pos (by omega), storagebarterref28_Has.f, f1 k (by omega)]
      simp only [Option.bind_some, if_true]
      rw [e6]
      simp only [Option.bind_some]
      rw [if_pos (by simp; omega), w64 (n := t + 1) (by omega) (by omega), f2 k (by omega)]
    | false =>
      obtain ⟨L, hk, hL⟩ := c30_plan_l1 a b st te slot cs settle hl h0 h1 h2 n (t + 1) (acc ++ L5) (by omega) (by omega) (by simp; omega)
      refine ⟨L, ?_, by simp at hL; omega⟩
      obtain ⟨K1, f1⟩ := e1
      obtain ⟨K2, f2⟩ := hk
      refine ⟨K1 + K2 + 1, fun k hk => ?_⟩
      obtain ⟨k, rfl, hk⟩ := k_succ hk
      dsimp only at f1 f2 ⊢
      rw [storagebarterref28_Plan.l1, w64 (n := st + te) (by omega) (by omega), if_pos (by omega), e5]
      simp only [Option.bind_some]
      rw [if_pos (by omega), storagebarterref28_Has.f, f1 k (by omega)]
      simp only [Option.bind_some]
      rw [if_neg (by decide), w64 (n := t + 1) (by omega) (by omega), f2 k (by omega)]
theorem c30_plan_l0 (a b st te slot : Int) (cs : List Int) (settle : Bool) (hl : cs.length ≤ 100000) (h0 : 0 ≤ st) (h1 : 1 ≤ te) (h2 : st + te ≤ 16) : ∀ (n : Nat) (kd : Int) (acc : List S56), kd + n = 5 → 1 ≤ kd → acc.length + 2 * n ≤ 100 → ∃ L : List S56, Ev (fun k => storagebarterref28_Plan.l0 k slot settle acc kd a b st te cs) (L, 0) ∧ L.length ≤ acc.length + 2 * n + 4 * te.toNat + 2
  | 0, kd, acc, hk, h1k, ha => by
    obtain ⟨L, e, l⟩ := c30_plan_l1 a b st te slot cs settle hl h0 h1 h2 te.toNat (st + 1) acc (by omega) (by omega) (by omega)
    exact ⟨L, ev_up e (fun k => by rw [storagebarterref28_Plan.l0, if_neg (by omega), w64 (n := st + 1) (by omega) (by omega)]), by omega⟩
  | n + 1, kd, acc, hk, h1k, ha => by
    obtain ⟨L5, e5, l5⟩ := c30_both a b st te cs st slot kd
    obtain ⟨L, e, l⟩ := c30_plan_l0 a b st te slot cs settle hl h0 h1 h2 n (kd + 1) (acc ++ L5) (by omega) (by omega) (by simp; omega)
    refine ⟨L, ev_up e (fun k => ?_), by simp at l; omega⟩
    rw [storagebarterref28_Plan.l0, if_pos (by omega), e5]
    simp only [Option.bind_some]
    rw [if_pos (by omega), w64 (n := kd + 1) (by omega) (by omega)]
theorem c30_plan (a b st te slot : Int) (cs : List Int) (settle : Bool) (hl : cs.length ≤ 100000) (h0 : 0 ≤ st) (h1 : 1 ≤ te) (h2 : st + te ≤ 16) (h3 : te ≤ 3) (s0 : 0 ≤ slot) (s1 : slot < 6) : ∃ (L : List S56) (e : Int), Ev (fun k => storagebarterref28_Plan.f k a b st te cs slot settle) (L, e) ∧ L.length ≤ 22 := by
  obtain ⟨v, K1, hv⟩ := c30_valid a b st te cs hl
  dsimp only at hv
  cases v with
  | false =>
    refine ⟨[], 44, ⟨K1 + 1, fun k hk => ?_⟩, by simp⟩
    obtain ⟨k, rfl, hk⟩ := k_succ hk
    dsimp only
    unfold storagebarterref28_Plan.f
    rw [if_neg (by omega), decide_eq_false (by omega), storagebarterref28_Plan.j0, if_neg (by decide), hv k (by omega)]
    rfl
  | true =>
    obtain ⟨L, ⟨K2, e⟩, l⟩ := c30_plan_l0 a b st te slot cs settle hl h0 h1 h2 4 1 [] (by omega) (by omega) (by simp)
    dsimp only at e
    refine ⟨L, 0, ⟨K1 + K2 + 1, fun k hk => ?_⟩, by simp at l; omega⟩
    obtain ⟨k, rfl, hk⟩ := k_succ hk
    dsimp only
    unfold storagebarterref28_Plan.f
    rw [if_neg (by omega), decide_eq_false (by omega), storagebarterref28_Plan.j0, if_neg (by decide), hv k (by omega)]
    simp only [Option.bind_some, if_true]
    exact e k (by omega)
/-! merging -/
theorem c30_l2 (ls : List (List S56)) (i j d0 d1 d2 d3 : Int) (P : List S56 → Prop) : ∀ (n : Nat) (A : List S56) (x : Int), x = n → n ≤ A.length → A.length ≤ 1000 → (∀ A' : List S56, A'.length = A.length + 1 → ∃ r, P r ∧ Ev (fun k => storagebarterref28_Merge.l1 k ls A' i (wrap64 (j + 1))) r) → ∃ r, P r ∧ Ev (fun k => storagebarterref28_Merge.l2 k ls A i j x d0 d1 d2 d3) r
  | 0, A, x, hx, hn, hl, h => by
    obtain rfl : x = 0 := hx
    obtain ⟨r, hp, he⟩ := h ([] ++ A.take 0 ++ [⟨d0, d1, d2, d3⟩] ++ A.drop 0) (by simp)
    refine ⟨r, hp, ev_up he (fun k => ?_)⟩
    rw [storagebarterref28_Merge.l2, if_neg (by omega), if_pos (by omega), if_pos (by omega)]
    simp only [Option.bind_some, Int.toNat_zero]
    rw [if_pos (by simp), if_pos (by simp), if_pos (by simp; omega)]
  | n + 1, A, x, hx, hn, hl, h => by
    push_cast at hx
    obtain ⟨r, hp, he⟩ := h ([] ++ A.take x.toNat ++ [⟨d0, d1, d2, d3⟩] ++ A.drop x.toNat) (by simp; omega)
    obtain ⟨r', hp', he'⟩ := c30_l2 ls i j d0 d1 d2 d3 P n A (x - 1) (by omega) (by omega) hl h
    have hst : ∀ k, (if 0 ≤ x then (if x ≤ (A.length : Int) then ((some (A.take (x : Int).toNat : List (S56))).bind fun y188 => (if ([] : List (S56)).length + y188.length < 4398046511104 then ((some (([] : List (S56)) ++ y188 : List (S56))).bind fun y192 => (if y192.length < 4398046511104 then ((some (y192 ++ [(⟨d0, d1, d2, d3⟩ : S56)] : List (S56))).bind fun y195 => ((some (A.drop (x : Int).toNat : List (S56))).bind fun y198 => (if y195.length + y198.length < 4398046511104 then (storagebarterref28_Merge.l1 k ls (y195 ++ y198) i (wrap64 (j + 1))) else (none)))) else (none))) else (none))) else (none)) else (none)) = storagebarterref28_Merge.l1 k ls ([] ++ A.take x.toNat ++ [⟨d0, d1, d2, d3⟩] ++ A.drop x.toNat) i (wrap64 (j + 1)) := fun k => by
      rw [if_pos (by omega), if_pos (by omega)]
      simp only [Option.bind_some]
      rw [if_pos (by simp; omega), if_pos (by simp; omega), if_pos (by simp; omega)]
    have hw : wrap64 (x - 1) = x - 1 := w64 (by omega) (by omega)
    by_cases c1 : (rd_T56 A (x - 1)).f0 > d0
    · refine ⟨r', hp', ev_up he' (fun k => ?_)⟩
      rw [storagebarterref28_Merge.l2, hw, if_pos (by omega), if_pos (by omega), if_pos (by omega), if_pos c1]
    · by_cases c2 : (rd_T56 A (x - 1)).f0 = d0
      · by_cases c3 : (rd_T56 A (x - 1)).f1 > d1
        · refine ⟨r', hp', ev_up he' (fun k => ?_)⟩
          rw [storagebarterref28_Merge.l2, hw, if_pos (by omega), if_pos (by omega), if_pos (by omega), if_neg c1, if_pos c2, if_pos c3]
        · refine ⟨r, hp, ev_up he (fun k => ?_)⟩
          rw [storagebarterref28_Merge.l2, hw, if_pos (by omega), if_pos (by omega), if_pos (by omega), if_neg c1, if_pos c2, if_neg c3]
          exact hst k
      · refine ⟨r, hp, ev_up he (fun k => ?_)⟩
        rw [storagebarterref28_Merge.l2, hw, if_pos (by omega), if_pos (by omega), if_pos (by omega), if_neg c1, if_neg c2]
        exact hst k
theorem c30_l1 (ls : List (List S56)) (i : Int) (hi0 : 0 ≤ i) (hi1 : i < ls.length) (P : List S56 → Prop) (hq : (rd_L4 ls i).length ≤ 100) (m : Nat) (hm : m ≤ 500) (h : ∀ A : List S56, A.length = m + (rd_L4 ls i).length → ∃ r, P r ∧ Ev (fun k => storagebarterref28_Merge.l0 k ls A (wrap64 (i + 1))) r) : ∀ (n : Nat) (A : List S56) (j : Int), 0 ≤ j → j + n = (rd_L4 ls i).length → (A.length : Int) = m + j → ∃ r, P r ∧ Ev (fun k => storagebarterref28_Merge.l1 k ls A i j) r
  | 0, A, j, h0, hj, hA => by
    obtain ⟨r, hp, he⟩ := h A (by omega)
    refine ⟨r, hp, ev_up he (fun k => ?_)⟩
    rw [storagebarterref28_Merge.l1, if_pos hi0, if_pos hi1, if_neg (by omega)]
  | n + 1, A, j, h0, hj, hA => by
    push_cast at hj
    obtain ⟨r, hp, he⟩ := c30_l2 ls i j (rd_T56 (rd_L4 ls i) j).f0 (rd_T56 (rd_L4 ls i) j).f1 (rd_T56 (rd_L4 ls i) j).f2 (rd_T56 (rd_L4 ls i) j).f3 P A.length A A.length rfl (Nat.le_refl _) (by omega) (fun A' hA' => by
      rw [w64 (n := j + 1) (by omega) (by omega)]
      exact c30_l1 ls i hi0 hi1 P hq m hm h n A' (j + 1) (by omega) (by omega) (by omega))
    refine ⟨r, hp, ev_up he (fun k => ?_)⟩
    rw [storagebarterref28_Merge.l1, if_pos hi0, if_pos hi1, if_pos (by omega), if_pos h0]
def sumL : List (List S56) → Nat
  | [] => 0
  | e :: t => e.length + sumL t
theorem c30_l0 (ls : List (List S56)) (hl : ls.length ≤ 10) (hq : ∀ e ∈ ls, e.length ≤ 22) : ∀ (t : List (List S56)) (A : List S56) (i : Int), 0 ≤ i → i ≤ ls.length → ls.drop i.toNat = t → A.length ≤ 22 * i.toNat → ∃ r : List S56, r.length = A.length + sumL t ∧ Ev (fun k => storagebarterref28_Merge.l0 k ls A i) r
  | [], A, i, h0, hi, hd, hA => by
    have := drop_len h0 hi hd
    exact ⟨A, rfl, ev_up (ev_some A) (fun k => by rw [storagebarterref28_Merge.l0, if_neg (by simp at this; omega)])⟩
  | e :: t, A, i, h0, hi, hd, hA => by
    have hl2 := drop_len h0 hi hd
    have hr : rd_L4 ls i = e := getD_at hd
    rw [List.length_cons] at hl2
    push_cast at hl2
    have he : e.length ≤ 22 := hq e (List.mem_of_mem_drop (by rw [hd]; exact List.mem_cons_self ..))
    obtain ⟨r, hp, he⟩ := c30_l1 ls i h0 (by omega) (fun r => r.length = A.length + sumL (e :: t)) (by rw [hr]; omega) A.length (by omega) (fun A' hA' => by
      rw [w64 (n := i + 1) (by omega) (by omega)]
      obtain ⟨r, h1, h2⟩ := c30_l0 ls hl hq t A' (i + 1) (by omega) (by omega) (drop_next h0 hd) (by rw [hr] at hA'; omega)
      exact ⟨r, by rw [hr] at hA'; rw [sumL]; omega, h2⟩) e.length A 0 (by omega) (by rw [hr]; omega) (by omega)
    exact ⟨r, hp, ev_up he (fun k => by rw [storagebarterref28_Merge.l0, if_pos (by omega)])⟩
theorem sumL_le {ls : List (List S56)} (hq : ∀ e ∈ ls, e.length ≤ 22) : sumL ls ≤ 22 * ls.length := by
  induction ls with
  | nil => simp [sumL]
  | cons e t ih =>
    have := hq e (List.mem_cons_self ..)
    have := ih (fun x hx => hq x (List.mem_cons_of_mem _ hx))
    simp [sumL]; omega
theorem c30_merge (ls : List (List S56)) (hl : ls.length ≤ 10) (hq : ∀ e ∈ ls, e.length ≤ 22) : ∃ r : List S56, Ev (fun k => storagebarterref28_Merge.f k ls) r ∧ r.length ≤ 22 * ls.length := by
  obtain ⟨r, h1, h2⟩ := c30_l0 ls hl hq ls [] 0 (Int.le_refl _) (by omega) rfl (by simp)
  exact ⟨r, h2, by have := sumL_le hq; simp at h1; omega⟩
theorem c30_lawplan_l0 {s : List Int} (hs : Seeds s) : ∀ (n : Nat) (ls : List (List S56)) (x p : Int), x = n → n ≤ 5 → ls.length + n ≤ 2 → (∀ e ∈ ls, e.length ≤ 22) → 0 ≤ p → p ≤ s.length → ∃ (r : List S56) (q : Int), Ev (fun k => storagebarterlaw30_plan.l0 k ls x s p) (r, q) ∧ r.length ≤ 44 ∧ 0 ≤ q ∧ q ≤ s.length
  | 0, ls, x, p, hx, hn, hl, hq, p0, p1 => by
    obtain rfl : x = 0 := hx
    obtain ⟨r, hr, hl'⟩ := c30_merge ls (by omega) hq
    refine ⟨r, p, ?_, by omega, p0, p1⟩
    obtain ⟨K, hK⟩ := hr
    refine ⟨K + 1, fun k hk => ?_⟩
    obtain ⟨k, rfl, hk⟩ := k_succ hk
    dsimp only at hK ⊢
    rw [storagebarterlaw30_plan.l0, if_neg (by omega), hK k (by omega)]
    rfl
  | n + 1, ls, x, p, hx, hn, hl, hq, p0, p1 => by
    push_cast at hx
    obtain ⟨k1, a, b, st, te, cs, q, e1, a1, a2, b1, b2, hab, t0, t1, u1, u2, hc, hcl, q0, q1⟩ := arr_ok hs p0 p1 (n := 3) (by omega) (by omega)
    obtain ⟨r, q', e2, r0, r1, m0, m1⟩ := pick_ok hs q0 q1 (n := 2) (by omega)
    obtain ⟨K1, f1⟩ := ev_of (g := fun k => storagebarterplay_Dice_Arrangement.f k s p 3) (storagebarterplay_Dice_Arrangement.mono _ _ _) ⟨k1, e1⟩
    obtain ⟨L, e, ⟨K2, f2⟩, hL⟩ := c30_plan a b st te x cs (r == 0) (by omega) t0 u1 (by omega) u2 (by omega) (by omega)
    obtain ⟨R, Q, ⟨K3, f3⟩, hR, Q0, Q1⟩ := c30_lawplan_l0 hs n (ls ++ [L]) (x - 1) q' (by omega) (by omega) (by simp; omega) (fun e he => by
      rcases List.mem_append.1 he with h | h
      · exact hq e h
      · rw [List.mem_singleton.1 h]; exact hL) m0 m1
    refine ⟨R, Q, ⟨K1 + K2 + K3 + 1, fun k hk => ?_⟩, hR, Q0, Q1⟩
    obtain ⟨k, rfl, hk⟩ := k_succ hk
    dsimp only at f1 f2 f3 ⊢
    rw [storagebarterlaw30_plan.l0, if_pos (by omega), f1 k (by omega)]
    simp only [Option.bind_some]
    rw [e2]
    simp only [Option.bind_some]
    rw [f2 k (by omega)]
    simp only [Option.bind_some]
    rw [if_pos (by omega), w64 (n := x - 1) (by omega) (by omega), f3 k (by omega)]
theorem c30_lawplan {s : List Int} (hs : Seeds s) {p : Int} (p0 : 0 ≤ p) (p1 : p ≤ s.length) : ∃ (r : List S56) (q : Int), Ev (fun k => storagebarterlaw30_plan.f k s p) (r, q) ∧ r.length ≤ 44 ∧ 0 ≤ q ∧ q ≤ s.length := by
  obtain ⟨r, q, e, r0, r1, m0, m1⟩ := pick_ok hs p0 p1 (n := 2) (by omega)
  obtain ⟨R, Q, h, hR, Q0, Q1⟩ := c30_lawplan_l0 hs (1 + r).toNat [] (1 + r) q (by omega) (by omega) (by simp; omega) (fun e he => by cases he) m0 m1
  refine ⟨R, Q, ?_, hR, Q0, Q1⟩
  unfold storagebarterlaw30_plan.f
  rw [e]
  simp only [Option.bind_some]
  rw [w64 (n := 1 + r) (by omega) (by omega)]
  exact h

/-! whose duties: the numbers -/
def ofL (L : List S56) (p : Int) : Nat → Int → List Int
  | 0, _ => []
  | n + 1, i => if (rd_T56 L i).f2 = p then i :: ofL L p n (i + 1) else ofL L p n (i + 1)
theorem ofL_mem {L : List S56} {p : Int} : ∀ {n : Nat} {i x : Int}, x ∈ ofL L p n i → i ≤ x ∧ x < i + n ∧ (rd_T56 L x).f2 = p
  | 0, i, x, h => by simp [ofL] at h
  | n + 1, i, x, h => by
    rw [ofL] at h
    push_cast
    by_cases c : (rd_T56 L i).f2 = p
    · rw [if_pos c] at h
      rcases List.mem_cons.1 h with rfl | h
      · exact ⟨by omega, by omega, c⟩
      · have := ofL_mem h; exact ⟨by omega, by omega, this.2.2⟩
    · rw [if_neg c] at h
      have := ofL_mem h; exact ⟨by omega, by omega, this.2.2⟩
theorem ofL_pw {L : List S56} {p : Int} : ∀ (n : Nat) (i : Int), (ofL L p n i).Pairwise (· < ·)
  | 0, i => List.Pairwise.nil
  | n + 1, i => by
    rw [ofL]
    split
    · refine List.pairwise_cons.2 ⟨fun x hx => ?_, ofL_pw n (i + 1)⟩
      have := ofL_mem hx; omega
    · exact ofL_pw n (i + 1)
theorem ofL_len {L : List S56} {p : Int} : ∀ (n : Nat) (i : Int), (ofL L p n i).length ≤ n
  | 0, i => by simp [ofL]
  | n + 1, i => by
    rw [ofL]
    have := ofL_len (L := L) (p := p) n (i + 1)
    split
    · simp; omega
    · omega
theorem c30_of_l0 (L : List S56) (hL : L.length ≤ 10000) (p : Int) : ∀ (n : Nat) (x : List Int) (i : Int), 0 ≤ i → i + n = L.length → x.length ≤ i → Ev (fun k => storagebarterref28_Of.l0 k L p x i) (x ++ ofL L p n i)
  | 0, x, i, h0, hi, hx => ev_up (ev_some _) (fun k => by rw [storagebarterref28_Of.l0, if_neg (by omega)]; simp [ofL])
  | n + 1, x, i, h0, hi, hx => by
    push_cast at hi
    rw [ofL]
    by_cases c : (rd_T56 L i).f2 = p
    · rw [if_pos c]
      have ih := c30_of_l0 L hL p n (x ++ [i]) (i + 1) (by omega) (by omega) (by simp; omega)
      refine ev_up (by simpa using ih) (fun k => ?_)
      rw [storagebarterref28_Of.l0, if_pos (by omega), if_pos h0, if_pos c, if_pos (by omega), w64 (n := i + 1) (by omega) (by omega)]
    · rw [if_neg c]
      refine ev_up (c30_of_l0 L hL p n x (i + 1) (by omega) (by omega) (by omega)) (fun k => ?_)
      rw [storagebarterref28_Of.l0, if_pos (by omega), if_pos h0, if_neg c, w64 (n := i + 1) (by omega) (by omega)]
def Ofs (L : List S56) (p : Int) : List Int := ofL L p L.length 0
theorem c30_of (L : List S56) (hL : L.length ≤ 10000) (p : Int) : Ev (fun k => storagebarterref28_Of.f k L p) (Ofs L p) := c30_of_l0 L hL p L.length [] 0 (Int.le_refl _) (by omega) (by simp)
/-! what the dice make -/
def Hows (acts : List S51) : Prop := ∀ a ∈ acts, 1 ≤ a.f1 ∧ a.f1 ≤ 3
theorem ofs_mem {L : List S56} {p x : Int} (h : x ∈ Ofs L p) : 0 ≤ x ∧ x < L.length ∧ (rd_T56 L x).f2 = p := by
  have := ofL_mem h
  exact ⟨this.1, by omega, this.2.2⟩
theorem ofs_pw (L : List S56) (p : Int) : (Ofs L p).Pairwise (· < ·) := ofL_pw _ _
theorem ofs_len (L : List S56) (p : Int) : (Ofs L p).length ≤ L.length := ofL_len _ _

/-! the tables of a peer -/
instance : DecidableEq S51 := fun a b => decidable_of_iff (a.f0 = b.f0 ∧ a.f1 = b.f1) (by cases a; cases b; simp)
def Tab (p : Int) (ns : List Int) (m : Nat) (i : Int) (acts : List S51) (x : S39) : Prop := ∃ ext : List S51, x = ⟨p, acts ++ ext⟩ ∧ ext.length = m ∧ Hows ext ∧ (ext.map (·.f0)).Sublist (ns.drop i.toNat)
theorem drop_rd {ns : List Int} {i : Int} (h0 : 0 ≤ i) (h1 : i < ns.length) : ns.drop i.toNat = rd ns i :: ns.drop (i + 1).toNat := by
  rw [show (i + 1).toNat = i.toNat + 1 by omega, List.drop_eq_getElem_cons (by omega)]
  congr 1
  unfold rd
  rw [List.getD_eq_getElem?_getD, List.getElem?_eq_getElem (by omega)]
  rfl
theorem rou_mem {p : Int} {ns : List Int} {m : Nat} (hf : ∀ (i : Int) (acts : List S51) (x : S39), 0 ≤ i → x ∈ deviation_tables p ns m i acts → Tab p ns m i acts x) : ∀ (n : Nat) (i : Int) (acts : List S51) (x : S39), 0 ≤ i → (0 < n → i + n ≤ ns.length) → x ∈ deviation_rounds (deviation_tables p ns m) ns acts n i → ∃ (a : S51) (ext : List S51), x = ⟨p, acts ++ a :: ext⟩ ∧ ext.length = m ∧ Hows (a :: ext) ∧ ((a :: ext).map (·.f0)).Sublist (ns.drop i.toNat)
  | 0, i, acts, x, h0, hn, hx => by simp [deviation_rounds] at hx
  | n + 1, i, acts, x, h0, hn, hx => by
    have hi := hn (by omega)
    push_cast at hi
    rw [deviation_rounds] at hx
    rcases List.mem_append.1 hx with h | h
    · obtain ⟨hh, hm, hx⟩ := List.mem_flatMap.1 h
      obtain ⟨ext, rfl, hl, ho, hs⟩ := hf _ _ _ (by omega) hx
      refine ⟨⟨rd ns i, hh⟩, ext, by simp, hl, fun a ha => ?_, ?_⟩
      · rcases List.mem_cons.1 ha with rfl | ha
        · have : hh = 1 ∨ hh = 2 ∨ hh = 3 := by simpa using hm
          simp only; omega
        · exact ho a ha
      · rw [drop_rd h0 (by omega)]
        exact hs.cons_cons _
    · obtain ⟨a, ext, rfl, hl, ho, hs⟩ := rou_mem hf n (i + 1) acts x (by omega) (by omega) h
      refine ⟨a, ext, rfl, hl, ho, ?_⟩
      rw [drop_rd h0 (by omega)]
      exact hs.cons _
theorem tab_mem {p : Int} {ns : List Int} : ∀ (m : Nat) (i : Int) (acts : List S51) (x : S39), 0 ≤ i → x ∈ deviation_tables p ns m i acts → Tab p ns m i acts x
  | 0, i, acts, x, h0, hx => by
    rw [deviation_tables, List.mem_singleton] at hx
    exact ⟨[], by rw [hx, List.append_nil], rfl, (fun a ha => by cases ha), List.nil_sublist _⟩
  | m + 1, i, acts, x, h0, hx => by
    rw [deviation_tables] at hx
    obtain ⟨a, ext, e, hl, ho, hs⟩ := rou_mem (tab_mem m) _ i acts x h0 (by omega) hx
    exact ⟨a :: ext, e, by simp [hl], ho, hs⟩
/-! their order -/
def bf : List S51 → List S51 → Bool
  | a :: s, b :: t => if a.f0 = b.f0 then (if a.f1 = b.f1 then bf s t else decide (a.f1 < b.f1)) else decide (a.f0 < b.f0)
  | [], _ => false
  | _ :: _, [] => false
theorem bf_app : ∀ (A s t : List S51), bf (A ++ s) (A ++ t) = bf s t
  | [], s, t => rfl
  | a :: A, s, t => by
    show bf (a :: (A ++ s)) (a :: (A ++ t)) = _
    rw [bf, if_pos rfl, if_pos rfl, bf_app A s t]
theorem rou_pw {p : Int} {ns : List Int} (hns : ns.Pairwise (· < ·)) {m : Nat} (hf : ∀ (i : Int) (acts : List S51), 0 ≤ i → (deviation_tables p ns m i acts).Pairwise (fun x y => bf x.f1 y.f1 = true)) : ∀ (n : Nat) (i : Int) (acts : List S51), 0 ≤ i → (0 < n → i + n ≤ ns.length) → (deviation_rounds (deviation_tables p ns m) ns acts n i).Pairwise (fun x y => bf x.f1 y.f1 = true)
  | 0, i, acts, h0, hn => by rw [deviation_rounds]; exact List.Pairwise.nil
  | n + 1, i, acts, h0, hn => by
    have hi := hn (by omega)
    push_cast at hi
    have hd := drop_rd (ns := ns) h0 (by omega)
    have hpw : (rd ns i :: ns.drop (i + 1).toNat).Pairwise (· < ·) := by rw [← hd]; exact hns.sublist (List.drop_sublist _ _)
    have cross : ∀ (h h' : Int), h < h' → ∀ x ∈ deviation_tables p ns m (i + 1) (acts ++ [⟨rd ns i, h⟩]), ∀ y ∈ deviation_tables p ns m (i + 1) (acts ++ [⟨rd ns i, h'⟩]), bf x.f1 y.f1 = true := by
      intro h h' hh x hx y hy
      obtain ⟨e, rfl, _⟩ := tab_mem m _ _ _ (by omega) hx
      obtain ⟨e', rfl, _⟩ := tab_mem m _ _ _ (by omega) hy
      simp only [List.append_assoc, List.cons_append, List.nil_append]
      rw [bf_app, bf, if_pos rfl, if_neg (by simp only; omega)]
      exact decide_eq_true hh
    rw [deviation_rounds]
    simp only [List.flatMap_cons, List.flatMap_nil, List.append_nil]
    refine List.pairwise_append.2 ⟨List.pairwise_append.2 ⟨hf _ _ (by omega), List.pairwise_append.2 ⟨hf _ _ (by omega), hf _ _ (by omega), cross 2 3 (by omega)⟩, ?_⟩, rou_pw hns hf n (i + 1) acts (by omega) (by omega), ?_⟩
    · intro x hx y hy
      rcases List.mem_append.1 hy with h | h
      · exact cross 1 2 (by omega) x hx y h
      · exact cross 1 3 (by omega) x hx y h
    · intro x hx y hy
      obtain ⟨h, hx'⟩ : ∃ h, x ∈ deviation_tables p ns m (i + 1) (acts ++ [⟨rd ns i, h⟩]) := by
        rcases List.mem_append.1 hx with h | h
        · exact ⟨1, h⟩
        · rcases List.mem_append.1 h with h | h
          · exact ⟨2, h⟩
          · exact ⟨3, h⟩
      obtain ⟨e, rfl, _⟩ := tab_mem m _ _ _ (by omega) hx'
      obtain ⟨a, e', rfl, _, _, hs⟩ := rou_mem (tab_mem m) n (i + 1) acts y (by omega) (by omega) hy
      have hlt := (List.pairwise_cons.1 hpw).1 a.f0 (hs.subset (by simp))
      simp only [List.append_assoc, List.cons_append, List.nil_append]
      rw [bf_app, bf, if_neg (by simp only; omega)]
      exact decide_eq_true hlt
theorem tab_pw {p : Int} {ns : List Int} (hns : ns.Pairwise (· < ·)) : ∀ (m : Nat) (i : Int) (acts : List S51), 0 ≤ i → (deviation_tables p ns m i acts).Pairwise (fun x y => bf x.f1 y.f1 = true)
  | 0, i, acts, h0 => by rw [deviation_tables]; exact List.pairwise_singleton _ _
  | m + 1, i, acts, h0 => by
    rw [deviation_tables]
    exact rou_pw hns (tab_pw hns m) _ i acts h0 (by omega)
/-! how many -/
def cntR (g : Nat → Nat) : Nat → Nat → Nat
  | 0, _ => 0
  | n + 1, N => 3 * g (N - 1) + cntR g n (N - 1)
def cnt : Nat → Nat → Nat
  | 0, _ => 1
  | m + 1, N => cntR (cnt m) (N - m) N
def cntU : Nat → Nat → Nat
  | 0, _ => 0
  | n + 1, N => cntU n N + cnt n N
theorem rou_len {p : Int} {ns : List Int} {m : Nat} (hf : ∀ (i : Int) (acts : List S51), 0 ≤ i → (deviation_tables p ns m i acts).length = cnt m ((ns.length : Int) - i).toNat) : ∀ (n : Nat) (i : Int) (acts : List S51), 0 ≤ i → (deviation_rounds (deviation_tables p ns m) ns acts n i).length = cntR (cnt m) n ((ns.length : Int) - i).toNat
  | 0, i, acts, h0 => by rw [deviation_rounds, cntR]; rfl
  | n + 1, i, acts, h0 => by
    rw [deviation_rounds, cntR]
    simp only [List.flatMap_cons, List.flatMap_nil, List.append_nil, List.length_append]
    rw [hf _ _ (by omega), hf _ _ (by omega), hf _ _ (by omega), rou_len hf n (i + 1) acts (by omega), show ((ns.length : Int) - (i + 1)).toNat = ((ns.length : Int) - i).toNat - 1 by omega]
    omega
theorem tab_len {p : Int} {ns : List Int} : ∀ (m : Nat) (i : Int) (acts : List S51), 0 ≤ i → (deviation_tables p ns m i acts).length = cnt m ((ns.length : Int) - i).toNat
  | 0, i, acts, h0 => by rw [deviation_tables, cnt]; rfl
  | m + 1, i, acts, h0 => by
    rw [deviation_tables, cnt, rou_len (tab_len m) _ i acts h0, show ((ns.length : Int) - (m : Int) - i).toNat = ((ns.length : Int) - i).toNat - m by omega]
theorem upto_len (p : Int) (ns : List Int) : ∀ n : Nat, (deviation_upto p ns n).length = cntU n ns.length
  | 0 => rfl
  | n + 1 => by
    rw [deviation_upto, cntU, List.length_append, upto_len p ns n, tab_len n 0 [] (Int.le_refl _)]
    simp
/-! all of them -/
theorem sub_drop {A B : List Int} {x : Int} {t : List Int} (h : A.Sublist B) : A = x :: t → 0 < B.length := fun e => by
  have := h.length_le
  rw [e] at this
  simp at this
  omega
theorem rou_all {p : Int} {ns : List Int} {m : Nat} (hf : ∀ (i : Int) (acts ext : List S51), 0 ≤ i → (ext.map (·.f0)).Sublist (ns.drop i.toNat) → ext.length = m → Hows ext → (⟨p, acts ++ ext⟩ : S39) ∈ deviation_tables p ns m i acts) : ∀ (n : Nat) (i : Int) (acts : List S51) (a : S51) (ext : List S51), 0 ≤ i → n = ((ns.length : Int) - (m : Int) - i).toNat → ((a :: ext).map (·.f0)).Sublist (ns.drop i.toNat) → ext.length = m → Hows (a :: ext) → (⟨p, acts ++ a :: ext⟩ : S39) ∈ deviation_rounds (deviation_tables p ns m) ns acts n i
  | 0, i, acts, a, ext, h0, hn, hs, hl, ho => by
    have := hs.length_le
    simp at this
    omega
  | n + 1, i, acts, a, ext, h0, hn, hs, hl, ho => by
    have hi : i < ns.length := by omega
    rw [deviation_rounds]
    rw [drop_rd h0 hi] at hs
    rw [List.map_cons] at hs
    rcases List.sublist_cons_iff.1 hs with hs | ⟨r, he, hs⟩
    · exact List.mem_append_right _ (rou_all hf n (i + 1) acts a ext (by omega) (by omega) (by rw [List.map_cons]; exact hs) hl ho)
    · obtain ⟨h1, rfl⟩ := List.cons.inj he
      refine List.mem_append_left _ (List.mem_flatMap.2 ⟨a.f1, ?_, ?_⟩)
      · have := ho a (List.mem_cons_self ..)
        have : a.f1 = 1 ∨ a.f1 = 2 ∨ a.f1 = 3 := by omega
        simpa using this
      · have := hf (i + 1) (acts ++ [⟨a.f0, a.f1⟩]) ext (by omega) hs hl (fun x hx => ho x (List.mem_cons_of_mem _ hx))
        rw [← h1]
        simpa using this
theorem tab_all {p : Int} {ns : List Int} : ∀ (m : Nat) (i : Int) (acts ext : List S51), 0 ≤ i → (ext.map (·.f0)).Sublist (ns.drop i.toNat) → ext.length = m → Hows ext → (⟨p, acts ++ ext⟩ : S39) ∈ deviation_tables p ns m i acts
  | 0, i, acts, ext, h0, hs, hl, ho => by
    obtain rfl := List.eq_nil_of_length_eq_zero hl
    rw [deviation_tables, List.append_nil]
    exact List.mem_singleton.2 rfl
  | m + 1, i, acts, [], h0, hs, hl, ho => by simp at hl
  | m + 1, i, acts, a :: ext, h0, hs, hl, ho => by
    rw [deviation_tables]
    exact rou_all (tab_all m) _ i acts a ext h0 rfl hs (by simpa using hl) ho
theorem upto_mem {p : Int} {ns : List Int} : ∀ {n : Nat} {x : S39}, x ∈ deviation_upto p ns n → ∃ m, m < n ∧ x ∈ deviation_tables p ns m 0 []
  | 0, x, h => by simp [deviation_upto] at h
  | n + 1, x, h => by
    rw [deviation_upto] at h
    rcases List.mem_append.1 h with h | h
    · obtain ⟨m, hm, hx⟩ := upto_mem h
      exact ⟨m, by omega, hx⟩
    · exact ⟨n, by omega, h⟩
theorem upto_sub {p : Int} {ns : List Int} : ∀ {n m : Nat} {x : S39}, m < n → x ∈ deviation_tables p ns m 0 [] → x ∈ deviation_upto p ns n
  | 0, m, x, h, _ => absurd h (by omega)
  | n + 1, m, x, h, hx => by
    rw [deviation_upto]
    by_cases c : m = n
    · subst c; exact List.mem_append_right _ hx
    · exact List.mem_append_left _ (upto_sub (by omega) hx)
theorem upto_tab {p : Int} {ns : List Int} {n : Nat} {x : S39} (h : x ∈ deviation_upto p ns n) : x.f0 = p ∧ x.f1.length < n ∧ Hows x.f1 ∧ (x.f1.map (·.f0)).Sublist ns := by
  obtain ⟨m, hm, hx⟩ := upto_mem h
  obtain ⟨ext, rfl, hl, ho, hs⟩ := tab_mem m 0 [] x (Int.le_refl _) hx
  exact ⟨rfl, by simp; omega, by simpa using ho, by simpa using hs⟩
def lt_ (a b : List S51) : Bool := if a.length = b.length then bf a b else decide (a.length < b.length)
theorem upto_pw {p : Int} {ns : List Int} (hns : ns.Pairwise (· < ·)) : ∀ n : Nat, (deviation_upto p ns n).Pairwise (fun x y => lt_ x.f1 y.f1 = true)
  | 0 => by rw [deviation_upto]; exact List.Pairwise.nil
  | n + 1 => by
    rw [deviation_upto]
    refine List.pairwise_append.2 ⟨upto_pw hns n, ?_, ?_⟩
    · refine (tab_pw hns n 0 [] (Int.le_refl _)).imp_of_mem (fun {x y} hx hy h => ?_)
      obtain ⟨e, rfl, hl, _⟩ := tab_mem n 0 [] x (Int.le_refl _) hx
      obtain ⟨e', rfl, hl', _⟩ := tab_mem n 0 [] y (Int.le_refl _) hy
      rw [lt_, if_pos (by simp [hl, hl'])]
      exact h
    · intro x hx y hy
      have h1 := upto_tab hx
      obtain ⟨e', rfl, hl', _⟩ := tab_mem n 0 [] y (Int.le_refl _) hy
      have h2 : x.f1.length < ([] ++ e').length := by simp [hl']; exact h1.2.1
      rw [lt_, if_neg (by simp only; omega)]
      exact decide_eq_true h2
theorem upto_head (p : Int) (ns : List Int) : ∀ n : Nat, ∃ t, deviation_upto p ns (n + 1) = (⟨p, []⟩ : S39) :: t
  | 0 => ⟨[], rfl⟩
  | n + 1 => by
    obtain ⟨t, ht⟩ := upto_head p ns n
    rw [deviation_upto, ht]
    exact ⟨_, rfl⟩

theorem rof_l0 (L : List S56) (p : Int) : ∀ (k : Nat) (x : List Int) (i : Int), storagebarterref28_Of.l0 k L p x i = duty_Of.l0 k p x L (L.length : Int) i
  | 0, _, _ => by rw [storagebarterref28_Of.l0, duty_Of.l0]
  | k + 1, x, i => by
    rw [storagebarterref28_Of.l0, duty_Of.l0]
    simp only [rof_l0 L p k]
    by_cases c : i < L.length
    · rw [if_pos c, if_pos c, if_pos c]
    · rw [if_neg c, if_neg c]
theorem rof (L : List S56) (p : Int) (k : Nat) : storagebarterref28_Of.f k L p = duty_Of.f k L p := rof_l0 L p k [] 0

/-! ### how many tables: both countings -/
theorem dcount_most (n : Int) (hn : 0 ≤ n) {m m' : Int} (h : mn n m = mn n m') : ∀ (k : Nat) (a b c : Int), deviation_Count.l0 k n m a b c = deviation_Count.l0 k n m' a b c
  | 0, a, b, c => by rw [deviation_Count.l0, deviation_Count.l0]
  | k + 1, a, b, c => by rw [deviation_Count.l0, deviation_Count.l0, h]; simp only [dcount_most n hn h k]
theorem dcount_cap (n m : Int) (hn : 0 ≤ n) (hm : n ≤ m) (k : Nat) : deviation_Count.f k n m = deviation_Count.f k n n := by
  have e : mn n m = mn n n := by unfold mn; split <;> split <;> omega
  unfold deviation_Count.f
  rw [if_neg (by omega), if_neg (by omega), decide_eq_false (by omega), decide_eq_false (by omega)]
  cases k with
  | zero => rw [deviation_Count.j0, deviation_Count.j0]
  | succ k => rw [deviation_Count.j0, deviation_Count.j0, dcount_most n hn e]
theorem rcount_most (n m : Int) (hm : n ≤ m) : ∀ (k : Nat) (a b c : Int), storagebarterref30_Count.l0 k n m a b c = storagebarterref30_Count.l0 k n n a b c ∧ ∀ d : Bool, (d = true → c ≤ n) → storagebarterref30_Count.j2 k n m a b c d = storagebarterref30_Count.j2 k n n a b c d
  | 0, a, b, c => ⟨by rw [storagebarterref30_Count.l0, storagebarterref30_Count.l0], fun d hd => by rw [storagebarterref30_Count.j2, storagebarterref30_Count.j2]⟩
  | k + 1, a, b, c => by
    have ih := rcount_most n m hm k
    refine ⟨?_, fun d hd => ?_⟩
    · rw [storagebarterref30_Count.l0, storagebarterref30_Count.l0]
      by_cases h1 : c ≤ n
      · rw [if_pos (by omega), if_pos h1]
        exact (ih a b c).2 _ (fun _ => h1)
      · rw [if_neg h1, decide_eq_false h1, ite_self]
        exact (ih a b c).2 _ (fun h => by cases h)
    · rw [storagebarterref30_Count.j2, storagebarterref30_Count.j2]
      cases d with
      | false => simp
      | true =>
        have hc := hd rfl
        simp only [if_true, fun x y z => (ih x y z).1]
        by_cases h1 : c < n
        · rw [if_pos (show c < m by omega), if_pos h1, if_pos h1]
        · rw [if_neg h1, if_neg h1, ite_self]
theorem rcount_cap (n m : Int) (hn : 0 ≤ n) (hm : n ≤ m) (k : Nat) : storagebarterref30_Count.f k n m = storagebarterref30_Count.f k n n := by
  unfold storagebarterref30_Count.f
  rw [if_neg (by omega), if_neg (by omega), decide_eq_false (by omega), decide_eq_false (by omega)]
  cases k with
  | zero => rw [storagebarterref30_Count.j0, storagebarterref30_Count.j0]
  | succ k => rw [storagebarterref30_Count.j0, storagebarterref30_Count.j0, (rcount_most n m hm k 0 1 0).1]
def cchk (N m : Nat) : Bool := match deviation_Count.f 20 (N : Int) (m : Int), storagebarterref30_Count.f 40 (N : Int) (m : Int) with
  | some (a, b), some (c, d) => decide (a = c) && (b == d) && decide (cntU (m + 1) N ≤ 1000000000)
  | _, _ => false
theorem cchk_all : (List.range 45).all (fun N => (List.range 13).all fun (m : Nat) => !(decide (m ≤ N ∧ (N ≤ 12 ∨ m ≤ 2))) || cchk N m) = true := by kernel_rfl
theorem cchk_ok (N m : Nat) (h : cchk N m = true) : ∃ c : Int × Bool, Ev (fun k => deviation_Count.f k (N : Int) (m : Int)) c ∧ Ev (fun k => storagebarterref30_Count.f k (N : Int) (m : Int)) c ∧ cntU (m + 1) N ≤ 1000000000 := by
  unfold cchk at h
  split at h
  · rename_i a b c d e1 e2
    simp only [Bool.and_eq_true, decide_eq_true_eq, beq_iff_eq] at h
    obtain ⟨⟨rfl, rfl⟩, h3⟩ := h
    exact ⟨_, ev_of (deviation_Count.mono _ _) ⟨20, e1⟩, ev_of (storagebarterref30_Count.mono _ _) ⟨40, e2⟩, h3⟩
  · cases h
theorem both_counts (N : Nat) (most : Int) (h0 : 0 ≤ most) (hN : N < 45) (h : N ≤ 12 ∨ most ≤ 2) : ∃ c : Int × Bool, Ev (fun k => deviation_Count.f k (N : Int) most) c ∧ Ev (fun k => storagebarterref30_Count.f k (N : Int) most) c ∧ cntU ((min most (N : Int)) + 1).toNat N ≤ 1000000000 := by
  have hall := cchk_all
  rw [List.all_eq_true] at hall
  have hall := hall N (List.mem_range.2 hN)
  rw [List.all_eq_true] at hall
  by_cases c : (N : Int) ≤ most
  · have hN2 : N ≤ 12 ∨ N ≤ 2 := by omega
    have h1 := hall N (List.mem_range.2 (by omega))
    rw [decide_eq_true (by omega)] at h1
    obtain ⟨x, a1, a2, a3⟩ := cchk_ok N N (by simpa using h1)
    refine ⟨x, ?_, ?_, ?_⟩
    · simpa only [dcount_cap (N : Int) most (by omega) c] using a1
    · simpa only [rcount_cap (N : Int) most (by omega) c] using a2
    · rw [show ((min most (N : Int)) + 1).toNat = N + 1 by omega]; exact a3
  · obtain ⟨m, rfl⟩ : ∃ m : Nat, (m : Int) = most := ⟨most.toNat, by omega⟩
    have h1 := hall m (List.mem_range.2 (by omega))
    rw [decide_eq_true (by omega)] at h1
    obtain ⟨x, a1, a2, a3⟩ := cchk_ok N m (by simpa using h1)
    refine ⟨x, a1, a2, ?_⟩
    rw [show ((min (m : Int) (N : Int)) + 1).toNat = m + 1 by omega]; exact a3
/-! ### the reference's tables -/
theorem tab_empty {p : Int} {ns : List Int} {m : Nat} {i : Int} {acts : List S51} (hm : 1 ≤ m) (h : (ns.length : Int) - i < m) : deviation_tables p ns m i acts = [] := by
  obtain ⟨m, rfl⟩ : ∃ q, m = q + 1 := ⟨m - 1, by omega⟩
  rw [deviation_tables, show ((ns.length : Int) - m - i).toNat = 0 by omega, deviation_rounds]
def Fs (l : List S39) : List (List S51) := l.map (·.f1)
theorem Fs_len (l : List S39) : (Fs l).length = l.length := List.length_map _
theorem Fs_app (a b : List S39) : Fs (a ++ b) = Fs a ++ Fs b := List.map_append
theorem rtab_l1 (p : Int) (D : List Int) (hD : D.length ≤ 100000) (m : Nat) (hm : m ≤ 100000) (acts : List S51) (ha : acts.length ≤ 100000) (acc : List (List S51)) (i : Int) (h0 : 0 ≤ i) (hi : i < D.length)
    (hf : ∀ h : Int, 1 ≤ h → h ≤ 3 → Ev (fun k => storagebarterref30_tables.f k D (i + 1) (m : Int) (acts ++ [⟨rd D i, h⟩])) (Fs (deviation_tables p D m (i + 1) (acts ++ [⟨rd D i, h⟩]))))
    (hl : acc.length + (([1, 2, 3] : List Int).flatMap (fun h => deviation_tables p D m (i + 1) (acts ++ [⟨rd D i, h⟩]))).length ≤ 1000000000) {r : List (List S51)}
    (hr : Ev (fun k => storagebarterref30_tables.l0 k D ((m : Int) + 1) acts (acc ++ Fs (([1, 2, 3] : List Int).flatMap (fun h => deviation_tables p D m (i + 1) (acts ++ [⟨rd D i, h⟩])))) (i + 1)) r) :
    Ev (fun k => storagebarterref30_tables.l1 k D ((m : Int) + 1) acts acc i 1) r := by
  simp only [List.flatMap_cons, List.flatMap_nil, List.append_nil, List.length_append] at hl hr
  obtain ⟨K1, f1⟩ := hf 1 (by omega) (by omega)
  obtain ⟨K2, f2⟩ := hf 2 (by omega) (by omega)
  obtain ⟨K3, f3⟩ := hf 3 (by omega) (by omega)
  obtain ⟨K4, f4⟩ := hr
  refine ⟨K1 + K2 + K3 + K4 + 4, fun k hk => ?_⟩
  dsimp only at f1 f2 f3 f4 ⊢
  have step : ∀ (k : Nat) (h : Int) (acc' : List (List S51)) (T : List (List S51)), 1 ≤ h → h ≤ 3 → storagebarterref30_tables.f k D (i + 1) (m : Int) (acts ++ [⟨rd D i, h⟩]) = some T → acc'.length + T.length ≤ 1000000000 →
      storagebarterref30_tables.l1 (k + 1) D ((m : Int) + 1) acts acc' i h = storagebarterref30_tables.l1 k D ((m : Int) + 1) acts (acc' ++ T) i (h + 1) := by
    intro k h acc' T g1 g3 hT hl
    rw [storagebarterref30_tables.l1, if_pos g3]
    simp only [Option.bind_some, List.nil_append]
    rw [if_pos (by simp; omega), if_pos h0, if_pos hi, if_pos (by simp; omega), w64 (n := i + 1) (by omega) (by omega), w64 (n := (m : Int) + 1 - 1) (by omega) (by omega), show (m : Int) + 1 - 1 = m by omega, hT]
    simp only [Option.bind_some]
    rw [if_pos (by omega), w64 (n := h + 1) (by omega) (by omega)]
  obtain ⟨k, rfl⟩ : ∃ q, k = q + 4 := ⟨k - 4, by omega⟩
  rw [step (k + 3) 1 _ _ (by omega) (by omega) (f1 (k + 3) (by omega)) (by rw [Fs_len]; omega), show (1 : Int) + 1 = 2 from rfl, step (k + 2) 2 _ _ (by omega) (by omega) (f2 (k + 2) (by omega)) (by rw [List.length_append, Fs_len, Fs_len]; omega), show (2 : Int) + 1 = 3 from rfl,
    step (k + 1) 3 _ _ (by omega) (by omega) (f3 (k + 1) (by omega)) (by rw [List.length_append, List.length_append, Fs_len, Fs_len, Fs_len]; omega), storagebarterref30_tables.l1, if_neg (by omega), w64 (n := i + 1) (by omega) (by omega)]
  have := f4 k (by omega)
  rw [Fs_app, Fs_app] at this
  rw [← this]
  simp [List.append_assoc]
theorem rtab_l0 (p : Int) (D : List Int) (hD : D.length ≤ 100000) (m : Nat) (hm : m ≤ 100000) (acts : List S51) (ha : acts.length ≤ 100000)
    (hf : ∀ (i : Int) (a : List S51), 0 ≤ i → i ≤ D.length → a.length ≤ acts.length + 1 → (deviation_tables p D m i a).length ≤ 1000000000 → Ev (fun k => storagebarterref30_tables.f k D i (m : Int) a) (Fs (deviation_tables p D m i a))) :
    ∀ (n : Nat) (acc : List (List S51)) (i : Int), 0 ≤ i → i + n = D.length → acc.length + (deviation_rounds (deviation_tables p D m) D acts ((D.length : Int) - m - i).toNat i).length ≤ 1000000000 →
    Ev (fun k => storagebarterref30_tables.l0 k D ((m : Int) + 1) acts acc i) (acc ++ Fs (deviation_rounds (deviation_tables p D m) D acts ((D.length : Int) - m - i).toNat i))
  | 0, acc, i, h0, hi, hl => by
    refine ev_up (ev_some _) (fun k => ?_)
    rw [storagebarterref30_tables.l0, if_neg (by omega), show ((D.length : Int) - m - i).toNat = 0 by omega, deviation_rounds]
    simp [Fs]
  | n + 1, acc, i, h0, hi, hl => by
    push_cast at hi
    by_cases c : ((D.length : Int) - m - i).toNat = 0
    · have hm1 : 1 ≤ m := by omega
      have he : ∀ h : Int, deviation_tables p D m (i + 1) (acts ++ [⟨rd D i, h⟩]) = [] := fun h => tab_empty hm1 (by omega)
      rw [c, deviation_rounds] at hl ⊢
      have ih := rtab_l0 p D hD m hm acts ha hf n acc (i + 1) (by omega) (by omega) (by rw [show ((D.length : Int) - m - (i + 1)).toNat = 0 by omega, deviation_rounds]; exact hl)
      rw [show ((D.length : Int) - m - (i + 1)).toNat = 0 by omega, deviation_rounds] at ih
      have := rtab_l1 p D hD m hm acts ha acc i h0 (by omega) (fun h _ _ => hf (i + 1) _ (by omega) (by omega) (by simp) (by rw [he]; simp)) (by simp [he]; simpa using hl) (by simpa [he, Fs] using ih)
      rw [show acc ++ Fs [] = acc by simp [Fs]]
      exact ev_up this (fun k => by rw [storagebarterref30_tables.l0, if_pos (by omega)])
    · obtain ⟨q, hq⟩ : ∃ q, ((D.length : Int) - m - i).toNat = q + 1 := ⟨((D.length : Int) - m - i).toNat - 1, by omega⟩
      rw [hq, deviation_rounds] at hl ⊢
      rw [List.length_append] at hl
      rw [Fs_app, ← List.append_assoc]
      have hq' : ((D.length : Int) - m - (i + 1)).toNat = q := by omega
      have ih := rtab_l0 p D hD m hm acts ha hf n (acc ++ Fs (([1, 2, 3] : List Int).flatMap (fun h => deviation_tables p D m (i + 1) (acts ++ [⟨rd D i, h⟩])))) (i + 1) (by omega) (by omega) (by rw [hq', List.length_append, Fs_len]; omega)
      rw [hq'] at ih
      have := rtab_l1 p D hD m hm acts ha acc i h0 (by omega) (fun h g1 g2 => hf (i + 1) _ (by omega) (by omega) (by simp) (by
        have hh : h = 1 ∨ h = 2 ∨ h = 3 := by omega
        simp only [List.flatMap_cons, List.flatMap_nil, List.append_nil, List.length_append] at hl
        rcases hh with rfl | rfl | rfl <;> omega)) (by omega) ih
      exact ev_up this (fun k => by rw [storagebarterref30_tables.l0, if_pos (by omega)])
theorem rtab (p : Int) (D : List Int) (hD : D.length ≤ 100000) : ∀ (m : Nat), m ≤ 50000 → ∀ (i : Int) (acts : List S51), 0 ≤ i → i ≤ D.length → acts.length + m ≤ 100000 → (deviation_tables p D m i acts).length ≤ 1000000000 → Ev (fun k => storagebarterref30_tables.f k D i (m : Int) acts) (Fs (deviation_tables p D m i acts))
  | 0, hm, i, acts, h0, hi, ha, hl => by
    refine ev_up (ev_some _) (fun k => ?_)
    rw [storagebarterref30_tables.f, if_pos (by omega)]
    simp only [Option.bind_some, List.nil_append]
    rw [if_pos (by simp; omega)]
    rfl
  | m + 1, hm, i, acts, h0, hi, ha, hl => by
    rw [deviation_tables] at hl ⊢
    have := rtab_l0 p D hD m (by omega) acts (by omega) (fun i a g0 g1 g2 g3 => rtab p D hD m (by omega) i a g0 g1 (by omega) g3) ((D.length : Int) - i).toNat [] i h0 (by omega) (by simpa using hl)
    refine ev_up (by simpa using this) (fun k => ?_)
    rw [storagebarterref30_tables.f, if_neg (by omega)]
    push_cast
    rfl
theorem tab_back (p : Int) (D : List Int) (m : Nat) (i : Int) (acts : List S51) (h0 : 0 ≤ i) : (Fs (deviation_tables p D m i acts)).map (fun a => (⟨p, a⟩ : S39)) = deviation_tables p D m i acts := by
  rw [Fs, List.map_map]
  refine (List.map_congr_left (fun x hx => ?_)).trans (List.map_id _)
  obtain ⟨e, rfl, _⟩ := tab_mem m i acts x h0 hx
  rfl
/-! ### all tables -/
theorem rall_l1 (p most : Int) (D : List Int) (j : Int) (T : List (List S51)) (hT : T.length ≤ 1000000000) {r : List S39 × Int} : ∀ (t : List (List S51)) (out : List S39) (i : Int), 0 ≤ i → i ≤ T.length → T.drop i.toNat = t → out.length + t.length ≤ 2000000000 →
    Ev (fun k => storagebarterref30_All.l0 k p most D (out ++ t.map (fun a => (⟨p, a⟩ : S39))) (wrap64 (j + 1))) r → Ev (fun k => storagebarterref30_All.l1 k p most D out j T i) r
  | [], out, i, h0, hi, hd, hl, h => by
    have h1 := drop_len h0 hi hd
    rw [List.map_nil, List.append_nil] at h
    exact ev_up h (fun k => by rw [storagebarterref30_All.l1, if_neg (by simp at h1; omega)])
  | e :: t, out, i, h0, hi, hd, hl, h => by
    have h1 := drop_len h0 hi hd
    rw [List.length_cons] at h1 hl
    push_cast at h1
    have hr : rd_L3 T i = e := getD_at hd
    have ih := rall_l1 p most D j T hT t (out ++ [⟨p, e⟩]) (i + 1) (by omega) (by omega) (drop_next h0 hd) (by simp; omega) (by simpa using h)
    exact ev_up ih (fun k => by rw [storagebarterref30_All.l1, if_pos (by omega), if_pos h0, if_pos (by omega), hr, w64 (n := i + 1) (by omega) (by omega)])
theorem rall_l0 (p most : Int) (D : List Int) (hD : D.length ≤ 10000) (N : Nat) (hN : (N : Int) = min most (D.length : Int) + 1) (hu : (deviation_upto p D N).length ≤ 1000000000) (h0 : 0 ≤ most) : ∀ (n j : Nat), j + n = N → Ev (fun k => storagebarterref30_All.l0 k p most D (deviation_upto p D j) (j : Int)) (deviation_upto p D N, 0)
  | 0, j, hj => by
    obtain rfl : j = N := by omega
    refine ⟨2, fun k hk => ?_⟩
    obtain ⟨k1, rfl, hk1⟩ := k_succ hk
    obtain ⟨k, rfl, hk2⟩ := k_succ hk1
    dsimp only
    rw [storagebarterref30_All.l0]
    by_cases c : (j : Int) ≤ most
    · rw [if_pos c, decide_eq_false (by omega), storagebarterref30_All.j2, if_neg (by decide)]
    · rw [if_neg c, storagebarterref30_All.j2, if_neg (by decide)]
  | n + 1, j, hj => by
    have hle : (deviation_upto p D (j + 1)).length ≤ (deviation_upto p D N).length := by
      have := deviation_upto_le p D N j (by omega)
      rw [deviation_upto]
      exact this
    have hle2 := hle
    rw [deviation_upto, List.length_append] at hle2
    obtain ⟨K1, e1⟩ := rtab p D (by omega) j (by omega) 0 [] (Int.le_refl _) (by omega) (by simp; omega) (by omega)
    have ih := rall_l0 p most D hD N hN hu h0 n (j + 1) (by omega)
    push_cast at ih
    have h2 := rall_l1 p most D (j : Int) (Fs (deviation_tables p D j 0 [])) (by rw [Fs_len]; omega) (r := (deviation_upto p D N, 0)) (Fs (deviation_tables p D j 0 [])) (deviation_upto p D j) 0 (Int.le_refl _) (by omega) rfl (by rw [Fs_len]; omega) (by
      rw [tab_back p D j 0 [] (Int.le_refl _), w64 (n := (j : Int) + 1) (by omega) (by omega)]
      rw [deviation_upto] at ih
      exact ih)
    obtain ⟨K2, e2⟩ := h2
    refine ⟨K1 + K2 + 2, fun k hk => ?_⟩
    obtain ⟨k1, rfl, hk1⟩ := k_succ hk
    obtain ⟨k, rfl, hk2⟩ := k_succ hk1
    dsimp only at e1 e2 ⊢
    rw [storagebarterref30_All.l0, if_pos (by omega), decide_eq_true (by omega), storagebarterref30_All.j2, if_pos rfl, e1 k (by omega)]
    simp only [Option.bind_some]
    exact e2 k (by omega)
theorem both_all (L : List S56) (p most : Int) (hL : L.length ≤ 44) (h : L.length ≤ 12 ∨ most ≤ 2) : ∃ r : List S39 × Int, Ev (fun k => deviation_All.f k L p most) r ∧ Ev (fun k => storagebarterref30_All.f k L p most) r ∧ r.1.length ≤ 1000000000 ∧ ∀ x ∈ r.1, x.f1.length ≤ 100 := by
  by_cases c : most < 0 ∨ p < 1 ∨ 16 < p
  · refine ⟨([], 1), ?_, ?_, by simp, fun x hx => by cases hx⟩
    · unfold deviation_All.f
      exact ev_pos c (ev_some _)
    · have hj : Ev (fun k => storagebarterref30_All.j0 k L p most true) (([] : List S39), (1 : Int)) := ev_up (ev_some _) (fun k => by rw [storagebarterref30_All.j0, if_pos rfl])
      unfold storagebarterref30_All.f
      by_cases c1 : most < 0
      · exact ev_pos c1 hj
      · refine ev_neg c1 ?_
        by_cases c2 : p < 1
        · exact ev_pos c2 hj
        · refine ev_neg c2 ?_
          rw [decide_eq_true (by omega)]
          exact hj
  · have hO := c30_of L (by omega) p
    have hOl := ofs_len L p
    obtain ⟨x, a1, a2, a3⟩ := both_counts (Ofs L p).length most (by omega) (by omega) (by omega)
    have hul := upto_len p (Ofs L p) ((min most ((Ofs L p).length : Int)) + 1).toNat
    have hrj : ∀ {r : List S39 × Int}, Ev (fun k => storagebarterref30_All.j0 k L p most false) r → Ev (fun k => storagebarterref30_All.f k L p most) r := fun {r} hj => by
      unfold storagebarterref30_All.f
      refine ev_neg (by omega) (ev_neg (by omega) ?_)
      rw [decide_eq_false (by omega)]
      exact hj
    obtain ⟨cn, ok⟩ := x
    cases ok with
    | false =>
      refine ⟨([], 4), ?_, hrj ?_, by simp, fun x hx => by cases hx⟩
      · unfold deviation_All.f
        exact ev_neg c (ev_bind (by simpa only [rof] using hO) (ev_bind a1 (ev_pos rfl (ev_some _))))
      · have := ev_bind (f := fun k t => (storagebarterref30_Count.f k (t.length : Int) most).bind fun bt296 => (if bt296.2 = true then (storagebarterref30_All.l0 k p most t ([] : List S39) 0) else (some (([] : List S39), 4)))) hO (ev_bind a2 (ev_neg (by simp) (ev_some _)))
        exact ev_up this (fun k => by rw [storagebarterref30_All.j0, if_neg (by decide)])
    | true =>
      refine ⟨(deviation_upto p (Ofs L p) ((min most ((Ofs L p).length : Int)) + 1).toNat, 0), ?_, hrj ?_, by simp only; omega, fun x hx => ?_⟩
      · unfold deviation_All.f
        exact ev_neg c (ev_bind (by simpa only [rof] using hO) (ev_bind a1 (ev_neg (by simp) (ev_pos ⟨by omega, by omega⟩ (ev_some _)))))
      · have hl := rall_l0 p most (Ofs L p) (by omega) ((min most ((Ofs L p).length : Int)) + 1).toNat (by omega) (by omega) (by omega) ((min most ((Ofs L p).length : Int)) + 1).toNat 0 (by omega)
        have := ev_bind (f := fun k t => (storagebarterref30_Count.f k (t.length : Int) most).bind fun bt296 => (if bt296.2 = true then (storagebarterref30_All.l0 k p most t ([] : List S39) 0) else (some (([] : List S39), 4)))) hO (ev_bind a2 (ev_pos (by simp) hl))
        exact ev_up this (fun k => by rw [storagebarterref30_All.j0, if_neg (by decide)])
      · have := upto_tab hx
        omega
/-! ### the law -/
theorem rsame_l0 (p : Int) (A : List S51) (hl : A.length ≤ 100000) : ∀ (t : List S51) (i : Int), 0 ≤ i → i ≤ A.length → A.drop i.toNat = t → Ev (fun k => storagebarterref30_Same.l0 k i p A p A) true
  | [], i, h0, hi, hd => by
    have h1 := drop_len h0 hi hd
    exact ev_up (ev_some _) (fun k => by rw [storagebarterref30_Same.l0, if_neg (by simp at h1; omega)])
  | e :: t, i, h0, hi, hd => by
    have h1 := drop_len h0 hi hd
    rw [List.length_cons] at h1
    push_cast at h1
    refine ev_up (rsame_l0 p A hl t (i + 1) (by omega) (by omega) (drop_next h0 hd)) (fun k => ?_)
    rw [storagebarterref30_Same.l0, if_pos (by omega), if_pos h0, if_pos (by omega), if_neg (by simp), w64 (n := i + 1) (by omega) (by omega)]
theorem rsame_ok (p : Int) (A : List S51) (hl : A.length ≤ 100000) : Ev (fun k => storagebarterref30_Same.f k p A p A) true := by
  unfold storagebarterref30_Same.f
  refine ev_pos rfl ?_
  exact ev_up (rsame_l0 p A hl A 0 (Int.le_refl _) (by omega) rfl) (fun k => by rw [storagebarterref30_Same.j0, if_neg (by simp)])
theorem dl_l2 (x1 x10 : List S56) (T : List S39) (ks : List S28) (x43 x44 : Int) (ys : List (List S56)) (x56 x57 a b : Int) (hT : T.length ≤ 1000000000) (hx : ∀ x ∈ T, x.f1.length ≤ 100) {r : Bool} (h : Ev (fun k => storagebarterlaw30_DeviationLists.l1 k x1 x10 ks x43 x44 ys x56 (wrap64 (x57 + 1)) a b) r) : ∀ (t : List S39) (i : Int), 0 ≤ i → i ≤ T.length → T.drop i.toNat = t → Ev (fun k => storagebarterlaw30_DeviationLists.l2 k x1 x10 T T ks x43 x44 ys x56 x57 (T.length : Int) i a b) r
  | [], i, h0, hi, hd => by
    have h1 := drop_len h0 hi hd
    exact ev_up h (fun k => by rw [storagebarterlaw30_DeviationLists.l2, if_neg (by simp at h1; omega)])
  | e :: t, i, h0, hi, hd => by
    have h1 := drop_len h0 hi hd
    rw [List.length_cons] at h1
    push_cast at h1
    have hr : rd_T39 T i = e := getD_at hd
    have he := hx e (List.mem_of_mem_drop (by rw [hd]; exact List.mem_cons_self ..))
    obtain ⟨K1, e1⟩ := rsame_ok e.f0 e.f1 (by omega)
    obtain ⟨K2, e2⟩ := dl_l2 x1 x10 T ks x43 x44 ys x56 x57 a b hT hx h t (i + 1) (by omega) (by omega) (drop_next h0 hd)
    refine ⟨K1 + K2 + 1, fun k hk => ?_⟩
    obtain ⟨k, rfl, hk⟩ := k_succ hk
    dsimp only at e1 e2 ⊢
    rw [storagebarterlaw30_DeviationLists.l2, if_pos (by omega), if_pos h0, if_pos (by omega), if_pos (by omega), hr, e1 k (by omega)]
    simp only [Option.bind_some, if_true]
    rw [w64 (n := i + 1) (by omega) (by omega)]
    exact e2 k (by omega)
theorem dl_l1 (x1 x10 : List S56) (ks : List S28) (x43 x44 : Int) (ys : List (List S56)) (hys : ys.length ≤ 10) (hy : ∀ y ∈ ys, y.length ≤ 44) (a b : Int) {r : Bool} (h : Ev (fun k => storagebarterlaw30_DeviationLists.l0 k x1 x10 ks x43 (wrap64 (x44 + 1))) r) : ∀ (t : List (List S56)) (i : Int), 0 ≤ i → i ≤ ys.length → ys.drop i.toNat = t → Ev (fun k => storagebarterlaw30_DeviationLists.l1 k x1 x10 ks x43 x44 ys (ys.length : Int) i a b) r
  | [], i, h0, hi, hd => by
    have h1 := drop_len h0 hi hd
    exact ev_up h (fun k => by rw [storagebarterlaw30_DeviationLists.l1, if_neg (by simp at h1; omega)])
  | y :: t, i, h0, hi, hd => by
    have h1 := drop_len h0 hi hd
    rw [List.length_cons] at h1
    push_cast at h1
    have hr : rd_L4 ys i = y := getD_at hd
    have hyl := hy y (List.mem_of_mem_drop (by rw [hd]; exact List.mem_cons_self ..))
    have ih := dl_l1 x1 x10 ks x43 x44 ys hys hy a b h t (i + 1) (by omega) (by omega) (drop_next h0 hd)
    have hw : wrap64 (i + 1) = i + 1 := w64 (by omega) (by omega)
    by_cases c : (y.length : Int) > 12 ∧ b > 2
    · exact ev_up ih (fun k => by rw [storagebarterlaw30_DeviationLists.l1, if_pos (by omega), if_pos h0, if_pos (by omega), hr, if_pos c.1, if_pos c.2, hw])
    · obtain ⟨⟨T, e⟩, ⟨K1, e1⟩, ⟨K2, e2⟩, hT, hx⟩ := both_all y a b hyl (by omega)
      obtain ⟨K3, e3⟩ := dl_l2 x1 x10 T ks x43 x44 ys (ys.length : Int) i a b hT hx (by rw [hw]; exact ih) T 0 (Int.le_refl _) (by omega) rfl
      refine ⟨K1 + K2 + K3 + 1, fun k hk => ?_⟩
      obtain ⟨k, rfl, hk⟩ := k_succ hk
      dsimp only at e1 e2 e3 ⊢
      have hst : ((deviation_All.f k y a b).bind fun bt336 => ((storagebarterref30_All.f k y a b).bind fun bt340 => (if bt336.2 = bt340.2 then (if (bt336.1.length : Int) = (bt340.1.length : Int) then (storagebarterlaw30_DeviationLists.l2 k x1 x10 bt336.1 bt340.1 ks x43 x44 ys (ys.length : Int) i (bt340.1.length : Int) 0 a b) else (some false)) else (some false)))) = some r := by
        rw [e1 k (by omega)]
        simp only [Option.bind_some]
        rw [e2 k (by omega)]
        simp only [Option.bind_some, if_true]
        exact e3 k (by omega)
      rw [storagebarterlaw30_DeviationLists.l1, if_pos (by omega), if_pos h0, if_pos (by omega), hr]
      by_cases c1 : (y.length : Int) > 12
      · rw [if_pos c1, if_neg (by omega)]
        exact hst
      · rw [if_neg c1]
        exact hst
theorem dl_l0 (x1 x10 : List S56) (h1 : x1.length ≤ 12) (h10 : x10.length ≤ 44) (ks : List S28) (hks : ks.length ≤ 10) : ∀ (t : List S28) (i : Int), 0 ≤ i → i ≤ ks.length → ks.drop i.toNat = t → Ev (fun k => storagebarterlaw30_DeviationLists.l0 k x1 x10 ks (ks.length : Int) i) true
  | [], i, h0, hi, hd => by
    have h1 := drop_len h0 hi hd
    exact ev_up (ev_some true) (fun k => by rw [storagebarterlaw30_DeviationLists.l0, if_neg (by simp at h1; omega)])
  | e :: t, i, h0, hi, hd => by
    have hl := drop_len h0 hi hd
    rw [List.length_cons] at hl
    push_cast at hl
    have ih := dl_l0 x1 x10 h1 h10 ks hks t (i + 1) (by omega) (by omega) (drop_next h0 hd)
    have hm : 0 ≤ mn (x10.length : Int) 9 ∧ mn (x10.length : Int) 9 ≤ x10.length := by unfold mn; split <;> omega
    have := dl_l1 x1 x10 ks (ks.length : Int) i [x10, x1, x10.take (mn (x10.length : Int) 9).toNat] (by simp) (fun y hy => by
      rcases List.mem_cons.1 hy with rfl | hy
      · exact h10
      · rcases List.mem_cons.1 hy with rfl | hy
        · omega
        · rw [List.mem_singleton.1 hy, List.length_take]; omega) (rd_T28 ks i).f0 (rd_T28 ks i).f1 (by rw [w64 (n := i + 1) (by omega) (by omega)]; exact ih) _ 0 (Int.le_refl _) (by simp) rfl
    exact ev_up this (fun k => by rw [storagebarterlaw30_DeviationLists.l0, if_pos (by omega), if_pos h0, if_pos (by omega), if_pos hm.1, if_pos hm.2]; rfl)
theorem c30_sane : Ev (fun k => storagebarterlaw30_sane.f k) true := ev_of storagebarterlaw30_sane.mono ⟨30, by kernel_rfl⟩
theorem DeviationLists : storagebarterlaw30_DeviationLists.Pure := by
  intro l0 l1 a2 a3 _ _ hw _ _ _
  obtain ⟨s, hn, hs⟩ := new_ok hw
  refine ev_ex ?_
  unfold storagebarterlaw30_DeviationLists.f
  refine ev_bind c30_sane ?_
  refine ev_pos rfl ?_
  by_cases c : (l1.length : Int) > 12
  · exact ev_pos c (ev_some true)
  refine ev_neg c ?_
  refine ev_bind (ev_const hn) ?_
  obtain ⟨L, q, hp, hL, q0, q1⟩ := c30_lawplan hs (p := 0) (Int.le_refl _) (by omega)
  refine ev_bind hp ?_
  obtain ⟨r, m, e, r0, r1, m0, m1⟩ := pick_ok hs q0 q1 (n := 3) (by omega)
  refine ev_bind (ev_const e) ?_
  obtain ⟨r', m', e', r0', r1', m0', m1'⟩ := pick_ok hs m0 m1 (n := 3) (by omega)
  refine ev_bind (ev_const e') ?_
  refine ev_bind (ev_const rfl) ?_
  exact dl_l0 l1 L (by omega) hL _ (by simp) _ 0 (Int.le_refl _) (by simp) rfl

end Go.Proofs.YtdflpnfceajomaaDoor.Pure
