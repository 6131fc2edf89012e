/- The law EndingSteps answers true for every input: what its printed functions compute, in plain Lean. -/
import Derived.Test.YtepffabkcbfejaaPEndingStepsx10
set_option linter.unusedVariables false
set_option linter.unusedSimpArgs false
set_option maxRecDepth 100000
namespace Go.Proofs.Ytepffabkcbfejaa.Pure
open Go.RowKit Go.Proofs.Ytepffabkcbfejaa.PEndingSteps Go.Proofs.YtepffabkcbfejaaW.PrintWords Go.Proofs.YtepffabkcbfejaaW.PrintMore Go.Proofs.YtepffabkcbfejaaW.PrintLast

theorem at_rounds {α : Type} {g : Nat → Option α} (h : ∀ k, LeO (g k) (g (k + 1))) {k k' : Nat} (hk : k ≤ k') {r : α} (hr : g k = some r) : g k' = some r := by
  induction hk with
  | refl => exact hr
  | step _ ih => exact h _ _ ih

theorem w64 {n : Int} (h0 : 0 ≤ n) (h1 : n < 9223372036854775808) : wrap64 n = n := by unfold wrap64; omega
theorem drop_next {α : Type} {l : List α} {i : Int} {e : α} {t : List α} (h0 : 0 ≤ i) (h : l.drop i.toNat = e :: t) : l.drop (i + 1).toNat = t := by
  have e1 : (i + 1).toNat = i.toNat + 1 := by omega
  rw [e1, ← List.drop_drop, h]; rfl
theorem drop_len {α : Type} {l : List α} {i : Int} {t : List α} (h0 : 0 ≤ i) (hi : i ≤ l.length) (h : l.drop i.toNat = t) : (l.length : Int) = i + t.length := by
  rw [← h, List.length_drop]; omega
theorem getD_at {α : Type} {d : α} {l : List α} {i : Int} {e : α} {t : List α} (h : l.drop i.toNat = e :: t) : l.getD i.toNat d = e := by
  have : (l.drop i.toNat)[0]? = some e := by rw [h]; rfl
  rw [List.getElem?_drop] at this
  simp [List.getD_eq_getElem?_getD] at this ⊢
  rw [this]; rfl
/-! the dice: seeds are bytes, what is picked lies in the range, the place stays in the list -/
def Seeds (l : List Int) : Prop := l.length ≤ 300 ∧ ∀ x ∈ l, 0 ≤ x ∧ x ≤ 255
theorem new_ok {l : List Int} (h : ∀ x ∈ l, (Lit.int .u8 x).wf = true) : ∃ s, storagebarterplay_New.f l = some (s, 0) ∧ Seeds s := by
  have h' : ∀ x ∈ l, 0 ≤ x ∧ x ≤ 255 := fun x hx => by
    have := h x hx
    simp [Lit.wf, IntKind.min, IntKind.max, IntKind.signed, IntKind.bits] at this; omega
  unfold storagebarterplay_New.f
  by_cases q : (l.length : Int) > 300
  · rw [if_pos q, if_pos (by omega)]
    exact ⟨_, rfl, by rw [List.length_take]; omega, fun x hx => h' x (List.mem_of_mem_take hx)⟩
  · rw [if_neg q]
    exact ⟨_, rfl, by omega, h'⟩
theorem pick_ok {l : List Int} {p n : Int} (hs : Seeds l) (h0 : 0 ≤ p) (h1 : p ≤ l.length) (hn : 1 ≤ n) : ∃ r q, storagebarterplay_Dice_Pick.f l p n = some (r, q) ∧ 0 ≤ r ∧ r < n ∧ 0 ≤ q ∧ q ≤ l.length := by
  have hl := hs.1
  unfold storagebarterplay_Dice_Pick.f
  by_cases hp : p ≥ (l.length : Int)
  · rw [if_pos hp]; exact ⟨_, _, rfl, by omega, by omega, h0, h1⟩
  · rw [if_neg hp, w64 (n := p + 1) (by omega) (by omega), show p + 1 - 1 = p by omega, w64 (n := p) (by omega) (by omega), if_pos h0, if_pos (by omega), if_neg (by omega)]
    have hm : rd l p ∈ l := by
      have hi : p.toNat < l.length := by omega
      unfold rd
      rw [List.getD_eq_getElem?_getD, List.getElem?_eq_getElem hi]
      exact List.getElem_mem hi
    have hb := hs.2 _ hm
    rw [w64 (n := rd l p) (by omega) (by omega)]
    exact ⟨_, _, rfl, Int.tmod_nonneg _ hb.1, Int.tmod_lt_of_pos _ (by omega), by omega, by omega⟩

/-! ### from some number of rounds on -/
def Ev {α : Type} (g : Nat → Option α) (r : α) : Prop := ∃ K, ∀ k, K ≤ k → g k = some r
theorem k_succ {K k : Nat} (h : K + 1 ≤ k) : ∃ j, k = j + 1 ∧ K ≤ j := ⟨k - 1, by omega, by omega⟩
theorem ev_of {α : Type} {g : Nat → Option α} {r : α} (hm : ∀ k, LeO (g k) (g (k + 1))) (h : ∃ k, g k = some r) : Ev g r := by
  obtain ⟨k, hk⟩ := h
  exact ⟨k, fun k' hk' => at_rounds hm hk' hk⟩
theorem ev_ex {α : Type} {g : Nat → Option α} {r : α} (h : Ev g r) : ∃ k, g k = some r := by
  obtain ⟨K, h⟩ := h
  exact ⟨K, h K (Nat.le_refl _)⟩
theorem ev_step {α : Type} {g g' : Nat → Option α} {r : α} (h : Ev g' r) (e : ∀ k, 3 ≤ k → g (k + 1) = g' k) : Ev g r := by
  obtain ⟨K, h⟩ := h
  refine ⟨K + 4, fun k hk => ?_⟩
  obtain ⟨j, rfl, hj⟩ := k_succ hk
  rw [e j (by omega), h j (by omega)]
theorem ev_bind {α β : Type} {g : Nat → Option α} {x : α} {f : Nat → α → Option β} {r : β} (hg : Ev g x) (hf : Ev (fun k => f k x) r) : Ev (fun k => (g k).bind (f k)) r := by
  obtain ⟨K, h⟩ := hg
  obtain ⟨K', h'⟩ := hf
  exact ⟨K + K', fun k hk => by dsimp only; rw [h k (by omega)]; exact h' k (by omega)⟩
theorem ev_some {α : Type} (r : α) : Ev (fun _ => some r) r := ⟨0, fun _ _ => rfl⟩
theorem ev_const {α : Type} {x : Option α} {r : α} (h : x = some r) : Ev (fun _ => x) r := ⟨0, fun _ _ => h⟩
theorem ev_pos {α : Type} {c : Prop} [Decidable c] {a b : Nat → Option α} {r : α} (h : c) (he : Ev a r) : Ev (fun k => if c then a k else b k) r := by
  obtain ⟨K, hK⟩ := he
  exact ⟨K, fun k hk => by dsimp only; rw [if_pos h]; exact hK k hk⟩
theorem ev_neg {α : Type} {c : Prop} [Decidable c] {a b : Nat → Option α} {r : α} (h : ¬ c) (he : Ev b r) : Ev (fun k => if c then a k else b k) r := by
  obtain ⟨K, hK⟩ := he
  exact ⟨K, fun k hk => by dsimp only; rw [if_neg h]; exact hK k hk⟩
theorem ev_up {α : Type} {g g' : Nat → Option α} {r : α} (h : Ev g' r) (e : ∀ k, g (k + 1) = g' k) : Ev g r := ev_step h (fun k _ => e k)

/-! ### the reference's calls of chapter 26 are filters -/
def BIG : Nat := 2199023255552
theorem rd44 {l : List S44} {i : Int} {z : S44} {t : List S44} (h : l.drop i.toNat = z :: t) : rd_T44 l i = z := getD_at h
theorem rover_l0 (L : List S44) (x : Int) (hL : L.length ≤ 1000) : ∀ (t A B : List S44) (i : Int), 0 ≤ i → i ≤ L.length → L.drop i.toNat = t → A.length + t.length ≤ 1000 → B.length + t.length ≤ 1000 → Ev (fun k => storagebarterref26_Over.l0 k L x A B i) (A ++ t.filter (ending_over x), B ++ t.filter (fun z => !(ending_over x z)))
  | [], A, B, i, h0, hi, hd, ha, hb => by
    have h1 := drop_len h0 hi hd
    exact ev_up (ev_some _) (fun k => by rw [storagebarterref26_Over.l0, if_neg (by simp at h1; omega)]; simp)
  | z :: t, A, B, i, h0, hi, hd, ha, hb => by
    have h1 := drop_len h0 hi hd
    rw [List.length_cons] at h1 ha hb
    push_cast at h1
    by_cases c : x ≤ z.f6
    · have e : ending_over x z = true := decide_eq_true c
      rw [List.filter_cons_of_pos e, List.filter_cons_of_neg (by simp [e])]
      have ih := rover_l0 L x hL t (A ++ [z]) B (i + 1) (by omega) (by omega) (drop_next h0 hd) (by simp; omega) (by omega)
      rw [List.append_assoc] at ih
      exact ev_up ih (fun k => by rw [storagebarterref26_Over.l0, if_pos (by omega), if_pos h0, rd44 hd, if_pos c, if_pos (by omega), w64 (n := i + 1) (by omega) (by omega)])
    · have e : ending_over x z = false := decide_eq_false c
      rw [List.filter_cons_of_neg (by simp [e]), List.filter_cons_of_pos (by simp [e])]
      have ih := rover_l0 L x hL t A (B ++ [z]) (i + 1) (by omega) (by omega) (drop_next h0 hd) (by omega) (by simp; omega)
      rw [List.append_assoc] at ih
      exact ev_up ih (fun k => by rw [storagebarterref26_Over.l0, if_pos (by omega), if_pos h0, rd44 hd, if_neg c, if_pos (by omega), w64 (n := i + 1) (by omega) (by omega)])
theorem rculprit_l0 (L : List S44) (q a s : Int) (hL : L.length ≤ 1000) : ∀ (t A K O : List S44) (i : Int), 0 ≤ i → i ≤ L.length → L.drop i.toNat = t → A.length + t.length ≤ 1000 → K.length + t.length ≤ 1000 → O.length + t.length ≤ 1000 → Ev (fun k => storagebarterref26_Culprit.l0 k L q A i a s K O) (A ++ (t.filter (fun x => !(ending_keeps q x))).filter (fun x => !(ending_owns q x)), a, s, K ++ t.filter (ending_keeps q), O ++ (t.filter (fun x => !(ending_keeps q x))).filter (ending_owns q))
  | [], A, K, O, i, h0, hi, hd, ha, hk, ho => by
    have h1 := drop_len h0 hi hd
    exact ev_up (ev_some _) (fun k => by rw [storagebarterref26_Culprit.l0, if_neg (by simp at h1; omega)]; simp)
  | z :: t, A, K, O, i, h0, hi, hd, ha, hk, ho => by
    have h1 := drop_len h0 hi hd
    rw [List.length_cons] at h1 ha hk ho
    push_cast at h1
    by_cases c : z.f1 = q
    · have e : ending_keeps q z = true := beq_iff_eq.mpr c
      rw [List.filter_cons_of_neg (by simp [e]), List.filter_cons_of_pos e]
      have ih := rculprit_l0 L q a s hL t A (K ++ [z]) O (i + 1) (by omega) (by omega) (drop_next h0 hd) (by omega) (by simp; omega) (by omega)
      rw [List.append_assoc] at ih
      exact ev_up ih (fun k => by rw [storagebarterref26_Culprit.l0, if_pos (by omega), if_pos h0, rd44 hd, if_pos c, if_pos (by omega), w64 (n := i + 1) (by omega) (by omega)])
    · have e : ending_keeps q z = false := beq_eq_false_iff_ne.mpr c
      rw [List.filter_cons_of_pos (by simp [e]), List.filter_cons_of_neg (p := ending_keeps q) (by simp [e])]
      by_cases d : z.f0 = q
      · have e2 : ending_owns q z = true := beq_iff_eq.mpr d
        rw [List.filter_cons_of_neg (by simp [e2]), List.filter_cons_of_pos e2]
        have ih := rculprit_l0 L q a s hL t A K (O ++ [z]) (i + 1) (by omega) (by omega) (drop_next h0 hd) (by omega) (by omega) (by simp; omega)
        rw [List.append_assoc] at ih
        exact ev_up ih (fun k => by rw [storagebarterref26_Culprit.l0, if_pos (by omega), if_pos h0, rd44 hd, if_neg c, if_pos d, if_pos (by omega), w64 (n := i + 1) (by omega) (by omega)])
      · have e2 : ending_owns q z = false := beq_eq_false_iff_ne.mpr d
        rw [List.filter_cons_of_pos (by simp [e2]), List.filter_cons_of_neg (p := ending_owns q) (by simp [e2])]
        have ih := rculprit_l0 L q a s hL t (A ++ [z]) K O (i + 1) (by omega) (by omega) (drop_next h0 hd) (by simp; omega) (by omega) (by omega)
        rw [List.append_assoc] at ih
        exact ev_up ih (fun k => by rw [storagebarterref26_Culprit.l0, if_pos (by omega), if_pos h0, rd44 hd, if_neg c, if_neg d, if_pos (by omega), w64 (n := i + 1) (by omega) (by omega)])
theorem rbetween_l0 (L : List S44) (a b : Int) (hL : L.length ≤ 1000) : ∀ (t A B : List S44) (i : Int), 0 ≤ i → i ≤ L.length → L.drop i.toNat = t → A.length + t.length ≤ 1000 → B.length + t.length ≤ 1000 → Ev (fun k => storagebarterref26_Between.l0 k L a b A B i) (A ++ t.filter (fun x => !(ending_between a b x)), B ++ t.filter (ending_between a b))
  | [], A, B, i, h0, hi, hd, ha, hb => by
    have h1 := drop_len h0 hi hd
    exact ev_up (ev_some _) (fun k => by rw [storagebarterref26_Between.l0, if_neg (by simp at h1; omega)]; simp)
  | z :: t, A, B, i, h0, hi, hd, ha, hb => by
    have h1 := drop_len h0 hi hd
    rw [List.length_cons] at h1 ha hb
    push_cast at h1
    have yes : ending_between a b z = true → Ev (fun k => storagebarterref26_Between.l0 k L a b A (B ++ [z]) (i + 1)) (A ++ (z :: t).filter (fun x => !(ending_between a b x)), B ++ (z :: t).filter (ending_between a b)) := fun e => by
      rw [List.filter_cons_of_neg (by simp [e]), List.filter_cons_of_pos e]
      have ih := rbetween_l0 L a b hL t A (B ++ [z]) (i + 1) (by omega) (by omega) (drop_next h0 hd) (by omega) (by simp; omega)
      rw [List.append_assoc] at ih
      exact ih
    have no : ending_between a b z = false → Ev (fun k => storagebarterref26_Between.l0 k L a b (A ++ [z]) B (i + 1)) (A ++ (z :: t).filter (fun x => !(ending_between a b x)), B ++ (z :: t).filter (ending_between a b)) := fun e => by
      rw [List.filter_cons_of_pos (by simp [e]), List.filter_cons_of_neg (p := ending_between a b) (by simp [e])]
      have ih := rbetween_l0 L a b hL t (A ++ [z]) B (i + 1) (by omega) (by omega) (drop_next h0 hd) (by simp; omega) (by omega)
      rw [List.append_assoc] at ih
      exact ih
    by_cases c0 : z.f0 = a
    · by_cases c1 : z.f1 = b
      · exact ev_up (yes (by simp [ending_between, c0, c1])) (fun k => by rw [storagebarterref26_Between.l0, if_pos (by omega), if_pos h0, rd44 hd, if_pos c0, if_pos c1, if_pos (by omega), w64 (n := i + 1) (by omega) (by omega)])
      · by_cases c2 : z.f0 = b
        · by_cases c3 : z.f1 = a
          · exact ev_up (yes (by simp [ending_between, c2, c3])) (fun k => by rw [storagebarterref26_Between.l0, if_pos (by omega), if_pos h0, rd44 hd, if_pos c0, if_neg c1, if_pos c2, if_pos c3, if_pos (by omega), w64 (n := i + 1) (by omega) (by omega)])
          · exact ev_up (no (by simp [ending_between, c1, c3])) (fun k => by rw [storagebarterref26_Between.l0, if_pos (by omega), if_pos h0, rd44 hd, if_pos c0, if_neg c1, if_pos c2, if_neg c3, if_pos (by omega), w64 (n := i + 1) (by omega) (by omega)])
        · exact ev_up (no (by simp [ending_between, c1, c2])) (fun k => by rw [storagebarterref26_Between.l0, if_pos (by omega), if_pos h0, rd44 hd, if_pos c0, if_neg c1, if_neg c2, if_pos (by omega), w64 (n := i + 1) (by omega) (by omega)])
    · by_cases c2 : z.f0 = b
      · by_cases c3 : z.f1 = a
        · exact ev_up (yes (by simp [ending_between, c2, c3])) (fun k => by rw [storagebarterref26_Between.l0, if_pos (by omega), if_pos h0, rd44 hd, if_neg c0, if_pos c2, if_pos c3, if_pos (by omega), w64 (n := i + 1) (by omega) (by omega)])
        · exact ev_up (no (by simp [ending_between, c0, c3])) (fun k => by rw [storagebarterref26_Between.l0, if_pos (by omega), if_pos h0, rd44 hd, if_neg c0, if_pos c2, if_neg c3, if_pos (by omega), w64 (n := i + 1) (by omega) (by omega)])
      · exact ev_up (no (by simp [ending_between, c0, c2])) (fun k => by rw [storagebarterref26_Between.l0, if_pos (by omega), if_pos h0, rd44 hd, if_neg c0, if_neg c2, if_pos (by omega), w64 (n := i + 1) (by omega) (by omega)])
theorem rroom_l0 (L : List S44) (a b : Int) (hL : L.length ≤ 1000) : ∀ (t : List S44) (u v i : Int), 0 ≤ i → i ≤ L.length → L.drop i.toNat = t → Ev (fun k => storagebarterref26_Room.l0 k L a b i u v) (t.foldl (room1 a b) u, t.foldl (room1 b a) v)
  | [], u, v, i, h0, hi, hd => by
    have h1 := drop_len h0 hi hd
    exact ev_up (ev_some _) (fun k => by rw [storagebarterref26_Room.l0, if_neg (by simp at h1; omega)]; rfl)
  | z :: t, u, v, i, h0, hi, hd => by
    have h1 := drop_len h0 hi hd
    rw [List.length_cons] at h1
    push_cast at h1
    have ih := rroom_l0 L a b hL t (room1 a b u z) (room1 b a v z) (i + 1) (by omega) (by omega) (drop_next h0 hd)
    rw [List.foldl_cons, List.foldl_cons]
    obtain ⟨K, hK⟩ := ih
    refine ⟨K + 2, fun k hk => ?_⟩
    obtain ⟨k1, rfl, hk1⟩ := k_succ hk
    obtain ⟨k2, rfl, hk2⟩ := k_succ hk1
    have hn := hK k2 hk2
    dsimp only at hn ⊢
    rw [storagebarterref26_Room.l0, if_pos (by omega), if_pos h0, rd44 hd]
    rw [← hn]
    have e : wrap64 (i + 1) = i + 1 := w64 (by omega) (by omega)
    have b2 : (z.f0 == b) = decide (z.f0 = b) := rfl
    rw [b2]
    have p1 : i < (L.length : Int) := by omega
    unfold room1
    by_cases q1 : z.f1 = a <;> by_cases q2 : z.f0 = b <;> by_cases q3 : z.f1 = b <;> by_cases q4 : z.f0 = a <;> simp only [storagebarterref26_Room.j1, rd44 hd, e, h0, p1, q1, q2, q3, q4, if_true, if_false, and_true, true_and, and_false, false_and, and_self, decide_true, decide_false, Bool.false_eq_true, reduceIte, eq_self_iff_true] <;> first | rfl | (simp_all; done) | skip
theorem beqc (a b : Int) : (a == b) = (b == a) := by rw [Bool.eq_iff_iff]; simp; exact eq_comm
theorem beqb (a b : Bool) : (a == b) = (b == a) := by cases a <;> cases b <;> rfl
theorem rfetch_l0 (L M : List S44) (a b : Int) (x : S44) (hL : L.length ≤ 1000) : ∀ (t : List S44) (i : Int), 0 ≤ i → i ≤ L.length → L.drop i.toNat = t → Ev (fun k => storagebarterref26_Fetch.l0 k i a b L M x.f0 x.f1 x.f2 x.f3 x.f4 x.f5 x.f6 x.f7) (if t.findIdx (leaseIs x.f0 x.f1 x.f2 x.f3 x.f4 x.f5 x.f6 x.f7) < t.length then (a, b, L.take (i.toNat + t.findIdx (leaseIs x.f0 x.f1 x.f2 x.f3 x.f4 x.f5 x.f6 x.f7)) ++ L.drop (i.toNat + t.findIdx (leaseIs x.f0 x.f1 x.f2 x.f3 x.f4 x.f5 x.f6 x.f7) + 1), M, true) else (a, b, L, M, false))
  | [], i, h0, hi, hd => by
    have h1 := drop_len h0 hi hd
    exact ev_up (ev_some _) (fun k => by rw [storagebarterref26_Fetch.l0, if_neg (by simp at h1; omega)]; simp)
  | z :: t, i, h0, hi, hd => by
    have h1 := drop_len h0 hi hd
    rw [List.length_cons] at h1
    push_cast at h1
    have ht : (i + 1).toNat = i.toNat + 1 := by omega
    have hc : (z.f0 == x.f0 && (z.f1 == x.f1 && (z.f2 == x.f2 && (z.f3 == x.f3 && (z.f4 == x.f4 && (z.f5 == x.f5 && (z.f6 == x.f6 && z.f7 == x.f7))))))) = leaseIs x.f0 x.f1 x.f2 x.f3 x.f4 x.f5 x.f6 x.f7 z := by
      unfold leaseIs
      rw [beqc z.f0, beqc z.f1, beqc z.f2, beqc z.f3, beqc z.f4, beqc z.f5, beqc z.f6, beqb z.f7]
    by_cases c : leaseIs x.f0 x.f1 x.f2 x.f3 x.f4 x.f5 x.f6 x.f7 z = true
    · rw [List.findIdx_cons, c]
      simp only [cond_true, List.length_cons, Nat.add_zero]
      rw [if_pos (by omega)]
      refine ev_up (ev_some _) (fun k => ?_)
      rw [storagebarterref26_Fetch.l0, if_pos (by omega), if_pos h0, rd44 hd, hc, if_pos c, if_pos (by omega)]
      simp only [Option.bind_some, List.nil_append, List.length_nil]
      have hl1 : (L.take i.toNat).length ≤ 1000 := by rw [List.length_take]; omega
      have hl2 : (L.drop (i.toNat + 1)).length ≤ 1000 := by rw [List.length_drop]; omega
      rw [w64 (n := i + 1) (by omega) (by omega), ht, if_pos (by omega), if_pos (by omega), if_pos (by omega), if_pos (by omega)]
    · have ih := rfetch_l0 L M a b x hL t (i + 1) (by omega) (by omega) (drop_next h0 hd)
      rw [List.findIdx_cons, Bool.eq_false_iff.mpr c]
      simp only [cond_false, List.length_cons, Nat.add_lt_add_iff_right]
      rw [ht] at ih
      rw [show i.toNat + (t.findIdx (leaseIs x.f0 x.f1 x.f2 x.f3 x.f4 x.f5 x.f6 x.f7) + 1) = i.toNat + 1 + t.findIdx (leaseIs x.f0 x.f1 x.f2 x.f3 x.f4 x.f5 x.f6 x.f7) from by omega]
      exact ev_up ih (fun k => by rw [storagebarterref26_Fetch.l0, if_pos (by omega), if_pos h0, rd44 hd, hc, if_neg c, w64 (n := i + 1) (by omega) (by omega)])
theorem same_refl (l : List S44) (h : l.length ≤ 1000) : Ev (fun k => storagebarterref26_Same.f k l l) true := ev_of (storagebarterref26_Same.mono l l) ⟨_, storagebarterref26_Same.refl l (by omega)⟩
theorem ending_refl (a b : Int) (l m : List S44) (h : l.length ≤ 1000) (h' : m.length ≤ 1000) : Ev (fun k => storagebarterref26_SameEnding.f k a b l m a b l m) true := by
  obtain ⟨K1, e1⟩ := same_refl l h
  obtain ⟨K2, e2⟩ := same_refl m h'
  refine ⟨K1 + K2, fun k hk => ?_⟩
  dsimp only at e1 e2 ⊢
  unfold storagebarterref26_SameEnding.f
  rw [if_pos rfl, if_pos rfl, e1 k (by omega)]
  simp only [Option.bind_some, if_true]
  rw [e2 k (by omega)]
  rfl
theorem both_l0 (A B : List S44) (hA : A.length ≤ 1000) (hAB : B.length = A.length) : ∀ (s t : List S44) (i : Int), 0 ≤ i → i ≤ A.length → A.drop i.toNat = s → B.drop i.toNat = t → ∃ b, Ev (fun k => api_Lease_63.l0 k A B (A.length : Int) i) b ∧ Ev (fun k => storagebarterref26_Same.l0 k A B i) b
  | [], t, i, h0, hi, hs, ht => by
    have h1 := drop_len h0 hi hs
    exact ⟨true, ev_up (ev_some _) (fun k => by rw [api_Lease_63.l0, if_neg (by simp at h1; omega)]), ev_up (ev_some _) (fun k => by rw [storagebarterref26_Same.l0, if_neg (by simp at h1; omega)])⟩
  | a :: s, [], i, h0, hi, hs, ht => by
    have h1 := drop_len h0 hi hs
    have h2 := drop_len h0 (by omega) ht
    simp at h1 h2
    omega
  | a :: s, b :: t, i, h0, hi, hs, ht => by
    have h1 := drop_len h0 hi hs
    rw [List.length_cons] at h1
    push_cast at h1
    obtain ⟨r, e1, e2⟩ := both_l0 A B hA hAB s t (i + 1) (by omega) (by omega) (drop_next h0 hs) (drop_next h0 ht)
    by_cases c : (!(a.f0 == b.f0) || (!(a.f1 == b.f1) || (!(a.f2 == b.f2) || (!(a.f3 == b.f3) || (!(a.f4 == b.f4) || (!(a.f5 == b.f5) || (!(a.f6 == b.f6) || (!(a.f7 == b.f7))))))))) = true
    · exact ⟨false, ev_up (ev_some _) (fun k => by rw [api_Lease_63.l0, if_pos (by omega), if_pos h0, if_pos (by omega), if_pos (by omega), rd44 hs, rd44 ht, if_pos c]), ev_up (ev_some _) (fun k => by rw [storagebarterref26_Same.l0, if_pos (by omega), if_pos h0, if_pos (by omega), rd44 hs, rd44 ht, if_pos c])⟩
    · exact ⟨r, ev_up e1 (fun k => by rw [api_Lease_63.l0, if_pos (by omega), if_pos h0, if_pos (by omega), if_pos (by omega), rd44 hs, rd44 ht, if_neg c, w64 (n := i + 1) (by omega) (by omega)]), ev_up e2 (fun k => by rw [storagebarterref26_Same.l0, if_pos (by omega), if_pos h0, if_pos (by omega), rd44 hs, rd44 ht, if_neg c, w64 (n := i + 1) (by omega) (by omega)])⟩
theorem both_same (A B : List S44) (hA : A.length ≤ 1000) : ∃ b, Ev (fun k => ending_Same.f k A B) b ∧ Ev (fun k => storagebarterref26_Same.f k A B) b := by
  unfold ending_Same.f api_Lease_63.f storagebarterref26_Same.f
  by_cases c : (A.length : Int) = (B.length : Int)
  · obtain ⟨b, e1, e2⟩ := both_l0 A B hA (by omega) A B 0 (Int.le_refl _) (by omega) rfl rfl
    exact ⟨b, ev_bind (ev_pos c e1) (ev_some b), ev_pos c e2⟩
  · exact ⟨false, ev_bind (ev_neg c (ev_some false)) (ev_some false), ev_neg c (ev_some false)⟩
theorem lost_both (a b : Int) (l m : List S44) (t : Int) (h : l.length ≤ 1000) : ∃ r, r.length ≤ 1000 ∧ ending_Lost.f a b l m t = some r ∧ storagebarterref26_Lost.f a b l m t = some r := by
  unfold ending_Lost.f storagebarterref26_Lost.f api_Lease_60.f
  by_cases c : t ≤ b
  · exact ⟨[], by simp, by rw [if_pos c], by rw [if_pos c]⟩
  · refine ⟨l, h, ?_, ?_⟩
    · rw [if_neg c, if_pos (by omega)]; rfl
    · rw [if_neg c]; simp only [Option.bind_some, List.length_nil, List.nil_append]; rw [if_pos (by omega)]
theorem fetch_both (a b : Int) (F G : List S44) (x : S44) (hF : F.length ≤ 1000) (hG : G.length ≤ 1000) : ∃ r : Int × Int × List S44 × List S44 × Bool, r.2.2.1.length ≤ 1000 ∧ r.2.2.2.1.length ≤ 1000 ∧ ending_Fetch.f a b F G x.f0 x.f1 x.f2 x.f3 x.f4 x.f5 x.f6 x.f7 = some r ∧ Ev (fun k => storagebarterref26_Fetch.f k a b F G x.f0 x.f1 x.f2 x.f3 x.f4 x.f5 x.f6 x.f7) r := by
  have e := rfetch_l0 F G a b x hF F 0 (Int.le_refl _) (by omega) rfl
  unfold ending_Fetch.f
  rw [if_pos ⟨by omega, by omega⟩]
  by_cases c : F.findIdx (leaseIs x.f0 x.f1 x.f2 x.f3 x.f4 x.f5 x.f6 x.f7) < F.length
  · rw [if_pos c] at e ⊢
    simp only [Int.toNat_zero, Nat.zero_add] at e
    exact ⟨_, by simp only [List.length_append, List.length_take, List.length_drop]; omega, hG, rfl, e⟩
  · rw [if_neg c] at e ⊢
    exact ⟨_, hF, hG, rfl, e⟩
section
variable (x1 l y : List S44) (a2 a3 a4 a5 p q : Int) (ys : List (List S44)) (n80 i81 : Int) (ks : List S49) (z : S44) (s : List Int)
theorem es_l4 (n95 i96 pos c0 c1 : Int) (F G : List S44) (hF : F.length ≤ 1000) (xs : List Int) (hxs : xs.length ≤ 10) (hn : Ev (fun k => storagebarterlaw26_EndingSteps.l2 k x1 a2 a3 a4 a5 l p q y ys n80 i81 ks n95 (wrap64 (i96 + 1)) z.f0 z.f1 z.f2 z.f3 z.f4 z.f5 z.f6 z.f7 s pos) true) : ∀ (t : List Int) (i : Int), 0 ≤ i → i ≤ xs.length → xs.drop i.toNat = t → Ev (fun k => storagebarterlaw26_EndingSteps.l4 k x1 a2 a3 a4 a5 l p q y ys n80 i81 ks n95 i96 xs (xs.length : Int) i z.f0 z.f1 z.f2 z.f3 z.f4 z.f5 z.f6 z.f7 s pos c0 c1 F G) true
  | [], i, h0, hi, hd => by
    have h1 := drop_len h0 hi hd
    exact ev_up hn (fun k => by rw [storagebarterlaw26_EndingSteps.l4, if_neg (by simp at h1; omega)])
  | e :: t, i, h0, hi, hd => by
    have h1 := drop_len h0 hi hd
    rw [List.length_cons] at h1
    push_cast at h1
    obtain ⟨r, hr, e1, e2⟩ := lost_both c0 c1 F G (rd xs i) hF
    obtain ⟨K1, e3⟩ := same_refl r hr
    obtain ⟨K2, e4⟩ := es_l4 n95 i96 pos c0 c1 F G hF xs hxs hn t (i + 1) (by omega) (by omega) (drop_next h0 hd)
    refine ⟨K1 + K2 + 1, fun k hk => ?_⟩
    obtain ⟨k, rfl, hk⟩ := k_succ hk
    dsimp only at e3 e4 ⊢
    rw [storagebarterlaw26_EndingSteps.l4, if_pos (by omega), if_pos h0, if_pos (by omega), e1]
    simp only [Option.bind_some]
    rw [e2]
    simp only [Option.bind_some]
    rw [e3 k (by omega)]
    simp only [Option.bind_some, if_true]
    rw [w64 (n := i + 1) (by omega) (by omega)]
    exact e4 k (by omega)
theorem es_l3 (n95 i96 pos c0 c1 : Int) (F G : List S44) (hF : F.length ≤ 1000) (hG : G.length ≤ 1000) (zs : List S44) (hzs : zs.length ≤ 2000) (hn : Ev (fun k => storagebarterlaw26_EndingSteps.l2 k x1 a2 a3 a4 a5 l p q y ys n80 i81 ks n95 (wrap64 (i96 + 1)) z.f0 z.f1 z.f2 z.f3 z.f4 z.f5 z.f6 z.f7 s pos) true) : ∀ (t : List S44) (i : Int), 0 ≤ i → i ≤ zs.length → zs.drop i.toNat = t → Ev (fun k => storagebarterlaw26_EndingSteps.l3 k x1 a2 a3 a4 a5 l p q y ys n80 i81 ks n95 i96 zs (zs.length : Int) i z.f0 z.f1 z.f2 z.f3 z.f4 z.f5 z.f6 z.f7 s pos c0 c1 F G) true
  | [], i, h0, hi, hd => by
    have h1 := drop_len h0 hi hd
    refine ev_up (es_l4 x1 l y a2 a3 a4 a5 p q ys n80 i81 ks z s n95 i96 pos c0 c1 F G hF [wrap64 a4, wrap64 (wrap64 a4 + wrap64 a5), wrap64 (wrap64 (wrap64 a4 + wrap64 a5) + 1)] (by simp) hn _ 0 (Int.le_refl _) (by simp) rfl) (fun k => ?_)
    rw [storagebarterlaw26_EndingSteps.l3, if_neg (by simp at h1; omega)]
    rfl
  | e :: t, i, h0, hi, hd => by
    have h1 := drop_len h0 hi hd
    rw [List.length_cons] at h1
    push_cast at h1
    obtain ⟨r, hr1, hr2, e1, K0, e2⟩ := fetch_both c0 c1 F G e hF hG
    obtain ⟨K1, e3⟩ := ending_refl r.1 r.2.1 r.2.2.1 r.2.2.2.1 hr1 hr2
    obtain ⟨K2, e4⟩ := es_l3 n95 i96 pos c0 c1 F G hF hG zs hzs hn t (i + 1) (by omega) (by omega) (drop_next h0 hd)
    refine ⟨K0 + K1 + K2 + 1, fun k hk => ?_⟩
    obtain ⟨k, rfl, hk⟩ := k_succ hk
    dsimp only at e2 e3 e4 ⊢
    rw [storagebarterlaw26_EndingSteps.l3, if_pos (by omega), if_pos h0, if_pos (by omega), rd44 hd, e1]
    simp only [Option.bind_some]
    rw [e2 k (by omega)]
    simp only [Option.bind_some]
    rw [if_neg (by simp), e3 k (by omega)]
    simp only [Option.bind_some, if_true]
    rw [w64 (n := i + 1) (by omega) (by omega)]
    exact e4 k (by omega)
theorem es_j3 (n95 i96 pos c0 c1 : Int) (F G : List S44) (hF : F.length ≤ 1000) (hG : G.length ≤ 1000) (hy : y.length ≤ 1000) (hn : Ev (fun k => storagebarterlaw26_EndingSteps.l2 k x1 a2 a3 a4 a5 l p q y ys n80 i81 ks n95 (wrap64 (i96 + 1)) z.f0 z.f1 z.f2 z.f3 z.f4 z.f5 z.f6 z.f7 s pos) true) (b : Bool) (hb : b = false) : Ev (fun k => storagebarterlaw26_EndingSteps.j3 k x1 a2 a3 a4 a5 l p q y ys n80 i81 ks n95 i96 b z.f0 z.f1 z.f2 z.f3 z.f4 z.f5 z.f6 z.f7 s pos c0 c1 F G) true := by
  subst hb
  refine ev_up (es_l3 x1 l y a2 a3 a4 a5 p q ys n80 i81 ks z s n95 i96 pos c0 c1 F G hF hG (z :: y) (by simp; omega) hn _ 0 (Int.le_refl _) (by omega) rfl) (fun k => ?_)
  rw [storagebarterlaw26_EndingSteps.j3, if_neg (by decide)]
  simp only [Option.bind_some, List.length_cons, List.length_nil]
  rw [if_pos (by omega)]
  rfl
theorem es_l5 (hy : y.length ≤ 1000) (pos : Int) (ts : List Int) (hts : ts.length ≤ 10) (hn : Ev (fun k => storagebarterlaw26_EndingSteps.l1 k x1 a2 a3 a4 a5 l p q ys n80 (wrap64 (i81 + 1)) z.f0 z.f1 z.f2 z.f3 z.f4 z.f5 z.f6 z.f7 s pos) true) : ∀ (t : List Int) (i : Int), 0 ≤ i → i ≤ ts.length → ts.drop i.toNat = t → Ev (fun k => storagebarterlaw26_EndingSteps.l5 k x1 a2 a3 a4 a5 l p q y ys n80 i81 ts (ts.length : Int) i z.f0 z.f1 z.f2 z.f3 z.f4 z.f5 z.f6 z.f7 s pos) true
  | [], i, h0, hi, hd => by
    have h1 := drop_len h0 hi hd
    exact ev_up hn (fun k => by rw [storagebarterlaw26_EndingSteps.l5, if_neg (by simp at h1; omega)])
  | e :: t, i, h0, hi, hd => by
    have h1 := drop_len h0 hi hd
    rw [List.length_cons] at h1
    push_cast at h1
    obtain ⟨K0, e1⟩ := rover_l0 y (rd ts i) hy y [] [] 0 (Int.le_refl _) (by omega) rfl (by simp; omega) (by simp; omega)
    rw [List.nil_append, List.nil_append] at e1
    have f1 := List.length_filter_le (ending_over (rd ts i)) y
    have f2 := List.length_filter_le (fun x => !(ending_over (rd ts i) x)) y
    obtain ⟨K1, e2⟩ := same_refl (y.filter (ending_over (rd ts i))) (by omega)
    obtain ⟨K2, e3⟩ := same_refl (y.filter (fun x => !(ending_over (rd ts i) x))) (by omega)
    obtain ⟨K3, e4⟩ := es_l5 hy pos ts hts hn t (i + 1) (by omega) (by omega) (drop_next h0 hd)
    refine ⟨K0 + K1 + K2 + K3 + 1, fun k hk => ?_⟩
    obtain ⟨k, rfl, hk⟩ := k_succ hk
    dsimp only at e1 e2 e3 e4 ⊢
    rw [storagebarterlaw26_EndingSteps.l5, if_pos (by omega), if_pos h0, if_pos (by omega)]
    unfold ending_Over.f storagebarterref26_Over.f
    rw [if_pos (by omega)]
    simp only [Option.bind_some]
    rw [e1 k (by omega)]
    simp only [Option.bind_some]
    rw [e2 k (by omega)]
    simp only [Option.bind_some, if_true]
    rw [e3 k (by omega)]
    simp only [Option.bind_some, if_true]
    rw [w64 (n := i + 1) (by omega) (by omega)]
    exact e4 k (by omega)
theorem es_l2 (hs : Seeds s) (hy : y.length ≤ 1000) (hks : ks.length ≤ 10) (pos : Int) (p0 : 0 ≤ pos) (p1 : pos ≤ s.length) (hn : ∀ pos : Int, 0 ≤ pos → pos ≤ s.length → Ev (fun k => storagebarterlaw26_EndingSteps.l1 k x1 a2 a3 a4 a5 l p q ys n80 (wrap64 (i81 + 1)) z.f0 z.f1 z.f2 z.f3 z.f4 z.f5 z.f6 z.f7 s pos) true) : ∀ (t : List S49) (i : Int), 0 ≤ i → i ≤ ks.length → ks.drop i.toNat = t → Ev (fun k => storagebarterlaw26_EndingSteps.l2 k x1 a2 a3 a4 a5 l p q y ys n80 i81 ks (ks.length : Int) i z.f0 z.f1 z.f2 z.f3 z.f4 z.f5 z.f6 z.f7 s pos) true
  | [], i, h0, hi, hd => by
    have h1 := drop_len h0 hi hd
    obtain ⟨r, m, e, r0, r1, m0, m1⟩ := pick_ok hs p0 p1 (n := 14) (by omega)
    refine ev_up (es_l5 x1 l y a2 a3 a4 a5 p q ys n80 i81 z s hy m [wrap64 a4, r] (by simp) (hn m m0 m1) _ 0 (Int.le_refl _) (by simp) rfl) (fun k => ?_)
    rw [storagebarterlaw26_EndingSteps.l2, if_neg (by simp at h1; omega), e]
    rfl
  | e :: t, i, h0, hi, hd => by
    have h1 := drop_len h0 hi hd
    rw [List.length_cons] at h1
    push_cast at h1
    obtain ⟨u, hu⟩ : ∃ u, u = (rd_T49 ks i).f0 := ⟨_, rfl⟩
    obtain ⟨v, hv⟩ : ∃ v, v = (rd_T49 ks i).f1 := ⟨_, rfl⟩
    obtain ⟨K0, e1⟩ := rculprit_l0 y u u (wrap64 (wrap64 a4 + wrap64 a5)) hy y [] [] [] 0 (Int.le_refl _) (by omega) rfl (by simp; omega) (by simp; omega) (by simp; omega)
    rw [List.nil_append, List.nil_append, List.nil_append] at e1
    obtain ⟨K1, e2⟩ := rbetween_l0 y u v hy y [] [] 0 (Int.le_refl _) (by omega) rfl (by simp; omega) (by simp; omega)
    rw [List.nil_append, List.nil_append] at e2
    obtain ⟨K2, e3⟩ := rroom_l0 y u v hy y 0 0 0 (Int.le_refl _) (by omega) rfl
    obtain ⟨K3, e4⟩ := ev_of (ending_Room.mono y u v) ⟨_, ending_Room.some_ y u v (by omega)⟩
    have f0 := List.length_filter_le (fun x => !(ending_keeps u x)) y
    have f1 := List.length_filter_le (fun x => !(ending_owns u x)) (y.filter (fun x => !(ending_keeps u x)))
    have f2 := List.length_filter_le (ending_keeps u) y
    have f3 := List.length_filter_le (ending_owns u) (y.filter (fun x => !(ending_keeps u x)))
    have f4 := List.length_filter_le (fun x => !(ending_between u v x)) y
    have f5 := List.length_filter_le (ending_between u v) y
    obtain ⟨R1, g1⟩ : ∃ R, R = (y.filter (fun x => !(ending_keeps u x))).filter (fun x => !(ending_owns u x)) := ⟨_, rfl⟩
    obtain ⟨R2, g2⟩ : ∃ R, R = y.filter (ending_keeps u) := ⟨_, rfl⟩
    obtain ⟨R3, g3⟩ : ∃ R, R = (y.filter (fun x => !(ending_keeps u x))).filter (ending_owns u) := ⟨_, rfl⟩
    obtain ⟨R4, g4⟩ : ∃ R, R = y.filter (fun x => !(ending_between u v x)) := ⟨_, rfl⟩
    obtain ⟨R5, g5⟩ : ∃ R, R = y.filter (ending_between u v) := ⟨_, rfl⟩
    have c1 : ending_Culprit.f y u (wrap64 a4) (wrap64 a5) = some (R1, u, wrap64 (wrap64 a4 + wrap64 a5), R2, R3) := by unfold ending_Culprit.f; rw [if_pos (by omega), g1, g2, g3]
    have c2 : ending_Between.f y u v = some (R4, R5) := by unfold ending_Between.f; rw [if_pos (by omega), g4, g5]
    rw [← g1, ← g2, ← g3] at e1
    rw [← g4, ← g5] at e2
    rw [← g1] at f1; rw [← g2] at f2; rw [← g3] at f3; rw [← g4] at f4; rw [← g5] at f5
    obtain ⟨K4, s1⟩ := same_refl R1 (by omega)
    obtain ⟨K5, s2⟩ := ending_refl u (wrap64 (wrap64 a4 + wrap64 a5)) R2 R3 (by omega) (by omega)
    obtain ⟨K6, s3⟩ := same_refl R4 (by omega)
    obtain ⟨K7, s4⟩ := same_refl R5 (by omega)
    have ih := es_l2 hs hy hks pos p0 p1 hn t (i + 1) (by omega) (by omega) (drop_next h0 hd)
    rw [← w64 (n := i + 1) (by omega) (by omega)] at ih
    obtain ⟨K8, s5⟩ := es_j3 x1 l y a2 a3 a4 a5 p q ys n80 i81 ks z s (ks.length : Int) i pos u (wrap64 (wrap64 a4 + wrap64 a5)) R2 R3 (by omega) (by omega) hy ih (!(room u v y == room u v y) || (!(room v u y == room v u y))) (by simp)
    refine ⟨K0 + K1 + K2 + K3 + K4 + K5 + K6 + K7 + K8 + 1, fun k hk => ?_⟩
    obtain ⟨k, rfl, hk⟩ := k_succ hk
    dsimp only at e1 e2 e3 e4 s1 s2 s3 s4 s5 ⊢
    rw [storagebarterlaw26_EndingSteps.l2, if_pos (by omega), if_pos h0, if_pos (by omega), ← hu, ← hv, c1]
    simp only [Option.bind_some]
    unfold storagebarterref26_Culprit.f storagebarterref26_Between.f storagebarterref26_Room.f
    rw [e1 k (by omega)]
    simp only [Option.bind_some]
    rw [c2]
    simp only [Option.bind_some]
    rw [e2 k (by omega)]
    simp only [Option.bind_some]
    rw [s1 k (by omega)]
    simp only [Option.bind_some, if_true]
    rw [s2 k (by omega)]
    simp only [Option.bind_some, if_true]
    rw [s3 k (by omega)]
    simp only [Option.bind_some, if_true]
    rw [s4 k (by omega)]
    simp only [Option.bind_some, if_true]
    rw [e4 k (by omega)]
    simp only [Option.bind_some]
    rw [e3 k (by omega)]
    simp only [Option.bind_some]
    exact s5 k (by omega)
end
theorem es_l1 (x1 l : List S44) (hx : x1.length ≤ 1000) (a2 a3 a4 a5 p q : Int) (z : S44) {s : List Int} (hs : Seeds s) (ys : List (List S44)) (hys : ys.length ≤ 10) : ∀ (t : List (List S44)) (i pos : Int), 0 ≤ i → i ≤ ys.length → ys.drop i.toNat = t → (∀ y ∈ t, y.length ≤ 1000) → 0 ≤ pos → pos ≤ s.length → Ev (fun k => storagebarterlaw26_EndingSteps.l1 k x1 a2 a3 a4 a5 l p q ys (ys.length : Int) i z.f0 z.f1 z.f2 z.f3 z.f4 z.f5 z.f6 z.f7 s pos) true
  | [], i, pos, h0, hi, hd, hy, p0, p1 => by
    have h1 := drop_len h0 hi hd
    obtain ⟨b, ⟨K1, e1⟩, ⟨K2, e2⟩⟩ := both_same x1 l hx
    refine ⟨K1 + K2 + 1, fun k hk => ?_⟩
    obtain ⟨k, rfl, hk⟩ := k_succ hk
    dsimp only at e1 e2 ⊢
    rw [storagebarterlaw26_EndingSteps.l1, if_neg (by simp at h1; omega), e1 k (by omega)]
    simp only [Option.bind_some]
    rw [e2 k (by omega)]
    simp
  | e :: t, i, pos, h0, hi, hd, hy, p0, p1 => by
    have h1 := drop_len h0 hi hd
    rw [List.length_cons] at h1
    push_cast at h1
    have hr : rd_L3 ys i = e := getD_at hd
    refine ev_up (es_l2 x1 l e a2 a3 a4 a5 p q ys (ys.length : Int) i [(⟨a2, a3⟩ : S49), ⟨p, q⟩, ⟨p, p⟩] z s hs (hy e (List.mem_cons_self ..)) (by simp) pos p0 p1 (fun pos p0 p1 => by
      rw [w64 (n := i + 1) (by omega) (by omega)]
      exact es_l1 x1 l hx a2 a3 a4 a5 p q z hs ys hys t (i + 1) pos (by omega) (by omega) (drop_next h0 hd) (fun y h => hy y (List.mem_cons_of_mem _ h)) p0 p1) _ 0 (Int.le_refl _) (by simp) rfl) (fun k => ?_)
    rw [storagebarterlaw26_EndingSteps.l1, if_pos (by omega), if_pos h0, if_pos (by omega), hr]
    rfl
theorem es_l0 (l0 : List Int) (hw : ∀ x ∈ l0, (Lit.int .u8 x).wf = true) (x1 : List S44) (hx : x1.length ≤ 1000) (a2 a3 a4 a5 : Int) (z : S44) : ∀ (t : List S44) (i : Int), 0 ≤ i → i ≤ x1.length → x1.drop i.toNat = t → Ev (fun k => storagebarterlaw26_EndingSteps.l0 k l0 x1 a2 a3 a4 a5 x1 (x1.length : Int) i z.f0 z.f1 z.f2 z.f3 z.f4 z.f5 z.f6 z.f7) true
  | [], i, h0, hi, hd => by
    have h1 := drop_len h0 hi hd
    obtain ⟨s, e0, hs⟩ := new_ok hw
    obtain ⟨l, m, e1, hl, m0, m1⟩ := storagebarterplay_Dice_Leases.short s hs.1
    obtain ⟨r, n, e2, r0, r1, n0, n1⟩ := pick_ok hs m0 m1 (n := 4) (by omega)
    obtain ⟨r', n', e3, r0', r1', n0', n1'⟩ := pick_ok hs n0 n1 (n := 4) (by omega)
    refine ev_up (es_l1 x1 l hx a2 a3 a4 a5 (wrap64 (1 + r)) (wrap64 (1 + r')) z hs [x1, l] (by simp) [x1, l] 0 n' (Int.le_refl _) (by simp) rfl (fun y h => by
      simp only [List.mem_cons, List.not_mem_nil, or_false] at h
      rcases h with rfl | rfl
      · exact hx
      · omega) n0' n1') (fun k => ?_)
    rw [storagebarterlaw26_EndingSteps.l0, if_neg (by simp at h1; omega), e0]
    simp only [Option.bind_some]
    rw [e1]
    simp only [Option.bind_some]
    rw [e2]
    simp only [Option.bind_some]
    rw [e3]
    rfl
  | e :: t, i, h0, hi, hd => by
    have h1 := drop_len h0 hi hd
    rw [List.length_cons] at h1
    push_cast at h1
    by_cases c1 : e.f4 > 1099511627776
    · exact ev_up (ev_some true) (fun k => by rw [storagebarterlaw26_EndingSteps.l0, if_pos (by omega), if_pos h0, if_pos (by omega), rd44 hd, if_pos c1])
    by_cases c2 : e.f4 < -1099511627776
    · exact ev_up (ev_some true) (fun k => by rw [storagebarterlaw26_EndingSteps.l0, if_pos (by omega), if_pos h0, if_pos (by omega), rd44 hd, if_neg c1, if_pos c2])
    exact ev_up (es_l0 l0 hw x1 hx a2 a3 a4 a5 z t (i + 1) (by omega) (by omega) (drop_next h0 hd)) (fun k => by rw [storagebarterlaw26_EndingSteps.l0, if_pos (by omega), if_pos h0, if_pos (by omega), rd44 hd, if_neg c1, if_neg c2, w64 (n := i + 1) (by omega) (by omega)])
theorem EndingSteps : storagebarterlaw26_EndingSteps.Pure := by
  intro l0 l1 a2 a3 a4 a5 b0 b1 b2 b3 b4 b5 b6 b7 _ _ hw _ _ _ _ _ _
  refine ev_ex ?_
  unfold storagebarterlaw26_EndingSteps.f
  refine ev_bind (ev_const (show storagebarterlaw26_sane.f = some true by kernel_rfl)) ?_
  refine ev_pos rfl ?_
  by_cases c : (l1.length : Int) > 8
  · exact ev_pos c (ev_some true)
  exact ev_neg c (es_l0 l0 hw l1 (by omega) a2 a3 a4 a5 ⟨b0, b1, b2, b3, b4, b5, b6, b7⟩ l1 0 (Int.le_refl _) (by omega) rfl)

end Go.Proofs.Ytepffabkcbfejaa.Pure
