/- The law SlotEnds answers true for every input: what its printed functions compute, in plain Lean. -/
import Derived.Test.YtgckkjgemkabnaaDoorPSlotEndsx7
set_option linter.unusedVariables false
set_option linter.unusedSimpArgs false
set_option maxRecDepth 100000
namespace Go.Proofs.YtgckkjgemkabnaaDoor.Pure
open Go.RowKit Go.Proofs.YtgckkjgemkabnaaDoor.PSlotEnds Go.Proofs.YtgckkjgemkabnaaDoorW.PrintWords Go.Proofs.YtgckkjgemkabnaaDoorW.PrintMore Go.Proofs.YtgckkjgemkabnaaDoorW.PrintLast

theorem w64 {n : Int} (h0 : 0 ≤ n) (h1 : n < 9223372036854775808) : wrap64 n = n := by unfold wrap64; omega
theorem drop_next {α : Type} {l : List α} {i : Int} {e : α} {t : List α} (h0 : 0 ≤ i) (h : l.drop i.toNat = e :: t) : l.drop (i + 1).toNat = t := by
  have e1 : (i + 1).toNat = i.toNat + 1 := by omega
  rw [e1, ← List.drop_drop, h]; rfl
theorem drop_len {α : Type} {l : List α} {i : Int} {t : List α} (h0 : 0 ≤ i) (hi : i ≤ l.length) (h : l.drop i.toNat = t) : (l.length : Int) = i + t.length := by
  rw [← h, List.length_drop]; omega
theorem getD_at {α : Type} {d : α} {l : List α} {i : Int} {e : α} {t : List α} (h : l.drop i.toNat = e :: t) : l.getD i.toNat d = e := by
  have : (l.drop i.toNat)[0]? = some e := by rw [h]; rfl
  rw [List.getElem?_drop] at this
  simp [List.getD_eq_getElem?_getD] at this ⊢
  rw [this]; rfl
/-! the dice: seeds are bytes, what is picked lies in the range, the place stays in the list -/
def Seeds (l : List Int) : Prop := l.length ≤ 300 ∧ ∀ x ∈ l, 0 ≤ x ∧ x ≤ 255
theorem new_ok {l : List Int} (h : ∀ x ∈ l, (Lit.int .u8 x).wf = true) : ∃ s, storagebarterplay_New.f l = some (s, 0) ∧ Seeds s := by
  have h' : ∀ x ∈ l, 0 ≤ x ∧ x ≤ 255 := fun x hx => by
    have := h x hx
    simp [Lit.wf, IntKind.min, IntKind.max, IntKind.signed, IntKind.bits] at this; omega
  unfold storagebarterplay_New.f
  by_cases q : (l.length : Int) > 300
  · rw [if_pos q, if_pos (by omega)]
    exact ⟨_, rfl, by rw [List.length_take]; omega, fun x hx => h' x (List.mem_of_mem_take hx)⟩
  · rw [if_neg q]
    exact ⟨_, rfl, by omega, h'⟩
theorem pick_ok {l : List Int} {p n : Int} (hs : Seeds l) (h0 : 0 ≤ p) (h1 : p ≤ l.length) (hn : 1 ≤ n) : ∃ r q, storagebarterplay_Dice_Pick.f l p n = some (r, q) ∧ 0 ≤ r ∧ r < n ∧ 0 ≤ q ∧ q ≤ l.length := by
  have hl := hs.1
  unfold storagebarterplay_Dice_Pick.f
  by_cases hp : p ≥ (l.length : Int)
  · rw [if_pos hp]; exact ⟨_, _, rfl, by omega, by omega, h0, h1⟩
  · rw [if_neg hp, w64 (n := p + 1) (by omega) (by omega), show p + 1 - 1 = p by omega, w64 (n := p) (by omega) (by omega), if_pos h0, if_pos (by omega), if_neg (by omega)]
    have hm : rd l p ∈ l := by
      have hi : p.toNat < l.length := by omega
      unfold rd
      rw [List.getD_eq_getElem?_getD, List.getElem?_eq_getElem hi]
      exact List.getElem_mem hi
    have hb := hs.2 _ hm
    rw [w64 (n := rd l p) (by omega) (by omega)]
    exact ⟨_, _, rfl, Int.tmod_nonneg _ hb.1, Int.tmod_lt_of_pos _ (by omega), by omega, by omega⟩

/-! arrangements: what the dice make is valid -/
def checksOK (st te : Int) (cs : List Int) : Prop := (∀ x ∈ cs, st < x ∧ x ≤ st + te) ∧ cs.Pairwise (· < ·)
theorem arr_l0 {l : List Int} (hs : Seeds l) (a b st te : Int) (h1 : 0 ≤ st) (h2 : st ≤ 100) (h3 : te ≤ 100) : ∀ (n : Nat) (t p : Int) (cs : List Int), t + n = st + te + 1 → st < t → 0 ≤ p → p ≤ l.length → (∀ x ∈ cs, st < x ∧ x < t) → cs.Pairwise (· < ·) → cs.length + n ≤ 1000 → ∃ k cs' q, storagebarterplay_Dice_Arrangement.l0 k t l p a b st te cs = some (a, b, st, te, cs', q) ∧ checksOK st te cs' ∧ cs'.length ≤ 1000 ∧ 0 ≤ q ∧ q ≤ l.length
  | 0, t, p, cs, ht, hst, hp0, hp1, hc, hw, hn => by
    refine ⟨1, cs, p, ?_, ⟨fun x hx => by have := hc x hx; omega, hw⟩, by omega, hp0, hp1⟩
    rw [storagebarterplay_Dice_Arrangement.l0, w64 (n := st + te) (by omega) (by omega), if_neg (by omega)]
  | n + 1, t, p, cs, ht, hst, hp0, hp1, hc, hw, hn => by
    push_cast at ht
    obtain ⟨r, q, e, r0, r1, q0, q1⟩ := pick_ok hs hp0 hp1 (n := 3) (by omega)
    by_cases hz : r = 0
    · obtain ⟨k, cs', q', hk, hk2, hk3, hk4, hk5⟩ := arr_l0 hs a b st te h1 h2 h3 n (t + 1) q (cs ++ [t]) (by omega) (by omega) q0 q1 (fun x hx => by
        rcases List.mem_append.mp hx with h | h
        · have := hc x h; omega
        · rw [List.mem_singleton] at h; omega) (List.pairwise_append.mpr ⟨hw, List.pairwise_singleton _ _, fun x hx y hy => by rw [List.mem_singleton] at hy; have := hc x hx; omega⟩) (by simp; omega)
      refine ⟨k + 1, cs', q', ?_, hk2, hk3, hk4, hk5⟩
      rw [storagebarterplay_Dice_Arrangement.l0, w64 (n := st + te) (by omega) (by omega), if_pos (by omega), e]
      simp only [Option.bind_some]
      rw [if_pos hz, if_pos (by omega), w64 (n := t + 1) (by omega) (by omega), hk]
    · obtain ⟨k, cs', q', hk, hk2, hk3, hk4, hk5⟩ := arr_l0 hs a b st te h1 h2 h3 n (t + 1) q cs (by omega) (by omega) q0 q1 (fun x hx => by have := hc x hx; omega) hw (by omega)
      refine ⟨k + 1, cs', q', ?_, hk2, hk3, hk4, hk5⟩
      rw [storagebarterplay_Dice_Arrangement.l0, w64 (n := st + te) (by omega) (by omega), if_pos (by omega), e]
      simp only [Option.bind_some]
      rw [if_neg hz, w64 (n := t + 1) (by omega) (by omega), hk]
theorem arr_ok {l : List Int} (hs : Seeds l) {p n : Int} (hp0 : 0 ≤ p) (hp1 : p ≤ l.length) (hn : 2 ≤ n) (hn2 : n ≤ 16) : ∃ k a b st te cs q, storagebarterplay_Dice_Arrangement.f k l p n = some (a, b, st, te, cs, q) ∧ 1 ≤ a ∧ a ≤ n ∧ 1 ≤ b ∧ b ≤ n ∧ a ≠ b ∧ 0 ≤ st ∧ st ≤ 2 ∧ 1 ≤ te ∧ te ≤ 3 ∧ checksOK st te cs ∧ cs.length ≤ 1000 ∧ 0 ≤ q ∧ q ≤ l.length := by
  obtain ⟨r1, q1, e1, a1, b1, m1, n1⟩ := pick_ok hs hp0 hp1 (n := n) (by omega)
  obtain ⟨r2, q2, e2, a2, b2, m2, n2⟩ := pick_ok hs m1 n1 (n := 3) (by omega)
  obtain ⟨r3, q3, e3, a3, b3, m3, n3⟩ := pick_ok hs m2 n2 (n := 3) (by omega)
  obtain ⟨r4, q4, e4, a4, b4, m4, n4⟩ := pick_ok hs m3 n3 (n := n - 1) (by omega)
  have hsec : ∃ s, (1 + r1 + r4).tmod n = s ∧ 0 ≤ s ∧ s < n ∧ s ≠ r1 := by
    refine ⟨_, rfl, Int.tmod_nonneg _ (by omega), Int.tmod_lt_of_pos _ (by omega), ?_⟩
    rw [Int.tmod_eq_emod_of_nonneg (by omega)]
    rcases Int.lt_or_le (1 + r1 + r4) n with h | h
    · rw [Int.emod_eq_of_lt (by omega) h]; omega
    · rw [show (1 + r1 + r4) % n = 1 + r1 + r4 - n from by rw [← Int.sub_emod_right, Int.emod_eq_of_lt (by omega) (by omega)]]; omega
  obtain ⟨s, hs', s0, s1, s2⟩ := hsec
  obtain ⟨k, cs, q, hk, hk2, hk3, hk4, hk5⟩ := arr_l0 hs (1 + r1) (1 + s) r2 (1 + r3) a2 (by omega) (by omega) (1 + r3).toNat (r2 + 1) q4 [] (by omega) (by omega) m4 n4 (fun x hx => by cases hx) List.Pairwise.nil (by simp; omega)
  refine ⟨k, 1 + r1, 1 + s, r2, 1 + r3, cs, q, ?_, by omega, by omega, by omega, by omega, by omega, by omega, by omega, by omega, by omega, hk2, hk3, hk4, hk5⟩
  unfold storagebarterplay_Dice_Arrangement.f
  rw [e1]
  simp only [Option.bind_some]
  rw [e2]
  simp only [Option.bind_some]
  rw [e3]
  simp only [Option.bind_some]
  rw [w64 (n := n - 1) (by omega) (by omega), e4]
  simp only [Option.bind_some]
  rw [if_neg (by omega), w64 (n := r2 + 1) (by omega) (by omega), w64 (n := 1 + r1) (by omega) (by omega), w64 (n := 1 + r1 + r4) (by omega) (by omega), hs', w64 (n := 1 + s) (by omega) (by omega), w64 (n := 1 + r3) (by omega) (by omega), hk]
theorem valid_l0 (a b st te : Int) (cs : List Int) (hl : cs.length ≤ 1000) (h0 : 0 ≤ st) (h1 : st + te ≤ 1000) (ht : 0 ≤ te) : ∀ (t : List Int) (last i : Int), 0 ≤ i → i ≤ cs.length → cs.drop i.toNat = t → (∀ x ∈ t, last < x ∧ x ≤ st + te) → t.Pairwise (· < ·) → ∃ k, duty_Valid.l0 k last cs cs.length i a b st te cs = some true
  | [], last, i, hi0, hi, hd, hb, hw => by
    have := drop_len hi0 hi hd
    exact ⟨1, by rw [duty_Valid.l0, if_neg (by simp at this; omega)]⟩
  | e :: t, last, i, hi0, hi, hd, hb, hw => by
    have hl2 := drop_len hi0 hi hd
    have hr : rd cs i = e := getD_at hd
    rw [List.length_cons] at hl2
    push_cast at hl2
    have he := hb e (List.mem_cons_self ..)
    have hw' := List.pairwise_cons.mp hw
    obtain ⟨k, hk⟩ := valid_l0 a b st te cs hl h0 h1 ht t e (i + 1) (by omega) (by omega) (drop_next hi0 hd) (fun x hx => ⟨hw'.1 x hx, (hb x (List.mem_cons_of_mem _ hx)).2⟩) hw'.2
    refine ⟨k + 1, ?_⟩
    rw [duty_Valid.l0, if_pos (by omega), if_pos hi0, if_pos (by omega), hr, if_neg (by omega), w64 (n := st + te) (by omega) (by omega), if_neg (by omega), w64 (n := i + 1) (by omega) (by omega), hk]
theorem valid_true {a b st te : Int} {cs : List Int} (ha : 1 ≤ a ∧ a ≤ 16) (hb : 1 ≤ b ∧ b ≤ 16) (hab : a ≠ b) (h0 : 0 ≤ st) (h1 : 1 ≤ te) (h2 : te ≤ 16) (h3 : st + te ≤ 16) (hc : checksOK st te cs) (hl : cs.length ≤ 1000) : ∃ k, duty_Valid.f k a b st te cs = some true := by
  obtain ⟨k, hk⟩ := valid_l0 a b st te cs hl h0 (by omega) (by omega) cs st 0 (Int.le_refl _) (by omega) rfl hc.1 hc.2
  refine ⟨k + 1, ?_⟩
  unfold duty_Valid.f duty_person.f
  rw [if_pos (by omega), if_pos (by omega)]
  simp only [Option.bind_some]
  rw [decide_eq_true (by omega), if_pos rfl, decide_eq_true (by omega), if_pos rfl, if_neg hab, if_neg (by omega), if_neg (by omega), if_neg (by omega), w64 (n := 16 - te) (by omega) (by omega), decide_eq_false (by omega), duty_Valid.j0, if_neg (by simp), hk]
theorem plan_ok {a b st te slot : Int} {cs : List Int} {settle : Bool} (hs0 : 0 ≤ slot) (hs1 : slot < 6) (ha : 1 ≤ a ∧ a ≤ 16) (hb : 1 ≤ b ∧ b ≤ 16) (hab : a ≠ b) (h0 : 0 ≤ st) (h1 : 1 ≤ te) (h2 : te ≤ 16) (h3 : st + te ≤ 16) (hc : checksOK st te cs) (hl : cs.length ≤ 1000) : ∃ k, duty_Plan.f k a b st te cs slot settle = some (planL a b st te cs slot settle, 0) := by
  obtain ⟨k, hk⟩ := valid_true ha hb hab h0 h1 h2 h3 hc hl
  refine ⟨k, ?_⟩
  unfold duty_Plan.f
  rw [if_neg (by omega), if_neg (by omega), hk]
  rfl

theorem cost_bound (k : Int) : 0 ≤ costOf k ∧ costOf k ≤ 8 := by
  unfold costOf
  by_cases h : k < 0
  · rw [if_pos h]; omega
  · rw [if_neg h]
    by_cases h8 : 8 ≤ k
    · rw [if_pos h8]; omega
    · rw [if_neg h8]
      rcases (show k = 0 ∨ k = 1 ∨ k = 2 ∨ k = 3 ∨ k = 4 ∨ k = 5 ∨ k = 6 ∨ k = 7 by omega) with h | h | h | h | h | h | h | h <;> subst h <;> simp

/-! a plan as pairs of duties -/
def pairL (s a b : Int) (ds : List (Int × Int)) : List S36 := ds.flatMap fun d => [(⟨d.1, s, a, d.2⟩ : S36), (⟨d.1, s, b, d.2⟩ : S36)]
theorem pairL_cons (s a b : Int) (d : Int × Int) (ds : List (Int × Int)) : pairL s a b (d :: ds) = (⟨d.1, s, a, d.2⟩ : S36) :: (⟨d.1, s, b, d.2⟩ : S36) :: pairL s a b ds := rfl
theorem pairL_append (s a b : Int) (d e : List (Int × Int)) : pairL s a b (d ++ e) = pairL s a b d ++ pairL s a b e := by simp [pairL]
theorem pairL_length (s a b : Int) : ∀ ds : List (Int × Int), (pairL s a b ds).length = 2 * ds.length
  | [] => rfl
  | d :: ds => by rw [pairL_cons, List.length_cons, List.length_cons, pairL_length s a b ds, List.length_cons]; omega
theorem pairL_drop (s a b : Int) : ∀ (j : Nat) (ds : List (Int × Int)), (pairL s a b ds).drop (2 * j) = pairL s a b (ds.drop j)
  | 0, ds => rfl
  | j + 1, [] => by simp [pairL]
  | j + 1, d :: ds => by rw [pairL_cons, show 2 * (j + 1) = 2 * j + 1 + 1 by omega, List.drop_succ_cons, List.drop_succ_cons, List.drop_succ_cons, pairL_drop s a b j ds]
theorem bothL_pair (t s a b : Int) : ∀ ks : List Int, bothL t s a b ks = pairL s a b (ks.map fun k => (t, k))
  | [] => rfl
  | k :: ks => by
    have e : bothL t s a b (k :: ks) = (⟨t, s, a, k⟩ : S36) :: (⟨t, s, b, k⟩ : S36) :: bothL t s a b ks := rfl
    rw [e, bothL_pair t s a b ks, List.map_cons, pairL_cons]
def dsT (cs : List Int) : Nat → Int → List (Int × Int)
  | 0, _ => []
  | n + 1, t => (t, 5) :: ((if t ∈ cs then [(t, 6)] else []) ++ dsT cs n (t + 1))
def dsL (st te : Int) (cs : List Int) (settle : Bool) : List (Int × Int) := (st, 1) :: (st, 2) :: (st, 3) :: (st, 4) :: (dsT cs te.toNat (st + 1) ++ (if settle = true then [(st + te + 1, 7)] else []))
theorem planT_pair (s a b : Int) (cs : List Int) : ∀ (n : Nat) (t : Int), planT s a b cs n t = pairL s a b (dsT cs n t)
  | 0, t => rfl
  | n + 1, t => by
    rw [planT, dsT, pairL_cons, pairL_append, planT_pair s a b cs n (t + 1), bothL_pair]
    by_cases h : t ∈ cs
    · rw [if_pos h, if_pos h, bothL_pair]; rfl
    · rw [if_neg h, if_neg h]; rfl
theorem planL_pair (a b st te s : Int) (cs : List Int) (settle : Bool) : planL a b st te cs s settle = pairL s a b (dsL st te cs settle) := by
  unfold planL dsL
  rw [bothL_pair, planT_pair, pairL_cons, pairL_cons, pairL_cons, pairL_cons, pairL_append]
  cases settle
  · rfl
  · rw [if_pos rfl, if_pos rfl, bothL_pair]; simp [pairL]

/-! ### what doing a duty does -/
theorem do_ended (sd pe kd how : Int) (s : SlotS) (h : s.en = true) : doF sd pe kd how s = s := by unfold doF; rw [if_pos h]
/-- costs do not fall, and grow by eight at most -/
def Grows (s t : SlotS) : Prop := s.c0 ≤ t.c0 ∧ t.c0 ≤ s.c0 + 8 ∧ s.c1 ≤ t.c1 ∧ t.c1 ≤ s.c1 + 8
theorem Grows.same {s t : SlotS} (h0 : t.c0 = s.c0) (h1 : t.c1 = s.c1) : Grows s t := by unfold Grows; omega
theorem pay_grows {sd n : Int} {s : SlotS} (hn0 : 0 ≤ n) (hn1 : n ≤ 8) (h0 : 0 ≤ s.c0) (h1 : s.c0 ≤ 1000000) (h2 : 0 ≤ s.c1) (h3 : s.c1 ≤ 1000000) : Grows s (payF sd n s) := by
  unfold Grows payF
  dsimp only
  split
  · rw [w64 (n := s.c0 + n) (by omega) (by omega)]; omega
  · rw [w64 (n := s.c1 + n) (by omega) (by omega)]; omega
theorem do_grows (sd pe kd how : Int) {s : SlotS} (h0 : 0 ≤ s.c0) (h1 : s.c0 ≤ 1000000) (h2 : 0 ≤ s.c1) (h3 : s.c1 ≤ 1000000) : Grows s (doF sd pe kd how s) := by
  have c := cost_bound kd
  have hp := pay_grows (sd := sd) c.1 c.2 h0 h1 h2 h3
  have h8 := pay_grows (sd := sd) (show (0 : Int) ≤ 8 by omega) (Int.le_refl 8) h0 h1 h2 h3
  unfold doF
  split
  · exact Grows.same rfl rfl
  · split
    · unfold keepF
      split
      · split
        · exact hp
        · exact Grows.same rfl rfl
      · exact Grows.same rfl rfl
    · split
      · unfold answerF
        split
        · split
          · split
            · exact h8
            · exact hp
          · exact Grows.same rfl rfl
        · exact Grows.same rfl rfl
      · unfold exchangeF
        split
        · exact hp
        · split
          · split
            · exact h8
            · split
              · exact hp
              · exact hp
          · exact Grows.same rfl rfl

theorem pair_f2 (s a b : Int) : ∀ (ds : List (Int × Int)) (x : S36), x ∈ pairL s a b ds → x.f2 = a ∨ x.f2 = b
  | [], x, h => by simp [pairL] at h
  | d :: ds, x, h => by
    rw [pairL_cons] at h
    rcases List.mem_cons.1 h with rfl | h
    · exact .inl rfl
    · rcases List.mem_cons.1 h with rfl | h
      · exact .inr rfl
      · exact pair_f2 s a b ds x h
theorem rd_mem36 {L : List S36} {i : Int} (h0 : 0 ≤ i) (h1 : i < L.length) : rd_T36 L i ∈ L := by
  have hi : i.toNat < L.length := by omega
  unfold rd_T36
  rw [List.getD_eq_getElem?_getD, List.getElem?_eq_getElem hi]
  exact List.getElem_mem hi
section
variable {k0 : Nat} {a b st te : Int} {cs : List Int} {L : List S36} (hp : duty_Plan.f k0 a b st te cs 0 true = some (L, 0)) (hcl : cs.length ≤ 1000) (hL2 : ∀ x ∈ L, x.f2 = a ∨ x.f2 = b)
include hp hcl hL2 in
theorem step_some (k : Nat) (hk : k0 ≤ k) (sp : Int) (s : SlotS) (how : Int) (h0 : 0 ≤ sp) (h1 : sp < 1000000) (h2 : sp < L.length) (hw0 : 0 ≤ how) (hw1 : how ≤ 3) : ∃ t : SlotS, t = doF (if (rd_T36 L sp).f2 = a then 0 else 1) (rd_T36 L sp).f2 (rd_T36 L sp).f3 how s ∧ slot_Step.f k a b st te cs sp s.c0 s.c1 s.h0 s.h1 s.t0 s.t1 s.en s.bl how = some (a, b, st, te, cs, sp + 1, t.c0, t.c1, t.h0, t.h1, t.t0, t.t1, t.en, t.bl, 0) := by
  refine ⟨_, rfl, ?_⟩
  unfold slot_Step.f
  rw [if_pos (by omega), at_rounds (duty_Plan.mono _ _ _ _ _ _ _) hk hp]
  simp only [Option.bind_some]
  rw [if_pos ⟨trivial, h0, h1⟩, if_pos h2, if_pos ⟨hw0, hw1, hL2 _ (rd_mem36 h0 h2)⟩]
include hp hcl in
theorem step_none (k : Nat) (hk : k0 ≤ k) (sp : Int) (s : SlotS) (how : Int) (h0 : 0 ≤ sp) (h1 : sp < 1000000) (h2 : ¬ sp < L.length) : slot_Step.f k a b st te cs sp s.c0 s.c1 s.h0 s.h1 s.t0 s.t1 s.en s.bl how = some (a, b, st, te, cs, sp, s.c0, s.c1, s.h0, s.h1, s.t0, s.t1, s.en, s.bl, 5) := by
  unfold slot_Step.f
  rw [if_pos (by omega), at_rounds (duty_Plan.mono _ _ _ _ _ _ _) hk hp]
  simp only [Option.bind_some]
  rw [if_pos ⟨trivial, h0, h1⟩, if_neg h2]
include hcl in
theorem kept_ended (sp : Int) (t : SlotS) (he : t.en = true) (p : Int) (hpp : p = a ∨ p = b) : slot_Kept.f a b st te cs sp t.c0 t.c1 t.h0 t.h1 t.t0 t.t1 t.en t.bl p = some false := by
  unfold slot_Kept.f
  rw [if_pos (by omega)]
  have : ∃ q, slot_Side.f a b st te cs p = some q := by
    unfold slot_Side.f
    split
    · exact ⟨_, rfl⟩
    · split <;> exact ⟨_, rfl⟩
  obtain ⟨q, hq⟩ := this
  rw [hq]
  simp only [Option.bind_some]
  unfold keptF
  rw [he]
  rfl
/-- what holds of a slot behind sp steps -/
def Inv (sp : Int) (s : SlotS) : Prop := 0 ≤ s.c0 ∧ s.c0 ≤ 8 * sp ∧ 0 ≤ s.c1 ∧ s.c1 ≤ 8 * sp
include hp hcl hL2 in
theorem law_round {D : List Int} (sd : Seeds D) : ∀ (m : Nat) (n : Int) (q sp : Int) (s : SlotS), n + m = 60 → 0 ≤ n → n = sp → 0 ≤ q → q ≤ D.length → Inv sp s → ∃ k, storagebarterlaw29_SlotEnds.l0 k n D q a b st te cs sp s.c0 s.c1 s.h0 s.h1 s.t0 s.t1 s.en s.bl = some true
  | 0, n, q, sp, s, hm, hn, hs, hq0, hq1, hI => by
    refine ⟨1, ?_⟩
    rw [storagebarterlaw29_SlotEnds.l0, if_neg (by omega)]
  | m + 1, n, q, sp, s, hm, hn, hs, hq0, hq1, hI => by
    push_cast at hm
    -- the step, whatever is done
    have body : ∀ (how q' : Int), 0 ≤ how → how ≤ 3 → 0 ≤ q' → q' ≤ D.length → ∃ k, storagebarterlaw29_SlotEnds.j1 k n how D q' a b st te cs sp s.c0 s.c1 s.h0 s.h1 s.t0 s.t1 s.en s.bl = some true := by
      intro how q' hw0 hw1 hq0' hq1'
      by_cases h2 : sp < L.length
      · obtain ⟨t, ht, hstep⟩ := step_some hp hcl hL2 k0 (Nat.le_refl _) sp s how (by omega) (by omega) h2 hw0 hw1
        obtain ⟨i0, i1, i2, i3⟩ := hI
        have g := do_grows (if (rd_T36 L sp).f2 = a then 0 else 1) (rd_T36 L sp).f2 (rd_T36 L sp).f3 how (s := s) i0 (by omega) i2 (by omega)
        rw [← ht] at g
        obtain ⟨g0, g1, g2, g3⟩ := g
        obtain ⟨k, hk⟩ := law_round sd m (n + 1) q' (sp + 1) t (by omega) (by omega) (by omega) hq0' hq1' ⟨by omega, by omega, by omega, by omega⟩
        have hk2 := at_rounds (g := fun k => storagebarterlaw29_SlotEnds.l0 k (n + 1) D q' a b st te cs (sp + 1) t.c0 t.c1 t.h0 t.h1 t.t0 t.t1 t.en t.bl) (fun k => (storagebarterlaw29_SlotEnds.mono_l k).1 _ _ _ _ _ _ _ _ _ _ _ _ _ _ _ _ _) (show k ≤ k0 + k by omega) hk
        refine ⟨k0 + k + 1, ?_⟩
        rw [storagebarterlaw29_SlotEnds.j1, at_rounds (g := fun k => slot_Step.f k a b st te cs sp s.c0 s.c1 s.h0 s.h1 s.t0 s.t1 s.en s.bl how) (fun k => slot_Step.mono _ _ _ _ _ _ _ _ _ _ _ _ _ _ _ k) (show k0 ≤ k0 + k by omega) hstep]
        simp only [Option.bind_some]
        rw [if_pos trivial, w64 (n := sp + 1) (by omega) (by omega), w64 (n := n + 1) (by omega) (by omega), if_pos rfl, if_neg (by omega), if_neg (by omega)]
        by_cases he : s.en = true
        · have hts : t = s := by rw [ht]; exact do_ended _ _ _ _ _ he
          rw [if_pos he, if_pos (by rw [hts]; exact he), if_neg (by rw [hts]; simp), if_pos (by rw [hts]), kept_ended hcl (sp + 1) t (by rw [hts]; exact he) a (.inl rfl)]
          simp only [Option.bind_some]
          rw [if_neg (by simp), kept_ended hcl (sp + 1) t (by rw [hts]; exact he) b (.inr rfl)]
          simp only [Option.bind_some]
          rw [if_neg (by simp)]
          exact hk2
        · rw [if_neg he]
          by_cases he2 : t.en = true
          · rw [if_pos he2, kept_ended hcl (sp + 1) t he2 a (.inl rfl)]
            simp only [Option.bind_some]
            rw [if_neg (by simp), kept_ended hcl (sp + 1) t he2 b (.inr rfl)]
            simp only [Option.bind_some]
            rw [if_neg (by simp)]
            exact hk2
          · rw [if_neg he2]
            exact hk2
      · refine ⟨k0 + 1, ?_⟩
        rw [storagebarterlaw29_SlotEnds.j1, step_none hp hcl k0 (Nat.le_refl _) sp s how (by omega) (by omega) h2]
        simp only [Option.bind_some]
        rw [if_neg (by decide)]
    obtain ⟨r, q1, e, r0, r1, a0, a1⟩ := pick_ok sd hq0 hq1 (n := 5) (by omega)
    by_cases hr : r = 0
    · obtain ⟨r', q2, e', r0', r1', a0', a1'⟩ := pick_ok sd a0 a1 (n := 4) (by omega)
      obtain ⟨k, hk⟩ := body r' q2 r0' (by omega) a0' a1'
      refine ⟨k + 1, ?_⟩
      rw [storagebarterlaw29_SlotEnds.l0, if_pos (by omega), e]
      simp only [Option.bind_some]
      rw [if_pos hr, e']
      simp only [Option.bind_some]
      exact hk
    · obtain ⟨k, hk⟩ := body 0 q1 (Int.le_refl _) (by omega) a0 a1
      refine ⟨k + 1, ?_⟩
      rw [storagebarterlaw29_SlotEnds.l0, if_pos (by omega), e]
      simp only [Option.bind_some]
      rw [if_neg hr]
      exact hk
end
theorem SlotEnds : storagebarterlaw29_SlotEnds.Pure := by
  intro l _ _ hw
  obtain ⟨s, hs, sd⟩ := new_ok hw
  obtain ⟨k, a, b, st, te, cs, q, ea, ha0, ha1, hb0, hb1, hab, hs0, hs1, ht0, ht1, hc, hl, q0, q1⟩ := arr_ok sd (p := 0) (Int.le_refl 0) (by omega) (n := 4) (by omega) (by omega)
  obtain ⟨k0, hp⟩ := plan_ok (slot := 0) (settle := true) (Int.le_refl 0) (by omega) (a := a) (b := b) (by omega) (by omega) hab hs0 ht0 (by omega) (by omega) hc hl
  obtain ⟨k1, hv⟩ := valid_true (a := a) (b := b) (by omega) (by omega) hab hs0 ht0 (by omega) (by omega) hc hl
  obtain ⟨k2, hk⟩ := law_round (L := planL a b st te cs 0 true) hp hl (fun x hx => by rw [planL_pair] at hx; exact pair_f2 _ _ _ _ _ hx) sd 60 0 q 0 ⟨0, 0, false, false, false, false, false, 0⟩ (by omega) (Int.le_refl _) rfl q0 q1 ⟨by simp, by simp, by simp, by simp⟩
  have hn : slot_New.f (k + k1 + k2) a b st te cs = some (a, b, st, te, cs, 0, 0, 0, false, false, false, false, false, 0, 0) := by
    unfold slot_New.f
    rw [if_pos (by omega), at_rounds (duty_Valid.mono _ _ _ _ _) (show k1 ≤ k + k1 + k2 by omega) hv]
    simp only [Option.bind_some]
    rw [if_pos trivial]
  refine ⟨k + k1 + k2, ?_⟩
  unfold storagebarterlaw29_SlotEnds.f
  simp only [storagebarterlaw29_sane.f, Option.bind_some, if_true]
  rw [hs]
  simp only [Option.bind_some]
  rw [at_rounds (storagebarterplay_Dice_Arrangement.mono _ _ _) (show k ≤ k + k1 + k2 by omega) ea]
  simp only [Option.bind_some]
  rw [hn]
  simp only [Option.bind_some, if_true]
  exact at_rounds (g := fun k => storagebarterlaw29_SlotEnds.l0 k 0 s q a b st te cs 0 0 0 false false false false false 0) (fun k => (storagebarterlaw29_SlotEnds.mono_l k).1 _ _ _ _ _ _ _ _ _ _ _ _ _ _ _ _ _) (show k2 ≤ k + k1 + k2 by omega) hk

end Go.Proofs.YtgckkjgemkabnaaDoor.Pure
