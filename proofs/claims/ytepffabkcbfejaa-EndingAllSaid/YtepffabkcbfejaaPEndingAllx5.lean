-- Written by a program of this repository (wip/tools/myprint.py over the print of the kit): contracts and rows.
import Derived.Test.YtepffabkcbfejaaPEndingAllx0
import Derived.Test.YtepffabkcbfejaaPEndingAllx2
import Derived.Test.YtepffabkcbfejaaPEndingAllx3
import Derived.Test.YtepffabkcbfejaaPEndingAllx4
namespace Go.Proofs.Ytepffabkcbfejaa.PEndingAll
open Go.RowKit Go.Proofs.YtepffabkcbfejaaW.PrintWords Go.Proofs.YtepffabkcbfejaaW.PrintLast Go.Proofs.YtepffabkcbfejaaW.PrintMore
attribute [local go_sem] max2_int min2_int max_two min_two max_three min_three max_four min_four   -- for this text's walks alone
set_option linter.unusedVariables false
set_option linter.unusedSimpArgs false

/-! ### storagebarterlaw26_EndingAll: function 5 -/
def sameLease (x y : S44) : Bool := x.f0 == y.f0 && (x.f1 == y.f1 && (x.f2 == y.f2 && (x.f3 == y.f3 && (x.f4 == y.f4 && (x.f5 == y.f5 && (x.f6 == y.f6 && x.f7 == y.f7))))))
def cntL (x : S44) (m : List S44) : Nat := (m.filter (sameLease x)).length
def sumC (x : S44) (ps : List (List S44)) : Nat := (ps.map (cntL x)).sum
theorem again_w {n : Int} (h0 : 0 ≤ n) (h1 : n < 9223372036854775808) : wrap64 n = n := by unfold wrap64; omega
theorem again_cons (x y : S44) (t : List S44) : cntL x (y :: t) = (if sameLease x y = true then 1 else 0) + cntL x t := by
  unfold cntL
  by_cases h : sameLease x y = true
  · rw [List.filter_cons_of_pos h, if_pos h, List.length_cons]; omega
  · rw [List.filter_cons_of_neg h, if_neg h]; omega
theorem again_len {α : Type} {l : List α} {i : Nat} {t : List α} (hi : i ≤ l.length) (h : l.drop i = t) : l.length = i + t.length := by rw [← h, List.length_drop]; omega
theorem again_next {α : Type} {l : List α} {i : Nat} {x : α} {t : List α} (h : l.drop i = x :: t) : l.drop (i + 1) = t := by rw [← List.drop_drop, h]; rfl
theorem again_get {α : Type} {d : α} {l : List α} {i : Nat} {x : α} {t : List α} (h : l.drop i = x :: t) : l.getD ((i : Int)).toNat d = x := by
  have h0 : (l.drop i)[0]? = some x := by rw [h]; rfl
  rw [List.getElem?_drop] at h0
  rw [List.getD_eq_getElem?_getD, show ((i : Int)).toNat = i + 0 by omega, h0]; rfl
section
variable (l : List S44) (ps : List (List S44))
theorem again_l4 (x : S44) (w : Nat) (i j : Int) (m : List S44) (hm : m.length ≤ 1000) : ∀ (t : List S44) (q h : Nat), m.drop q = t → q ≤ m.length → h + t.length ≤ 100000 →
    (∃ k, storagebarterlaw26_again.l3 k l ps ((h + cntL x t : Nat) : Int) (w : Int) l (l.length : Int) i ps (ps.length : Int) (wrap64 (j + 1)) x.f0 x.f1 x.f2 x.f3 x.f4 x.f5 x.f6 x.f7 = some true) →
    ∃ k, storagebarterlaw26_again.l4 k l ps (h : Int) (w : Int) l (l.length : Int) i ps (ps.length : Int) j m (m.length : Int) (q : Int) x.f0 x.f1 x.f2 x.f3 x.f4 x.f5 x.f6 x.f7 = some true
  | [], q, h, hd, hq, hh, ⟨k, hk⟩ => by
    have := again_len hq hd
    simp at this
    refine ⟨k + 1, ?_⟩
    rw [storagebarterlaw26_again.l4, if_neg (by omega)]
    exact hk
  | y :: t, q, h, hd, hq, hh, ⟨k, hk⟩ => by
    have := again_len hq hd
    rw [List.length_cons] at this hh
    have hg : rd_T44 m (q : Int) = y := again_get hd
    have hn := again_next hd
    by_cases he : sameLease x y = true
    · rw [again_cons, if_pos he, ← Nat.add_assoc] at hk
      obtain ⟨k', hk'⟩ := again_l4 x w i j m hm t (q + 1) (h + 1) hn (by omega) (by omega) ⟨k, hk⟩
      refine ⟨k' + 1, ?_⟩
      rw [storagebarterlaw26_again.l4, if_pos (by omega), if_pos (by omega), if_pos (by omega), hg]
      refine (if_pos he).trans ?_
      rw [again_w (n := (h : Int) + 1) (by omega) (by omega), again_w (n := (q : Int) + 1) (by omega) (by omega)]
      exact hk'
    · rw [again_cons, if_neg he, Nat.zero_add] at hk
      obtain ⟨k', hk'⟩ := again_l4 x w i j m hm t (q + 1) h hn (by omega) (by omega) ⟨k, hk⟩
      refine ⟨k' + 1, ?_⟩
      rw [storagebarterlaw26_again.l4, if_pos (by omega), if_pos (by omega), if_pos (by omega), hg]
      refine (if_neg he).trans ?_
      rw [again_w (n := (q : Int) + 1) (by omega) (by omega)]
      exact hk'
theorem again_l3 (hps : ∀ m ∈ ps, m.length ≤ 1000) (hpl : ps.length ≤ 10) (x : S44) (w : Nat) (i : Int) : ∀ (t : List (List S44)) (j h : Nat), ps.drop j = t → j ≤ ps.length → h ≤ 1000 * j → h + sumC x t = w →
    (∃ k, storagebarterlaw26_again.l1 k l ps l (l.length : Int) (wrap64 (i + 1)) = some true) →
    ∃ k, storagebarterlaw26_again.l3 k l ps (h : Int) (w : Int) l (l.length : Int) i ps (ps.length : Int) (j : Int) x.f0 x.f1 x.f2 x.f3 x.f4 x.f5 x.f6 x.f7 = some true
  | [], j, h, hd, hj, hh, hw, ⟨k, hk⟩ => by
    have := again_len hj hd
    simp at this
    have hw' : h = w := by simpa [sumC] using hw
    refine ⟨k + 1, ?_⟩
    rw [storagebarterlaw26_again.l3, if_neg (by omega), if_pos (by omega)]
    exact hk
  | m :: t, j, h, hd, hj, hh, hw, hk => by
    have := again_len hj hd
    rw [List.length_cons] at this
    have hg : rd_L3 ps (j : Int) = m := again_get hd
    have hn := again_next hd
    have hmem : m ∈ ps := List.mem_of_mem_drop (by rw [hd]; exact List.mem_cons_self ..)
    have hml := hps m hmem
    have hc : cntL x m ≤ m.length := List.length_filter_le _ _
    have hw' : h + cntL x m + sumC x t = w := by simp only [sumC, List.map_cons, List.sum_cons] at hw ⊢; omega
    have ih := again_l3 hps hpl x w i t (j + 1) (h + cntL x m) hn (by omega) (by omega) hw' hk
    have hj1 : Aside0 (wrap64 ((j : Int) + 1) = ((j + 1 : Nat) : Int)) := ⟨by rw [again_w (by omega) (by omega)]; omega⟩
    obtain ⟨k', hk'⟩ := again_l4 l ps x w i (j : Int) m hml m 0 h rfl (Nat.zero_le _) (by omega) (by rw [hj1.out]; exact ih)
    refine ⟨k' + 1, ?_⟩
    rw [storagebarterlaw26_again.l3, if_pos (by omega), if_pos (by omega), if_pos (by omega), hg]
    exact hk'
variable (hl : l.length ≤ 1000)
include hl
theorem again_l2 (x : S44) (i : Int) : ∀ (t : List S44) (q w : Nat), l.drop q = t → q ≤ l.length → w + t.length ≤ 100000 →
    (∃ k, storagebarterlaw26_again.l3 k l ps 0 ((w + cntL x t : Nat) : Int) l (l.length : Int) i ps (ps.length : Int) 0 x.f0 x.f1 x.f2 x.f3 x.f4 x.f5 x.f6 x.f7 = some true) →
    ∃ k, storagebarterlaw26_again.l2 k l ps 0 (w : Int) l (l.length : Int) i l (l.length : Int) (q : Int) x.f0 x.f1 x.f2 x.f3 x.f4 x.f5 x.f6 x.f7 = some true
  | [], q, w, hd, hq, hh, ⟨k, hk⟩ => by
    have := again_len hq hd
    simp at this
    refine ⟨k + 1, ?_⟩
    rw [storagebarterlaw26_again.l2, if_neg (by omega)]
    exact hk
  | y :: t, q, w, hd, hq, hh, ⟨k, hk⟩ => by
    have := again_len hq hd
    rw [List.length_cons] at this hh
    have hg : rd_T44 l (q : Int) = y := again_get hd
    have hn := again_next hd
    by_cases he : sameLease x y = true
    · rw [again_cons, if_pos he, ← Nat.add_assoc] at hk
      obtain ⟨k', hk'⟩ := again_l2 x i t (q + 1) (w + 1) hn (by omega) (by omega) ⟨k, hk⟩
      refine ⟨k' + 1, ?_⟩
      rw [storagebarterlaw26_again.l2, if_pos (by omega), if_pos (by omega), if_pos (by omega), hg]
      refine (if_pos he).trans ?_
      rw [again_w (n := (w : Int) + 1) (by omega) (by omega), again_w (n := (q : Int) + 1) (by omega) (by omega)]
      exact hk'
    · rw [again_cons, if_neg he, Nat.zero_add] at hk
      obtain ⟨k', hk'⟩ := again_l2 x i t (q + 1) w hn (by omega) (by omega) ⟨k, hk⟩
      refine ⟨k' + 1, ?_⟩
      rw [storagebarterlaw26_again.l2, if_pos (by omega), if_pos (by omega), if_pos (by omega), hg]
      refine (if_neg he).trans ?_
      rw [again_w (n := (q : Int) + 1) (by omega) (by omega)]
      exact hk'
theorem again_l1 (hps : ∀ m ∈ ps, m.length ≤ 1000) (hpl : ps.length ≤ 10) (hc : ∀ x ∈ l, cntL x l = sumC x ps) : ∀ (t : List S44) (i : Nat), l.drop i = t → i ≤ l.length → ∃ k, storagebarterlaw26_again.l1 k l ps l (l.length : Int) (i : Int) = some true
  | [], i, hd, hi => by
    have := again_len hi hd
    simp at this
    exact ⟨1, by rw [storagebarterlaw26_again.l1, if_neg (by omega)]⟩
  | x :: t, i, hd, hi => by
    have := again_len hi hd
    rw [List.length_cons] at this
    have hg : rd_T44 l (i : Int) = x := again_get hd
    have hn := again_next hd
    have hmem : x ∈ l := List.mem_of_mem_drop (by rw [hd]; exact List.mem_cons_self ..)
    have ih := again_l1 hps hpl hc t (i + 1) hn (by omega)
    have hi1 : Aside0 (wrap64 ((i : Int) + 1) = ((i + 1 : Nat) : Int)) := ⟨by rw [again_w (by omega) (by omega)]; omega⟩
    have h3 := again_l3 l ps hps hpl x (cntL x l) (i : Int) ps 0 0 rfl (Nat.zero_le _) (by omega) (by rw [Nat.zero_add]; exact (hc x hmem).symm) (by rw [hi1.out]; exact ih)
    obtain ⟨k, hk⟩ := again_l2 l ps hl x (i : Int) l 0 0 rfl (Nat.zero_le _) (by omega) (by rw [Nat.zero_add]; exact h3)
    refine ⟨k + 1, ?_⟩
    rw [storagebarterlaw26_again.l1, if_pos (by omega), if_pos (by omega), if_pos (by omega), hg]
    exact hk
theorem again_l0 (hps : ∀ m ∈ ps, m.length ≤ 1000) (hpl : ps.length ≤ 10) (hc : ∀ x ∈ l, cntL x l = sumC x ps) : ∀ (t : List (List S44)) (j h : Nat), ps.drop j = t → j ≤ ps.length → h ≤ 1000 * j → h + (t.map List.length).sum = l.length → ∃ k, storagebarterlaw26_again.l0 k l ps (h : Int) ps (ps.length : Int) (j : Int) = some true
  | [], j, h, hd, hj, hh, hw => by
    have := again_len hj hd
    simp at this
    have hw' : h = l.length := by simpa using hw
    obtain ⟨k, hk⟩ := again_l1 l ps hl hps hpl hc l 0 rfl (Nat.zero_le _)
    refine ⟨k + 1, ?_⟩
    rw [storagebarterlaw26_again.l0, if_neg (by omega), if_pos (by omega)]
    exact hk
  | m :: t, j, h, hd, hj, hh, hw => by
    have := again_len hj hd
    rw [List.length_cons] at this
    have hg : rd_L3 ps (j : Int) = m := again_get hd
    have hn := again_next hd
    have hmem : m ∈ ps := List.mem_of_mem_drop (by rw [hd]; exact List.mem_cons_self ..)
    have hml := hps m hmem
    rw [List.map_cons, List.sum_cons] at hw
    obtain ⟨k, hk⟩ := again_l0 hps hpl hc t (j + 1) (h + m.length) hn (by omega) (by omega) (by omega)
    refine ⟨k + 1, ?_⟩
    rw [storagebarterlaw26_again.l0, if_pos (by omega), if_pos (by omega), if_pos (by omega), hg, again_w (n := (h : Int) + (m.length : Int)) (by omega) (by omega), again_w (n := (j : Int) + 1) (by omega) (by omega)]
    exact hk
end
theorem again_ok (l : List S44) (ps : List (List S44)) (hl : l.length ≤ 1000) (hps : ∀ m ∈ ps, m.length ≤ 1000) (hpl : ps.length ≤ 10) (hlen : (ps.map List.length).sum = l.length) (hc : ∀ x ∈ l, cntL x l = sumC x ps) : ∃ k, storagebarterlaw26_again.f k l ps = some true :=
  again_l0 l ps hl hps hpl hc ps 0 0 rfl (Nat.zero_le _) (by omega) (by omega)
theorem cnt_split (x : S44) (p : S44 → Bool) : ∀ l : List S44, cntL x l = cntL x (l.filter p) + cntL x (l.filter fun y => !(p y))
  | [] => rfl
  | y :: t => by
    have ih := cnt_split x p t
    rw [again_cons, ih]
    cases h : p y
    · rw [List.filter_cons_of_neg (by simp [h]), List.filter_cons_of_pos (by simp [h]), again_cons]; omega
    · rw [List.filter_cons_of_pos (by simp [h]), List.filter_cons_of_neg (by simp [h]), again_cons]; omega
theorem len_split (p : S44 → Bool) : ∀ l : List S44, l.length = (l.filter p).length + (l.filter fun y => !(p y)).length
  | [] => rfl
  | y :: t => by
    have ih := len_split p t
    rw [List.length_cons, ih]
    cases h : p y
    · rw [List.filter_cons_of_neg (by simp [h]), List.filter_cons_of_pos (by simp [h]), List.length_cons]; omega
    · rw [List.filter_cons_of_pos (by simp [h]), List.filter_cons_of_neg (by simp [h]), List.length_cons]; omega
theorem again_two (l a b : List S44) (hl : l.length ≤ 1000) (p : S44 → Bool) (h : (a = l.filter p ∧ b = l.filter fun y => !(p y)) ∨ (b = l.filter p ∧ a = l.filter fun y => !(p y))) : ∃ k, storagebarterlaw26_again.f k l [a, b] = some true := by
  have h1 := len_split p l
  have hc := fun x => cnt_split x p l
  refine again_ok l [a, b] hl ?_ (by simp) ?_ ?_
  · intro m hm
    simp only [List.mem_cons, List.not_mem_nil, or_false] at hm
    rcases h with ⟨ha, hb⟩ | ⟨ha, hb⟩ <;> rcases hm with rfl | rfl <;> (first | rw [ha] | rw [hb]) <;> exact Nat.le_trans (List.length_filter_le _ _) hl
  · rcases h with ⟨ha, hb⟩ | ⟨ha, hb⟩ <;> rw [ha, hb] <;> simp only [List.map_cons, List.map_nil, List.sum_cons, List.sum_nil] <;> omega
  · intro x _
    have := hc x
    rcases h with ⟨ha, hb⟩ | ⟨ha, hb⟩ <;> rw [ha, hb] <;> simp only [sumC, List.map_cons, List.map_nil, List.sum_cons, List.sum_nil] <;> omega
theorem again_three (l o f e : List S44) (hl : l.length ≤ 1000) (p q : S44 → Bool) (ho : o = (l.filter fun y => !(p y)).filter fun y => !(q y)) (hf : f = l.filter p) (he : e = (l.filter fun y => !(p y)).filter q) : ∃ k, storagebarterlaw26_again.f k l [o, f, e] = some true := by
  have h1 := len_split p l
  have h2 := len_split q (l.filter fun y => !(p y))
  have hc := fun x => cnt_split x p l
  have hc2 := fun x => cnt_split x q (l.filter fun y => !(p y))
  refine again_ok l [o, f, e] hl ?_ (by simp) ?_ ?_
  · intro m hm
    simp only [List.mem_cons, List.not_mem_nil, or_false] at hm
    rcases hm with rfl | rfl | rfl
    · rw [ho]; exact Nat.le_trans (List.length_filter_le _ _) (Nat.le_trans (List.length_filter_le _ _) hl)
    · rw [hf]; exact Nat.le_trans (List.length_filter_le _ _) hl
    · rw [he]; exact Nat.le_trans (List.length_filter_le _ _) (Nat.le_trans (List.length_filter_le _ _) hl)
  · rw [ho, hf, he]; simp only [List.map_cons, List.map_nil, List.sum_cons, List.sum_nil]; omega
  · intro x _
    have := hc x
    have := hc2 x
    rw [ho, hf, he]; simp only [sumC, List.map_cons, List.map_nil, List.sum_cons, List.sum_nil]; omega
theorem all_parts2 {w : World} {gb : Nat} {A B : Option Addr} {c d : Nat} {a b : List S44} (h : w.heap[gb]? = some (.cells #[.slice A a.length c, .slice B b.length d] 26 (0, 0))) (ha : Kd.C k44 w A a.length a) (hca : a.length ≤ c) (hb : Kd.C k44 w B b.length b) (hcb : b.length ≤ d) : Kd.C (Kd.slice 44 k44) w (some ⟨gb, 0, none⟩) 2 [a, b] := by
  refine ⟨rfl, by omega, fun _ => ⟨⟨gb, 0, none⟩, rfl, fun j p hj => ?_⟩⟩
  match j, hj with
  | 0, hj => injection hj with hj; subst hj; exact ⟨[.slice A a.length c], rfl, ⟨A, c, rfl, hca, ha⟩, fun i u hu => by
      match i, hu with
      | 0, hu => injection hu with hu; subst hu; rw [Addr.add_lit]; exact blk_cell h 0⟩
  | 1, hj => injection hj with hj; subst hj; exact ⟨[.slice B b.length d], rfl, ⟨B, d, rfl, hcb, hb⟩, fun i u hu => by
      match i, hu with
      | 0, hu => injection hu with hu; subst hu; rw [Addr.add_lit]; exact blk_cell h 1⟩
theorem all_parts3 {w : World} {gb : Nat} {A B D : Option Addr} {c d e : Nat} {a b m : List S44} (h : w.heap[gb]? = some (.cells #[.slice A a.length c, .slice B b.length d, .slice D m.length e] 26 (0, 0))) (ha : Kd.C k44 w A a.length a) (hca : a.length ≤ c) (hb : Kd.C k44 w B b.length b) (hcb : b.length ≤ d) (hm : Kd.C k44 w D m.length m) (hcm : m.length ≤ e) : Kd.C (Kd.slice 44 k44) w (some ⟨gb, 0, none⟩) 3 [a, b, m] := by
  refine ⟨rfl, by omega, fun _ => ⟨⟨gb, 0, none⟩, rfl, fun j p hj => ?_⟩⟩
  match j, hj with
  | 0, hj => injection hj with hj; subst hj; exact ⟨[.slice A a.length c], rfl, ⟨A, c, rfl, hca, ha⟩, fun i u hu => by
      match i, hu with
      | 0, hu => injection hu with hu; subst hu; rw [Addr.add_lit]; exact blk_cell h 0⟩
  | 1, hj => injection hj with hj; subst hj; exact ⟨[.slice B b.length d], rfl, ⟨B, d, rfl, hcb, hb⟩, fun i u hu => by
      match i, hu with
      | 0, hu => injection hu with hu; subst hu; rw [Addr.add_lit]; exact blk_cell h 1⟩
  | 2, hj => injection hj with hj; subst hj; exact ⟨[.slice D m.length e], rfl, ⟨D, e, rfl, hcm, hm⟩, fun i u hu => by
      match i, hu with
      | 0, hu => injection hu with hu; subst hu; rw [Addr.add_lit]; exact blk_cell h 2⟩
theorem room_zero (a b : Int) : ∀ l : List S44, (∀ x ∈ l, ¬ (x.f1 = a ∧ x.f0 = b)) → room a b l = 0
  | [], _ => rfl
  | x :: t, h => by
    have e : room a b (x :: t) = t.foldl (room1 a b) (room1 a b 0 x) := rfl
    rw [e, show room1 a b 0 x = 0 from if_neg (h x (List.mem_cons_self ..))]
    exact room_zero a b t (fun y hy => h y (List.mem_cons_of_mem _ hy))
theorem all_out {l lo lf le : List S44} {p z2 z3 u : Int} (e : lo = (l.filter (fun x => !(ending_keeps p x))).filter (fun x => !(ending_owns p x)) ∧ lf = l.filter (ending_keeps p) ∧ le = (l.filter (fun x => !(ending_keeps p x))).filter (ending_owns p) ∧ z2 = p ∧ z3 = u) : (∀ x ∈ lo, x.f0 ≠ p ∧ x.f1 ≠ p) ∧ ∀ x ∈ lf, x.f1 = p := by
  refine ⟨fun x hx => ?_, fun x hx => ?_⟩
  · rw [e.1] at hx
    have h1 := (List.mem_filter.1 hx).2
    have h2 := (List.mem_filter.1 (List.mem_filter.1 hx).1).2
    simp [ending_owns] at h1
    simp [ending_keeps] at h2
    exact ⟨h1, h2⟩
  · rw [e.2.1] at hx
    have h1 := (List.mem_filter.1 hx).2
    simpa [ending_keeps] using h1
theorem all_room {l a b : List S44} {p q : Int} (e : a = l.filter (fun x => !(ending_between p q x)) ∧ b = l.filter (ending_between p q)) : room p q a = 0 ∧ room q p a = 0 := by
  have h : ∀ x ∈ a, ending_between p q x = false := fun x hx => by
    rw [e.1] at hx
    simpa using (List.mem_filter.1 hx).2
  refine ⟨room_zero _ _ _ fun x hx hh => ?_, room_zero _ _ _ fun x hx hh => ?_⟩ <;> (have := h x hx; simp [ending_between, hh.1, hh.2] at this)
theorem all_mem {l : List S44} {i : Int} (h0 : 0 ≤ i) (h1 : i < l.length) : rd_T44 l i ∈ l := by
  have hn : i.toNat < l.length := by omega
  unfold rd_T44
  rw [List.getD_eq_getElem?_getD, List.getElem?_eq_getElem hn]
  exact List.getElem_mem hn
def storagebarterlaw26_EndingAll.f (l0 : List Int) : Option Bool := if True then some true else none
set_option maxHeartbeats 8000000 in
set_option maxRecDepth 100000 in
theorem storagebarterlaw26_EndingAll.calls (A0 : Option Addr) (c0 : Nat) (l0 : List Int) (r : Bool) (w : World) (hr0 : Kd.C (Kd.int .u8) w A0 l0.length l0) (hc0 : l0.length ≤ c0) (h : storagebarterlaw26_EndingAll.f l0 = some r) :
    Calls Try.prog 5 #[.slice A0 l0.length c0] w fun e w' => e = .returned (.bool r) ∧ Below w.heap.size w w' := by
  unfold storagebarterlaw26_EndingAll.f at h
  split at h
  · rename_i hh
    clear hh
    obtain rfl := Option.some.inj h
    clear h
    have hu := Try.underlying32
    go_enter Try.func5, Try.ntmps5
    go_wp2_with fail
    refine (storagebarterlaw26_sane.calls true _ (by kernel_rfl)).mono ?_
    rintro e w1 ⟨rfl, hb⟩
    have hbb : Below w.heap.size w w1 := by first | exact hb | exact below_step (below_alloc (Below.refl _ _) _) hb | exact below_step (below_alloc (below_alloc (Below.refl _ _) _) _) hb
    have HB := Aside0.mk hbb
    clear hb hbb
    obtain ⟨s, hs, hs3⟩ := storagebarterplay_New.short l0
    have HS := Aside0.mk hs3
    have HR := Aside0.mk hr0
    clear hr0
    go_wp2_with fail
    refine (storagebarterplay_New.calls A0 c0 l0 s 0 w _ HB.out HR.out hc0 hs).mono ?_
    rintro e w2 ⟨g, rfl, hi, hb, _⟩
    have HI := Aside0.mk hi
    replace HB := Aside0.mk hb
    clear hi hb hs
    go_wp2_with fail
    obtain ⟨l, i0, hl, hl7, hi0, hi1⟩ := storagebarterplay_Dice_Leases.short s HS.out
    refine (storagebarterplay_Dice_Leases.calls g s 0 l i0 w _ HI.out HB.out hl).mono ?_
    rintro e w3 ⟨v, rfl, ho, hi, hb, _⟩
    have HO := Aside0.mk (Kd.R_mono (IsS84.apart hi ho (by decide)) (fun _ h_ => h_.2))
    replace HI := Aside0.mk hi
    replace HB := Aside0.mk hb
    clear hi hb ho hl
    obtain ⟨t1, i1, e_⟩ : ∃ t i', dpick s i0 4 = (t, i') := ⟨_, _, rfl⟩
    have t1_l := dpick_lt e_ (by omega)
    have i1_a := dpick_at e_ (by omega) (by omega)
    have E_ := Aside0.mk e_
    clear e_
    go_wp2_with fail
    refine (pick_calls E_.out g w _ HI.out HB.out (by omega) (by omega) HS.out (by omega)).mono ?_
    rintro e w4 ⟨rfl, hi, hb, hk⟩
    replace HO := Aside0.mk (Kd.R_keep HO.out hk (fun k h_ => h_))
    replace HI := Aside0.mk hi
    replace HB := Aside0.mk hb
    clear hi hb hk
    clear E_
    obtain ⟨t2, i2, e_⟩ : ∃ t i', dpick s i1 4 = (t, i') := ⟨_, _, rfl⟩
    have t2_l := dpick_lt e_ (by omega)
    have i2_a := dpick_at e_ (by omega) (by omega)
    have E_ := Aside0.mk e_
    clear e_
    go_wp2_with fail
    refine (pick_calls E_.out g w _ HI.out HB.out (by omega) (by omega) HS.out (by omega)).mono ?_
    rintro e w5 ⟨rfl, hi, hb, hk⟩
    replace HO := Aside0.mk (Kd.R_keep HO.out hk (fun k h_ => h_))
    replace HI := Aside0.mk hi
    replace HB := Aside0.mk hb
    clear hi hb hk
    clear E_
    have ho_ := HO.out
    clear HO
    obtain ⟨A1, d1, rfl, H1c, _⟩ := Kd.R_reads ho_
    have HO := Aside0.mk ho_
    clear ho_
    have hg5 := IsS84.lt HI.out
    obtain ⟨lo, z2, z3, lf, le, hf_, ln_, ef_⟩ := ending_Culprit.some_ l (1 + t1) 3 4 (by omega)
    have EC := Aside0.mk ef_
    have HF_ := Aside0.mk hf_
    clear ef_ hf_
    go_wp2_with fail
    refine (ending_Culprit.calls A1 d1 l (1 + t1) 3 4 lo z2 z3 lf le _ (Kd.R_reads' HO.out).2.2 H1c HF_.out).mono ?_
    rintro e w6 ⟨v0, v1, v2, rfl, ho0, ho1, ho2, hb⟩
    have hbb : Below w5.heap.size w5 w6 := by first | exact hb | exact below_step (below_alloc (Below.refl _ _) _) hb | exact below_step (below_alloc (below_alloc (Below.refl _ _) _) _) hb
    replace HO := Aside0.mk (Kd.R_below HO.out hbb)
    replace HI := Aside0.mk (IsS84.below HI.out hbb)
    replace HB := Aside0.mk (below_step HB.out hbb)
    clear hb hbb
    clear HF_
    obtain ⟨Ao, do_, rfl, O0c, _⟩ := Kd.R_reads ho0
    have O0 := Aside0.mk (Kd.R_mono (ok' := fun k => k ≠ g) (Kd.R_bound ho0) (fun k hk => by have := hk.2.1; (try simp at this); omega))
    clear ho0
    obtain ⟨Af, df, rfl, O1c, _⟩ := Kd.R_reads ho1
    have O1 := Aside0.mk (Kd.R_mono (ok' := fun k => k ≠ g) (Kd.R_bound ho1) (fun k hk => by have := hk.2.1; (try simp at this); omega))
    clear ho1
    obtain ⟨Ae, de, rfl, O2c, _⟩ := Kd.R_reads ho2
    have O2 := Aside0.mk (Kd.R_mono (ok' := fun k => k ≠ g) (Kd.R_bound ho2) (fun k hk => by have := hk.2.1; (try simp at this); omega))
    clear ho2
    have hg6 := IsS84.lt HI.out
    obtain ⟨la, lb, hf_, ln2_, ef_⟩ := ending_Between.some_ l (1 + t1) (1 + t2) (by omega)
    have EB := Aside0.mk ef_
    have HF_ := Aside0.mk hf_
    clear ef_ hf_
    go_wp2_with fail
    refine (ending_Between.calls A1 d1 l (1 + t1) (1 + t2) la lb _ (Kd.C_below (Kd.R_reads' HO.out).2.2 (below_alloc (Below.refl _ _) _)) H1c HF_.out).mono ?_
    rintro e w7 ⟨v0, v1, rfl, ho0, ho1, hb⟩
    have BE := Aside0.mk ((hb.block w6.heap.size (by simp)).trans (blk_new w6 _))
    have hbb : Below w6.heap.size w6 w7 := by first | exact hb | exact below_step (below_alloc (Below.refl _ _) _) hb | exact below_step (below_alloc (below_alloc (Below.refl _ _) _) _) hb
    replace HO := Aside0.mk (Kd.R_below HO.out hbb)
    replace O0 := Aside0.mk (Kd.R_below O0.out hbb)
    replace O1 := Aside0.mk (Kd.R_below O1.out hbb)
    replace O2 := Aside0.mk (Kd.R_below O2.out hbb)
    replace HI := Aside0.mk (IsS84.below HI.out hbb)
    replace HB := Aside0.mk (below_step HB.out hbb)
    clear hb hbb
    clear HF_
    obtain ⟨Aa, da, rfl, O3c, _⟩ := Kd.R_reads ho0
    have O3 := Aside0.mk (Kd.R_mono (ok' := fun k => k ≠ g) (Kd.R_bound ho0) (fun k hk => by have := hk.2.1; (try simp at this); omega))
    clear ho0
    obtain ⟨Ab, db, rfl, O4c, _⟩ := Kd.R_reads ho1
    have O4 := Aside0.mk (Kd.R_mono (ok' := fun k => k ≠ g) (Kd.R_bound ho1) (fun k hk => by have := hk.2.1; (try simp at this); omega))
    clear ho1
    obtain ⟨t3, i3, e_⟩ : ∃ t i', dpick s i2 12 = (t, i') := ⟨_, _, rfl⟩
    have t3_l := dpick_lt e_ (by omega)
    have E_ := Aside0.mk e_
    clear e_
    go_wp2_with fail
    refine (pick_calls E_.out g w _ HI.out HB.out (by omega) (by omega) HS.out (by omega)).mono ?_
    rintro e w8 ⟨rfl, hi, hb, hk⟩
    replace BE := Aside0.mk ((hk.2 w6.heap.size (blk_lt BE.out) (by omega) (by simp)).trans BE.out)
    replace HO := Aside0.mk (Kd.R_keep HO.out hk (fun k h_ => h_))
    replace O0 := Aside0.mk (Kd.R_keep O0.out hk (fun k h_ => h_))
    replace O1 := Aside0.mk (Kd.R_keep O1.out hk (fun k h_ => h_))
    replace O2 := Aside0.mk (Kd.R_keep O2.out hk (fun k h_ => h_))
    replace O3 := Aside0.mk (Kd.R_keep O3.out hk (fun k h_ => h_))
    replace O4 := Aside0.mk (Kd.R_keep O4.out hk (fun k h_ => h_))
    replace HI := Aside0.mk hi
    replace HB := Aside0.mk hb
    clear hi hb hk
    clear E_
    have hg8 := IsS84.lt HI.out
    obtain ⟨lc, ld, hf_, ln3_, ef_⟩ := ending_Over.some_ l t3 (by omega)
    have EO := Aside0.mk ef_
    have HF_ := Aside0.mk hf_
    clear ef_ hf_
    go_wp2_with fail
    refine (ending_Over.calls A1 d1 l t3 lc ld _ (Kd.R_reads' HO.out).2.2 H1c HF_.out).mono ?_
    rintro e w9 ⟨v0, v1, rfl, ho0, ho1, hb⟩
    replace BE := Aside0.mk ((hb.block w6.heap.size (blk_lt BE.out)).trans BE.out)
    have hbb : Below w8.heap.size w8 w9 := by first | exact hb | exact below_step (below_alloc (Below.refl _ _) _) hb | exact below_step (below_alloc (below_alloc (Below.refl _ _) _) _) hb
    replace HO := Aside0.mk (Kd.R_below HO.out hbb)
    replace O0 := Aside0.mk (Kd.R_below O0.out hbb)
    replace O1 := Aside0.mk (Kd.R_below O1.out hbb)
    replace O2 := Aside0.mk (Kd.R_below O2.out hbb)
    replace O3 := Aside0.mk (Kd.R_below O3.out hbb)
    replace O4 := Aside0.mk (Kd.R_below O4.out hbb)
    replace HI := Aside0.mk (IsS84.below HI.out hbb)
    replace HB := Aside0.mk (below_step HB.out hbb)
    clear hb hbb
    clear HF_
    obtain ⟨Ac, dc, rfl, O5c, _⟩ := Kd.R_reads ho0
    have O5 := Aside0.mk (Kd.R_mono (ok' := fun k => k ≠ g) (Kd.R_bound ho0) (fun k hk => by have := hk.2.1; (try simp at this); omega))
    clear ho0
    obtain ⟨Ad, dd, rfl, O6c, _⟩ := Kd.R_reads ho1
    have O6 := Aside0.mk (Kd.R_mono (ok' := fun k => k ≠ g) (Kd.R_bound ho1) (fun k hk => by have := hk.2.1; (try simp at this); omega))
    clear ho1
    obtain ⟨k1, hk1⟩ := again_three l lo lf le (by omega) (ending_keeps (1 + t1)) (ending_owns (1 + t1)) EC.out.1 EC.out.2.1 EC.out.2.2.1
    obtain ⟨k2, hk2⟩ := again_two l la lb (by omega) (ending_between (1 + t1) (1 + t2)) (.inr ⟨EB.out.2, EB.out.1⟩)
    obtain ⟨k3, hk3⟩ := again_two l lc ld (by omega) (ending_over t3) (.inl ⟨EO.out.1, EO.out.2⟩)
    have HK1 := Aside0.mk hk1; have HK2 := Aside0.mk hk2; have HK3 := Aside0.mk hk3
    clear hk1 hk2 hk3
    have b2 := blk_cell BE.out 2; have b3 := blk_cell BE.out 3
    go_wp2_with fail
    refine (storagebarterlaw26_again.calls k1 A1 d1 l (some ⟨w9.heap.size, 0, none⟩) 3 [lo, lf, le] true _ (Kd.C_below (Kd.R_reads' HO.out).2.2 (below_alloc (Below.refl _ _) _)) H1c (all_parts3 (blk_new w9 _) (Kd.C_below (Kd.R_reads' O0.out).2.2 (below_alloc (Below.refl _ _) _)) O0c (Kd.C_below (Kd.R_reads' O1.out).2.2 (below_alloc (Below.refl _ _) _)) O1c (Kd.C_below (Kd.R_reads' O2.out).2.2 (below_alloc (Below.refl _ _) _)) O2c) (by simp) HK1.out).mono ?_
    rintro e w10 ⟨rfl, hb⟩
    replace BE := Aside0.mk ((hb.block w6.heap.size (blk_lt (blk_alloc BE.out _))).trans (blk_alloc BE.out _))
    have hbb : Below w9.heap.size w9 w10 := by first | exact hb | exact below_step (below_alloc (Below.refl _ _) _) hb | exact below_step (below_alloc (below_alloc (Below.refl _ _) _) _) hb
    replace HO := Aside0.mk (Kd.R_below HO.out hbb)
    replace O0 := Aside0.mk (Kd.R_below O0.out hbb)
    replace O1 := Aside0.mk (Kd.R_below O1.out hbb)
    replace O2 := Aside0.mk (Kd.R_below O2.out hbb)
    replace O3 := Aside0.mk (Kd.R_below O3.out hbb)
    replace O4 := Aside0.mk (Kd.R_below O4.out hbb)
    replace O5 := Aside0.mk (Kd.R_below O5.out hbb)
    replace O6 := Aside0.mk (Kd.R_below O6.out hbb)
    replace HI := Aside0.mk (IsS84.below HI.out hbb)
    replace HB := Aside0.mk (below_step HB.out hbb)
    clear hb hbb
    clear b2 b3
    go_wp2_with fail
    refine (storagebarterlaw26_again.calls k2 A1 d1 l (some ⟨w10.heap.size, 0, none⟩) 2 [la, lb] true _ (Kd.C_below (Kd.R_reads' HO.out).2.2 (below_alloc (Below.refl _ _) _)) H1c (all_parts2 (blk_new w10 _) (Kd.C_below (Kd.R_reads' O3.out).2.2 (below_alloc (Below.refl _ _) _)) O3c (Kd.C_below (Kd.R_reads' O4.out).2.2 (below_alloc (Below.refl _ _) _)) O4c) (by simp) HK2.out).mono ?_
    rintro e w11 ⟨rfl, hb⟩
    replace BE := Aside0.mk ((hb.block w6.heap.size (blk_lt (blk_alloc BE.out _))).trans (blk_alloc BE.out _))
    have hbb : Below w10.heap.size w10 w11 := by first | exact hb | exact below_step (below_alloc (Below.refl _ _) _) hb | exact below_step (below_alloc (below_alloc (Below.refl _ _) _) _) hb
    replace HO := Aside0.mk (Kd.R_below HO.out hbb)
    replace O0 := Aside0.mk (Kd.R_below O0.out hbb)
    replace O1 := Aside0.mk (Kd.R_below O1.out hbb)
    replace O2 := Aside0.mk (Kd.R_below O2.out hbb)
    replace O3 := Aside0.mk (Kd.R_below O3.out hbb)
    replace O4 := Aside0.mk (Kd.R_below O4.out hbb)
    replace O5 := Aside0.mk (Kd.R_below O5.out hbb)
    replace O6 := Aside0.mk (Kd.R_below O6.out hbb)
    replace HI := Aside0.mk (IsS84.below HI.out hbb)
    replace HB := Aside0.mk (below_step HB.out hbb)
    clear hb hbb
    go_wp2_with fail
    refine (storagebarterlaw26_again.calls k3 A1 d1 l (some ⟨w11.heap.size, 0, none⟩) 2 [lc, ld] true _ (Kd.C_below (Kd.R_reads' HO.out).2.2 (below_alloc (Below.refl _ _) _)) H1c (all_parts2 (blk_new w11 _) (Kd.C_below (Kd.R_reads' O5.out).2.2 (below_alloc (Below.refl _ _) _)) O5c (Kd.C_below (Kd.R_reads' O6.out).2.2 (below_alloc (Below.refl _ _) _)) O6c) (by simp) HK3.out).mono ?_
    rintro e w12 ⟨rfl, hb⟩
    replace BE := Aside0.mk ((hb.block w6.heap.size (blk_lt (blk_alloc BE.out _))).trans (blk_alloc BE.out _))
    have hbb : Below w11.heap.size w11 w12 := by first | exact hb | exact below_step (below_alloc (Below.refl _ _) _) hb | exact below_step (below_alloc (below_alloc (Below.refl _ _) _) _) hb
    replace HO := Aside0.mk (Kd.R_below HO.out hbb)
    replace O0 := Aside0.mk (Kd.R_below O0.out hbb)
    replace O1 := Aside0.mk (Kd.R_below O1.out hbb)
    replace O2 := Aside0.mk (Kd.R_below O2.out hbb)
    replace O3 := Aside0.mk (Kd.R_below O3.out hbb)
    replace O4 := Aside0.mk (Kd.R_below O4.out hbb)
    replace O5 := Aside0.mk (Kd.R_below O5.out hbb)
    replace O6 := Aside0.mk (Kd.R_below O6.out hbb)
    replace HI := Aside0.mk (IsS84.below HI.out hbb)
    replace HB := Aside0.mk (below_step HB.out hbb)
    clear hb hbb
    have QO := Aside0.mk (all_out EC.out).1; have QF := Aside0.mk (all_out EC.out).2; have QR := Aside0.mk (all_room EB.out)
    have CO := Aside0.mk (Kd.R_reads' O0.out).2.2
    have CF := Aside0.mk (Kd.R_reads' O1.out).2.2
    have CR := Aside0.mk (Kd.R_reads' O3.out).2.2
    clear O0 O1 O2 O3 O4 O5 O6 HO HI HK1 HK2 HK3 EC EB EO
    go_wp2
    go_loopw [77] (fun vi w' => ∃ i : Int, 0 ≤ i ∧ i ≤ lo.length ∧ vi = .int .i64 i ∧ Aside0 (Kd.C k44 w' Ao lo.length lo) ∧ Aside0 (Kd.C k44 w' Af lf.length lf) ∧ Aside0 (Kd.C k44 w' Aa la.length la) ∧ Aside0 (w'.heap[w6.heap.size]? = some (.cells #[.int .i64 z2, .int .i64 z3, .slice Af lf.length df, .slice Ae le.length de] 32 (0, 0))) ∧ Aside0 (Below w.heap.size w w')) (fun vi _ => lo.length - (intOf vi).toNat)
    case atStart => exact ⟨0, by omega, by omega, rfl, CO, CF, CR, BE, HB⟩
    case round =>
      clear CO CF CR BE HB
      obtain ⟨i, hi0, hi1, rfl, CO, CF, CR, BE, HB⟩ := hrel
      by_cases hlt : i < (lo.length : Int)
      · obtain ⟨ad, ead, x0, x1, x2, x3, x4, x5, x6, x7⟩ := at_T44 CO.out i hi0 hlt
        have hmem := all_mem hi0 hlt
        have m0 := (QO.out _ hmem).1
        have m1 := (QO.out _ hmem).2
        have m0' : ((rd_T44 lo i).f0 == 1 + t1) = false := by simpa using m0
        have m1' : ((rd_T44 lo i).f1 == 1 + t1) = false := by simpa using m1
        clear hmem
        cases ead
        go_wp2
        go_roundw
        case rel => exact ⟨i + 1, by omega, by omega, by go_num, ⟨Kd.C_below CO.out (below_alloc (Below.refl _ _) _)⟩, ⟨Kd.C_below CF.out (below_alloc (Below.refl _ _) _)⟩, ⟨Kd.C_below CR.out (below_alloc (Below.refl _ _) _)⟩, ⟨blk_alloc BE.out _⟩, ⟨below_alloc HB.out _⟩⟩
        case measure => simp [intOf]; omega
      · have b2 := blk_cell BE.out 2
        go_wp2
        go_loopw [95] (fun vi w' => ∃ i : Int, 0 ≤ i ∧ i ≤ lf.length ∧ vi = .int .i64 i ∧ Aside0 (Kd.C k44 w' Ao lo.length lo) ∧ Aside0 (Kd.C k44 w' Af lf.length lf) ∧ Aside0 (Kd.C k44 w' Aa la.length la) ∧ Aside0 (w'.heap[w6.heap.size]? = some (.cells #[.int .i64 z2, .int .i64 z3, .slice Af lf.length df, .slice Ae le.length de] 32 (0, 0))) ∧ Aside0 (Below w.heap.size w w')) (fun vi _ => lf.length - (intOf vi).toNat)
        case atStart => exact ⟨0, by omega, by omega, rfl, CO, CF, CR, BE, HB⟩
        case round =>
          clear CO CF CR BE HB
          obtain ⟨i, hi0, hi1, rfl, CO, CF, CR, BE, HB⟩ := hrel
          by_cases hlt : i < (lf.length : Int)
          · obtain ⟨ad, ead, x0, x1, x2, x3, x4, x5, x6, x7⟩ := at_T44 CF.out i hi0 hlt
            have hmem := all_mem hi0 hlt
            have m1 := QF.out _ hmem
            have m1' : ((rd_T44 lf i).f1 != 1 + t1) = false := by simpa using m1
            clear hmem
            cases ead
            go_wp2
            go_roundw
            case rel => exact ⟨i + 1, by omega, by omega, by go_num, ⟨Kd.C_below CO.out (below_alloc (Below.refl _ _) _)⟩, ⟨Kd.C_below CF.out (below_alloc (Below.refl _ _) _)⟩, ⟨Kd.C_below CR.out (below_alloc (Below.refl _ _) _)⟩, ⟨blk_alloc BE.out _⟩, ⟨below_alloc HB.out _⟩⟩
            case measure => simp [intOf]; omega
          · have hrm := ending_Room.some_ la (1 + t1) (1 + t2) (by omega)
            rw [QR.out.1, QR.out.2] at hrm
            have HRM := Aside0.mk hrm
            clear hrm b2
            go_wp2_with fail
            refine (ending_Room.calls (2 * la.length + 1) Aa da la (1 + t1) (1 + t2) 0 0 _ CR.out O3c HRM.out).mono ?_
            rintro e wz ⟨rfl, hb⟩
            have HZ := Aside0.mk (below_step HB.out hb)
            clear hb
            go_wp2
            go_ret
            exact ⟨rfl, below_alloc HZ.out _⟩

  · cases h

def storagebarterlaw26_EndingAll.Pure : Prop := ∀ (l0 : List Int), l0.length ≤ maxLen → l0.length * 1 ≤ 140737488351232 → (∀ x ∈ l0, (Lit.int .u8 x).wf = true) → storagebarterlaw26_EndingAll.f l0 = some true
theorem storagebarterlaw26_EndingAll.walk (P : storagebarterlaw26_EndingAll.Pure) (a0 : Option Addr) (len0 cap0 : Nat) (z0 : List Int) (w : World) (w0 : (a0 = none ∧ len0 = 0 ∧ cap0 = 0 ∧ z0 = []) ∨ ∃ x, a0 = some x ∧ len0 ≤ cap0 ∧ cap0 ≤ maxLen ∧ z0.length = cap0 ∧ (∀ i, i < z0.length → w.cell? (x.add i) = some (.int .u8 (z0.getD i 0))) ∧ ∀ n ∈ z0, (Lit.int .u8 n).wf = true) (y0 : len0 * 1 ≤ 140737488351232) :
    Calls Try.prog 5 #[.slice a0 len0 cap0] w fun e w' => e = .returned (.bool true) ∧ Below w.heap.size w w' := by
  obtain ⟨l0, rfl, hr0, hm0, hw0, hc0⟩ := ReadsInt.ofRowC w0
  have h := P l0 hm0 y0 hw0
  refine (storagebarterlaw26_EndingAll.calls _ _ l0 true w (Kd.C_of_reads (d := (0 : Int)) (h1 := fun _ => rfl) hr0) hc0 h).mono ?_
  rintro e w' ⟨rfl, hd⟩
  exact ⟨rfl, hd⟩

end Go.Proofs.Ytepffabkcbfejaa.PEndingAll
