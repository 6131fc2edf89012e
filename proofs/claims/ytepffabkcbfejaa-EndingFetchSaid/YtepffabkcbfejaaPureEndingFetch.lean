/- The law EndingFetch answers true for every input: what its printed functions compute, in plain Lean. -/
import Derived.Test.YtepffabkcbfejaaPEndingFetchx4
set_option linter.unusedVariables false
set_option linter.unusedSimpArgs false
set_option maxRecDepth 100000
namespace Go.Proofs.Ytepffabkcbfejaa.Pure
open Go.RowKit Go.Proofs.Ytepffabkcbfejaa.PEndingFetch Go.Proofs.YtepffabkcbfejaaW.PrintWords Go.Proofs.YtepffabkcbfejaaW.PrintMore Go.Proofs.YtepffabkcbfejaaW.PrintLast

theorem w64 {n : Int} (h0 : 0 ≤ n) (h1 : n < 9223372036854775808) : wrap64 n = n := by unfold wrap64; omega
theorem drop_next {α : Type} {l : List α} {i : Int} {e : α} {t : List α} (h0 : 0 ≤ i) (h : l.drop i.toNat = e :: t) : l.drop (i + 1).toNat = t := by
  have e1 : (i + 1).toNat = i.toNat + 1 := by omega
  rw [e1, ← List.drop_drop, h]; rfl
theorem drop_len {α : Type} {l : List α} {i : Int} {t : List α} (h0 : 0 ≤ i) (hi : i ≤ l.length) (h : l.drop i.toNat = t) : (l.length : Int) = i + t.length := by
  rw [← h, List.length_drop]; omega
theorem getD_at {α : Type} {d : α} {l : List α} {i : Int} {e : α} {t : List α} (h : l.drop i.toNat = e :: t) : l.getD i.toNat d = e := by
  have : (l.drop i.toNat)[0]? = some e := by rw [h]; rfl
  rw [List.getElem?_drop] at this
  simp [List.getD_eq_getElem?_getD] at this ⊢
  rw [this]; rfl
/-! the dice: seeds are bytes, what is picked lies in the range, the place stays in the list -/
def Seeds (l : List Int) : Prop := l.length ≤ 300 ∧ ∀ x ∈ l, 0 ≤ x ∧ x ≤ 255
theorem new_ok {l : List Int} (h : ∀ x ∈ l, (Lit.int .u8 x).wf = true) : ∃ s, storagebarterplay_New.f l = some (s, 0) ∧ Seeds s := by
  have h' : ∀ x ∈ l, 0 ≤ x ∧ x ≤ 255 := fun x hx => by
    have := h x hx
    simp [Lit.wf, IntKind.min, IntKind.max, IntKind.signed, IntKind.bits] at this; omega
  unfold storagebarterplay_New.f
  by_cases q : (l.length : Int) > 300
  · rw [if_pos q, if_pos (by omega)]
    exact ⟨_, rfl, by rw [List.length_take]; omega, fun x hx => h' x (List.mem_of_mem_take hx)⟩
  · rw [if_neg q]
    exact ⟨_, rfl, by omega, h'⟩
theorem pick_ok {l : List Int} {p n : Int} (hs : Seeds l) (h0 : 0 ≤ p) (h1 : p ≤ l.length) (hn : 1 ≤ n) : ∃ r q, storagebarterplay_Dice_Pick.f l p n = some (r, q) ∧ 0 ≤ r ∧ r < n ∧ 0 ≤ q ∧ q ≤ l.length := by
  have hl := hs.1
  unfold storagebarterplay_Dice_Pick.f
  by_cases hp : p ≥ (l.length : Int)
  · rw [if_pos hp]; exact ⟨_, _, rfl, by omega, by omega, h0, h1⟩
  · rw [if_neg hp, w64 (n := p + 1) (by omega) (by omega), show p + 1 - 1 = p by omega, w64 (n := p) (by omega) (by omega), if_pos h0, if_pos (by omega), if_neg (by omega)]
    have hm : rd l p ∈ l := by
      have hi : p.toNat < l.length := by omega
      unfold rd
      rw [List.getD_eq_getElem?_getD, List.getElem?_eq_getElem hi]
      exact List.getElem_mem hi
    have hb := hs.2 _ hm
    rw [w64 (n := rd l p) (by omega) (by omega)]
    exact ⟨_, _, rfl, Int.tmod_nonneg _ hb.1, Int.tmod_lt_of_pos _ (by omega), by omega, by omega⟩

theorem bind_eq {α β : Type} {o : Option α} {x : α} {f : α → Option β} {r : Option β} (h : o = some x) (h2 : f x = r) : o.bind f = r := by subst h; exact h2
theorem if_eq {α : Type} {c : Prop} [Decidable c] {x y r : α} (h : c) (h2 : x = r) : (if c then x else y) = r := by rw [if_pos h]; exact h2
theorem if_ne {α : Type} {c : Prop} [Decidable c] {x y r : α} (h : ¬ c) (h2 : y = r) : (if c then x else y) = r := by rw [if_neg h]; exact h2
theorem sane26 : storagebarterlaw26_sane.f = some true := by kernel_rfl
theorem leaseIs_self (x : S44) : leaseIs x.f0 x.f1 x.f2 x.f3 x.f4 x.f5 x.f6 x.f7 x = true := by simp [leaseIs]
theorem fetch_l0 {s : List Int} (hs : Seeds s) (a u : Int) (hu : u = 7) (l3 : List S44) (h3 : l3.length ≤ 7) : ∀ (n : Nat) (l : List S44) (p : Int), l.length = n → n ≤ 7 → 0 ≤ p → p ≤ s.length → ∃ k, storagebarterlaw26_EndingFetch.l0 k (n : Int) s p a u l l3 = some true
  | 0, l, p, hl, hn, h0, h1 => by
    obtain rfl := List.eq_nil_of_length_eq_zero hl
    refine ⟨1, ?_⟩
    rw [storagebarterlaw26_EndingFetch.l0, if_neg (by omega)]
    have e1 : ending_Fetch.f a u [] l3 9 0 0 0 0 0 0 false = some (a, u, [], l3, false) := by
      unfold ending_Fetch.f
      rw [if_pos ⟨by simp, by omega⟩, if_neg (by simp)]
    refine bind_eq e1 (if_ne (by simp) ?_)
    have e2 : ending_Lost.f a u [] l3 100 = some [] := by
      unfold ending_Lost.f
      rw [if_neg (by omega)]
      exact bind_eq (show api_Lease_60.f [] = some [] by unfold api_Lease_60.f; rw [if_pos (by simp)]) rfl
    exact bind_eq e2 rfl
  | n + 1, l, p, hl, hn, h0, h1 => by
    obtain ⟨r, q, e, r0, r1, q0, q1⟩ := pick_ok hs h0 h1 (n := (l.length : Int)) (by omega)
    have hrn : r.toNat < l.length := by omega
    have hm : rd_T44 l r ∈ l := by
      unfold rd_T44
      rw [List.getD_eq_getElem?_getD, List.getElem?_eq_getElem hrn]
      exact List.getElem_mem hrn
    obtain ⟨x, hx⟩ : ∃ x, x = rd_T44 l r := ⟨_, rfl⟩
    rw [← hx] at hm
    have hf : l.findIdx (leaseIs x.f0 x.f1 x.f2 x.f3 x.f4 x.f5 x.f6 x.f7) < l.length := List.findIdx_lt_length_of_exists ⟨x, hm, leaseIs_self x⟩
    obtain ⟨j, hj⟩ : ∃ j, j = l.findIdx (leaseIs x.f0 x.f1 x.f2 x.f3 x.f4 x.f5 x.f6 x.f7) := ⟨_, rfl⟩
    have e1 : ending_Fetch.f a u l l3 x.f0 x.f1 x.f2 x.f3 x.f4 x.f5 x.f6 x.f7 = some (a, u, l.take j ++ l.drop (j + 1), l3, true) := by
      unfold ending_Fetch.f
      rw [if_pos ⟨by omega, by omega⟩, if_pos hf, ← hj]
    rw [← hj] at hf
    have hl2 : (l.take j ++ l.drop (j + 1)).length = n := by rw [List.length_append, List.length_take, List.length_drop]; omega
    obtain ⟨k, hk⟩ := fetch_l0 hs a u hu l3 h3 n (l.take j ++ l.drop (j + 1)) q hl2 (by omega) q0 q1
    refine ⟨k + 1, ?_⟩
    rw [storagebarterlaw26_EndingFetch.l0, if_pos (by omega)]
    refine bind_eq e (if_eq r0 (if_eq r1 ?_))
    show ((ending_Fetch.f a u l l3 (rd_T44 l r).f0 (rd_T44 l r).f1 (rd_T44 l r).f2 (rd_T44 l r).f3 (rd_T44 l r).f4 (rd_T44 l r).f5 (rd_T44 l r).f6 (rd_T44 l r).f7).bind _) = _
    rw [← hx]
    have hw : wrap64 (((n + 1 : Nat) : Int) - 1) = (n : Int) := by unfold wrap64; omega
    rw [hw]
    exact bind_eq e1 (if_eq rfl (if_eq (by show ((l.take j ++ l.drop (j + 1)).length : Int) = (n : Int); omega) (if_eq rfl (if_eq rfl hk))))
theorem EndingFetch : storagebarterlaw26_EndingFetch.Pure := by
  intro l _ _ hl
  obtain ⟨s, es, hs⟩ := new_ok hl
  obtain ⟨ls, i, e1, h7, i0, i1⟩ := storagebarterplay_Dice_Leases.short s hs.1
  obtain ⟨r1, q1, e2, a2, b2, m2, n2⟩ := pick_ok hs i0 i1 (n := 4) (by omega)
  obtain ⟨c1, c2, c3, c4, c5, e3, ⟨x1, x4, x5⟩, -, -, -, -, y3⟩ := ending_Culprit.some_ ls (wrap64 (1 + r1)) 3 4 (by omega)
  have h3 : c3 = 7 := by rw [y3, w64 (by omega) (by omega)]; rfl
  obtain ⟨k, hk⟩ := fetch_l0 hs c2 c3 h3 c5 (by omega) c4.length c4 q1 rfl (by omega) m2 n2
  refine ⟨k, ?_⟩
  unfold storagebarterlaw26_EndingFetch.f
  exact bind_eq sane26 (if_eq rfl (bind_eq es (bind_eq e1 (bind_eq e2 (bind_eq e3 hk)))))

end Go.Proofs.Ytepffabkcbfejaa.Pure
