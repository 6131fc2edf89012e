/- The law EndingRoom answers true for every input: what its printed functions compute, in plain Lean. -/
import Derived.Test.YtepffabkcbfejaaPEndingRoomx3
set_option linter.unusedVariables false
set_option linter.unusedSimpArgs false
set_option maxRecDepth 100000
namespace Go.Proofs.Ytepffabkcbfejaa.Pure
open Go.RowKit Go.Proofs.Ytepffabkcbfejaa.PEndingRoom Go.Proofs.YtepffabkcbfejaaW.PrintWords Go.Proofs.YtepffabkcbfejaaW.PrintMore Go.Proofs.YtepffabkcbfejaaW.PrintLast

theorem w64 {n : Int} (h0 : 0 ≤ n) (h1 : n < 9223372036854775808) : wrap64 n = n := by unfold wrap64; omega
theorem drop_next {α : Type} {l : List α} {i : Int} {e : α} {t : List α} (h0 : 0 ≤ i) (h : l.drop i.toNat = e :: t) : l.drop (i + 1).toNat = t := by
  have e1 : (i + 1).toNat = i.toNat + 1 := by omega
  rw [e1, ← List.drop_drop, h]; rfl
theorem drop_len {α : Type} {l : List α} {i : Int} {t : List α} (h0 : 0 ≤ i) (hi : i ≤ l.length) (h : l.drop i.toNat = t) : (l.length : Int) = i + t.length := by
  rw [← h, List.length_drop]; omega
theorem getD_at {α : Type} {d : α} {l : List α} {i : Int} {e : α} {t : List α} (h : l.drop i.toNat = e :: t) : l.getD i.toNat d = e := by
  have : (l.drop i.toNat)[0]? = some e := by rw [h]; rfl
  rw [List.getElem?_drop] at this
  simp [List.getD_eq_getElem?_getD] at this ⊢
  rw [this]; rfl
/-! the dice: seeds are bytes, what is picked lies in the range, the place stays in the list -/
def Seeds (l : List Int) : Prop := l.length ≤ 300 ∧ ∀ x ∈ l, 0 ≤ x ∧ x ≤ 255
theorem new_ok {l : List Int} (h : ∀ x ∈ l, (Lit.int .u8 x).wf = true) : ∃ s, storagebarterplay_New.f l = some (s, 0) ∧ Seeds s := by
  have h' : ∀ x ∈ l, 0 ≤ x ∧ x ≤ 255 := fun x hx => by
    have := h x hx
    simp [Lit.wf, IntKind.min, IntKind.max, IntKind.signed, IntKind.bits] at this; omega
  unfold storagebarterplay_New.f
  by_cases q : (l.length : Int) > 300
  · rw [if_pos q, if_pos (by omega)]
    exact ⟨_, rfl, by rw [List.length_take]; omega, fun x hx => h' x (List.mem_of_mem_take hx)⟩
  · rw [if_neg q]
    exact ⟨_, rfl, by omega, h'⟩
theorem pick_ok {l : List Int} {p n : Int} (hs : Seeds l) (h0 : 0 ≤ p) (h1 : p ≤ l.length) (hn : 1 ≤ n) : ∃ r q, storagebarterplay_Dice_Pick.f l p n = some (r, q) ∧ 0 ≤ r ∧ r < n ∧ 0 ≤ q ∧ q ≤ l.length := by
  have hl := hs.1
  unfold storagebarterplay_Dice_Pick.f
  by_cases hp : p ≥ (l.length : Int)
  · rw [if_pos hp]; exact ⟨_, _, rfl, by omega, by omega, h0, h1⟩
  · rw [if_neg hp, w64 (n := p + 1) (by omega) (by omega), show p + 1 - 1 = p by omega, w64 (n := p) (by omega) (by omega), if_pos h0, if_pos (by omega), if_neg (by omega)]
    have hm : rd l p ∈ l := by
      have hi : p.toNat < l.length := by omega
      unfold rd
      rw [List.getD_eq_getElem?_getD, List.getElem?_eq_getElem hi]
      exact List.getElem_mem hi
    have hb := hs.2 _ hm
    rw [w64 (n := rd l p) (by omega) (by omega)]
    exact ⟨_, _, rfl, Int.tmod_nonneg _ hb.1, Int.tmod_lt_of_pos _ (by omega), by omega, by omega⟩

theorem bind_eq {α β : Type} {o : Option α} {x : α} {f : α → Option β} {r : Option β} (h : o = some x) (h2 : f x = r) : o.bind f = r := by subst h; exact h2
theorem if_eq {α : Type} {c : Prop} [Decidable c] {x y r : α} (h : c) (h2 : x = r) : (if c then x else y) = r := by rw [if_pos h]; exact h2
theorem if_ne {α : Type} {c : Prop} [Decidable c] {x y r : α} (h : ¬ c) (h2 : y = r) : (if c then x else y) = r := by rw [if_neg h]; exact h2
theorem sane26 : storagebarterlaw26_sane.f = some true := by kernel_rfl
theorem room_ok (l : List S44) (a b : Int) (hl : l.length ≤ 7) (k : Nat) (hk : 15 ≤ k) : ending_Room.f k l a b = some (room a b l, room b a l) :=
  at_rounds (ending_Room.mono _ _ _) (by omega) (ending_Room.some_ l a b (by omega))
theorem EndingRoom : storagebarterlaw26_EndingRoom.Pure := by
  intro l a1 _ _ hl ha
  have ha' : 0 ≤ a1 ∧ a1 ≤ 255 := by
    simp [Lit.wf, IntKind.min, IntKind.max, IntKind.signed, IntKind.bits] at ha; omega
  obtain ⟨s, es, hs⟩ := new_ok hl
  obtain ⟨ls, i, e1, h7, i0, i1⟩ := storagebarterplay_Dice_Leases.short s hs.1
  obtain ⟨r1, q1, e2, a2, b2, m2, n2⟩ := pick_ok hs i0 i1 (n := 4) (by omega)
  obtain ⟨r2, q2, e3, a3, b3, m3, n3⟩ := pick_ok hs m2 n2 (n := 4) (by omega)
  have w2 : wrap64 a1 = a1 := w64 (by omega) (by omega)
  have w3 : wrap64 (1 + r1) = 1 + r1 := w64 (by omega) (by omega)
  have w4 : wrap64 (1 + r2) = 1 + r2 := w64 (by omega) (by omega)
  have w1 := Aside0.mk (w64 (n := (ls.length : Int) + 1) (by omega) (by omega))
  have n1 : ¬ ((ls.length : Int) + 1 = 0) := by omega
  obtain ⟨c, hc, c0, c1⟩ : ∃ c, Int.tmod a1 ((ls.length : Int) + 1) = c ∧ 0 ≤ c ∧ c ≤ (ls.length : Int) := by
    refine ⟨_, rfl, Int.tmod_nonneg _ ha'.1, ?_⟩
    have := Int.tmod_lt_of_pos a1 (show 0 < (ls.length : Int) + 1 by omega)
    omega
  have la : (ls.take c.toNat).length ≤ 7 := by rw [List.length_take]; omega
  have lb : (ls.drop c.toNat).length ≤ 7 := by rw [List.length_drop]; omega
  obtain ⟨la', hla⟩ : ∃ m, m = ls.take c.toNat := ⟨_, rfl⟩
  obtain ⟨lb', hlb⟩ : ∃ m, m = ls.drop c.toNat := ⟨_, rfl⟩
  have x1 := room_cut (1 + r1) (1 + r2) ls c.toNat
  have x2 := room_cut (1 + r2) (1 + r1) ls c.toNat
  rw [← hla] at la x1 x2
  rw [← hlb] at lb x1 x2
  obtain ⟨k, hk⟩ : ∃ k : Nat, 15 ≤ k := ⟨15, Nat.le_refl _⟩
  refine ⟨k, ?_⟩
  unfold storagebarterlaw26_EndingRoom.f
  refine bind_eq sane26 (if_eq rfl (bind_eq es (bind_eq e1 (bind_eq e2 (bind_eq e3 ?_)))))
  show (if (wrap64 ((ls.length : Int) + 1)) = 0 then none else _) = _
  rw [w1.out, w2, w3, w4, hc]
  refine if_ne n1 (bind_eq (room_ok ls _ _ h7 k hk) (bind_eq (room_ok ls _ _ h7 k hk) (if_eq c0 (if_eq c1 ?_))))
  rw [← hla, ← hlb]
  refine bind_eq (room_ok _ _ _ la k hk) (bind_eq (room_ok _ _ _ lb k hk) ?_)
  refine if_eq rfl (if_eq rfl (if_eq x1 ?_))
  rw [x2]
  simp

end Go.Proofs.Ytepffabkcbfejaa.Pure
