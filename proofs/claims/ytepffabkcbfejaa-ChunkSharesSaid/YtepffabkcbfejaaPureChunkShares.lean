/- The law ChunkShares of chapter 4 answers true for every input: what its printed functions compute, in plain Lean. -/
import Derived.Test.YtepffabkcbfejaaPChunkSharesx4
set_option linter.unusedVariables false
set_option linter.unusedSimpArgs false
set_option maxRecDepth 100000
namespace Go.Proofs.Ytepffabkcbfejaa.Pure
open Go.RowKit Go.Proofs.Ytepffabkcbfejaa.PChunkShares Go.Proofs.YtepffabkcbfejaaW.PrintWords Go.Proofs.YtepffabkcbfejaaW.PrintMore Go.Proofs.YtepffabkcbfejaaW.PrintLast

theorem w64 {n : Int} (h0 : 0 ≤ n) (h1 : n < 9223372036854775808) : wrap64 n = n := by unfold wrap64; omega

/-! the ends: what is before them, and what comes -/
def endsR (s : ByteArray) (c0 c1 c2 c3 : Int) : Nat → Int → Int → List Int
  | 0, _, _ => []
  | n + 1, fr, i => if cutB s c0 c1 c2 c3 fr (i + 1) = true then (i + 1) :: endsR s c0 c1 c2 c3 n (i + 1) (i + 1) else endsR s c0 c1 c2 c3 n fr (i + 1)
theorem endsL_R (s : ByteArray) (c0 c1 c2 c3 : Int) : ∀ (n : Nat) (fr i : Int) (acc : List Int), endsL s c0 c1 c2 c3 n fr i acc = acc ++ endsR s c0 c1 c2 c3 n fr i
  | 0, _, _, acc => by simp [endsL, endsR]
  | n + 1, fr, i, acc => by
    simp only [endsL, endsR]
    split
    · rw [endsL_R s c0 c1 c2 c3 n]; simp
    · rw [endsL_R s c0 c1 c2 c3 n]
/-- the first place behind `fr` at which a chunk ends -/
def First (s : ByteArray) (c0 c1 c2 c3 fr e : Int) : Prop := fr < e ∧ e ≤ s.size ∧ cutB s c0 c1 c2 c3 fr e = true ∧ ∀ a, fr < a → a < e → cutB s c0 c1 c2 c3 fr a = false
def Path (s : ByteArray) (c0 c1 c2 c3 : Int) : Int → List Int → Prop
  | fr, [] => fr = s.size
  | fr, e :: t => First s c0 c1 c2 c3 fr e ∧ Path s c0 c1 c2 c3 e t
theorem cutB_size (s : ByteArray) (c0 c1 c2 c3 fr : Int) : cutB s c0 c1 c2 c3 fr s.size = true := by simp [cutB]
theorem path_R (s : ByteArray) (c0 c1 c2 c3 : Int) : ∀ (n : Nat) (fr i : Int), fr ≤ i → i + n = s.size → (∀ a, fr < a → a ≤ i → cutB s c0 c1 c2 c3 fr a = false) → Path s c0 c1 c2 c3 fr (endsR s c0 c1 c2 c3 n fr i)
  | 0, fr, i, h, e, no => by
    simp only [endsR, Path]
    rcases Int.lt_or_le fr i with h' | h'
    · have := no i h' (Int.le_refl _)
      have e2 : i = s.size := by simpa using e
      rw [e2, cutB_size] at this
      cases this
    · simp at e; omega
  | n + 1, fr, i, h, e, no => by
    simp only [endsR]
    split
    · rename_i hc
      refine ⟨⟨by omega, by omega, hc, fun a h1 h2 => no a h1 (by omega)⟩, ?_⟩
      exact path_R s c0 c1 c2 c3 n (i + 1) (i + 1) (Int.le_refl _) (by push_cast at e; omega) (fun a h1 h2 => by omega)
    · rename_i hc
      refine path_R s c0 c1 c2 c3 n fr (i + 1) (by omega) (by push_cast at e; omega) (fun a h1 h2 => ?_)
      rcases Int.lt_or_le a (i + 1) with h3 | h3
      · exact no a h1 (by omega)
      · have : a = i + 1 := by omega
        rw [this]
        simpa using hc
theorem path_L (s : ByteArray) (c0 c1 c2 c3 : Int) : Path s c0 c1 c2 c3 0 (endsL s c0 c1 c2 c3 s.size 0 0 []) := by
  rw [endsL_R]
  exact path_R s c0 c1 c2 c3 s.size 0 0 (Int.le_refl _) (by omega) (fun a h1 h2 => by omega)
theorem First.same {s : ByteArray} {c0 c1 c2 c3 fr e e' : Int} (h : First s c0 c1 c2 c3 fr e) (h' : First s c0 c1 c2 c3 fr e') : e = e' := by
  obtain ⟨a1, a2, a3, a4⟩ := h
  obtain ⟨b1, b2, b3, b4⟩ := h'
  rcases Int.lt_trichotomy e e' with h | h | h
  · rw [b4 e a1 h] at a3; cases a3
  · exact h
  · rw [a4 e' b1 h] at b3; cases b3
theorem Path.end_ {s : ByteArray} {c0 c1 c2 c3 fr : Int} {t : List Int} (h : Path s c0 c1 c2 c3 fr t) (he : fr = s.size) : t = [] := by
  cases t with
  | nil => rfl
  | cons e t => obtain ⟨⟨a1, a2, _⟩, _⟩ := h; omega
theorem Path.same {s : ByteArray} {c0 c1 c2 c3 : Int} : ∀ {t t' : List Int} {fr : Int}, Path s c0 c1 c2 c3 fr t → Path s c0 c1 c2 c3 fr t' → t = t'
  | [], t', fr, h, h' => (h'.end_ h).symm
  | e :: t, [], fr, h, h' => h.end_ h'
  | e :: t, e' :: t', fr, h, h' => by
    have he := h.1.same h'.1
    subst he
    rw [Path.same h.2 h'.2]
theorem First.far {s : ByteArray} {c0 c1 c2 c3 fr e : Int} (hc : c0 ≤ c1) (h : First s c0 c1 c2 c3 fr e) : e = s.size ∨ fr + c0 ≤ e := by
  obtain ⟨a1, a2, a3, a4⟩ := h
  unfold cutB at a3
  rw [Bool.or_eq_true, Bool.or_eq_true, Bool.and_eq_true, decide_eq_true_iff, beq_iff_eq, beq_iff_eq] at a3
  rcases a3 with (h | h) | ⟨h, _⟩ <;> omega
theorem First.near {s : ByteArray} {c0 c1 c2 c3 fr e : Int} (h : First s c0 c1 c2 c3 fr e) (h1 : 1 ≤ c1) : e ≤ fr + c1 := by
  obtain ⟨a1, a2, a3, a4⟩ := h
  rcases Int.lt_or_le (fr + c1) e with h | h
  · have := a4 (fr + c1) (by omega) h
    simp [cutB] at this
    omega
  · exact h
theorem Path.few {s : ByteArray} {c0 c1 c2 c3 : Int} (h4 : 4 ≤ c0) (hc : c0 ≤ c1) : ∀ {t : List Int} {fr : Int}, Path s c0 c1 c2 c3 fr t → (t.length : Int) * 4 ≤ s.size - fr + 3
  | [], fr, h => by simp only [Path] at h; simp; omega
  | e :: t, fr, h => by
    have ih := Path.few h4 hc h.2
    rcases h.1.far hc with he | he
    · rw [h.2.end_ he]; have := h.1.1; simp; omega
    · rw [List.length_cons]; push_cast; omega
theorem Path.le {s : ByteArray} {c0 c1 c2 c3 : Int} : ∀ {t : List Int} {fr : Int}, Path s c0 c1 c2 c3 fr t → fr ≤ s.size
  | [], fr, h => by simp only [Path] at h; omega
  | e :: t, fr, h => by obtain ⟨⟨a1, a2, _⟩, _⟩ := h; omega
/-- what is cut there -/
def pieces (s : ByteArray) : Int → List Int → List ByteArray
  | _, [] => []
  | fr, e :: t => s.extract fr.toNat e.toNat :: pieces s e t
theorem pieces_length (s : ByteArray) : ∀ (t : List Int) (fr : Int), (pieces s fr t).length = t.length
  | [], _ => rfl
  | e :: t, _ => by simp [pieces, pieces_length s t e]
theorem rd_at {l : List Int} {i : Int} {e : Int} {t : List Int} (h : l.drop i.toNat = e :: t) : rd l i = e := by
  have : (l.drop i.toNat)[0]? = some e := by rw [h]; rfl
  rw [List.getElem?_drop] at this
  simp [rd, List.getD_eq_getElem?_getD] at this ⊢
  rw [this]; rfl
theorem drop_next {α : Type} {l : List α} {i : Int} {e : α} {t : List α} (h0 : 0 ≤ i) (h : l.drop i.toNat = e :: t) : l.drop (i + 1).toNat = t := by
  have e1 : (i + 1).toNat = i.toNat + 1 := by omega
  rw [e1, ← List.drop_drop, h]; rfl
theorem drop_len {α : Type} {l : List α} {i : Int} {t : List α} (h0 : 0 ≤ i) (hi : i ≤ l.length) (h : l.drop i.toNat = t) : (l.length : Int) = i + t.length := by
  rw [← h, List.length_drop]; omega
theorem rdOf_at {α : Type} {d : α} {l : List α} {i : Int} {e : α} {t : List α} (h : l.drop i.toNat = e :: t) : rdOf d l i = e := by
  have : (l.drop i.toNat)[0]? = some e := by rw [h]; rfl
  rw [List.getElem?_drop] at this
  simp [rdOf, List.getD_eq_getElem?_getD] at this ⊢
  rw [this]; rfl
theorem cut_l0 (s : ByteArray) (c0 c1 c2 c3 : Int) (L : List Int) (hL : L.length ≤ 256) : ∀ (t : List Int) (k : Nat) (acc : List ByteArray) (fr i : Int), t.length < k → 0 ≤ fr → 0 ≤ i → i ≤ L.length → L.drop i.toNat = t → Path s c0 c1 c2 c3 fr t → acc.length ≤ i → chunk_Cut.l0 k s acc fr L L.length i = some (acc ++ pieces s fr t, 0)
  | [], k + 1, acc, fr, i, hk, hf, h0, hi, hd, hp, ha => by
    have := drop_len h0 hi hd
    unfold chunk_Cut.l0
    rw [if_neg (by simp at this; omega)]
    simp [pieces]
  | e :: t, k + 1, acc, fr, i, hk, hf, h0, hi, hd, hp, ha => by
    have hl := drop_len h0 hi hd
    have hr := rd_at hd
    rw [List.length_cons] at hl hk
    push_cast at hl
    have hfe := hp.1.1
    have hes := hp.1.2.1
    unfold chunk_Cut.l0
    rw [hr, if_pos (by omega), if_pos h0, if_pos (by omega), if_pos hf, if_pos (by omega), if_pos hes, if_pos (by omega), w64 (by omega) (by omega)]
    rw [cut_l0 s c0 c1 c2 c3 L hL t k _ e (i + 1) (by omega) (by omega) (by omega) (by omega) (drop_next h0 hd) hp.2 (by simp; omega)]
    simp [pieces]
def okC (c0 c1 c2 c3 : Int) : Prop := 4 ≤ c0 ∧ c0 ≤ c1 ∧ c1 ≤ 256 ∧ 1 ≤ c2 ∧ c2 ≤ c0 ∧ 1 ≤ c3 ∧ c3 ≤ 1024
theorem check_ok {c0 c1 c2 c3 : Int} (h : okC c0 c1 c2 c3) : chunk_Check.f c0 c1 c2 c3 = some 0 := by
  obtain ⟨a1, a2, a3, a4, a5, a6, a7⟩ := h
  unfold chunk_Check.f
  rw [if_neg (by omega), if_neg (by omega), if_neg (by omega), if_neg (by omega), if_neg (by omega), if_neg (by omega), if_neg (by omega)]
/-- the ends of a short text -/
theorem ends_ok {s : ByteArray} {c0 c1 c2 c3 : Int} (h : okC c0 c1 c2 c3) (hs : s.size ≤ 1000) : ∃ L, chunk_Ends.f s c0 c1 c2 c3 = some (L, 0) ∧ Path s c0 c1 c2 c3 0 L ∧ L.length ≤ 256 := by
  have hp := path_L s c0 c1 c2 c3
  have hf := hp.few h.1 h.2.1
  refine ⟨_, ?_, hp, by omega⟩
  unfold chunk_Ends.f
  rw [check_ok h]
  simp only [Option.bind_some, if_true]
  rw [if_neg (by omega), if_neg (by omega)]
theorem cut_ok {s : ByteArray} {c0 c1 c2 c3 : Int} {L : List Int} (k : Nat) (hk : 256 < k) (he : chunk_Ends.f s c0 c1 c2 c3 = some (L, 0)) (hp : Path s c0 c1 c2 c3 0 L) (hl : L.length ≤ 256) : chunk_Cut.f k s c0 c1 c2 c3 = some (pieces s 0 L, 0) := by
  unfold chunk_Cut.f
  rw [he]
  simp only [Option.bind_some, if_true]
  exact cut_l0 s c0 c1 c2 c3 L hl L k [] 0 0 (by omega) (Int.le_refl _) (Int.le_refl _) (by omega) rfl hp (by simp)
theorem sane_ok (k : Nat) (hk : 256 < k) : storagebarterlaw04_sane.f k = some true := by
  have h : storagebarterlaw04_sane.f 257 = some true := by kernel_rfl
  exact at_rounds storagebarterlaw04_sane.mono (by omega) h

/-! the deck: what is drawn lies in the range, and the place stays in the list -/
theorem mod_ok {x a : Int} (h1 : 1 ≤ a) (h2 : a ≤ 1000000) : ∃ r, storagebartermake_Mod.f x a = some r ∧ 0 ≤ r ∧ r < a := by
  have l1 := Int.tmod_lt_of_pos x (show 0 < a by omega)
  have l2 := Int.tmod_lt_of_pos (-x) (show 0 < a by omega)
  rw [Int.neg_tmod] at l2
  refine ⟨_, by unfold storagebartermake_Mod.f; rw [if_neg (by omega)], ?_, ?_⟩
  · rw [w64 (by omega) (by omega)]; exact Int.tmod_nonneg _ (by omega)
  · exact Int.tmod_lt_of_pos _ (by omega)
theorem next_ok {l : List Int} {p a : Int} (hl : l.length ≤ 500) (h0 : 0 ≤ p) (h1 : p ≤ l.length) (ha : 1 ≤ a) (hb : a ≤ 1000000) : ∃ r q, storagebartermake_Deck_Next.f l p a = some (r, q) ∧ 0 ≤ r ∧ r < a ∧ 0 ≤ q ∧ q ≤ l.length := by
  unfold storagebartermake_Deck_Next.f
  rw [if_neg (by omega)]
  by_cases hp : p ≥ (l.length : Int)
  · rw [if_pos hp]; exact ⟨_, _, rfl, by omega, by omega, h0, h1⟩
  · rw [if_neg hp, if_pos h0, if_pos (by omega)]
    obtain ⟨r, hr, h3, h4⟩ := mod_ok (x := rd l p) ha hb
    rw [hr]
    refine ⟨r, p + 1, ?_, h3, h4, by omega, by omega⟩
    simp only [Option.bind_some]
    rw [w64 (by omega) (by omega)]
theorem cutting_ok {l : List Int} {p : Int} (hl : l.length ≤ 500) (h0 : 0 ≤ p) (h1 : p ≤ l.length) : ∃ c0 c1 c2 c3 q, storagebartermake_Cutting.f l p = some (c0, c1, c2, c3, q) ∧ okC c0 c1 c2 c3 ∧ 0 ≤ q ∧ q ≤ l.length := by
  obtain ⟨r1, q1, e1, a1, b1, m1, n1⟩ := next_ok hl h0 h1 (a := 6) (by omega) (by omega)
  obtain ⟨r2, q2, e2, a2, b2, m2, n2⟩ := next_ok hl m1 n1 (a := 20) (by omega) (by omega)
  obtain ⟨r3, q3, e3, a3, b3, m3, n3⟩ := next_ok hl m2 n2 (a := 4 + r1) (by omega) (by omega)
  obtain ⟨r4, q4, e4, a4, b4, m4, n4⟩ := next_ok hl m3 n3 (a := 9) (by omega) (by omega)
  refine ⟨4 + r1, 4 + r1 + r2, 1 + r3, 1 + r4, q4, ?_, by unfold okC; omega, m4, n4⟩
  unfold storagebartermake_Cutting.f
  rw [e1]
  simp only [Option.bind_some]
  rw [e2]
  simp only [Option.bind_some]
  rw [w64 (n := 4 + r1) (by omega) (by omega), e3]
  simp only [Option.bind_some]
  rw [e4]
  simp only [Option.bind_some]
  rw [w64 (n := 4 + r1 + r2) (by omega) (by omega), w64 (n := 1 + r3) (by omega) (by omega), w64 (n := 1 + r4) (by omega) (by omega)]
theorem text_l0 {l : List Int} (hl : l.length ≤ 500) : ∀ (m k : Nat) (b : List Int) (p : Int), m < k → b.length + m ≤ 1000 → 0 ≤ p → p ≤ l.length → ∃ s q, storagebartermake_Text.l0 k b m l p = some (s, q) ∧ s.size ≤ b.length + m ∧ 0 ≤ q ∧ q ≤ l.length
  | 0, k + 1, b, p, hk, hb, h0, h1 => by
    refine ⟨_, _, by unfold storagebartermake_Text.l0; rw [if_neg (by omega)], ?_, h0, h1⟩
    rw [strOfNums_size]; omega
  | m + 1, k + 1, b, p, hk, hb, h0, h1 => by
    obtain ⟨r, q, e, a1, b1, m1, n1⟩ := next_ok hl h0 h1 (a := 5) (by omega) (by omega)
    unfold storagebartermake_Text.l0
    rw [if_pos (by omega), e]
    simp only [Option.bind_some]
    rw [if_pos (by omega), w64 (n := ((m + 1 : Nat) : Int) - 1) (by omega) (by omega), show ((m + 1 : Nat) : Int) - 1 = m by omega]
    obtain ⟨s, q', e', h2, h3, h4⟩ := text_l0 hl m k (b ++ [(wrap64 (r * 51)) % 256]) q (by omega) (by simp; omega) m1 n1
    exact ⟨s, q', e', by simp at h2; omega, h3, h4⟩
theorem text_ok {l : List Int} {p : Int} (hl : l.length ≤ 500) (h0 : 0 ≤ p) (h1 : p ≤ l.length) (n : Int) (hn : 0 ≤ n) (hn2 : n ≤ 900) (k : Nat) (hk : 1000 ≤ k) : ∃ s q, storagebartermake_Text.f k l p n = some (s, q) ∧ (s.size : Int) ≤ n ∧ 0 ≤ q ∧ q ≤ l.length := by
  obtain ⟨r, q, e, a1, b1, m1, n1⟩ := next_ok hl h0 h1 (a := n + 1) (by omega) (by omega)
  unfold storagebartermake_Text.f
  rw [w64 (n := n + 1) (by omega) (by omega), e]
  simp only [Option.bind_some]
  obtain ⟨s, q', e', h2, h3, h4⟩ := text_l0 hl r.toNat k [] q (by omega) (by simp; omega) m1 n1
  rw [Int.toNat_of_nonneg a1] at e'
  exact ⟨s, q', e', by simp at h2; omega, h3, h4⟩

/-! ### what is behind the same end is cut the same way -/
theorem ext_right {a r : ByteArray} {i j : Nat} (hi : a.size ≤ i) : (a ++ r).extract i j = r.extract (i - a.size) (j - a.size) := by
  rw [ByteArray.extract_append, show a.extract i j = ByteArray.empty from ?_, ByteArray.empty_append]
  rw [← ByteArray.size_eq_zero_iff, ByteArray.size_extract]; omega
theorem cutB_shift {a b r : ByteArray} {c0 c1 c2 c3 fr e : Int} (h : a.size ≤ fr) (he : fr ≤ e) : cutB (a ++ r) c0 c1 c2 c3 fr e = cutB (b ++ r) c0 c1 c2 c3 (fr - a.size + b.size) (e - a.size + b.size) := by
  have e1 : (a ++ r).extract fr.toNat e.toNat = (b ++ r).extract (fr - a.size + b.size).toNat (e - a.size + b.size).toNat := by
    rw [ext_right (by omega), ext_right (by omega), show fr.toNat - a.size = (fr - a.size + b.size).toNat - b.size by omega, show e.toNat - a.size = (e - a.size + b.size).toNat - b.size by omega]
  unfold cutB
  rw [e1, ByteArray.size_append, ByteArray.size_append, show e - a.size + b.size - (fr - a.size + b.size) = e - fr by omega]
  have e2 : (e == ((a.size + r.size : Nat) : Int)) = (e - a.size + b.size == ((b.size + r.size : Nat) : Int)) := by
    rw [Bool.eq_iff_iff, beq_iff_eq, beq_iff_eq]; omega
  rw [e2]
theorem first_shift {a b r : ByteArray} {c0 c1 c2 c3 fr e : Int} (h : a.size ≤ fr) (hf : First (a ++ r) c0 c1 c2 c3 fr e) : First (b ++ r) c0 c1 c2 c3 (fr - a.size + b.size) (e - a.size + b.size) := by
  obtain ⟨a1, a2, a3, a4⟩ := hf
  rw [ByteArray.size_append] at a2
  refine ⟨by omega, by rw [ByteArray.size_append]; omega, by rw [← cutB_shift h (by omega)]; exact a3, fun x h1 h2 => ?_⟩
  have := a4 (x - b.size + a.size) (by omega) (by omega)
  rw [cutB_shift (b := b) h (by omega), show x - b.size + a.size - a.size + b.size = x by omega] at this
  exact this
theorem path_shift {a b r : ByteArray} {c0 c1 c2 c3 : Int} : ∀ {t : List Int} {fr : Int}, (a.size : Int) ≤ fr → Path (a ++ r) c0 c1 c2 c3 fr t → Path (b ++ r) c0 c1 c2 c3 (fr - a.size + b.size) (t.map fun x => x - a.size + b.size)
  | [], fr, h, hp => by simp only [Path, List.map_nil] at hp ⊢; rw [ByteArray.size_append] at hp ⊢; omega
  | e :: t, fr, h, hp => ⟨first_shift h hp.1, path_shift (by have := hp.1.1; omega) hp.2⟩
theorem pieces_shift {a b r : ByteArray} {c0 c1 c2 c3 : Int} : ∀ {t : List Int} {fr : Int}, (a.size : Int) ≤ fr → Path (a ++ r) c0 c1 c2 c3 fr t → pieces (a ++ r) fr t = pieces (b ++ r) (fr - a.size + b.size) (t.map fun x => x - a.size + b.size)
  | [], fr, h, hp => rfl
  | e :: t, fr, h, hp => by
    have hfe := hp.1.1
    simp only [pieces, List.map_cons]
    rw [← pieces_shift (by omega) hp.2, ext_right (by omega), ext_right (by omega), show fr.toNat - a.size = (fr - a.size + b.size).toNat - b.size by omega, show e.toNat - a.size = (e - a.size + b.size).toNat - b.size by omega]
theorem path_drop {s : ByteArray} {c0 c1 c2 c3 : Int} : ∀ {L : List Int} {fr : Int} (i : Nat) {e : Int} {t : List Int}, Path s c0 c1 c2 c3 fr L → L.drop i = e :: t → Path s c0 c1 c2 c3 e t ∧ (pieces s fr L).drop (i + 1) = pieces s e t ∧ t.length + i + 1 = L.length
  | [], fr, i, e, t, hp, h => by simp at h
  | x :: L, fr, 0, e, t, hp, h => by
    simp at h
    obtain ⟨rfl, rfl⟩ := h
    exact ⟨hp.2, rfl, by simp⟩
  | x :: L, fr, i + 1, e, t, hp, h => by
    obtain ⟨h1, h2, h3⟩ := path_drop i hp.2 (by simpa using h)
    exact ⟨h1, by simpa [pieces] using h2, by simp; omega⟩
theorem drop_rd {l : List Int} {i : Int} (h0 : 0 ≤ i) (h1 : i < l.length) : ∃ t, l.drop i.toNat = rd l i :: t := by
  have hi : i.toNat < l.length := by omega
  refine ⟨l.drop (i.toNat + 1), ?_⟩
  rw [List.drop_eq_getElem_cons hi]
  simp [rd, List.getD_eq_getElem?_getD, List.getElem?_eq_getElem hi]
/-- the count of `Common`: it ends, and where it ends the two differ -/
theorem common_l0 (P Q : List ByteArray) (hP : P.length ≤ 256) (hQ : Q.length ≤ 256) : ∀ (m k : Nat) (i : Int), (P.length : Int) - i ≤ m → m < k → 0 ≤ i → i ≤ P.length → i ≤ Q.length → ∃ n, chunk_Common.l0 k P Q i = some (n, 0) ∧ i ≤ n ∧ n ≤ P.length ∧ n ≤ Q.length ∧ (n < P.length → n < Q.length → (rdOf ByteArray.empty P (P.length - 1 - n)).toList ≠ (rdOf ByteArray.empty Q (Q.length - 1 - n)).toList)
  | 0, k + 1, i, hm, hk, h0, h1, h2 => by
    refine ⟨i, by rw [chunk_Common.l0, if_neg (by simp at hm; omega)], by omega, h1, h2, fun h => ?_⟩
    simp at hm; omega
  | m + 1, k + 1, i, hm, hk, h0, h1, h2 => by
    by_cases q1 : i < P.length
    · by_cases q2 : i < Q.length
      · rw [chunk_Common.l0, if_pos q1, if_pos q2, w64 (n := (P.length : Int) - 1) (by omega) (by omega), w64 (n := (Q.length : Int) - 1) (by omega) (by omega), w64 (n := (P.length : Int) - 1 - i) (by omega) (by omega), w64 (n := (Q.length : Int) - 1 - i) (by omega) (by omega), if_pos (by omega), if_pos (by omega), if_pos (by omega), if_pos (by omega)]
        by_cases q3 : (rdOf ByteArray.empty P (P.length - 1 - i)).toList = (rdOf ByteArray.empty Q (Q.length - 1 - i)).toList
        · rw [if_pos q3, w64 (n := i + 1) (by omega) (by omega)]
          obtain ⟨n, e, a1, a2, a3, a4⟩ := common_l0 P Q hP hQ m k (i + 1) (by push_cast at hm; omega) (by omega) (by omega) (by omega) (by omega)
          exact ⟨n, e, by omega, a2, a3, a4⟩
        · rw [if_neg q3]
          exact ⟨i, rfl, by omega, h1, h2, fun _ _ => q3⟩
      · exact ⟨i, by rw [chunk_Common.l0, if_pos q1, if_neg q2], by omega, h1, h2, fun _ h => absurd h q2⟩
    · exact ⟨i, by rw [chunk_Common.l0, if_neg q1], by omega, h1, h2, fun h => absurd h q1⟩
theorem rdOf_tail {P T : List ByteArray} {i : Nat} {n : Int} (h : P.drop i = T) (h0 : 0 ≤ n) (hn : n < T.length) (hi : i + T.length = P.length) : rdOf ByteArray.empty P (P.length - 1 - n) = T.getD (T.length - 1 - n.toNat) ByteArray.empty := by
  subst h
  unfold rdOf
  rw [List.getD_eq_getElem?_getD, List.getD_eq_getElem?_getD, List.getElem?_drop]
  congr 2
  omega
/-- the pair of loops -/
theorem law_loops (A B : ByteArray) (X Y : List Int) (n : Int) (hX : X.length ≤ 256) (hY : Y.length ≤ 256) (H : ∀ i j : Int, 0 ≤ i → i < X.length → 0 ≤ j → j < Y.length → (A.size : Int) ≤ rd X i → (B.size : Int) ≤ rd Y j → rd X i - A.size = rd Y j - B.size → (X.length : Int) - 1 - i ≤ n)
    (hx : ∀ i : Int, 0 ≤ i → i < X.length → 0 ≤ rd X i ∧ rd X i ≤ 1000) (hy : ∀ i : Int, 0 ≤ i → i < Y.length → 0 ≤ rd Y i ∧ rd Y i ≤ 1000) (hA : A.size ≤ 1000) (hB : B.size ≤ 1000) :
    ∀ (m : Nat) (i x : Int), (X.length : Int) - i ≤ m → 0 ≤ i → x ≤ n → ∃ k, storagebarterlaw04_ChunkShares.l0 k A B X Y n x X X.length i = some true := by
  intro m
  induction m with
  | zero =>
    intro i x hm h0 hxn
    refine ⟨1, ?_⟩
    rw [storagebarterlaw04_ChunkShares.l0, if_neg (by simp at hm; omega)]
    rw [decide_eq_true (show n ≥ x from hxn)]
  | succ m ih =>
    intro i x hm h0 hxn
    by_cases q : i < X.length
    · have ih' := fun x h => ih (i + 1) x (by push_cast at hm; omega) (by omega) h
      have bx := hx i h0 q
      have inner : ∀ (p : Nat) (j x : Int), (Y.length : Int) - j ≤ p → 0 ≤ j → x ≤ n → ∃ k, storagebarterlaw04_ChunkShares.l1 k A B X Y n x i (rd X i) X X.length i Y Y.length j = some true := by
        intro p
        induction p with
        | zero =>
          intro j x hp hj hxn
          obtain ⟨k, hk⟩ := ih' x hxn
          refine ⟨k + 1, ?_⟩
          rw [storagebarterlaw04_ChunkShares.l1, if_neg (by simp at hp; omega), w64 (by omega) (by omega), hk]
        | succ p ihp =>
          intro j x hp hj hxn
          by_cases qj : j < Y.length
          · have ihp' := fun x h => ihp (j + 1) x (by push_cast at hp; omega) (by omega) h
            have by_ := hy j hj qj
            obtain ⟨k1, hk1⟩ := ihp' x hxn
            by_cases c1 : rd X i ≥ (A.size : Int)
            · by_cases c2 : rd Y j ≥ (B.size : Int)
              · by_cases c3 : rd X i - A.size = rd Y j - B.size
                · have hh := H i j h0 q hj qj c1 c2 c3
                  obtain ⟨k2, hk2⟩ := ihp' (mx x ((X.length : Int) - 1 - i)) (by unfold mx; split <;> omega)
                  refine ⟨k2 + 1, ?_⟩
                  rw [storagebarterlaw04_ChunkShares.l1, if_pos qj, if_pos hj, if_pos qj, if_pos c1, if_pos c2, w64 (n := rd X i - A.size) (by omega) (by omega), w64 (n := rd Y j - B.size) (by omega) (by omega), if_pos c3, w64 (n := (X.length : Int) - 1) (by omega) (by omega), w64 (n := (X.length : Int) - 1 - i) (by omega) (by omega), w64 (n := j + 1) (by omega) (by omega), hk2]
                · refine ⟨k1 + 1, ?_⟩
                  rw [storagebarterlaw04_ChunkShares.l1, if_pos qj, if_pos hj, if_pos qj, if_pos c1, if_pos c2, w64 (n := rd X i - A.size) (by omega) (by omega), w64 (n := rd Y j - B.size) (by omega) (by omega), if_neg c3, w64 (n := j + 1) (by omega) (by omega), hk1]
              · refine ⟨k1 + 1, ?_⟩
                rw [storagebarterlaw04_ChunkShares.l1, if_pos qj, if_pos hj, if_pos qj, if_pos c1, if_neg c2, w64 (n := j + 1) (by omega) (by omega), hk1]
            · refine ⟨k1 + 1, ?_⟩
              rw [storagebarterlaw04_ChunkShares.l1, if_pos qj, if_pos hj, if_pos qj, if_neg c1, w64 (n := j + 1) (by omega) (by omega), hk1]
          · obtain ⟨k, hk⟩ := ih' x hxn
            refine ⟨k + 1, ?_⟩
            rw [storagebarterlaw04_ChunkShares.l1, if_neg qj, w64 (by omega) (by omega), hk]
      obtain ⟨k, hk⟩ := inner Y.length 0 x (by omega) (Int.le_refl _) hxn
      refine ⟨k + 1, ?_⟩
      rw [storagebarterlaw04_ChunkShares.l0, if_pos q, if_pos h0, if_pos q, hk]
    · refine ⟨1, ?_⟩
      rw [storagebarterlaw04_ChunkShares.l0, if_neg q, decide_eq_true (show n ≥ x from hxn)]
theorem path_rd {s : ByteArray} {c0 c1 c2 c3 : Int} : ∀ {L : List Int} {fr : Int}, 0 ≤ fr → Path s c0 c1 c2 c3 fr L → ∀ x ∈ L, 0 ≤ x ∧ x ≤ s.size
  | [], fr, h, hp, x, hx => by cases hx
  | e :: t, fr, h, hp, x, hx => by
    have a := hp.1.1
    have b := hp.1.2.1
    rcases List.mem_cons.mp hx with rfl | hx
    · omega
    · exact path_rd (by omega) hp.2 x hx
theorem rd_mem {l : List Int} {i : Int} (h0 : 0 ≤ i) (h1 : i < l.length) : rd l i ∈ l := by
  obtain ⟨t, ht⟩ := drop_rd h0 h1
  exact List.mem_of_mem_drop (ht ▸ List.mem_cons_self ..)
theorem ChunkShares : storagebarterlaw04_ChunkShares.Pure := by
  intro l a1 _ _ _ _
  by_cases hl : (l.length : Int) ≤ 500
  · have hl' : l.length ≤ 500 := by omega
    obtain ⟨c0, c1, c2, c3, q, ec, c, m1, n1⟩ := cutting_ok hl' (Int.le_refl 0) (by omega)
    obtain ⟨a, q1, ea, hA, m2, n2⟩ := text_ok hl' m1 n1 100 (by omega) (by omega) 1000 (by omega)
    obtain ⟨b, q2, eb, hB, m3, n3⟩ := text_ok hl' m2 n2 100 (by omega) (by omega) 1000 (by omega)
    obtain ⟨r, q3, er, hR, m4, n4⟩ := text_ok hl' m3 n3 100 (by omega) (by omega) 1000 (by omega)
    have s1 : (a ++ r).size = a.size + r.size := ByteArray.size_append ..
    have s2 : (b ++ r).size = b.size + r.size := ByteArray.size_append ..
    obtain ⟨X, e1, p1, l1⟩ := ends_ok c (s := a ++ r) (by omega)
    obtain ⟨Y, e2, p2, l2⟩ := ends_ok c (s := b ++ r) (by omega)
    obtain ⟨n, en, _, nP, nQ, nd⟩ := common_l0 (pieces (a ++ r) 0 X) (pieces (b ++ r) 0 Y) (by rw [pieces_length]; omega) (by rw [pieces_length]; omega) 256 1000 0 (by rw [pieces_length]; omega) (by omega) (Int.le_refl _) (by omega) (by omega)
    rw [pieces_length] at nP nQ nd
    rw [pieces_length] at nd
    have H : ∀ i j : Int, 0 ≤ i → i < X.length → 0 ≤ j → j < Y.length → (a.size : Int) ≤ rd X i → (b.size : Int) ≤ rd Y j → rd X i - a.size = rd Y j - b.size → (X.length : Int) - 1 - i ≤ n := by
      intro i j hi0 hi1 hj0 hj1 h1 h2 h3
      obtain ⟨t, ht⟩ := drop_rd hi0 hi1
      obtain ⟨u, hu⟩ := drop_rd hj0 hj1
      obtain ⟨A1, A2, A3⟩ := path_drop _ p1 ht
      obtain ⟨B1, B2, B3⟩ := path_drop _ p2 hu
      have sh := path_shift (b := b) h1 A1
      have ps := pieces_shift (b := b) h1 A1
      rw [show rd X i - a.size + b.size = rd Y j by omega] at sh ps
      have hut := Path.same sh B1
      rw [hut, ← B2] at ps
      rcases Int.lt_or_le n ((X.length : Int) - 1 - i) with h | h
      · exfalso
        have hn0 : 0 ≤ n := by omega
        have tl : (pieces (a ++ r) (rd X i) t).length = t.length := pieces_length ..
        have ul : u.length = t.length := by rw [← hut, List.length_map]
        have r1 := rdOf_tail (n := n) A2 hn0 (by rw [tl]; omega) (by rw [tl, pieces_length]; omega)
        have r2 := rdOf_tail (n := n) (B2.trans (B2.symm.trans ps.symm)) hn0 (by rw [tl]; omega) (by rw [tl, pieces_length]; omega)
        rw [pieces_length] at r1 r2
        exact nd (by omega) (by omega) (by rw [r1, r2])
      · exact h
    obtain ⟨k, hk⟩ := law_loops a b X Y n l1 l2 H (fun i h0 h1 => by have := path_rd (Int.le_refl 0) p1 _ (rd_mem h0 h1); omega) (fun i h0 h1 => by have := path_rd (Int.le_refl 0) p2 _ (rd_mem h0 h1); omega) (by omega) (by omega) X.length 0 0 (by omega) (Int.le_refl _) (by assumption)
    refine ⟨1000 + k + 1, ?_⟩
    unfold storagebarterlaw04_ChunkShares.f
    rw [sane_ok _ (by omega)]
    simp only [Option.bind_some, if_true, storagebartermake_Few.f, storagebartermake_New.f]
    rw [decide_eq_true hl, if_pos rfl, ec]
    simp only [Option.bind_some]
    rw [at_rounds (storagebartermake_Text.mono _ _ _) (show 1000 ≤ 1000 + k + 1 by omega) ea]
    simp only [Option.bind_some]
    rw [at_rounds (storagebartermake_Text.mono _ _ _) (show 1000 ≤ 1000 + k + 1 by omega) eb]
    simp only [Option.bind_some]
    rw [at_rounds (storagebartermake_Text.mono _ _ _) (show 1000 ≤ 1000 + k + 1 by omega) er]
    simp only [Option.bind_some]
    rw [if_pos (by omega), e1]
    simp only [Option.bind_some]
    rw [if_pos (by omega), e2]
    simp only [Option.bind_some]
    have ecm : chunk_Common.f (1000 + k + 1) (a ++ r) (b ++ r) c0 c1 c2 c3 = some (n, 0) := by
      unfold chunk_Common.f
      rw [cut_ok _ (by omega) e1 p1 l1, cut_ok _ (by omega) e2 p2 l2]
      simp only [Option.bind_some, if_true]
      exact at_rounds (g := fun k => chunk_Common.l0 k (pieces (a ++ r) 0 X) (pieces (b ++ r) 0 Y) 0) (fun k => chunk_Common.mono_l k _ _ _) (show 1000 ≤ 1000 + k + 1 by omega) en
    rw [ecm]
    simp only [Option.bind_some, if_true]
    rw [show ((0 : Int) != 0) = false from rfl, storagebarterlaw04_ChunkShares.j0, if_neg (by simp)]
    exact at_rounds (g := fun k => storagebarterlaw04_ChunkShares.l0 k a b X Y n 0 X X.length 0) (fun k => (storagebarterlaw04_ChunkShares.mono_l k).2.1 _ _ _ _ _ _ _ _ _) (Nat.le_add_left k 1000) hk
  · refine ⟨1000, ?_⟩
    unfold storagebarterlaw04_ChunkShares.f
    rw [sane_ok _ (by omega)]
    simp only [Option.bind_some, if_true, storagebartermake_Few.f]
    rw [decide_eq_false hl, if_neg (by simp)]

end Go.Proofs.Ytepffabkcbfejaa.Pure
