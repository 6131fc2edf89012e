/- The law ChunkCuts of chapter 4 answers true for every input: what its printed functions compute, in plain Lean. -/
import Derived.Test.YtepffabkcbfejaaPChunkCutsx7
set_option linter.unusedVariables false
set_option linter.unusedSimpArgs false
set_option maxRecDepth 100000
namespace Go.Proofs.Ytepffabkcbfejaa.Pure
open Go.RowKit Go.Proofs.Ytepffabkcbfejaa.PChunkCuts Go.Proofs.YtepffabkcbfejaaW.PrintWords Go.Proofs.YtepffabkcbfejaaW.PrintMore Go.Proofs.YtepffabkcbfejaaW.PrintLast

theorem w64 {n : Int} (h0 : 0 ≤ n) (h1 : n < 9223372036854775808) : wrap64 n = n := by unfold wrap64; omega

/-! the ends: what is before them, and what comes -/
def endsR (s : ByteArray) (c0 c1 c2 c3 : Int) : Nat → Int → Int → List Int
  | 0, _, _ => []
  | n + 1, fr, i => if cutB s c0 c1 c2 c3 fr (i + 1) = true then (i + 1) :: endsR s c0 c1 c2 c3 n (i + 1) (i + 1) else endsR s c0 c1 c2 c3 n fr (i + 1)
theorem endsL_R (s : ByteArray) (c0 c1 c2 c3 : Int) : ∀ (n : Nat) (fr i : Int) (acc : List Int), endsL s c0 c1 c2 c3 n fr i acc = acc ++ endsR s c0 c1 c2 c3 n fr i
  | 0, _, _, acc => by simp [endsL, endsR]
  | n + 1, fr, i, acc => by
    simp only [endsL, endsR]
    split
    · rw [endsL_R s c0 c1 c2 c3 n]; simp
    · rw [endsL_R s c0 c1 c2 c3 n]
/-- the first place behind `fr` at which a chunk ends -/
def First (s : ByteArray) (c0 c1 c2 c3 fr e : Int) : Prop := fr < e ∧ e ≤ s.size ∧ cutB s c0 c1 c2 c3 fr e = true ∧ ∀ a, fr < a → a < e → cutB s c0 c1 c2 c3 fr a = false
def Path (s : ByteArray) (c0 c1 c2 c3 : Int) : Int → List Int → Prop
  | fr, [] => fr = s.size
  | fr, e :: t => First s c0 c1 c2 c3 fr e ∧ Path s c0 c1 c2 c3 e t
theorem cutB_size (s : ByteArray) (c0 c1 c2 c3 fr : Int) : cutB s c0 c1 c2 c3 fr s.size = true := by simp [cutB]
theorem path_R (s : ByteArray) (c0 c1 c2 c3 : Int) : ∀ (n : Nat) (fr i : Int), fr ≤ i → i + n = s.size → (∀ a, fr < a → a ≤ i → cutB s c0 c1 c2 c3 fr a = false) → Path s c0 c1 c2 c3 fr (endsR s c0 c1 c2 c3 n fr i)
  | 0, fr, i, h, e, no => by
    simp only [endsR, Path]
    rcases Int.lt_or_le fr i with h' | h'
    · have := no i h' (Int.le_refl _)
      have e2 : i = s.size := by simpa using e
      rw [e2, cutB_size] at this
      cases this
    · simp at e; omega
  | n + 1, fr, i, h, e, no => by
    simp only [endsR]
    split
    · rename_i hc
      refine ⟨⟨by omega, by omega, hc, fun a h1 h2 => no a h1 (by omega)⟩, ?_⟩
      exact path_R s c0 c1 c2 c3 n (i + 1) (i + 1) (Int.le_refl _) (by push_cast at e; omega) (fun a h1 h2 => by omega)
    · rename_i hc
      refine path_R s c0 c1 c2 c3 n fr (i + 1) (by omega) (by push_cast at e; omega) (fun a h1 h2 => ?_)
      rcases Int.lt_or_le a (i + 1) with h3 | h3
      · exact no a h1 (by omega)
      · have : a = i + 1 := by omega
        rw [this]
        simpa using hc
theorem path_L (s : ByteArray) (c0 c1 c2 c3 : Int) : Path s c0 c1 c2 c3 0 (endsL s c0 c1 c2 c3 s.size 0 0 []) := by
  rw [endsL_R]
  exact path_R s c0 c1 c2 c3 s.size 0 0 (Int.le_refl _) (by omega) (fun a h1 h2 => by omega)
theorem First.same {s : ByteArray} {c0 c1 c2 c3 fr e e' : Int} (h : First s c0 c1 c2 c3 fr e) (h' : First s c0 c1 c2 c3 fr e') : e = e' := by
  obtain ⟨a1, a2, a3, a4⟩ := h
  obtain ⟨b1, b2, b3, b4⟩ := h'
  rcases Int.lt_trichotomy e e' with h | h | h
  · rw [b4 e a1 h] at a3; cases a3
  · exact h
  · rw [a4 e' b1 h] at b3; cases b3
theorem Path.end_ {s : ByteArray} {c0 c1 c2 c3 fr : Int} {t : List Int} (h : Path s c0 c1 c2 c3 fr t) (he : fr = s.size) : t = [] := by
  cases t with
  | nil => rfl
  | cons e t => obtain ⟨⟨a1, a2, _⟩, _⟩ := h; omega
theorem Path.same {s : ByteArray} {c0 c1 c2 c3 : Int} : ∀ {t t' : List Int} {fr : Int}, Path s c0 c1 c2 c3 fr t → Path s c0 c1 c2 c3 fr t' → t = t'
  | [], t', fr, h, h' => (h'.end_ h).symm
  | e :: t, [], fr, h, h' => h.end_ h'
  | e :: t, e' :: t', fr, h, h' => by
    have he := h.1.same h'.1
    subst he
    rw [Path.same h.2 h'.2]
theorem First.far {s : ByteArray} {c0 c1 c2 c3 fr e : Int} (hc : c0 ≤ c1) (h : First s c0 c1 c2 c3 fr e) : e = s.size ∨ fr + c0 ≤ e := by
  obtain ⟨a1, a2, a3, a4⟩ := h
  unfold cutB at a3
  rw [Bool.or_eq_true, Bool.or_eq_true, Bool.and_eq_true, decide_eq_true_iff, beq_iff_eq, beq_iff_eq] at a3
  rcases a3 with (h | h) | ⟨h, _⟩ <;> omega
theorem First.near {s : ByteArray} {c0 c1 c2 c3 fr e : Int} (h : First s c0 c1 c2 c3 fr e) (h1 : 1 ≤ c1) : e ≤ fr + c1 := by
  obtain ⟨a1, a2, a3, a4⟩ := h
  rcases Int.lt_or_le (fr + c1) e with h | h
  · have := a4 (fr + c1) (by omega) h
    simp [cutB] at this
    omega
  · exact h
theorem Path.few {s : ByteArray} {c0 c1 c2 c3 : Int} (h4 : 4 ≤ c0) (hc : c0 ≤ c1) : ∀ {t : List Int} {fr : Int}, Path s c0 c1 c2 c3 fr t → (t.length : Int) * 4 ≤ s.size - fr + 3
  | [], fr, h => by simp only [Path] at h; simp; omega
  | e :: t, fr, h => by
    have ih := Path.few h4 hc h.2
    rcases h.1.far hc with he | he
    · rw [h.2.end_ he]; have := h.1.1; simp; omega
    · rw [List.length_cons]; push_cast; omega
theorem Path.le {s : ByteArray} {c0 c1 c2 c3 : Int} : ∀ {t : List Int} {fr : Int}, Path s c0 c1 c2 c3 fr t → fr ≤ s.size
  | [], fr, h => by simp only [Path] at h; omega
  | e :: t, fr, h => by obtain ⟨⟨a1, a2, _⟩, _⟩ := h; omega
/-- what is cut there -/
def pieces (s : ByteArray) : Int → List Int → List ByteArray
  | _, [] => []
  | fr, e :: t => s.extract fr.toNat e.toNat :: pieces s e t
theorem pieces_length (s : ByteArray) : ∀ (t : List Int) (fr : Int), (pieces s fr t).length = t.length
  | [], _ => rfl
  | e :: t, _ => by simp [pieces, pieces_length s t e]
theorem rd_at {l : List Int} {i : Int} {e : Int} {t : List Int} (h : l.drop i.toNat = e :: t) : rd l i = e := by
  have : (l.drop i.toNat)[0]? = some e := by rw [h]; rfl
  rw [List.getElem?_drop] at this
  simp [rd, List.getD_eq_getElem?_getD] at this ⊢
  rw [this]; rfl
theorem drop_next {α : Type} {l : List α} {i : Int} {e : α} {t : List α} (h0 : 0 ≤ i) (h : l.drop i.toNat = e :: t) : l.drop (i + 1).toNat = t := by
  have e1 : (i + 1).toNat = i.toNat + 1 := by omega
  rw [e1, ← List.drop_drop, h]; rfl
theorem drop_len {α : Type} {l : List α} {i : Int} {t : List α} (h0 : 0 ≤ i) (hi : i ≤ l.length) (h : l.drop i.toNat = t) : (l.length : Int) = i + t.length := by
  rw [← h, List.length_drop]; omega
theorem rdOf_at {α : Type} {d : α} {l : List α} {i : Int} {e : α} {t : List α} (h : l.drop i.toNat = e :: t) : rdOf d l i = e := by
  have : (l.drop i.toNat)[0]? = some e := by rw [h]; rfl
  rw [List.getElem?_drop] at this
  simp [rdOf, List.getD_eq_getElem?_getD] at this ⊢
  rw [this]; rfl
theorem cut_l0 (s : ByteArray) (c0 c1 c2 c3 : Int) (L : List Int) (hL : L.length ≤ 256) : ∀ (t : List Int) (k : Nat) (acc : List ByteArray) (fr i : Int), t.length < k → 0 ≤ fr → 0 ≤ i → i ≤ L.length → L.drop i.toNat = t → Path s c0 c1 c2 c3 fr t → acc.length ≤ i → chunk_Cut.l0 k s acc fr L L.length i = some (acc ++ pieces s fr t, 0)
  | [], k + 1, acc, fr, i, hk, hf, h0, hi, hd, hp, ha => by
    have := drop_len h0 hi hd
    unfold chunk_Cut.l0
    rw [if_neg (by simp at this; omega)]
    simp [pieces]
  | e :: t, k + 1, acc, fr, i, hk, hf, h0, hi, hd, hp, ha => by
    have hl := drop_len h0 hi hd
    have hr := rd_at hd
    rw [List.length_cons] at hl hk
    push_cast at hl
    have hfe := hp.1.1
    have hes := hp.1.2.1
    unfold chunk_Cut.l0
    rw [hr, if_pos (by omega), if_pos h0, if_pos (by omega), if_pos hf, if_pos (by omega), if_pos hes, if_pos (by omega), w64 (by omega) (by omega)]
    rw [cut_l0 s c0 c1 c2 c3 L hL t k _ e (i + 1) (by omega) (by omega) (by omega) (by omega) (drop_next h0 hd) hp.2 (by simp; omega)]
    simp [pieces]
def okC (c0 c1 c2 c3 : Int) : Prop := 4 ≤ c0 ∧ c0 ≤ c1 ∧ c1 ≤ 256 ∧ 1 ≤ c2 ∧ c2 ≤ c0 ∧ 1 ≤ c3 ∧ c3 ≤ 1024
theorem check_ok {c0 c1 c2 c3 : Int} (h : okC c0 c1 c2 c3) : chunk_Check.f c0 c1 c2 c3 = some 0 := by
  obtain ⟨a1, a2, a3, a4, a5, a6, a7⟩ := h
  unfold chunk_Check.f
  rw [if_neg (by omega), if_neg (by omega), if_neg (by omega), if_neg (by omega), if_neg (by omega), if_neg (by omega), if_neg (by omega)]
/-- the ends of a short text -/
theorem ends_ok {s : ByteArray} {c0 c1 c2 c3 : Int} (h : okC c0 c1 c2 c3) (hs : s.size ≤ 1000) : ∃ L, chunk_Ends.f s c0 c1 c2 c3 = some (L, 0) ∧ Path s c0 c1 c2 c3 0 L ∧ L.length ≤ 256 := by
  have hp := path_L s c0 c1 c2 c3
  have hf := hp.few h.1 h.2.1
  refine ⟨_, ?_, hp, by omega⟩
  unfold chunk_Ends.f
  rw [check_ok h]
  simp only [Option.bind_some, if_true]
  rw [if_neg (by omega), if_neg (by omega)]
theorem cut_ok {s : ByteArray} {c0 c1 c2 c3 : Int} {L : List Int} (k : Nat) (hk : 256 < k) (he : chunk_Ends.f s c0 c1 c2 c3 = some (L, 0)) (hp : Path s c0 c1 c2 c3 0 L) (hl : L.length ≤ 256) : chunk_Cut.f k s c0 c1 c2 c3 = some (pieces s 0 L, 0) := by
  unfold chunk_Cut.f
  rw [he]
  simp only [Option.bind_some, if_true]
  exact cut_l0 s c0 c1 c2 c3 L hl L k [] 0 0 (by omega) (Int.le_refl _) (Int.le_refl _) (by omega) rfl hp (by simp)
theorem sane_ok (k : Nat) (hk : 256 < k) : storagebarterlaw04_sane.f k = some true := by
  have h : storagebarterlaw04_sane.f 257 = some true := by kernel_rfl
  exact at_rounds storagebarterlaw04_sane.mono (by omega) h

/-! the deck: what is drawn lies in the range, and the place stays in the list -/
theorem mod_ok {x a : Int} (h1 : 1 ≤ a) (h2 : a ≤ 1000000) : ∃ r, storagebartermake_Mod.f x a = some r ∧ 0 ≤ r ∧ r < a := by
  have l1 := Int.tmod_lt_of_pos x (show 0 < a by omega)
  have l2 := Int.tmod_lt_of_pos (-x) (show 0 < a by omega)
  rw [Int.neg_tmod] at l2
  refine ⟨_, by unfold storagebartermake_Mod.f; rw [if_neg (by omega)], ?_, ?_⟩
  · rw [w64 (by omega) (by omega)]; exact Int.tmod_nonneg _ (by omega)
  · exact Int.tmod_lt_of_pos _ (by omega)
theorem next_ok {l : List Int} {p a : Int} (hl : l.length ≤ 500) (h0 : 0 ≤ p) (h1 : p ≤ l.length) (ha : 1 ≤ a) (hb : a ≤ 1000000) : ∃ r q, storagebartermake_Deck_Next.f l p a = some (r, q) ∧ 0 ≤ r ∧ r < a ∧ 0 ≤ q ∧ q ≤ l.length := by
  unfold storagebartermake_Deck_Next.f
  rw [if_neg (by omega)]
  by_cases hp : p ≥ (l.length : Int)
  · rw [if_pos hp]; exact ⟨_, _, rfl, by omega, by omega, h0, h1⟩
  · rw [if_neg hp, if_pos h0, if_pos (by omega)]
    obtain ⟨r, hr, h3, h4⟩ := mod_ok (x := rd l p) ha hb
    rw [hr]
    refine ⟨r, p + 1, ?_, h3, h4, by omega, by omega⟩
    simp only [Option.bind_some]
    rw [w64 (by omega) (by omega)]
theorem cutting_ok {l : List Int} {p : Int} (hl : l.length ≤ 500) (h0 : 0 ≤ p) (h1 : p ≤ l.length) : ∃ c0 c1 c2 c3 q, storagebartermake_Cutting.f l p = some (c0, c1, c2, c3, q) ∧ okC c0 c1 c2 c3 ∧ 0 ≤ q ∧ q ≤ l.length := by
  obtain ⟨r1, q1, e1, a1, b1, m1, n1⟩ := next_ok hl h0 h1 (a := 6) (by omega) (by omega)
  obtain ⟨r2, q2, e2, a2, b2, m2, n2⟩ := next_ok hl m1 n1 (a := 20) (by omega) (by omega)
  obtain ⟨r3, q3, e3, a3, b3, m3, n3⟩ := next_ok hl m2 n2 (a := 4 + r1) (by omega) (by omega)
  obtain ⟨r4, q4, e4, a4, b4, m4, n4⟩ := next_ok hl m3 n3 (a := 9) (by omega) (by omega)
  refine ⟨4 + r1, 4 + r1 + r2, 1 + r3, 1 + r4, q4, ?_, by unfold okC; omega, m4, n4⟩
  unfold storagebartermake_Cutting.f
  rw [e1]
  simp only [Option.bind_some]
  rw [e2]
  simp only [Option.bind_some]
  rw [w64 (n := 4 + r1) (by omega) (by omega), e3]
  simp only [Option.bind_some]
  rw [e4]
  simp only [Option.bind_some]
  rw [w64 (n := 4 + r1 + r2) (by omega) (by omega), w64 (n := 1 + r3) (by omega) (by omega), w64 (n := 1 + r4) (by omega) (by omega)]
theorem text_l0 {l : List Int} (hl : l.length ≤ 500) : ∀ (m k : Nat) (b : List Int) (p : Int), m < k → b.length + m ≤ 1000 → 0 ≤ p → p ≤ l.length → ∃ s q, storagebartermake_Text.l0 k b m l p = some (s, q) ∧ s.size ≤ b.length + m ∧ 0 ≤ q ∧ q ≤ l.length
  | 0, k + 1, b, p, hk, hb, h0, h1 => by
    refine ⟨_, _, by unfold storagebartermake_Text.l0; rw [if_neg (by omega)], ?_, h0, h1⟩
    rw [strOfNums_size]; omega
  | m + 1, k + 1, b, p, hk, hb, h0, h1 => by
    obtain ⟨r, q, e, a1, b1, m1, n1⟩ := next_ok hl h0 h1 (a := 5) (by omega) (by omega)
    unfold storagebartermake_Text.l0
    rw [if_pos (by omega), e]
    simp only [Option.bind_some]
    rw [if_pos (by omega), w64 (n := ((m + 1 : Nat) : Int) - 1) (by omega) (by omega), show ((m + 1 : Nat) : Int) - 1 = m by omega]
    obtain ⟨s, q', e', h2, h3, h4⟩ := text_l0 hl m k (b ++ [(wrap64 (r * 51)) % 256]) q (by omega) (by simp; omega) m1 n1
    exact ⟨s, q', e', by simp at h2; omega, h3, h4⟩
theorem text_ok {l : List Int} {p : Int} (hl : l.length ≤ 500) (h0 : 0 ≤ p) (h1 : p ≤ l.length) (n : Int) (hn : 0 ≤ n) (hn2 : n ≤ 900) (k : Nat) (hk : 1000 ≤ k) : ∃ s q, storagebartermake_Text.f k l p n = some (s, q) ∧ (s.size : Int) ≤ n ∧ 0 ≤ q ∧ q ≤ l.length := by
  obtain ⟨r, q, e, a1, b1, m1, n1⟩ := next_ok hl h0 h1 (a := n + 1) (by omega) (by omega)
  unfold storagebartermake_Text.f
  rw [w64 (n := n + 1) (by omega) (by omega), e]
  simp only [Option.bind_some]
  obtain ⟨s, q', e', h2, h3, h4⟩ := text_l0 hl r.toNat k [] q (by omega) (by simp; omega) m1 n1
  rw [Int.toNat_of_nonneg a1] at e'
  exact ⟨s, q', e', by simp at h2; omega, h3, h4⟩

theorem same_l0 (l : List ByteArray) (hl : l.length ≤ 1000) : ∀ (t : List ByteArray) (k : Nat) (i : Int), t.length < k → 0 ≤ i → i ≤ l.length → l.drop i.toNat = t → storagebarterref04_Same.l0 k l l l.length i = some true
  | [], k + 1, i, hk, h0, hi, hd => by
    have := drop_len h0 hi hd
    unfold storagebarterref04_Same.l0
    rw [if_neg (by simp at this; omega)]
  | e :: t, k + 1, i, hk, h0, hi, hd => by
    have hl2 := drop_len h0 hi hd
    rw [List.length_cons] at hl2 hk
    push_cast at hl2
    unfold storagebarterref04_Same.l0
    rw [if_pos (by omega), if_pos h0, if_pos (by omega), if_pos (by omega), if_pos rfl, w64 (by omega) (by omega)]
    exact same_l0 l hl t k (i + 1) (by omega) (by omega) (by omega) (drop_next h0 hd)
theorem same_ok (l : List ByteArray) (hl : l.length ≤ 1000) (k : Nat) (hk : l.length < k) : storagebarterref04_Same.f k l l = some true := by
  unfold storagebarterref04_Same.f
  rw [if_pos rfl]
  exact same_l0 l hl l k 0 (by omega) (Int.le_refl _) (by omega) rfl

/-! ### the reference says the same -/
theorem bytes_drop (s : ByteArray) (n : Nat) : bytesOf (s.extract n s.size) = (bytesOf s).drop n := by
  unfold bytesOf
  rw [ByteArray.data_extract, Array.toList_extract, ← List.map_drop]
  congr 1
  rw [List.extract_eq_take_drop, List.take_of_length_le]
  rw [List.length_drop, show s.data.toList.length = s.size from data_length s]
  omega
theorem w64i {n : Int} (h0 : -9223372036854775808 ≤ n) (h1 : n < 9223372036854775808) : wrap64 n = n := by unfold wrap64; omega
theorem refweight_l0 (s : ByteArray) (hs : s.size ≤ 100000) (first : Int) (hf : 0 ≤ first) : ∀ (t : List Int) (k : Nat) (i acc : Int), t.length < k → first ≤ i → i ≤ s.size → (bytesOf s).drop i.toNat = t → storagebarterref04_Weight.l0 k s first acc i = some (weightL t (i - first) acc)
  | [], k + 1, i, acc, hk, h0, hi, hd => by
    have := drop_len (l := bytesOf s) (by omega) (by rw [bytesOf_length]; omega) hd
    rw [bytesOf_length] at this
    rw [storagebarterref04_Weight.l0, if_neg (by simp at this; omega)]
    rfl
  | b :: t, k + 1, i, acc, hk, h0, hi, hd => by
    have hl := drop_len (l := bytesOf s) (by omega) (by rw [bytesOf_length]; omega) hd
    rw [bytesOf_length, List.length_cons] at hl
    push_cast at hl
    have hr := rd_at hd
    rw [rd_bytesOf] at hr
    have hb : 0 ≤ b ∧ b ≤ 255 := by
      rw [← hr]
      unfold bt
      split
      · have := (s[i.toNat]'(by assumption)).toNat_lt; omega
      · omega
    rw [storagebarterref04_Weight.l0, hr, if_pos (by omega), if_pos (by omega), w64 (n := b) (by omega) (by omega), w64 (n := b + 1) (by omega) (by omega), w64 (n := i - first) (by omega) (by omega), w64 (n := i - first + 1) (by omega) (by omega), w64 (n := i + 1) (by omega) (by omega)]
    have hm : 0 ≤ (b + 1) * (i - first + 1) ∧ (b + 1) * (i - first + 1) ≤ 256 * 100001 := ⟨Int.mul_nonneg (by omega) (by omega), Int.mul_le_mul (by omega) (by omega) (by omega) (by omega)⟩
    rw [w64 (n := (b + 1) * (i - first + 1)) (by omega) (by omega), refweight_l0 s hs first hf t k (i + 1) _ (by simpa using hk) (by omega) (by omega) (drop_next (by omega) hd)]
    rw [weightL, show i - first + 1 = i + 1 - first by omega]
theorem refweight (s : ByteArray) (hs : s.size ≤ 100000) (n : Int) (hn : -9223372036854775808 ≤ n) (hn2 : n < 9223372036854775808) (k : Nat) (hk : s.size < k) : storagebarterref04_Weight.f k s n = some (weight s n) := by
  unfold storagebarterref04_Weight.f weight
  by_cases h : n < 1
  · rw [if_pos h, lastOf_none s n (by omega)]; rfl
  · rw [if_neg h, w64i (n := (s.size : Int) - n) (by omega) (by omega)]
    obtain ⟨f, hf⟩ : ∃ f, f = mx 0 ((s.size : Int) - n) := ⟨_, rfl⟩
    rw [← hf]
    have h0 : 0 ≤ f ∧ f ≤ s.size := by rw [hf]; unfold mx; split <;> omega
    rw [refweight_l0 s hs f h0.1 _ k f 0 (by rw [List.length_drop, bytesOf_length]; omega) (Int.le_refl _) h0.2 rfl, Int.sub_self]
    congr 2
    have e : ((s.size : Int) - mx 0 (mn n s.size)).toNat = f.toNat := by
      rw [hf]; unfold mx mn; congr 1; (repeat' split) <;> omega
    unfold lastOf
    rw [e, bytes_drop]
theorem cutB_eq (s : ByteArray) (c0 c1 c2 c3 fr i : Int) : cutB s c0 c1 c2 c3 fr i = true ↔ (i - fr = c1 ∨ (i - fr ≥ c0 ∧ (weight (s.extract fr.toNat i.toNat) c2).tmod c3 = 0) ∨ i = s.size) := by
  unfold cutB
  rw [Bool.or_eq_true, Bool.or_eq_true, Bool.and_eq_true, decide_eq_true_iff, beq_iff_eq, beq_iff_eq, beq_iff_eq]
  constructor
  · rintro ((h | h) | h)
    · exact .inr (.inr h)
    · exact .inl h
    · exact .inr (.inl h)
  · rintro (h | h | h)
    · exact .inl (.inr h)
    · exact .inr h
    · exact .inl (.inl h)
def endsOut (L : List Int) : List Int × Int := if (L.length : Int) > 256 then ([], 4) else (L, 0)
theorem refends_l0 (s : ByteArray) (hs : s.size ≤ 5000) (c0 c1 c2 c3 : Int) (c : okC c0 c1 c2 c3) : ∀ (n k : Nat) (fr i : Int) (acc : List Int), n + 5001 < k → 0 ≤ fr → fr ≤ i → i + n = s.size → acc.length ≤ i → storagebarterref04_Ends.l0 k s acc fr (i + 1) c0 c1 c2 c3 = some (endsOut (endsL s c0 c1 c2 c3 n fr i acc))
  | 0, k + 1, fr, i, acc, hk, h0, h1, h2, ha => by
    rw [storagebarterref04_Ends.l0, if_neg (by simp at h2; omega)]
    rw [show endsL s c0 c1 c2 c3 0 fr i acc = acc from rfl]
    unfold endsOut
    by_cases q : (acc.length : Int) > 256
    · rw [if_pos q, if_pos q]
    · rw [if_neg q, if_neg q]
  | n + 1, k + 1, fr, i, acc, hk, h0, h1, h2, ha => by
    push_cast at h2
    have hw := refweight (s.extract fr.toNat (i + 1).toNat) (by rw [ByteArray.size_extract]; omega) c2 (by have := c.2.2.2.1; omega) (by have := c.2.2.1; have := c.2.2.2.2.1; have := c.2.1; omega) k (by rw [ByteArray.size_extract]; omega)
    have hc := cutB_eq s c0 c1 c2 c3 fr (i + 1)
    have yes := refends_l0 s hs c0 c1 c2 c3 c n k (i + 1) (i + 1) (acc ++ [i + 1]) (by omega) (by omega) (Int.le_refl _) (by omega) (by simp; omega)
    have no := refends_l0 s hs c0 c1 c2 c3 c n k fr (i + 1) acc (by omega) (by omega) (by omega) (by omega) (by omega)
    have h3 : ¬ c3 = 0 := by have := c.2.2.2.2.2.1; omega
    rw [storagebarterref04_Ends.l0, if_pos (by omega), w64 (n := i + 1 - fr) (by omega) (by omega), w64 (n := i + 1 + 1) (by omega) (by omega)]
    simp only [endsL]
    by_cases q1 : i + 1 - fr = c1
    · rw [if_pos q1, if_pos (by omega), yes, if_pos (hc.2 (.inl q1))]
    · rw [if_neg q1]
      by_cases q2 : i + 1 - fr ≥ c0
      · rw [if_pos q2, if_pos h0, if_pos (by omega), hw]
        simp only [Option.bind_some]
        rw [if_neg h3]
        by_cases q3 : Int.tmod (weight (s.extract fr.toNat (i + 1).toNat) c2) c3 = 0
        · rw [if_pos q3, if_pos (by omega), yes, if_pos (hc.2 (.inr (.inl ⟨q2, q3⟩)))]
        · rw [if_neg q3]
          by_cases q4 : i + 1 = (s.size : Int)
          · rw [if_pos q4, if_pos (by omega), yes, if_pos (hc.2 (.inr (.inr q4)))]
          · rw [if_neg q4, no, if_neg (fun h => by rcases hc.1 h with h | h | h; exact q1 h; exact q3 h.2; exact q4 h)]
      · rw [if_neg q2]
        by_cases q4 : i + 1 = (s.size : Int)
        · rw [if_pos q4, if_pos (by omega), yes, if_pos (hc.2 (.inr (.inr q4)))]
        · rw [if_neg q4, no, if_neg (fun h => by rcases hc.1 h with h | h | h; exact q1 h; exact q2 h.1; exact q4 h)]
theorem refends (s : ByteArray) (hs : s.size ≤ 5000) (c0 c1 c2 c3 : Int) (k : Nat) (hk : 20000 ≤ k) : storagebarterref04_Ends.f k s c0 c1 c2 c3 = chunk_Ends.f s c0 c1 c2 c3 := by
  unfold storagebarterref04_Ends.f chunk_Ends.f
  have e : storagebarterref04_Check.f c0 c1 c2 c3 = chunk_Check.f c0 c1 c2 c3 := rfl
  rw [e]
  obtain ⟨t, ht⟩ := chunk_Check.some_ c0 c1 c2 c3
  rw [ht]
  simp only [Option.bind_some]
  by_cases h : t = 0
  · subst h
    rw [if_pos rfl, if_pos rfl, if_neg (by omega), if_neg (by omega)]
    have := refends_l0 s hs c0 c1 c2 c3 (chunk_Check.ok_ _ _ _ _ ht) s.size k 0 0 [] (by omega) (Int.le_refl _) (Int.le_refl _) (by omega) (by simp)
    rw [show (0 : Int) + 1 = 1 from rfl] at this
    rw [this]
    unfold endsOut
    split <;> rfl
  · rw [if_neg h, if_neg h]
theorem refcut_l0 : ∀ (k : Nat) (s : ByteArray) (a : List ByteArray) (b : Int) (l : List Int) (n i : Int), storagebarterref04_Cut.l0 k s a b l n i = chunk_Cut.l0 k s a b l n i
  | 0, _, _, _, _, _, _ => by rw [storagebarterref04_Cut.l0, chunk_Cut.l0]
  | k + 1, s, a, b, l, n, i => by rw [storagebarterref04_Cut.l0, chunk_Cut.l0, refcut_l0 k]
theorem refcut (s : ByteArray) (hs : s.size ≤ 5000) (c0 c1 c2 c3 : Int) (k : Nat) (hk : 20000 ≤ k) : storagebarterref04_Cut.f k s c0 c1 c2 c3 = chunk_Cut.f k s c0 c1 c2 c3 := by
  unfold storagebarterref04_Cut.f chunk_Cut.f
  rw [refends s hs _ _ _ _ k hk]
  congr 1
  funext t
  rw [refcut_l0]
theorem refcommon_l0 : ∀ (k : Nat) (a b : List ByteArray) (i : Int), storagebarterref04_Common.l0 k a b i = chunk_Common.l0 k a b i
  | 0, _, _, _ => by rw [storagebarterref04_Common.l0, chunk_Common.l0]
  | k + 1, a, b, i => by rw [storagebarterref04_Common.l0, chunk_Common.l0, refcommon_l0 k]
theorem refcommon (s u : ByteArray) (hs : s.size ≤ 5000) (hu : u.size ≤ 5000) (c0 c1 c2 c3 : Int) (k : Nat) (hk : 20000 ≤ k) : storagebarterref04_Common.f k s u c0 c1 c2 c3 = chunk_Common.f k s u c0 c1 c2 c3 := by
  unfold storagebarterref04_Common.f chunk_Common.f
  rw [refcut s hs _ _ _ _ k hk, refcut u hu _ _ _ _ k hk]
  congr 1
  funext t
  split
  · congr 1
    funext t2
    rw [refcommon_l0]
  · rfl
/-! ### everything has an answer -/
theorem ends_some (s : ByteArray) (hs : s.size ≤ 5000) (c0 c1 c2 c3 : Int) : ∃ L e, chunk_Ends.f s c0 c1 c2 c3 = some (L, e) ∧ L.length ≤ 256 ∧ (e = 0 → Path s c0 c1 c2 c3 0 L) := by
  unfold chunk_Ends.f
  obtain ⟨t, ht⟩ := chunk_Check.some_ c0 c1 c2 c3
  rw [ht]
  simp only [Option.bind_some]
  by_cases h : t = 0
  · rw [if_pos h, if_neg (by omega)]
    split
    · exact ⟨_, _, rfl, by simp, fun h => by cases h⟩
    · rename_i hl
      exact ⟨_, _, rfl, by omega, fun _ => path_L ..⟩
  · rw [if_neg h]
    exact ⟨_, _, rfl, by simp, fun h2 => absurd h2 h⟩
theorem cut_some (s : ByteArray) (hs : s.size ≤ 5000) (c0 c1 c2 c3 : Int) (k : Nat) (hk : 20000 ≤ k) : ∃ P e, chunk_Cut.f k s c0 c1 c2 c3 = some (P, e) ∧ P.length ≤ 256 := by
  obtain ⟨L, e, he, hl, hp⟩ := ends_some s hs c0 c1 c2 c3
  by_cases h : e = 0
  · subst h
    exact ⟨_, _, cut_ok k (by omega) he (hp rfl) hl, by rw [pieces_length]; exact hl⟩
  · refine ⟨[], e, ?_, by simp⟩
    unfold chunk_Cut.f
    rw [he]
    simp only [Option.bind_some]
    rw [if_neg h]
theorem common_l0 (P Q : List ByteArray) (hP : P.length ≤ 256) (hQ : Q.length ≤ 256) : ∀ (m k : Nat) (i : Int), (P.length : Int) - i ≤ m → m < k → 0 ≤ i → i ≤ P.length → i ≤ Q.length → ∃ n, chunk_Common.l0 k P Q i = some (n, 0)
  | 0, k + 1, i, hm, hk, h0, h1, h2 => ⟨i, by rw [chunk_Common.l0, if_neg (by simp at hm; omega)]⟩
  | m + 1, k + 1, i, hm, hk, h0, h1, h2 => by
    by_cases q1 : i < P.length
    · by_cases q2 : i < Q.length
      · rw [chunk_Common.l0, if_pos q1, if_pos q2, w64 (n := (P.length : Int) - 1) (by omega) (by omega), w64 (n := (Q.length : Int) - 1) (by omega) (by omega), w64 (n := (P.length : Int) - 1 - i) (by omega) (by omega), w64 (n := (Q.length : Int) - 1 - i) (by omega) (by omega), if_pos (by omega), if_pos (by omega), if_pos (by omega), if_pos (by omega)]
        by_cases q3 : (rdOf ByteArray.empty P (P.length - 1 - i)).toList = (rdOf ByteArray.empty Q (Q.length - 1 - i)).toList
        · rw [if_pos q3, w64 (n := i + 1) (by omega) (by omega)]
          exact common_l0 P Q hP hQ m k (i + 1) (by push_cast at hm; omega) (by omega) (by omega) (by omega) (by omega)
        · rw [if_neg q3]
          exact ⟨i, rfl⟩
      · exact ⟨i, by rw [chunk_Common.l0, if_pos q1, if_neg q2]⟩
    · exact ⟨i, by rw [chunk_Common.l0, if_neg q1]⟩
theorem common_some (s u : ByteArray) (hs : s.size ≤ 5000) (hu : u.size ≤ 5000) (c0 c1 c2 c3 : Int) (k : Nat) (hk : 20000 ≤ k) : ∃ n e, chunk_Common.f k s u c0 c1 c2 c3 = some (n, e) := by
  obtain ⟨P, e, he, hP⟩ := cut_some s hs c0 c1 c2 c3 k hk
  obtain ⟨Q, f, hf, hQ⟩ := cut_some u hu c0 c1 c2 c3 k hk
  unfold chunk_Common.f
  rw [he]
  simp only [Option.bind_some]
  by_cases h : e = 0
  · rw [if_pos h, hf]
    simp only [Option.bind_some]
    by_cases h2 : f = 0
    · rw [if_pos h2]
      obtain ⟨n, hn⟩ := common_l0 P Q hP hQ 256 k 0 (by omega) (by omega) (Int.le_refl _) (by omega) (by omega)
      exact ⟨n, 0, hn⟩
    · rw [if_neg h2]; exact ⟨_, _, rfl⟩
  · rw [if_neg h]; exact ⟨_, _, rfl⟩
theorem ints_l0 (l : List Int) (hl : l.length ≤ 1000) : ∀ (t : List Int) (k : Nat) (i : Int), t.length < k → 0 ≤ i → i ≤ l.length → l.drop i.toNat = t → storagebarterlaw04_ints.l0 k l l l.length i = some true
  | [], k + 1, i, hk, h0, hi, hd => by
    have := drop_len h0 hi hd
    rw [storagebarterlaw04_ints.l0, if_neg (by simp at this; omega)]
  | e :: t, k + 1, i, hk, h0, hi, hd => by
    have hl2 := drop_len h0 hi hd
    rw [List.length_cons] at hl2 hk
    push_cast at hl2
    rw [storagebarterlaw04_ints.l0, if_pos (by omega), if_pos h0, if_pos (by omega), if_pos (by omega), if_pos rfl, w64 (by omega) (by omega)]
    exact ints_l0 l hl t k (i + 1) (by omega) (by omega) (by omega) (drop_next h0 hd)
theorem ints_ok (l : List Int) (hl : l.length ≤ 1000) (k : Nat) (hk : l.length < k) : storagebarterlaw04_ints.f k l l = some true := by
  unfold storagebarterlaw04_ints.f
  rw [if_pos rfl]
  exact ints_l0 l hl l k 0 (by omega) (Int.le_refl _) (by omega) rfl
/-! ### the law -/
theorem law_l2 (s : ByteArray) (hs : s.size ≤ 5000) (W : List Int) (hW : W.length ≤ 10) (hw : ∀ x ∈ W, -9223372036854775808 ≤ x ∧ x < 9223372036854775808) : ∀ (t : List Int) (k : Nat) (i : Int), t.length + 20000 < k → 0 ≤ i → i ≤ W.length → W.drop i.toNat = t → storagebarterlaw04_ChunkCuts.l2 k s W W.length i = some true
  | [], k + 1, i, hk, h0, hi, hd => by
    have := drop_len h0 hi hd
    rw [storagebarterlaw04_ChunkCuts.l2, if_neg (by simp at this; omega)]
  | e :: t, k + 1, i, hk, h0, hi, hd => by
    have hl2 := drop_len h0 hi hd
    rw [List.length_cons] at hl2 hk
    push_cast at hl2
    have he := hw e (List.mem_of_mem_drop (hd ▸ List.mem_cons_self ..))
    have e1 : chunk_Weight.f s e = some (weight s e) := by unfold chunk_Weight.f; rw [if_pos (by omega)]; rfl
    rw [storagebarterlaw04_ChunkCuts.l2, rd_at hd, if_pos (by omega), if_pos h0, if_pos (by omega), e1, refweight s (by omega) e he.1 he.2 k (by omega)]
    simp only [Option.bind_some]
    rw [if_pos trivial, w64 (by omega) (by omega)]
    exact law_l2 s hs W hW hw t k (i + 1) (by omega) (by omega) (by omega) (drop_next h0 hd)
section
variable (s u : ByteArray) (win : Int) (a b : ByteArray) (hs : s.size + u.size ≤ 3000) (ha : a.size ≤ 200) (hb : b.size ≤ 80) (hw0 : -9223372036854775808 ≤ win) (hw1 : win < 9223372036854775808) (C : List S58) (hC : C.length ≤ 10)
include hs hb in
theorem law_l1 (i c0 c1 c2 c3 : Int) (r : ∃ k, storagebarterlaw04_ChunkCuts.l0 k s u win a b C C.length (wrap64 (i + 1)) = some true) (Y : List ByteArray) (hY : Y.length ≤ 10) (hy : ∀ y ∈ Y, y.size ≤ 5000) : ∀ (t : List ByteArray) (j : Int), 0 ≤ j → j ≤ Y.length → Y.drop j.toNat = t → ∃ k, storagebarterlaw04_ChunkCuts.l1 k s u win a b C C.length i Y Y.length j c0 c1 c2 c3 = some true
  | [], j, h0, hj, hd => by
    have := drop_len h0 hj hd
    obtain ⟨k, hk⟩ := r
    refine ⟨k + 1, ?_⟩
    rw [storagebarterlaw04_ChunkCuts.l1, if_neg (by simp at this; omega)]
    exact hk
  | y :: t, j, h0, hj, hd => by
    have hl2 := drop_len h0 hj hd
    rw [List.length_cons] at hl2
    push_cast at hl2
    have hyy := hy y (List.mem_of_mem_drop (hd ▸ List.mem_cons_self ..))
    obtain ⟨k0, hk0⟩ := law_l1 i c0 c1 c2 c3 r Y hY hy t (j + 1) (by omega) (by omega) (drop_next h0 hd)
    have hk1 := at_rounds (g := fun k => storagebarterlaw04_ChunkCuts.l1 k s u win a b C C.length i Y Y.length (j + 1) c0 c1 c2 c3) (fun k => (storagebarterlaw04_ChunkCuts.mono_l k).2.2.1 _ _ _ _ _ _ _ _ _ _ _ _ _ _ _) (show k0 ≤ k0 + 20000 by omega) hk0
    obtain ⟨P, e, he, hP⟩ := cut_some y hyy c0 c1 c2 c3 (k0 + 20000) (by omega)
    obtain ⟨L, g, hg, hL, _⟩ := ends_some y hyy c0 c1 c2 c3
    have hub : (u ++ b).size ≤ 5000 := by rw [ByteArray.size_append]; omega
    obtain ⟨n, f, hf⟩ := common_some y (u ++ b) hyy hub c0 c1 c2 c3 (k0 + 20000) (by omega)
    refine ⟨k0 + 20000 + 1, ?_⟩
    rw [storagebarterlaw04_ChunkCuts.l1, rdOf_at hd, if_pos (by omega), if_pos h0, if_pos (by omega), refcut y hyy _ _ _ _ _ (by omega), refends y hyy _ _ _ _ _ (by omega), refcommon y (u ++ b) hyy hub _ _ _ _ _ (by omega), he]
    simp only [Option.bind_some]
    rw [hg]
    simp only [Option.bind_some]
    rw [if_pos (by omega), hf]
    simp only [Option.bind_some, if_true]
    rw [same_ok P (by omega) _ (by omega)]
    simp only [Option.bind_some, if_true]
    rw [ints_ok L (by omega) _ (by omega)]
    simp only [Option.bind_some, if_true]
    rw [w64 (by omega) (by omega)]
    exact hk1
include hs ha hb hw0 hw1 hC in
theorem law_l0c : ∀ (t : List S58) (i : Int), 0 ≤ i → i ≤ C.length → C.drop i.toNat = t → ∃ k, storagebarterlaw04_ChunkCuts.l0 k s u win a b C C.length i = some true
  | [], i, h0, hi, hd => by
    have := drop_len h0 hi hd
    obtain ⟨r, hr, h3, h4⟩ := mod_ok (x := win) (a := 9) (by omega) (by omega)
    refine ⟨20010 + 1, ?_⟩
    rw [storagebarterlaw04_ChunkCuts.l0, if_neg (by simp at this; omega), hr]
    simp only [Option.bind_some]
    exact law_l2 s (by omega) [win, r] (by simp) (by intro x hx; simp at hx; omega) [win, r] 20010 0 (by simp) (by omega) (by simp) rfl
  | c :: t, i, h0, hi, hd => by
    have hl2 := drop_len h0 hi hd
    rw [List.length_cons] at hl2
    push_cast at hl2
    have r := law_l0c t (i + 1) (by omega) (by omega) (drop_next h0 hd)
    rw [← w64 (n := i + 1) (by omega) (by omega)] at r
    obtain ⟨k, hk⟩ := law_l1 s u win a b hs hb C i (rd_T58 C i).f0 (rd_T58 C i).f1 (rd_T58 C i).f2 (rd_T58 C i).f3 r [s, a, a ++ s, s ++ a] (by simp) (by intro y hy; simp at hy; rcases hy with rfl | rfl | rfl | rfl <;> (try rw [ByteArray.size_append]) <;> omega) [s, a, a ++ s, s ++ a] 0 (by omega) (by simp) rfl
    obtain ⟨q, hq⟩ := chunk_Check.some_ (rd_T58 C i).f0 (rd_T58 C i).f1 (rd_T58 C i).f2 (rd_T58 C i).f3
    refine ⟨k + 1, ?_⟩
    rw [storagebarterlaw04_ChunkCuts.l0, if_pos (by omega), if_pos h0, if_pos (by omega), hq, show storagebarterref04_Check.f (rd_T58 C i).f0 (rd_T58 C i).f1 (rd_T58 C i).f2 (rd_T58 C i).f3 = some q from hq]
    simp only [Option.bind_some, if_true]
    rw [if_pos (by omega), if_pos (by omega)]
    exact hk
end
theorem ChunkCuts : storagebarterlaw04_ChunkCuts.Pure := by
  intro l s u c0 c1 c2 c3 win _ _ _ hs hu _ hw
  have hw2 : -9223372036854775808 ≤ win ∧ win < 9223372036854775808 := by simp [Lit.wf, IntKind.min, IntKind.max, IntKind.signed, IntKind.bits] at hw; omega
  have hsum : wrap64 ((s.size : Int) + (u.size : Int)) = (s.size : Int) + u.size := w64 (by omega) (by omega)
  by_cases hl : (l.length : Int) ≤ 500
  · have hl' : l.length ≤ 500 := by omega
    by_cases h3 : (s.size : Int) + u.size > 3000
    · refine ⟨1000 + 1, ?_⟩
      unfold storagebarterlaw04_ChunkCuts.f
      rw [sane_ok _ (by omega)]
      simp only [Option.bind_some, if_true, storagebartermake_Few.f]
      rw [decide_eq_true hl, if_pos rfl, hsum, decide_eq_true h3, storagebarterlaw04_ChunkCuts.j0, if_pos rfl]
    · obtain ⟨a, q1, ea, hA, m1, n1⟩ := text_ok hl' (Int.le_refl 0) (by omega) 200 (by omega) (by omega) 1000 (by omega)
      obtain ⟨b, q2, eb, hB, m2, n2⟩ := text_ok hl' m1 n1 80 (by omega) (by omega) 1000 (by omega)
      obtain ⟨d0, d1, d2, d3, q3, ec, _, _, _⟩ := cutting_ok hl' m2 n2
      obtain ⟨k, hk⟩ := law_l0c s u win a b (by omega) (by omega) (by omega) hw2.1 hw2.2 [(⟨c0, c1, c2, c3⟩ : S58), (⟨d0, d1, d2, d3⟩ : S58), (⟨4, 256, 4, 1024⟩ : S58)] (by simp) _ 0 (by omega) (by simp) rfl
      refine ⟨1000 + k + 1, ?_⟩
      unfold storagebarterlaw04_ChunkCuts.f
      rw [sane_ok _ (by omega)]
      simp only [Option.bind_some, if_true, storagebartermake_Few.f]
      rw [decide_eq_true hl, if_pos rfl, hsum, decide_eq_false h3, storagebarterlaw04_ChunkCuts.j0, if_neg (by simp)]
      simp only [Option.bind_some, storagebartermake_New.f]
      rw [at_rounds (storagebartermake_Text.mono _ _ _) (show 1000 ≤ 1000 + k by omega) ea]
      simp only [Option.bind_some]
      rw [at_rounds (storagebartermake_Text.mono _ _ _) (show 1000 ≤ 1000 + k by omega) eb]
      simp only [Option.bind_some]
      rw [ec]
      simp only [Option.bind_some]
      exact at_rounds (g := fun k => storagebarterlaw04_ChunkCuts.l0 k s u win a b [(⟨c0, c1, c2, c3⟩ : S58), (⟨d0, d1, d2, d3⟩ : S58), (⟨4, 256, 4, 1024⟩ : S58)] 3 0) (fun k => (storagebarterlaw04_ChunkCuts.mono_l k).2.1 _ _ _ _ _ _ _ _) (show k ≤ 1000 + k by omega) hk
  · refine ⟨1000 + 1, ?_⟩
    unfold storagebarterlaw04_ChunkCuts.f
    rw [sane_ok _ (by omega)]
    simp only [Option.bind_some, if_true, storagebartermake_Few.f]
    rw [decide_eq_false hl, if_neg (by simp), storagebarterlaw04_ChunkCuts.j0, if_pos rfl]

end Go.Proofs.Ytepffabkcbfejaa.Pure
