/- The law ChunkRest of chapter 4 answers true for every input: what its printed functions compute, in plain Lean. -/
import Derived.Test.YtepffabkcbfejaaPChunkRestx5
set_option linter.unusedVariables false
set_option linter.unusedSimpArgs false
set_option maxRecDepth 100000
namespace Go.Proofs.Ytepffabkcbfejaa.Pure
open Go.RowKit Go.Proofs.Ytepffabkcbfejaa.PChunkRest Go.Proofs.YtepffabkcbfejaaW.PrintWords Go.Proofs.YtepffabkcbfejaaW.PrintMore Go.Proofs.YtepffabkcbfejaaW.PrintLast

theorem w64 {n : Int} (h0 : 0 ≤ n) (h1 : n < 9223372036854775808) : wrap64 n = n := by unfold wrap64; omega

/-! the ends: what is before them, and what comes -/
def endsR (s : ByteArray) (c0 c1 c2 c3 : Int) : Nat → Int → Int → List Int
  | 0, _, _ => []
  | n + 1, fr, i => if cutB s c0 c1 c2 c3 fr (i + 1) = true then (i + 1) :: endsR s c0 c1 c2 c3 n (i + 1) (i + 1) else endsR s c0 c1 c2 c3 n fr (i + 1)
theorem endsL_R (s : ByteArray) (c0 c1 c2 c3 : Int) : ∀ (n : Nat) (fr i : Int) (acc : List Int), endsL s c0 c1 c2 c3 n fr i acc = acc ++ endsR s c0 c1 c2 c3 n fr i
  | 0, _, _, acc => by simp [endsL, endsR]
  | n + 1, fr, i, acc => by
    simp only [endsL, endsR]
    split
    · rw [endsL_R s c0 c1 c2 c3 n]; simp
    · rw [endsL_R s c0 c1 c2 c3 n]
/-- the first place behind `fr` at which a chunk ends -/
def First (s : ByteArray) (c0 c1 c2 c3 fr e : Int) : Prop := fr < e ∧ e ≤ s.size ∧ cutB s c0 c1 c2 c3 fr e = true ∧ ∀ a, fr < a → a < e → cutB s c0 c1 c2 c3 fr a = false
def Path (s : ByteArray) (c0 c1 c2 c3 : Int) : Int → List Int → Prop
  | fr, [] => fr = s.size
  | fr, e :: t => First s c0 c1 c2 c3 fr e ∧ Path s c0 c1 c2 c3 e t
theorem cutB_size (s : ByteArray) (c0 c1 c2 c3 fr : Int) : cutB s c0 c1 c2 c3 fr s.size = true := by simp [cutB]
theorem path_R (s : ByteArray) (c0 c1 c2 c3 : Int) : ∀ (n : Nat) (fr i : Int), fr ≤ i → i + n = s.size → (∀ a, fr < a → a ≤ i → cutB s c0 c1 c2 c3 fr a = false) → Path s c0 c1 c2 c3 fr (endsR s c0 c1 c2 c3 n fr i)
  | 0, fr, i, h, e, no => by
    simp only [endsR, Path]
    rcases Int.lt_or_le fr i with h' | h'
    · have := no i h' (Int.le_refl _)
      have e2 : i = s.size := by simpa using e
      rw [e2, cutB_size] at this
      cases this
    · simp at e; omega
  | n + 1, fr, i, h, e, no => by
    simp only [endsR]
    split
    · rename_i hc
      refine ⟨⟨by omega, by omega, hc, fun a h1 h2 => no a h1 (by omega)⟩, ?_⟩
      exact path_R s c0 c1 c2 c3 n (i + 1) (i + 1) (Int.le_refl _) (by push_cast at e; omega) (fun a h1 h2 => by omega)
    · rename_i hc
      refine path_R s c0 c1 c2 c3 n fr (i + 1) (by omega) (by push_cast at e; omega) (fun a h1 h2 => ?_)
      rcases Int.lt_or_le a (i + 1) with h3 | h3
      · exact no a h1 (by omega)
      · have : a = i + 1 := by omega
        rw [this]
        simpa using hc
theorem path_L (s : ByteArray) (c0 c1 c2 c3 : Int) : Path s c0 c1 c2 c3 0 (endsL s c0 c1 c2 c3 s.size 0 0 []) := by
  rw [endsL_R]
  exact path_R s c0 c1 c2 c3 s.size 0 0 (Int.le_refl _) (by omega) (fun a h1 h2 => by omega)
theorem First.same {s : ByteArray} {c0 c1 c2 c3 fr e e' : Int} (h : First s c0 c1 c2 c3 fr e) (h' : First s c0 c1 c2 c3 fr e') : e = e' := by
  obtain ⟨a1, a2, a3, a4⟩ := h
  obtain ⟨b1, b2, b3, b4⟩ := h'
  rcases Int.lt_trichotomy e e' with h | h | h
  · rw [b4 e a1 h] at a3; cases a3
  · exact h
  · rw [a4 e' b1 h] at b3; cases b3
theorem Path.end_ {s : ByteArray} {c0 c1 c2 c3 fr : Int} {t : List Int} (h : Path s c0 c1 c2 c3 fr t) (he : fr = s.size) : t = [] := by
  cases t with
  | nil => rfl
  | cons e t => obtain ⟨⟨a1, a2, _⟩, _⟩ := h; omega
theorem Path.same {s : ByteArray} {c0 c1 c2 c3 : Int} : ∀ {t t' : List Int} {fr : Int}, Path s c0 c1 c2 c3 fr t → Path s c0 c1 c2 c3 fr t' → t = t'
  | [], t', fr, h, h' => (h'.end_ h).symm
  | e :: t, [], fr, h, h' => h.end_ h'
  | e :: t, e' :: t', fr, h, h' => by
    have he := h.1.same h'.1
    subst he
    rw [Path.same h.2 h'.2]
theorem First.far {s : ByteArray} {c0 c1 c2 c3 fr e : Int} (hc : c0 ≤ c1) (h : First s c0 c1 c2 c3 fr e) : e = s.size ∨ fr + c0 ≤ e := by
  obtain ⟨a1, a2, a3, a4⟩ := h
  unfold cutB at a3
  rw [Bool.or_eq_true, Bool.or_eq_true, Bool.and_eq_true, decide_eq_true_iff, beq_iff_eq, beq_iff_eq] at a3
  rcases a3 with (h | h) | ⟨h, _⟩ <;> omega
theorem First.near {s : ByteArray} {c0 c1 c2 c3 fr e : Int} (h : First s c0 c1 c2 c3 fr e) (h1 : 1 ≤ c1) : e ≤ fr + c1 := by
  obtain ⟨a1, a2, a3, a4⟩ := h
  rcases Int.lt_or_le (fr + c1) e with h | h
  · have := a4 (fr + c1) (by omega) h
    simp [cutB] at this
    omega
  · exact h
theorem Path.few {s : ByteArray} {c0 c1 c2 c3 : Int} (h4 : 4 ≤ c0) (hc : c0 ≤ c1) : ∀ {t : List Int} {fr : Int}, Path s c0 c1 c2 c3 fr t → (t.length : Int) * 4 ≤ s.size - fr + 3
  | [], fr, h => by simp only [Path] at h; simp; omega
  | e :: t, fr, h => by
    have ih := Path.few h4 hc h.2
    rcases h.1.far hc with he | he
    · rw [h.2.end_ he]; have := h.1.1; simp; omega
    · rw [List.length_cons]; push_cast; omega
theorem Path.le {s : ByteArray} {c0 c1 c2 c3 : Int} : ∀ {t : List Int} {fr : Int}, Path s c0 c1 c2 c3 fr t → fr ≤ s.size
  | [], fr, h => by simp only [Path] at h; omega
  | e :: t, fr, h => by obtain ⟨⟨a1, a2, _⟩, _⟩ := h; omega
/-- what is cut there -/
def pieces (s : ByteArray) : Int → List Int → List ByteArray
  | _, [] => []
  | fr, e :: t => s.extract fr.toNat e.toNat :: pieces s e t
theorem pieces_length (s : ByteArray) : ∀ (t : List Int) (fr : Int), (pieces s fr t).length = t.length
  | [], _ => rfl
  | e :: t, _ => by simp [pieces, pieces_length s t e]
theorem rd_at {l : List Int} {i : Int} {e : Int} {t : List Int} (h : l.drop i.toNat = e :: t) : rd l i = e := by
  have : (l.drop i.toNat)[0]? = some e := by rw [h]; rfl
  rw [List.getElem?_drop] at this
  simp [rd, List.getD_eq_getElem?_getD] at this ⊢
  rw [this]; rfl
theorem drop_next {α : Type} {l : List α} {i : Int} {e : α} {t : List α} (h0 : 0 ≤ i) (h : l.drop i.toNat = e :: t) : l.drop (i + 1).toNat = t := by
  have e1 : (i + 1).toNat = i.toNat + 1 := by omega
  rw [e1, ← List.drop_drop, h]; rfl
theorem drop_len {α : Type} {l : List α} {i : Int} {t : List α} (h0 : 0 ≤ i) (hi : i ≤ l.length) (h : l.drop i.toNat = t) : (l.length : Int) = i + t.length := by
  rw [← h, List.length_drop]; omega
theorem rdOf_at {α : Type} {d : α} {l : List α} {i : Int} {e : α} {t : List α} (h : l.drop i.toNat = e :: t) : rdOf d l i = e := by
  have : (l.drop i.toNat)[0]? = some e := by rw [h]; rfl
  rw [List.getElem?_drop] at this
  simp [rdOf, List.getD_eq_getElem?_getD] at this ⊢
  rw [this]; rfl
theorem cut_l0 (s : ByteArray) (c0 c1 c2 c3 : Int) (L : List Int) (hL : L.length ≤ 256) : ∀ (t : List Int) (k : Nat) (acc : List ByteArray) (fr i : Int), t.length < k → 0 ≤ fr → 0 ≤ i → i ≤ L.length → L.drop i.toNat = t → Path s c0 c1 c2 c3 fr t → acc.length ≤ i → chunk_Cut.l0 k s acc fr L L.length i = some (acc ++ pieces s fr t, 0)
  | [], k + 1, acc, fr, i, hk, hf, h0, hi, hd, hp, ha => by
    have := drop_len h0 hi hd
    unfold chunk_Cut.l0
    rw [if_neg (by simp at this; omega)]
    simp [pieces]
  | e :: t, k + 1, acc, fr, i, hk, hf, h0, hi, hd, hp, ha => by
    have hl := drop_len h0 hi hd
    have hr := rd_at hd
    rw [List.length_cons] at hl hk
    push_cast at hl
    have hfe := hp.1.1
    have hes := hp.1.2.1
    unfold chunk_Cut.l0
    rw [hr, if_pos (by omega), if_pos h0, if_pos (by omega), if_pos hf, if_pos (by omega), if_pos hes, if_pos (by omega), w64 (by omega) (by omega)]
    rw [cut_l0 s c0 c1 c2 c3 L hL t k _ e (i + 1) (by omega) (by omega) (by omega) (by omega) (drop_next h0 hd) hp.2 (by simp; omega)]
    simp [pieces]
def okC (c0 c1 c2 c3 : Int) : Prop := 4 ≤ c0 ∧ c0 ≤ c1 ∧ c1 ≤ 256 ∧ 1 ≤ c2 ∧ c2 ≤ c0 ∧ 1 ≤ c3 ∧ c3 ≤ 1024
theorem check_ok {c0 c1 c2 c3 : Int} (h : okC c0 c1 c2 c3) : chunk_Check.f c0 c1 c2 c3 = some 0 := by
  obtain ⟨a1, a2, a3, a4, a5, a6, a7⟩ := h
  unfold chunk_Check.f
  rw [if_neg (by omega), if_neg (by omega), if_neg (by omega), if_neg (by omega), if_neg (by omega), if_neg (by omega), if_neg (by omega)]
/-- the ends of a short text -/
theorem ends_ok {s : ByteArray} {c0 c1 c2 c3 : Int} (h : okC c0 c1 c2 c3) (hs : s.size ≤ 1000) : ∃ L, chunk_Ends.f s c0 c1 c2 c3 = some (L, 0) ∧ Path s c0 c1 c2 c3 0 L ∧ L.length ≤ 256 := by
  have hp := path_L s c0 c1 c2 c3
  have hf := hp.few h.1 h.2.1
  refine ⟨_, ?_, hp, by omega⟩
  unfold chunk_Ends.f
  rw [check_ok h]
  simp only [Option.bind_some, if_true]
  rw [if_neg (by omega), if_neg (by omega)]
theorem cut_ok {s : ByteArray} {c0 c1 c2 c3 : Int} {L : List Int} (k : Nat) (hk : 256 < k) (he : chunk_Ends.f s c0 c1 c2 c3 = some (L, 0)) (hp : Path s c0 c1 c2 c3 0 L) (hl : L.length ≤ 256) : chunk_Cut.f k s c0 c1 c2 c3 = some (pieces s 0 L, 0) := by
  unfold chunk_Cut.f
  rw [he]
  simp only [Option.bind_some, if_true]
  exact cut_l0 s c0 c1 c2 c3 L hl L k [] 0 0 (by omega) (Int.le_refl _) (Int.le_refl _) (by omega) rfl hp (by simp)
theorem sane_ok (k : Nat) (hk : 256 < k) : storagebarterlaw04_sane.f k = some true := by
  have h : storagebarterlaw04_sane.f 257 = some true := by kernel_rfl
  exact at_rounds storagebarterlaw04_sane.mono (by omega) h

/-! the deck: what is drawn lies in the range, and the place stays in the list -/
theorem mod_ok {x a : Int} (h1 : 1 ≤ a) (h2 : a ≤ 1000000) : ∃ r, storagebartermake_Mod.f x a = some r ∧ 0 ≤ r ∧ r < a := by
  have l1 := Int.tmod_lt_of_pos x (show 0 < a by omega)
  have l2 := Int.tmod_lt_of_pos (-x) (show 0 < a by omega)
  rw [Int.neg_tmod] at l2
  refine ⟨_, by unfold storagebartermake_Mod.f; rw [if_neg (by omega)], ?_, ?_⟩
  · rw [w64 (by omega) (by omega)]; exact Int.tmod_nonneg _ (by omega)
  · exact Int.tmod_lt_of_pos _ (by omega)
theorem next_ok {l : List Int} {p a : Int} (hl : l.length ≤ 500) (h0 : 0 ≤ p) (h1 : p ≤ l.length) (ha : 1 ≤ a) (hb : a ≤ 1000000) : ∃ r q, storagebartermake_Deck_Next.f l p a = some (r, q) ∧ 0 ≤ r ∧ r < a ∧ 0 ≤ q ∧ q ≤ l.length := by
  unfold storagebartermake_Deck_Next.f
  rw [if_neg (by omega)]
  by_cases hp : p ≥ (l.length : Int)
  · rw [if_pos hp]; exact ⟨_, _, rfl, by omega, by omega, h0, h1⟩
  · rw [if_neg hp, if_pos h0, if_pos (by omega)]
    obtain ⟨r, hr, h3, h4⟩ := mod_ok (x := rd l p) ha hb
    rw [hr]
    refine ⟨r, p + 1, ?_, h3, h4, by omega, by omega⟩
    simp only [Option.bind_some]
    rw [w64 (by omega) (by omega)]
theorem cutting_ok {l : List Int} {p : Int} (hl : l.length ≤ 500) (h0 : 0 ≤ p) (h1 : p ≤ l.length) : ∃ c0 c1 c2 c3 q, storagebartermake_Cutting.f l p = some (c0, c1, c2, c3, q) ∧ okC c0 c1 c2 c3 ∧ 0 ≤ q ∧ q ≤ l.length := by
  obtain ⟨r1, q1, e1, a1, b1, m1, n1⟩ := next_ok hl h0 h1 (a := 6) (by omega) (by omega)
  obtain ⟨r2, q2, e2, a2, b2, m2, n2⟩ := next_ok hl m1 n1 (a := 20) (by omega) (by omega)
  obtain ⟨r3, q3, e3, a3, b3, m3, n3⟩ := next_ok hl m2 n2 (a := 4 + r1) (by omega) (by omega)
  obtain ⟨r4, q4, e4, a4, b4, m4, n4⟩ := next_ok hl m3 n3 (a := 9) (by omega) (by omega)
  refine ⟨4 + r1, 4 + r1 + r2, 1 + r3, 1 + r4, q4, ?_, by unfold okC; omega, m4, n4⟩
  unfold storagebartermake_Cutting.f
  rw [e1]
  simp only [Option.bind_some]
  rw [e2]
  simp only [Option.bind_some]
  rw [w64 (n := 4 + r1) (by omega) (by omega), e3]
  simp only [Option.bind_some]
  rw [e4]
  simp only [Option.bind_some]
  rw [w64 (n := 4 + r1 + r2) (by omega) (by omega), w64 (n := 1 + r3) (by omega) (by omega), w64 (n := 1 + r4) (by omega) (by omega)]
theorem text_l0 {l : List Int} (hl : l.length ≤ 500) : ∀ (m k : Nat) (b : List Int) (p : Int), m < k → b.length + m ≤ 1000 → 0 ≤ p → p ≤ l.length → ∃ s q, storagebartermake_Text.l0 k b m l p = some (s, q) ∧ s.size ≤ b.length + m ∧ 0 ≤ q ∧ q ≤ l.length
  | 0, k + 1, b, p, hk, hb, h0, h1 => by
    refine ⟨_, _, by unfold storagebartermake_Text.l0; rw [if_neg (by omega)], ?_, h0, h1⟩
    rw [strOfNums_size]; omega
  | m + 1, k + 1, b, p, hk, hb, h0, h1 => by
    obtain ⟨r, q, e, a1, b1, m1, n1⟩ := next_ok hl h0 h1 (a := 5) (by omega) (by omega)
    unfold storagebartermake_Text.l0
    rw [if_pos (by omega), e]
    simp only [Option.bind_some]
    rw [if_pos (by omega), w64 (n := ((m + 1 : Nat) : Int) - 1) (by omega) (by omega), show ((m + 1 : Nat) : Int) - 1 = m by omega]
    obtain ⟨s, q', e', h2, h3, h4⟩ := text_l0 hl m k (b ++ [(wrap64 (r * 51)) % 256]) q (by omega) (by simp; omega) m1 n1
    exact ⟨s, q', e', by simp at h2; omega, h3, h4⟩
theorem text_ok {l : List Int} {p : Int} (hl : l.length ≤ 500) (h0 : 0 ≤ p) (h1 : p ≤ l.length) (n : Int) (hn : 0 ≤ n) (hn2 : n ≤ 900) (k : Nat) (hk : 1000 ≤ k) : ∃ s q, storagebartermake_Text.f k l p n = some (s, q) ∧ (s.size : Int) ≤ n ∧ 0 ≤ q ∧ q ≤ l.length := by
  obtain ⟨r, q, e, a1, b1, m1, n1⟩ := next_ok hl h0 h1 (a := n + 1) (by omega) (by omega)
  unfold storagebartermake_Text.f
  rw [w64 (n := n + 1) (by omega) (by omega), e]
  simp only [Option.bind_some]
  obtain ⟨s, q', e', h2, h3, h4⟩ := text_l0 hl r.toNat k [] q (by omega) (by simp; omega) m1 n1
  rw [Int.toNat_of_nonneg a1] at e'
  exact ⟨s, q', e', by simp at h2; omega, h3, h4⟩

/-! chunks are the text together -/
theorem str_bytes (s : ByteArray) : strOfNums (bytesOf s) = s := by
  apply ByteArray.ext
  apply Array.ext'
  rw [strOfNums_data, bytesOf, List.map_map]
  conv => rhs; rw [← List.map_id s.data.toList]
  apply List.map_congr_left
  intro b _
  simp
theorem bytes_append (a b : ByteArray) : bytesOf (a ++ b) = bytesOf a ++ bytesOf b := by
  simp [bytesOf, ByteArray.data_append]
def tot : List ByteArray → Int
  | [] => 0
  | x :: t => x.size + tot t
theorem tot_nonneg : ∀ l : List ByteArray, 0 ≤ tot l
  | [] => Int.le_refl _
  | x :: t => by have := tot_nonneg t; simp only [tot]; omega
theorem tot_append : ∀ l m : List ByteArray, tot (l ++ m) = tot l + tot m
  | [], m => by simp [tot]
  | x :: t, m => by simp only [tot, List.cons_append, tot_append t m]; omega
theorem cat_length : ∀ l : List ByteArray, ((l.flatMap bytesOf).length : Int) = tot l
  | [] => rfl
  | x :: t => by rw [List.flatMap_cons, List.length_append, bytesOf_length]; push_cast; rw [cat_length t]; rfl
theorem join_l1 (P : List ByteArray) (hP : P.length ≤ 1000000) : ∀ (t : List ByteArray) (b : List Int) (i : Int), 0 ≤ i → i ≤ P.length → P.drop i.toNat = t → b.length + tot t ≤ 1000000 → ∃ k, chunk_Join.l1 k b P P.length i = some (strOfNums (b ++ t.flatMap bytesOf), 0)
  | [], b, i, h0, hi, hd, hb => by
    have := drop_len h0 hi hd
    refine ⟨1, ?_⟩
    rw [chunk_Join.l1, if_neg (by simp at this; omega)]
    simp
  | x :: t, b, i, h0, hi, hd, hb => by
    have hl := drop_len h0 hi hd
    have hr := rdOf_at (d := ByteArray.empty) hd
    rw [List.length_cons] at hl
    push_cast at hl
    have ht := tot_nonneg t
    simp only [tot] at hb
    obtain ⟨k, hk⟩ := join_l1 P hP t (b ++ bytesOf x) (i + 1) (by omega) (by omega) (drop_next h0 hd) (by rw [List.length_append, bytesOf_length]; push_cast; omega)
    refine ⟨k + 1, ?_⟩
    rw [chunk_Join.l1, if_pos (by omega), if_pos h0, if_pos (by omega), hr, if_pos (by omega), w64 (n := i + 1) (by omega) (by omega), hk]
    simp
theorem join_l0 (P : List ByteArray) (hP : P.length ≤ 1000000) (hT : tot P ≤ 16384) : ∀ (t : List ByteArray) (x : Int) (i : Int), 0 ≤ i → i ≤ P.length → P.drop i.toNat = t → 0 ≤ x → x + tot t ≤ 16384 → ∃ k, chunk_Join.l0 k P x P P.length i = some (strOfNums (P.flatMap bytesOf), 0)
  | [], x, i, h0, hi, hd, hx, hb => by
    have := drop_len h0 hi hd
    obtain ⟨k, hk⟩ := join_l1 P hP P [] 0 (Int.le_refl _) (by omega) rfl (by simp; omega)
    refine ⟨k + 1, ?_⟩
    simp only [tot] at hb
    rw [chunk_Join.l0, if_neg (by simp at this; omega), if_pos hx, if_pos (by omega), hk]
    simp
  | y :: t, x, i, h0, hi, hd, hx, hb => by
    have hl := drop_len h0 hi hd
    have hr := rdOf_at (d := ByteArray.empty) hd
    rw [List.length_cons] at hl
    push_cast at hl
    have ht := tot_nonneg t
    simp only [tot] at hb
    obtain ⟨k, hk⟩ := join_l0 P hP hT t (x + y.size) (i + 1) (by omega) (by omega) (drop_next h0 hd) (by omega) (by omega)
    refine ⟨k + 1, ?_⟩
    rw [chunk_Join.l0, if_pos (by omega), if_pos h0, if_pos (by omega), hr, w64 (n := x + y.size) (by omega) (by omega), if_neg (by omega), w64 (n := i + 1) (by omega) (by omega), hk]
theorem join_ok (P : List ByteArray) (hP : P.length ≤ 1000000) (hT : tot P ≤ 16384) : ∃ k, chunk_Join.f k P = some (strOfNums (P.flatMap bytesOf), 0) :=
  join_l0 P hP hT P 0 0 (Int.le_refl _) (by omega) rfl (Int.le_refl _) (by omega)
theorem pieces_cat {s : ByteArray} {c0 c1 c2 c3 : Int} : ∀ {t : List Int} {fr : Int}, 0 ≤ fr → Path s c0 c1 c2 c3 fr t → (pieces s fr t).flatMap bytesOf = bytesOf (s.extract fr.toNat s.size)
  | [], fr, h0, h => by
    simp only [Path] at h
    rw [pieces, show s.extract fr.toNat s.size = ByteArray.empty from ?_]
    · rfl
    · rw [← ByteArray.size_eq_zero_iff, ByteArray.size_extract]; omega
  | e :: t, fr, h0, h => by
    have a := h.1.1
    have b := h.1.2.1
    rw [pieces, List.flatMap_cons, pieces_cat (by omega) h.2, ← bytes_append, ByteArray.extract_append_extract, Nat.min_eq_left (by omega), Nat.max_eq_right (by omega)]
theorem pieces_tot {s : ByteArray} {c0 c1 c2 c3 : Int} : ∀ {t : List Int} {fr : Int}, 0 ≤ fr → Path s c0 c1 c2 c3 fr t → tot (pieces s fr t) = s.size - fr
  | [], fr, h0, h => by simp only [Path] at h; simp only [pieces, tot]; omega
  | e :: t, fr, h0, h => by
    have a := h.1.1
    have b := h.1.2.1
    simp only [pieces, tot]
    rw [pieces_tot (by omega) h.2, ByteArray.size_extract]
    omega

theorem same_l0 (l : List ByteArray) (hl : l.length ≤ 1000) : ∀ (t : List ByteArray) (k : Nat) (i : Int), t.length < k → 0 ≤ i → i ≤ l.length → l.drop i.toNat = t → storagebarterref04_Same.l0 k l l l.length i = some true
  | [], k + 1, i, hk, h0, hi, hd => by
    have := drop_len h0 hi hd
    unfold storagebarterref04_Same.l0
    rw [if_neg (by simp at this; omega)]
  | e :: t, k + 1, i, hk, h0, hi, hd => by
    have hl2 := drop_len h0 hi hd
    rw [List.length_cons] at hl2 hk
    push_cast at hl2
    unfold storagebarterref04_Same.l0
    rw [if_pos (by omega), if_pos h0, if_pos (by omega), if_pos (by omega), if_pos rfl, w64 (by omega) (by omega)]
    exact same_l0 l hl t k (i + 1) (by omega) (by omega) (by omega) (drop_next h0 hd)
theorem same_ok (l : List ByteArray) (hl : l.length ≤ 1000) (k : Nat) (hk : l.length < k) : storagebarterref04_Same.f k l l = some true := by
  unfold storagebarterref04_Same.f
  rw [if_pos rfl]
  exact same_l0 l hl l k 0 (by omega) (Int.le_refl _) (by omega) rfl

theorem ext_right {a r : ByteArray} {i j : Nat} (hi : a.size ≤ i) : (a ++ r).extract i j = r.extract (i - a.size) (j - a.size) := by
  rw [ByteArray.extract_append, show a.extract i j = ByteArray.empty from ?_, ByteArray.empty_append]
  rw [← ByteArray.size_eq_zero_iff, ByteArray.size_extract]; omega
theorem cutB_shift {a b r : ByteArray} {c0 c1 c2 c3 fr e : Int} (h : a.size ≤ fr) (he : fr ≤ e) : cutB (a ++ r) c0 c1 c2 c3 fr e = cutB (b ++ r) c0 c1 c2 c3 (fr - a.size + b.size) (e - a.size + b.size) := by
  have e1 : (a ++ r).extract fr.toNat e.toNat = (b ++ r).extract (fr - a.size + b.size).toNat (e - a.size + b.size).toNat := by
    rw [ext_right (by omega), ext_right (by omega), show fr.toNat - a.size = (fr - a.size + b.size).toNat - b.size by omega, show e.toNat - a.size = (e - a.size + b.size).toNat - b.size by omega]
  unfold cutB
  rw [e1, ByteArray.size_append, ByteArray.size_append, show e - a.size + b.size - (fr - a.size + b.size) = e - fr by omega]
  have e2 : (e == ((a.size + r.size : Nat) : Int)) = (e - a.size + b.size == ((b.size + r.size : Nat) : Int)) := by
    rw [Bool.eq_iff_iff, beq_iff_eq, beq_iff_eq]; omega
  rw [e2]
theorem first_shift {a b r : ByteArray} {c0 c1 c2 c3 fr e : Int} (h : a.size ≤ fr) (hf : First (a ++ r) c0 c1 c2 c3 fr e) : First (b ++ r) c0 c1 c2 c3 (fr - a.size + b.size) (e - a.size + b.size) := by
  obtain ⟨a1, a2, a3, a4⟩ := hf
  rw [ByteArray.size_append] at a2
  refine ⟨by omega, by rw [ByteArray.size_append]; omega, by rw [← cutB_shift h (by omega)]; exact a3, fun x h1 h2 => ?_⟩
  have := a4 (x - b.size + a.size) (by omega) (by omega)
  rw [cutB_shift (b := b) h (by omega), show x - b.size + a.size - a.size + b.size = x by omega] at this
  exact this
theorem path_shift {a b r : ByteArray} {c0 c1 c2 c3 : Int} : ∀ {t : List Int} {fr : Int}, (a.size : Int) ≤ fr → Path (a ++ r) c0 c1 c2 c3 fr t → Path (b ++ r) c0 c1 c2 c3 (fr - a.size + b.size) (t.map fun x => x - a.size + b.size)
  | [], fr, h, hp => by simp only [Path, List.map_nil] at hp ⊢; rw [ByteArray.size_append] at hp ⊢; omega
  | e :: t, fr, h, hp => ⟨first_shift h hp.1, path_shift (by have := hp.1.1; omega) hp.2⟩
theorem pieces_shift {a b r : ByteArray} {c0 c1 c2 c3 : Int} : ∀ {t : List Int} {fr : Int}, (a.size : Int) ≤ fr → Path (a ++ r) c0 c1 c2 c3 fr t → pieces (a ++ r) fr t = pieces (b ++ r) (fr - a.size + b.size) (t.map fun x => x - a.size + b.size)
  | [], fr, h, hp => rfl
  | e :: t, fr, h, hp => by
    have hfe := hp.1.1
    simp only [pieces, List.map_cons]
    rw [← pieces_shift (by omega) hp.2, ext_right (by omega), ext_right (by omega), show fr.toNat - a.size = (fr - a.size + b.size).toNat - b.size by omega, show e.toNat - a.size = (e - a.size + b.size).toNat - b.size by omega]

/-! ### what is behind an end is cut as if it were the whole text; an end depends on nothing behind it -/
theorem path_take {s : ByteArray} {c0 c1 c2 c3 : Int} : ∀ (L : List Int) (i : Nat) (fr : Int), 0 ≤ fr → Path s c0 c1 c2 c3 fr L → i ≤ L.length → ∃ m : Int, fr ≤ m ∧ m ≤ s.size ∧ Path s c0 c1 c2 c3 m (L.drop i) ∧ (pieces s fr L).drop i = pieces s m (L.drop i) ∧ ((pieces s fr L).take i).flatMap bytesOf = bytesOf (s.extract fr.toNat m.toNat) ∧ tot ((pieces s fr L).take i) = m - fr
  | L, 0, fr, h0, hp, hi => by
    refine ⟨fr, Int.le_refl _, hp.le, by simpa using hp, by simp, ?_, by simp [tot]⟩
    rw [show s.extract fr.toNat fr.toNat = ByteArray.empty from ?_]
    · simp [bytesOf]
    · rw [← ByteArray.size_eq_zero_iff, ByteArray.size_extract]; omega
  | e :: t, i + 1, fr, h0, hp, hi => by
    have a := hp.1.1
    have b := hp.1.2.1
    obtain ⟨m, h1, h2, h3, h4, h5, h6⟩ := path_take t i e (by omega) hp.2 (by simpa using hi)
    refine ⟨m, by omega, h2, by simpa using h3, by simpa [pieces] using h4, ?_, ?_⟩
    · simp only [pieces, List.take_succ_cons, List.flatMap_cons]
      rw [h5, ← bytes_append, ByteArray.extract_append_extract, Nat.min_eq_left (by omega), Nat.max_eq_right (by omega)]
    · simp only [pieces, List.take_succ_cons, tot]
      rw [h6, ByteArray.size_extract]
      omega
theorem cutB_more {s r : ByteArray} {c0 c1 c2 c3 fr e : Int} (h0 : 0 ≤ fr) (h : fr ≤ e) (he : e < s.size) : cutB (s ++ r) c0 c1 c2 c3 fr e = cutB s c0 c1 c2 c3 fr e := by
  have e1 : (s ++ r).extract fr.toNat e.toNat = s.extract fr.toNat e.toNat := by
    rw [ByteArray.extract_append, show r.extract (fr.toNat - s.size) (e.toNat - s.size) = ByteArray.empty from ?_, ByteArray.append_empty]
    rw [← ByteArray.size_eq_zero_iff, ByteArray.size_extract]; omega
  unfold cutB
  rw [e1, ByteArray.size_append]
  have e2 : (e == ((s.size + r.size : Nat) : Int)) = (e == (s.size : Int)) := by
    rw [Bool.eq_iff_iff, beq_iff_eq, beq_iff_eq]; omega
  rw [e2]
theorem path_more {s r : ByteArray} {c0 c1 c2 c3 : Int} : ∀ (n : Nat) (L L' : List Int) (fr : Int), 0 ≤ fr → Path s c0 c1 c2 c3 fr L → Path (s ++ r) c0 c1 c2 c3 fr L' → n + 1 ≤ L.length → n ≤ L'.length ∧ (pieces (s ++ r) fr L').take n = (pieces s fr L).take n
  | 0, L, L', fr, h0, hp, hq, hn => ⟨Nat.zero_le _, by simp⟩
  | n + 1, [], L', fr, h0, hp, hq, hn => by simp at hn
  | n + 1, [e], L', fr, h0, hp, hq, hn => by simp at hn
  | n + 1, e :: e2 :: t, [], fr, h0, hp, hq, hn => by
    simp only [Path] at hq
    rw [ByteArray.size_append] at hq
    have := hp.1.1
    have := hp.1.2.1
    omega
  | n + 1, e :: e2 :: t, e' :: t', fr, h0, hp, hq, hn => by
    have a := hp.1.1
    have b := hp.2.1.1
    have d := hp.2.1.2.1
    have hf : First (s ++ r) c0 c1 c2 c3 fr e := by
      obtain ⟨x1, x2, x3, x4⟩ := hp.1
      refine ⟨x1, by rw [ByteArray.size_append]; omega, by rw [cutB_more h0 (by omega) (by omega)]; exact x3, fun y h1 h2 => ?_⟩
      rw [cutB_more h0 (by omega) (by omega)]
      exact x4 y h1 h2
    have he := hf.same hq.1
    subst he
    obtain ⟨i1, i2⟩ := path_more n (e2 :: t) t' e (by omega) hp.2 hq.2 (by simpa using hn)
    refine ⟨by simpa using i1, ?_⟩
    simp only [pieces, List.take_succ_cons] at i2 ⊢
    rw [i2]
    congr 1
    rw [ByteArray.extract_append, show r.extract (fr.toNat - s.size) (e.toNat - s.size) = ByteArray.empty from ?_, ByteArray.append_empty]
    rw [← ByteArray.size_eq_zero_iff, ByteArray.size_extract]; omega
theorem ends_any {s : ByteArray} {c0 c1 c2 c3 : Int} (h : okC c0 c1 c2 c3) (hs : s.size ≤ 16384) : chunk_Ends.f s c0 c1 c2 c3 = some ([], 4) ∨ ∃ L, chunk_Ends.f s c0 c1 c2 c3 = some (L, 0) ∧ Path s c0 c1 c2 c3 0 L ∧ L.length ≤ 256 := by
  have hp := path_L s c0 c1 c2 c3
  unfold chunk_Ends.f
  rw [check_ok h]
  simp only [Option.bind_some, if_true]
  rw [if_neg (by omega)]
  by_cases q : ((endsL s c0 c1 c2 c3 s.size 0 0 []).length : Int) > 256
  · rw [if_pos q]; exact .inl rfl
  · rw [if_neg q]; exact .inr ⟨_, rfl, hp, by omega⟩
theorem ChunkRest : storagebarterlaw04_ChunkRest.Pure := by
  intro l a1 more _ _ _ w1 _
  have w1 : (0 : Int) ≤ a1 ∧ a1 ≤ 255 := by simp [Lit.wf, IntKind.min, IntKind.max, IntKind.signed, IntKind.bits] at w1; omega
  by_cases hl : (l.length : Int) ≤ 500
  · by_cases hm : (more.size : Int) > 1000
    · refine ⟨1000, ?_⟩
      unfold storagebarterlaw04_ChunkRest.f
      rw [sane_ok _ (by omega)]
      simp only [Option.bind_some, if_true, storagebartermake_Few.f]
      rw [decide_eq_true hl, if_pos rfl, decide_eq_true hm, show (1000 : Nat) = 999 + 1 from rfl, storagebarterlaw04_ChunkRest.j0, if_pos rfl]
    have hl' : l.length ≤ 500 := by omega
    obtain ⟨c0, c1, c2, c3, q, ec, c, m1, n1⟩ := cutting_ok hl' (Int.le_refl 0) (by omega)
    obtain ⟨s, q', et, hs, m2, n2⟩ := text_ok hl' m1 n1 300 (by omega) (by omega) 1000 (by omega)
    obtain ⟨L, e1, p1, l1⟩ := ends_ok c (s := s) (by omega)
    have start : ∀ k : Nat, 1000 ≤ k → ∀ R : Option Bool, (if ((pieces s 0 L).length : Int) = 0 then some true else R) = some true → True := fun _ _ _ _ => trivial
    by_cases hz : ((pieces s 0 L).length : Int) = 0
    · refine ⟨1001, ?_⟩
      unfold storagebarterlaw04_ChunkRest.f
      rw [sane_ok _ (by omega)]
      simp only [Option.bind_some, if_true, storagebartermake_Few.f]
      rw [decide_eq_true hl, if_pos rfl, decide_eq_false hm, show (1001 : Nat) = 1000 + 1 from rfl, storagebarterlaw04_ChunkRest.j0, if_neg (by simp)]
      simp only [Option.bind_some, storagebartermake_New.f]
      rw [ec]
      simp only [Option.bind_some]
      rw [et]
      simp only [Option.bind_some]
      rw [cut_ok _ (by omega) e1 p1 l1]
      simp only [Option.bind_some, if_true]
      rw [if_pos hz]
    have hz' : (L.length : Int) ≠ 0 := by rw [pieces_length] at hz; exact hz
    have t1 : 0 ≤ a1.tmod L.length ∧ a1.tmod L.length < L.length := ⟨Int.tmod_nonneg _ w1.1, Int.tmod_lt_of_pos _ (by omega)⟩
    obtain ⟨i, hi⟩ : ∃ i : Nat, a1.tmod L.length = i := ⟨(a1.tmod L.length).toNat, by omega⟩
    obtain ⟨m, h1, h2, h3, h4, h5, h6⟩ := path_take L i 0 (Int.le_refl _) p1 (by omega)
    have asz : ((s.extract 0 m.toNat).size : Int) = m := by rw [ByteArray.size_extract]; omega
    have rs : ((s.extract m.toNat s.size).size : Int) = s.size - m := by rw [ByteArray.size_extract]; omega
    have sar : s.extract 0 m.toNat ++ s.extract m.toNat s.size = s := by
      rw [ByteArray.extract_append_extract, Nat.min_eq_left (by omega), Nat.max_eq_right (by omega)]; simp
    obtain ⟨kj, hj⟩ := join_ok ((pieces s 0 L).take i) (by rw [List.length_take, pieces_length]; omega) (by omega)
    rw [h5, show (0 : Int).toNat = 0 from rfl, str_bytes] at hj
    obtain ⟨L2, e2, p2, l2⟩ := ends_ok c (s := s.extract m.toNat s.size) (by omega)
    have sh := path_shift (a := s.extract 0 m.toNat) (b := ByteArray.empty) (r := s.extract m.toNat s.size) (t := L.drop i) (fr := m) (by omega) (by rw [sar]; exact h3)
    have ps := pieces_shift (a := s.extract 0 m.toNat) (b := ByteArray.empty) (r := s.extract m.toNat s.size) (t := L.drop i) (fr := m) (by omega) (by rw [sar]; exact h3)
    rw [ByteArray.empty_append, show m - ((s.extract 0 m.toNat).size : Int) + (ByteArray.empty.size : Int) = 0 by rw [asz, ByteArray.size_empty]; omega] at sh ps
    rw [sar, ← h4, Path.same sh p2] at ps
    have sm : (s ++ more).size = s.size + more.size := ByteArray.size_append ..
    have same1 : ∀ k, 1000 ≤ k → storagebarterref04_Same.f k (pieces (s.extract m.toNat s.size) 0 L2) ((pieces s 0 L).drop i) = some true := fun k hk => by
      rw [ps]; exact same_ok _ (by rw [pieces_length]; omega) k (by rw [pieces_length]; omega)
    refine ⟨1000 + kj + 1, ?_⟩
    unfold storagebarterlaw04_ChunkRest.f
    rw [sane_ok _ (by omega)]
    simp only [Option.bind_some, if_true, storagebartermake_Few.f]
    rw [decide_eq_true hl, if_pos rfl, decide_eq_false hm, storagebarterlaw04_ChunkRest.j0, if_neg (by simp)]
    simp only [Option.bind_some, storagebartermake_New.f]
    rw [ec]
    simp only [Option.bind_some]
    rw [at_rounds (storagebartermake_Text.mono _ _ _) (show 1000 ≤ 1000 + kj by omega) et]
    simp only [Option.bind_some]
    rw [cut_ok _ (by omega) e1 p1 l1]
    simp only [Option.bind_some, if_true]
    rw [if_neg hz, pieces_length, w64 w1.1 (by omega), hi, if_pos (by omega), if_pos (by omega), show ((i : Nat) : Int).toNat = i by omega, at_rounds (chunk_Join.mono _) (show kj ≤ 1000 + kj by omega) hj]
    simp only [Option.bind_some, if_true]
    rw [if_pos (by omega), if_pos (by omega), asz, cut_ok _ (by omega) e2 p2 l2]
    simp only [Option.bind_some, if_true]
    rw [if_pos (by omega)]
    rcases ends_any c (s := s ++ more) (by omega) with e3 | ⟨L3, e3, p3, l3⟩
    · rw [show chunk_Cut.f (1000 + kj) (s ++ more) c0 c1 c2 c3 = some ([], 4) by unfold chunk_Cut.f; rw [e3]; rfl]
      simp only [Option.bind_some]
      rw [same1 _ (by omega)]
      simp only [Option.bind_some, if_true]
      rw [if_neg (by omega)]
    · rw [cut_ok _ (by omega) e3 p3 l3]
      simp only [Option.bind_some]
      rw [same1 _ (by omega)]
      simp only [Option.bind_some, if_true]
      obtain ⟨g1, g2⟩ := path_more (L.length - 1) L L3 0 (Int.le_refl _) p1 p3 (by omega)
      rw [w64 (n := (L.length : Int) - 1) (by omega) (by omega), pieces_length, if_pos (by omega), if_pos (by omega), if_pos (by omega), if_pos (by omega), show ((L.length : Int) - 1).toNat = L.length - 1 by omega, g2, same_ok _ (by rw [List.length_take, pieces_length]; omega) _ (by rw [List.length_take, pieces_length]; omega)]
      rfl
  · refine ⟨1000, ?_⟩
    unfold storagebarterlaw04_ChunkRest.f
    rw [sane_ok _ (by omega)]
    simp only [Option.bind_some, if_true, storagebartermake_Few.f]
    rw [decide_eq_false hl, if_neg (by simp), show (1000 : Nat) = 999 + 1 from rfl, storagebarterlaw04_ChunkRest.j0, if_pos rfl]

end Go.Proofs.Ytepffabkcbfejaa.Pure
