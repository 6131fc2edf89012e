/- The law ChunkBack of chapter 4 answers true for every input: what its printed functions compute, in plain Lean. -/
import Derived.Test.YtepffabkcbfejaaPChunkBackx4
set_option linter.unusedVariables false
set_option linter.unusedSimpArgs false
set_option maxRecDepth 100000
namespace Go.Proofs.Ytepffabkcbfejaa.Pure
open Go.RowKit Go.Proofs.Ytepffabkcbfejaa.PChunkBack Go.Proofs.YtepffabkcbfejaaW.PrintWords Go.Proofs.YtepffabkcbfejaaW.PrintMore Go.Proofs.YtepffabkcbfejaaW.PrintLast

theorem w64 {n : Int} (h0 : 0 ≤ n) (h1 : n < 9223372036854775808) : wrap64 n = n := by unfold wrap64; omega

/-! the ends: what is before them, and what comes -/
def endsR (s : ByteArray) (c0 c1 c2 c3 : Int) : Nat → Int → Int → List Int
  | 0, _, _ => []
  | n + 1, fr, i => if cutB s c0 c1 c2 c3 fr (i + 1) = true then (i + 1) :: endsR s c0 c1 c2 c3 n (i + 1) (i + 1) else endsR s c0 c1 c2 c3 n fr (i + 1)
theorem endsL_R (s : ByteArray) (c0 c1 c2 c3 : Int) : ∀ (n : Nat) (fr i : Int) (acc : List Int), endsL s c0 c1 c2 c3 n fr i acc = acc ++ endsR s c0 c1 c2 c3 n fr i
  | 0, _, _, acc => by simp [endsL, endsR]
  | n + 1, fr, i, acc => by
    simp only [endsL, endsR]
    split
    · rw [endsL_R s c0 c1 c2 c3 n]; simp
    · rw [endsL_R s c0 c1 c2 c3 n]
/-- the first place behind `fr` at which a chunk ends -/
def First (s : ByteArray) (c0 c1 c2 c3 fr e : Int) : Prop := fr < e ∧ e ≤ s.size ∧ cutB s c0 c1 c2 c3 fr e = true ∧ ∀ a, fr < a → a < e → cutB s c0 c1 c2 c3 fr a = false
def Path (s : ByteArray) (c0 c1 c2 c3 : Int) : Int → List Int → Prop
  | fr, [] => fr = s.size
  | fr, e :: t => First s c0 c1 c2 c3 fr e ∧ Path s c0 c1 c2 c3 e t
theorem cutB_size (s : ByteArray) (c0 c1 c2 c3 fr : Int) : cutB s c0 c1 c2 c3 fr s.size = true := by simp [cutB]
theorem path_R (s : ByteArray) (c0 c1 c2 c3 : Int) : ∀ (n : Nat) (fr i : Int), fr ≤ i → i + n = s.size → (∀ a, fr < a → a ≤ i → cutB s c0 c1 c2 c3 fr a = false) → Path s c0 c1 c2 c3 fr (endsR s c0 c1 c2 c3 n fr i)
  | 0, fr, i, h, e, no => by
    simp only [endsR, Path]
    rcases Int.lt_or_le fr i with h' | h'
    · have := no i h' (Int.le_refl _)
      have e2 : i = s.size := by simpa using e
      rw [e2, cutB_size] at this
      cases this
    · simp at e; omega
  | n + 1, fr, i, h, e, no => by
    simp only [endsR]
    split
    · rename_i hc
      refine ⟨⟨by omega, by omega, hc, fun a h1 h2 => no a h1 (by omega)⟩, ?_⟩
      exact path_R s c0 c1 c2 c3 n (i + 1) (i + 1) (Int.le_refl _) (by push_cast at e; omega) (fun a h1 h2 => by omega)
    · rename_i hc
      refine path_R s c0 c1 c2 c3 n fr (i + 1) (by omega) (by push_cast at e; omega) (fun a h1 h2 => ?_)
      rcases Int.lt_or_le a (i + 1) with h3 | h3
      · exact no a h1 (by omega)
      · have : a = i + 1 := by omega
        rw [this]
        simpa using hc
theorem path_L (s : ByteArray) (c0 c1 c2 c3 : Int) : Path s c0 c1 c2 c3 0 (endsL s c0 c1 c2 c3 s.size 0 0 []) := by
  rw [endsL_R]
  exact path_R s c0 c1 c2 c3 s.size 0 0 (Int.le_refl _) (by omega) (fun a h1 h2 => by omega)
theorem First.same {s : ByteArray} {c0 c1 c2 c3 fr e e' : Int} (h : First s c0 c1 c2 c3 fr e) (h' : First s c0 c1 c2 c3 fr e') : e = e' := by
  obtain ⟨a1, a2, a3, a4⟩ := h
  obtain ⟨b1, b2, b3, b4⟩ := h'
  rcases Int.lt_trichotomy e e' with h | h | h
  · rw [b4 e a1 h] at a3; cases a3
  · exact h
  · rw [a4 e' b1 h] at b3; cases b3
theorem Path.end_ {s : ByteArray} {c0 c1 c2 c3 fr : Int} {t : List Int} (h : Path s c0 c1 c2 c3 fr t) (he : fr = s.size) : t = [] := by
  cases t with
  | nil => rfl
  | cons e t => obtain ⟨⟨a1, a2, _⟩, _⟩ := h; omega
theorem Path.same {s : ByteArray} {c0 c1 c2 c3 : Int} : ∀ {t t' : List Int} {fr : Int}, Path s c0 c1 c2 c3 fr t → Path s c0 c1 c2 c3 fr t' → t = t'
  | [], t', fr, h, h' => (h'.end_ h).symm
  | e :: t, [], fr, h, h' => h.end_ h'
  | e :: t, e' :: t', fr, h, h' => by
    have he := h.1.same h'.1
    subst he
    rw [Path.same h.2 h'.2]
theorem First.far {s : ByteArray} {c0 c1 c2 c3 fr e : Int} (hc : c0 ≤ c1) (h : First s c0 c1 c2 c3 fr e) : e = s.size ∨ fr + c0 ≤ e := by
  obtain ⟨a1, a2, a3, a4⟩ := h
  unfold cutB at a3
  rw [Bool.or_eq_true, Bool.or_eq_true, Bool.and_eq_true, decide_eq_true_iff, beq_iff_eq, beq_iff_eq] at a3
  rcases a3 with (h | h) | ⟨h, _⟩ <;> omega
theorem First.near {s : ByteArray} {c0 c1 c2 c3 fr e : Int} (h : First s c0 c1 c2 c3 fr e) (h1 : 1 ≤ c1) : e ≤ fr + c1 := by
  obtain ⟨a1, a2, a3, a4⟩ := h
  rcases Int.lt_or_le (fr + c1) e with h | h
  · have := a4 (fr + c1) (by omega) h
    simp [cutB] at this
    omega
  · exact h
theorem Path.few {s : ByteArray} {c0 c1 c2 c3 : Int} (h4 : 4 ≤ c0) (hc : c0 ≤ c1) : ∀ {t : List Int} {fr : Int}, Path s c0 c1 c2 c3 fr t → (t.length : Int) * 4 ≤ s.size - fr + 3
  | [], fr, h => by simp only [Path] at h; simp; omega
  | e :: t, fr, h => by
    have ih := Path.few h4 hc h.2
    rcases h.1.far hc with he | he
    · rw [h.2.end_ he]; have := h.1.1; simp; omega
    · rw [List.length_cons]; push_cast; omega
theorem Path.le {s : ByteArray} {c0 c1 c2 c3 : Int} : ∀ {t : List Int} {fr : Int}, Path s c0 c1 c2 c3 fr t → fr ≤ s.size
  | [], fr, h => by simp only [Path] at h; omega
  | e :: t, fr, h => by obtain ⟨⟨a1, a2, _⟩, _⟩ := h; omega
/-- what is cut there -/
def pieces (s : ByteArray) : Int → List Int → List ByteArray
  | _, [] => []
  | fr, e :: t => s.extract fr.toNat e.toNat :: pieces s e t
theorem pieces_length (s : ByteArray) : ∀ (t : List Int) (fr : Int), (pieces s fr t).length = t.length
  | [], _ => rfl
  | e :: t, _ => by simp [pieces, pieces_length s t e]
theorem rd_at {l : List Int} {i : Int} {e : Int} {t : List Int} (h : l.drop i.toNat = e :: t) : rd l i = e := by
  have : (l.drop i.toNat)[0]? = some e := by rw [h]; rfl
  rw [List.getElem?_drop] at this
  simp [rd, List.getD_eq_getElem?_getD] at this ⊢
  rw [this]; rfl
theorem drop_next {α : Type} {l : List α} {i : Int} {e : α} {t : List α} (h0 : 0 ≤ i) (h : l.drop i.toNat = e :: t) : l.drop (i + 1).toNat = t := by
  have e1 : (i + 1).toNat = i.toNat + 1 := by omega
  rw [e1, ← List.drop_drop, h]; rfl
theorem drop_len {α : Type} {l : List α} {i : Int} {t : List α} (h0 : 0 ≤ i) (hi : i ≤ l.length) (h : l.drop i.toNat = t) : (l.length : Int) = i + t.length := by
  rw [← h, List.length_drop]; omega
theorem rdOf_at {α : Type} {d : α} {l : List α} {i : Int} {e : α} {t : List α} (h : l.drop i.toNat = e :: t) : rdOf d l i = e := by
  have : (l.drop i.toNat)[0]? = some e := by rw [h]; rfl
  rw [List.getElem?_drop] at this
  simp [rdOf, List.getD_eq_getElem?_getD] at this ⊢
  rw [this]; rfl
theorem cut_l0 (s : ByteArray) (c0 c1 c2 c3 : Int) (L : List Int) (hL : L.length ≤ 256) : ∀ (t : List Int) (k : Nat) (acc : List ByteArray) (fr i : Int), t.length < k → 0 ≤ fr → 0 ≤ i → i ≤ L.length → L.drop i.toNat = t → Path s c0 c1 c2 c3 fr t → acc.length ≤ i → chunk_Cut.l0 k s acc fr L L.length i = some (acc ++ pieces s fr t, 0)
  | [], k + 1, acc, fr, i, hk, hf, h0, hi, hd, hp, ha => by
    have := drop_len h0 hi hd
    unfold chunk_Cut.l0
    rw [if_neg (by simp at this; omega)]
    simp [pieces]
  | e :: t, k + 1, acc, fr, i, hk, hf, h0, hi, hd, hp, ha => by
    have hl := drop_len h0 hi hd
    have hr := rd_at hd
    rw [List.length_cons] at hl hk
    push_cast at hl
    have hfe := hp.1.1
    have hes := hp.1.2.1
    unfold chunk_Cut.l0
    rw [hr, if_pos (by omega), if_pos h0, if_pos (by omega), if_pos hf, if_pos (by omega), if_pos hes, if_pos (by omega), w64 (by omega) (by omega)]
    rw [cut_l0 s c0 c1 c2 c3 L hL t k _ e (i + 1) (by omega) (by omega) (by omega) (by omega) (drop_next h0 hd) hp.2 (by simp; omega)]
    simp [pieces]
def okC (c0 c1 c2 c3 : Int) : Prop := 4 ≤ c0 ∧ c0 ≤ c1 ∧ c1 ≤ 256 ∧ 1 ≤ c2 ∧ c2 ≤ c0 ∧ 1 ≤ c3 ∧ c3 ≤ 1024
theorem check_ok {c0 c1 c2 c3 : Int} (h : okC c0 c1 c2 c3) : chunk_Check.f c0 c1 c2 c3 = some 0 := by
  obtain ⟨a1, a2, a3, a4, a5, a6, a7⟩ := h
  unfold chunk_Check.f
  rw [if_neg (by omega), if_neg (by omega), if_neg (by omega), if_neg (by omega), if_neg (by omega), if_neg (by omega), if_neg (by omega)]
/-- the ends of a short text -/
theorem ends_ok {s : ByteArray} {c0 c1 c2 c3 : Int} (h : okC c0 c1 c2 c3) (hs : s.size ≤ 1000) : ∃ L, chunk_Ends.f s c0 c1 c2 c3 = some (L, 0) ∧ Path s c0 c1 c2 c3 0 L ∧ L.length ≤ 256 := by
  have hp := path_L s c0 c1 c2 c3
  have hf := hp.few h.1 h.2.1
  refine ⟨_, ?_, hp, by omega⟩
  unfold chunk_Ends.f
  rw [check_ok h]
  simp only [Option.bind_some, if_true]
  rw [if_neg (by omega), if_neg (by omega)]
theorem cut_ok {s : ByteArray} {c0 c1 c2 c3 : Int} {L : List Int} (k : Nat) (hk : 256 < k) (he : chunk_Ends.f s c0 c1 c2 c3 = some (L, 0)) (hp : Path s c0 c1 c2 c3 0 L) (hl : L.length ≤ 256) : chunk_Cut.f k s c0 c1 c2 c3 = some (pieces s 0 L, 0) := by
  unfold chunk_Cut.f
  rw [he]
  simp only [Option.bind_some, if_true]
  exact cut_l0 s c0 c1 c2 c3 L hl L k [] 0 0 (by omega) (Int.le_refl _) (Int.le_refl _) (by omega) rfl hp (by simp)
theorem sane_ok (k : Nat) (hk : 256 < k) : storagebarterlaw04_sane.f k = some true := by
  have h : storagebarterlaw04_sane.f 257 = some true := by kernel_rfl
  exact at_rounds storagebarterlaw04_sane.mono (by omega) h

/-! the deck: what is drawn lies in the range, and the place stays in the list -/
theorem mod_ok {x a : Int} (h1 : 1 ≤ a) (h2 : a ≤ 1000000) : ∃ r, storagebartermake_Mod.f x a = some r ∧ 0 ≤ r ∧ r < a := by
  have l1 := Int.tmod_lt_of_pos x (show 0 < a by omega)
  have l2 := Int.tmod_lt_of_pos (-x) (show 0 < a by omega)
  rw [Int.neg_tmod] at l2
  refine ⟨_, by unfold storagebartermake_Mod.f; rw [if_neg (by omega)], ?_, ?_⟩
  · rw [w64 (by omega) (by omega)]; exact Int.tmod_nonneg _ (by omega)
  · exact Int.tmod_lt_of_pos _ (by omega)
theorem next_ok {l : List Int} {p a : Int} (hl : l.length ≤ 500) (h0 : 0 ≤ p) (h1 : p ≤ l.length) (ha : 1 ≤ a) (hb : a ≤ 1000000) : ∃ r q, storagebartermake_Deck_Next.f l p a = some (r, q) ∧ 0 ≤ r ∧ r < a ∧ 0 ≤ q ∧ q ≤ l.length := by
  unfold storagebartermake_Deck_Next.f
  rw [if_neg (by omega)]
  by_cases hp : p ≥ (l.length : Int)
  · rw [if_pos hp]; exact ⟨_, _, rfl, by omega, by omega, h0, h1⟩
  · rw [if_neg hp, if_pos h0, if_pos (by omega)]
    obtain ⟨r, hr, h3, h4⟩ := mod_ok (x := rd l p) ha hb
    rw [hr]
    refine ⟨r, p + 1, ?_, h3, h4, by omega, by omega⟩
    simp only [Option.bind_some]
    rw [w64 (by omega) (by omega)]
theorem cutting_ok {l : List Int} {p : Int} (hl : l.length ≤ 500) (h0 : 0 ≤ p) (h1 : p ≤ l.length) : ∃ c0 c1 c2 c3 q, storagebartermake_Cutting.f l p = some (c0, c1, c2, c3, q) ∧ okC c0 c1 c2 c3 ∧ 0 ≤ q ∧ q ≤ l.length := by
  obtain ⟨r1, q1, e1, a1, b1, m1, n1⟩ := next_ok hl h0 h1 (a := 6) (by omega) (by omega)
  obtain ⟨r2, q2, e2, a2, b2, m2, n2⟩ := next_ok hl m1 n1 (a := 20) (by omega) (by omega)
  obtain ⟨r3, q3, e3, a3, b3, m3, n3⟩ := next_ok hl m2 n2 (a := 4 + r1) (by omega) (by omega)
  obtain ⟨r4, q4, e4, a4, b4, m4, n4⟩ := next_ok hl m3 n3 (a := 9) (by omega) (by omega)
  refine ⟨4 + r1, 4 + r1 + r2, 1 + r3, 1 + r4, q4, ?_, by unfold okC; omega, m4, n4⟩
  unfold storagebartermake_Cutting.f
  rw [e1]
  simp only [Option.bind_some]
  rw [e2]
  simp only [Option.bind_some]
  rw [w64 (n := 4 + r1) (by omega) (by omega), e3]
  simp only [Option.bind_some]
  rw [e4]
  simp only [Option.bind_some]
  rw [w64 (n := 4 + r1 + r2) (by omega) (by omega), w64 (n := 1 + r3) (by omega) (by omega), w64 (n := 1 + r4) (by omega) (by omega)]
theorem text_l0 {l : List Int} (hl : l.length ≤ 500) : ∀ (m k : Nat) (b : List Int) (p : Int), m < k → b.length + m ≤ 1000 → 0 ≤ p → p ≤ l.length → ∃ s q, storagebartermake_Text.l0 k b m l p = some (s, q) ∧ s.size ≤ b.length + m ∧ 0 ≤ q ∧ q ≤ l.length
  | 0, k + 1, b, p, hk, hb, h0, h1 => by
    refine ⟨_, _, by unfold storagebartermake_Text.l0; rw [if_neg (by omega)], ?_, h0, h1⟩
    rw [strOfNums_size]; omega
  | m + 1, k + 1, b, p, hk, hb, h0, h1 => by
    obtain ⟨r, q, e, a1, b1, m1, n1⟩ := next_ok hl h0 h1 (a := 5) (by omega) (by omega)
    unfold storagebartermake_Text.l0
    rw [if_pos (by omega), e]
    simp only [Option.bind_some]
    rw [if_pos (by omega), w64 (n := ((m + 1 : Nat) : Int) - 1) (by omega) (by omega), show ((m + 1 : Nat) : Int) - 1 = m by omega]
    obtain ⟨s, q', e', h2, h3, h4⟩ := text_l0 hl m k (b ++ [(wrap64 (r * 51)) % 256]) q (by omega) (by simp; omega) m1 n1
    exact ⟨s, q', e', by simp at h2; omega, h3, h4⟩
theorem text_ok {l : List Int} {p : Int} (hl : l.length ≤ 500) (h0 : 0 ≤ p) (h1 : p ≤ l.length) (n : Int) (hn : 0 ≤ n) (hn2 : n ≤ 900) (k : Nat) (hk : 1000 ≤ k) : ∃ s q, storagebartermake_Text.f k l p n = some (s, q) ∧ (s.size : Int) ≤ n ∧ 0 ≤ q ∧ q ≤ l.length := by
  obtain ⟨r, q, e, a1, b1, m1, n1⟩ := next_ok hl h0 h1 (a := n + 1) (by omega) (by omega)
  unfold storagebartermake_Text.f
  rw [w64 (n := n + 1) (by omega) (by omega), e]
  simp only [Option.bind_some]
  obtain ⟨s, q', e', h2, h3, h4⟩ := text_l0 hl r.toNat k [] q (by omega) (by simp; omega) m1 n1
  rw [Int.toNat_of_nonneg a1] at e'
  exact ⟨s, q', e', by simp at h2; omega, h3, h4⟩

/-! chunks are the text together -/
theorem str_bytes (s : ByteArray) : strOfNums (bytesOf s) = s := by
  apply ByteArray.ext
  apply Array.ext'
  rw [strOfNums_data, bytesOf, List.map_map]
  conv => rhs; rw [← List.map_id s.data.toList]
  apply List.map_congr_left
  intro b _
  simp
theorem bytes_append (a b : ByteArray) : bytesOf (a ++ b) = bytesOf a ++ bytesOf b := by
  simp [bytesOf, ByteArray.data_append]
def tot : List ByteArray → Int
  | [] => 0
  | x :: t => x.size + tot t
theorem tot_nonneg : ∀ l : List ByteArray, 0 ≤ tot l
  | [] => Int.le_refl _
  | x :: t => by have := tot_nonneg t; simp only [tot]; omega
theorem tot_append : ∀ l m : List ByteArray, tot (l ++ m) = tot l + tot m
  | [], m => by simp [tot]
  | x :: t, m => by simp only [tot, List.cons_append, tot_append t m]; omega
theorem cat_length : ∀ l : List ByteArray, ((l.flatMap bytesOf).length : Int) = tot l
  | [] => rfl
  | x :: t => by rw [List.flatMap_cons, List.length_append, bytesOf_length]; push_cast; rw [cat_length t]; rfl
theorem join_l1 (P : List ByteArray) (hP : P.length ≤ 1000000) : ∀ (t : List ByteArray) (b : List Int) (i : Int), 0 ≤ i → i ≤ P.length → P.drop i.toNat = t → b.length + tot t ≤ 1000000 → ∃ k, chunk_Join.l1 k b P P.length i = some (strOfNums (b ++ t.flatMap bytesOf), 0)
  | [], b, i, h0, hi, hd, hb => by
    have := drop_len h0 hi hd
    refine ⟨1, ?_⟩
    rw [chunk_Join.l1, if_neg (by simp at this; omega)]
    simp
  | x :: t, b, i, h0, hi, hd, hb => by
    have hl := drop_len h0 hi hd
    have hr := rdOf_at (d := ByteArray.empty) hd
    rw [List.length_cons] at hl
    push_cast at hl
    have ht := tot_nonneg t
    simp only [tot] at hb
    obtain ⟨k, hk⟩ := join_l1 P hP t (b ++ bytesOf x) (i + 1) (by omega) (by omega) (drop_next h0 hd) (by rw [List.length_append, bytesOf_length]; push_cast; omega)
    refine ⟨k + 1, ?_⟩
    rw [chunk_Join.l1, if_pos (by omega), if_pos h0, if_pos (by omega), hr, if_pos (by omega), w64 (n := i + 1) (by omega) (by omega), hk]
    simp
theorem join_l0 (P : List ByteArray) (hP : P.length ≤ 1000000) (hT : tot P ≤ 16384) : ∀ (t : List ByteArray) (x : Int) (i : Int), 0 ≤ i → i ≤ P.length → P.drop i.toNat = t → 0 ≤ x → x + tot t ≤ 16384 → ∃ k, chunk_Join.l0 k P x P P.length i = some (strOfNums (P.flatMap bytesOf), 0)
  | [], x, i, h0, hi, hd, hx, hb => by
    have := drop_len h0 hi hd
    obtain ⟨k, hk⟩ := join_l1 P hP P [] 0 (Int.le_refl _) (by omega) rfl (by simp; omega)
    refine ⟨k + 1, ?_⟩
    simp only [tot] at hb
    rw [chunk_Join.l0, if_neg (by simp at this; omega), if_pos hx, if_pos (by omega), hk]
    simp
  | y :: t, x, i, h0, hi, hd, hx, hb => by
    have hl := drop_len h0 hi hd
    have hr := rdOf_at (d := ByteArray.empty) hd
    rw [List.length_cons] at hl
    push_cast at hl
    have ht := tot_nonneg t
    simp only [tot] at hb
    obtain ⟨k, hk⟩ := join_l0 P hP hT t (x + y.size) (i + 1) (by omega) (by omega) (drop_next h0 hd) (by omega) (by omega)
    refine ⟨k + 1, ?_⟩
    rw [chunk_Join.l0, if_pos (by omega), if_pos h0, if_pos (by omega), hr, w64 (n := x + y.size) (by omega) (by omega), if_neg (by omega), w64 (n := i + 1) (by omega) (by omega), hk]
theorem join_ok (P : List ByteArray) (hP : P.length ≤ 1000000) (hT : tot P ≤ 16384) : ∃ k, chunk_Join.f k P = some (strOfNums (P.flatMap bytesOf), 0) :=
  join_l0 P hP hT P 0 0 (Int.le_refl _) (by omega) rfl (Int.le_refl _) (by omega)
theorem pieces_cat {s : ByteArray} {c0 c1 c2 c3 : Int} : ∀ {t : List Int} {fr : Int}, 0 ≤ fr → Path s c0 c1 c2 c3 fr t → (pieces s fr t).flatMap bytesOf = bytesOf (s.extract fr.toNat s.size)
  | [], fr, h0, h => by
    simp only [Path] at h
    rw [pieces, show s.extract fr.toNat s.size = ByteArray.empty from ?_]
    · rfl
    · rw [← ByteArray.size_eq_zero_iff, ByteArray.size_extract]; omega
  | e :: t, fr, h0, h => by
    have a := h.1.1
    have b := h.1.2.1
    rw [pieces, List.flatMap_cons, pieces_cat (by omega) h.2, ← bytes_append, ByteArray.extract_append_extract, Nat.min_eq_left (by omega), Nat.max_eq_right (by omega)]
theorem pieces_tot {s : ByteArray} {c0 c1 c2 c3 : Int} : ∀ {t : List Int} {fr : Int}, 0 ≤ fr → Path s c0 c1 c2 c3 fr t → tot (pieces s fr t) = s.size - fr
  | [], fr, h0, h => by simp only [Path] at h; simp only [pieces, tot]; omega
  | e :: t, fr, h0, h => by
    have a := h.1.1
    have b := h.1.2.1
    simp only [pieces, tot]
    rw [pieces_tot (by omega) h.2, ByteArray.size_extract]
    omega

theorem law_l0 (s : ByteArray) (c0 c1 c2 c3 : Int) (hs : s.size ≤ 1000) (c : okC c0 c1 c2 c3) (L : List Int) (P : List ByteArray) (hPL : P.length = L.length) (hL : L.length ≤ 256) : ∀ (t : List Int) (fr i : Int), 0 ≤ fr → 0 ≤ i → i ≤ L.length → L.drop i.toNat = t → P.drop i.toNat = pieces s fr t → Path s c0 c1 c2 c3 fr t → ∃ k, storagebarterlaw04_ChunkBack.l0 k P L fr P P.length i c0 c1 c2 c3 = some true
  | [], fr, i, hf, h0, hi, hd, hd2, hp => by
    have := drop_len h0 hi hd
    refine ⟨1, ?_⟩
    rw [storagebarterlaw04_ChunkBack.l0, if_neg (by simp at this; omega)]
  | e :: t, fr, i, hf, h0, hi, hd, hd2, hp => by
    have hl := drop_len h0 hi hd
    have hr := rd_at hd
    have hr2 := rdOf_at (d := ByteArray.empty) hd2
    rw [List.length_cons] at hl
    push_cast at hl
    have hfe := hp.1.1
    have hes := hp.1.2.1
    have hn := hp.1.near (by have := c.1; have := c.2.1; omega)
    have hfar := hp.1.far c.2.1
    have hx : ((s.extract fr.toNat e.toNat).size : Int) = e - fr := by rw [ByteArray.size_extract]; omega
    obtain ⟨k, hk⟩ := law_l0 s c0 c1 c2 c3 hs c L P hPL hL t e (i + 1) (by omega) (by omega) (by omega) (drop_next h0 hd) (drop_next h0 hd2) hp.2
    refine ⟨k + 1, ?_⟩
    rw [storagebarterlaw04_ChunkBack.l0, hr, hr2, hx, if_pos (by omega), if_pos h0, if_pos (by omega), if_neg (by omega), if_neg (by omega), w64 (n := i + 1) (by omega) (by omega), w64 (n := (P.length : Int) - 1) (by omega) (by omega), w64 (n := fr + (e - fr)) (by omega) (by omega), show fr + (e - fr) = e by omega, hk]
    by_cases q : i < (P.length : Int) - 1
    · have : e ≠ s.size := fun h => by rw [hp.2.end_ h] at hl; simp at hl; omega
      rw [if_pos q, if_neg (by omega), if_pos (by omega), if_pos rfl]
    · rw [if_neg q, if_pos (by omega), if_pos rfl]
theorem ChunkBack : storagebarterlaw04_ChunkBack.Pure := by
  intro l _ _ _
  by_cases hl : (l.length : Int) ≤ 500
  · have hl' : l.length ≤ 500 := by omega
    obtain ⟨c0, c1, c2, c3, q, ec, c, m1, n1⟩ := cutting_ok hl' (Int.le_refl 0) (by omega)
    obtain ⟨s, q', et, hs, m2, n2⟩ := text_ok hl' m1 n1 400 (by omega) (by omega) 1000 (by omega)
    obtain ⟨L, e1, p1, l1⟩ := ends_ok c (s := s) (by omega)
    obtain ⟨kj, hj⟩ := join_ok (pieces s 0 L) (by rw [pieces_length]; omega) (by rw [pieces_tot (Int.le_refl _) p1]; omega)
    rw [pieces_cat (Int.le_refl _) p1, show s.extract (0 : Int).toNat s.size = s by simp, str_bytes] at hj
    obtain ⟨k, hk⟩ := law_l0 s c0 c1 c2 c3 (by omega) c L (pieces s 0 L) (pieces_length ..) l1 L 0 0 (Int.le_refl _) (Int.le_refl _) (by omega) rfl rfl p1
    refine ⟨1000 + kj + k + 1, ?_⟩
    unfold storagebarterlaw04_ChunkBack.f
    rw [sane_ok _ (by omega)]
    simp only [Option.bind_some, if_true, storagebartermake_Few.f, storagebartermake_New.f]
    rw [decide_eq_true hl, if_pos rfl, ec]
    simp only [Option.bind_some]
    rw [at_rounds (storagebartermake_Text.mono _ _ _) (show 1000 ≤ 1000 + kj + k + 1 by omega) et]
    simp only [Option.bind_some]
    rw [cut_ok _ (by omega) e1 p1 l1, e1]
    simp only [Option.bind_some, if_true]
    rw [at_rounds (chunk_Join.mono _) (show kj ≤ 1000 + kj + k + 1 by omega) hj]
    simp only [Option.bind_some, if_true]
    rw [pieces_length, bne_self_eq_false, storagebarterlaw04_ChunkBack.j0, if_neg (by simp)]
    exact at_rounds (g := fun k => storagebarterlaw04_ChunkBack.l0 k (pieces s 0 L) L 0 (pieces s 0 L) (pieces s 0 L).length 0 c0 c1 c2 c3) (fun k => (storagebarterlaw04_ChunkBack.mono_l k).2 _ _ _ _ _ _ _ _ _ _) (show k ≤ 1000 + kj + k by omega) hk
  · refine ⟨1000, ?_⟩
    unfold storagebarterlaw04_ChunkBack.f
    rw [sane_ok _ (by omega)]
    simp only [Option.bind_some, if_true, storagebartermake_Few.f]
    rw [decide_eq_false hl, if_neg (by simp)]

end Go.Proofs.Ytepffabkcbfejaa.Pure
