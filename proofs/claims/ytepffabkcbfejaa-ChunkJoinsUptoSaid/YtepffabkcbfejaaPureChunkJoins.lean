/- The law ChunkJoins of chapter 4 answers true for every input: what its printed functions compute, in plain Lean. -/
import Derived.Test.YtepffabkcbfejaaPChunkJoinsx4
set_option linter.unusedVariables false
set_option linter.unusedSimpArgs false
set_option maxRecDepth 100000
namespace Go.Proofs.Ytepffabkcbfejaa.Pure
open Go.RowKit Go.Proofs.Ytepffabkcbfejaa.PChunkJoins Go.Proofs.YtepffabkcbfejaaW.PrintWords Go.Proofs.YtepffabkcbfejaaW.PrintMore Go.Proofs.YtepffabkcbfejaaW.PrintLast

theorem w64 {n : Int} (h0 : 0 ≤ n) (h1 : n < 9223372036854775808) : wrap64 n = n := by unfold wrap64; omega

/-! the ends: what is before them, and what comes -/
def endsR (s : ByteArray) (c0 c1 c2 c3 : Int) : Nat → Int → Int → List Int
  | 0, _, _ => []
  | n + 1, fr, i => if cutB s c0 c1 c2 c3 fr (i + 1) = true then (i + 1) :: endsR s c0 c1 c2 c3 n (i + 1) (i + 1) else endsR s c0 c1 c2 c3 n fr (i + 1)
theorem endsL_R (s : ByteArray) (c0 c1 c2 c3 : Int) : ∀ (n : Nat) (fr i : Int) (acc : List Int), endsL s c0 c1 c2 c3 n fr i acc = acc ++ endsR s c0 c1 c2 c3 n fr i
  | 0, _, _, acc => by simp [endsL, endsR]
  | n + 1, fr, i, acc => by
    simp only [endsL, endsR]
    split
    · rw [endsL_R s c0 c1 c2 c3 n]; simp
    · rw [endsL_R s c0 c1 c2 c3 n]
/-- the first place behind `fr` at which a chunk ends -/
def First (s : ByteArray) (c0 c1 c2 c3 fr e : Int) : Prop := fr < e ∧ e ≤ s.size ∧ cutB s c0 c1 c2 c3 fr e = true ∧ ∀ a, fr < a → a < e → cutB s c0 c1 c2 c3 fr a = false
def Path (s : ByteArray) (c0 c1 c2 c3 : Int) : Int → List Int → Prop
  | fr, [] => fr = s.size
  | fr, e :: t => First s c0 c1 c2 c3 fr e ∧ Path s c0 c1 c2 c3 e t
theorem cutB_size (s : ByteArray) (c0 c1 c2 c3 fr : Int) : cutB s c0 c1 c2 c3 fr s.size = true := by simp [cutB]
theorem path_R (s : ByteArray) (c0 c1 c2 c3 : Int) : ∀ (n : Nat) (fr i : Int), fr ≤ i → i + n = s.size → (∀ a, fr < a → a ≤ i → cutB s c0 c1 c2 c3 fr a = false) → Path s c0 c1 c2 c3 fr (endsR s c0 c1 c2 c3 n fr i)
  | 0, fr, i, h, e, no => by
    simp only [endsR, Path]
    rcases Int.lt_or_le fr i with h' | h'
    · have := no i h' (Int.le_refl _)
      have e2 : i = s.size := by simpa using e
      rw [e2, cutB_size] at this
      cases this
    · simp at e; omega
  | n + 1, fr, i, h, e, no => by
    simp only [endsR]
    split
    · rename_i hc
      refine ⟨⟨by omega, by omega, hc, fun a h1 h2 => no a h1 (by omega)⟩, ?_⟩
      exact path_R s c0 c1 c2 c3 n (i + 1) (i + 1) (Int.le_refl _) (by push_cast at e; omega) (fun a h1 h2 => by omega)
    · rename_i hc
      refine path_R s c0 c1 c2 c3 n fr (i + 1) (by omega) (by push_cast at e; omega) (fun a h1 h2 => ?_)
      rcases Int.lt_or_le a (i + 1) with h3 | h3
      · exact no a h1 (by omega)
      · have : a = i + 1 := by omega
        rw [this]
        simpa using hc
theorem path_L (s : ByteArray) (c0 c1 c2 c3 : Int) : Path s c0 c1 c2 c3 0 (endsL s c0 c1 c2 c3 s.size 0 0 []) := by
  rw [endsL_R]
  exact path_R s c0 c1 c2 c3 s.size 0 0 (Int.le_refl _) (by omega) (fun a h1 h2 => by omega)
theorem First.same {s : ByteArray} {c0 c1 c2 c3 fr e e' : Int} (h : First s c0 c1 c2 c3 fr e) (h' : First s c0 c1 c2 c3 fr e') : e = e' := by
  obtain ⟨a1, a2, a3, a4⟩ := h
  obtain ⟨b1, b2, b3, b4⟩ := h'
  rcases Int.lt_trichotomy e e' with h | h | h
  · rw [b4 e a1 h] at a3; cases a3
  · exact h
  · rw [a4 e' b1 h] at b3; cases b3
theorem Path.end_ {s : ByteArray} {c0 c1 c2 c3 fr : Int} {t : List Int} (h : Path s c0 c1 c2 c3 fr t) (he : fr = s.size) : t = [] := by
  cases t with
  | nil => rfl
  | cons e t => obtain ⟨⟨a1, a2, _⟩, _⟩ := h; omega
theorem Path.same {s : ByteArray} {c0 c1 c2 c3 : Int} : ∀ {t t' : List Int} {fr : Int}, Path s c0 c1 c2 c3 fr t → Path s c0 c1 c2 c3 fr t' → t = t'
  | [], t', fr, h, h' => (h'.end_ h).symm
  | e :: t, [], fr, h, h' => h.end_ h'
  | e :: t, e' :: t', fr, h, h' => by
    have he := h.1.same h'.1
    subst he
    rw [Path.same h.2 h'.2]
theorem First.far {s : ByteArray} {c0 c1 c2 c3 fr e : Int} (hc : c0 ≤ c1) (h : First s c0 c1 c2 c3 fr e) : e = s.size ∨ fr + c0 ≤ e := by
  obtain ⟨a1, a2, a3, a4⟩ := h
  unfold cutB at a3
  rw [Bool.or_eq_true, Bool.or_eq_true, Bool.and_eq_true, decide_eq_true_iff, beq_iff_eq, beq_iff_eq] at a3
  rcases a3 with (h | h) | ⟨h, _⟩ <;> omega
theorem First.near {s : ByteArray} {c0 c1 c2 c3 fr e : Int} (h : First s c0 c1 c2 c3 fr e) (h1 : 1 ≤ c1) : e ≤ fr + c1 := by
  obtain ⟨a1, a2, a3, a4⟩ := h
  rcases Int.lt_or_le (fr + c1) e with h | h
  · have := a4 (fr + c1) (by omega) h
    simp [cutB] at this
    omega
  · exact h
theorem Path.few {s : ByteArray} {c0 c1 c2 c3 : Int} (h4 : 4 ≤ c0) (hc : c0 ≤ c1) : ∀ {t : List Int} {fr : Int}, Path s c0 c1 c2 c3 fr t → (t.length : Int) * 4 ≤ s.size - fr + 3
  | [], fr, h => by simp only [Path] at h; simp; omega
  | e :: t, fr, h => by
    have ih := Path.few h4 hc h.2
    rcases h.1.far hc with he | he
    · rw [h.2.end_ he]; have := h.1.1; simp; omega
    · rw [List.length_cons]; push_cast; omega
theorem Path.le {s : ByteArray} {c0 c1 c2 c3 : Int} : ∀ {t : List Int} {fr : Int}, Path s c0 c1 c2 c3 fr t → fr ≤ s.size
  | [], fr, h => by simp only [Path] at h; omega
  | e :: t, fr, h => by obtain ⟨⟨a1, a2, _⟩, _⟩ := h; omega
/-- what is cut there -/
def pieces (s : ByteArray) : Int → List Int → List ByteArray
  | _, [] => []
  | fr, e :: t => s.extract fr.toNat e.toNat :: pieces s e t
theorem pieces_length (s : ByteArray) : ∀ (t : List Int) (fr : Int), (pieces s fr t).length = t.length
  | [], _ => rfl
  | e :: t, _ => by simp [pieces, pieces_length s t e]
theorem rd_at {l : List Int} {i : Int} {e : Int} {t : List Int} (h : l.drop i.toNat = e :: t) : rd l i = e := by
  have : (l.drop i.toNat)[0]? = some e := by rw [h]; rfl
  rw [List.getElem?_drop] at this
  simp [rd, List.getD_eq_getElem?_getD] at this ⊢
  rw [this]; rfl
theorem drop_next {α : Type} {l : List α} {i : Int} {e : α} {t : List α} (h0 : 0 ≤ i) (h : l.drop i.toNat = e :: t) : l.drop (i + 1).toNat = t := by
  have e1 : (i + 1).toNat = i.toNat + 1 := by omega
  rw [e1, ← List.drop_drop, h]; rfl
theorem drop_len {α : Type} {l : List α} {i : Int} {t : List α} (h0 : 0 ≤ i) (hi : i ≤ l.length) (h : l.drop i.toNat = t) : (l.length : Int) = i + t.length := by
  rw [← h, List.length_drop]; omega
theorem rdOf_at {α : Type} {d : α} {l : List α} {i : Int} {e : α} {t : List α} (h : l.drop i.toNat = e :: t) : rdOf d l i = e := by
  have : (l.drop i.toNat)[0]? = some e := by rw [h]; rfl
  rw [List.getElem?_drop] at this
  simp [rdOf, List.getD_eq_getElem?_getD] at this ⊢
  rw [this]; rfl
theorem cut_l0 (s : ByteArray) (c0 c1 c2 c3 : Int) (L : List Int) (hL : L.length ≤ 256) : ∀ (t : List Int) (k : Nat) (acc : List ByteArray) (fr i : Int), t.length < k → 0 ≤ fr → 0 ≤ i → i ≤ L.length → L.drop i.toNat = t → Path s c0 c1 c2 c3 fr t → acc.length ≤ i → chunk_Cut.l0 k s acc fr L L.length i = some (acc ++ pieces s fr t, 0)
  | [], k + 1, acc, fr, i, hk, hf, h0, hi, hd, hp, ha => by
    have := drop_len h0 hi hd
    unfold chunk_Cut.l0
    rw [if_neg (by simp at this; omega)]
    simp [pieces]
  | e :: t, k + 1, acc, fr, i, hk, hf, h0, hi, hd, hp, ha => by
    have hl := drop_len h0 hi hd
    have hr := rd_at hd
    rw [List.length_cons] at hl hk
    push_cast at hl
    have hfe := hp.1.1
    have hes := hp.1.2.1
    unfold chunk_Cut.l0
    rw [hr, if_pos (by omega), if_pos h0, if_pos (by omega), if_pos hf, if_pos (by omega), if_pos hes, if_pos (by omega), w64 (by omega) (by omega)]
    rw [cut_l0 s c0 c1 c2 c3 L hL t k _ e (i + 1) (by omega) (by omega) (by omega) (by omega) (drop_next h0 hd) hp.2 (by simp; omega)]
    simp [pieces]
def okC (c0 c1 c2 c3 : Int) : Prop := 4 ≤ c0 ∧ c0 ≤ c1 ∧ c1 ≤ 256 ∧ 1 ≤ c2 ∧ c2 ≤ c0 ∧ 1 ≤ c3 ∧ c3 ≤ 1024
theorem check_ok {c0 c1 c2 c3 : Int} (h : okC c0 c1 c2 c3) : chunk_Check.f c0 c1 c2 c3 = some 0 := by
  obtain ⟨a1, a2, a3, a4, a5, a6, a7⟩ := h
  unfold chunk_Check.f
  rw [if_neg (by omega), if_neg (by omega), if_neg (by omega), if_neg (by omega), if_neg (by omega), if_neg (by omega), if_neg (by omega)]
/-- the ends of a short text -/
theorem ends_ok {s : ByteArray} {c0 c1 c2 c3 : Int} (h : okC c0 c1 c2 c3) (hs : s.size ≤ 1000) : ∃ L, chunk_Ends.f s c0 c1 c2 c3 = some (L, 0) ∧ Path s c0 c1 c2 c3 0 L ∧ L.length ≤ 256 := by
  have hp := path_L s c0 c1 c2 c3
  have hf := hp.few h.1 h.2.1
  refine ⟨_, ?_, hp, by omega⟩
  unfold chunk_Ends.f
  rw [check_ok h]
  simp only [Option.bind_some, if_true]
  rw [if_neg (by omega), if_neg (by omega)]
theorem cut_ok {s : ByteArray} {c0 c1 c2 c3 : Int} {L : List Int} (k : Nat) (hk : 256 < k) (he : chunk_Ends.f s c0 c1 c2 c3 = some (L, 0)) (hp : Path s c0 c1 c2 c3 0 L) (hl : L.length ≤ 256) : chunk_Cut.f k s c0 c1 c2 c3 = some (pieces s 0 L, 0) := by
  unfold chunk_Cut.f
  rw [he]
  simp only [Option.bind_some, if_true]
  exact cut_l0 s c0 c1 c2 c3 L hl L k [] 0 0 (by omega) (Int.le_refl _) (Int.le_refl _) (by omega) rfl hp (by simp)
theorem sane_ok (k : Nat) (hk : 256 < k) : storagebarterlaw04_sane.f k = some true := by
  have h : storagebarterlaw04_sane.f 257 = some true := by kernel_rfl
  exact at_rounds storagebarterlaw04_sane.mono (by omega) h

/-! chunks are the text together -/
theorem str_bytes (s : ByteArray) : strOfNums (bytesOf s) = s := by
  apply ByteArray.ext
  apply Array.ext'
  rw [strOfNums_data, bytesOf, List.map_map]
  conv => rhs; rw [← List.map_id s.data.toList]
  apply List.map_congr_left
  intro b _
  simp
theorem bytes_append (a b : ByteArray) : bytesOf (a ++ b) = bytesOf a ++ bytesOf b := by
  simp [bytesOf, ByteArray.data_append]
def tot : List ByteArray → Int
  | [] => 0
  | x :: t => x.size + tot t
theorem tot_nonneg : ∀ l : List ByteArray, 0 ≤ tot l
  | [] => Int.le_refl _
  | x :: t => by have := tot_nonneg t; simp only [tot]; omega
theorem tot_append : ∀ l m : List ByteArray, tot (l ++ m) = tot l + tot m
  | [], m => by simp [tot]
  | x :: t, m => by simp only [tot, List.cons_append, tot_append t m]; omega
theorem cat_length : ∀ l : List ByteArray, ((l.flatMap bytesOf).length : Int) = tot l
  | [] => rfl
  | x :: t => by rw [List.flatMap_cons, List.length_append, bytesOf_length]; push_cast; rw [cat_length t]; rfl
theorem getD_at {α : Type} {d : α} {l : List α} {i : Int} {e : α} {t : List α} (h : l.drop i.toNat = e :: t) : l.getD i.toNat d = e := by
  have h2 := congrArg List.head? h
  rw [List.head?_drop] at h2
  rw [List.getD_eq_getElem?_getD, h2]
  rfl
theorem join_l1 (P : List ByteArray) (hP : P.length ≤ 1000000000000) : ∀ (t : List ByteArray) (b : List Int) (i : Int), 0 ≤ i → i ≤ P.length → P.drop i.toNat = t → b.length + tot t ≤ 1000000 → ∃ k, chunk_Join.l1 k b P P.length i = some (strOfNums (b ++ t.flatMap bytesOf), 0)
  | [], b, i, h0, hi, hd, hb => by
    have := drop_len h0 hi hd
    refine ⟨1, ?_⟩
    rw [chunk_Join.l1, if_neg (by simp at this; omega)]
    simp
  | x :: t, b, i, h0, hi, hd, hb => by
    have hl := drop_len h0 hi hd
    have hr := rdOf_at (d := ByteArray.empty) hd
    rw [List.length_cons] at hl
    push_cast at hl
    have ht := tot_nonneg t
    simp only [tot] at hb
    obtain ⟨k, hk⟩ := join_l1 P hP t (b ++ bytesOf x) (i + 1) (by omega) (by omega) (drop_next h0 hd) (by rw [List.length_append, bytesOf_length]; push_cast; omega)
    refine ⟨k + 1, ?_⟩
    rw [chunk_Join.l1, if_pos (by omega), if_pos h0, if_pos (by omega), hr, if_pos (by omega), w64 (n := i + 1) (by omega) (by omega), hk]
    simp
theorem join_l0 (P : List ByteArray) (hP : P.length ≤ 1000000000000) (hT : tot P ≤ 16384) : ∀ (t : List ByteArray) (x : Int) (i : Int), 0 ≤ i → i ≤ P.length → P.drop i.toNat = t → 0 ≤ x → x + tot t ≤ 16384 → ∃ k, chunk_Join.l0 k P x P P.length i = some (strOfNums (P.flatMap bytesOf), 0)
  | [], x, i, h0, hi, hd, hx, hb => by
    have := drop_len h0 hi hd
    obtain ⟨k, hk⟩ := join_l1 P hP P [] 0 (Int.le_refl _) (by omega) rfl (by simp; omega)
    refine ⟨k + 1, ?_⟩
    simp only [tot] at hb
    rw [chunk_Join.l0, if_neg (by simp at this; omega), if_pos hx, if_pos (by omega), hk]
    simp
  | y :: t, x, i, h0, hi, hd, hx, hb => by
    have hl := drop_len h0 hi hd
    have hr := rdOf_at (d := ByteArray.empty) hd
    rw [List.length_cons] at hl
    push_cast at hl
    have ht := tot_nonneg t
    simp only [tot] at hb
    obtain ⟨k, hk⟩ := join_l0 P hP hT t (x + y.size) (i + 1) (by omega) (by omega) (drop_next h0 hd) (by omega) (by omega)
    refine ⟨k + 1, ?_⟩
    rw [chunk_Join.l0, if_pos (by omega), if_pos h0, if_pos (by omega), hr, w64 (n := x + y.size) (by omega) (by omega), if_neg (by omega), w64 (n := i + 1) (by omega) (by omega), hk]
theorem join_ok (P : List ByteArray) (hP : P.length ≤ 1000000000000) (hT : tot P ≤ 16384) : ∃ k, chunk_Join.f k P = some (strOfNums (P.flatMap bytesOf), 0) :=
  join_l0 P hP hT P 0 0 (Int.le_refl _) (by omega) rfl (Int.le_refl _) (by omega)
theorem pieces_cat {s : ByteArray} {c0 c1 c2 c3 : Int} : ∀ {t : List Int} {fr : Int}, 0 ≤ fr → Path s c0 c1 c2 c3 fr t → (pieces s fr t).flatMap bytesOf = bytesOf (s.extract fr.toNat s.size)
  | [], fr, h0, h => by
    simp only [Path] at h
    rw [pieces, show s.extract fr.toNat s.size = ByteArray.empty from ?_]
    · rfl
    · rw [← ByteArray.size_eq_zero_iff, ByteArray.size_extract]; omega
  | e :: t, fr, h0, h => by
    have a := h.1.1
    have b := h.1.2.1
    rw [pieces, List.flatMap_cons, pieces_cat (by omega) h.2, ← bytes_append, ByteArray.extract_append_extract, Nat.min_eq_left (by omega), Nat.max_eq_right (by omega)]
theorem pieces_tot {s : ByteArray} {c0 c1 c2 c3 : Int} : ∀ {t : List Int} {fr : Int}, 0 ≤ fr → Path s c0 c1 c2 c3 fr t → tot (pieces s fr t) = s.size - fr
  | [], fr, h0, h => by simp only [Path] at h; simp only [pieces, tot]; omega
  | e :: t, fr, h0, h => by
    have a := h.1.1
    have b := h.1.2.1
    simp only [pieces, tot]
    rw [pieces_tot (by omega) h.2, ByteArray.size_extract]
    omega

/-! joined, or too long: both answer alike -/
theorem cjoin_over (P : List ByteArray) (hP : P.length ≤ 1000000000000) : ∀ (t : List ByteArray) (x : Int) (i : Int), 0 ≤ i → i ≤ P.length → P.drop i.toNat = t → 0 ≤ x → x ≤ 16384 → 16384 < x + tot t → x + tot t ≤ 10000000000000 → ∃ k, chunk_Join.l0 k P x P (P.length : Int) i = some ((⟨#[]⟩ : ByteArray), 4)
  | [], x, i, h0, hi, hd, hx, hx2, hb, hc => by simp only [tot] at hb; omega
  | y :: t, x, i, h0, hi, hd, hx, hx2, hb, hc => by
    have hl := drop_len h0 hi hd
    have hr := rdOf_at (d := ByteArray.empty) hd
    rw [List.length_cons] at hl
    push_cast at hl
    have ht := tot_nonneg t
    simp only [tot] at hb hc
    by_cases c : x + y.size > 16384
    · refine ⟨1, ?_⟩
      rw [chunk_Join.l0, if_pos (by omega), if_pos h0, if_pos (by omega), hr, w64 (n := x + y.size) (by omega) (by omega), if_pos c]
    · obtain ⟨k, hk⟩ := cjoin_over P hP t (x + y.size) (i + 1) (by omega) (by omega) (drop_next h0 hd) (by omega) (by omega) (by omega) (by omega)
      refine ⟨k + 1, ?_⟩
      rw [chunk_Join.l0, if_pos (by omega), if_pos h0, if_pos (by omega), hr, w64 (n := x + y.size) (by omega) (by omega), if_neg c, w64 (n := i + 1) (by omega) (by omega), hk]
def cat (b : ByteArray) : List ByteArray → ByteArray
  | [] => b
  | x :: t => cat (b ++ x) t
theorem cat_bytes : ∀ (t : List ByteArray) (b : ByteArray), bytesOf (cat b t) = bytesOf b ++ t.flatMap bytesOf
  | [], b => by simp [cat]
  | x :: t, b => by rw [cat, cat_bytes t, bytes_append, List.flatMap_cons, List.append_assoc]
theorem cat_nums (t : List ByteArray) : cat (⟨#[]⟩ : ByteArray) t = strOfNums (t.flatMap bytesOf) := by
  rw [← str_bytes (cat (⟨#[]⟩ : ByteArray) t), cat_bytes]
  rfl
theorem rjoin_l1 (P : List ByteArray) (hP : P.length ≤ 1000000000000) : ∀ (t : List ByteArray) (b : ByteArray) (i : Int), 0 ≤ i → i ≤ P.length → P.drop i.toNat = t → b.size + tot t ≤ 1000000000000 → ∃ k, storagebarterref04_Join.l1 k b P (P.length : Int) i = some (cat b t, 0)
  | [], b, i, h0, hi, hd, hb => by
    have := drop_len h0 hi hd
    refine ⟨1, ?_⟩
    rw [storagebarterref04_Join.l1, if_neg (by simp at this; omega)]
    rfl
  | x :: t, b, i, h0, hi, hd, hb => by
    have hl := drop_len h0 hi hd
    have hr := rdOf_at (d := ByteArray.empty) hd
    rw [List.length_cons] at hl
    push_cast at hl
    have ht := tot_nonneg t
    simp only [tot] at hb
    obtain ⟨k, hk⟩ := rjoin_l1 P hP t (b ++ x) (i + 1) (by omega) (by omega) (drop_next h0 hd) (by rw [ByteArray.size_append]; push_cast; omega)
    refine ⟨k + 1, ?_⟩
    rw [storagebarterref04_Join.l1, if_pos (by omega), if_pos h0, if_pos (by omega), hr, if_pos (by omega), w64 (n := i + 1) (by omega) (by omega), hk]
    rfl
theorem rjoin_l0 (P : List ByteArray) (hP : P.length ≤ 1000000000000) (hT : tot P ≤ 1000000000000) : ∀ (t : List ByteArray) (x : Int) (i : Int), 0 ≤ i → i ≤ P.length → P.drop i.toNat = t → 0 ≤ x → x + tot t = tot P → ∃ k, storagebarterref04_Join.l0 k P x P (P.length : Int) i = some (if tot P > 16384 then ((⟨#[]⟩ : ByteArray), 4) else (cat (⟨#[]⟩ : ByteArray) P, 0))
  | [], x, i, h0, hi, hd, hx, hb => by
    have := drop_len h0 hi hd
    simp only [tot] at hb
    obtain ⟨k, hk⟩ := rjoin_l1 P hP P (⟨#[]⟩ : ByteArray) 0 (Int.le_refl _) (by omega) rfl (by show ((0 : Nat) : Int) + tot P ≤ _; omega)
    refine ⟨k + 1, ?_⟩
    rw [storagebarterref04_Join.l0, if_neg (by simp at this; omega), hk]
    by_cases c : tot P > 16384
    · rw [if_pos (by omega), if_pos c]
    · rw [if_neg (by omega), if_neg c]
  | y :: t, x, i, h0, hi, hd, hx, hb => by
    have hl := drop_len h0 hi hd
    have hr := rdOf_at (d := ByteArray.empty) hd
    rw [List.length_cons] at hl
    push_cast at hl
    have ht := tot_nonneg t
    simp only [tot] at hb
    obtain ⟨k, hk⟩ := rjoin_l0 P hP hT t (x + y.size) (i + 1) (by omega) (by omega) (drop_next h0 hd) (by omega) (by omega)
    refine ⟨k + 1, ?_⟩
    rw [storagebarterref04_Join.l0, if_pos (by omega), if_pos h0, if_pos (by omega), hr, w64 (n := x + y.size) (by omega) (by omega), w64 (n := i + 1) (by omega) (by omega), hk]
theorem both_join (P : List ByteArray) (hP : P.length ≤ 1000000000000) (hT : tot P ≤ 1000000000000) : ∃ k r, chunk_Join.f k P = some r ∧ storagebarterref04_Join.f k P = some r := by
  obtain ⟨k2, h2⟩ := rjoin_l0 P hP hT P 0 0 (Int.le_refl _) (by omega) rfl (Int.le_refl _) (by omega)
  have h1 : ∃ k, chunk_Join.f k P = some (if tot P > 16384 then ((⟨#[]⟩ : ByteArray), 4) else (cat (⟨#[]⟩ : ByteArray) P, 0)) := by
    by_cases c : tot P > 16384
    · rw [if_pos c]
      exact cjoin_over P hP P 0 0 (Int.le_refl _) (by omega) rfl (Int.le_refl _) (by omega) (by omega) (by omega)
    · rw [if_neg c, cat_nums]
      exact join_ok P hP (by omega)
  obtain ⟨k1, h1⟩ := h1
  exact ⟨k1 + k2, _, at_rounds (chunk_Join.mono _) (show k1 ≤ k1 + k2 by omega) h1, at_rounds (storagebarterref04_Join.mono _) (show k2 ≤ k1 + k2 by omega) h2⟩
/-! the law -/
theorem cj_l2 (Y : List (List ByteArray)) (hY : Y.length ≤ 10) : ∀ (t : List (List ByteArray)) (i : Int), 0 ≤ i → i ≤ Y.length → Y.drop i.toNat = t → (∀ P ∈ t, P.length ≤ 1000000000000 ∧ tot P ≤ 1000000000000) → ∃ k, storagebarterlaw04_ChunkJoins.l2 k Y (Y.length : Int) i = some true
  | [], i, h0, hi, hd, hp => by
    have := drop_len h0 hi hd
    exact ⟨1, by rw [storagebarterlaw04_ChunkJoins.l2, if_neg (by simp at this; omega)]⟩
  | P :: t, i, h0, hi, hd, hp => by
    have hl := drop_len h0 hi hd
    rw [List.length_cons] at hl
    push_cast at hl
    have hr : rd_L5 Y i = P := getD_at hd
    obtain ⟨k1, r, e1, e2⟩ := both_join P (hp P (List.mem_cons_self ..)).1 (hp P (List.mem_cons_self ..)).2
    obtain ⟨k2, h2⟩ := cj_l2 Y hY t (i + 1) (by omega) (by omega) (drop_next h0 hd) (fun Q hq => hp Q (List.mem_cons_of_mem _ hq))
    refine ⟨k1 + k2 + 1, ?_⟩
    rw [storagebarterlaw04_ChunkJoins.l2, if_pos (by omega), if_pos h0, if_pos (by omega), hr, at_rounds (chunk_Join.mono _) (show k1 ≤ k1 + k2 by omega) e1, at_rounds (storagebarterref04_Join.mono _) (show k1 ≤ k1 + k2 by omega) e2]
    simp only [Option.bind_some, if_true]
    rw [w64 (n := i + 1) (by omega) (by omega)]
    exact at_rounds (fun k => (storagebarterlaw04_ChunkJoins.mono_l k).2.2 _ _ _) (show k2 ≤ k1 + k2 by omega) h2
theorem cj_l1 (L : List ByteArray) (hL : L.length ≤ 10000000) (hT : tot L ≤ 10000000) (a2 : Int) (N : Nat) (hN : N ≤ 100000) : ∀ (m : Nat) (x : List Int) (i : Int), x.length = N → 0 ≤ i → i + m = N → ∃ k, storagebarterlaw04_ChunkJoins.l1 k L a2 x (N : Int) i = some true
  | 0, x, i, hx, h0, hi => by
    obtain ⟨k, hk⟩ := cj_l2 [L, L ++ [strOfNums x]] (by simp) [L, L ++ [strOfNums x]] 0 (Int.le_refl _) (by simp) rfl (fun P hP => by
      simp only [List.mem_cons, List.not_mem_nil, or_false] at hP
      rcases hP with rfl | rfl
      · exact ⟨by omega, by omega⟩
      · have : ((strOfNums x).size : Int) = N := by rw [← hx]; show (((strOfNums x).data.size : Nat) : Int) = _; rw [← Array.length_toList, strOfNums_data]; simp
        exact ⟨by simp; omega, by rw [tot_append]; simp only [tot]; omega⟩)
    refine ⟨k + 1, ?_⟩
    rw [storagebarterlaw04_ChunkJoins.l1, if_neg (by omega), if_pos (by simp; omega)]
    simp only [Option.bind_some, List.nil_append]
    rw [if_pos (by simp; omega)]
    exact hk
  | m + 1, x, i, hx, h0, hi => by
    push_cast at hi
    obtain ⟨k, hk⟩ := cj_l1 L hL hT a2 N hN m (x.set i.toNat a2) (i + 1) (by simp [hx]) (by omega) (by omega)
    refine ⟨k + 1, ?_⟩
    rw [storagebarterlaw04_ChunkJoins.l1, if_pos (by omega), if_pos h0, if_pos (by omega), w64 (n := i + 1) (by omega) (by omega)]
    exact hk
theorem cj_l0 (L : List ByteArray) (hL : L.length ≤ 10000000) (hT : tot L ≤ 10000000) (a1 a2 : Int) (h1 : 0 ≤ a1) (h2 : a1 ≤ 255) : ∀ (t : List ByteArray) (x i : Int), 0 ≤ i → i ≤ L.length → L.drop i.toNat = t → 0 ≤ x → x + tot t = tot L → ∃ k, storagebarterlaw04_ChunkJoins.l0 k L a1 a2 x L (L.length : Int) i = some true
  | [], x, i, h0, hi, hd, hx, hb => by
    have := drop_len h0 hi hd
    simp only [tot] at hb
    by_cases c : x > 4000
    · exact ⟨1, by rw [storagebarterlaw04_ChunkJoins.l0, if_neg (by simp at this; omega), if_pos c]⟩
    · have m0 : 0 ≤ Int.tmod a1 3 := Int.tmod_nonneg _ h1
      have m1 : Int.tmod a1 3 < 3 := Int.tmod_lt_of_pos _ (by omega)
      obtain ⟨N, hN⟩ : ∃ N : Nat, (N : Int) = 16384 - x + Int.tmod a1 3 - 1 := ⟨(16384 - x + Int.tmod a1 3 - 1).toNat, by omega⟩
      obtain ⟨k, hk⟩ := cj_l1 L hL hT a2 N (by omega) N (List.replicate N 0) 0 (by simp) (Int.le_refl _) (by omega)
      refine ⟨k + 1, ?_⟩
      rw [storagebarterlaw04_ChunkJoins.l0, if_neg (by simp at this; omega), if_neg c, w64 (n := Int.tmod a1 3) m0 (by omega), w64 (n := 16384 - x) (by omega) (by omega), w64 (n := 16384 - x + Int.tmod a1 3) (by omega) (by omega), w64 (n := 16384 - x + Int.tmod a1 3 - 1) (by omega) (by omega), ← hN, if_pos (by omega), if_pos (by omega)]
      simp only [Option.bind_some, Int.toNat_natCast, List.length_replicate]
      exact hk
  | y :: t, x, i, h0, hi, hd, hx, hb => by
    have hl := drop_len h0 hi hd
    have hr := rdOf_at (d := ByteArray.empty) hd
    rw [List.length_cons] at hl
    push_cast at hl
    have ht := tot_nonneg t
    simp only [tot] at hb
    obtain ⟨k, hk⟩ := cj_l0 L hL hT a1 a2 h1 h2 t (x + y.size) (i + 1) (by omega) (by omega) (drop_next h0 hd) (by omega) (by omega)
    refine ⟨k + 1, ?_⟩
    rw [storagebarterlaw04_ChunkJoins.l0, if_pos (by omega), if_pos h0, if_pos (by omega), hr, w64 (n := x + y.size) (by omega) (by omega), w64 (n := i + 1) (by omega) (by omega), hk]
theorem ChunkJoins (L : List ByteArray) (a1 a2 : Int) (hL : L.length ≤ 10000000) (hT : tot L ≤ 10000000) (w1 : (Lit.int .u8 a1).wf = true) : ∃ k, storagebarterlaw04_ChunkJoins.f k L a1 a2 = some true := by
  have m0 : IntKind.u8.min = 0 := rfl
  have m1 : IntKind.u8.max = 255 := rfl
  simp [Lit.wf] at w1
  obtain ⟨k, hk⟩ := cj_l0 L hL hT a1 a2 (by omega) (by omega) L 0 0 (Int.le_refl _) (by omega) rfl (Int.le_refl _) (by omega)
  refine ⟨1000 + k, ?_⟩
  unfold storagebarterlaw04_ChunkJoins.f
  rw [sane_ok _ (by omega)]
  simp only [Option.bind_some, if_true]
  exact at_rounds (g := fun k => storagebarterlaw04_ChunkJoins.l0 k L a1 a2 0 L (L.length : Int) 0) (fun k => (storagebarterlaw04_ChunkJoins.mono_l k).1 _ _ _ _ _ _ _) (show k ≤ 1000 + k by omega) hk

end Go.Proofs.Ytepffabkcbfejaa.Pure
