/- The law ChunkFixed of chapter 4 answers true for every input: what its printed functions compute, in plain Lean. -/
import Derived.Test.YtepffabkcbfejaaPChunkFixedx3
set_option linter.unusedVariables false
set_option linter.unusedSimpArgs false
set_option maxRecDepth 100000
namespace Go.Proofs.Ytepffabkcbfejaa.Pure
open Go.RowKit Go.Proofs.Ytepffabkcbfejaa.PChunkFixed Go.Proofs.YtepffabkcbfejaaW.PrintWords Go.Proofs.YtepffabkcbfejaaW.PrintMore Go.Proofs.YtepffabkcbfejaaW.PrintLast

theorem w64 {n : Int} (h0 : 0 ≤ n) (h1 : n < 9223372036854775808) : wrap64 n = n := by unfold wrap64; omega

/-! the ends: what is before them, and what comes -/
def endsR (s : ByteArray) (c0 c1 c2 c3 : Int) : Nat → Int → Int → List Int
  | 0, _, _ => []
  | n + 1, fr, i => if cutB s c0 c1 c2 c3 fr (i + 1) = true then (i + 1) :: endsR s c0 c1 c2 c3 n (i + 1) (i + 1) else endsR s c0 c1 c2 c3 n fr (i + 1)
theorem endsL_R (s : ByteArray) (c0 c1 c2 c3 : Int) : ∀ (n : Nat) (fr i : Int) (acc : List Int), endsL s c0 c1 c2 c3 n fr i acc = acc ++ endsR s c0 c1 c2 c3 n fr i
  | 0, _, _, acc => by simp [endsL, endsR]
  | n + 1, fr, i, acc => by
    simp only [endsL, endsR]
    split
    · rw [endsL_R s c0 c1 c2 c3 n]; simp
    · rw [endsL_R s c0 c1 c2 c3 n]
/-- the first place behind `fr` at which a chunk ends -/
def First (s : ByteArray) (c0 c1 c2 c3 fr e : Int) : Prop := fr < e ∧ e ≤ s.size ∧ cutB s c0 c1 c2 c3 fr e = true ∧ ∀ a, fr < a → a < e → cutB s c0 c1 c2 c3 fr a = false
def Path (s : ByteArray) (c0 c1 c2 c3 : Int) : Int → List Int → Prop
  | fr, [] => fr = s.size
  | fr, e :: t => First s c0 c1 c2 c3 fr e ∧ Path s c0 c1 c2 c3 e t
theorem cutB_size (s : ByteArray) (c0 c1 c2 c3 fr : Int) : cutB s c0 c1 c2 c3 fr s.size = true := by simp [cutB]
theorem path_R (s : ByteArray) (c0 c1 c2 c3 : Int) : ∀ (n : Nat) (fr i : Int), fr ≤ i → i + n = s.size → (∀ a, fr < a → a ≤ i → cutB s c0 c1 c2 c3 fr a = false) → Path s c0 c1 c2 c3 fr (endsR s c0 c1 c2 c3 n fr i)
  | 0, fr, i, h, e, no => by
    simp only [endsR, Path]
    rcases Int.lt_or_le fr i with h' | h'
    · have := no i h' (Int.le_refl _)
      have e2 : i = s.size := by simpa using e
      rw [e2, cutB_size] at this
      cases this
    · simp at e; omega
  | n + 1, fr, i, h, e, no => by
    simp only [endsR]
    split
    · rename_i hc
      refine ⟨⟨by omega, by omega, hc, fun a h1 h2 => no a h1 (by omega)⟩, ?_⟩
      exact path_R s c0 c1 c2 c3 n (i + 1) (i + 1) (Int.le_refl _) (by push_cast at e; omega) (fun a h1 h2 => by omega)
    · rename_i hc
      refine path_R s c0 c1 c2 c3 n fr (i + 1) (by omega) (by push_cast at e; omega) (fun a h1 h2 => ?_)
      rcases Int.lt_or_le a (i + 1) with h3 | h3
      · exact no a h1 (by omega)
      · have : a = i + 1 := by omega
        rw [this]
        simpa using hc
theorem path_L (s : ByteArray) (c0 c1 c2 c3 : Int) : Path s c0 c1 c2 c3 0 (endsL s c0 c1 c2 c3 s.size 0 0 []) := by
  rw [endsL_R]
  exact path_R s c0 c1 c2 c3 s.size 0 0 (Int.le_refl _) (by omega) (fun a h1 h2 => by omega)
theorem First.same {s : ByteArray} {c0 c1 c2 c3 fr e e' : Int} (h : First s c0 c1 c2 c3 fr e) (h' : First s c0 c1 c2 c3 fr e') : e = e' := by
  obtain ⟨a1, a2, a3, a4⟩ := h
  obtain ⟨b1, b2, b3, b4⟩ := h'
  rcases Int.lt_trichotomy e e' with h | h | h
  · rw [b4 e a1 h] at a3; cases a3
  · exact h
  · rw [a4 e' b1 h] at b3; cases b3
theorem Path.end_ {s : ByteArray} {c0 c1 c2 c3 fr : Int} {t : List Int} (h : Path s c0 c1 c2 c3 fr t) (he : fr = s.size) : t = [] := by
  cases t with
  | nil => rfl
  | cons e t => obtain ⟨⟨a1, a2, _⟩, _⟩ := h; omega
theorem Path.same {s : ByteArray} {c0 c1 c2 c3 : Int} : ∀ {t t' : List Int} {fr : Int}, Path s c0 c1 c2 c3 fr t → Path s c0 c1 c2 c3 fr t' → t = t'
  | [], t', fr, h, h' => (h'.end_ h).symm
  | e :: t, [], fr, h, h' => h.end_ h'
  | e :: t, e' :: t', fr, h, h' => by
    have he := h.1.same h'.1
    subst he
    rw [Path.same h.2 h'.2]
theorem First.far {s : ByteArray} {c0 c1 c2 c3 fr e : Int} (hc : c0 ≤ c1) (h : First s c0 c1 c2 c3 fr e) : e = s.size ∨ fr + c0 ≤ e := by
  obtain ⟨a1, a2, a3, a4⟩ := h
  unfold cutB at a3
  rw [Bool.or_eq_true, Bool.or_eq_true, Bool.and_eq_true, decide_eq_true_iff, beq_iff_eq, beq_iff_eq] at a3
  rcases a3 with (h | h) | ⟨h, _⟩ <;> omega
theorem First.near {s : ByteArray} {c0 c1 c2 c3 fr e : Int} (h : First s c0 c1 c2 c3 fr e) (h1 : 1 ≤ c1) : e ≤ fr + c1 := by
  obtain ⟨a1, a2, a3, a4⟩ := h
  rcases Int.lt_or_le (fr + c1) e with h | h
  · have := a4 (fr + c1) (by omega) h
    simp [cutB] at this
    omega
  · exact h
theorem Path.few {s : ByteArray} {c0 c1 c2 c3 : Int} (h4 : 4 ≤ c0) (hc : c0 ≤ c1) : ∀ {t : List Int} {fr : Int}, Path s c0 c1 c2 c3 fr t → (t.length : Int) * 4 ≤ s.size - fr + 3
  | [], fr, h => by simp only [Path] at h; simp; omega
  | e :: t, fr, h => by
    have ih := Path.few h4 hc h.2
    rcases h.1.far hc with he | he
    · rw [h.2.end_ he]; have := h.1.1; simp; omega
    · rw [List.length_cons]; push_cast; omega
theorem Path.le {s : ByteArray} {c0 c1 c2 c3 : Int} : ∀ {t : List Int} {fr : Int}, Path s c0 c1 c2 c3 fr t → fr ≤ s.size
  | [], fr, h => by simp only [Path] at h; omega
  | e :: t, fr, h => by obtain ⟨⟨a1, a2, _⟩, _⟩ := h; omega
/-- what is cut there -/
def pieces (s : ByteArray) : Int → List Int → List ByteArray
  | _, [] => []
  | fr, e :: t => s.extract fr.toNat e.toNat :: pieces s e t
theorem pieces_length (s : ByteArray) : ∀ (t : List Int) (fr : Int), (pieces s fr t).length = t.length
  | [], _ => rfl
  | e :: t, _ => by simp [pieces, pieces_length s t e]
theorem rd_at {l : List Int} {i : Int} {e : Int} {t : List Int} (h : l.drop i.toNat = e :: t) : rd l i = e := by
  have : (l.drop i.toNat)[0]? = some e := by rw [h]; rfl
  rw [List.getElem?_drop] at this
  simp [rd, List.getD_eq_getElem?_getD] at this ⊢
  rw [this]; rfl
theorem drop_next {α : Type} {l : List α} {i : Int} {e : α} {t : List α} (h0 : 0 ≤ i) (h : l.drop i.toNat = e :: t) : l.drop (i + 1).toNat = t := by
  have e1 : (i + 1).toNat = i.toNat + 1 := by omega
  rw [e1, ← List.drop_drop, h]; rfl
theorem drop_len {α : Type} {l : List α} {i : Int} {t : List α} (h0 : 0 ≤ i) (hi : i ≤ l.length) (h : l.drop i.toNat = t) : (l.length : Int) = i + t.length := by
  rw [← h, List.length_drop]; omega
theorem rdOf_at {α : Type} {d : α} {l : List α} {i : Int} {e : α} {t : List α} (h : l.drop i.toNat = e :: t) : rdOf d l i = e := by
  have : (l.drop i.toNat)[0]? = some e := by rw [h]; rfl
  rw [List.getElem?_drop] at this
  simp [rdOf, List.getD_eq_getElem?_getD] at this ⊢
  rw [this]; rfl
theorem cut_l0 (s : ByteArray) (c0 c1 c2 c3 : Int) (L : List Int) (hL : L.length ≤ 256) : ∀ (t : List Int) (k : Nat) (acc : List ByteArray) (fr i : Int), t.length < k → 0 ≤ fr → 0 ≤ i → i ≤ L.length → L.drop i.toNat = t → Path s c0 c1 c2 c3 fr t → acc.length ≤ i → chunk_Cut.l0 k s acc fr L L.length i = some (acc ++ pieces s fr t, 0)
  | [], k + 1, acc, fr, i, hk, hf, h0, hi, hd, hp, ha => by
    have := drop_len h0 hi hd
    unfold chunk_Cut.l0
    rw [if_neg (by simp at this; omega)]
    simp [pieces]
  | e :: t, k + 1, acc, fr, i, hk, hf, h0, hi, hd, hp, ha => by
    have hl := drop_len h0 hi hd
    have hr := rd_at hd
    rw [List.length_cons] at hl hk
    push_cast at hl
    have hfe := hp.1.1
    have hes := hp.1.2.1
    unfold chunk_Cut.l0
    rw [hr, if_pos (by omega), if_pos h0, if_pos (by omega), if_pos hf, if_pos (by omega), if_pos hes, if_pos (by omega), w64 (by omega) (by omega)]
    rw [cut_l0 s c0 c1 c2 c3 L hL t k _ e (i + 1) (by omega) (by omega) (by omega) (by omega) (drop_next h0 hd) hp.2 (by simp; omega)]
    simp [pieces]
def okC (c0 c1 c2 c3 : Int) : Prop := 4 ≤ c0 ∧ c0 ≤ c1 ∧ c1 ≤ 256 ∧ 1 ≤ c2 ∧ c2 ≤ c0 ∧ 1 ≤ c3 ∧ c3 ≤ 1024
theorem check_ok {c0 c1 c2 c3 : Int} (h : okC c0 c1 c2 c3) : chunk_Check.f c0 c1 c2 c3 = some 0 := by
  obtain ⟨a1, a2, a3, a4, a5, a6, a7⟩ := h
  unfold chunk_Check.f
  rw [if_neg (by omega), if_neg (by omega), if_neg (by omega), if_neg (by omega), if_neg (by omega), if_neg (by omega), if_neg (by omega)]
/-- the ends of a short text -/
theorem ends_ok {s : ByteArray} {c0 c1 c2 c3 : Int} (h : okC c0 c1 c2 c3) (hs : s.size ≤ 1000) : ∃ L, chunk_Ends.f s c0 c1 c2 c3 = some (L, 0) ∧ Path s c0 c1 c2 c3 0 L ∧ L.length ≤ 256 := by
  have hp := path_L s c0 c1 c2 c3
  have hf := hp.few h.1 h.2.1
  refine ⟨_, ?_, hp, by omega⟩
  unfold chunk_Ends.f
  rw [check_ok h]
  simp only [Option.bind_some, if_true]
  rw [if_neg (by omega), if_neg (by omega)]
theorem cut_ok {s : ByteArray} {c0 c1 c2 c3 : Int} {L : List Int} (k : Nat) (hk : 256 < k) (he : chunk_Ends.f s c0 c1 c2 c3 = some (L, 0)) (hp : Path s c0 c1 c2 c3 0 L) (hl : L.length ≤ 256) : chunk_Cut.f k s c0 c1 c2 c3 = some (pieces s 0 L, 0) := by
  unfold chunk_Cut.f
  rw [he]
  simp only [Option.bind_some, if_true]
  exact cut_l0 s c0 c1 c2 c3 L hl L k [] 0 0 (by omega) (Int.le_refl _) (Int.le_refl _) (by omega) rfl hp (by simp)
theorem sane_ok (k : Nat) (hk : 256 < k) : storagebarterlaw04_sane.f k = some true := by
  have h : storagebarterlaw04_sane.f 257 = some true := by kernel_rfl
  exact at_rounds storagebarterlaw04_sane.mono (by omega) h

/-! ### with the modulus 1, and with equal lengths -/
theorem first_one {s : ByteArray} {n o fr e : Int} (hn : 1 ≤ n) (ho : 0 ≤ o) (h : First s n (n + o) 1 1 fr e) : (e = s.size ∨ e = fr + n) ∧ e ≤ fr + n := by
  have hf := h.far (by omega)
  obtain ⟨a1, a2, a3, a4⟩ := h
  rcases Int.lt_or_le (fr + n) e with h | h
  · have := a4 (fr + n) (by omega) h
    unfold cutB at this
    rw [Bool.or_eq_false_iff, Bool.and_eq_false_iff] at this
    rcases this.2 with h2 | h2
    · rw [decide_eq_false_iff_not] at h2; omega
    · rw [Int.tmod_one] at h2; cases h2
  · omega
theorem first_two {s : ByteArray} {n m fr e : Int} (hn : 1 ≤ n) (h : First s n n n m fr e) : (e = s.size ∨ e = fr + n) ∧ e ≤ fr + n := by
  have hf := h.far (by omega)
  have hm := h.near (by omega)
  omega
theorem fixed_same {s : ByteArray} {n o m : Int} (hn : 1 ≤ n) (ho : 0 ≤ o) : ∀ {t t' : List Int} {fr : Int}, Path s n (n + o) 1 1 fr t → Path s n n n m fr t' → t = t'
  | [], t', fr, h, h' => (h'.end_ h).symm
  | e :: t, [], fr, h, h' => h.end_ h'
  | e :: t, e' :: t', fr, h, h' => by
    have he : e = e' := by
      have a := first_one hn ho h.1
      have b := first_two hn h'.1
      have c := h.1.2.1
      have d := h'.1.2.1
      omega
    subst he
    rw [fixed_same hn ho h.2 h'.2]
theorem fixed_many {s : ByteArray} {n o : Int} (hn : 1 ≤ n) (ho : 0 ≤ o) : ∀ {t : List Int} {fr : Int}, Path s n (n + o) 1 1 fr t → (s.size : Int) - fr ≤ t.length * n ∧ t.length * n < s.size - fr + n
  | [], fr, h => by simp only [Path] at h; simp; omega
  | e :: t, fr, h => by
    have ih := fixed_many hn ho h.2
    have a := first_one hn ho h.1
    have b := h.1.1
    rw [List.length_cons]
    push_cast
    rw [Int.add_mul, Int.one_mul]
    rcases a.1 with h1 | h1
    · have := h.2.end_ h1
      subst this
      simp
      omega
    · omega
theorem fixed_count {s : ByteArray} {n o : Int} (hn : 1 ≤ n) (ho : 0 ≤ o) {t : List Int} (h : Path s n (n + o) 1 1 0 t) : (t.length : Int) = Int.tdiv (s.size + n - 1) n := by
  have := fixed_many hn ho h
  rw [Int.tdiv_eq_ediv_of_nonneg (by omega)]
  exact ((Int.ediv_emod_unique (r := s.size + n - 1 - n * t.length) (by omega)).mpr ⟨by omega, by rw [Int.mul_comm]; omega, by rw [Int.mul_comm]; omega⟩).1.symm
theorem same_l0 (l : List ByteArray) (hl : l.length ≤ 1000) : ∀ (t : List ByteArray) (k : Nat) (i : Int), t.length < k → 0 ≤ i → i ≤ l.length → l.drop i.toNat = t → storagebarterref04_Same.l0 k l l l.length i = some true
  | [], k + 1, i, hk, h0, hi, hd => by
    have := drop_len h0 hi hd
    unfold storagebarterref04_Same.l0
    rw [if_neg (by simp at this; omega)]
  | e :: t, k + 1, i, hk, h0, hi, hd => by
    have hl2 := drop_len h0 hi hd
    rw [List.length_cons] at hl2 hk
    push_cast at hl2
    unfold storagebarterref04_Same.l0
    rw [if_pos (by omega), if_pos h0, if_pos (by omega), if_pos (by omega), if_pos rfl, w64 (by omega) (by omega)]
    exact same_l0 l hl t k (i + 1) (by omega) (by omega) (by omega) (drop_next h0 hd)
theorem same_ok (l : List ByteArray) (hl : l.length ≤ 1000) (k : Nat) (hk : l.length < k) : storagebarterref04_Same.f k l l = some true := by
  unfold storagebarterref04_Same.f
  rw [if_pos rfl]
  exact same_l0 l hl l k 0 (by omega) (Int.le_refl _) (by omega) rfl
theorem law_l0 (s : ByteArray) (n o : Int) (hn : 1 ≤ n) (ho : 0 ≤ o) (P : List ByteArray) (hP : P.length ≤ 256) : ∀ (t : List Int) (k : Nat) (fr i : Int), t.length < k → 0 ≤ fr → 0 ≤ i → i ≤ P.length → P.drop i.toNat = pieces s fr t → Path s n (n + o) 1 1 fr t → storagebarterlaw04_ChunkFixed.l0 k n P P P.length i = some true
  | [], k + 1, fr, i, hk, hf, h0, hi, hd, hp => by
    have := drop_len h0 hi hd
    unfold storagebarterlaw04_ChunkFixed.l0
    rw [if_neg (by simp [pieces] at this; omega)]
  | e :: t, k + 1, fr, i, hk, hf, h0, hi, hd, hp => by
    have hl := drop_len h0 hi hd
    have hr := rdOf_at (d := ByteArray.empty) hd
    have hd' := drop_next h0 hd
    rw [pieces_length] at hl
    rw [List.length_cons] at hl hk
    push_cast at hl
    have hfe := hp.1.1
    have hes := hp.1.2.1
    have a := first_one hn ho hp.1
    have ih := law_l0 s n o hn ho P hP t k e (i + 1) (by omega) (by omega) (by omega) (by omega) hd' hp.2
    unfold storagebarterlaw04_ChunkFixed.l0
    rw [hr, if_pos (by omega), if_pos h0, if_pos (by omega), w64 (n := i + 1) (by omega) (by omega), ih, w64 (by omega) (by omega)]
    by_cases hlast : i < (P.length : Int) - 1
    · rw [if_pos hlast, if_pos]
      have : e ≠ s.size := fun h => by rw [hp.2.end_ h] at hl; simp at hl; omega
      rw [ByteArray.size_extract]
      omega
    · rw [if_neg hlast]
theorem ChunkFixed : storagebarterlaw04_ChunkFixed.Pure := by
  intro s a1 a2 a3 _ w1 w2 w3
  have w1 : (0 : Int) ≤ a1 ∧ a1 ≤ 255 := by simp [Lit.wf, IntKind.min, IntKind.max, IntKind.signed, IntKind.bits] at w1; omega
  have w2 : (0 : Int) ≤ a2 ∧ a2 ≤ 255 := by simp [Lit.wf, IntKind.min, IntKind.max, IntKind.signed, IntKind.bits] at w2; omega
  have w3 : (0 : Int) ≤ a3 ∧ a3 ≤ 255 := by simp [Lit.wf, IntKind.min, IntKind.max, IntKind.signed, IntKind.bits] at w3; omega
  refine ⟨1000, ?_⟩
  unfold storagebarterlaw04_ChunkFixed.f
  rw [sane_ok 1000 (by omega)]
  simp only [Option.bind_some, if_true]
  by_cases hs : (s.size : Int) > 800
  · rw [if_pos hs]
  rw [if_neg hs]
  have t1 : 0 ≤ a1.tmod 60 ∧ a1.tmod 60 < 60 := ⟨Int.tmod_nonneg 60 w1.1, Int.tmod_lt_of_pos a1 (by omega)⟩
  have t3 : 0 ≤ a3.tmod 60 ∧ a3.tmod 60 < 60 := ⟨Int.tmod_nonneg 60 w3.1, Int.tmod_lt_of_pos a3 (by omega)⟩
  rw [w64 t1.1 (by omega), w64 t3.1 (by omega), w64 w2.1 (by omega), w64 (n := 4 + a1.tmod 60) (by omega) (by omega)]
  obtain ⟨n, hn⟩ : ∃ n, 4 + a1.tmod 60 = n := ⟨_, rfl⟩
  obtain ⟨o, ho⟩ : ∃ o, a3.tmod 60 = o := ⟨_, rfl⟩
  rw [hn, ho, w64 (n := n + o) (by omega) (by omega), w64 (n := 1 + a2) (by omega) (by omega)]
  have C1 : okC n (n + o) 1 1 := by unfold okC; omega
  have C2 : okC n n n (1 + a2) := by unfold okC; omega
  obtain ⟨L, e1, p1, l1⟩ := ends_ok C1 (s := s) (by omega)
  obtain ⟨M, e2, p2, l2⟩ := ends_ok C2 (s := s) (by omega)
  have hLM := fixed_same (by omega) (by omega) p1 p2
  subst hLM
  rw [cut_ok 1000 (by omega) e1 p1 l1, cut_ok 1000 (by omega) e2 p2 l2]
  simp only [Option.bind_some, if_true]
  rw [same_ok _ (by rw [pieces_length]; omega) 1000 (by rw [pieces_length]; omega)]
  simp only [Option.bind_some, if_true]
  rw [if_neg (by omega)]
  have hc := fixed_count (by omega) (by omega) p1
  rw [w64 (n := s.size + n) (by omega) (by omega), w64 (n := s.size + n - 1) (by omega) (by omega), ← hc, w64 (by omega) (by omega), pieces_length]
  rw [bne_self_eq_false, show (1000 : Nat) = 999 + 1 from rfl, storagebarterlaw04_ChunkFixed.j0, if_neg (by simp), pieces_length]
  have := law_l0 s n o (by omega) (by omega) (pieces s 0 L) (by rw [pieces_length]; omega) L 999 0 0 (by omega) (Int.le_refl _) (Int.le_refl _) (by omega) rfl p1
  rw [pieces_length] at this
  exact this

end Go.Proofs.Ytepffabkcbfejaa.Pure
