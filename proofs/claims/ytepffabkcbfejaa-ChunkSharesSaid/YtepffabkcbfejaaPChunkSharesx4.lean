-- Written by a program of this repository (wip/tools/myprint.py over the print of the kit): contracts and rows.
import Derived.Test.YtepffabkcbfejaaPChunkSharesx0
import Derived.Test.YtepffabkcbfejaaPChunkSharesx2
import Derived.Test.YtepffabkcbfejaaPChunkSharesx3
namespace Go.Proofs.Ytepffabkcbfejaa.PChunkShares
open Go.RowKit Go.Proofs.YtepffabkcbfejaaW.PrintWords Go.Proofs.YtepffabkcbfejaaW.PrintLast Go.Proofs.YtepffabkcbfejaaW.PrintMore
attribute [local go_sem] max2_int min2_int max_two min_two max_three min_three max_four min_four   -- for this text's walks alone
set_option linter.unusedVariables false
set_option linter.unusedSimpArgs false

/-! ### storagebarterlaw04_ChunkShares: function 14 -/
mutual
def storagebarterlaw04_ChunkShares.j0 : Nat → ByteArray → ByteArray → List Int → List Int → Int → Bool → Option (Bool)
  | 0, _, _, _, _, _, _ => none
  | k + 1, x7, x8, x10, x12, x14, x72 => if x72 = true then (some false) else (storagebarterlaw04_ChunkShares.l0 k x7 x8 x10 x12 x14 0 x10 (x10.length : Int) 0)
def storagebarterlaw04_ChunkShares.l0 : Nat → ByteArray → ByteArray → List Int → List Int → Int → Int → List Int → Int → Int → Option (Bool)
  | 0, _, _, _, _, _, _, _, _, _ => none
  | k + 1, x7, x8, x10, x12, x14, x16, x73, x74, x75 => if x75 < x74 then (if 0 ≤ x75 then (if x75 < (x73.length : Int) then (storagebarterlaw04_ChunkShares.l1 k x7 x8 x10 x12 x14 x16 x75 (rd x73 x75) x73 x74 x75 x12 (x12.length : Int) 0) else (none)) else (none)) else (some (decide (x14 ≥ x16)))
def storagebarterlaw04_ChunkShares.l1 : Nat → ByteArray → ByteArray → List Int → List Int → Int → Int → Int → Int → List Int → Int → Int → List Int → Int → Int → Option (Bool)
  | 0, _, _, _, _, _, _, _, _, _, _, _, _, _, _ => none
  | k + 1, x7, x8, x10, x12, x14, x16, x17, x18, x73, x74, x75, x80, x81, x82 => if x82 < x81 then (if 0 ≤ x82 then (if x82 < (x80.length : Int) then (if x18 ≥ (x7.size : Int) then (if (rd x80 x82) ≥ (x8.size : Int) then (if (wrap64 (x18 - (x7.size : Int))) = (wrap64 ((rd x80 x82) - (x8.size : Int))) then (storagebarterlaw04_ChunkShares.l1 k x7 x8 x10 x12 x14 (mx x16 (wrap64 ((wrap64 ((x10.length : Int) - 1)) - x17))) x17 x18 x73 x74 x75 x80 x81 (wrap64 (x82 + 1))) else (storagebarterlaw04_ChunkShares.l1 k x7 x8 x10 x12 x14 x16 x17 x18 x73 x74 x75 x80 x81 (wrap64 (x82 + 1)))) else (storagebarterlaw04_ChunkShares.l1 k x7 x8 x10 x12 x14 x16 x17 x18 x73 x74 x75 x80 x81 (wrap64 (x82 + 1)))) else (storagebarterlaw04_ChunkShares.l1 k x7 x8 x10 x12 x14 x16 x17 x18 x73 x74 x75 x80 x81 (wrap64 (x82 + 1)))) else (none)) else (none)) else (storagebarterlaw04_ChunkShares.l0 k x7 x8 x10 x12 x14 x16 x73 x74 (wrap64 (x75 + 1)))
end
def storagebarterlaw04_ChunkShares.f (k : Nat) (l0 : List Int) (a1 : Int) : Option (Bool) := (storagebarterlaw04_sane.f k).bind fun t149 => (if t149 = true then ((storagebartermake_Few.f l0).bind fun t150 => (if t150 = true then ((storagebartermake_New.f l0).bind fun bt151 => ((storagebartermake_Cutting.f bt151.1 bt151.2).bind fun bt154 => ((storagebartermake_Text.f k bt151.1 bt154.2.2.2.2 100).bind fun bt160 => ((storagebartermake_Text.f k bt151.1 bt160.2 100).bind fun bt162 => ((storagebartermake_Text.f k bt151.1 bt162.2 100).bind fun bt164 => (if bt160.1.size + bt164.1.size ≤ 9223372036854775807 then ((chunk_Ends.f (bt160.1 ++ bt164.1) bt154.1 bt154.2.1 bt154.2.2.1 bt154.2.2.2.1).bind fun bt166 => (if bt162.1.size + bt164.1.size ≤ 9223372036854775807 then ((chunk_Ends.f (bt162.1 ++ bt164.1) bt154.1 bt154.2.1 bt154.2.2.1 bt154.2.2.2.1).bind fun bt170 => ((chunk_Common.f k (bt160.1 ++ bt164.1) (bt162.1 ++ bt164.1) bt154.1 bt154.2.1 bt154.2.2.1 bt154.2.2.2.1).bind fun bt174 => (if bt166.2 = 0 then (if bt170.2 = 0 then (storagebarterlaw04_ChunkShares.j0 k bt160.1 bt162.1 bt166.1 bt170.1 bt174.1 (bt174.2 != 0)) else (storagebarterlaw04_ChunkShares.j0 k bt160.1 bt162.1 bt166.1 bt170.1 bt174.1 true)) else (storagebarterlaw04_ChunkShares.j0 k bt160.1 bt162.1 bt166.1 bt170.1 bt174.1 true)))) else (none))) else (none))))))) else (some true))) else (some false))
theorem storagebarterlaw04_ChunkShares.mono_l : ∀ k, (∀ y0 y1 y2 y3 y4 y5, LeO (storagebarterlaw04_ChunkShares.j0 k y0 y1 y2 y3 y4 y5) (storagebarterlaw04_ChunkShares.j0 (k + 1) y0 y1 y2 y3 y4 y5)) ∧ (∀ y0 y1 y2 y3 y4 y5 y6 y7 y8, LeO (storagebarterlaw04_ChunkShares.l0 k y0 y1 y2 y3 y4 y5 y6 y7 y8) (storagebarterlaw04_ChunkShares.l0 (k + 1) y0 y1 y2 y3 y4 y5 y6 y7 y8)) ∧ (∀ y0 y1 y2 y3 y4 y5 y6 y7 y8 y9 y10 y11 y12 y13, LeO (storagebarterlaw04_ChunkShares.l1 k y0 y1 y2 y3 y4 y5 y6 y7 y8 y9 y10 y11 y12 y13) (storagebarterlaw04_ChunkShares.l1 (k + 1) y0 y1 y2 y3 y4 y5 y6 y7 y8 y9 y10 y11 y12 y13))
  | 0 => ⟨fun _ _ _ _ _ _ r h => by simp [storagebarterlaw04_ChunkShares.j0] at h, fun _ _ _ _ _ _ _ _ _ r h => by simp [storagebarterlaw04_ChunkShares.l0] at h, fun _ _ _ _ _ _ _ _ _ _ _ _ _ _ r h => by simp [storagebarterlaw04_ChunkShares.l1] at h⟩
  | k + 1 => by
    obtain ⟨ih0, ih1, ih2⟩ := storagebarterlaw04_ChunkShares.mono_l k
    refine ⟨?_, ?_, ?_⟩
    · intro y0 y1 y2 y3 y4 y5
      unfold storagebarterlaw04_ChunkShares.j0
      repeat' first
      | (with_reducible exact ih0 _ _ _ _ _ _)
      | (with_reducible exact ih1 _ _ _ _ _ _ _ _ _)
      | (with_reducible exact ih2 _ _ _ _ _ _ _ _ _ _ _ _ _ _)
      | (with_reducible exact chunk_Common.mono _ _ _ _ _ _ _)
      | (with_reducible exact storagebarterlaw04_sane.mono _)
      | (with_reducible exact storagebartermake_Text.mono _ _ _ _)
      | (with_reducible exact LeO.refl _)
      | (with_reducible exact LeO.none _)
      | (with_reducible refine LeO.ite ?_ ?_)
      | (with_reducible refine LeO.bind ?_ (fun _ => ?_))
      | exact ih0 _ _ _ _ _ _
      | exact ih1 _ _ _ _ _ _ _ _ _
      | exact ih2 _ _ _ _ _ _ _ _ _ _ _ _ _ _
      | exact chunk_Common.mono _ _ _ _ _ _ _
      | exact storagebarterlaw04_sane.mono _
      | exact storagebartermake_Text.mono _ _ _ _
      | exact LeO.none _
      | refine LeO.ite ?_ ?_
      | refine LeO.bind ?_ (fun _ => ?_)
    · intro y0 y1 y2 y3 y4 y5 y6 y7 y8
      unfold storagebarterlaw04_ChunkShares.l0
      repeat' first
      | (with_reducible exact ih0 _ _ _ _ _ _)
      | (with_reducible exact ih1 _ _ _ _ _ _ _ _ _)
      | (with_reducible exact ih2 _ _ _ _ _ _ _ _ _ _ _ _ _ _)
      | (with_reducible exact chunk_Common.mono _ _ _ _ _ _ _)
      | (with_reducible exact storagebarterlaw04_sane.mono _)
      | (with_reducible exact storagebartermake_Text.mono _ _ _ _)
      | (with_reducible exact LeO.refl _)
      | (with_reducible exact LeO.none _)
      | (with_reducible refine LeO.ite ?_ ?_)
      | (with_reducible refine LeO.bind ?_ (fun _ => ?_))
      | exact ih0 _ _ _ _ _ _
      | exact ih1 _ _ _ _ _ _ _ _ _
      | exact ih2 _ _ _ _ _ _ _ _ _ _ _ _ _ _
      | exact chunk_Common.mono _ _ _ _ _ _ _
      | exact storagebarterlaw04_sane.mono _
      | exact storagebartermake_Text.mono _ _ _ _
      | exact LeO.none _
      | refine LeO.ite ?_ ?_
      | refine LeO.bind ?_ (fun _ => ?_)
    · intro y0 y1 y2 y3 y4 y5 y6 y7 y8 y9 y10 y11 y12 y13
      unfold storagebarterlaw04_ChunkShares.l1
      repeat' first
      | (with_reducible exact ih0 _ _ _ _ _ _)
      | (with_reducible exact ih1 _ _ _ _ _ _ _ _ _)
      | (with_reducible exact ih2 _ _ _ _ _ _ _ _ _ _ _ _ _ _)
      | (with_reducible exact chunk_Common.mono _ _ _ _ _ _ _)
      | (with_reducible exact storagebarterlaw04_sane.mono _)
      | (with_reducible exact storagebartermake_Text.mono _ _ _ _)
      | (with_reducible exact LeO.refl _)
      | (with_reducible exact LeO.none _)
      | (with_reducible refine LeO.ite ?_ ?_)
      | (with_reducible refine LeO.bind ?_ (fun _ => ?_))
      | exact ih0 _ _ _ _ _ _
      | exact ih1 _ _ _ _ _ _ _ _ _
      | exact ih2 _ _ _ _ _ _ _ _ _ _ _ _ _ _
      | exact chunk_Common.mono _ _ _ _ _ _ _
      | exact storagebarterlaw04_sane.mono _
      | exact storagebartermake_Text.mono _ _ _ _
      | exact LeO.none _
      | refine LeO.ite ?_ ?_
      | refine LeO.bind ?_ (fun _ => ?_)
theorem storagebarterlaw04_ChunkShares.mono : ∀ a0 a1 k, LeO (storagebarterlaw04_ChunkShares.f k a0 a1) (storagebarterlaw04_ChunkShares.f (k + 1) a0 a1) := by
  intro a0 a1 k
  obtain ⟨ih0, ih1, ih2⟩ := storagebarterlaw04_ChunkShares.mono_l k
  unfold storagebarterlaw04_ChunkShares.f
  repeat' first
      | (with_reducible exact ih0 _ _ _ _ _ _)
      | (with_reducible exact ih1 _ _ _ _ _ _ _ _ _)
      | (with_reducible exact ih2 _ _ _ _ _ _ _ _ _ _ _ _ _ _)
      | (with_reducible exact chunk_Common.mono _ _ _ _ _ _ _)
      | (with_reducible exact storagebarterlaw04_sane.mono _)
      | (with_reducible exact storagebartermake_Text.mono _ _ _ _)
      | (with_reducible exact LeO.refl _)
      | (with_reducible exact LeO.none _)
      | (with_reducible refine LeO.ite ?_ ?_)
      | (with_reducible refine LeO.bind ?_ (fun _ => ?_))
      | exact ih0 _ _ _ _ _ _
      | exact ih1 _ _ _ _ _ _ _ _ _
      | exact ih2 _ _ _ _ _ _ _ _ _ _ _ _ _ _
      | exact chunk_Common.mono _ _ _ _ _ _ _
      | exact storagebarterlaw04_sane.mono _
      | exact storagebartermake_Text.mono _ _ _ _
      | exact LeO.none _
      | refine LeO.ite ?_ ?_
      | refine LeO.bind ?_ (fun _ => ?_)
set_option maxHeartbeats 8000000 in
set_option maxRecDepth 100000 in
theorem storagebarterlaw04_ChunkShares.calls (k : Nat) (A0 : Option Addr) (c0 : Nat) (l0 : List Int) (a1 : Int) (r : Bool) (w : World) (hr0 : Kd.C (Kd.int .i64) w A0 l0.length l0) (hc0 : l0.length ≤ c0) (h : storagebarterlaw04_ChunkShares.f k l0 a1 = some r) :
    Calls Try.prog 14 #[.slice A0 l0.length c0, .int .u8 a1] w fun e w' => e = .returned (.bool r) ∧ Below w.heap.size w w' := by
  have hu58 := Try.underlying58
  have HR0 := Aside0.mk hr0
  have HC0 := Aside0.mk hc0
  clear hr0 hc0
  have HB := Aside0.mk (Below.refl w.heap.size w)
  have H : ((storagebarterlaw04_sane.f k).bind fun t149 => (if t149 = true then ((storagebartermake_Few.f l0).bind fun t150 => (if t150 = true then ((storagebartermake_New.f l0).bind fun bt151 => ((storagebartermake_Cutting.f bt151.1 bt151.2).bind fun bt154 => ((storagebartermake_Text.f k bt151.1 bt154.2.2.2.2 100).bind fun bt160 => ((storagebartermake_Text.f k bt151.1 bt160.2 100).bind fun bt162 => ((storagebartermake_Text.f k bt151.1 bt162.2 100).bind fun bt164 => (if bt160.1.size + bt164.1.size ≤ 9223372036854775807 then ((chunk_Ends.f (bt160.1 ++ bt164.1) bt154.1 bt154.2.1 bt154.2.2.1 bt154.2.2.2.1).bind fun bt166 => (if bt162.1.size + bt164.1.size ≤ 9223372036854775807 then ((chunk_Ends.f (bt162.1 ++ bt164.1) bt154.1 bt154.2.1 bt154.2.2.1 bt154.2.2.2.1).bind fun bt170 => ((chunk_Common.f k (bt160.1 ++ bt164.1) (bt162.1 ++ bt164.1) bt154.1 bt154.2.1 bt154.2.2.1 bt154.2.2.2.1).bind fun bt174 => (if bt166.2 = 0 then (if bt170.2 = 0 then (storagebarterlaw04_ChunkShares.j0 k bt160.1 bt162.1 bt166.1 bt170.1 bt174.1 (bt174.2 != 0)) else (storagebarterlaw04_ChunkShares.j0 k bt160.1 bt162.1 bt166.1 bt170.1 bt174.1 true)) else (storagebarterlaw04_ChunkShares.j0 k bt160.1 bt162.1 bt166.1 bt170.1 bt174.1 true)))) else (none))) else (none))))))) else (some true))) else (some false))) = some r := h
  clear h
  replace H := Option.bind_eq_some_iff.mp H
  obtain ⟨t149, A30, H⟩ := H
  replace H : (if t149 = true then ((storagebartermake_Few.f l0).bind fun t150 => (if t150 = true then ((storagebartermake_New.f l0).bind fun bt151 => ((storagebartermake_Cutting.f bt151.1 bt151.2).bind fun bt154 => ((storagebartermake_Text.f k bt151.1 bt154.2.2.2.2 100).bind fun bt160 => ((storagebartermake_Text.f k bt151.1 bt160.2 100).bind fun bt162 => ((storagebartermake_Text.f k bt151.1 bt162.2 100).bind fun bt164 => (if bt160.1.size + bt164.1.size ≤ 9223372036854775807 then ((chunk_Ends.f (bt160.1 ++ bt164.1) bt154.1 bt154.2.1 bt154.2.2.1 bt154.2.2.2.1).bind fun bt166 => (if bt162.1.size + bt164.1.size ≤ 9223372036854775807 then ((chunk_Ends.f (bt162.1 ++ bt164.1) bt154.1 bt154.2.1 bt154.2.2.1 bt154.2.2.2.1).bind fun bt170 => ((chunk_Common.f k (bt160.1 ++ bt164.1) (bt162.1 ++ bt164.1) bt154.1 bt154.2.1 bt154.2.2.1 bt154.2.2.2.1).bind fun bt174 => (if bt166.2 = 0 then (if bt170.2 = 0 then (storagebarterlaw04_ChunkShares.j0 k bt160.1 bt162.1 bt166.1 bt170.1 bt174.1 (bt174.2 != 0)) else (storagebarterlaw04_ChunkShares.j0 k bt160.1 bt162.1 bt166.1 bt170.1 bt174.1 true)) else (storagebarterlaw04_ChunkShares.j0 k bt160.1 bt162.1 bt166.1 bt170.1 bt174.1 true)))) else (none))) else (none))))))) else (some true))) else (some false)) = some r := H
  have A3 := Aside0.mk A30
  clear A30
  by_cases c4 : t149 = true
  · subst c4
    have H1 : ((storagebartermake_Few.f l0).bind fun t150 => (if t150 = true then ((storagebartermake_New.f l0).bind fun bt151 => ((storagebartermake_Cutting.f bt151.1 bt151.2).bind fun bt154 => ((storagebartermake_Text.f k bt151.1 bt154.2.2.2.2 100).bind fun bt160 => ((storagebartermake_Text.f k bt151.1 bt160.2 100).bind fun bt162 => ((storagebartermake_Text.f k bt151.1 bt162.2 100).bind fun bt164 => (if bt160.1.size + bt164.1.size ≤ 9223372036854775807 then ((chunk_Ends.f (bt160.1 ++ bt164.1) bt154.1 bt154.2.1 bt154.2.2.1 bt154.2.2.2.1).bind fun bt166 => (if bt162.1.size + bt164.1.size ≤ 9223372036854775807 then ((chunk_Ends.f (bt162.1 ++ bt164.1) bt154.1 bt154.2.1 bt154.2.2.1 bt154.2.2.2.1).bind fun bt170 => ((chunk_Common.f k (bt160.1 ++ bt164.1) (bt162.1 ++ bt164.1) bt154.1 bt154.2.1 bt154.2.2.1 bt154.2.2.2.1).bind fun bt174 => (if bt166.2 = 0 then (if bt170.2 = 0 then (storagebarterlaw04_ChunkShares.j0 k bt160.1 bt162.1 bt166.1 bt170.1 bt174.1 (bt174.2 != 0)) else (storagebarterlaw04_ChunkShares.j0 k bt160.1 bt162.1 bt166.1 bt170.1 bt174.1 true)) else (storagebarterlaw04_ChunkShares.j0 k bt160.1 bt162.1 bt166.1 bt170.1 bt174.1 true)))) else (none))) else (none))))))) else (some true))) = some r := by rw [if_pos rfl] at H; exact H
    clear H
    have H := H1
    clear H1
    replace H := Option.bind_eq_some_iff.mp H
    obtain ⟨t150, A50, H⟩ := H
    replace H : (if t150 = true then ((storagebartermake_New.f l0).bind fun bt151 => ((storagebartermake_Cutting.f bt151.1 bt151.2).bind fun bt154 => ((storagebartermake_Text.f k bt151.1 bt154.2.2.2.2 100).bind fun bt160 => ((storagebartermake_Text.f k bt151.1 bt160.2 100).bind fun bt162 => ((storagebartermake_Text.f k bt151.1 bt162.2 100).bind fun bt164 => (if bt160.1.size + bt164.1.size ≤ 9223372036854775807 then ((chunk_Ends.f (bt160.1 ++ bt164.1) bt154.1 bt154.2.1 bt154.2.2.1 bt154.2.2.2.1).bind fun bt166 => (if bt162.1.size + bt164.1.size ≤ 9223372036854775807 then ((chunk_Ends.f (bt162.1 ++ bt164.1) bt154.1 bt154.2.1 bt154.2.2.1 bt154.2.2.2.1).bind fun bt170 => ((chunk_Common.f k (bt160.1 ++ bt164.1) (bt162.1 ++ bt164.1) bt154.1 bt154.2.1 bt154.2.2.1 bt154.2.2.2.1).bind fun bt174 => (if bt166.2 = 0 then (if bt170.2 = 0 then (storagebarterlaw04_ChunkShares.j0 k bt160.1 bt162.1 bt166.1 bt170.1 bt174.1 (bt174.2 != 0)) else (storagebarterlaw04_ChunkShares.j0 k bt160.1 bt162.1 bt166.1 bt170.1 bt174.1 true)) else (storagebarterlaw04_ChunkShares.j0 k bt160.1 bt162.1 bt166.1 bt170.1 bt174.1 true)))) else (none))) else (none))))))) else (some true)) = some r := H
    have A5 := Aside0.mk A50
    clear A50
    by_cases c6 : t150 = true
    · subst c6
      have H1 : ((storagebartermake_New.f l0).bind fun bt151 => ((storagebartermake_Cutting.f bt151.1 bt151.2).bind fun bt154 => ((storagebartermake_Text.f k bt151.1 bt154.2.2.2.2 100).bind fun bt160 => ((storagebartermake_Text.f k bt151.1 bt160.2 100).bind fun bt162 => ((storagebartermake_Text.f k bt151.1 bt162.2 100).bind fun bt164 => (if bt160.1.size + bt164.1.size ≤ 9223372036854775807 then ((chunk_Ends.f (bt160.1 ++ bt164.1) bt154.1 bt154.2.1 bt154.2.2.1 bt154.2.2.2.1).bind fun bt166 => (if bt162.1.size + bt164.1.size ≤ 9223372036854775807 then ((chunk_Ends.f (bt162.1 ++ bt164.1) bt154.1 bt154.2.1 bt154.2.2.1 bt154.2.2.2.1).bind fun bt170 => ((chunk_Common.f k (bt160.1 ++ bt164.1) (bt162.1 ++ bt164.1) bt154.1 bt154.2.1 bt154.2.2.1 bt154.2.2.2.1).bind fun bt174 => (if bt166.2 = 0 then (if bt170.2 = 0 then (storagebarterlaw04_ChunkShares.j0 k bt160.1 bt162.1 bt166.1 bt170.1 bt174.1 (bt174.2 != 0)) else (storagebarterlaw04_ChunkShares.j0 k bt160.1 bt162.1 bt166.1 bt170.1 bt174.1 true)) else (storagebarterlaw04_ChunkShares.j0 k bt160.1 bt162.1 bt166.1 bt170.1 bt174.1 true)))) else (none))) else (none))))))) = some r := by rw [if_pos rfl] at H; exact H
      clear H
      have H := H1
      clear H1
      replace H := Option.bind_eq_some_iff.mp H
      obtain ⟨⟨t151, t152⟩, A70, H⟩ := H
      replace H : ((storagebartermake_Cutting.f t151 t152).bind fun bt154 => ((storagebartermake_Text.f k t151 bt154.2.2.2.2 100).bind fun bt160 => ((storagebartermake_Text.f k t151 bt160.2 100).bind fun bt162 => ((storagebartermake_Text.f k t151 bt162.2 100).bind fun bt164 => (if bt160.1.size + bt164.1.size ≤ 9223372036854775807 then ((chunk_Ends.f (bt160.1 ++ bt164.1) bt154.1 bt154.2.1 bt154.2.2.1 bt154.2.2.2.1).bind fun bt166 => (if bt162.1.size + bt164.1.size ≤ 9223372036854775807 then ((chunk_Ends.f (bt162.1 ++ bt164.1) bt154.1 bt154.2.1 bt154.2.2.1 bt154.2.2.2.1).bind fun bt170 => ((chunk_Common.f k (bt160.1 ++ bt164.1) (bt162.1 ++ bt164.1) bt154.1 bt154.2.1 bt154.2.2.1 bt154.2.2.2.1).bind fun bt174 => (if bt166.2 = 0 then (if bt170.2 = 0 then (storagebarterlaw04_ChunkShares.j0 k bt160.1 bt162.1 bt166.1 bt170.1 bt174.1 (bt174.2 != 0)) else (storagebarterlaw04_ChunkShares.j0 k bt160.1 bt162.1 bt166.1 bt170.1 bt174.1 true)) else (storagebarterlaw04_ChunkShares.j0 k bt160.1 bt162.1 bt166.1 bt170.1 bt174.1 true)))) else (none))) else (none)))))) = some r := H
      have A7 := Aside0.mk A70
      clear A70
      replace H := Option.bind_eq_some_iff.mp H
      obtain ⟨⟨t154, t155, t156, t157, t158⟩, A80, H⟩ := H
      replace H : ((storagebartermake_Text.f k t151 t158 100).bind fun bt160 => ((storagebartermake_Text.f k t151 bt160.2 100).bind fun bt162 => ((storagebartermake_Text.f k t151 bt162.2 100).bind fun bt164 => (if bt160.1.size + bt164.1.size ≤ 9223372036854775807 then ((chunk_Ends.f (bt160.1 ++ bt164.1) t154 t155 t156 t157).bind fun bt166 => (if bt162.1.size + bt164.1.size ≤ 9223372036854775807 then ((chunk_Ends.f (bt162.1 ++ bt164.1) t154 t155 t156 t157).bind fun bt170 => ((chunk_Common.f k (bt160.1 ++ bt164.1) (bt162.1 ++ bt164.1) t154 t155 t156 t157).bind fun bt174 => (if bt166.2 = 0 then (if bt170.2 = 0 then (storagebarterlaw04_ChunkShares.j0 k bt160.1 bt162.1 bt166.1 bt170.1 bt174.1 (bt174.2 != 0)) else (storagebarterlaw04_ChunkShares.j0 k bt160.1 bt162.1 bt166.1 bt170.1 bt174.1 true)) else (storagebarterlaw04_ChunkShares.j0 k bt160.1 bt162.1 bt166.1 bt170.1 bt174.1 true)))) else (none))) else (none))))) = some r := H
      have A8 := Aside0.mk A80
      clear A80
      replace H := Option.bind_eq_some_iff.mp H
      obtain ⟨⟨t160, t161⟩, A90, H⟩ := H
      replace H : ((storagebartermake_Text.f k t151 t161 100).bind fun bt162 => ((storagebartermake_Text.f k t151 bt162.2 100).bind fun bt164 => (if t160.size + bt164.1.size ≤ 9223372036854775807 then ((chunk_Ends.f (t160 ++ bt164.1) t154 t155 t156 t157).bind fun bt166 => (if bt162.1.size + bt164.1.size ≤ 9223372036854775807 then ((chunk_Ends.f (bt162.1 ++ bt164.1) t154 t155 t156 t157).bind fun bt170 => ((chunk_Common.f k (t160 ++ bt164.1) (bt162.1 ++ bt164.1) t154 t155 t156 t157).bind fun bt174 => (if bt166.2 = 0 then (if bt170.2 = 0 then (storagebarterlaw04_ChunkShares.j0 k t160 bt162.1 bt166.1 bt170.1 bt174.1 (bt174.2 != 0)) else (storagebarterlaw04_ChunkShares.j0 k t160 bt162.1 bt166.1 bt170.1 bt174.1 true)) else (storagebarterlaw04_ChunkShares.j0 k t160 bt162.1 bt166.1 bt170.1 bt174.1 true)))) else (none))) else (none)))) = some r := H
      have A9 := Aside0.mk A90
      clear A90
      replace H := Option.bind_eq_some_iff.mp H
      obtain ⟨⟨t162, t163⟩, A100, H⟩ := H
      replace H : ((storagebartermake_Text.f k t151 t163 100).bind fun bt164 => (if t160.size + bt164.1.size ≤ 9223372036854775807 then ((chunk_Ends.f (t160 ++ bt164.1) t154 t155 t156 t157).bind fun bt166 => (if t162.size + bt164.1.size ≤ 9223372036854775807 then ((chunk_Ends.f (t162 ++ bt164.1) t154 t155 t156 t157).bind fun bt170 => ((chunk_Common.f k (t160 ++ bt164.1) (t162 ++ bt164.1) t154 t155 t156 t157).bind fun bt174 => (if bt166.2 = 0 then (if bt170.2 = 0 then (storagebarterlaw04_ChunkShares.j0 k t160 t162 bt166.1 bt170.1 bt174.1 (bt174.2 != 0)) else (storagebarterlaw04_ChunkShares.j0 k t160 t162 bt166.1 bt170.1 bt174.1 true)) else (storagebarterlaw04_ChunkShares.j0 k t160 t162 bt166.1 bt170.1 bt174.1 true)))) else (none))) else (none))) = some r := H
      have A10 := Aside0.mk A100
      clear A100
      replace H := Option.bind_eq_some_iff.mp H
      obtain ⟨⟨t164, t165⟩, A110, H⟩ := H
      replace H : (if t160.size + t164.size ≤ 9223372036854775807 then ((chunk_Ends.f (t160 ++ t164) t154 t155 t156 t157).bind fun bt166 => (if t162.size + t164.size ≤ 9223372036854775807 then ((chunk_Ends.f (t162 ++ t164) t154 t155 t156 t157).bind fun bt170 => ((chunk_Common.f k (t160 ++ t164) (t162 ++ t164) t154 t155 t156 t157).bind fun bt174 => (if bt166.2 = 0 then (if bt170.2 = 0 then (storagebarterlaw04_ChunkShares.j0 k t160 t162 bt166.1 bt170.1 bt174.1 (bt174.2 != 0)) else (storagebarterlaw04_ChunkShares.j0 k t160 t162 bt166.1 bt170.1 bt174.1 true)) else (storagebarterlaw04_ChunkShares.j0 k t160 t162 bt166.1 bt170.1 bt174.1 true)))) else (none))) else (none)) = some r := H
      have A11 := Aside0.mk A110
      clear A110
      by_cases c12 : t160.size + t164.size ≤ 9223372036854775807
      · rw [if_pos c12] at H
        have c12b0 := eq_true c12
        have c12b1 : decide (t160.size + t164.size ≤ 9223372036854775807) = true := decide_eq_true c12
        try have c12b2 : (9223372036854775807 < t160.size + t164.size) = False := eq_false (Nat.not_lt.2 c12)
        replace H := Option.bind_eq_some_iff.mp H
        obtain ⟨⟨t166, t169⟩, A130, H⟩ := H
        replace H : (if t162.size + t164.size ≤ 9223372036854775807 then ((chunk_Ends.f (t162 ++ t164) t154 t155 t156 t157).bind fun bt170 => ((chunk_Common.f k (t160 ++ t164) (t162 ++ t164) t154 t155 t156 t157).bind fun bt174 => (if t169 = 0 then (if bt170.2 = 0 then (storagebarterlaw04_ChunkShares.j0 k t160 t162 t166 bt170.1 bt174.1 (bt174.2 != 0)) else (storagebarterlaw04_ChunkShares.j0 k t160 t162 t166 bt170.1 bt174.1 true)) else (storagebarterlaw04_ChunkShares.j0 k t160 t162 t166 bt170.1 bt174.1 true)))) else (none)) = some r := H
        have A13 := Aside0.mk A130
        clear A130
        by_cases c14 : t162.size + t164.size ≤ 9223372036854775807
        · rw [if_pos c14] at H
          have c14b0 := eq_true c14
          have c14b1 : decide (t162.size + t164.size ≤ 9223372036854775807) = true := decide_eq_true c14
          try have c14b2 : (9223372036854775807 < t162.size + t164.size) = False := eq_false (Nat.not_lt.2 c14)
          replace H := Option.bind_eq_some_iff.mp H
          obtain ⟨⟨t170, t173⟩, A150, H⟩ := H
          replace H : ((chunk_Common.f k (t160 ++ t164) (t162 ++ t164) t154 t155 t156 t157).bind fun bt174 => (if t169 = 0 then (if t173 = 0 then (storagebarterlaw04_ChunkShares.j0 k t160 t162 t166 t170 bt174.1 (bt174.2 != 0)) else (storagebarterlaw04_ChunkShares.j0 k t160 t162 t166 t170 bt174.1 true)) else (storagebarterlaw04_ChunkShares.j0 k t160 t162 t166 t170 bt174.1 true))) = some r := H
          have A15 := Aside0.mk A150
          clear A150
          replace H := Option.bind_eq_some_iff.mp H
          obtain ⟨⟨t174, t175⟩, A160, H⟩ := H
          replace H : (if t169 = 0 then (if t173 = 0 then (storagebarterlaw04_ChunkShares.j0 k t160 t162 t166 t170 t174 (t175 != 0)) else (storagebarterlaw04_ChunkShares.j0 k t160 t162 t166 t170 t174 true)) else (storagebarterlaw04_ChunkShares.j0 k t160 t162 t166 t170 t174 true)) = some r := H
          have A16 := Aside0.mk A160
          clear A160
          have HC17 := Aside0.mk H
          clear H
          go_enter Try.func14, Try.ntmps14
          go_upto_region 11 with (first | ((with_reducible refine gate_callee (f := 35) rfl ?_); refine goesL_ (some 21) rfl rfl Try.func35 (by kernel_rfl) rfl #[] rfl (by (try simp only [List.map_toArray, List.map_cons, List.map_nil]); first | done | rfl | (simp only [List.length_drop, List.length_take]; rfl)) ?_; (with_reducible refine (storagebarterlaw04_sane.calls k  true _ A3.out).mono ?_); rintro e w18 ⟨rfl, hb⟩; refine ⟨_, rfl, ?_⟩; have n0_ := Aside0.mk (below_step (by repeat (first | (with_reducible first | exact HB.out | apply below_alloc | apply pw_below_drewN | apply below_drew1) | exact HB.out)) hb); clear HB; have HB := n0_; clear n0_; (try clear hb); (try clear hb2); (try clear hk); (try clear hi)) | ((with_reducible refine gate_callee (f := 36) rfl ?_); refine goesL_ (some 24) rfl rfl Try.func36 (by kernel_rfl) rfl #[.slice A0 l0.length c0] rfl (by (try simp only [List.map_toArray, List.map_cons, List.map_nil]); first | done | rfl | (simp only [List.length_drop, List.length_take]; rfl)) ?_; (with_reducible refine (storagebartermake_Few.calls _ _ l0 true _ ?side1 ?side2 A5.out).mono ?_); (case side1 => repeat (first | exact (Kd.C_below HR0.out HB.out) | (with_reducible refine Kd.C_alloc ?_ _) | (with_reducible refine Kd.C_drewN ?_ _) | (with_reducible refine Kd.C_drew ?_))); (case side2 => exact HC0.out); rintro e w' ⟨rfl, ⟨nd, rfl⟩⟩; refine ⟨_, rfl, ?_⟩; (try (rw [drewN_self w18]; generalize hq_ : World.drewN w18 _ = w18; have n0_ : Aside0 (Below w.heap.size w w18) := ⟨by rw [← hq_]; exact (by repeat (first | (with_reducible first | exact HB.out | apply below_alloc | apply pw_below_drewN | apply below_drew1) | exact HB.out))⟩; clear HB hq_; have HB := n0_; clear n0_))) | ((with_reducible refine gate_callee (f := 37) rfl ?_); refine goesL_ (some 27) rfl rfl Try.func37 (by kernel_rfl) rfl #[.slice A0 l0.length c0] rfl (by (try simp only [List.map_toArray, List.map_cons, List.map_nil]); first | done | rfl | (simp only [List.length_drop, List.length_take]; rfl)) ?_; (with_reducible refine (storagebartermake_New.calls _ _ l0 t151 t152 w _ ?side1 ?side2 ?side3 A7.out).mono ?_); (case side1 => repeat (first | (with_reducible first | exact HB.out | apply below_alloc | apply pw_below_drewN | apply below_drew1) | exact HB.out)); (case side2 => exact HR0.out); (case side3 => exact HC0.out); rintro e w19 ⟨g153, rfl, hi, hb, hb2⟩; refine ⟨_, rfl, ?_⟩; have n0_ := Aside0.mk (hb); have n1_ := Aside0.mk (hi); clear HB; have HB := n0_; have HI153 := n1_; clear n0_ n1_; (try clear hb); (try clear hb2); (try clear hk); (try clear hi)) | ((with_reducible refine gate_callee (f := 38) rfl ?_); refine goesL_ (some 29) rfl rfl Try.func38 (by kernel_rfl) rfl #[.pointer (some ⟨g153, 0, none⟩)] rfl (by (try simp only [List.map_toArray, List.map_cons, List.map_nil]); first | done | rfl | (simp only [List.length_drop, List.length_take]; rfl)) ?_; (with_reducible refine (storagebartermake_Cutting.calls g153 t151 t152 t154 t155 t156 t157 t158 w _ ?side1 ?side2 A8.out).mono ?_); (case side1 => repeat (first | (with_reducible first | exact HI153.out | apply IsS92.alloc | apply IsS92.drewN | apply IsS92.drew | apply IsS92.set_1) | exact HI153.out)); (case side2 => repeat (first | (with_reducible first | exact HB.out | apply below_alloc | apply pw_below_drewN | apply below_drew1 | refine below_set ?_ (IsS92.ge HI153.out)) | exact HB.out)); rintro e w20 ⟨rfl, hi, hb, hk⟩; refine ⟨_, rfl, ?_⟩; have n0_ := Aside0.mk (hb); have n1_ := Aside0.mk (hi); clear HB; clear HI153; have HB := n0_; have HI153 := n1_; clear n0_ n1_; (try clear hb); (try clear hb2); (try clear hk); (try clear hi)) | ((with_reducible refine gate_dst (N := 6) rfl ?_); (try (refine gate_guard (by rfl) ?_; dsimp only)); refine box_event ?hg (N := 6) ?hd (cs := #[.int .i64 0, .int .i64 0, .int .i64 0, .int .i64 0]) (t := 58) ?hr ?_; (case hd => rfl); (case hg => rfl); (case hr => first | (go_simp; done) | (go_simp; rfl)); intro gb159 hg w21 hbox hb; have n0_ := Aside0.mk (IsS92.below (by repeat (first | (with_reducible first | exact HI153.out | apply IsS92.alloc | apply IsS92.drewN | apply IsS92.drew | apply IsS92.set_1) | exact HI153.out)) hb); have n1_ := Aside0.mk (below_step (by repeat (first | (with_reducible first | exact HB.out | apply below_alloc | apply pw_below_drewN | apply below_drew1 | refine below_set ?_ (IsS92.ge HI153.out)) | exact HB.out)) hb); have n2_ := Aside0.mk (hbox); have n3_ := Aside0.mk ((by rw [hg]; exact (below_size (by repeat (first | (with_reducible first | exact HB.out | apply below_alloc | apply pw_below_drewN | apply below_drew1 | refine below_set ?_ (IsS92.ge HI153.out)) | exact HB.out))) : w.heap.size ≤ gb159)); have n4_ := Aside0.mk ((by rw [hg]; exact (below_size (by repeat (first | (with_reducible first | exact HB.out | apply below_alloc | apply pw_below_drewN | apply below_drew1 | refine below_set ?_ (IsS92.ge HI153.out)) | exact HB.out))) : w.heap.size ≤ gb159)); have n5_ := Aside0.mk ((by rw [hg]; exact Nat.ne_of_lt (IsS92.lt (show IsS92 w _ g153 t151 t158 from by repeat (first | (with_reducible first | exact HI153.out | apply IsS92.alloc | apply IsS92.drewN | apply IsS92.drew | apply IsS92.set_1) | exact HI153.out))) : g153 ≠ gb159)); have n6_ := Aside0.mk ((by rw [hg]; exact Nat.ne_of_gt (IsS92.lt (show IsS92 w _ g153 t151 t158 from by repeat (first | (with_reducible first | exact HI153.out | apply IsS92.alloc | apply IsS92.drewN | apply IsS92.drew | apply IsS92.set_1) | exact HI153.out))) : gb159 ≠ g153)); clear HI153; clear HB; have HI153 := n0_; have HB := n1_; have BK159 := n2_; have GW159 := n3_; have GE159 := n4_; have NB153_159 := n5_; have NB159_153 := n6_; clear n0_ n1_ n2_ n3_ n4_ n5_ n6_; clear hb hbox hg; have hnb22 := NB159_153.out; have hnc22 := NB153_159.out; have hcz23_0 : w21.cell? ⟨gb159, 0, none⟩ = some (.int .i64 0) := (blk_cell BK159.out 0).trans rfl; have hcz23_1 : w21.cell? ⟨gb159, 1, none⟩ = some (.int .i64 0) := (blk_cell BK159.out 1).trans rfl; have hcz23_2 : w21.cell? ⟨gb159, 2, none⟩ = some (.int .i64 0) := (blk_cell BK159.out 2).trans rfl; have hcz23_3 : w21.cell? ⟨gb159, 3, none⟩ = some (.int .i64 0) := (blk_cell BK159.out 3).trans rfl; have hfz23_0 := blk_frozen BK159.out 0; have hfz23_1 := blk_frozen BK159.out 1; have hfz23_2 := blk_frozen BK159.out 2; have hfz23_3 := blk_frozen BK159.out 3) | ((with_reducible refine gate_callee (f := 40) rfl ?_); refine goesL_ (some 31) rfl rfl Try.func40 (by kernel_rfl) rfl #[.pointer (some ⟨g153, 0, none⟩), .int .i64 100] rfl (by (try simp only [List.map_toArray, List.map_cons, List.map_nil]); first | done | rfl | (simp only [List.length_drop, List.length_take]; rfl)) ?_; (with_reducible refine (storagebartermake_Text.calls k g153 t151 t158 100 t160 t161 w _ ?side1 ?side2 A9.out).mono ?_); (case side1 => repeat (first | (with_reducible first | exact HI153.out | apply IsS92.alloc | apply IsS92.drewN | apply IsS92.drew | apply IsS92.set_1 | refine IsS92.far ?_ NB153_159.out _) | exact HI153.out)); (case side2 => repeat (first | (with_reducible first | exact HB.out | apply below_alloc | apply pw_below_drewN | apply below_drew1 | refine below_set ?_ (IsS92.ge HI153.out) | refine below_set ?_ GE159.out) | exact HB.out)); rintro e w24 ⟨rfl, hi, hb, hk⟩; refine ⟨_, rfl, ?_⟩; have n0_ := Aside0.mk (KeepBut.blk hk (g' := gb159) (o := .cells #[.int .i64 t154, .int .i64 t155, .int .i64 t156, .int .i64 t157] 58 (0, 0)) (by (with_reducible repeat (first | refine blk_drewN ?_ _ | refine blk_drew ?_ | refine blk_alloc ?_ _)); refine blk_put (cs := #[.int .i64 t154, .int .i64 t155, .int .i64 t156, .int .i64 0]) ?_ 3 _ rfl; (with_reducible repeat (first | refine blk_drewN ?_ _ | refine blk_drew ?_ | refine blk_alloc ?_ _)); refine blk_put (cs := #[.int .i64 t154, .int .i64 t155, .int .i64 0, .int .i64 0]) ?_ 2 _ rfl; (with_reducible repeat (first | refine blk_drewN ?_ _ | refine blk_drew ?_ | refine blk_alloc ?_ _)); refine blk_put (cs := #[.int .i64 t154, .int .i64 0, .int .i64 0, .int .i64 0]) ?_ 1 _ rfl; (with_reducible repeat (first | refine blk_drewN ?_ _ | refine blk_drew ?_ | refine blk_alloc ?_ _)); refine blk_put (cs := #[.int .i64 0, .int .i64 0, .int .i64 0, .int .i64 0]) ?_ 0 _ rfl; (with_reducible repeat (first | refine blk_drewN ?_ _ | refine blk_drew ?_ | refine blk_alloc ?_ _)); exact BK159.out) NB159_153.out (by simp)); have n1_ := Aside0.mk (hb); have n2_ := Aside0.mk (hi); clear BK159; clear HB; clear HI153; have BK159 := n0_; have HB := n1_; have HI153 := n2_; clear n0_ n1_ n2_; (try clear hb); (try clear hb2); (try clear hk); (try clear hi)) | ((with_reducible refine gate_callee (f := 40) rfl ?_); refine goesL_ (some 33) rfl rfl Try.func40 (by kernel_rfl) rfl #[.pointer (some ⟨g153, 0, none⟩), .int .i64 100] rfl (by (try simp only [List.map_toArray, List.map_cons, List.map_nil]); first | done | rfl | (simp only [List.length_drop, List.length_take]; rfl)) ?_; (with_reducible refine (storagebartermake_Text.calls k g153 t151 t161 100 t162 t163 w _ ?side1 ?side2 A10.out).mono ?_); (case side1 => repeat (first | (with_reducible first | exact HI153.out | apply IsS92.alloc | apply IsS92.drewN | apply IsS92.drew | apply IsS92.set_1 | refine IsS92.far ?_ NB153_159.out _) | exact HI153.out)); (case side2 => repeat (first | (with_reducible first | exact HB.out | apply below_alloc | apply pw_below_drewN | apply below_drew1 | refine below_set ?_ (IsS92.ge HI153.out) | refine below_set ?_ GE159.out) | exact HB.out)); rintro e w25 ⟨rfl, hi, hb, hk⟩; refine ⟨_, rfl, ?_⟩; have n0_ := Aside0.mk (KeepBut.blk hk (g' := gb159) (o := .cells #[.int .i64 t154, .int .i64 t155, .int .i64 t156, .int .i64 t157] 58 (0, 0)) (by (with_reducible repeat (first | refine blk_drewN ?_ _ | refine blk_drew ?_ | refine blk_alloc ?_ _)); exact BK159.out) NB159_153.out (by simp)); have n1_ := Aside0.mk (hb); have n2_ := Aside0.mk (hi); clear BK159; clear HB; clear HI153; have BK159 := n0_; have HB := n1_; have HI153 := n2_; clear n0_ n1_ n2_; (try clear hb); (try clear hb2); (try clear hk); (try clear hi)) | ((with_reducible refine gate_callee (f := 40) rfl ?_); refine goesL_ (some 35) rfl rfl Try.func40 (by kernel_rfl) rfl #[.pointer (some ⟨g153, 0, none⟩), .int .i64 100] rfl (by (try simp only [List.map_toArray, List.map_cons, List.map_nil]); first | done | rfl | (simp only [List.length_drop, List.length_take]; rfl)) ?_; (with_reducible refine (storagebartermake_Text.calls k g153 t151 t163 100 t164 t165 w _ ?side1 ?side2 A11.out).mono ?_); (case side1 => repeat (first | (with_reducible first | exact HI153.out | apply IsS92.alloc | apply IsS92.drewN | apply IsS92.drew | apply IsS92.set_1 | refine IsS92.far ?_ NB153_159.out _) | exact HI153.out)); (case side2 => repeat (first | (with_reducible first | exact HB.out | apply below_alloc | apply pw_below_drewN | apply below_drew1 | refine below_set ?_ (IsS92.ge HI153.out) | refine below_set ?_ GE159.out) | exact HB.out)); rintro e w26 ⟨rfl, hi, hb, hk⟩; refine ⟨_, rfl, ?_⟩; have n0_ := Aside0.mk (KeepBut.blk hk (g' := gb159) (o := .cells #[.int .i64 t154, .int .i64 t155, .int .i64 t156, .int .i64 t157] 58 (0, 0)) (by (with_reducible repeat (first | refine blk_drewN ?_ _ | refine blk_drew ?_ | refine blk_alloc ?_ _)); exact BK159.out) NB159_153.out (by simp)); have n1_ := Aside0.mk (hb); have n2_ := Aside0.mk (hi); clear BK159; clear HB; clear HI153; have BK159 := n0_; have HB := n1_; have HI153 := n2_; clear n0_ n1_ n2_; (try clear hb); (try clear hb2); (try clear hk); (try clear hi); have hcz27_0 : w26.cell? ⟨gb159, 0, none⟩ = some (.int .i64 t154) := (blk_cell BK159.out 0).trans rfl; have hcz27_1 : w26.cell? ⟨gb159, 1, none⟩ = some (.int .i64 t155) := (blk_cell BK159.out 1).trans rfl; have hcz27_2 : w26.cell? ⟨gb159, 2, none⟩ = some (.int .i64 t156) := (blk_cell BK159.out 2).trans rfl; have hcz27_3 : w26.cell? ⟨gb159, 3, none⟩ = some (.int .i64 t157) := (blk_cell BK159.out 3).trans rfl; have hfz27_0 := blk_frozen BK159.out 0; have hfz27_1 := blk_frozen BK159.out 1; have hfz27_2 := blk_frozen BK159.out 2; have hfz27_3 := blk_frozen BK159.out 3) | ((with_reducible refine gate_callee (f := 45) rfl ?_); refine goesL_ (some 41) rfl rfl Try.func45 (by kernel_rfl) rfl #[.string (t160 ++ t164), .agg #[.int .i64 t154, .int .i64 t155, .int .i64 t156, .int .i64 t157]] rfl (by (try simp only [List.map_toArray, List.map_cons, List.map_nil]); first | done | rfl | (simp only [List.length_drop, List.length_take]; rfl)) ?_; (with_reducible refine (chunk_Ends.calls (t160 ++ t164) t154 t155 t156 t157 t166 t169 _ A13.out).mono ?_); rintro e w28 ⟨v167, rfl, ho0, hb⟩; refine ⟨_, rfl, ?_⟩; have n0_ := Aside0.mk (Kd.R_lower ho0 (below_size (by repeat (first | (with_reducible first | exact HB.out | apply below_alloc | apply pw_below_drewN | apply below_drew1 | refine below_set ?_ (IsS92.ge HI153.out) | refine below_set ?_ GE159.out) | exact HB.out)))); have n1_ := Aside0.mk (IsS92.below (by repeat (first | (with_reducible first | exact HI153.out | apply IsS92.alloc | apply IsS92.drewN | apply IsS92.drew | apply IsS92.set_1 | refine IsS92.far ?_ NB153_159.out _) | exact HI153.out)) hb); have n2_ := Aside0.mk (blk_below (g := gb159) (o := .cells #[.int .i64 t154, .int .i64 t155, .int .i64 t156, .int .i64 t157] 58 (0, 0)) (by (with_reducible repeat (first | refine blk_drewN ?_ _ | refine blk_drew ?_ | refine blk_alloc ?_ _)); exact BK159.out) hb); have n3_ := Aside0.mk (below_step (by repeat (first | (with_reducible first | exact HB.out | apply below_alloc | apply pw_below_drewN | apply below_drew1 | refine below_set ?_ (IsS92.ge HI153.out) | refine below_set ?_ GE159.out) | exact HB.out)) hb); clear HI153; clear BK159; clear HB; have HO168 := n0_; have HI153 := n1_; have BK159 := n2_; have HB := n3_; clear n0_ n1_ n2_ n3_; (try clear hb); (try clear hb2); (try clear hk); (try clear hi); (try clear ho0); have hcz29_0 : w28.cell? ⟨gb159, 0, none⟩ = some (.int .i64 t154) := (blk_cell BK159.out 0).trans rfl; have hcz29_1 : w28.cell? ⟨gb159, 1, none⟩ = some (.int .i64 t155) := (blk_cell BK159.out 1).trans rfl; have hcz29_2 : w28.cell? ⟨gb159, 2, none⟩ = some (.int .i64 t156) := (blk_cell BK159.out 2).trans rfl; have hcz29_3 : w28.cell? ⟨gb159, 3, none⟩ = some (.int .i64 t157) := (blk_cell BK159.out 3).trans rfl; have hfz29_0 := blk_frozen BK159.out 0; have hfz29_1 := blk_frozen BK159.out 1; have hfz29_2 := blk_frozen BK159.out 2; have hfz29_3 := blk_frozen BK159.out 3) | ((with_reducible refine gate_callee (f := 45) rfl ?_); refine goesL_ (some 49) rfl rfl Try.func45 (by kernel_rfl) rfl #[.string (t162 ++ t164), .agg #[.int .i64 t154, .int .i64 t155, .int .i64 t156, .int .i64 t157]] rfl (by (try simp only [List.map_toArray, List.map_cons, List.map_nil]); first | done | rfl | (simp only [List.length_drop, List.length_take]; rfl)) ?_; (with_reducible refine (chunk_Ends.calls (t162 ++ t164) t154 t155 t156 t157 t170 t173 _ A15.out).mono ?_); rintro e w30 ⟨v171, rfl, ho0, hb⟩; refine ⟨_, rfl, ?_⟩; have n0_ := Aside0.mk (Kd.R_elder' (by (with_reducible repeat (first | apply Kd.R_alloc | apply Kd.R_drewN | apply Kd.R_drew)); exact HO168.out) (Kd.R_base ho0) hb); have n1_ := Aside0.mk (Kd.R_lower (Kd.R_new' ho0 (Kd.R_lt (by (with_reducible repeat (first | apply Kd.R_alloc | apply Kd.R_drewN | apply Kd.R_drew)); exact HO168.out))) (below_size (by repeat (first | (with_reducible first | exact HB.out | apply below_alloc | apply pw_below_drewN | apply below_drew1 | refine below_set ?_ (IsS92.ge HI153.out) | refine below_set ?_ GE159.out) | exact HB.out)))); have n2_ := Aside0.mk (IsS92.below (by repeat (first | (with_reducible first | exact HI153.out | apply IsS92.alloc | apply IsS92.drewN | apply IsS92.drew | apply IsS92.set_1 | refine IsS92.far ?_ NB153_159.out _) | exact HI153.out)) hb); have n3_ := Aside0.mk (blk_below (g := gb159) (o := .cells #[.int .i64 t154, .int .i64 t155, .int .i64 t156, .int .i64 t157] 58 (0, 0)) (by (with_reducible repeat (first | refine blk_drewN ?_ _ | refine blk_drew ?_ | refine blk_alloc ?_ _)); exact BK159.out) hb); have n4_ := Aside0.mk (below_step (by repeat (first | (with_reducible first | exact HB.out | apply below_alloc | apply pw_below_drewN | apply below_drew1 | refine below_set ?_ (IsS92.ge HI153.out) | refine below_set ?_ GE159.out) | exact HB.out)) hb); clear HO168; clear HI153; clear BK159; clear HB; have HO168 := n0_; have HO172 := n1_; have HI153 := n2_; have BK159 := n3_; have HB := n4_; clear n0_ n1_ n2_ n3_ n4_; (try clear hb); (try clear hb2); (try clear hk); (try clear hi); (try clear ho0); have hcz31_0 : w30.cell? ⟨gb159, 0, none⟩ = some (.int .i64 t154) := (blk_cell BK159.out 0).trans rfl; have hcz31_1 : w30.cell? ⟨gb159, 1, none⟩ = some (.int .i64 t155) := (blk_cell BK159.out 1).trans rfl; have hcz31_2 : w30.cell? ⟨gb159, 2, none⟩ = some (.int .i64 t156) := (blk_cell BK159.out 2).trans rfl; have hcz31_3 : w30.cell? ⟨gb159, 3, none⟩ = some (.int .i64 t157) := (blk_cell BK159.out 3).trans rfl; have hfz31_0 := blk_frozen BK159.out 0; have hfz31_1 := blk_frozen BK159.out 1; have hfz31_2 := blk_frozen BK159.out 2; have hfz31_3 := blk_frozen BK159.out 3) | ((with_reducible refine gate_callee (f := 50) rfl ?_); refine goesL_ (some 60) rfl rfl Try.func50 (by kernel_rfl) rfl #[.string (t160 ++ t164), .string (t162 ++ t164), .agg #[.int .i64 t154, .int .i64 t155, .int .i64 t156, .int .i64 t157]] rfl (by (try simp only [List.map_toArray, List.map_cons, List.map_nil]); first | done | rfl | (simp only [List.length_drop, List.length_take]; rfl)) ?_; (with_reducible refine (chunk_Common.calls k (t160 ++ t164) (t162 ++ t164) t154 t155 t156 t157 t174 t175 _ A16.out).mono ?_); rintro e w32 ⟨rfl, hb⟩; refine ⟨_, rfl, ?_⟩; have n0_ := Aside0.mk (Kd.R_below (by (with_reducible repeat (first | apply Kd.R_alloc | apply Kd.R_drewN | apply Kd.R_drew)); exact HO168.out) hb); have n1_ := Aside0.mk (Kd.R_below (by (with_reducible repeat (first | apply Kd.R_alloc | apply Kd.R_drewN | apply Kd.R_drew)); exact HO172.out) hb); have n2_ := Aside0.mk (IsS92.below (by repeat (first | (with_reducible first | exact HI153.out | apply IsS92.alloc | apply IsS92.drewN | apply IsS92.drew | apply IsS92.set_1 | refine IsS92.far ?_ NB153_159.out _) | exact HI153.out)) hb); have n3_ := Aside0.mk (blk_below (g := gb159) (o := .cells #[.int .i64 t154, .int .i64 t155, .int .i64 t156, .int .i64 t157] 58 (0, 0)) (by (with_reducible repeat (first | refine blk_drewN ?_ _ | refine blk_drew ?_ | refine blk_alloc ?_ _)); exact BK159.out) hb); have n4_ := Aside0.mk (below_step (by repeat (first | (with_reducible first | exact HB.out | apply below_alloc | apply pw_below_drewN | apply below_drew1 | refine below_set ?_ (IsS92.ge HI153.out) | refine below_set ?_ GE159.out) | exact HB.out)) hb); clear HO168; clear HO172; clear HI153; clear BK159; clear HB; have HO168 := n0_; have HO172 := n1_; have HI153 := n2_; have BK159 := n3_; have HB := n4_; clear n0_ n1_ n2_ n3_ n4_; (try clear hb); (try clear hb2); (try clear hk); (try clear hi)))
          (try simp only [Act.put, List.setIfInBounds_toArray, List.set_cons_zero, List.set_cons_succ])
          go_cut [72] (fun v72 wc => ∃ (kq : Nat) (x72_16 : Bool), v72 = .bool x72_16 ∧ Aside0 (storagebarterlaw04_ChunkShares.j0 kq t160 t162 t166 t170 t174 x72_16 = some r) ∧ Aside0 (kq ≤ k) ∧ Aside0 (Kd.R (Kd.int .i64) 3 wc w.heap.size (fun k_ => some k_ ≠ (v171 : Value).ownBlock) v167 t166) ∧ Aside0 (Kd.R (Kd.int .i64) 3 wc w.heap.size (fun k_ => some k_ ≠ (v167 : Value).ownBlock) v171 t170) ∧ Aside0 (wc.heap[gb159]? = some (.cells #[.int .i64 t154, .int .i64 t155, .int .i64 t156, .int .i64 t157] 58 (0, 0))) ∧ Aside0 (Below w.heap.size w wc))
          case first =>
            have H := HC17.out
            clear HC17
            by_cases c33 : t169 = 0
            · rw [if_pos c33] at H
              have c33b0 : (t169 == 0) = true := beq_iff_eq.mpr c33
              have c33b1 : (t169 != 0) = false := bne_eq_false_iff_eq.mpr c33
              clear c33
              (first | rw [c33b0] | (simp only [i64_w, i32_w]; rw [c33b0]) | skip)
              by_cases c34 : t173 = 0
              · rw [if_pos c34] at H
                have c34b0 : (t173 == 0) = true := beq_iff_eq.mpr c34
                have c34b1 : (t173 != 0) = false := bne_eq_false_iff_eq.mpr c34
                clear c34
                have H' := Aside0.mk H
                clear H
                go_wp2
                go_meet
                case rel => exact ⟨_, ((t175 != 0)), (by first | rfl | (simp; done) | (simp [*]; done)), H', ⟨by first | omega | exact Nat.le_refl _⟩, ⟨by (with_reducible repeat (first | apply Kd.R_alloc | apply Kd.R_drewN | apply Kd.R_drew)); exact Kd.R_mono HO168.out (fun _ hk => hk.2)⟩, ⟨by (with_reducible repeat (first | apply Kd.R_alloc | apply Kd.R_drewN | apply Kd.R_drew)); exact Kd.R_mono HO172.out (fun _ hk => hk.2)⟩, ⟨by (with_reducible repeat (first | refine blk_drewN ?_ _ | refine blk_drew ?_ | refine blk_alloc ?_ _)); exact BK159.out⟩, ⟨by repeat (first | (with_reducible first | exact HB.out | apply below_alloc | apply pw_below_drewN | apply below_drew1 | refine below_set ?_ (IsS92.ge HI153.out) | refine below_set ?_ GE159.out) | exact HB.out)⟩⟩
              · rw [if_neg c34] at H
                have c34b0 : (t173 == 0) = false := beq_eq_false_iff_ne.mpr c34
                have c34b1 : (t173 != 0) = true := bne_iff_ne.mpr c34
                have H' := Aside0.mk H
                clear H
                go_wp2
                go_meet
                case rel => exact ⟨_, (true), (by first | rfl | (simp; done) | (simp [*]; done)), H', ⟨by first | omega | exact Nat.le_refl _⟩, ⟨by (with_reducible repeat (first | apply Kd.R_alloc | apply Kd.R_drewN | apply Kd.R_drew)); exact Kd.R_mono HO168.out (fun _ hk => hk.2)⟩, ⟨by (with_reducible repeat (first | apply Kd.R_alloc | apply Kd.R_drewN | apply Kd.R_drew)); exact Kd.R_mono HO172.out (fun _ hk => hk.2)⟩, ⟨by (with_reducible repeat (first | refine blk_drewN ?_ _ | refine blk_drew ?_ | refine blk_alloc ?_ _)); exact BK159.out⟩, ⟨by repeat (first | (with_reducible first | exact HB.out | apply below_alloc | apply pw_below_drewN | apply below_drew1 | refine below_set ?_ (IsS92.ge HI153.out) | refine below_set ?_ GE159.out) | exact HB.out)⟩⟩
            · rw [if_neg c33] at H
              have c33b0 : (t169 == 0) = false := beq_eq_false_iff_ne.mpr c33
              have c33b1 : (t169 != 0) = true := bne_iff_ne.mpr c33
              (first | rw [c33b0] | (simp only [i64_w, i32_w]; rw [c33b0]) | skip)
              have H' := Aside0.mk H
              clear H
              go_wp2
              go_meet
              case rel => exact ⟨_, (true), (by first | rfl | (simp; done) | (simp [*]; done)), H', ⟨by first | omega | exact Nat.le_refl _⟩, ⟨by (with_reducible repeat (first | apply Kd.R_alloc | apply Kd.R_drewN | apply Kd.R_drew)); exact Kd.R_mono HO168.out (fun _ hk => hk.2)⟩, ⟨by (with_reducible repeat (first | apply Kd.R_alloc | apply Kd.R_drewN | apply Kd.R_drew)); exact Kd.R_mono HO172.out (fun _ hk => hk.2)⟩, ⟨by (with_reducible repeat (first | refine blk_drewN ?_ _ | refine blk_drew ?_ | refine blk_alloc ?_ _)); exact BK159.out⟩, ⟨by repeat (first | (with_reducible first | exact HB.out | apply below_alloc | apply pw_below_drewN | apply below_drew1 | refine below_set ?_ (IsS92.ge HI153.out) | refine below_set ?_ GE159.out) | exact HB.out)⟩⟩
          case rest =>
            clear HC17
            try clear c1
            try clear c2
            try clear p2
            try clear c3
            try clear c4
            try clear c5
            try clear c6
            try clear c12
            try clear c12b0
            try clear c12b1
            try clear c12b2
            try clear c14
            try clear c14b0
            try clear c14b1
            try clear c14b2
            try clear c22
            try clear c33
            try clear c33b0
            try clear c33b1
            try clear c34
            try clear c34b0
            try clear c34b1
            try clear hcz23_0
            try clear hcz23_1
            try clear hcz23_2
            try clear hcz23_3
            try clear hcz27_0
            try clear hcz27_1
            try clear hcz27_2
            try clear hcz27_3
            try clear hcz29_0
            try clear hcz29_1
            try clear hcz29_2
            try clear hcz29_3
            try clear hcz31_0
            try clear hcz31_1
            try clear hcz31_2
            try clear hcz31_3
            try clear hfz23_0
            try clear hfz23_1
            try clear hfz23_2
            try clear hfz23_3
            try clear hfz27_0
            try clear hfz27_1
            try clear hfz27_2
            try clear hfz27_3
            try clear hfz29_0
            try clear hfz29_1
            try clear hfz29_2
            try clear hfz29_3
            try clear hfz31_0
            try clear hfz31_1
            try clear hfz31_2
            try clear hfz31_3
            obtain ⟨kq, x72_16, rfl, HA, HJ16, HO_10, HO_12, BK159, HB⟩ := hcut
            cases kq with
            | zero => exact absurd HA.out (by simp [storagebarterlaw04_ChunkShares.j0])
            | succ kj16 =>
              have H := HA.out
              clear HA
              simp only [storagebarterlaw04_ChunkShares.j0] at H
              by_cases c35 : x72_16 = true
              · subst c35
                have H1 : (some false) = some r := by rw [if_pos rfl] at H; exact H
                clear H
                have H := H1
                clear H1
                obtain rfl := Option.some.inj H
                go_wp2
                go_ret
                exact ⟨by first | rfl | (simp [errW_none, errW_some] <;> rfl) | (simp [*, errW_none, errW_some] <;> rfl), by repeat (first | (with_reducible first | exact HB.out | apply below_alloc | apply pw_below_drewN | apply below_drew1 | refine below_set ?_ GE159.out) | exact HB.out)⟩
              · replace c35 := Bool.eq_false_iff.mpr c35
                subst c35
                have H1 : (storagebarterlaw04_ChunkShares.l0 kj16 t160 t162 t166 t170 t174 0 t166 (t166.length : Int) 0) = some r := by rw [if_neg (show ¬ (false = true) by decide)] at H; exact H
                clear H
                have H := H1
                clear H1
                have H' := Aside0.mk H
                clear H
                obtain ⟨Ao36, co36, eo36⟩ := Kd.R_slice HO_10.out
                subst eo36
                go_wp2
                go_loopg [16, 75] kj16 (fun kq v16 v75 w' => ∃ (x16_2 : Int) (x75_2 : Int), v16 = .int .i64 x16_2 ∧ v75 = .int .i64 x75_2 ∧ Aside0 (storagebarterlaw04_ChunkShares.l0 kq t160 t162 t166 t170 t174 x16_2 t166 (t166.length : Int) x75_2 = some r) ∧ Aside0 (kq ≤ kj16) ∧ Aside0 (Kd.R (Kd.int .i64) 3 w' w.heap.size (fun k_ => some k_ ≠ (v171 : Value).ownBlock) (.slice Ao36 t166.length co36) t166) ∧ Aside0 (Kd.R (Kd.int .i64) 3 w' w.heap.size (fun k_ => some k_ ≠ ((.slice Ao36 t166.length co36) : Value).ownBlock ∧ some k_ ≠ ((.slice Ao36 t166.length co36) : Value).ownBlock) v171 t170) ∧ Aside0 (Kd.R (Kd.int .i64) 3 w' w.heap.size (fun k_ => some k_ ≠ (v171 : Value).ownBlock) (.slice Ao36 t166.length co36) t166) ∧ Aside0 (w'.heap[gb159]? = some (.cells #[.int .i64 t154, .int .i64 t155, .int .i64 t156, .int .i64 t157] 58 (0, 0))) ∧ Aside0 (Below w.heap.size w w'))
                case atStart => exact ⟨(0), (0), (by first | rfl | (simp; done) | (simp [*]; done)), (by first | rfl | (simp; done) | (simp [*]; done)), H', ⟨Nat.le_refl _⟩, ⟨by (with_reducible repeat (first | apply Kd.R_alloc | apply Kd.R_drewN | apply Kd.R_drew)); exact HO_10.out⟩, ⟨by (with_reducible repeat (first | apply Kd.R_alloc | apply Kd.R_drewN | apply Kd.R_drew)); exact Kd.R_mono HO_12.out (fun _ hk => ⟨hk, hk⟩)⟩, ⟨by (with_reducible repeat (first | apply Kd.R_alloc | apply Kd.R_drewN | apply Kd.R_drew)); exact HO_10.out⟩, ⟨by (with_reducible repeat (first | refine blk_drewN ?_ _ | refine blk_drew ?_ | refine blk_alloc ?_ _)); exact BK159.out⟩, ⟨by repeat (first | (with_reducible first | exact HB.out | apply below_alloc | apply pw_below_drewN | apply below_drew1 | refine below_set ?_ GE159.out) | exact HB.out)⟩⟩
                case round =>
                  clear H'
                  try clear c1
                  try clear c2
                  try clear p2
                  try clear c3
                  try clear c4
                  try clear c5
                  try clear c6
                  try clear c12
                  try clear c12b0
                  try clear c12b1
                  try clear c12b2
                  try clear c14
                  try clear c14b0
                  try clear c14b1
                  try clear c14b2
                  try clear c22
                  try clear c33
                  try clear c33b0
                  try clear c33b1
                  try clear c34
                  try clear c34b0
                  try clear c34b1
                  try clear c35
                  try clear c36
                  try clear hcz23_0
                  try clear hcz23_1
                  try clear hcz23_2
                  try clear hcz23_3
                  try clear hcz27_0
                  try clear hcz27_1
                  try clear hcz27_2
                  try clear hcz27_3
                  try clear hcz29_0
                  try clear hcz29_1
                  try clear hcz29_2
                  try clear hcz29_3
                  try clear hcz31_0
                  try clear hcz31_1
                  try clear hcz31_2
                  try clear hcz31_3
                  try clear hfz23_0
                  try clear hfz23_1
                  try clear hfz23_2
                  try clear hfz23_3
                  try clear hfz27_0
                  try clear hfz27_1
                  try clear hfz27_2
                  try clear hfz27_3
                  try clear hfz29_0
                  try clear hfz29_1
                  try clear hfz29_2
                  try clear hfz29_3
                  try clear hfz31_0
                  try clear hfz31_1
                  try clear hfz31_2
                  try clear hfz31_3
                  try clear p2
                  obtain ⟨x16_2, x75_2, rfl, rfl, HA, HK2, HO_10, HO_12, HO_73, BK159, HB⟩ := hrel
                  cases gk with
                  | zero => exact absurd HA.out (by simp [storagebarterlaw04_ChunkShares.l0])
                  | succ k2 =>
                    have H := HA.out
                    clear HA
                    simp only [storagebarterlaw04_ChunkShares.l0] at H
                    by_cases c37 : x75_2 < (t166.length : Int)
                    · rw [if_pos c37] at H
                      have c37b0 : decide (x75_2 < (t166.length : Int)) = true := decide_eq_true c37
                      clear c37
                      by_cases c38 : 0 ≤ x75_2
                      · rw [if_pos c38] at H
                        have c38b0 : decide (0 ≤ x75_2) = true := decide_eq_true c38
                        clear c38
                        by_cases c39 : x75_2 < (t166.length : Int)
                        · rw [if_pos c39] at H
                          have c39b0 : decide (x75_2 < (t166.length : Int)) = true := decide_eq_true c39
                          clear c39
                          have H' := Aside0.mk H
                          clear H
                          have p176 : 0 ≤ (x75_2 : Int) := of_decide_eq_true (by first | (with_reducible assumption) | assumption)
                          have q176 : x75_2 < (t166.length : Int) := of_decide_eq_true (by first | (with_reducible assumption) | assumption)
                          obtain ⟨ad176, e176, hx176_0⟩ := Kd.at_int (Kd.R_reads' HO_73.out).2.2 x75_2 p176 q176
                          cases e176
                          replace p176 := eq_true p176
                          replace q176 := eq_true q176
                          obtain ⟨Ao40, co40, eo40⟩ := Kd.R_slice HO_12.out
                          subst eo40
                          go_wp2
                          go_loopg [16, 82] k2 (fun kq v16 v82 w' => ∃ (x16_3 : Int) (x82_3 : Int), v16 = .int .i64 x16_3 ∧ v82 = .int .i64 x82_3 ∧ Aside0 (storagebarterlaw04_ChunkShares.l1 kq t160 t162 t166 t170 t174 x16_3 x75_2 (rd t166 x75_2) t166 (t166.length : Int) x75_2 t170 (t170.length : Int) x82_3 = some r) ∧ Aside0 (kq ≤ k2) ∧ Aside0 (Kd.R (Kd.int .i64) 3 w' w.heap.size (fun k_ => some k_ ≠ ((.slice Ao40 t170.length co40) : Value).ownBlock ∧ some k_ ≠ ((.slice Ao40 t170.length co40) : Value).ownBlock) (.slice (some ad176) t166.length co36) t166) ∧ Aside0 (Kd.R (Kd.int .i64) 3 w' w.heap.size (fun k_ => some k_ ≠ ((.slice (some ad176) t166.length co36) : Value).ownBlock ∧ some k_ ≠ ((.slice (some ad176) t166.length co36) : Value).ownBlock) (.slice Ao40 t170.length co40) t170) ∧ Aside0 (Kd.R (Kd.int .i64) 3 w' w.heap.size (fun k_ => some k_ ≠ ((.slice Ao40 t170.length co40) : Value).ownBlock ∧ some k_ ≠ ((.slice Ao40 t170.length co40) : Value).ownBlock) (.slice (some ad176) t166.length co36) t166) ∧ Aside0 (Kd.R (Kd.int .i64) 3 w' w.heap.size (fun k_ => some k_ ≠ ((.slice (some ad176) t166.length co36) : Value).ownBlock ∧ some k_ ≠ ((.slice (some ad176) t166.length co36) : Value).ownBlock) (.slice Ao40 t170.length co40) t170) ∧ Aside0 (w'.heap[gb159]? = some (.cells #[.int .i64 t154, .int .i64 t155, .int .i64 t156, .int .i64 t157] 58 (0, 0))) ∧ Aside0 (Below w.heap.size w w'))
                          case atStart => exact ⟨(x16_2), (0), (by first | rfl | (simp; done) | (simp [*]; done)), (by first | rfl | (simp; done) | (simp [*]; done)), H', ⟨Nat.le_refl _⟩, ⟨by (with_reducible repeat (first | apply Kd.R_alloc | apply Kd.R_drewN | apply Kd.R_drew)); exact Kd.R_mono HO_10.out (fun _ hk => ⟨hk, hk⟩)⟩, ⟨by (with_reducible repeat (first | apply Kd.R_alloc | apply Kd.R_drewN | apply Kd.R_drew)); exact HO_12.out⟩, ⟨by (with_reducible repeat (first | apply Kd.R_alloc | apply Kd.R_drewN | apply Kd.R_drew)); exact Kd.R_mono HO_73.out (fun _ hk => ⟨hk, hk⟩)⟩, ⟨by (with_reducible repeat (first | apply Kd.R_alloc | apply Kd.R_drewN | apply Kd.R_drew)); exact HO_12.out⟩, ⟨by (with_reducible repeat (first | refine blk_drewN ?_ _ | refine blk_drew ?_ | refine blk_alloc ?_ _)); exact BK159.out⟩, ⟨by repeat (first | (with_reducible first | exact HB.out | apply below_alloc | apply pw_below_drewN | apply below_drew1 | refine below_set ?_ GE159.out) | exact HB.out)⟩⟩
                          case round =>
                            clear H'
                            try clear c1
                            try clear p1
                            try clear q1
                            try clear hx1
                            try clear c2
                            try clear p2
                            try clear c3
                            try clear c4
                            try clear c5
                            try clear c6
                            try clear c12
                            try clear c12b0
                            try clear c12b1
                            try clear c12b2
                            try clear c14
                            try clear c14b0
                            try clear c14b1
                            try clear c14b2
                            try clear p17
                            try clear q17
                            try clear hx17
                            try clear c22
                            try clear c33
                            try clear c33b0
                            try clear c33b1
                            try clear c34
                            try clear c34b0
                            try clear c34b1
                            try clear c35
                            try clear c36
                            try clear c37
                            try clear c37b0
                            try clear c38
                            try clear c38b0
                            try clear c39
                            try clear c39b0
                            try clear c40
                            try clear hcz23_0
                            try clear hcz23_1
                            try clear hcz23_2
                            try clear hcz23_3
                            try clear hcz27_0
                            try clear hcz27_1
                            try clear hcz27_2
                            try clear hcz27_3
                            try clear hcz29_0
                            try clear hcz29_1
                            try clear hcz29_2
                            try clear hcz29_3
                            try clear hcz31_0
                            try clear hcz31_1
                            try clear hcz31_2
                            try clear hcz31_3
                            try clear hfz23_0
                            try clear hfz23_1
                            try clear hfz23_2
                            try clear hfz23_3
                            try clear hfz27_0
                            try clear hfz27_1
                            try clear hfz27_2
                            try clear hfz27_3
                            try clear hfz29_0
                            try clear hfz29_1
                            try clear hfz29_2
                            try clear hfz29_3
                            try clear hfz31_0
                            try clear hfz31_1
                            try clear hfz31_2
                            try clear hfz31_3
                            try clear hx176_0
                            try clear p176
                            try clear p2
                            try clear q176
                            obtain ⟨x16_3, x82_3, rfl, rfl, HA, HK3, HO_10, HO_12, HO_73, HO_80, BK159, HB⟩ := hrel
                            cases gk with
                            | zero => exact absurd HA.out (by simp [storagebarterlaw04_ChunkShares.l1])
                            | succ k3 =>
                              have H := HA.out
                              clear HA
                              simp only [storagebarterlaw04_ChunkShares.l1] at H
                              by_cases c41 : x82_3 < (t170.length : Int)
                              · rw [if_pos c41] at H
                                have c41b0 : decide (x82_3 < (t170.length : Int)) = true := decide_eq_true c41
                                clear c41
                                by_cases c42 : 0 ≤ x82_3
                                · rw [if_pos c42] at H
                                  have c42b0 : decide (0 ≤ x82_3) = true := decide_eq_true c42
                                  clear c42
                                  by_cases c43 : x82_3 < (t170.length : Int)
                                  · rw [if_pos c43] at H
                                    have c43b0 : decide (x82_3 < (t170.length : Int)) = true := decide_eq_true c43
                                    clear c43
                                    by_cases c44 : (rd t166 x75_2) ≥ (t160.size : Int)
                                    · rw [if_pos c44] at H
                                      have c44b0 : decide ((t160.size : Int) ≤ (rd t166 x75_2)) = true := decide_eq_true c44
                                      clear c44
                                      by_cases c45 : (rd t170 x82_3) ≥ (t162.size : Int)
                                      · rw [if_pos c45] at H
                                        have c45b0 : decide ((t162.size : Int) ≤ (rd t170 x82_3)) = true := decide_eq_true c45
                                        clear c45
                                        by_cases c46 : (wrap64 ((rd t166 x75_2) - (t160.size : Int))) = (wrap64 ((rd t170 x82_3) - (t162.size : Int)))
                                        · rw [if_pos c46] at H
                                          have c46b0 : ((wrap64 ((rd t166 x75_2) - (t160.size : Int))) == (wrap64 ((rd t170 x82_3) - (t162.size : Int)))) = true := beq_iff_eq.mpr c46
                                          have c46b1 : ((wrap64 ((rd t166 x75_2) - (t160.size : Int))) != (wrap64 ((rd t170 x82_3) - (t162.size : Int)))) = false := bne_eq_false_iff_eq.mpr c46
                                          clear c46
                                          obtain ⟨ji47, hji47⟩ : ∃ j_ : Int, (mx x16_3 (wrap64 ((wrap64 ((t166.length : Int) - 1)) - x75_2))) = j_ := ⟨_, rfl⟩
                                          replace H : (storagebarterlaw04_ChunkShares.l1 k3 t160 t162 t166 t170 t174 ji47 x75_2 (rd t166 x75_2) t166 (t166.length : Int) x75_2 t170 (t170.length : Int) (wrap64 (x82_3 + 1))) = some r := by first | (rw [hji47] at H; exact H) | (simp only [hji47] at H ⊢; exact H)
                                          have hji47_ : (if x16_3 < (wrap64 ((wrap64 ((t166.length : Int) - 1)) - x75_2)) then (wrap64 ((wrap64 ((t166.length : Int) - 1)) - x75_2)) else x16_3) = ji47 := hji47
                                          have H' := Aside0.mk H
                                          clear H
                                          have p177 : 0 ≤ (x82_3 : Int) := of_decide_eq_true (by first | (with_reducible assumption) | assumption)
                                          have q177 : x82_3 < (t170.length : Int) := of_decide_eq_true (by first | (with_reducible assumption) | assumption)
                                          obtain ⟨ad177, e177, hx177_0⟩ := Kd.at_int (Kd.R_reads' HO_80.out).2.2 x82_3 p177 q177
                                          cases e177
                                          replace p177 := eq_true p177
                                          replace q177 := eq_true q177
                                          go_wp2
                                          go_roundg k3
                                          case measure => have := HJ16.out; have := HK2.out; have := HK3.out; omega
                                          case rel => exact ⟨(ji47), (wrap64 (x82_3 + 1)), (by first | rfl | (simp; done) | (simp only [← hji47] <;> (first | rfl | simp)) | (simp [*]; done)), (by first | rfl | (simp; done) | (simp [*]; done)), H', ⟨by have := HJ16.out; have := HK2.out; have := HK3.out; omega⟩, ⟨by (with_reducible repeat (first | apply Kd.R_alloc | apply Kd.R_drewN | apply Kd.R_drew)); exact HO_10.out⟩, ⟨by (with_reducible repeat (first | apply Kd.R_alloc | apply Kd.R_drewN | apply Kd.R_drew)); exact HO_12.out⟩, ⟨by (with_reducible repeat (first | apply Kd.R_alloc | apply Kd.R_drewN | apply Kd.R_drew)); exact HO_73.out⟩, ⟨by (with_reducible repeat (first | apply Kd.R_alloc | apply Kd.R_drewN | apply Kd.R_drew)); exact HO_80.out⟩, ⟨by (with_reducible repeat (first | refine blk_drewN ?_ _ | refine blk_drew ?_ | refine blk_alloc ?_ _)); exact BK159.out⟩, ⟨by repeat (first | (with_reducible first | exact HB.out | apply below_alloc | apply pw_below_drewN | apply below_drew1 | refine below_set ?_ GE159.out) | exact HB.out)⟩⟩
                                        · rw [if_neg c46] at H
                                          have c46b0 : ((wrap64 ((rd t166 x75_2) - (t160.size : Int))) == (wrap64 ((rd t170 x82_3) - (t162.size : Int)))) = false := beq_eq_false_iff_ne.mpr c46
                                          have c46b1 : ((wrap64 ((rd t166 x75_2) - (t160.size : Int))) != (wrap64 ((rd t170 x82_3) - (t162.size : Int)))) = true := bne_iff_ne.mpr c46
                                          have H' := Aside0.mk H
                                          clear H
                                          have p177 : 0 ≤ (x82_3 : Int) := of_decide_eq_true (by first | (with_reducible assumption) | assumption)
                                          have q177 : x82_3 < (t170.length : Int) := of_decide_eq_true (by first | (with_reducible assumption) | assumption)
                                          obtain ⟨ad177, e177, hx177_0⟩ := Kd.at_int (Kd.R_reads' HO_80.out).2.2 x82_3 p177 q177
                                          cases e177
                                          replace p177 := eq_true p177
                                          replace q177 := eq_true q177
                                          go_wp2
                                          go_roundg k3
                                          case measure => have := HJ16.out; have := HK2.out; have := HK3.out; omega
                                          case rel => exact ⟨(x16_3), (wrap64 (x82_3 + 1)), (by first | rfl | (simp; done) | (simp [*]; done)), (by first | rfl | (simp; done) | (simp [*]; done)), H', ⟨by have := HJ16.out; have := HK2.out; have := HK3.out; omega⟩, ⟨by (with_reducible repeat (first | apply Kd.R_alloc | apply Kd.R_drewN | apply Kd.R_drew)); exact HO_10.out⟩, ⟨by (with_reducible repeat (first | apply Kd.R_alloc | apply Kd.R_drewN | apply Kd.R_drew)); exact HO_12.out⟩, ⟨by (with_reducible repeat (first | apply Kd.R_alloc | apply Kd.R_drewN | apply Kd.R_drew)); exact HO_73.out⟩, ⟨by (with_reducible repeat (first | apply Kd.R_alloc | apply Kd.R_drewN | apply Kd.R_drew)); exact HO_80.out⟩, ⟨by (with_reducible repeat (first | refine blk_drewN ?_ _ | refine blk_drew ?_ | refine blk_alloc ?_ _)); exact BK159.out⟩, ⟨by repeat (first | (with_reducible first | exact HB.out | apply below_alloc | apply pw_below_drewN | apply below_drew1 | refine below_set ?_ GE159.out) | exact HB.out)⟩⟩
                                      · rw [if_neg c45] at H
                                        have c45b0 : decide ((t162.size : Int) ≤ (rd t170 x82_3)) = false := decide_eq_false c45
                                        clear c45
                                        have H' := Aside0.mk H
                                        clear H
                                        have p177 : 0 ≤ (x82_3 : Int) := of_decide_eq_true (by first | (with_reducible assumption) | assumption)
                                        have q177 : x82_3 < (t170.length : Int) := of_decide_eq_true (by first | (with_reducible assumption) | assumption)
                                        obtain ⟨ad177, e177, hx177_0⟩ := Kd.at_int (Kd.R_reads' HO_80.out).2.2 x82_3 p177 q177
                                        cases e177
                                        replace p177 := eq_true p177
                                        replace q177 := eq_true q177
                                        go_wp2
                                        go_roundg k3
                                        case measure => have := HJ16.out; have := HK2.out; have := HK3.out; omega
                                        case rel => exact ⟨(x16_3), (wrap64 (x82_3 + 1)), (by first | rfl | (simp; done) | (simp [*]; done)), (by first | rfl | (simp; done) | (simp [*]; done)), H', ⟨by have := HJ16.out; have := HK2.out; have := HK3.out; omega⟩, ⟨by (with_reducible repeat (first | apply Kd.R_alloc | apply Kd.R_drewN | apply Kd.R_drew)); exact HO_10.out⟩, ⟨by (with_reducible repeat (first | apply Kd.R_alloc | apply Kd.R_drewN | apply Kd.R_drew)); exact HO_12.out⟩, ⟨by (with_reducible repeat (first | apply Kd.R_alloc | apply Kd.R_drewN | apply Kd.R_drew)); exact HO_73.out⟩, ⟨by (with_reducible repeat (first | apply Kd.R_alloc | apply Kd.R_drewN | apply Kd.R_drew)); exact HO_80.out⟩, ⟨by (with_reducible repeat (first | refine blk_drewN ?_ _ | refine blk_drew ?_ | refine blk_alloc ?_ _)); exact BK159.out⟩, ⟨by repeat (first | (with_reducible first | exact HB.out | apply below_alloc | apply pw_below_drewN | apply below_drew1 | refine below_set ?_ GE159.out) | exact HB.out)⟩⟩
                                    · rw [if_neg c44] at H
                                      have c44b0 : decide ((t160.size : Int) ≤ (rd t166 x75_2)) = false := decide_eq_false c44
                                      clear c44
                                      have H' := Aside0.mk H
                                      clear H
                                      have p177 : 0 ≤ (x82_3 : Int) := of_decide_eq_true (by first | (with_reducible assumption) | assumption)
                                      have q177 : x82_3 < (t170.length : Int) := of_decide_eq_true (by first | (with_reducible assumption) | assumption)
                                      obtain ⟨ad177, e177, hx177_0⟩ := Kd.at_int (Kd.R_reads' HO_80.out).2.2 x82_3 p177 q177
                                      cases e177
                                      replace p177 := eq_true p177
                                      replace q177 := eq_true q177
                                      go_wp2
                                      go_roundg k3
                                      case measure => have := HJ16.out; have := HK2.out; have := HK3.out; omega
                                      case rel => exact ⟨(x16_3), (wrap64 (x82_3 + 1)), (by first | rfl | (simp; done) | (simp [*]; done)), (by first | rfl | (simp; done) | (simp [*]; done)), H', ⟨by have := HJ16.out; have := HK2.out; have := HK3.out; omega⟩, ⟨by (with_reducible repeat (first | apply Kd.R_alloc | apply Kd.R_drewN | apply Kd.R_drew)); exact HO_10.out⟩, ⟨by (with_reducible repeat (first | apply Kd.R_alloc | apply Kd.R_drewN | apply Kd.R_drew)); exact HO_12.out⟩, ⟨by (with_reducible repeat (first | apply Kd.R_alloc | apply Kd.R_drewN | apply Kd.R_drew)); exact HO_73.out⟩, ⟨by (with_reducible repeat (first | apply Kd.R_alloc | apply Kd.R_drewN | apply Kd.R_drew)); exact HO_80.out⟩, ⟨by (with_reducible repeat (first | refine blk_drewN ?_ _ | refine blk_drew ?_ | refine blk_alloc ?_ _)); exact BK159.out⟩, ⟨by repeat (first | (with_reducible first | exact HB.out | apply below_alloc | apply pw_below_drewN | apply below_drew1 | refine below_set ?_ GE159.out) | exact HB.out)⟩⟩
                                  · rw [if_neg c43] at H
                                    exact absurd H (by simp)
                                · rw [if_neg c42] at H
                                  exact absurd H (by simp)
                              · rw [if_neg c41] at H
                                have c41b0 : decide (x82_3 < (t170.length : Int)) = false := decide_eq_false c41
                                clear c41
                                have H' := Aside0.mk H
                                clear H
                                go_wp2
                                go_roundg k3
                                case measure => have := HJ16.out; have := HK2.out; have := HK3.out; omega
                                case rel => exact ⟨(x16_3), (wrap64 (x75_2 + 1)), (by first | rfl | (simp; done) | (simp [*]; done)), (by first | rfl | (simp; done) | (simp [*]; done)), H', ⟨by have := HJ16.out; have := HK2.out; have := HK3.out; omega⟩, ⟨by (with_reducible repeat (first | apply Kd.R_alloc | apply Kd.R_drewN | apply Kd.R_drew)); exact Kd.R_mono HO_10.out (fun _ hk => hk.1)⟩, ⟨by (with_reducible repeat (first | apply Kd.R_alloc | apply Kd.R_drewN | apply Kd.R_drew)); exact HO_12.out⟩, ⟨by (with_reducible repeat (first | apply Kd.R_alloc | apply Kd.R_drewN | apply Kd.R_drew)); exact Kd.R_mono HO_73.out (fun _ hk => hk.1)⟩, ⟨by (with_reducible repeat (first | refine blk_drewN ?_ _ | refine blk_drew ?_ | refine blk_alloc ?_ _)); exact BK159.out⟩, ⟨by repeat (first | (with_reducible first | exact HB.out | apply below_alloc | apply pw_below_drewN | apply below_drew1 | refine below_set ?_ GE159.out) | exact HB.out)⟩⟩
                        · rw [if_neg c39] at H
                          exact absurd H (by simp)
                      · rw [if_neg c38] at H
                        exact absurd H (by simp)
                    · rw [if_neg c37] at H
                      have c37b0 : decide (x75_2 < (t166.length : Int)) = false := decide_eq_false c37
                      clear c37
                      obtain rfl := Option.some.inj H
                      go_wp2
                      go_ret
                      exact ⟨by first | rfl | (simp [errW_none, errW_some] <;> rfl) | (simp [*, errW_none, errW_some] <;> rfl), by repeat (first | (with_reducible first | exact HB.out | apply below_alloc | apply pw_below_drewN | apply below_drew1 | refine below_set ?_ GE159.out) | exact HB.out)⟩
        · rw [if_neg c14] at H
          exact absurd H (by simp)
      · rw [if_neg c12] at H
        exact absurd H (by simp)
    · replace c6 := Bool.eq_false_iff.mpr c6
      subst c6
      have H1 : (some true) = some r := by rw [if_neg (show ¬ (false = true) by decide)] at H; exact H
      clear H
      have H := H1
      clear H1
      obtain rfl := Option.some.inj H
      go_enter Try.func14, Try.ntmps14
      go_wp2_with (first | ((with_reducible refine gate_callee (f := 35) rfl ?_); refine goesL_ (some 21) rfl rfl Try.func35 (by kernel_rfl) rfl #[] rfl (by (try simp only [List.map_toArray, List.map_cons, List.map_nil]); first | done | rfl | (simp only [List.length_drop, List.length_take]; rfl)) ?_; (with_reducible refine (storagebarterlaw04_sane.calls k  true _ A3.out).mono ?_); rintro e w48 ⟨rfl, hb⟩; refine ⟨_, rfl, ?_⟩; have n0_ := Aside0.mk (below_step (by repeat (first | (with_reducible first | exact HB.out | apply below_alloc | apply pw_below_drewN | apply below_drew1) | exact HB.out)) hb); clear HB; have HB := n0_; clear n0_; (try clear hb); (try clear hb2); (try clear hk); (try clear hi)) | ((with_reducible refine gate_callee (f := 36) rfl ?_); refine goesL_ (some 24) rfl rfl Try.func36 (by kernel_rfl) rfl #[.slice A0 l0.length c0] rfl (by (try simp only [List.map_toArray, List.map_cons, List.map_nil]); first | done | rfl | (simp only [List.length_drop, List.length_take]; rfl)) ?_; (with_reducible refine (storagebartermake_Few.calls _ _ l0 false _ ?side1 ?side2 A5.out).mono ?_); (case side1 => repeat (first | exact (Kd.C_below HR0.out HB.out) | (with_reducible refine Kd.C_alloc ?_ _) | (with_reducible refine Kd.C_drewN ?_ _) | (with_reducible refine Kd.C_drew ?_))); (case side2 => exact HC0.out); rintro e w' ⟨rfl, ⟨nd, rfl⟩⟩; refine ⟨_, rfl, ?_⟩))
      go_ret
      exact ⟨by first | rfl | (simp [errW_none, errW_some] <;> rfl) | (simp [*, errW_none, errW_some] <;> rfl), by repeat (first | (with_reducible first | exact HB.out | apply below_alloc | apply pw_below_drewN | apply below_drew1) | exact HB.out)⟩
  · replace c4 := Bool.eq_false_iff.mpr c4
    subst c4
    have H1 : (some false) = some r := by rw [if_neg (show ¬ (false = true) by decide)] at H; exact H
    clear H
    have H := H1
    clear H1
    obtain rfl := Option.some.inj H
    go_enter Try.func14, Try.ntmps14
    go_wp2_with (first | ((with_reducible refine gate_callee (f := 35) rfl ?_); refine goesL_ (some 21) rfl rfl Try.func35 (by kernel_rfl) rfl #[] rfl (by (try simp only [List.map_toArray, List.map_cons, List.map_nil]); first | done | rfl | (simp only [List.length_drop, List.length_take]; rfl)) ?_; (with_reducible refine (storagebarterlaw04_sane.calls k  false _ A3.out).mono ?_); rintro e w49 ⟨rfl, hb⟩; refine ⟨_, rfl, ?_⟩; have n0_ := Aside0.mk (below_step (by repeat (first | (with_reducible first | exact HB.out | apply below_alloc | apply pw_below_drewN | apply below_drew1) | exact HB.out)) hb); clear HB; have HB := n0_; clear n0_; (try clear hb); (try clear hb2); (try clear hk); (try clear hi)))
    go_ret
    exact ⟨by first | rfl | (simp [errW_none, errW_some] <;> rfl) | (simp [*, errW_none, errW_some] <;> rfl), by repeat (first | (with_reducible first | exact HB.out | apply below_alloc | apply pw_below_drewN | apply below_drew1) | exact HB.out)⟩

/-- THE ONE PURE STATEMENT of storagebarterlaw04_ChunkShares: yours. -/
def storagebarterlaw04_ChunkShares.Pure : Prop := ∀ (l0 : List Int) (a1 : Int), l0.length ≤ maxLen → l0.length * 8 ≤ 140737488351232 → (∀ x ∈ l0, (Lit.int .i64 x).wf = true) → (Lit.int .u8 a1).wf = true → ∃ k, storagebarterlaw04_ChunkShares.f k l0 a1 = some true
theorem storagebarterlaw04_ChunkShares.walk (P : storagebarterlaw04_ChunkShares.Pure) (a0 : Option Addr) (len0 cap0 : Nat) (z0 : List Int) (a1 : Int) (w : World) (w0 : (a0 = none ∧ len0 = 0 ∧ cap0 = 0 ∧ z0 = []) ∨ ∃ x, a0 = some x ∧ len0 ≤ cap0 ∧ cap0 ≤ maxLen ∧ z0.length = cap0 ∧ (∀ i, i < z0.length → w.cell? (x.add i) = some (.int .i64 (z0.getD i 0))) ∧ ∀ n ∈ z0, (Lit.int .i64 n).wf = true) (y0 : len0 * 8 ≤ 140737488351232) (w1 : (Lit.int .u8 a1).wf = true) :
    Calls Try.prog 14 #[.slice a0 len0 cap0, .int .u8 a1] w fun e w' => e = .returned (.bool true) ∧ Below w.heap.size w w' := by
  obtain ⟨l0, rfl, hr0, hm0, hw0, hc0⟩ := ReadsInt.ofRowC w0
  obtain ⟨k, h⟩ := P l0 a1 hm0 y0 hw0 w1
  refine (storagebarterlaw04_ChunkShares.calls k _ _ l0 a1 true w (Kd.C_of_reads (d := (0 : Int)) (h1 := fun _ => rfl) hr0) hc0 h).mono ?_
  rintro e w' ⟨rfl, hd⟩
  exact ⟨rfl, hd⟩

end Go.Proofs.Ytepffabkcbfejaa.PChunkShares
