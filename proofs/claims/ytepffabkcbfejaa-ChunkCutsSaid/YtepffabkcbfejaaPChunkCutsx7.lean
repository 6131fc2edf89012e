-- Written by a program of this repository (wip/tools/myprint.py over the print of the kit): contracts and rows.
import Derived.Test.YtepffabkcbfejaaPChunkCutsx0
import Derived.Test.YtepffabkcbfejaaPChunkCutsx1
import Derived.Test.YtepffabkcbfejaaPChunkCutsx2
import Derived.Test.YtepffabkcbfejaaPChunkCutsx3
import Derived.Test.YtepffabkcbfejaaPChunkCutsx4
import Derived.Test.YtepffabkcbfejaaPChunkCutsx5
import Derived.Test.YtepffabkcbfejaaPChunkCutsx6
namespace Go.Proofs.Ytepffabkcbfejaa.PChunkCuts
open Go.RowKit Go.Proofs.YtepffabkcbfejaaW.PrintWords Go.Proofs.YtepffabkcbfejaaW.PrintLast Go.Proofs.YtepffabkcbfejaaW.PrintMore
attribute [local go_sem] max2_int min2_int max_two min_two max_three min_three max_four min_four   -- for this text's walks alone
set_option linter.unusedVariables false
set_option linter.unusedSimpArgs false

/-! ### storagebarterlaw04_ChunkCuts: function 13 -/
mutual
def storagebarterlaw04_ChunkCuts.j0 : Nat → List Int → ByteArray → ByteArray → Int → Bool → Int → Int → Int → Int → Option (Bool)
  | 0, _, _, _, _, _, _, _, _, _ => none
  | k + 1, x0, x1, x2, x4, x45, x190000, x190001, x190002, x190003 => if x45 = true then (some true) else ((storagebartermake_New.f x0).bind fun bt192 => ((storagebartermake_Text.f k bt192.1 bt192.2 200).bind fun bt195 => ((storagebartermake_Text.f k bt192.1 bt195.2 80).bind fun bt197 => ((storagebartermake_Cutting.f bt192.1 bt197.2).bind fun bt199 => ((some (([(⟨x190000, x190001, x190002, x190003⟩ : S58), (⟨bt199.1, bt199.2.1, bt199.2.2.1, bt199.2.2.2.1⟩ : S58), (⟨4, 256, 4, 1024⟩ : S58)] : List (S58)) : List (S58))).bind fun y205 => (storagebarterlaw04_ChunkCuts.l0 k x1 x2 x4 bt195.1 bt197.1 y205 (y205.length : Int) 0))))))
def storagebarterlaw04_ChunkCuts.l0 : Nat → ByteArray → ByteArray → Int → ByteArray → ByteArray → List (S58) → Int → Int → Option (Bool)
  | 0, _, _, _, _, _, _, _, _ => none
  | k + 1, x1, x2, x4, x12, x13, x57, x58, x59 => if x59 < x58 then (if 0 ≤ x59 then (if x59 < (x57.length : Int) then ((chunk_Check.f ((rd_T58 x57 x59).f0) ((rd_T58 x57 x59).f1) ((rd_T58 x57 x59).f2) ((rd_T58 x57 x59).f3)).bind fun t210 => ((storagebarterref04_Check.f ((rd_T58 x57 x59).f0) ((rd_T58 x57 x59).f1) ((rd_T58 x57 x59).f2) ((rd_T58 x57 x59).f3)).bind fun t211 => (if t210 = t211 then (if x12.size + x1.size ≤ 9223372036854775807 then (if x1.size + x12.size ≤ 9223372036854775807 then ((some (([x1, x12, x12 ++ x1, x1 ++ x12] : List ByteArray) : List ByteArray)).bind fun y212 => (storagebarterlaw04_ChunkCuts.l1 k x1 x2 x4 x12 x13 x57 x58 x59 y212 (y212.length : Int) 0 ((rd_T58 x57 x59).f0) ((rd_T58 x57 x59).f1) ((rd_T58 x57 x59).f2) ((rd_T58 x57 x59).f3))) else (none)) else (none)) else (some false)))) else (none)) else (none)) else ((storagebartermake_Mod.f x4 9).bind fun t238 => ((some (([x4, t238] : List Int) : List Int)).bind fun y239 => (storagebarterlaw04_ChunkCuts.l2 k x1 y239 (y239.length : Int) 0)))
def storagebarterlaw04_ChunkCuts.l1 : Nat → ByteArray → ByteArray → Int → ByteArray → ByteArray → List (S58) → Int → Int → List ByteArray → Int → Int → Int → Int → Int → Int → Option (Bool)
  | 0, _, _, _, _, _, _, _, _, _, _, _, _, _, _, _ => none
  | k + 1, x1, x2, x4, x12, x13, x57, x58, x59, x76, x77, x78, x210000, x210001, x210002, x210003 => if x78 < x77 then (if 0 ≤ x78 then (if x78 < (x76.length : Int) then ((chunk_Cut.f k (rdOf ByteArray.empty x76 x78) x210000 x210001 x210002 x210003).bind fun bt216 => ((storagebarterref04_Cut.f k (rdOf ByteArray.empty x76 x78) x210000 x210001 x210002 x210003).bind fun bt220 => ((chunk_Ends.f (rdOf ByteArray.empty x76 x78) x210000 x210001 x210002 x210003).bind fun bt224 => ((storagebarterref04_Ends.f k (rdOf ByteArray.empty x76 x78) x210000 x210001 x210002 x210003).bind fun bt228 => (if x2.size + x13.size ≤ 9223372036854775807 then ((chunk_Common.f k (rdOf ByteArray.empty x76 x78) (x2 ++ x13) x210000 x210001 x210002 x210003).bind fun bt232 => ((storagebarterref04_Common.f k (rdOf ByteArray.empty x76 x78) (x2 ++ x13) x210000 x210001 x210002 x210003).bind fun bt234 => (if bt216.2 = bt220.2 then (if bt224.2 = bt228.2 then (if bt232.2 = bt234.2 then (if bt232.1 = bt234.1 then ((storagebarterref04_Same.f k bt216.1 bt220.1).bind fun t236 => (if t236 = true then ((storagebarterlaw04_ints.f k bt224.1 bt228.1).bind fun t237 => (if t237 = true then (storagebarterlaw04_ChunkCuts.l1 k x1 x2 x4 x12 x13 x57 x58 x59 x76 x77 (wrap64 (x78 + 1)) x210000 x210001 x210002 x210003) else (some false))) else (some false))) else (some false)) else (some false)) else (some false)) else (some false)))) else (none)))))) else (none)) else (none)) else (storagebarterlaw04_ChunkCuts.l0 k x1 x2 x4 x12 x13 x57 x58 (wrap64 (x59 + 1)))
def storagebarterlaw04_ChunkCuts.l2 : Nat → ByteArray → List Int → Int → Int → Option (Bool)
  | 0, _, _, _, _ => none
  | k + 1, x1, x159, x160, x161 => if x161 < x160 then (if 0 ≤ x161 then (if x161 < (x159.length : Int) then ((chunk_Weight.f x1 (rd x159 x161)).bind fun t243 => ((storagebarterref04_Weight.f k x1 (rd x159 x161)).bind fun t244 => (if t243 = t244 then (storagebarterlaw04_ChunkCuts.l2 k x1 x159 x160 (wrap64 (x161 + 1))) else (some false)))) else (none)) else (none)) else (some true)
end
def storagebarterlaw04_ChunkCuts.f (k : Nat) (l0 : List Int) (a1 : ByteArray) (a2 : ByteArray) (a3_0 : Int) (a3_1 : Int) (a3_2 : Int) (a3_3 : Int) (a4 : Int) : Option (Bool) := (storagebarterlaw04_sane.f k).bind fun t190 => (if t190 = true then ((storagebartermake_Few.f l0).bind fun t191 => (if t191 = true then (storagebarterlaw04_ChunkCuts.j0 k l0 a1 a2 a4 (decide ((wrap64 ((a1.size : Int) + (a2.size : Int))) > 3000)) a3_0 a3_1 a3_2 a3_3) else (storagebarterlaw04_ChunkCuts.j0 k l0 a1 a2 a4 true a3_0 a3_1 a3_2 a3_3))) else (some false))
theorem storagebarterlaw04_ChunkCuts.mono_l : ∀ k, (∀ y0 y1 y2 y3 y4 y5 y6 y7 y8, LeO (storagebarterlaw04_ChunkCuts.j0 k y0 y1 y2 y3 y4 y5 y6 y7 y8) (storagebarterlaw04_ChunkCuts.j0 (k + 1) y0 y1 y2 y3 y4 y5 y6 y7 y8)) ∧ (∀ y0 y1 y2 y3 y4 y5 y6 y7, LeO (storagebarterlaw04_ChunkCuts.l0 k y0 y1 y2 y3 y4 y5 y6 y7) (storagebarterlaw04_ChunkCuts.l0 (k + 1) y0 y1 y2 y3 y4 y5 y6 y7)) ∧ (∀ y0 y1 y2 y3 y4 y5 y6 y7 y8 y9 y10 y11 y12 y13 y14, LeO (storagebarterlaw04_ChunkCuts.l1 k y0 y1 y2 y3 y4 y5 y6 y7 y8 y9 y10 y11 y12 y13 y14) (storagebarterlaw04_ChunkCuts.l1 (k + 1) y0 y1 y2 y3 y4 y5 y6 y7 y8 y9 y10 y11 y12 y13 y14)) ∧ (∀ y0 y1 y2 y3, LeO (storagebarterlaw04_ChunkCuts.l2 k y0 y1 y2 y3) (storagebarterlaw04_ChunkCuts.l2 (k + 1) y0 y1 y2 y3))
  | 0 => ⟨fun _ _ _ _ _ _ _ _ _ r h => by simp [storagebarterlaw04_ChunkCuts.j0] at h, fun _ _ _ _ _ _ _ _ r h => by simp [storagebarterlaw04_ChunkCuts.l0] at h, fun _ _ _ _ _ _ _ _ _ _ _ _ _ _ _ r h => by simp [storagebarterlaw04_ChunkCuts.l1] at h, fun _ _ _ _ r h => by simp [storagebarterlaw04_ChunkCuts.l2] at h⟩
  | k + 1 => by
    obtain ⟨ih0, ih1, ih2, ih3⟩ := storagebarterlaw04_ChunkCuts.mono_l k
    refine ⟨?_, ?_, ?_, ?_⟩
    · intro y0 y1 y2 y3 y4 y5 y6 y7 y8
      unfold storagebarterlaw04_ChunkCuts.j0
      repeat' first
      | (with_reducible exact ih0 _ _ _ _ _ _ _ _ _)
      | (with_reducible exact ih1 _ _ _ _ _ _ _ _)
      | (with_reducible exact ih2 _ _ _ _ _ _ _ _ _ _ _ _ _ _ _)
      | (with_reducible exact ih3 _ _ _ _)
      | (with_reducible exact chunk_Common.mono _ _ _ _ _ _ _)
      | (with_reducible exact chunk_Cut.mono _ _ _ _ _ _)
      | (with_reducible exact storagebarterlaw04_ints.mono _ _ _)
      | (with_reducible exact storagebarterlaw04_sane.mono _)
      | (with_reducible exact storagebartermake_Text.mono _ _ _ _)
      | (with_reducible exact storagebarterref04_Common.mono _ _ _ _ _ _ _)
      | (with_reducible exact storagebarterref04_Cut.mono _ _ _ _ _ _)
      | (with_reducible exact storagebarterref04_Ends.mono _ _ _ _ _ _)
      | (with_reducible exact storagebarterref04_Same.mono _ _ _)
      | (with_reducible exact storagebarterref04_Weight.mono _ _ _)
      | (with_reducible exact LeO.refl _)
      | (with_reducible exact LeO.none _)
      | (with_reducible refine LeO.ite ?_ ?_)
      | (with_reducible refine LeO.bind ?_ (fun _ => ?_))
      | exact ih0 _ _ _ _ _ _ _ _ _
      | exact ih1 _ _ _ _ _ _ _ _
      | exact ih2 _ _ _ _ _ _ _ _ _ _ _ _ _ _ _
      | exact ih3 _ _ _ _
      | exact chunk_Common.mono _ _ _ _ _ _ _
      | exact chunk_Cut.mono _ _ _ _ _ _
      | exact storagebarterlaw04_ints.mono _ _ _
      | exact storagebarterlaw04_sane.mono _
      | exact storagebartermake_Text.mono _ _ _ _
      | exact storagebarterref04_Common.mono _ _ _ _ _ _ _
      | exact storagebarterref04_Cut.mono _ _ _ _ _ _
      | exact storagebarterref04_Ends.mono _ _ _ _ _ _
      | exact storagebarterref04_Same.mono _ _ _
      | exact storagebarterref04_Weight.mono _ _ _
      | exact LeO.none _
      | refine LeO.ite ?_ ?_
      | refine LeO.bind ?_ (fun _ => ?_)
    · intro y0 y1 y2 y3 y4 y5 y6 y7
      unfold storagebarterlaw04_ChunkCuts.l0
      repeat' first
      | (with_reducible exact ih0 _ _ _ _ _ _ _ _ _)
      | (with_reducible exact ih1 _ _ _ _ _ _ _ _)
      | (with_reducible exact ih2 _ _ _ _ _ _ _ _ _ _ _ _ _ _ _)
      | (with_reducible exact ih3 _ _ _ _)
      | (with_reducible exact chunk_Common.mono _ _ _ _ _ _ _)
      | (with_reducible exact chunk_Cut.mono _ _ _ _ _ _)
      | (with_reducible exact storagebarterlaw04_ints.mono _ _ _)
      | (with_reducible exact storagebarterlaw04_sane.mono _)
      | (with_reducible exact storagebartermake_Text.mono _ _ _ _)
      | (with_reducible exact storagebarterref04_Common.mono _ _ _ _ _ _ _)
      | (with_reducible exact storagebarterref04_Cut.mono _ _ _ _ _ _)
      | (with_reducible exact storagebarterref04_Ends.mono _ _ _ _ _ _)
      | (with_reducible exact storagebarterref04_Same.mono _ _ _)
      | (with_reducible exact storagebarterref04_Weight.mono _ _ _)
      | (with_reducible exact LeO.refl _)
      | (with_reducible exact LeO.none _)
      | (with_reducible refine LeO.ite ?_ ?_)
      | (with_reducible refine LeO.bind ?_ (fun _ => ?_))
      | exact ih0 _ _ _ _ _ _ _ _ _
      | exact ih1 _ _ _ _ _ _ _ _
      | exact ih2 _ _ _ _ _ _ _ _ _ _ _ _ _ _ _
      | exact ih3 _ _ _ _
      | exact chunk_Common.mono _ _ _ _ _ _ _
      | exact chunk_Cut.mono _ _ _ _ _ _
      | exact storagebarterlaw04_ints.mono _ _ _
      | exact storagebarterlaw04_sane.mono _
      | exact storagebartermake_Text.mono _ _ _ _
      | exact storagebarterref04_Common.mono _ _ _ _ _ _ _
      | exact storagebarterref04_Cut.mono _ _ _ _ _ _
      | exact storagebarterref04_Ends.mono _ _ _ _ _ _
      | exact storagebarterref04_Same.mono _ _ _
      | exact storagebarterref04_Weight.mono _ _ _
      | exact LeO.none _
      | refine LeO.ite ?_ ?_
      | refine LeO.bind ?_ (fun _ => ?_)
    · intro y0 y1 y2 y3 y4 y5 y6 y7 y8 y9 y10 y11 y12 y13 y14
      unfold storagebarterlaw04_ChunkCuts.l1
      repeat' first
      | (with_reducible exact ih0 _ _ _ _ _ _ _ _ _)
      | (with_reducible exact ih1 _ _ _ _ _ _ _ _)
      | (with_reducible exact ih2 _ _ _ _ _ _ _ _ _ _ _ _ _ _ _)
      | (with_reducible exact ih3 _ _ _ _)
      | (with_reducible exact chunk_Common.mono _ _ _ _ _ _ _)
      | (with_reducible exact chunk_Cut.mono _ _ _ _ _ _)
      | (with_reducible exact storagebarterlaw04_ints.mono _ _ _)
      | (with_reducible exact storagebarterlaw04_sane.mono _)
      | (with_reducible exact storagebartermake_Text.mono _ _ _ _)
      | (with_reducible exact storagebarterref04_Common.mono _ _ _ _ _ _ _)
      | (with_reducible exact storagebarterref04_Cut.mono _ _ _ _ _ _)
      | (with_reducible exact storagebarterref04_Ends.mono _ _ _ _ _ _)
      | (with_reducible exact storagebarterref04_Same.mono _ _ _)
      | (with_reducible exact storagebarterref04_Weight.mono _ _ _)
      | (with_reducible exact LeO.refl _)
      | (with_reducible exact LeO.none _)
      | (with_reducible refine LeO.ite ?_ ?_)
      | (with_reducible refine LeO.bind ?_ (fun _ => ?_))
      | exact ih0 _ _ _ _ _ _ _ _ _
      | exact ih1 _ _ _ _ _ _ _ _
      | exact ih2 _ _ _ _ _ _ _ _ _ _ _ _ _ _ _
      | exact ih3 _ _ _ _
      | exact chunk_Common.mono _ _ _ _ _ _ _
      | exact chunk_Cut.mono _ _ _ _ _ _
      | exact storagebarterlaw04_ints.mono _ _ _
      | exact storagebarterlaw04_sane.mono _
      | exact storagebartermake_Text.mono _ _ _ _
      | exact storagebarterref04_Common.mono _ _ _ _ _ _ _
      | exact storagebarterref04_Cut.mono _ _ _ _ _ _
      | exact storagebarterref04_Ends.mono _ _ _ _ _ _
      | exact storagebarterref04_Same.mono _ _ _
      | exact storagebarterref04_Weight.mono _ _ _
      | exact LeO.none _
      | refine LeO.ite ?_ ?_
      | refine LeO.bind ?_ (fun _ => ?_)
    · intro y0 y1 y2 y3
      unfold storagebarterlaw04_ChunkCuts.l2
      repeat' first
      | (with_reducible exact ih0 _ _ _ _ _ _ _ _ _)
      | (with_reducible exact ih1 _ _ _ _ _ _ _ _)
      | (with_reducible exact ih2 _ _ _ _ _ _ _ _ _ _ _ _ _ _ _)
      | (with_reducible exact ih3 _ _ _ _)
      | (with_reducible exact chunk_Common.mono _ _ _ _ _ _ _)
      | (with_reducible exact chunk_Cut.mono _ _ _ _ _ _)
      | (with_reducible exact storagebarterlaw04_ints.mono _ _ _)
      | (with_reducible exact storagebarterlaw04_sane.mono _)
      | (with_reducible exact storagebartermake_Text.mono _ _ _ _)
      | (with_reducible exact storagebarterref04_Common.mono _ _ _ _ _ _ _)
      | (with_reducible exact storagebarterref04_Cut.mono _ _ _ _ _ _)
      | (with_reducible exact storagebarterref04_Ends.mono _ _ _ _ _ _)
      | (with_reducible exact storagebarterref04_Same.mono _ _ _)
      | (with_reducible exact storagebarterref04_Weight.mono _ _ _)
      | (with_reducible exact LeO.refl _)
      | (with_reducible exact LeO.none _)
      | (with_reducible refine LeO.ite ?_ ?_)
      | (with_reducible refine LeO.bind ?_ (fun _ => ?_))
      | exact ih0 _ _ _ _ _ _ _ _ _
      | exact ih1 _ _ _ _ _ _ _ _
      | exact ih2 _ _ _ _ _ _ _ _ _ _ _ _ _ _ _
      | exact ih3 _ _ _ _
      | exact chunk_Common.mono _ _ _ _ _ _ _
      | exact chunk_Cut.mono _ _ _ _ _ _
      | exact storagebarterlaw04_ints.mono _ _ _
      | exact storagebarterlaw04_sane.mono _
      | exact storagebartermake_Text.mono _ _ _ _
      | exact storagebarterref04_Common.mono _ _ _ _ _ _ _
      | exact storagebarterref04_Cut.mono _ _ _ _ _ _
      | exact storagebarterref04_Ends.mono _ _ _ _ _ _
      | exact storagebarterref04_Same.mono _ _ _
      | exact storagebarterref04_Weight.mono _ _ _
      | exact LeO.none _
      | refine LeO.ite ?_ ?_
      | refine LeO.bind ?_ (fun _ => ?_)
theorem storagebarterlaw04_ChunkCuts.mono : ∀ a0 a1 a2 a3 a4 a5 a6 a7 k, LeO (storagebarterlaw04_ChunkCuts.f k a0 a1 a2 a3 a4 a5 a6 a7) (storagebarterlaw04_ChunkCuts.f (k + 1) a0 a1 a2 a3 a4 a5 a6 a7) := by
  intro a0 a1 a2 a3 a4 a5 a6 a7 k
  obtain ⟨ih0, ih1, ih2, ih3⟩ := storagebarterlaw04_ChunkCuts.mono_l k
  unfold storagebarterlaw04_ChunkCuts.f
  repeat' first
      | (with_reducible exact ih0 _ _ _ _ _ _ _ _ _)
      | (with_reducible exact ih1 _ _ _ _ _ _ _ _)
      | (with_reducible exact ih2 _ _ _ _ _ _ _ _ _ _ _ _ _ _ _)
      | (with_reducible exact ih3 _ _ _ _)
      | (with_reducible exact chunk_Common.mono _ _ _ _ _ _ _)
      | (with_reducible exact chunk_Cut.mono _ _ _ _ _ _)
      | (with_reducible exact storagebarterlaw04_ints.mono _ _ _)
      | (with_reducible exact storagebarterlaw04_sane.mono _)
      | (with_reducible exact storagebartermake_Text.mono _ _ _ _)
      | (with_reducible exact storagebarterref04_Common.mono _ _ _ _ _ _ _)
      | (with_reducible exact storagebarterref04_Cut.mono _ _ _ _ _ _)
      | (with_reducible exact storagebarterref04_Ends.mono _ _ _ _ _ _)
      | (with_reducible exact storagebarterref04_Same.mono _ _ _)
      | (with_reducible exact storagebarterref04_Weight.mono _ _ _)
      | (with_reducible exact LeO.refl _)
      | (with_reducible exact LeO.none _)
      | (with_reducible refine LeO.ite ?_ ?_)
      | (with_reducible refine LeO.bind ?_ (fun _ => ?_))
      | exact ih0 _ _ _ _ _ _ _ _ _
      | exact ih1 _ _ _ _ _ _ _ _
      | exact ih2 _ _ _ _ _ _ _ _ _ _ _ _ _ _ _
      | exact ih3 _ _ _ _
      | exact chunk_Common.mono _ _ _ _ _ _ _
      | exact chunk_Cut.mono _ _ _ _ _ _
      | exact storagebarterlaw04_ints.mono _ _ _
      | exact storagebarterlaw04_sane.mono _
      | exact storagebartermake_Text.mono _ _ _ _
      | exact storagebarterref04_Common.mono _ _ _ _ _ _ _
      | exact storagebarterref04_Cut.mono _ _ _ _ _ _
      | exact storagebarterref04_Ends.mono _ _ _ _ _ _
      | exact storagebarterref04_Same.mono _ _ _
      | exact storagebarterref04_Weight.mono _ _ _
      | exact LeO.none _
      | refine LeO.ite ?_ ?_
      | refine LeO.bind ?_ (fun _ => ?_)
set_option maxHeartbeats 8000000 in
set_option maxRecDepth 100000 in
theorem storagebarterlaw04_ChunkCuts.calls (k : Nat) (A0 : Option Addr) (c0 : Nat) (l0 : List Int) (a1 : ByteArray) (a2 : ByteArray) (a3_0 : Int) (a3_1 : Int) (a3_2 : Int) (a3_3 : Int) (a4 : Int) (r : Bool) (w : World) (hr0 : Kd.C (Kd.int .i64) w A0 l0.length l0) (hc0 : l0.length ≤ c0) (h : storagebarterlaw04_ChunkCuts.f k l0 a1 a2 a3_0 a3_1 a3_2 a3_3 a4 = some r) (hrt_ : r = true) :
    Calls Try.prog 13 #[.slice A0 l0.length c0, .string a1, .string a2, .agg #[.int .i64 a3_0, .int .i64 a3_1, .int .i64 a3_2, .int .i64 a3_3], .int .i64 a4] w fun e w' => e = .returned (.bool r) ∧ Below w.heap.size w w' := by
  have HRT_ := Aside0.mk hrt_
  clear hrt_
  have hu58 := Try.underlying58
  have HR0 := Aside0.mk hr0
  have HC0 := Aside0.mk hc0
  clear hr0 hc0
  have HB := Aside0.mk (Below.refl w.heap.size w)
  have H : ((storagebarterlaw04_sane.f k).bind fun t190 => (if t190 = true then ((storagebartermake_Few.f l0).bind fun t191 => (if t191 = true then (storagebarterlaw04_ChunkCuts.j0 k l0 a1 a2 a4 (decide ((wrap64 ((a1.size : Int) + (a2.size : Int))) > 3000)) a3_0 a3_1 a3_2 a3_3) else (storagebarterlaw04_ChunkCuts.j0 k l0 a1 a2 a4 true a3_0 a3_1 a3_2 a3_3))) else (some false))) = some r := h
  clear h
  replace H := Option.bind_eq_some_iff.mp H
  obtain ⟨t190, A60, H⟩ := H
  replace H : (if t190 = true then ((storagebartermake_Few.f l0).bind fun t191 => (if t191 = true then (storagebarterlaw04_ChunkCuts.j0 k l0 a1 a2 a4 (decide ((wrap64 ((a1.size : Int) + (a2.size : Int))) > 3000)) a3_0 a3_1 a3_2 a3_3) else (storagebarterlaw04_ChunkCuts.j0 k l0 a1 a2 a4 true a3_0 a3_1 a3_2 a3_3))) else (some false)) = some r := H
  have A6 := Aside0.mk A60
  clear A60
  by_cases c7 : t190 = true
  · subst c7
    have H1 : ((storagebartermake_Few.f l0).bind fun t191 => (if t191 = true then (storagebarterlaw04_ChunkCuts.j0 k l0 a1 a2 a4 (decide ((wrap64 ((a1.size : Int) + (a2.size : Int))) > 3000)) a3_0 a3_1 a3_2 a3_3) else (storagebarterlaw04_ChunkCuts.j0 k l0 a1 a2 a4 true a3_0 a3_1 a3_2 a3_3))) = some r := by rw [if_pos rfl] at H; exact H
    clear H
    have H := H1
    clear H1
    have HC8 := Aside0.mk H
    clear H
    go_enter Try.func13, Try.ntmps13
    go_upto_region 3 with (first | ((with_reducible refine gate_dst (N := 8) rfl ?_); (try (refine gate_guard (by rfl) ?_; dsimp only)); refine box_event ?hg (N := 8) ?hd (cs := #[.int .i64 a3_0, .int .i64 a3_1, .int .i64 a3_2, .int .i64 a3_3]) (t := 58) ?hr ?_; (case hd => rfl); (case hg => rfl); (case hr => first | (go_simp; done) | (go_simp; rfl)); intro gb189 hg w9 hbox hb; have n0_ := Aside0.mk (below_step (by repeat (first | (with_reducible first | exact HB.out | apply below_alloc | apply pw_below_drewN | apply below_drew1) | exact HB.out)) hb); have n1_ := Aside0.mk (hbox); have n2_ := Aside0.mk ((by rw [hg]; exact (below_size (by repeat (first | (with_reducible first | exact HB.out | apply below_alloc | apply pw_below_drewN | apply below_drew1) | exact HB.out))) : w.heap.size ≤ gb189)); have n3_ := Aside0.mk ((by rw [hg]; exact (below_size (by repeat (first | (with_reducible first | exact HB.out | apply below_alloc | apply pw_below_drewN | apply below_drew1) | exact HB.out))) : w.heap.size ≤ gb189)); clear HB; have HB := n0_; have BK189 := n1_; have GW189 := n2_; have GE189 := n3_; clear n0_ n1_ n2_ n3_; clear hb hbox hg) | ((with_reducible refine gate_callee (f := 35) rfl ?_); refine goesL_ (some 33) rfl rfl Try.func35 (by kernel_rfl) rfl #[] rfl (by (try simp only [List.map_toArray, List.map_cons, List.map_nil]); first | done | rfl | (simp only [List.length_drop, List.length_take]; rfl)) ?_; (with_reducible refine (storagebarterlaw04_sane.calls k  true _ A6.out).mono ?_); rintro e w10 ⟨rfl, hb⟩; refine ⟨_, rfl, ?_⟩; have n0_ := Aside0.mk (blk_below (g := gb189) (o := .cells #[.int .i64 a3_0, .int .i64 a3_1, .int .i64 a3_2, .int .i64 a3_3] 58 (0, 0)) (by (with_reducible repeat (first | refine blk_drewN ?_ _ | refine blk_drew ?_ | refine blk_alloc ?_ _)); exact BK189.out) hb); have n1_ := Aside0.mk (below_step (by repeat (first | (with_reducible first | exact HB.out | apply below_alloc | apply pw_below_drewN | apply below_drew1 | refine below_set ?_ GE189.out) | exact HB.out)) hb); clear BK189; clear HB; have BK189 := n0_; have HB := n1_; clear n0_ n1_; (try clear hb); (try clear hb2); (try clear hk); (try clear hi)))
    (try simp only [Act.put, List.setIfInBounds_toArray, List.set_cons_zero, List.set_cons_succ])
    go_cut [45] (fun v45 wc => ∃ (kq : Nat) (x45_7 : Bool), v45 = .bool x45_7 ∧ Aside0 (storagebarterlaw04_ChunkCuts.j0 kq l0 a1 a2 a4 x45_7 a3_0 a3_1 a3_2 a3_3 = some r) ∧ Aside0 (kq ≤ k) ∧ Aside0 (wc.heap[gb189]? = some (.cells #[.int .i64 a3_0, .int .i64 a3_1, .int .i64 a3_2, .int .i64 a3_3] 58 (0, 0))) ∧ Aside0 (Below w.heap.size w wc))
    case first =>
      have H := HC8.out
      clear HC8
      replace H := Option.bind_eq_some_iff.mp H
      obtain ⟨t191, A110, H⟩ := H
      replace H : (if t191 = true then (storagebarterlaw04_ChunkCuts.j0 k l0 a1 a2 a4 (decide ((wrap64 ((a1.size : Int) + (a2.size : Int))) > 3000)) a3_0 a3_1 a3_2 a3_3) else (storagebarterlaw04_ChunkCuts.j0 k l0 a1 a2 a4 true a3_0 a3_1 a3_2 a3_3)) = some r := H
      have A11 := Aside0.mk A110
      clear A110
      by_cases c12 : t191 = true
      · subst c12
        have H1 : (storagebarterlaw04_ChunkCuts.j0 k l0 a1 a2 a4 (decide ((wrap64 ((a1.size : Int) + (a2.size : Int))) > 3000)) a3_0 a3_1 a3_2 a3_3) = some r := by rw [if_pos rfl] at H; exact H
        clear H
        have H := H1
        clear H1
        have H' := Aside0.mk H
        clear H
        go_wp2_with (first | ((with_reducible refine gate_callee (f := 36) rfl ?_); refine goesL_ (some 36) rfl rfl Try.func36 (by kernel_rfl) rfl #[.slice A0 l0.length c0] rfl (by (try simp only [List.map_toArray, List.map_cons, List.map_nil]); first | done | rfl | (simp only [List.length_drop, List.length_take]; rfl)) ?_; (with_reducible refine (storagebartermake_Few.calls _ _ l0 true _ ?side1 ?side2 A11.out).mono ?_); (case side1 => repeat (first | exact (Kd.C_below HR0.out HB.out) | (with_reducible refine Kd.C_alloc ?_ _) | (with_reducible refine Kd.C_drewN ?_ _) | (with_reducible refine Kd.C_drew ?_))); (case side2 => exact HC0.out); rintro e w' ⟨rfl, ⟨nd, rfl⟩⟩; refine ⟨_, rfl, ?_⟩))
        go_meet
        case rel => exact ⟨_, (decide ((wrap64 ((a1.size : Int) + (a2.size : Int))) > 3000)), (by first | rfl | (simp; done) | (simp [*]; done)), H', ⟨by first | omega | exact Nat.le_refl _⟩, ⟨by (with_reducible repeat (first | refine blk_drewN ?_ _ | refine blk_drew ?_ | refine blk_alloc ?_ _)); exact BK189.out⟩, ⟨by repeat (first | (with_reducible first | exact HB.out | apply below_alloc | apply pw_below_drewN | apply below_drew1 | refine below_set ?_ GE189.out) | exact HB.out)⟩⟩
      · replace c12 := Bool.eq_false_iff.mpr c12
        subst c12
        have H1 : (storagebarterlaw04_ChunkCuts.j0 k l0 a1 a2 a4 true a3_0 a3_1 a3_2 a3_3) = some r := by rw [if_neg (show ¬ (false = true) by decide)] at H; exact H
        clear H
        have H := H1
        clear H1
        have H' := Aside0.mk H
        clear H
        go_wp2_with (first | ((with_reducible refine gate_callee (f := 36) rfl ?_); refine goesL_ (some 36) rfl rfl Try.func36 (by kernel_rfl) rfl #[.slice A0 l0.length c0] rfl (by (try simp only [List.map_toArray, List.map_cons, List.map_nil]); first | done | rfl | (simp only [List.length_drop, List.length_take]; rfl)) ?_; (with_reducible refine (storagebartermake_Few.calls _ _ l0 false _ ?side1 ?side2 A11.out).mono ?_); (case side1 => repeat (first | exact (Kd.C_below HR0.out HB.out) | (with_reducible refine Kd.C_alloc ?_ _) | (with_reducible refine Kd.C_drewN ?_ _) | (with_reducible refine Kd.C_drew ?_))); (case side2 => exact HC0.out); rintro e w' ⟨rfl, ⟨nd, rfl⟩⟩; refine ⟨_, rfl, ?_⟩))
        go_meet
        case rel => exact ⟨_, (true), (by first | rfl | (simp; done) | (simp [*]; done)), H', ⟨by first | omega | exact Nat.le_refl _⟩, ⟨by (with_reducible repeat (first | refine blk_drewN ?_ _ | refine blk_drew ?_ | refine blk_alloc ?_ _)); exact BK189.out⟩, ⟨by repeat (first | (with_reducible first | exact HB.out | apply below_alloc | apply pw_below_drewN | apply below_drew1 | refine below_set ?_ GE189.out) | exact HB.out)⟩⟩
    case rest =>
      clear HC8
      try clear c1
      try clear p2
      try clear c3
      try clear p6
      try clear c7
      try clear c12
      obtain ⟨kq, x45_7, rfl, HA, HJ7, BK189, HB⟩ := hcut
      cases kq with
      | zero => exact absurd HA.out (by simp [storagebarterlaw04_ChunkCuts.j0])
      | succ kj7 =>
        have H := HA.out
        clear HA
        simp only [storagebarterlaw04_ChunkCuts.j0] at H
        by_cases c13 : x45_7 = true
        · subst c13
          have H1 : (some true) = some r := by rw [if_pos rfl] at H; exact H
          clear H
          have H := H1
          clear H1
          obtain rfl := Option.some.inj H
          go_wp2
          go_ret
          exact ⟨by first | rfl | (simp [errW_none, errW_some] <;> rfl) | (simp [*, errW_none, errW_some] <;> rfl), by repeat (first | (with_reducible first | exact HB.out | apply below_alloc | apply pw_below_drewN | apply below_drew1 | refine below_set ?_ GE189.out) | exact HB.out)⟩
        · replace c13 := Bool.eq_false_iff.mpr c13
          subst c13
          have H1 : ((storagebartermake_New.f l0).bind fun bt192 => ((storagebartermake_Text.f kj7 bt192.1 bt192.2 200).bind fun bt195 => ((storagebartermake_Text.f kj7 bt192.1 bt195.2 80).bind fun bt197 => ((storagebartermake_Cutting.f bt192.1 bt197.2).bind fun bt199 => ((some (([(⟨a3_0, a3_1, a3_2, a3_3⟩ : S58), (⟨bt199.1, bt199.2.1, bt199.2.2.1, bt199.2.2.2.1⟩ : S58), (⟨4, 256, 4, 1024⟩ : S58)] : List (S58)) : List (S58))).bind fun y205 => (storagebarterlaw04_ChunkCuts.l0 kj7 a1 a2 a4 bt195.1 bt197.1 y205 (y205.length : Int) 0)))))) = some r := by rw [if_neg (show ¬ (false = true) by decide)] at H; exact H
          clear H
          have H := H1
          clear H1
          replace H := Option.bind_eq_some_iff.mp H
          obtain ⟨⟨t192, t193⟩, A140, H⟩ := H
          replace H : ((storagebartermake_Text.f kj7 t192 t193 200).bind fun bt195 => ((storagebartermake_Text.f kj7 t192 bt195.2 80).bind fun bt197 => ((storagebartermake_Cutting.f t192 bt197.2).bind fun bt199 => ((some (([(⟨a3_0, a3_1, a3_2, a3_3⟩ : S58), (⟨bt199.1, bt199.2.1, bt199.2.2.1, bt199.2.2.2.1⟩ : S58), (⟨4, 256, 4, 1024⟩ : S58)] : List (S58)) : List (S58))).bind fun y205 => (storagebarterlaw04_ChunkCuts.l0 kj7 a1 a2 a4 bt195.1 bt197.1 y205 (y205.length : Int) 0))))) = some r := H
          have A14 := Aside0.mk A140
          clear A140
          replace H := Option.bind_eq_some_iff.mp H
          obtain ⟨⟨t195, t196⟩, A150, H⟩ := H
          replace H : ((storagebartermake_Text.f kj7 t192 t196 80).bind fun bt197 => ((storagebartermake_Cutting.f t192 bt197.2).bind fun bt199 => ((some (([(⟨a3_0, a3_1, a3_2, a3_3⟩ : S58), (⟨bt199.1, bt199.2.1, bt199.2.2.1, bt199.2.2.2.1⟩ : S58), (⟨4, 256, 4, 1024⟩ : S58)] : List (S58)) : List (S58))).bind fun y205 => (storagebarterlaw04_ChunkCuts.l0 kj7 a1 a2 a4 t195 bt197.1 y205 (y205.length : Int) 0)))) = some r := H
          have A15 := Aside0.mk A150
          clear A150
          replace H := Option.bind_eq_some_iff.mp H
          obtain ⟨⟨t197, t198⟩, A160, H⟩ := H
          replace H : ((storagebartermake_Cutting.f t192 t198).bind fun bt199 => ((some (([(⟨a3_0, a3_1, a3_2, a3_3⟩ : S58), (⟨bt199.1, bt199.2.1, bt199.2.2.1, bt199.2.2.2.1⟩ : S58), (⟨4, 256, 4, 1024⟩ : S58)] : List (S58)) : List (S58))).bind fun y205 => (storagebarterlaw04_ChunkCuts.l0 kj7 a1 a2 a4 t195 t197 y205 (y205.length : Int) 0))) = some r := H
          have A16 := Aside0.mk A160
          clear A160
          replace H := Option.bind_eq_some_iff.mp H
          obtain ⟨⟨t199, t200, t201, t202, t203⟩, A170, H⟩ := H
          replace H : ((some (([(⟨a3_0, a3_1, a3_2, a3_3⟩ : S58), (⟨t199, t200, t201, t202⟩ : S58), (⟨4, 256, 4, 1024⟩ : S58)] : List (S58)) : List (S58))).bind fun y205 => (storagebarterlaw04_ChunkCuts.l0 kj7 a1 a2 a4 t195 t197 y205 (y205.length : Int) 0)) = some r := H
          have A17 := Aside0.mk A170
          clear A170
          obtain ⟨y205, hy205⟩ : ∃ y_ : List (S58), y_ = (([(⟨a3_0, a3_1, a3_2, a3_3⟩ : S58), (⟨t199, t200, t201, t202⟩ : S58), (⟨4, 256, 4, 1024⟩ : S58)] : List (S58))) := ⟨_, rfl⟩
          replace H : (storagebarterlaw04_ChunkCuts.l0 kj7 a1 a2 a4 t195 t197 y205 (y205.length : Int) 0) = some r := by first | (rw [hy205]; with_reducible exact H) | (have H2_ := (Option.bind_some _ _).symm.trans H; rw [hy205]; with_reducible exact H2_) | (have H2_ := (Option.bind_some _ _).symm.trans H; with_reducible exact H2_) | with_reducible exact H | (rw [hy205]; exact H) | exact H
          have Ny205 := Aside0.mk hy205
          clear hy205
          have H' := Aside0.mk H
          clear H
          go_wp2_with (first | ((with_reducible refine gate_callee (f := 37) rfl ?_); refine goesL_ (some 47) rfl rfl Try.func37 (by kernel_rfl) rfl #[.slice A0 l0.length c0] rfl (by (try simp only [List.map_toArray, List.map_cons, List.map_nil]); first | done | rfl | (simp only [List.length_drop, List.length_take]; rfl)) ?_; (with_reducible refine (storagebartermake_New.calls _ _ l0 t192 t193 w _ ?side1 ?side2 ?side3 A14.out).mono ?_); (case side1 => repeat (first | (with_reducible first | exact HB.out | apply below_alloc | apply pw_below_drewN | apply below_drew1 | refine below_set ?_ GE189.out) | exact HB.out)); (case side2 => exact HR0.out); (case side3 => exact HC0.out); rintro e w18 ⟨g194, rfl, hi, hb, hb2⟩; refine ⟨_, rfl, ?_⟩; have n0_ := Aside0.mk (blk_below (g := gb189) (o := .cells #[.int .i64 a3_0, .int .i64 a3_1, .int .i64 a3_2, .int .i64 a3_3] 58 (0, 0)) (by (with_reducible repeat (first | refine blk_drewN ?_ _ | refine blk_drew ?_ | refine blk_alloc ?_ _)); exact BK189.out) hb2); have n1_ := Aside0.mk (hb); have n2_ := Aside0.mk (hi); have n3_ := Aside0.mk (IsS92.ne_blk hi (blk_below (g := gb189) (o := .cells #[.int .i64 a3_0, .int .i64 a3_1, .int .i64 a3_2, .int .i64 a3_3] 58 (0, 0)) (by (with_reducible repeat (first | refine blk_drewN ?_ _ | refine blk_drew ?_ | refine blk_alloc ?_ _)); exact BK189.out) hb2) (by decide)); have n4_ := Aside0.mk (Ne.symm (IsS92.ne_blk hi (blk_below (g := gb189) (o := .cells #[.int .i64 a3_0, .int .i64 a3_1, .int .i64 a3_2, .int .i64 a3_3] 58 (0, 0)) (by (with_reducible repeat (first | refine blk_drewN ?_ _ | refine blk_drew ?_ | refine blk_alloc ?_ _)); exact BK189.out) hb2) (by decide))); clear BK189; clear HB; have BK189 := n0_; have HB := n1_; have HI194 := n2_; have NB194_189 := n3_; have NB189_194 := n4_; clear n0_ n1_ n2_ n3_ n4_; (try clear hb); (try clear hb2); (try clear hk); (try clear hi)) | ((with_reducible refine gate_callee (f := 40) rfl ?_); refine goesL_ (some 49) rfl rfl Try.func40 (by kernel_rfl) rfl #[.pointer (some ⟨g194, 0, none⟩), .int .i64 200] rfl (by (try simp only [List.map_toArray, List.map_cons, List.map_nil]); first | done | rfl | (simp only [List.length_drop, List.length_take]; rfl)) ?_; (with_reducible refine (storagebartermake_Text.calls kj7 g194 t192 t193 200 t195 t196 w _ ?side1 ?side2 A15.out).mono ?_); (case side1 => repeat (first | (with_reducible first | exact HI194.out | apply IsS92.alloc | apply IsS92.drewN | apply IsS92.drew | apply IsS92.set_1 | refine IsS92.far ?_ NB194_189.out _) | exact HI194.out)); (case side2 => repeat (first | (with_reducible first | exact HB.out | apply below_alloc | apply pw_below_drewN | apply below_drew1 | refine below_set ?_ (IsS92.ge HI194.out) | refine below_set ?_ GE189.out) | exact HB.out)); rintro e w19 ⟨rfl, hi, hb, hk⟩; refine ⟨_, rfl, ?_⟩; have n0_ := Aside0.mk (KeepBut.blk hk (g' := gb189) (o := .cells #[.int .i64 a3_0, .int .i64 a3_1, .int .i64 a3_2, .int .i64 a3_3] 58 (0, 0)) (by (with_reducible repeat (first | refine blk_drewN ?_ _ | refine blk_drew ?_ | refine blk_alloc ?_ _)); exact BK189.out) NB189_194.out (by simp)); have n1_ := Aside0.mk (hb); have n2_ := Aside0.mk (hi); clear BK189; clear HB; clear HI194; have BK189 := n0_; have HB := n1_; have HI194 := n2_; clear n0_ n1_ n2_; (try clear hb); (try clear hb2); (try clear hk); (try clear hi)) | ((with_reducible refine gate_callee (f := 40) rfl ?_); refine goesL_ (some 51) rfl rfl Try.func40 (by kernel_rfl) rfl #[.pointer (some ⟨g194, 0, none⟩), .int .i64 80] rfl (by (try simp only [List.map_toArray, List.map_cons, List.map_nil]); first | done | rfl | (simp only [List.length_drop, List.length_take]; rfl)) ?_; (with_reducible refine (storagebartermake_Text.calls kj7 g194 t192 t196 80 t197 t198 w _ ?side1 ?side2 A16.out).mono ?_); (case side1 => repeat (first | (with_reducible first | exact HI194.out | apply IsS92.alloc | apply IsS92.drewN | apply IsS92.drew | apply IsS92.set_1 | refine IsS92.far ?_ NB194_189.out _) | exact HI194.out)); (case side2 => repeat (first | (with_reducible first | exact HB.out | apply below_alloc | apply pw_below_drewN | apply below_drew1 | refine below_set ?_ (IsS92.ge HI194.out) | refine below_set ?_ GE189.out) | exact HB.out)); rintro e w20 ⟨rfl, hi, hb, hk⟩; refine ⟨_, rfl, ?_⟩; have n0_ := Aside0.mk (KeepBut.blk hk (g' := gb189) (o := .cells #[.int .i64 a3_0, .int .i64 a3_1, .int .i64 a3_2, .int .i64 a3_3] 58 (0, 0)) (by (with_reducible repeat (first | refine blk_drewN ?_ _ | refine blk_drew ?_ | refine blk_alloc ?_ _)); exact BK189.out) NB189_194.out (by simp)); have n1_ := Aside0.mk (hb); have n2_ := Aside0.mk (hi); clear BK189; clear HB; clear HI194; have BK189 := n0_; have HB := n1_; have HI194 := n2_; clear n0_ n1_ n2_; (try clear hb); (try clear hb2); (try clear hk); (try clear hi)) | ((with_reducible refine gate_callee (f := 38) rfl ?_); refine goesL_ (some 53) rfl rfl Try.func38 (by kernel_rfl) rfl #[.pointer (some ⟨g194, 0, none⟩)] rfl (by (try simp only [List.map_toArray, List.map_cons, List.map_nil]); first | done | rfl | (simp only [List.length_drop, List.length_take]; rfl)) ?_; (with_reducible refine (storagebartermake_Cutting.calls g194 t192 t198 t199 t200 t201 t202 t203 w _ ?side1 ?side2 A17.out).mono ?_); (case side1 => repeat (first | (with_reducible first | exact HI194.out | apply IsS92.alloc | apply IsS92.drewN | apply IsS92.drew | apply IsS92.set_1 | refine IsS92.far ?_ NB194_189.out _) | exact HI194.out)); (case side2 => repeat (first | (with_reducible first | exact HB.out | apply below_alloc | apply pw_below_drewN | apply below_drew1 | refine below_set ?_ (IsS92.ge HI194.out) | refine below_set ?_ GE189.out) | exact HB.out)); rintro e w21 ⟨rfl, hi, hb, hk⟩; refine ⟨_, rfl, ?_⟩; have n0_ := Aside0.mk (KeepBut.blk hk (g' := gb189) (o := .cells #[.int .i64 a3_0, .int .i64 a3_1, .int .i64 a3_2, .int .i64 a3_3] 58 (0, 0)) (by (with_reducible repeat (first | refine blk_drewN ?_ _ | refine blk_drew ?_ | refine blk_alloc ?_ _)); exact BK189.out) NB189_194.out (by simp)); have n1_ := Aside0.mk (hb); have n2_ := Aside0.mk (hi); clear BK189; clear HB; clear HI194; have BK189 := n0_; have HB := n1_; have HI194 := n2_; clear n0_ n1_ n2_; (try clear hb); (try clear hb2); (try clear hk); (try clear hi)) | ((with_reducible refine gate_dst (N := 14) rfl ?_); (try (refine gate_guard (by rfl) ?_; dsimp only)); refine box_event ?hg (N := 14) ?hd (cs := #[.int .i64 0, .int .i64 0, .int .i64 0, .int .i64 0]) (t := 58) ?hr ?_; (case hd => rfl); (case hg => rfl); (case hr => first | (go_simp; done) | (go_simp; rfl)); intro gb204 hg w22 hbox hb; have n0_ := Aside0.mk (blk_below (g := gb189) (o := .cells #[.int .i64 a3_0, .int .i64 a3_1, .int .i64 a3_2, .int .i64 a3_3] 58 (0, 0)) (by (with_reducible repeat (first | refine blk_drewN ?_ _ | refine blk_drew ?_ | refine blk_alloc ?_ _)); exact BK189.out) hb); have n1_ := Aside0.mk (IsS92.below (by repeat (first | (with_reducible first | exact HI194.out | apply IsS92.alloc | apply IsS92.drewN | apply IsS92.drew | apply IsS92.set_1 | refine IsS92.far ?_ NB194_189.out _) | exact HI194.out)) hb); have n2_ := Aside0.mk (below_step (by repeat (first | (with_reducible first | exact HB.out | apply below_alloc | apply pw_below_drewN | apply below_drew1 | refine below_set ?_ (IsS92.ge HI194.out) | refine below_set ?_ GE189.out) | exact HB.out)) hb); have n3_ := Aside0.mk (hbox); have n4_ := Aside0.mk ((by rw [hg]; exact (below_size (by repeat (first | (with_reducible first | exact HB.out | apply below_alloc | apply pw_below_drewN | apply below_drew1 | refine below_set ?_ (IsS92.ge HI194.out) | refine below_set ?_ GE189.out) | exact HB.out))) : w.heap.size ≤ gb204)); have n5_ := Aside0.mk ((by rw [hg]; exact (below_size (by repeat (first | (with_reducible first | exact HB.out | apply below_alloc | apply pw_below_drewN | apply below_drew1 | refine below_set ?_ (IsS92.ge HI194.out) | refine below_set ?_ GE189.out) | exact HB.out))) : w.heap.size ≤ gb204)); have n6_ := Aside0.mk ((by rw [hg]; exact Nat.ne_of_lt (blk_lt (g := gb189) (o := .cells #[.int .i64 a3_0, .int .i64 a3_1, .int .i64 a3_2, .int .i64 a3_3] 58 (0, 0)) (by (with_reducible repeat (first | refine blk_drewN ?_ _ | refine blk_drew ?_ | refine blk_alloc ?_ _)); exact BK189.out)) : gb189 ≠ gb204)); have n7_ := Aside0.mk ((by rw [hg]; exact Nat.ne_of_gt (blk_lt (g := gb189) (o := .cells #[.int .i64 a3_0, .int .i64 a3_1, .int .i64 a3_2, .int .i64 a3_3] 58 (0, 0)) (by (with_reducible repeat (first | refine blk_drewN ?_ _ | refine blk_drew ?_ | refine blk_alloc ?_ _)); exact BK189.out)) : gb204 ≠ gb189)); have n8_ := Aside0.mk ((by rw [hg]; exact Nat.ne_of_lt (IsS92.lt (show IsS92 w _ g194 t192 t203 from by repeat (first | (with_reducible first | exact HI194.out | apply IsS92.alloc | apply IsS92.drewN | apply IsS92.drew | apply IsS92.set_1 | refine IsS92.far ?_ NB194_189.out _) | exact HI194.out))) : g194 ≠ gb204)); have n9_ := Aside0.mk ((by rw [hg]; exact Nat.ne_of_gt (IsS92.lt (show IsS92 w _ g194 t192 t203 from by repeat (first | (with_reducible first | exact HI194.out | apply IsS92.alloc | apply IsS92.drewN | apply IsS92.drew | apply IsS92.set_1 | refine IsS92.far ?_ NB194_189.out _) | exact HI194.out))) : gb204 ≠ g194)); clear BK189; clear HI194; clear HB; have BK189 := n0_; have HI194 := n1_; have HB := n2_; have BK204 := n3_; have GW204 := n4_; have GE204 := n5_; have NB189_204 := n6_; have NB204_189 := n7_; have NB194_204 := n8_; have NB204_194 := n9_; clear n0_ n1_ n2_ n3_ n4_ n5_ n6_ n7_ n8_ n9_; clear hb hbox hg; have hnb23 := NB204_189.out; have hnc23 := NB189_204.out; have hnb24 := NB204_194.out; have hnc24 := NB194_204.out; have hcz25_0 : w22.cell? ⟨gb204, 0, none⟩ = some (.int .i64 0) := (blk_cell BK204.out 0).trans rfl; have hcz25_1 : w22.cell? ⟨gb204, 1, none⟩ = some (.int .i64 0) := (blk_cell BK204.out 1).trans rfl; have hcz25_2 : w22.cell? ⟨gb204, 2, none⟩ = some (.int .i64 0) := (blk_cell BK204.out 2).trans rfl; have hcz25_3 : w22.cell? ⟨gb204, 3, none⟩ = some (.int .i64 0) := (blk_cell BK204.out 3).trans rfl; have hfz25_0 := blk_frozen BK204.out 0; have hfz25_1 := blk_frozen BK204.out 1; have hfz25_2 := blk_frozen BK204.out 2; have hfz25_3 := blk_frozen BK204.out 3; have hnb26 := NB189_194.out; have hnc26 := NB194_189.out; have hcz27_0 : w22.cell? ⟨gb189, 0, none⟩ = some (.int .i64 a3_0) := (blk_cell BK189.out 0).trans rfl; have hcz27_1 : w22.cell? ⟨gb189, 1, none⟩ = some (.int .i64 a3_1) := (blk_cell BK189.out 1).trans rfl; have hcz27_2 : w22.cell? ⟨gb189, 2, none⟩ = some (.int .i64 a3_2) := (blk_cell BK189.out 2).trans rfl; have hcz27_3 : w22.cell? ⟨gb189, 3, none⟩ = some (.int .i64 a3_3) := (blk_cell BK189.out 3).trans rfl; have hfz27_0 := blk_frozen BK189.out 0; have hfz27_1 := blk_frozen BK189.out 1; have hfz27_2 := blk_frozen BK189.out 2; have hfz27_3 := blk_frozen BK189.out 3) | ((with_reducible refine gate_dst (N := 57) rfl ?_); (try (refine gate_guard (by rfl) ?_; dsimp only)); refine Kd.R_lit k58 _ 58 ?hg (N := 57) ?hd (xs := ([(⟨a3_0, a3_1, a3_2, a3_3⟩ : S58), (⟨t199, t200, t201, t202⟩ : S58), (⟨4, 256, 4, 1024⟩ : S58)] : List (S58))) (inner := [.int .i64 a3_0, .int .i64 a3_1, .int .i64 a3_2, .int .i64 a3_3, .int .i64 t199, .int .i64 t200, .int .i64 t201, .int .i64 t202, .int .i64 4, .int .i64 256, .int .i64 4, .int .i64 1024]) (ok := fun _ => True) (okp := fun _ => True) ?hr ?hp (fun _ hk => hk) trivial (Below.refl _ _) (Nat.le_refl _) (by simp) ?_; (case hd => rfl); (case hg => rfl); (case hr => first | (go_simp; done) | (go_simp; rfl)); (case hp => exact (Reps.c4 (show Kd.M k58 _ _ _ (⟨a3_0, a3_1, a3_2, a3_3⟩ : S58) [.int .i64 a3_0, .int .i64 a3_1, .int .i64 a3_2, .int .i64 a3_3] from (k58_mkM _ _ _ (⟨a3_0, a3_1, a3_2, a3_3⟩ : S58) )) (Reps.c4 (show Kd.M k58 _ _ _ (⟨t199, t200, t201, t202⟩ : S58) [.int .i64 t199, .int .i64 t200, .int .i64 t201, .int .i64 t202] from (k58_mkM _ _ _ (⟨t199, t200, t201, t202⟩ : S58) )) (Reps.c4 (show Kd.M k58 _ _ _ (⟨4, 256, 4, 1024⟩ : S58) [.int .i64 4, .int .i64 256, .int .i64 4, .int .i64 1024] from (k58_mkM _ _ _ (⟨4, 256, 4, 1024⟩ : S58) )) (Reps.none _ _))))); intro v206 w28 ho29 hb hg_ hnew_; clear hg_ hnew_; (first | rw [← Ny205.out] at ho29 | (simp only [Int.reduceToNat] at ho29; rw [← Ny205.out] at ho29)); have n0_ := Aside0.mk (Kd.R_lower (Kd.R_newB (Kd.R_newB ho29 (g := gb189) (o := .cells #[.int .i64 a3_0, .int .i64 a3_1, .int .i64 a3_2, .int .i64 a3_3] 58 (0, 0)) (by (with_reducible repeat (first | refine blk_drewN ?_ _ | refine blk_drew ?_ | refine blk_alloc ?_ _)); refine blk_far ?_ NB189_204.out _; (with_reducible repeat (first | refine blk_drewN ?_ _ | refine blk_drew ?_ | refine blk_alloc ?_ _)); refine blk_far ?_ NB189_204.out _; (with_reducible repeat (first | refine blk_drewN ?_ _ | refine blk_drew ?_ | refine blk_alloc ?_ _)); refine blk_far ?_ NB189_204.out _; (with_reducible repeat (first | refine blk_drewN ?_ _ | refine blk_drew ?_ | refine blk_alloc ?_ _)); refine blk_far ?_ NB189_204.out _; (with_reducible repeat (first | refine blk_drewN ?_ _ | refine blk_drew ?_ | refine blk_alloc ?_ _)); exact BK189.out)) (g := gb204) (o := .cells #[.int .i64 t199, .int .i64 t200, .int .i64 t201, .int .i64 t202] 58 (0, 0)) (by (with_reducible repeat (first | refine blk_drewN ?_ _ | refine blk_drew ?_ | refine blk_alloc ?_ _)); refine blk_put (cs := #[.int .i64 t199, .int .i64 t200, .int .i64 t201, .int .i64 0]) ?_ 3 _ rfl; (with_reducible repeat (first | refine blk_drewN ?_ _ | refine blk_drew ?_ | refine blk_alloc ?_ _)); refine blk_put (cs := #[.int .i64 t199, .int .i64 t200, .int .i64 0, .int .i64 0]) ?_ 2 _ rfl; (with_reducible repeat (first | refine blk_drewN ?_ _ | refine blk_drew ?_ | refine blk_alloc ?_ _)); refine blk_put (cs := #[.int .i64 t199, .int .i64 0, .int .i64 0, .int .i64 0]) ?_ 1 _ rfl; (with_reducible repeat (first | refine blk_drewN ?_ _ | refine blk_drew ?_ | refine blk_alloc ?_ _)); refine blk_put (cs := #[.int .i64 0, .int .i64 0, .int .i64 0, .int .i64 0]) ?_ 0 _ rfl; (with_reducible repeat (first | refine blk_drewN ?_ _ | refine blk_drew ?_ | refine blk_alloc ?_ _)); exact BK204.out)) (below_size (by repeat (first | (with_reducible first | exact HB.out | apply below_alloc | apply pw_below_drewN | apply below_drew1 | refine below_set ?_ (IsS92.ge HI194.out) | refine below_set ?_ GE189.out | refine below_set ?_ GE204.out) | exact HB.out)))); have n1_ := Aside0.mk (blk_below (g := gb189) (o := .cells #[.int .i64 a3_0, .int .i64 a3_1, .int .i64 a3_2, .int .i64 a3_3] 58 (0, 0)) (by (with_reducible repeat (first | refine blk_drewN ?_ _ | refine blk_drew ?_ | refine blk_alloc ?_ _)); refine blk_far ?_ NB189_204.out _; (with_reducible repeat (first | refine blk_drewN ?_ _ | refine blk_drew ?_ | refine blk_alloc ?_ _)); refine blk_far ?_ NB189_204.out _; (with_reducible repeat (first | refine blk_drewN ?_ _ | refine blk_drew ?_ | refine blk_alloc ?_ _)); refine blk_far ?_ NB189_204.out _; (with_reducible repeat (first | refine blk_drewN ?_ _ | refine blk_drew ?_ | refine blk_alloc ?_ _)); refine blk_far ?_ NB189_204.out _; (with_reducible repeat (first | refine blk_drewN ?_ _ | refine blk_drew ?_ | refine blk_alloc ?_ _)); exact BK189.out) hb); have n2_ := Aside0.mk (IsS92.below (show IsS92 w ((((w22.setCell ⟨gb204, 0, none⟩ (.int .i64 t199)).setCell ⟨gb204, 1, none⟩ (.int .i64 t200)).setCell ⟨gb204, 2, none⟩ (.int .i64 t201)).setCell ⟨gb204, 3, none⟩ (.int .i64 t202)) g194 t192 t203 from by repeat (first | (with_reducible first | exact HI194.out | apply IsS92.alloc | apply IsS92.drewN | apply IsS92.drew | apply IsS92.set_1 | refine IsS92.far ?_ NB194_189.out _ | refine IsS92.far ?_ NB194_204.out _) | exact HI194.out)) hb); have n3_ := Aside0.mk (blk_below (g := gb204) (o := .cells #[.int .i64 t199, .int .i64 t200, .int .i64 t201, .int .i64 t202] 58 (0, 0)) (by (with_reducible repeat (first | refine blk_drewN ?_ _ | refine blk_drew ?_ | refine blk_alloc ?_ _)); refine blk_put (cs := #[.int .i64 t199, .int .i64 t200, .int .i64 t201, .int .i64 0]) ?_ 3 _ rfl; (with_reducible repeat (first | refine blk_drewN ?_ _ | refine blk_drew ?_ | refine blk_alloc ?_ _)); refine blk_put (cs := #[.int .i64 t199, .int .i64 t200, .int .i64 0, .int .i64 0]) ?_ 2 _ rfl; (with_reducible repeat (first | refine blk_drewN ?_ _ | refine blk_drew ?_ | refine blk_alloc ?_ _)); refine blk_put (cs := #[.int .i64 t199, .int .i64 0, .int .i64 0, .int .i64 0]) ?_ 1 _ rfl; (with_reducible repeat (first | refine blk_drewN ?_ _ | refine blk_drew ?_ | refine blk_alloc ?_ _)); refine blk_put (cs := #[.int .i64 0, .int .i64 0, .int .i64 0, .int .i64 0]) ?_ 0 _ rfl; (with_reducible repeat (first | refine blk_drewN ?_ _ | refine blk_drew ?_ | refine blk_alloc ?_ _)); exact BK204.out) hb); have n4_ := Aside0.mk (below_step (by repeat (first | (with_reducible first | exact HB.out | apply below_alloc | apply pw_below_drewN | apply below_drew1 | refine below_set ?_ (IsS92.ge HI194.out) | refine below_set ?_ GE189.out | refine below_set ?_ GE204.out) | exact HB.out)) hb); clear BK189; clear HI194; clear BK204; clear HB; have HO207 := n0_; have BK189 := n1_; have HI194 := n2_; have BK204 := n3_; have HB := n4_; clear n0_ n1_ n2_ n3_ n4_; clear hb ho29; obtain ⟨Ao30, co30, eo30⟩ := Kd.R_slice HO207.out; subst eo30))
          go_loopg [59] kj7 (fun kq v59 w' => ∃ (x59_2 : Int), v59 = .int .i64 x59_2 ∧ Aside0 (storagebarterlaw04_ChunkCuts.l0 kq a1 a2 a4 t195 t197 y205 (y205.length : Int) x59_2 = some r) ∧ Aside0 (kq ≤ kj7) ∧ Aside0 (Kd.R k58 58 w' w.heap.size (fun k_ => k_ ≠ gb189 ∧ k_ ≠ gb204) (.slice Ao30 y205.length co30) y205) ∧ Aside0 (w'.heap[gb189]? = some (.cells #[.int .i64 a3_0, .int .i64 a3_1, .int .i64 a3_2, .int .i64 a3_3] 58 (0, 0))) ∧ Aside0 (w'.heap[gb204]? = some (.cells #[.int .i64 t199, .int .i64 t200, .int .i64 t201, .int .i64 t202] 58 (0, 0))) ∧ Aside0 (Below w.heap.size w w'))
          case atStart => exact ⟨(0), (by first | rfl | (simp; done) | (simp [*]; done)), H', ⟨Nat.le_refl _⟩, ⟨by (with_reducible repeat (first | apply Kd.R_alloc | apply Kd.R_drewN | apply Kd.R_drew)); exact Kd.R_mono HO207.out (fun _ hk => ⟨hk.1.2, hk.2⟩)⟩, ⟨by (with_reducible repeat (first | refine blk_drewN ?_ _ | refine blk_drew ?_ | refine blk_alloc ?_ _)); exact BK189.out⟩, ⟨by (with_reducible repeat (first | refine blk_drewN ?_ _ | refine blk_drew ?_ | refine blk_alloc ?_ _)); exact BK204.out⟩, ⟨by repeat (first | (with_reducible first | exact HB.out | apply below_alloc | apply pw_below_drewN | apply below_drew1 | refine below_set ?_ (IsS92.ge HI194.out) | refine below_set ?_ GE189.out | refine below_set ?_ GE204.out) | exact HB.out)⟩⟩
          case round =>
            clear H'
            try clear c1
            try clear c2
            try clear p2
            try clear c3
            try clear c4
            try clear p6
            try clear c7
            try clear c12
            try clear c13
            try clear c23
            try clear c24
            try clear c26
            try clear hcz25_0
            try clear hcz25_1
            try clear hcz25_2
            try clear hcz25_3
            try clear hcz27_0
            try clear hcz27_1
            try clear hcz27_2
            try clear hcz27_3
            try clear hfz25_0
            try clear hfz25_1
            try clear hfz25_2
            try clear hfz25_3
            try clear hfz27_0
            try clear hfz27_1
            try clear hfz27_2
            try clear hfz27_3
            try clear p2
            try clear p6
            obtain ⟨x59_2, rfl, HA, HK2, HO_57, BK189, BK204, HB⟩ := hrel
            cases gk with
            | zero => exact absurd HA.out (by simp [storagebarterlaw04_ChunkCuts.l0])
            | succ k2 =>
              have H := HA.out
              clear HA
              simp only [storagebarterlaw04_ChunkCuts.l0] at H
              by_cases c31 : x59_2 < (y205.length : Int)
              · rw [if_pos c31] at H
                have c31b0 : decide (x59_2 < (y205.length : Int)) = true := decide_eq_true c31
                clear c31
                by_cases c32 : 0 ≤ x59_2
                · rw [if_pos c32] at H
                  have c32b0 : decide (0 ≤ x59_2) = true := decide_eq_true c32
                  clear c32
                  by_cases c33 : x59_2 < (y205.length : Int)
                  · rw [if_pos c33] at H
                    have c33b0 : decide (x59_2 < (y205.length : Int)) = true := decide_eq_true c33
                    clear c33
                    replace H := Option.bind_eq_some_iff.mp H
                    obtain ⟨t210, A340, H⟩ := H
                    replace H : ((storagebarterref04_Check.f ((rd_T58 y205 x59_2).f0) ((rd_T58 y205 x59_2).f1) ((rd_T58 y205 x59_2).f2) ((rd_T58 y205 x59_2).f3)).bind fun t211 => (if t210 = t211 then (if t195.size + a1.size ≤ 9223372036854775807 then (if a1.size + t195.size ≤ 9223372036854775807 then ((some (([a1, t195, t195 ++ a1, a1 ++ t195] : List ByteArray) : List ByteArray)).bind fun y212 => (storagebarterlaw04_ChunkCuts.l1 k2 a1 a2 a4 t195 t197 y205 (y205.length : Int) x59_2 y212 (y212.length : Int) 0 ((rd_T58 y205 x59_2).f0) ((rd_T58 y205 x59_2).f1) ((rd_T58 y205 x59_2).f2) ((rd_T58 y205 x59_2).f3))) else (none)) else (none)) else (some false))) = some r := H
                    have A34 := Aside0.mk A340
                    clear A340
                    replace H := Option.bind_eq_some_iff.mp H
                    obtain ⟨t211, A350, H⟩ := H
                    replace H : (if t210 = t211 then (if t195.size + a1.size ≤ 9223372036854775807 then (if a1.size + t195.size ≤ 9223372036854775807 then ((some (([a1, t195, t195 ++ a1, a1 ++ t195] : List ByteArray) : List ByteArray)).bind fun y212 => (storagebarterlaw04_ChunkCuts.l1 k2 a1 a2 a4 t195 t197 y205 (y205.length : Int) x59_2 y212 (y212.length : Int) 0 ((rd_T58 y205 x59_2).f0) ((rd_T58 y205 x59_2).f1) ((rd_T58 y205 x59_2).f2) ((rd_T58 y205 x59_2).f3))) else (none)) else (none)) else (some false)) = some r := H
                    have A35 := Aside0.mk A350
                    clear A350
                    by_cases c36 : t210 = t211
                    · rw [if_pos c36] at H
                      have c36b0 : (t210 == t211) = true := beq_iff_eq.mpr c36
                      have c36b1 : (t210 != t211) = false := bne_eq_false_iff_eq.mpr c36
                      clear c36
                      by_cases c37 : t195.size + a1.size ≤ 9223372036854775807
                      · rw [if_pos c37] at H
                        have c37b0 := eq_true c37
                        have c37b1 : decide (t195.size + a1.size ≤ 9223372036854775807) = true := decide_eq_true c37
                        try have c37b2 : (9223372036854775807 < t195.size + a1.size) = False := eq_false (Nat.not_lt.2 c37)
                        by_cases c38 : a1.size + t195.size ≤ 9223372036854775807
                        · rw [if_pos c38] at H
                          have c38b0 := eq_true c38
                          have c38b1 : decide (a1.size + t195.size ≤ 9223372036854775807) = true := decide_eq_true c38
                          try have c38b2 : (9223372036854775807 < a1.size + t195.size) = False := eq_false (Nat.not_lt.2 c38)
                          obtain ⟨y212, hy212⟩ : ∃ y_ : List ByteArray, y_ = (([a1, t195, t195 ++ a1, a1 ++ t195] : List ByteArray)) := ⟨_, rfl⟩
                          replace H : (storagebarterlaw04_ChunkCuts.l1 k2 a1 a2 a4 t195 t197 y205 (y205.length : Int) x59_2 y212 (y212.length : Int) 0 ((rd_T58 y205 x59_2).f0) ((rd_T58 y205 x59_2).f1) ((rd_T58 y205 x59_2).f2) ((rd_T58 y205 x59_2).f3)) = some r := by first | (rw [hy212]; with_reducible exact H) | (have H2_ := (Option.bind_some _ _).symm.trans H; rw [hy212]; with_reducible exact H2_) | (have H2_ := (Option.bind_some _ _).symm.trans H; with_reducible exact H2_) | with_reducible exact H | (rw [hy212]; exact H) | exact H
                          have Ny212 := Aside0.mk hy212
                          clear hy212
                          have H' := Aside0.mk H
                          clear H
                          have p208 : 0 ≤ (x59_2 : Int) := of_decide_eq_true (by first | (with_reducible assumption) | assumption)
                          have q208 : x59_2 < (y205.length : Int) := of_decide_eq_true (by first | (with_reducible assumption) | assumption)
                          obtain ⟨ad208, e208, hx208_0, hx208_1, hx208_2, hx208_3⟩ := at_T58 (Kd.R_reads' HO_57.out).2.2 x59_2 p208 q208
                          cases e208
                          replace p208 := eq_true p208
                          replace q208 := eq_true q208
                          try go_wp2_with (first | ((with_reducible refine gate_dst (N := 16) rfl ?_); (try (refine gate_guard (by rfl) ?_; dsimp only)); refine box_event ?hg (N := 16) ?hd (cs := #[.int .i64 0, .int .i64 0, .int .i64 0, .int .i64 0]) (t := 58) ?hr ?_; (case hd => rfl); (case hg => rfl); (case hr => first | (go_simp; done) | (go_simp; rfl)); intro gb209 hg w39 hbox hb; have n0_ := Aside0.mk (Kd.R_below (Kd.R_elderB (by (with_reducible repeat (first | apply Kd.R_alloc | apply Kd.R_drewN | apply Kd.R_drew)); exact HO_57.out) gb209 (Nat.le_of_eq hg.symm)) hb); have n1_ := Aside0.mk (blk_below (g := gb189) (o := .cells #[.int .i64 a3_0, .int .i64 a3_1, .int .i64 a3_2, .int .i64 a3_3] 58 (0, 0)) (by (with_reducible repeat (first | refine blk_drewN ?_ _ | refine blk_drew ?_ | refine blk_alloc ?_ _)); exact BK189.out) hb); have n2_ := Aside0.mk (blk_below (g := gb204) (o := .cells #[.int .i64 t199, .int .i64 t200, .int .i64 t201, .int .i64 t202] 58 (0, 0)) (by (with_reducible repeat (first | refine blk_drewN ?_ _ | refine blk_drew ?_ | refine blk_alloc ?_ _)); exact BK204.out) hb); have n3_ := Aside0.mk (below_step (by repeat (first | (with_reducible first | exact HB.out | apply below_alloc | apply pw_below_drewN | apply below_drew1 | refine below_set ?_ GE189.out | refine below_set ?_ GE204.out) | exact HB.out)) hb); have n4_ := Aside0.mk (hbox); have n5_ := Aside0.mk ((by rw [hg]; exact (below_size (by repeat (first | (with_reducible first | exact HB.out | apply below_alloc | apply pw_below_drewN | apply below_drew1 | refine below_set ?_ GE189.out | refine below_set ?_ GE204.out) | exact HB.out))) : w.heap.size ≤ gb209)); have n6_ := Aside0.mk ((by rw [hg]; exact (below_size (by repeat (first | (with_reducible first | exact HB.out | apply below_alloc | apply pw_below_drewN | apply below_drew1 | refine below_set ?_ GE189.out | refine below_set ?_ GE204.out) | exact HB.out))) : w.heap.size ≤ gb209)); have n7_ := Aside0.mk ((by rw [hg]; exact Nat.ne_of_lt (blk_lt (g := gb189) (o := .cells #[.int .i64 a3_0, .int .i64 a3_1, .int .i64 a3_2, .int .i64 a3_3] 58 (0, 0)) (by (with_reducible repeat (first | refine blk_drewN ?_ _ | refine blk_drew ?_ | refine blk_alloc ?_ _)); exact BK189.out)) : gb189 ≠ gb209)); have n8_ := Aside0.mk ((by rw [hg]; exact Nat.ne_of_gt (blk_lt (g := gb189) (o := .cells #[.int .i64 a3_0, .int .i64 a3_1, .int .i64 a3_2, .int .i64 a3_3] 58 (0, 0)) (by (with_reducible repeat (first | refine blk_drewN ?_ _ | refine blk_drew ?_ | refine blk_alloc ?_ _)); exact BK189.out)) : gb209 ≠ gb189)); have n9_ := Aside0.mk ((by rw [hg]; exact Nat.ne_of_lt (blk_lt (g := gb204) (o := .cells #[.int .i64 t199, .int .i64 t200, .int .i64 t201, .int .i64 t202] 58 (0, 0)) (by (with_reducible repeat (first | refine blk_drewN ?_ _ | refine blk_drew ?_ | refine blk_alloc ?_ _)); exact BK204.out)) : gb204 ≠ gb209)); have n10_ := Aside0.mk ((by rw [hg]; exact Nat.ne_of_gt (blk_lt (g := gb204) (o := .cells #[.int .i64 t199, .int .i64 t200, .int .i64 t201, .int .i64 t202] 58 (0, 0)) (by (with_reducible repeat (first | refine blk_drewN ?_ _ | refine blk_drew ?_ | refine blk_alloc ?_ _)); exact BK204.out)) : gb209 ≠ gb204)); clear HO_57; clear BK189; clear BK204; clear HB; have HO_57 := n0_; have BK189 := n1_; have BK204 := n2_; have HB := n3_; have BK209 := n4_; have GW209 := n5_; have GE209 := n6_; have NB189_209 := n7_; have NB209_189 := n8_; have NB204_209 := n9_; have NB209_204 := n10_; clear n0_ n1_ n2_ n3_ n4_ n5_ n6_ n7_ n8_ n9_ n10_; clear hb hbox hg; have hnb40 := NB209_189.out; have hnc40 := NB189_209.out; have hnb41 := NB209_204.out; have hnc41 := NB204_209.out; have hcz42_0 : w39.cell? ⟨gb209, 0, none⟩ = some (.int .i64 0) := (blk_cell BK209.out 0).trans rfl; have hcz42_1 : w39.cell? ⟨gb209, 1, none⟩ = some (.int .i64 0) := (blk_cell BK209.out 1).trans rfl; have hcz42_2 : w39.cell? ⟨gb209, 2, none⟩ = some (.int .i64 0) := (blk_cell BK209.out 2).trans rfl; have hcz42_3 : w39.cell? ⟨gb209, 3, none⟩ = some (.int .i64 0) := (blk_cell BK209.out 3).trans rfl; have hfz42_0 := blk_frozen BK209.out 0; have hfz42_1 := blk_frozen BK209.out 1; have hfz42_2 := blk_frozen BK209.out 2; have hfz42_3 := blk_frozen BK209.out 3))
                          have n0_ : Aside0 (Kd.R k58 58 ((((w39.setCell ⟨gb209, 0, none⟩ (.int .i64 ((rd_T58 y205 x59_2).f0))).setCell ⟨gb209, 1, none⟩ (.int .i64 ((rd_T58 y205 x59_2).f1))).setCell ⟨gb209, 2, none⟩ (.int .i64 ((rd_T58 y205 x59_2).f2))).setCell ⟨gb209, 3, none⟩ (.int .i64 ((rd_T58 y205 x59_2).f3))) w.heap.size (fun k_ => k_ ≠ gb189 ∧ k_ ≠ gb204 ∧ k_ ≠ gb209) (.slice (some ad208) y205.length co30) y205) := ⟨by (with_reducible repeat (first | apply Kd.R_alloc | apply Kd.R_drewN | apply Kd.R_drew)); exact Kd.R_mono (Kd.R_far (p := ⟨gb209, 3, none⟩) (Kd.R_far (p := ⟨gb209, 2, none⟩) (Kd.R_far (p := ⟨gb209, 1, none⟩) (Kd.R_far (p := ⟨gb209, 0, none⟩) (Kd.R_mono HO_57.out (fun k_ hk => (⟨hk, hk.2⟩ : _ ∧ k_ ≠ gb209))) (fun _ hk => hk.2) (.int .i64 ((rd_T58 y205 x59_2).f0))) (fun _ hk => hk.2) (.int .i64 ((rd_T58 y205 x59_2).f1))) (fun _ hk => hk.2) (.int .i64 ((rd_T58 y205 x59_2).f2))) (fun _ hk => hk.2) (.int .i64 ((rd_T58 y205 x59_2).f3))) (fun _ hk => ⟨hk.1.1.1, ⟨hk.1.1.2, hk.1.2⟩⟩)⟩
                          have n1_ : Aside0 (((((w39.setCell ⟨gb209, 0, none⟩ (.int .i64 ((rd_T58 y205 x59_2).f0))).setCell ⟨gb209, 1, none⟩ (.int .i64 ((rd_T58 y205 x59_2).f1))).setCell ⟨gb209, 2, none⟩ (.int .i64 ((rd_T58 y205 x59_2).f2))).setCell ⟨gb209, 3, none⟩ (.int .i64 ((rd_T58 y205 x59_2).f3))).heap[gb189]? = some (.cells #[.int .i64 a3_0, .int .i64 a3_1, .int .i64 a3_2, .int .i64 a3_3] 58 (0, 0))) := ⟨by (with_reducible repeat (first | refine blk_drewN ?_ _ | refine blk_drew ?_ | refine blk_alloc ?_ _)); refine blk_far ?_ NB189_209.out _; (with_reducible repeat (first | refine blk_drewN ?_ _ | refine blk_drew ?_ | refine blk_alloc ?_ _)); refine blk_far ?_ NB189_209.out _; (with_reducible repeat (first | refine blk_drewN ?_ _ | refine blk_drew ?_ | refine blk_alloc ?_ _)); refine blk_far ?_ NB189_209.out _; (with_reducible repeat (first | refine blk_drewN ?_ _ | refine blk_drew ?_ | refine blk_alloc ?_ _)); refine blk_far ?_ NB189_209.out _; (with_reducible repeat (first | refine blk_drewN ?_ _ | refine blk_drew ?_ | refine blk_alloc ?_ _)); exact BK189.out⟩
                          have n2_ : Aside0 (((((w39.setCell ⟨gb209, 0, none⟩ (.int .i64 ((rd_T58 y205 x59_2).f0))).setCell ⟨gb209, 1, none⟩ (.int .i64 ((rd_T58 y205 x59_2).f1))).setCell ⟨gb209, 2, none⟩ (.int .i64 ((rd_T58 y205 x59_2).f2))).setCell ⟨gb209, 3, none⟩ (.int .i64 ((rd_T58 y205 x59_2).f3))).heap[gb204]? = some (.cells #[.int .i64 t199, .int .i64 t200, .int .i64 t201, .int .i64 t202] 58 (0, 0))) := ⟨by (with_reducible repeat (first | refine blk_drewN ?_ _ | refine blk_drew ?_ | refine blk_alloc ?_ _)); refine blk_far ?_ NB204_209.out _; (with_reducible repeat (first | refine blk_drewN ?_ _ | refine blk_drew ?_ | refine blk_alloc ?_ _)); refine blk_far ?_ NB204_209.out _; (with_reducible repeat (first | refine blk_drewN ?_ _ | refine blk_drew ?_ | refine blk_alloc ?_ _)); refine blk_far ?_ NB204_209.out _; (with_reducible repeat (first | refine blk_drewN ?_ _ | refine blk_drew ?_ | refine blk_alloc ?_ _)); refine blk_far ?_ NB204_209.out _; (with_reducible repeat (first | refine blk_drewN ?_ _ | refine blk_drew ?_ | refine blk_alloc ?_ _)); exact BK204.out⟩
                          have n3_ : Aside0 (((((w39.setCell ⟨gb209, 0, none⟩ (.int .i64 ((rd_T58 y205 x59_2).f0))).setCell ⟨gb209, 1, none⟩ (.int .i64 ((rd_T58 y205 x59_2).f1))).setCell ⟨gb209, 2, none⟩ (.int .i64 ((rd_T58 y205 x59_2).f2))).setCell ⟨gb209, 3, none⟩ (.int .i64 ((rd_T58 y205 x59_2).f3))).heap[gb209]? = some (.cells #[.int .i64 ((rd_T58 y205 x59_2).f0), .int .i64 ((rd_T58 y205 x59_2).f1), .int .i64 ((rd_T58 y205 x59_2).f2), .int .i64 ((rd_T58 y205 x59_2).f3)] 58 (0, 0))) := ⟨by (with_reducible repeat (first | refine blk_drewN ?_ _ | refine blk_drew ?_ | refine blk_alloc ?_ _)); refine blk_put (cs := #[.int .i64 ((rd_T58 y205 x59_2).f0), .int .i64 ((rd_T58 y205 x59_2).f1), .int .i64 ((rd_T58 y205 x59_2).f2), .int .i64 0]) ?_ 3 _ rfl; (with_reducible repeat (first | refine blk_drewN ?_ _ | refine blk_drew ?_ | refine blk_alloc ?_ _)); refine blk_put (cs := #[.int .i64 ((rd_T58 y205 x59_2).f0), .int .i64 ((rd_T58 y205 x59_2).f1), .int .i64 0, .int .i64 0]) ?_ 2 _ rfl; (with_reducible repeat (first | refine blk_drewN ?_ _ | refine blk_drew ?_ | refine blk_alloc ?_ _)); refine blk_put (cs := #[.int .i64 ((rd_T58 y205 x59_2).f0), .int .i64 0, .int .i64 0, .int .i64 0]) ?_ 1 _ rfl; (with_reducible repeat (first | refine blk_drewN ?_ _ | refine blk_drew ?_ | refine blk_alloc ?_ _)); refine blk_put (cs := #[.int .i64 0, .int .i64 0, .int .i64 0, .int .i64 0]) ?_ 0 _ rfl; (with_reducible repeat (first | refine blk_drewN ?_ _ | refine blk_drew ?_ | refine blk_alloc ?_ _)); exact BK209.out⟩
                          have n4_ : Aside0 (Below w.heap.size w ((((w39.setCell ⟨gb209, 0, none⟩ (.int .i64 ((rd_T58 y205 x59_2).f0))).setCell ⟨gb209, 1, none⟩ (.int .i64 ((rd_T58 y205 x59_2).f1))).setCell ⟨gb209, 2, none⟩ (.int .i64 ((rd_T58 y205 x59_2).f2))).setCell ⟨gb209, 3, none⟩ (.int .i64 ((rd_T58 y205 x59_2).f3)))) := ⟨by repeat (first | (with_reducible first | exact HB.out | apply below_alloc | apply pw_below_drewN | apply below_drew1 | refine below_set ?_ GE189.out | refine below_set ?_ GE204.out | refine below_set ?_ GE209.out) | exact HB.out)⟩
                          (try clear HO_57)
                          (try clear BK189)
                          (try clear BK204)
                          (try clear BK209)
                          (try clear HB)
                          generalize ((((w39.setCell ⟨gb209, 0, none⟩ (.int .i64 ((rd_T58 y205 x59_2).f0))).setCell ⟨gb209, 1, none⟩ (.int .i64 ((rd_T58 y205 x59_2).f1))).setCell ⟨gb209, 2, none⟩ (.int .i64 ((rd_T58 y205 x59_2).f2))).setCell ⟨gb209, 3, none⟩ (.int .i64 ((rd_T58 y205 x59_2).f3))) = w43 at n0_ n1_ n2_ n3_ n4_ ⊢
                          have HO_57 := n0_
                          have BK189 := n1_
                          have BK204 := n2_
                          have BK209 := n3_
                          have HB := n4_
                          clear n0_ n1_ n2_ n3_ n4_
                          have n0_ := Aside0.mk (Kd.R_drew HO_57.out)
                          have n1_ := Aside0.mk (blk_drew BK189.out)
                          have n2_ := Aside0.mk (blk_drew BK204.out)
                          have n3_ := Aside0.mk (blk_drew BK209.out)
                          have n4_ := Aside0.mk (below_drew1 HB.out)
                          clear HO_57
                          clear BK189
                          clear BK204
                          clear BK209
                          clear HB
                          have HO_57 := n0_
                          have BK189 := n1_
                          have BK204 := n2_
                          have BK209 := n3_
                          have HB := n4_
                          clear n0_ n1_ n2_ n3_ n4_
                          refine start_ (n := 5) (S := fun w' => w'.cell? ⟨gb209, 0, none⟩ = some (.int .i64 ((rd_T58 y205 x59_2).f0)) ∧ w'.cell? ⟨gb209, 1, none⟩ = some (.int .i64 ((rd_T58 y205 x59_2).f1)) ∧ w'.cell? ⟨gb209, 2, none⟩ = some (.int .i64 ((rd_T58 y205 x59_2).f2)) ∧ w'.cell? ⟨gb209, 3, none⟩ = some (.int .i64 ((rd_T58 y205 x59_2).f3))) (ds := []) #[false, false, false, false, false] (by kernel_rfl) rfl rfl ⟨(blk_cell BK209.out 0).trans rfl, (blk_cell BK209.out 1).trans rfl, (blk_cell BK209.out 2).trans rfl, (blk_cell BK209.out 3).trans rfl⟩ (fun hHeld => ?_)
                          generalize w43.drew = w44 at HO_57 BK189 BK204 BK209 HB hHeld ⊢
                          refine take_ (i := 0) (N := some 63) (v := ?_) (a' := ?_) #[true, false, false, false, false] rfl rfl (by kernel_rfl) (fun _ _ _ h => h) (Or.inl ⟨by rfl, ?_⟩) hHeld ?_ ?_
                          rotate_left
                          · rintro w' ⟨s0, s1, s2, s3⟩
                            go_simp
                            with_reducible rfl
                          rotate_left
                          · simp only [Act.put, List.setIfInBounds_toArray, List.set_cons_zero, List.set_cons_succ, i64_w, i32_w]
                            rfl
                          refine take_ (i := 2) (N := some 65) (v := ?_) (a' := ?_) #[true, false, true, false, false] rfl rfl (by kernel_rfl) (fun _ _ _ h => h) (Or.inl ⟨by rfl, ?_⟩) hHeld ?_ ?_
                          rotate_left
                          · rintro w' ⟨s0, s1, s2, s3⟩
                            go_simp
                            with_reducible rfl
                          rotate_left
                          · simp only [Act.put, List.setIfInBounds_toArray, List.set_cons_zero, List.set_cons_succ, i64_w, i32_w]
                            rfl
                          refine one_ (i := 1) (N := some 64) #[true, true, true, false, false] rfl rfl (by kernel_rfl) (by decide) (fun K hK => ?_)
                          refine goes_ Try.func46 (by kernel_rfl) rfl #[.agg #[.int .i64 ((rd_T58 y205 x59_2).f0), .int .i64 ((rd_T58 y205 x59_2).f1), .int .i64 ((rd_T58 y205 x59_2).f2), .int .i64 ((rd_T58 y205 x59_2).f3)]] (by rfl) rfl rfl (by (try simp only [List.map_toArray, List.map_cons, List.map_nil]); first | done | rfl | (simp only [List.length_drop, List.length_take]; rfl)) ?_
                          with_reducible refine (chunk_Check.calls ((rd_T58 y205 x59_2).f0) ((rd_T58 y205 x59_2).f1) ((rd_T58 y205 x59_2).f2) ((rd_T58 y205 x59_2).f3) t210 _ A34.out).mono ?_
                          rintro e w45 ⟨rfl, hb⟩
                          refine ⟨_, rfl, ?_⟩
                          have n0_ := Aside0.mk (Kd.R_below (by (with_reducible repeat (first | apply Kd.R_alloc | apply Kd.R_drewN | apply Kd.R_drew)); exact HO_57.out) hb)
                          have n1_ := Aside0.mk (blk_below (g := gb189) (o := .cells #[.int .i64 a3_0, .int .i64 a3_1, .int .i64 a3_2, .int .i64 a3_3] 58 (0, 0)) (by (with_reducible repeat (first | refine blk_drewN ?_ _ | refine blk_drew ?_ | refine blk_alloc ?_ _)); exact BK189.out) hb)
                          have n2_ := Aside0.mk (blk_below (g := gb204) (o := .cells #[.int .i64 t199, .int .i64 t200, .int .i64 t201, .int .i64 t202] 58 (0, 0)) (by (with_reducible repeat (first | refine blk_drewN ?_ _ | refine blk_drew ?_ | refine blk_alloc ?_ _)); exact BK204.out) hb)
                          have n3_ := Aside0.mk (blk_below (g := gb209) (o := .cells #[.int .i64 ((rd_T58 y205 x59_2).f0), .int .i64 ((rd_T58 y205 x59_2).f1), .int .i64 ((rd_T58 y205 x59_2).f2), .int .i64 ((rd_T58 y205 x59_2).f3)] 58 (0, 0)) (by (with_reducible repeat (first | refine blk_drewN ?_ _ | refine blk_drew ?_ | refine blk_alloc ?_ _)); exact BK209.out) hb)
                          have n4_ := Aside0.mk (below_step (by repeat (first | (with_reducible first | exact HB.out | apply below_alloc | apply pw_below_drewN | apply below_drew1 | refine below_set ?_ GE189.out | refine below_set ?_ GE204.out | refine below_set ?_ GE209.out) | exact HB.out)) hb)
                          clear HO_57
                          clear BK189
                          clear BK204
                          clear BK209
                          clear HB
                          have HO_57 := n0_
                          have BK189 := n1_
                          have BK204 := n2_
                          have BK209 := n3_
                          have HB := n4_
                          clear n0_ n1_ n2_ n3_ n4_
                          (try clear hb)
                          (try clear hb2)
                          (try clear hk)
                          (try clear hi)
                          refine hK.out _ _ ⟨(blk_cell BK209.out 0).trans rfl, (blk_cell BK209.out 1).trans rfl, (blk_cell BK209.out 2).trans rfl, (blk_cell BK209.out 3).trans rfl⟩ (fun hHeld => ?_)
                          clear hK K
                          refine norm_ (a' := ?_) ?_ ?_
                          rotate_left
                          · show Act.put _ (some 64) _ = _
                            simp only [Act.put, List.setIfInBounds_toArray, List.set_cons_zero, List.set_cons_succ, i64_w, i32_w]
                            rfl
                          refine one_ (i := 3) (N := some 66) #[true, true, true, true, false] rfl rfl (by kernel_rfl) (by decide) (fun K hK => ?_)
                          refine goes_ Try.func47 (by kernel_rfl) rfl #[.agg #[.int .i64 ((rd_T58 y205 x59_2).f0), .int .i64 ((rd_T58 y205 x59_2).f1), .int .i64 ((rd_T58 y205 x59_2).f2), .int .i64 ((rd_T58 y205 x59_2).f3)]] (by rfl) rfl rfl (by (try simp only [List.map_toArray, List.map_cons, List.map_nil]); first | done | rfl | (simp only [List.length_drop, List.length_take]; rfl)) ?_
                          with_reducible refine (storagebarterref04_Check.calls ((rd_T58 y205 x59_2).f0) ((rd_T58 y205 x59_2).f1) ((rd_T58 y205 x59_2).f2) ((rd_T58 y205 x59_2).f3) t211 _ A35.out).mono ?_
                          rintro e w46 ⟨rfl, hb⟩
                          refine ⟨_, rfl, ?_⟩
                          have n0_ := Aside0.mk (Kd.R_below (by (with_reducible repeat (first | apply Kd.R_alloc | apply Kd.R_drewN | apply Kd.R_drew)); exact HO_57.out) hb)
                          have n1_ := Aside0.mk (blk_below (g := gb189) (o := .cells #[.int .i64 a3_0, .int .i64 a3_1, .int .i64 a3_2, .int .i64 a3_3] 58 (0, 0)) (by (with_reducible repeat (first | refine blk_drewN ?_ _ | refine blk_drew ?_ | refine blk_alloc ?_ _)); exact BK189.out) hb)
                          have n2_ := Aside0.mk (blk_below (g := gb204) (o := .cells #[.int .i64 t199, .int .i64 t200, .int .i64 t201, .int .i64 t202] 58 (0, 0)) (by (with_reducible repeat (first | refine blk_drewN ?_ _ | refine blk_drew ?_ | refine blk_alloc ?_ _)); exact BK204.out) hb)
                          have n3_ := Aside0.mk (blk_below (g := gb209) (o := .cells #[.int .i64 ((rd_T58 y205 x59_2).f0), .int .i64 ((rd_T58 y205 x59_2).f1), .int .i64 ((rd_T58 y205 x59_2).f2), .int .i64 ((rd_T58 y205 x59_2).f3)] 58 (0, 0)) (by (with_reducible repeat (first | refine blk_drewN ?_ _ | refine blk_drew ?_ | refine blk_alloc ?_ _)); exact BK209.out) hb)
                          have n4_ := Aside0.mk (below_step (by repeat (first | (with_reducible first | exact HB.out | apply below_alloc | apply pw_below_drewN | apply below_drew1 | refine below_set ?_ GE189.out | refine below_set ?_ GE204.out | refine below_set ?_ GE209.out) | exact HB.out)) hb)
                          clear HO_57
                          clear BK189
                          clear BK204
                          clear BK209
                          clear HB
                          have HO_57 := n0_
                          have BK189 := n1_
                          have BK204 := n2_
                          have BK209 := n3_
                          have HB := n4_
                          clear n0_ n1_ n2_ n3_ n4_
                          (try clear hb)
                          (try clear hb2)
                          (try clear hk)
                          (try clear hi)
                          refine hK.out _ _ ⟨(blk_cell BK209.out 0).trans rfl, (blk_cell BK209.out 1).trans rfl, (blk_cell BK209.out 2).trans rfl, (blk_cell BK209.out 3).trans rfl⟩ (fun hHeld => ?_)
                          clear hK K
                          refine norm_ (a' := ?_) ?_ ?_
                          rotate_left
                          · show Act.put _ (some 66) _ = _
                            simp only [Act.put, List.setIfInBounds_toArray, List.set_cons_zero, List.set_cons_succ, i64_w, i32_w]
                            rfl
                          refine pure_ (i := 4) (N := some 67) (v := ?_) (a' := ?_) #[true, true, true, true, true] rfl rfl (by kernel_rfl) (fun _ _ _ h => h) (Or.inl ⟨by rfl, ?_⟩) ?_ ?_
                          rotate_left
                          · intro w'
                            go_simp
                            with_reducible rfl
                          rotate_left
                          · simp only [Act.put, List.setIfInBounds_toArray, List.set_cons_zero, List.set_cons_succ, i64_w, i32_w]
                            rfl
                          refine done_ (by kernel_rfl) ?_
                          try go_wp2_with (first | ((with_reducible refine gate_dst (N := 76) rfl ?_); (try (refine gate_guard (by rfl) ?_; dsimp only)); refine Kd.R_lit Kd.string _ 9 ?hg (N := 76) ?hd (xs := ([a1, t195, t195 ++ a1, a1 ++ t195] : List ByteArray)) (inner := [.string a1, .string t195, .string (t195 ++ a1), .string (a1 ++ t195)]) (ok := fun _ => True) (okp := fun _ => True) ?hr ?hp (fun _ hk => hk) trivial (Below.refl _ _) (Nat.le_refl _) (by simp) ?_; (case hd => rfl); (case hg => rfl); (case hr => first | (go_simp; done) | (go_simp; rfl)); (case hp => exact (Reps.one (show Kd.M Kd.string _ _ _ a1 [.string a1] from rfl) (Reps.one (show Kd.M Kd.string _ _ _ t195 [.string t195] from rfl) (Reps.one (show Kd.M Kd.string _ _ _ (t195 ++ a1) [.string (t195 ++ a1)] from rfl) (Reps.one (show Kd.M Kd.string _ _ _ (a1 ++ t195) [.string (a1 ++ t195)] from rfl) (Reps.none _ _)))))); intro v213 w47 ho48 hb hg_ hnew_; clear hg_ hnew_; (first | rw [← Ny212.out] at ho48 | (simp only [Int.reduceToNat] at ho48; rw [← Ny212.out] at ho48)); have n0_ := Aside0.mk (Kd.R_below (by (with_reducible repeat (first | apply Kd.R_alloc | apply Kd.R_drewN | apply Kd.R_drew)); exact HO_57.out) hb); have n1_ := Aside0.mk (Kd.R_lower ho48 (below_size (by repeat (first | (with_reducible first | exact HB.out | apply below_alloc | apply pw_below_drewN | apply below_drew1 | refine below_set ?_ GE189.out | refine below_set ?_ GE204.out | refine below_set ?_ GE209.out) | exact HB.out)))); have n2_ := Aside0.mk (blk_below (g := gb189) (o := .cells #[.int .i64 a3_0, .int .i64 a3_1, .int .i64 a3_2, .int .i64 a3_3] 58 (0, 0)) (by (with_reducible repeat (first | refine blk_drewN ?_ _ | refine blk_drew ?_ | refine blk_alloc ?_ _)); exact BK189.out) hb); have n3_ := Aside0.mk (blk_below (g := gb204) (o := .cells #[.int .i64 t199, .int .i64 t200, .int .i64 t201, .int .i64 t202] 58 (0, 0)) (by (with_reducible repeat (first | refine blk_drewN ?_ _ | refine blk_drew ?_ | refine blk_alloc ?_ _)); exact BK204.out) hb); have n4_ := Aside0.mk (blk_below (g := gb209) (o := .cells #[.int .i64 ((rd_T58 y205 x59_2).f0), .int .i64 ((rd_T58 y205 x59_2).f1), .int .i64 ((rd_T58 y205 x59_2).f2), .int .i64 ((rd_T58 y205 x59_2).f3)] 58 (0, 0)) (by (with_reducible repeat (first | refine blk_drewN ?_ _ | refine blk_drew ?_ | refine blk_alloc ?_ _)); exact BK209.out) hb); have n5_ := Aside0.mk (below_step (by repeat (first | (with_reducible first | exact HB.out | apply below_alloc | apply pw_below_drewN | apply below_drew1 | refine below_set ?_ GE189.out | refine below_set ?_ GE204.out | refine below_set ?_ GE209.out) | exact HB.out)) hb); clear HO_57; clear BK189; clear BK204; clear BK209; clear HB; have HO_57 := n0_; have HO214 := n1_; have BK189 := n2_; have BK204 := n3_; have BK209 := n4_; have HB := n5_; clear n0_ n1_ n2_ n3_ n4_ n5_; clear hb ho48; obtain ⟨Ao49, co49, eo49⟩ := Kd.R_slice HO214.out; subst eo49))
                          go_loopg [78] k2 (fun kq v78 w' => ∃ (x78_3 : Int), v78 = .int .i64 x78_3 ∧ Aside0 (storagebarterlaw04_ChunkCuts.l1 kq a1 a2 a4 t195 t197 y205 (y205.length : Int) x59_2 y212 (y212.length : Int) x78_3 ((rd_T58 y205 x59_2).f0) ((rd_T58 y205 x59_2).f1) ((rd_T58 y205 x59_2).f2) ((rd_T58 y205 x59_2).f3) = some r) ∧ Aside0 (kq ≤ k2) ∧ Aside0 (Kd.R k58 58 w' w.heap.size (fun k_ => k_ ≠ gb189 ∧ k_ ≠ gb204 ∧ k_ ≠ gb209) (.slice (some ad208) y205.length co30) y205) ∧ Aside0 (Kd.R Kd.string 9 w' w.heap.size (fun _ => True) (.slice Ao49 y212.length co49) y212) ∧ Aside0 (w'.heap[gb189]? = some (.cells #[.int .i64 a3_0, .int .i64 a3_1, .int .i64 a3_2, .int .i64 a3_3] 58 (0, 0))) ∧ Aside0 (w'.heap[gb204]? = some (.cells #[.int .i64 t199, .int .i64 t200, .int .i64 t201, .int .i64 t202] 58 (0, 0))) ∧ Aside0 (w'.heap[gb209]? = some (.cells #[.int .i64 ((rd_T58 y205 x59_2).f0), .int .i64 ((rd_T58 y205 x59_2).f1), .int .i64 ((rd_T58 y205 x59_2).f2), .int .i64 ((rd_T58 y205 x59_2).f3)] 58 (0, 0))) ∧ Aside0 (Below w.heap.size w w'))
                          case atStart => exact ⟨(0), (by first | rfl | (simp; done) | (simp [*]; done)), H', ⟨Nat.le_refl _⟩, ⟨by (with_reducible repeat (first | apply Kd.R_alloc | apply Kd.R_drewN | apply Kd.R_drew)); exact HO_57.out⟩, ⟨by (with_reducible repeat (first | apply Kd.R_alloc | apply Kd.R_drewN | apply Kd.R_drew)); exact HO214.out⟩, ⟨by (with_reducible repeat (first | refine blk_drewN ?_ _ | refine blk_drew ?_ | refine blk_alloc ?_ _)); exact BK189.out⟩, ⟨by (with_reducible repeat (first | refine blk_drewN ?_ _ | refine blk_drew ?_ | refine blk_alloc ?_ _)); exact BK204.out⟩, ⟨by (with_reducible repeat (first | refine blk_drewN ?_ _ | refine blk_drew ?_ | refine blk_alloc ?_ _)); exact BK209.out⟩, ⟨by repeat (first | (with_reducible first | exact HB.out | apply below_alloc | apply pw_below_drewN | apply below_drew1 | refine below_set ?_ GE189.out | refine below_set ?_ GE204.out | refine below_set ?_ GE209.out) | exact HB.out)⟩⟩
                          case round =>
                            clear H'
                            try clear c1
                            try clear c2
                            try clear p2
                            try clear q2
                            try clear hx2
                            try clear c3
                            try clear c4
                            try clear p6
                            try clear c7
                            try clear c12
                            try clear c13
                            try clear p20
                            try clear q20
                            try clear hx20
                            try clear c23
                            try clear c24
                            try clear c26
                            try clear c31
                            try clear c31b0
                            try clear c32
                            try clear c32b0
                            try clear c33
                            try clear c33b0
                            try clear c35
                            try clear c36
                            try clear c36b0
                            try clear c36b1
                            try clear c37
                            try clear c37b0
                            try clear c37b1
                            try clear c37b2
                            try clear c38
                            try clear c38b0
                            try clear c38b1
                            try clear c38b2
                            try clear c40
                            try clear c41
                            try clear c46
                            try clear c47
                            try clear hcz25_0
                            try clear hcz25_1
                            try clear hcz25_2
                            try clear hcz25_3
                            try clear hcz27_0
                            try clear hcz27_1
                            try clear hcz27_2
                            try clear hcz27_3
                            try clear hcz42_0
                            try clear hcz42_1
                            try clear hcz42_2
                            try clear hcz42_3
                            try clear hfz25_0
                            try clear hfz25_1
                            try clear hfz25_2
                            try clear hfz25_3
                            try clear hfz27_0
                            try clear hfz27_1
                            try clear hfz27_2
                            try clear hfz27_3
                            try clear hfz42_0
                            try clear hfz42_1
                            try clear hfz42_2
                            try clear hfz42_3
                            try clear hx208_0
                            try clear hx208_1
                            try clear hx208_2
                            try clear hx208_3
                            try clear p2
                            try clear p208
                            try clear p6
                            try clear q208
                            obtain ⟨x78_3, rfl, HA, HK3, HO_57, HO_76, BK189, BK204, BK209, HB⟩ := hrel
                            cases gk with
                            | zero => exact absurd HA.out (by simp [storagebarterlaw04_ChunkCuts.l1])
                            | succ k3 =>
                              have H := HA.out
                              clear HA
                              simp only [storagebarterlaw04_ChunkCuts.l1] at H
                              by_cases c50 : x78_3 < (y212.length : Int)
                              · rw [if_pos c50] at H
                                have c50b0 : decide (x78_3 < (y212.length : Int)) = true := decide_eq_true c50
                                clear c50
                                by_cases c51 : 0 ≤ x78_3
                                · rw [if_pos c51] at H
                                  have c51b0 : decide (0 ≤ x78_3) = true := decide_eq_true c51
                                  clear c51
                                  by_cases c52 : x78_3 < (y212.length : Int)
                                  · rw [if_pos c52] at H
                                    have c52b0 : decide (x78_3 < (y212.length : Int)) = true := decide_eq_true c52
                                    clear c52
                                    replace H := Option.bind_eq_some_iff.mp H
                                    obtain ⟨⟨t216, t219⟩, A530, H⟩ := H
                                    replace H : ((storagebarterref04_Cut.f k3 (rdOf ByteArray.empty y212 x78_3) ((rd_T58 y205 x59_2).f0) ((rd_T58 y205 x59_2).f1) ((rd_T58 y205 x59_2).f2) ((rd_T58 y205 x59_2).f3)).bind fun bt220 => ((chunk_Ends.f (rdOf ByteArray.empty y212 x78_3) ((rd_T58 y205 x59_2).f0) ((rd_T58 y205 x59_2).f1) ((rd_T58 y205 x59_2).f2) ((rd_T58 y205 x59_2).f3)).bind fun bt224 => ((storagebarterref04_Ends.f k3 (rdOf ByteArray.empty y212 x78_3) ((rd_T58 y205 x59_2).f0) ((rd_T58 y205 x59_2).f1) ((rd_T58 y205 x59_2).f2) ((rd_T58 y205 x59_2).f3)).bind fun bt228 => (if a2.size + t197.size ≤ 9223372036854775807 then ((chunk_Common.f k3 (rdOf ByteArray.empty y212 x78_3) (a2 ++ t197) ((rd_T58 y205 x59_2).f0) ((rd_T58 y205 x59_2).f1) ((rd_T58 y205 x59_2).f2) ((rd_T58 y205 x59_2).f3)).bind fun bt232 => ((storagebarterref04_Common.f k3 (rdOf ByteArray.empty y212 x78_3) (a2 ++ t197) ((rd_T58 y205 x59_2).f0) ((rd_T58 y205 x59_2).f1) ((rd_T58 y205 x59_2).f2) ((rd_T58 y205 x59_2).f3)).bind fun bt234 => (if t219 = bt220.2 then (if bt224.2 = bt228.2 then (if bt232.2 = bt234.2 then (if bt232.1 = bt234.1 then ((storagebarterref04_Same.f k3 t216 bt220.1).bind fun t236 => (if t236 = true then ((storagebarterlaw04_ints.f k3 bt224.1 bt228.1).bind fun t237 => (if t237 = true then (storagebarterlaw04_ChunkCuts.l1 k3 a1 a2 a4 t195 t197 y205 (y205.length : Int) x59_2 y212 (y212.length : Int) (wrap64 (x78_3 + 1)) ((rd_T58 y205 x59_2).f0) ((rd_T58 y205 x59_2).f1) ((rd_T58 y205 x59_2).f2) ((rd_T58 y205 x59_2).f3)) else (some false))) else (some false))) else (some false)) else (some false)) else (some false)) else (some false)))) else (none))))) = some r := H
                                    have A53 := Aside0.mk A530
                                    clear A530
                                    replace H := Option.bind_eq_some_iff.mp H
                                    obtain ⟨⟨t220, t223⟩, A540, H⟩ := H
                                    replace H : ((chunk_Ends.f (rdOf ByteArray.empty y212 x78_3) ((rd_T58 y205 x59_2).f0) ((rd_T58 y205 x59_2).f1) ((rd_T58 y205 x59_2).f2) ((rd_T58 y205 x59_2).f3)).bind fun bt224 => ((storagebarterref04_Ends.f k3 (rdOf ByteArray.empty y212 x78_3) ((rd_T58 y205 x59_2).f0) ((rd_T58 y205 x59_2).f1) ((rd_T58 y205 x59_2).f2) ((rd_T58 y205 x59_2).f3)).bind fun bt228 => (if a2.size + t197.size ≤ 9223372036854775807 then ((chunk_Common.f k3 (rdOf ByteArray.empty y212 x78_3) (a2 ++ t197) ((rd_T58 y205 x59_2).f0) ((rd_T58 y205 x59_2).f1) ((rd_T58 y205 x59_2).f2) ((rd_T58 y205 x59_2).f3)).bind fun bt232 => ((storagebarterref04_Common.f k3 (rdOf ByteArray.empty y212 x78_3) (a2 ++ t197) ((rd_T58 y205 x59_2).f0) ((rd_T58 y205 x59_2).f1) ((rd_T58 y205 x59_2).f2) ((rd_T58 y205 x59_2).f3)).bind fun bt234 => (if t219 = t223 then (if bt224.2 = bt228.2 then (if bt232.2 = bt234.2 then (if bt232.1 = bt234.1 then ((storagebarterref04_Same.f k3 t216 t220).bind fun t236 => (if t236 = true then ((storagebarterlaw04_ints.f k3 bt224.1 bt228.1).bind fun t237 => (if t237 = true then (storagebarterlaw04_ChunkCuts.l1 k3 a1 a2 a4 t195 t197 y205 (y205.length : Int) x59_2 y212 (y212.length : Int) (wrap64 (x78_3 + 1)) ((rd_T58 y205 x59_2).f0) ((rd_T58 y205 x59_2).f1) ((rd_T58 y205 x59_2).f2) ((rd_T58 y205 x59_2).f3)) else (some false))) else (some false))) else (some false)) else (some false)) else (some false)) else (some false)))) else (none)))) = some r := H
                                    have A54 := Aside0.mk A540
                                    clear A540
                                    replace H := Option.bind_eq_some_iff.mp H
                                    obtain ⟨⟨t224, t227⟩, A550, H⟩ := H
                                    replace H : ((storagebarterref04_Ends.f k3 (rdOf ByteArray.empty y212 x78_3) ((rd_T58 y205 x59_2).f0) ((rd_T58 y205 x59_2).f1) ((rd_T58 y205 x59_2).f2) ((rd_T58 y205 x59_2).f3)).bind fun bt228 => (if a2.size + t197.size ≤ 9223372036854775807 then ((chunk_Common.f k3 (rdOf ByteArray.empty y212 x78_3) (a2 ++ t197) ((rd_T58 y205 x59_2).f0) ((rd_T58 y205 x59_2).f1) ((rd_T58 y205 x59_2).f2) ((rd_T58 y205 x59_2).f3)).bind fun bt232 => ((storagebarterref04_Common.f k3 (rdOf ByteArray.empty y212 x78_3) (a2 ++ t197) ((rd_T58 y205 x59_2).f0) ((rd_T58 y205 x59_2).f1) ((rd_T58 y205 x59_2).f2) ((rd_T58 y205 x59_2).f3)).bind fun bt234 => (if t219 = t223 then (if t227 = bt228.2 then (if bt232.2 = bt234.2 then (if bt232.1 = bt234.1 then ((storagebarterref04_Same.f k3 t216 t220).bind fun t236 => (if t236 = true then ((storagebarterlaw04_ints.f k3 t224 bt228.1).bind fun t237 => (if t237 = true then (storagebarterlaw04_ChunkCuts.l1 k3 a1 a2 a4 t195 t197 y205 (y205.length : Int) x59_2 y212 (y212.length : Int) (wrap64 (x78_3 + 1)) ((rd_T58 y205 x59_2).f0) ((rd_T58 y205 x59_2).f1) ((rd_T58 y205 x59_2).f2) ((rd_T58 y205 x59_2).f3)) else (some false))) else (some false))) else (some false)) else (some false)) else (some false)) else (some false)))) else (none))) = some r := H
                                    have A55 := Aside0.mk A550
                                    clear A550
                                    replace H := Option.bind_eq_some_iff.mp H
                                    obtain ⟨⟨t228, t231⟩, A560, H⟩ := H
                                    replace H : (if a2.size + t197.size ≤ 9223372036854775807 then ((chunk_Common.f k3 (rdOf ByteArray.empty y212 x78_3) (a2 ++ t197) ((rd_T58 y205 x59_2).f0) ((rd_T58 y205 x59_2).f1) ((rd_T58 y205 x59_2).f2) ((rd_T58 y205 x59_2).f3)).bind fun bt232 => ((storagebarterref04_Common.f k3 (rdOf ByteArray.empty y212 x78_3) (a2 ++ t197) ((rd_T58 y205 x59_2).f0) ((rd_T58 y205 x59_2).f1) ((rd_T58 y205 x59_2).f2) ((rd_T58 y205 x59_2).f3)).bind fun bt234 => (if t219 = t223 then (if t227 = t231 then (if bt232.2 = bt234.2 then (if bt232.1 = bt234.1 then ((storagebarterref04_Same.f k3 t216 t220).bind fun t236 => (if t236 = true then ((storagebarterlaw04_ints.f k3 t224 t228).bind fun t237 => (if t237 = true then (storagebarterlaw04_ChunkCuts.l1 k3 a1 a2 a4 t195 t197 y205 (y205.length : Int) x59_2 y212 (y212.length : Int) (wrap64 (x78_3 + 1)) ((rd_T58 y205 x59_2).f0) ((rd_T58 y205 x59_2).f1) ((rd_T58 y205 x59_2).f2) ((rd_T58 y205 x59_2).f3)) else (some false))) else (some false))) else (some false)) else (some false)) else (some false)) else (some false)))) else (none)) = some r := H
                                    have A56 := Aside0.mk A560
                                    clear A560
                                    by_cases c57 : a2.size + t197.size ≤ 9223372036854775807
                                    · rw [if_pos c57] at H
                                      have c57b0 := eq_true c57
                                      have c57b1 : decide (a2.size + t197.size ≤ 9223372036854775807) = true := decide_eq_true c57
                                      try have c57b2 : (9223372036854775807 < a2.size + t197.size) = False := eq_false (Nat.not_lt.2 c57)
                                      replace H := Option.bind_eq_some_iff.mp H
                                      obtain ⟨⟨t232, t233⟩, A580, H⟩ := H
                                      replace H : ((storagebarterref04_Common.f k3 (rdOf ByteArray.empty y212 x78_3) (a2 ++ t197) ((rd_T58 y205 x59_2).f0) ((rd_T58 y205 x59_2).f1) ((rd_T58 y205 x59_2).f2) ((rd_T58 y205 x59_2).f3)).bind fun bt234 => (if t219 = t223 then (if t227 = t231 then (if t233 = bt234.2 then (if t232 = bt234.1 then ((storagebarterref04_Same.f k3 t216 t220).bind fun t236 => (if t236 = true then ((storagebarterlaw04_ints.f k3 t224 t228).bind fun t237 => (if t237 = true then (storagebarterlaw04_ChunkCuts.l1 k3 a1 a2 a4 t195 t197 y205 (y205.length : Int) x59_2 y212 (y212.length : Int) (wrap64 (x78_3 + 1)) ((rd_T58 y205 x59_2).f0) ((rd_T58 y205 x59_2).f1) ((rd_T58 y205 x59_2).f2) ((rd_T58 y205 x59_2).f3)) else (some false))) else (some false))) else (some false)) else (some false)) else (some false)) else (some false))) = some r := H
                                      have A58 := Aside0.mk A580
                                      clear A580
                                      replace H := Option.bind_eq_some_iff.mp H
                                      obtain ⟨⟨t234, t235⟩, A590, H⟩ := H
                                      replace H : (if t219 = t223 then (if t227 = t231 then (if t233 = t235 then (if t232 = t234 then ((storagebarterref04_Same.f k3 t216 t220).bind fun t236 => (if t236 = true then ((storagebarterlaw04_ints.f k3 t224 t228).bind fun t237 => (if t237 = true then (storagebarterlaw04_ChunkCuts.l1 k3 a1 a2 a4 t195 t197 y205 (y205.length : Int) x59_2 y212 (y212.length : Int) (wrap64 (x78_3 + 1)) ((rd_T58 y205 x59_2).f0) ((rd_T58 y205 x59_2).f1) ((rd_T58 y205 x59_2).f2) ((rd_T58 y205 x59_2).f3)) else (some false))) else (some false))) else (some false)) else (some false)) else (some false)) else (some false)) = some r := H
                                      have A59 := Aside0.mk A590
                                      clear A590
                                      by_cases c60 : t219 = t223
                                      · rw [if_pos c60] at H
                                        have c60b0 : (t219 == t223) = true := beq_iff_eq.mpr c60
                                        have c60b1 : (t219 != t223) = false := bne_eq_false_iff_eq.mpr c60
                                        clear c60
                                        by_cases c61 : t227 = t231
                                        · rw [if_pos c61] at H
                                          have c61b0 : (t227 == t231) = true := beq_iff_eq.mpr c61
                                          have c61b1 : (t227 != t231) = false := bne_eq_false_iff_eq.mpr c61
                                          clear c61
                                          by_cases c62 : t233 = t235
                                          · rw [if_pos c62] at H
                                            have c62b0 : (t233 == t235) = true := beq_iff_eq.mpr c62
                                            have c62b1 : (t233 != t235) = false := bne_eq_false_iff_eq.mpr c62
                                            clear c62
                                            by_cases c63 : t232 = t234
                                            · rw [if_pos c63] at H
                                              have c63b0 : (t232 == t234) = true := beq_iff_eq.mpr c63
                                              have c63b1 : (t232 != t234) = false := bne_eq_false_iff_eq.mpr c63
                                              clear c63
                                              replace H := Option.bind_eq_some_iff.mp H
                                              obtain ⟨t236, A640, H⟩ := H
                                              replace H : (if t236 = true then ((storagebarterlaw04_ints.f k3 t224 t228).bind fun t237 => (if t237 = true then (storagebarterlaw04_ChunkCuts.l1 k3 a1 a2 a4 t195 t197 y205 (y205.length : Int) x59_2 y212 (y212.length : Int) (wrap64 (x78_3 + 1)) ((rd_T58 y205 x59_2).f0) ((rd_T58 y205 x59_2).f1) ((rd_T58 y205 x59_2).f2) ((rd_T58 y205 x59_2).f3)) else (some false))) else (some false)) = some r := H
                                              have A64 := Aside0.mk A640
                                              clear A640
                                              by_cases c65 : t236 = true
                                              · subst c65
                                                have H1 : ((storagebarterlaw04_ints.f k3 t224 t228).bind fun t237 => (if t237 = true then (storagebarterlaw04_ChunkCuts.l1 k3 a1 a2 a4 t195 t197 y205 (y205.length : Int) x59_2 y212 (y212.length : Int) (wrap64 (x78_3 + 1)) ((rd_T58 y205 x59_2).f0) ((rd_T58 y205 x59_2).f1) ((rd_T58 y205 x59_2).f2) ((rd_T58 y205 x59_2).f3)) else (some false))) = some r := by rw [if_pos rfl] at H; exact H
                                                clear H
                                                have H := H1
                                                clear H1
                                                replace H := Option.bind_eq_some_iff.mp H
                                                obtain ⟨t237, A660, H⟩ := H
                                                replace H : (if t237 = true then (storagebarterlaw04_ChunkCuts.l1 k3 a1 a2 a4 t195 t197 y205 (y205.length : Int) x59_2 y212 (y212.length : Int) (wrap64 (x78_3 + 1)) ((rd_T58 y205 x59_2).f0) ((rd_T58 y205 x59_2).f1) ((rd_T58 y205 x59_2).f2) ((rd_T58 y205 x59_2).f3)) else (some false)) = some r := H
                                                have A66 := Aside0.mk A660
                                                clear A660
                                                by_cases c67 : t237 = true
                                                · subst c67
                                                  have H1 : (storagebarterlaw04_ChunkCuts.l1 k3 a1 a2 a4 t195 t197 y205 (y205.length : Int) x59_2 y212 (y212.length : Int) (wrap64 (x78_3 + 1)) ((rd_T58 y205 x59_2).f0) ((rd_T58 y205 x59_2).f1) ((rd_T58 y205 x59_2).f2) ((rd_T58 y205 x59_2).f3)) = some r := by rw [if_pos rfl] at H; exact H
                                                  clear H
                                                  have H := H1
                                                  clear H1
                                                  have H' := Aside0.mk H
                                                  clear H
                                                  have p215 : 0 ≤ (x78_3 : Int) := of_decide_eq_true (by first | (with_reducible assumption) | assumption)
                                                  have q215 : x78_3 < (y212.length : Int) := of_decide_eq_true (by first | (with_reducible assumption) | assumption)
                                                  obtain ⟨ad215, e215, hx215_0⟩ := Kd.at_string (Kd.R_reads' HO_76.out).2.2 x78_3 p215 q215
                                                  cases e215
                                                  replace p215 := eq_true p215
                                                  replace q215 := eq_true q215
                                                  have hnb68 := NB209_189.out
                                                  have hnc68 := NB189_209.out
                                                  have hnb69 := NB209_204.out
                                                  have hnc69 := NB204_209.out
                                                  have hcz70_0 : wr.cell? ⟨gb209, 0, none⟩ = some (.int .i64 ((rd_T58 y205 x59_2).f0)) := (blk_cell BK209.out 0).trans rfl
                                                  have hcz70_1 : wr.cell? ⟨gb209, 1, none⟩ = some (.int .i64 ((rd_T58 y205 x59_2).f1)) := (blk_cell BK209.out 1).trans rfl
                                                  have hcz70_2 : wr.cell? ⟨gb209, 2, none⟩ = some (.int .i64 ((rd_T58 y205 x59_2).f2)) := (blk_cell BK209.out 2).trans rfl
                                                  have hcz70_3 : wr.cell? ⟨gb209, 3, none⟩ = some (.int .i64 ((rd_T58 y205 x59_2).f3)) := (blk_cell BK209.out 3).trans rfl
                                                  have hfz70_0 := blk_frozen BK209.out 0
                                                  have hfz70_1 := blk_frozen BK209.out 1
                                                  have hfz70_2 := blk_frozen BK209.out 2
                                                  have hfz70_3 := blk_frozen BK209.out 3
                                                  go_wp2_with (first | ((with_reducible refine gate_callee (f := 39) rfl ?_); refine goesL_ (some 85) rfl rfl Try.func39 (by kernel_rfl) rfl #[.string (rdOf ByteArray.empty y212 x78_3), .agg #[.int .i64 ((rd_T58 y205 x59_2).f0), .int .i64 ((rd_T58 y205 x59_2).f1), .int .i64 ((rd_T58 y205 x59_2).f2), .int .i64 ((rd_T58 y205 x59_2).f3)]] rfl (by (try simp only [List.map_toArray, List.map_cons, List.map_nil]); first | done | rfl | (simp only [List.length_drop, List.length_take]; rfl)) ?_; (with_reducible refine (chunk_Cut.calls k3 (rdOf ByteArray.empty y212 x78_3) ((rd_T58 y205 x59_2).f0) ((rd_T58 y205 x59_2).f1) ((rd_T58 y205 x59_2).f2) ((rd_T58 y205 x59_2).f3) t216 t219 _ A53.out).mono ?_); rintro e w71 ⟨v217, rfl, ho0, hb⟩; refine ⟨_, rfl, ?_⟩; have n0_ := Aside0.mk (Kd.R_below (by (with_reducible repeat (first | apply Kd.R_alloc | apply Kd.R_drewN | apply Kd.R_drew)); exact HO_57.out) hb); have n1_ := Aside0.mk (Kd.R_elder' (by (with_reducible repeat (first | apply Kd.R_alloc | apply Kd.R_drewN | apply Kd.R_drew)); exact HO_76.out) (Kd.R_base ho0) hb); have n2_ := Aside0.mk (Kd.R_lower (Kd.R_new' ho0 (Kd.R_lt (by (with_reducible repeat (first | apply Kd.R_alloc | apply Kd.R_drewN | apply Kd.R_drew)); exact HO_76.out))) (below_size (by repeat (first | (with_reducible first | exact HB.out | apply below_alloc | apply pw_below_drewN | apply below_drew1 | refine below_set ?_ GE189.out | refine below_set ?_ GE204.out | refine below_set ?_ GE209.out) | exact HB.out)))); have n3_ := Aside0.mk (blk_below (g := gb189) (o := .cells #[.int .i64 a3_0, .int .i64 a3_1, .int .i64 a3_2, .int .i64 a3_3] 58 (0, 0)) (by (with_reducible repeat (first | refine blk_drewN ?_ _ | refine blk_drew ?_ | refine blk_alloc ?_ _)); exact BK189.out) hb); have n4_ := Aside0.mk (blk_below (g := gb204) (o := .cells #[.int .i64 t199, .int .i64 t200, .int .i64 t201, .int .i64 t202] 58 (0, 0)) (by (with_reducible repeat (first | refine blk_drewN ?_ _ | refine blk_drew ?_ | refine blk_alloc ?_ _)); exact BK204.out) hb); have n5_ := Aside0.mk (blk_below (g := gb209) (o := .cells #[.int .i64 ((rd_T58 y205 x59_2).f0), .int .i64 ((rd_T58 y205 x59_2).f1), .int .i64 ((rd_T58 y205 x59_2).f2), .int .i64 ((rd_T58 y205 x59_2).f3)] 58 (0, 0)) (by (with_reducible repeat (first | refine blk_drewN ?_ _ | refine blk_drew ?_ | refine blk_alloc ?_ _)); exact BK209.out) hb); have n6_ := Aside0.mk (below_step (by repeat (first | (with_reducible first | exact HB.out | apply below_alloc | apply pw_below_drewN | apply below_drew1 | refine below_set ?_ GE189.out | refine below_set ?_ GE204.out | refine below_set ?_ GE209.out) | exact HB.out)) hb); clear HO_57; clear HO_76; clear BK189; clear BK204; clear BK209; clear HB; have HO_57 := n0_; have HO_76 := n1_; have HO218 := n2_; have BK189 := n3_; have BK204 := n4_; have BK209 := n5_; have HB := n6_; clear n0_ n1_ n2_ n3_ n4_ n5_ n6_; (try clear hb); (try clear hb2); (try clear hk); (try clear hi); (try clear ho0); have hcz72_0 : w71.cell? ⟨gb209, 0, none⟩ = some (.int .i64 ((rd_T58 y205 x59_2).f0)) := (blk_cell BK209.out 0).trans rfl; have hcz72_1 : w71.cell? ⟨gb209, 1, none⟩ = some (.int .i64 ((rd_T58 y205 x59_2).f1)) := (blk_cell BK209.out 1).trans rfl; have hcz72_2 : w71.cell? ⟨gb209, 2, none⟩ = some (.int .i64 ((rd_T58 y205 x59_2).f2)) := (blk_cell BK209.out 2).trans rfl; have hcz72_3 : w71.cell? ⟨gb209, 3, none⟩ = some (.int .i64 ((rd_T58 y205 x59_2).f3)) := (blk_cell BK209.out 3).trans rfl; have hfz72_0 := blk_frozen BK209.out 0; have hfz72_1 := blk_frozen BK209.out 1; have hfz72_2 := blk_frozen BK209.out 2; have hfz72_3 := blk_frozen BK209.out 3) | ((with_reducible refine gate_callee (f := 48) rfl ?_); refine goesL_ (some 91) rfl rfl Try.func48 (by kernel_rfl) rfl #[.string (rdOf ByteArray.empty y212 x78_3), .agg #[.int .i64 ((rd_T58 y205 x59_2).f0), .int .i64 ((rd_T58 y205 x59_2).f1), .int .i64 ((rd_T58 y205 x59_2).f2), .int .i64 ((rd_T58 y205 x59_2).f3)]] rfl (by (try simp only [List.map_toArray, List.map_cons, List.map_nil]); first | done | rfl | (simp only [List.length_drop, List.length_take]; rfl)) ?_; (with_reducible refine (storagebarterref04_Cut.calls k3 (rdOf ByteArray.empty y212 x78_3) ((rd_T58 y205 x59_2).f0) ((rd_T58 y205 x59_2).f1) ((rd_T58 y205 x59_2).f2) ((rd_T58 y205 x59_2).f3) t220 t223 _ A54.out).mono ?_); rintro e w73 ⟨v221, rfl, ho0, hb⟩; refine ⟨_, rfl, ?_⟩; have n0_ := Aside0.mk (Kd.R_below (by (with_reducible repeat (first | apply Kd.R_alloc | apply Kd.R_drewN | apply Kd.R_drew)); exact HO_57.out) hb); have n1_ := Aside0.mk (Kd.R_elder' (by (with_reducible repeat (first | apply Kd.R_alloc | apply Kd.R_drewN | apply Kd.R_drew)); exact HO_76.out) (Kd.R_base ho0) hb); have n2_ := Aside0.mk (Kd.R_elder' (by (with_reducible repeat (first | apply Kd.R_alloc | apply Kd.R_drewN | apply Kd.R_drew)); exact HO218.out) (Kd.R_base ho0) hb); have n3_ := Aside0.mk (Kd.R_lower (Kd.R_new' (Kd.R_new' ho0 (Kd.R_lt (by (with_reducible repeat (first | apply Kd.R_alloc | apply Kd.R_drewN | apply Kd.R_drew)); exact HO_76.out))) (Kd.R_lt (by (with_reducible repeat (first | apply Kd.R_alloc | apply Kd.R_drewN | apply Kd.R_drew)); exact HO218.out))) (below_size (by repeat (first | (with_reducible first | exact HB.out | apply below_alloc | apply pw_below_drewN | apply below_drew1 | refine below_set ?_ GE189.out | refine below_set ?_ GE204.out | refine below_set ?_ GE209.out) | exact HB.out)))); have n4_ := Aside0.mk (blk_below (g := gb189) (o := .cells #[.int .i64 a3_0, .int .i64 a3_1, .int .i64 a3_2, .int .i64 a3_3] 58 (0, 0)) (by (with_reducible repeat (first | refine blk_drewN ?_ _ | refine blk_drew ?_ | refine blk_alloc ?_ _)); exact BK189.out) hb); have n5_ := Aside0.mk (blk_below (g := gb204) (o := .cells #[.int .i64 t199, .int .i64 t200, .int .i64 t201, .int .i64 t202] 58 (0, 0)) (by (with_reducible repeat (first | refine blk_drewN ?_ _ | refine blk_drew ?_ | refine blk_alloc ?_ _)); exact BK204.out) hb); have n6_ := Aside0.mk (blk_below (g := gb209) (o := .cells #[.int .i64 ((rd_T58 y205 x59_2).f0), .int .i64 ((rd_T58 y205 x59_2).f1), .int .i64 ((rd_T58 y205 x59_2).f2), .int .i64 ((rd_T58 y205 x59_2).f3)] 58 (0, 0)) (by (with_reducible repeat (first | refine blk_drewN ?_ _ | refine blk_drew ?_ | refine blk_alloc ?_ _)); exact BK209.out) hb); have n7_ := Aside0.mk (below_step (by repeat (first | (with_reducible first | exact HB.out | apply below_alloc | apply pw_below_drewN | apply below_drew1 | refine below_set ?_ GE189.out | refine below_set ?_ GE204.out | refine below_set ?_ GE209.out) | exact HB.out)) hb); clear HO_57; clear HO_76; clear HO218; clear BK189; clear BK204; clear BK209; clear HB; have HO_57 := n0_; have HO_76 := n1_; have HO218 := n2_; have HO222 := n3_; have BK189 := n4_; have BK204 := n5_; have BK209 := n6_; have HB := n7_; clear n0_ n1_ n2_ n3_ n4_ n5_ n6_ n7_; (try clear hb); (try clear hb2); (try clear hk); (try clear hi); (try clear ho0); have hcz74_0 : w73.cell? ⟨gb209, 0, none⟩ = some (.int .i64 ((rd_T58 y205 x59_2).f0)) := (blk_cell BK209.out 0).trans rfl; have hcz74_1 : w73.cell? ⟨gb209, 1, none⟩ = some (.int .i64 ((rd_T58 y205 x59_2).f1)) := (blk_cell BK209.out 1).trans rfl; have hcz74_2 : w73.cell? ⟨gb209, 2, none⟩ = some (.int .i64 ((rd_T58 y205 x59_2).f2)) := (blk_cell BK209.out 2).trans rfl; have hcz74_3 : w73.cell? ⟨gb209, 3, none⟩ = some (.int .i64 ((rd_T58 y205 x59_2).f3)) := (blk_cell BK209.out 3).trans rfl; have hfz74_0 := blk_frozen BK209.out 0; have hfz74_1 := blk_frozen BK209.out 1; have hfz74_2 := blk_frozen BK209.out 2; have hfz74_3 := blk_frozen BK209.out 3) | ((with_reducible refine gate_callee (f := 45) rfl ?_); refine goesL_ (some 97) rfl rfl Try.func45 (by kernel_rfl) rfl #[.string (rdOf ByteArray.empty y212 x78_3), .agg #[.int .i64 ((rd_T58 y205 x59_2).f0), .int .i64 ((rd_T58 y205 x59_2).f1), .int .i64 ((rd_T58 y205 x59_2).f2), .int .i64 ((rd_T58 y205 x59_2).f3)]] rfl (by (try simp only [List.map_toArray, List.map_cons, List.map_nil]); first | done | rfl | (simp only [List.length_drop, List.length_take]; rfl)) ?_; (with_reducible refine (chunk_Ends.calls (rdOf ByteArray.empty y212 x78_3) ((rd_T58 y205 x59_2).f0) ((rd_T58 y205 x59_2).f1) ((rd_T58 y205 x59_2).f2) ((rd_T58 y205 x59_2).f3) t224 t227 _ A55.out).mono ?_); rintro e w75 ⟨v225, rfl, ho0, hb⟩; refine ⟨_, rfl, ?_⟩; have n0_ := Aside0.mk (Kd.R_below (by (with_reducible repeat (first | apply Kd.R_alloc | apply Kd.R_drewN | apply Kd.R_drew)); exact HO_57.out) hb); have n1_ := Aside0.mk (Kd.R_below (by (with_reducible repeat (first | apply Kd.R_alloc | apply Kd.R_drewN | apply Kd.R_drew)); exact HO_76.out) hb); have n2_ := Aside0.mk (Kd.R_below (by (with_reducible repeat (first | apply Kd.R_alloc | apply Kd.R_drewN | apply Kd.R_drew)); exact HO218.out) hb); have n3_ := Aside0.mk (Kd.R_below (by (with_reducible repeat (first | apply Kd.R_alloc | apply Kd.R_drewN | apply Kd.R_drew)); exact HO222.out) hb); have n4_ := Aside0.mk (Kd.R_lower ho0 (below_size (by repeat (first | (with_reducible first | exact HB.out | apply below_alloc | apply pw_below_drewN | apply below_drew1 | refine below_set ?_ GE189.out | refine below_set ?_ GE204.out | refine below_set ?_ GE209.out) | exact HB.out)))); have n5_ := Aside0.mk (blk_below (g := gb189) (o := .cells #[.int .i64 a3_0, .int .i64 a3_1, .int .i64 a3_2, .int .i64 a3_3] 58 (0, 0)) (by (with_reducible repeat (first | refine blk_drewN ?_ _ | refine blk_drew ?_ | refine blk_alloc ?_ _)); exact BK189.out) hb); have n6_ := Aside0.mk (blk_below (g := gb204) (o := .cells #[.int .i64 t199, .int .i64 t200, .int .i64 t201, .int .i64 t202] 58 (0, 0)) (by (with_reducible repeat (first | refine blk_drewN ?_ _ | refine blk_drew ?_ | refine blk_alloc ?_ _)); exact BK204.out) hb); have n7_ := Aside0.mk (blk_below (g := gb209) (o := .cells #[.int .i64 ((rd_T58 y205 x59_2).f0), .int .i64 ((rd_T58 y205 x59_2).f1), .int .i64 ((rd_T58 y205 x59_2).f2), .int .i64 ((rd_T58 y205 x59_2).f3)] 58 (0, 0)) (by (with_reducible repeat (first | refine blk_drewN ?_ _ | refine blk_drew ?_ | refine blk_alloc ?_ _)); exact BK209.out) hb); have n8_ := Aside0.mk (below_step (by repeat (first | (with_reducible first | exact HB.out | apply below_alloc | apply pw_below_drewN | apply below_drew1 | refine below_set ?_ GE189.out | refine below_set ?_ GE204.out | refine below_set ?_ GE209.out) | exact HB.out)) hb); clear HO_57; clear HO_76; clear HO218; clear HO222; clear BK189; clear BK204; clear BK209; clear HB; have HO_57 := n0_; have HO_76 := n1_; have HO218 := n2_; have HO222 := n3_; have HO226 := n4_; have BK189 := n5_; have BK204 := n6_; have BK209 := n7_; have HB := n8_; clear n0_ n1_ n2_ n3_ n4_ n5_ n6_ n7_ n8_; (try clear hb); (try clear hb2); (try clear hk); (try clear hi); (try clear ho0); have hcz76_0 : w75.cell? ⟨gb209, 0, none⟩ = some (.int .i64 ((rd_T58 y205 x59_2).f0)) := (blk_cell BK209.out 0).trans rfl; have hcz76_1 : w75.cell? ⟨gb209, 1, none⟩ = some (.int .i64 ((rd_T58 y205 x59_2).f1)) := (blk_cell BK209.out 1).trans rfl; have hcz76_2 : w75.cell? ⟨gb209, 2, none⟩ = some (.int .i64 ((rd_T58 y205 x59_2).f2)) := (blk_cell BK209.out 2).trans rfl; have hcz76_3 : w75.cell? ⟨gb209, 3, none⟩ = some (.int .i64 ((rd_T58 y205 x59_2).f3)) := (blk_cell BK209.out 3).trans rfl; have hfz76_0 := blk_frozen BK209.out 0; have hfz76_1 := blk_frozen BK209.out 1; have hfz76_2 := blk_frozen BK209.out 2; have hfz76_3 := blk_frozen BK209.out 3) | ((with_reducible refine gate_callee (f := 49) rfl ?_); refine goesL_ (some 103) rfl rfl Try.func49 (by kernel_rfl) rfl #[.string (rdOf ByteArray.empty y212 x78_3), .agg #[.int .i64 ((rd_T58 y205 x59_2).f0), .int .i64 ((rd_T58 y205 x59_2).f1), .int .i64 ((rd_T58 y205 x59_2).f2), .int .i64 ((rd_T58 y205 x59_2).f3)]] rfl (by (try simp only [List.map_toArray, List.map_cons, List.map_nil]); first | done | rfl | (simp only [List.length_drop, List.length_take]; rfl)) ?_; (with_reducible refine (storagebarterref04_Ends.calls k3 (rdOf ByteArray.empty y212 x78_3) ((rd_T58 y205 x59_2).f0) ((rd_T58 y205 x59_2).f1) ((rd_T58 y205 x59_2).f2) ((rd_T58 y205 x59_2).f3) t228 t231 _ A56.out).mono ?_); rintro e w77 ⟨v229, rfl, ho0, hb⟩; refine ⟨_, rfl, ?_⟩; have n0_ := Aside0.mk (Kd.R_below (by (with_reducible repeat (first | apply Kd.R_alloc | apply Kd.R_drewN | apply Kd.R_drew)); exact HO_57.out) hb); have n1_ := Aside0.mk (Kd.R_below (by (with_reducible repeat (first | apply Kd.R_alloc | apply Kd.R_drewN | apply Kd.R_drew)); exact HO_76.out) hb); have n2_ := Aside0.mk (Kd.R_below (by (with_reducible repeat (first | apply Kd.R_alloc | apply Kd.R_drewN | apply Kd.R_drew)); exact HO218.out) hb); have n3_ := Aside0.mk (Kd.R_below (by (with_reducible repeat (first | apply Kd.R_alloc | apply Kd.R_drewN | apply Kd.R_drew)); exact HO222.out) hb); have n4_ := Aside0.mk (Kd.R_elder' (by (with_reducible repeat (first | apply Kd.R_alloc | apply Kd.R_drewN | apply Kd.R_drew)); exact HO226.out) (Kd.R_base ho0) hb); have n5_ := Aside0.mk (Kd.R_lower (Kd.R_new' ho0 (Kd.R_lt (by (with_reducible repeat (first | apply Kd.R_alloc | apply Kd.R_drewN | apply Kd.R_drew)); exact HO226.out))) (below_size (by repeat (first | (with_reducible first | exact HB.out | apply below_alloc | apply pw_below_drewN | apply below_drew1 | refine below_set ?_ GE189.out | refine below_set ?_ GE204.out | refine below_set ?_ GE209.out) | exact HB.out)))); have n6_ := Aside0.mk (blk_below (g := gb189) (o := .cells #[.int .i64 a3_0, .int .i64 a3_1, .int .i64 a3_2, .int .i64 a3_3] 58 (0, 0)) (by (with_reducible repeat (first | refine blk_drewN ?_ _ | refine blk_drew ?_ | refine blk_alloc ?_ _)); exact BK189.out) hb); have n7_ := Aside0.mk (blk_below (g := gb204) (o := .cells #[.int .i64 t199, .int .i64 t200, .int .i64 t201, .int .i64 t202] 58 (0, 0)) (by (with_reducible repeat (first | refine blk_drewN ?_ _ | refine blk_drew ?_ | refine blk_alloc ?_ _)); exact BK204.out) hb); have n8_ := Aside0.mk (blk_below (g := gb209) (o := .cells #[.int .i64 ((rd_T58 y205 x59_2).f0), .int .i64 ((rd_T58 y205 x59_2).f1), .int .i64 ((rd_T58 y205 x59_2).f2), .int .i64 ((rd_T58 y205 x59_2).f3)] 58 (0, 0)) (by (with_reducible repeat (first | refine blk_drewN ?_ _ | refine blk_drew ?_ | refine blk_alloc ?_ _)); exact BK209.out) hb); have n9_ := Aside0.mk (below_step (by repeat (first | (with_reducible first | exact HB.out | apply below_alloc | apply pw_below_drewN | apply below_drew1 | refine below_set ?_ GE189.out | refine below_set ?_ GE204.out | refine below_set ?_ GE209.out) | exact HB.out)) hb); clear HO_57; clear HO_76; clear HO218; clear HO222; clear HO226; clear BK189; clear BK204; clear BK209; clear HB; have HO_57 := n0_; have HO_76 := n1_; have HO218 := n2_; have HO222 := n3_; have HO226 := n4_; have HO230 := n5_; have BK189 := n6_; have BK204 := n7_; have BK209 := n8_; have HB := n9_; clear n0_ n1_ n2_ n3_ n4_ n5_ n6_ n7_ n8_ n9_; (try clear hb); (try clear hb2); (try clear hk); (try clear hi); (try clear ho0); have hcz78_0 : w77.cell? ⟨gb209, 0, none⟩ = some (.int .i64 ((rd_T58 y205 x59_2).f0)) := (blk_cell BK209.out 0).trans rfl; have hcz78_1 : w77.cell? ⟨gb209, 1, none⟩ = some (.int .i64 ((rd_T58 y205 x59_2).f1)) := (blk_cell BK209.out 1).trans rfl; have hcz78_2 : w77.cell? ⟨gb209, 2, none⟩ = some (.int .i64 ((rd_T58 y205 x59_2).f2)) := (blk_cell BK209.out 2).trans rfl; have hcz78_3 : w77.cell? ⟨gb209, 3, none⟩ = some (.int .i64 ((rd_T58 y205 x59_2).f3)) := (blk_cell BK209.out 3).trans rfl; have hfz78_0 := blk_frozen BK209.out 0; have hfz78_1 := blk_frozen BK209.out 1; have hfz78_2 := blk_frozen BK209.out 2; have hfz78_3 := blk_frozen BK209.out 3) | ((with_reducible refine gate_callee (f := 50) rfl ?_); refine goesL_ (some 112) rfl rfl Try.func50 (by kernel_rfl) rfl #[.string (rdOf ByteArray.empty y212 x78_3), .string (a2 ++ t197), .agg #[.int .i64 ((rd_T58 y205 x59_2).f0), .int .i64 ((rd_T58 y205 x59_2).f1), .int .i64 ((rd_T58 y205 x59_2).f2), .int .i64 ((rd_T58 y205 x59_2).f3)]] rfl (by (try simp only [List.map_toArray, List.map_cons, List.map_nil]); first | done | rfl | (simp only [List.length_drop, List.length_take]; rfl)) ?_; (with_reducible refine (chunk_Common.calls k3 (rdOf ByteArray.empty y212 x78_3) (a2 ++ t197) ((rd_T58 y205 x59_2).f0) ((rd_T58 y205 x59_2).f1) ((rd_T58 y205 x59_2).f2) ((rd_T58 y205 x59_2).f3) t232 t233 _ A58.out).mono ?_); rintro e w79 ⟨rfl, hb⟩; refine ⟨_, rfl, ?_⟩; have n0_ := Aside0.mk (Kd.R_below (by (with_reducible repeat (first | apply Kd.R_alloc | apply Kd.R_drewN | apply Kd.R_drew)); exact HO_57.out) hb); have n1_ := Aside0.mk (Kd.R_below (by (with_reducible repeat (first | apply Kd.R_alloc | apply Kd.R_drewN | apply Kd.R_drew)); exact HO_76.out) hb); have n2_ := Aside0.mk (Kd.R_below (by (with_reducible repeat (first | apply Kd.R_alloc | apply Kd.R_drewN | apply Kd.R_drew)); exact HO218.out) hb); have n3_ := Aside0.mk (Kd.R_below (by (with_reducible repeat (first | apply Kd.R_alloc | apply Kd.R_drewN | apply Kd.R_drew)); exact HO222.out) hb); have n4_ := Aside0.mk (Kd.R_below (by (with_reducible repeat (first | apply Kd.R_alloc | apply Kd.R_drewN | apply Kd.R_drew)); exact HO226.out) hb); have n5_ := Aside0.mk (Kd.R_below (by (with_reducible repeat (first | apply Kd.R_alloc | apply Kd.R_drewN | apply Kd.R_drew)); exact HO230.out) hb); have n6_ := Aside0.mk (blk_below (g := gb189) (o := .cells #[.int .i64 a3_0, .int .i64 a3_1, .int .i64 a3_2, .int .i64 a3_3] 58 (0, 0)) (by (with_reducible repeat (first | refine blk_drewN ?_ _ | refine blk_drew ?_ | refine blk_alloc ?_ _)); exact BK189.out) hb); have n7_ := Aside0.mk (blk_below (g := gb204) (o := .cells #[.int .i64 t199, .int .i64 t200, .int .i64 t201, .int .i64 t202] 58 (0, 0)) (by (with_reducible repeat (first | refine blk_drewN ?_ _ | refine blk_drew ?_ | refine blk_alloc ?_ _)); exact BK204.out) hb); have n8_ := Aside0.mk (blk_below (g := gb209) (o := .cells #[.int .i64 ((rd_T58 y205 x59_2).f0), .int .i64 ((rd_T58 y205 x59_2).f1), .int .i64 ((rd_T58 y205 x59_2).f2), .int .i64 ((rd_T58 y205 x59_2).f3)] 58 (0, 0)) (by (with_reducible repeat (first | refine blk_drewN ?_ _ | refine blk_drew ?_ | refine blk_alloc ?_ _)); exact BK209.out) hb); have n9_ := Aside0.mk (below_step (by repeat (first | (with_reducible first | exact HB.out | apply below_alloc | apply pw_below_drewN | apply below_drew1 | refine below_set ?_ GE189.out | refine below_set ?_ GE204.out | refine below_set ?_ GE209.out) | exact HB.out)) hb); clear HO_57; clear HO_76; clear HO218; clear HO222; clear HO226; clear HO230; clear BK189; clear BK204; clear BK209; clear HB; have HO_57 := n0_; have HO_76 := n1_; have HO218 := n2_; have HO222 := n3_; have HO226 := n4_; have HO230 := n5_; have BK189 := n6_; have BK204 := n7_; have BK209 := n8_; have HB := n9_; clear n0_ n1_ n2_ n3_ n4_ n5_ n6_ n7_ n8_ n9_; (try clear hb); (try clear hb2); (try clear hk); (try clear hi); have hcz80_0 : w79.cell? ⟨gb209, 0, none⟩ = some (.int .i64 ((rd_T58 y205 x59_2).f0)) := (blk_cell BK209.out 0).trans rfl; have hcz80_1 : w79.cell? ⟨gb209, 1, none⟩ = some (.int .i64 ((rd_T58 y205 x59_2).f1)) := (blk_cell BK209.out 1).trans rfl; have hcz80_2 : w79.cell? ⟨gb209, 2, none⟩ = some (.int .i64 ((rd_T58 y205 x59_2).f2)) := (blk_cell BK209.out 2).trans rfl; have hcz80_3 : w79.cell? ⟨gb209, 3, none⟩ = some (.int .i64 ((rd_T58 y205 x59_2).f3)) := (blk_cell BK209.out 3).trans rfl; have hfz80_0 := blk_frozen BK209.out 0; have hfz80_1 := blk_frozen BK209.out 1; have hfz80_2 := blk_frozen BK209.out 2; have hfz80_3 := blk_frozen BK209.out 3) | ((with_reducible refine gate_callee (f := 51) rfl ?_); refine goesL_ (some 121) rfl rfl Try.func51 (by kernel_rfl) rfl #[.string (rdOf ByteArray.empty y212 x78_3), .string (a2 ++ t197), .agg #[.int .i64 ((rd_T58 y205 x59_2).f0), .int .i64 ((rd_T58 y205 x59_2).f1), .int .i64 ((rd_T58 y205 x59_2).f2), .int .i64 ((rd_T58 y205 x59_2).f3)]] rfl (by (try simp only [List.map_toArray, List.map_cons, List.map_nil]); first | done | rfl | (simp only [List.length_drop, List.length_take]; rfl)) ?_; (with_reducible refine (storagebarterref04_Common.calls k3 (rdOf ByteArray.empty y212 x78_3) (a2 ++ t197) ((rd_T58 y205 x59_2).f0) ((rd_T58 y205 x59_2).f1) ((rd_T58 y205 x59_2).f2) ((rd_T58 y205 x59_2).f3) t234 t235 _ A59.out).mono ?_); rintro e w81 ⟨rfl, hb⟩; refine ⟨_, rfl, ?_⟩; have n0_ := Aside0.mk (Kd.R_below (by (with_reducible repeat (first | apply Kd.R_alloc | apply Kd.R_drewN | apply Kd.R_drew)); exact HO_57.out) hb); have n1_ := Aside0.mk (Kd.R_below (by (with_reducible repeat (first | apply Kd.R_alloc | apply Kd.R_drewN | apply Kd.R_drew)); exact HO_76.out) hb); have n2_ := Aside0.mk (Kd.R_below (by (with_reducible repeat (first | apply Kd.R_alloc | apply Kd.R_drewN | apply Kd.R_drew)); exact HO218.out) hb); have n3_ := Aside0.mk (Kd.R_below (by (with_reducible repeat (first | apply Kd.R_alloc | apply Kd.R_drewN | apply Kd.R_drew)); exact HO222.out) hb); have n4_ := Aside0.mk (Kd.R_below (by (with_reducible repeat (first | apply Kd.R_alloc | apply Kd.R_drewN | apply Kd.R_drew)); exact HO226.out) hb); have n5_ := Aside0.mk (Kd.R_below (by (with_reducible repeat (first | apply Kd.R_alloc | apply Kd.R_drewN | apply Kd.R_drew)); exact HO230.out) hb); have n6_ := Aside0.mk (blk_below (g := gb189) (o := .cells #[.int .i64 a3_0, .int .i64 a3_1, .int .i64 a3_2, .int .i64 a3_3] 58 (0, 0)) (by (with_reducible repeat (first | refine blk_drewN ?_ _ | refine blk_drew ?_ | refine blk_alloc ?_ _)); exact BK189.out) hb); have n7_ := Aside0.mk (blk_below (g := gb204) (o := .cells #[.int .i64 t199, .int .i64 t200, .int .i64 t201, .int .i64 t202] 58 (0, 0)) (by (with_reducible repeat (first | refine blk_drewN ?_ _ | refine blk_drew ?_ | refine blk_alloc ?_ _)); exact BK204.out) hb); have n8_ := Aside0.mk (blk_below (g := gb209) (o := .cells #[.int .i64 ((rd_T58 y205 x59_2).f0), .int .i64 ((rd_T58 y205 x59_2).f1), .int .i64 ((rd_T58 y205 x59_2).f2), .int .i64 ((rd_T58 y205 x59_2).f3)] 58 (0, 0)) (by (with_reducible repeat (first | refine blk_drewN ?_ _ | refine blk_drew ?_ | refine blk_alloc ?_ _)); exact BK209.out) hb); have n9_ := Aside0.mk (below_step (by repeat (first | (with_reducible first | exact HB.out | apply below_alloc | apply pw_below_drewN | apply below_drew1 | refine below_set ?_ GE189.out | refine below_set ?_ GE204.out | refine below_set ?_ GE209.out) | exact HB.out)) hb); clear HO_57; clear HO_76; clear HO218; clear HO222; clear HO226; clear HO230; clear BK189; clear BK204; clear BK209; clear HB; have HO_57 := n0_; have HO_76 := n1_; have HO218 := n2_; have HO222 := n3_; have HO226 := n4_; have HO230 := n5_; have BK189 := n6_; have BK204 := n7_; have BK209 := n8_; have HB := n9_; clear n0_ n1_ n2_ n3_ n4_ n5_ n6_ n7_ n8_ n9_; (try clear hb); (try clear hb2); (try clear hk); (try clear hi); obtain ⟨Ao82, co82, eo82⟩ := Kd.R_slice HO218.out; subst eo82; obtain ⟨Ao83, co83, eo83⟩ := Kd.R_slice HO222.out; subst eo83) | (go_at_call 42; (with_reducible refine (storagebarterref04_Same.calls k3 _ _ t216 _ _ t220 true _ ?side1 ?side2 ?side3 ?side4 A64.out).mono ?_); (case side1 => repeat (first | exact (Kd.R_reads' HO218.out).2.2 | (with_reducible refine Kd.C_alloc ?_ _) | (with_reducible refine Kd.C_drewN ?_ _) | (with_reducible refine Kd.C_drew ?_))); (case side2 => exact (Kd.R_reads' HO218.out).2.1); (case side3 => repeat (first | exact (Kd.R_reads' HO222.out).2.2 | (with_reducible refine Kd.C_alloc ?_ _) | (with_reducible refine Kd.C_drewN ?_ _) | (with_reducible refine Kd.C_drew ?_))); (case side4 => exact (Kd.R_reads' HO222.out).2.1); rintro e w' ⟨rfl, ⟨nd, rfl⟩⟩; obtain ⟨Ao84, co84, eo84⟩ := Kd.R_slice HO226.out; subst eo84; obtain ⟨Ao85, co85, eo85⟩ := Kd.R_slice HO230.out; subst eo85) | (go_at_call 52; (with_reducible refine (storagebarterlaw04_ints.calls k3 _ _ t224 _ _ t228 true _ ?side1 ?side2 ?side3 ?side4 A66.out).mono ?_); (case side1 => repeat (first | exact (Kd.R_reads' HO226.out).2.2 | (with_reducible refine Kd.C_alloc ?_ _) | (with_reducible refine Kd.C_drewN ?_ _) | (with_reducible refine Kd.C_drew ?_))); (case side2 => exact (Kd.R_reads' HO226.out).2.1); (case side3 => repeat (first | exact (Kd.R_reads' HO230.out).2.2 | (with_reducible refine Kd.C_alloc ?_ _) | (with_reducible refine Kd.C_drewN ?_ _) | (with_reducible refine Kd.C_drew ?_))); (case side4 => exact (Kd.R_reads' HO230.out).2.1); rintro e w' ⟨rfl, ⟨nd, rfl⟩⟩))
                                                  go_roundg k3
                                                  case measure => have := HJ7.out; have := HK2.out; have := HK3.out; omega
                                                  case rel => exact ⟨(wrap64 (x78_3 + 1)), (by first | rfl | (simp; done) | (simp [*]; done)), H', ⟨by have := HJ7.out; have := HK2.out; have := HK3.out; omega⟩, ⟨by (with_reducible repeat (first | apply Kd.R_alloc | apply Kd.R_drewN | apply Kd.R_drew)); exact HO_57.out⟩, ⟨by (with_reducible repeat (first | apply Kd.R_alloc | apply Kd.R_drewN | apply Kd.R_drew)); exact Kd.R_mono HO_76.out (fun _ hk => trivial)⟩, ⟨by (with_reducible repeat (first | refine blk_drewN ?_ _ | refine blk_drew ?_ | refine blk_alloc ?_ _)); exact BK189.out⟩, ⟨by (with_reducible repeat (first | refine blk_drewN ?_ _ | refine blk_drew ?_ | refine blk_alloc ?_ _)); exact BK204.out⟩, ⟨by (with_reducible repeat (first | refine blk_drewN ?_ _ | refine blk_drew ?_ | refine blk_alloc ?_ _)); exact BK209.out⟩, ⟨by repeat (first | (with_reducible first | exact HB.out | apply below_alloc | apply pw_below_drewN | apply below_drew1 | refine below_set ?_ GE189.out | refine below_set ?_ GE204.out | refine below_set ?_ GE209.out) | exact HB.out)⟩⟩
                                                · replace c67 := Bool.eq_false_iff.mpr c67
                                                  subst c67
                                                  have H1 : (some false) = some r := by rw [if_neg (show ¬ (false = true) by decide)] at H; exact H
                                                  clear H
                                                  have H := H1
                                                  clear H1
                                                  exact absurd (Option.some.inj H) (by rw [HRT_.out]; decide)
                                              · replace c65 := Bool.eq_false_iff.mpr c65
                                                subst c65
                                                have H1 : (some false) = some r := by rw [if_neg (show ¬ (false = true) by decide)] at H; exact H
                                                clear H
                                                have H := H1
                                                clear H1
                                                exact absurd (Option.some.inj H) (by rw [HRT_.out]; decide)
                                            · rw [if_neg c63] at H
                                              have c63b0 : (t232 == t234) = false := beq_eq_false_iff_ne.mpr c63
                                              have c63b1 : (t232 != t234) = true := bne_iff_ne.mpr c63
                                              exact absurd (Option.some.inj H) (by rw [HRT_.out]; decide)
                                          · rw [if_neg c62] at H
                                            have c62b0 : (t233 == t235) = false := beq_eq_false_iff_ne.mpr c62
                                            have c62b1 : (t233 != t235) = true := bne_iff_ne.mpr c62
                                            exact absurd (Option.some.inj H) (by rw [HRT_.out]; decide)
                                        · rw [if_neg c61] at H
                                          have c61b0 : (t227 == t231) = false := beq_eq_false_iff_ne.mpr c61
                                          have c61b1 : (t227 != t231) = true := bne_iff_ne.mpr c61
                                          exact absurd (Option.some.inj H) (by rw [HRT_.out]; decide)
                                      · rw [if_neg c60] at H
                                        have c60b0 : (t219 == t223) = false := beq_eq_false_iff_ne.mpr c60
                                        have c60b1 : (t219 != t223) = true := bne_iff_ne.mpr c60
                                        exact absurd (Option.some.inj H) (by rw [HRT_.out]; decide)
                                    · rw [if_neg c57] at H
                                      exact absurd H (by simp)
                                  · rw [if_neg c52] at H
                                    exact absurd H (by simp)
                                · rw [if_neg c51] at H
                                  exact absurd H (by simp)
                              · rw [if_neg c50] at H
                                have c50b0 : decide (x78_3 < (y212.length : Int)) = false := decide_eq_false c50
                                clear c50
                                have H' := Aside0.mk H
                                clear H
                                go_wp2
                                go_roundg k3
                                case measure => have := HJ7.out; have := HK2.out; have := HK3.out; omega
                                case rel => exact ⟨(wrap64 (x59_2 + 1)), (by first | rfl | (simp; done) | (simp [*]; done)), H', ⟨by have := HJ7.out; have := HK2.out; have := HK3.out; omega⟩, ⟨by (with_reducible repeat (first | apply Kd.R_alloc | apply Kd.R_drewN | apply Kd.R_drew)); exact Kd.R_mono HO_57.out (fun _ hk => ⟨hk.1, hk.2.1⟩)⟩, ⟨by (with_reducible repeat (first | refine blk_drewN ?_ _ | refine blk_drew ?_ | refine blk_alloc ?_ _)); exact BK189.out⟩, ⟨by (with_reducible repeat (first | refine blk_drewN ?_ _ | refine blk_drew ?_ | refine blk_alloc ?_ _)); exact BK204.out⟩, ⟨by repeat (first | (with_reducible first | exact HB.out | apply below_alloc | apply pw_below_drewN | apply below_drew1 | refine below_set ?_ GE189.out | refine below_set ?_ GE204.out | refine below_set ?_ GE209.out) | exact HB.out)⟩⟩
                        · rw [if_neg c38] at H
                          exact absurd H (by simp)
                      · rw [if_neg c37] at H
                        exact absurd H (by simp)
                    · rw [if_neg c36] at H
                      have c36b0 : (t210 == t211) = false := beq_eq_false_iff_ne.mpr c36
                      have c36b1 : (t210 != t211) = true := bne_iff_ne.mpr c36
                      exact absurd (Option.some.inj H) (by rw [HRT_.out]; decide)
                  · rw [if_neg c33] at H
                    exact absurd H (by simp)
                · rw [if_neg c32] at H
                  exact absurd H (by simp)
              · rw [if_neg c31] at H
                have c31b0 : decide (x59_2 < (y205.length : Int)) = false := decide_eq_false c31
                clear c31
                replace H := Option.bind_eq_some_iff.mp H
                obtain ⟨t238, A860, H⟩ := H
                replace H : ((some (([a4, t238] : List Int) : List Int)).bind fun y239 => (storagebarterlaw04_ChunkCuts.l2 k2 a1 y239 (y239.length : Int) 0)) = some r := H
                have A86 := Aside0.mk A860
                clear A860
                obtain ⟨y239, hy239⟩ : ∃ y_ : List Int, y_ = (([a4, t238] : List Int)) := ⟨_, rfl⟩
                replace H : (storagebarterlaw04_ChunkCuts.l2 k2 a1 y239 (y239.length : Int) 0) = some r := by first | (rw [hy239]; with_reducible exact H) | (have H2_ := (Option.bind_some _ _).symm.trans H; rw [hy239]; with_reducible exact H2_) | (have H2_ := (Option.bind_some _ _).symm.trans H; with_reducible exact H2_) | with_reducible exact H | (rw [hy239]; exact H) | exact H
                have Ny239 := Aside0.mk hy239
                clear hy239
                have H' := Aside0.mk H
                clear H
                go_wp2_with (first | ((with_reducible refine gate_callee (f := 53) rfl ?_); refine goesL_ (some 158) rfl rfl Try.func53 (by kernel_rfl) rfl #[.int .i64 a4, .int .i64 9] rfl (by (try simp only [List.map_toArray, List.map_cons, List.map_nil]); first | done | rfl | (simp only [List.length_drop, List.length_take]; rfl)) ?_; (with_reducible refine (storagebartermake_Mod.calls a4 9 t238 _ A86.out).mono ?_); rintro e w' ⟨rfl, ⟨nd, rfl⟩⟩; refine ⟨_, rfl, ?_⟩) | ((with_reducible refine gate_dst (N := 159) rfl ?_); (try (refine gate_guard (by rfl) ?_; dsimp only)); refine Kd.R_lit (Kd.int .i64) _ 3 ?hg (N := 159) ?hd (xs := ([a4, t238] : List Int)) (inner := [.int .i64 a4, .int .i64 t238]) (ok := fun _ => True) (okp := fun _ => True) ?hr ?hp (fun _ hk => hk) trivial (Below.refl _ _) (Nat.le_refl _) (by simp) ?_; (case hd => rfl); (case hg => rfl); (case hr => first | (go_simp; done) | (go_simp; rfl)); (case hp => exact (Reps.one (show Kd.M (Kd.int .i64) _ _ _ a4 [.int .i64 a4] from rfl) (Reps.one (show Kd.M (Kd.int .i64) _ _ _ t238 [.int .i64 t238] from rfl) (Reps.none _ _)))); intro v240 w87 ho88 hb hg_ hnew_; clear hg_ hnew_; (first | rw [← Ny239.out] at ho88 | (simp only [Int.reduceToNat] at ho88; rw [← Ny239.out] at ho88)); have n0_ := Aside0.mk (Kd.R_below (by (with_reducible repeat (first | apply Kd.R_alloc | apply Kd.R_drewN | apply Kd.R_drew)); exact HO_57.out) hb); have n1_ := Aside0.mk (Kd.R_lower ho88 (below_size (by repeat (first | (with_reducible first | exact HB.out | apply below_alloc | apply pw_below_drewN | apply below_drew1 | refine below_set ?_ GE189.out | refine below_set ?_ GE204.out) | exact HB.out)))); have n2_ := Aside0.mk (blk_below (g := gb189) (o := .cells #[.int .i64 a3_0, .int .i64 a3_1, .int .i64 a3_2, .int .i64 a3_3] 58 (0, 0)) (by (with_reducible repeat (first | refine blk_drewN ?_ _ | refine blk_drew ?_ | refine blk_alloc ?_ _)); exact BK189.out) hb); have n3_ := Aside0.mk (blk_below (g := gb204) (o := .cells #[.int .i64 t199, .int .i64 t200, .int .i64 t201, .int .i64 t202] 58 (0, 0)) (by (with_reducible repeat (first | refine blk_drewN ?_ _ | refine blk_drew ?_ | refine blk_alloc ?_ _)); exact BK204.out) hb); have n4_ := Aside0.mk (below_step (by repeat (first | (with_reducible first | exact HB.out | apply below_alloc | apply pw_below_drewN | apply below_drew1 | refine below_set ?_ GE189.out | refine below_set ?_ GE204.out) | exact HB.out)) hb); clear HO_57; clear BK189; clear BK204; clear HB; have HO_57 := n0_; have HO241 := n1_; have BK189 := n2_; have BK204 := n3_; have HB := n4_; clear n0_ n1_ n2_ n3_ n4_; clear hb ho88; obtain ⟨Ao89, co89, eo89⟩ := Kd.R_slice HO241.out; subst eo89))
                go_loopg [161] k2 (fun kq v161 w' => ∃ (x161_3 : Int), v161 = .int .i64 x161_3 ∧ Aside0 (storagebarterlaw04_ChunkCuts.l2 kq a1 y239 (y239.length : Int) x161_3 = some r) ∧ Aside0 (kq ≤ k2) ∧ Aside0 (Kd.R (Kd.int .i64) 3 w' w.heap.size (fun _ => True) (.slice Ao89 y239.length co89) y239) ∧ Aside0 (w'.heap[gb189]? = some (.cells #[.int .i64 a3_0, .int .i64 a3_1, .int .i64 a3_2, .int .i64 a3_3] 58 (0, 0))) ∧ Aside0 (w'.heap[gb204]? = some (.cells #[.int .i64 t199, .int .i64 t200, .int .i64 t201, .int .i64 t202] 58 (0, 0))) ∧ Aside0 (Below w.heap.size w w'))
                case atStart => exact ⟨(0), (by first | rfl | (simp; done) | (simp [*]; done)), H', ⟨Nat.le_refl _⟩, ⟨by (with_reducible repeat (first | apply Kd.R_alloc | apply Kd.R_drewN | apply Kd.R_drew)); exact HO241.out⟩, ⟨by (with_reducible repeat (first | refine blk_drewN ?_ _ | refine blk_drew ?_ | refine blk_alloc ?_ _)); exact BK189.out⟩, ⟨by (with_reducible repeat (first | refine blk_drewN ?_ _ | refine blk_drew ?_ | refine blk_alloc ?_ _)); exact BK204.out⟩, ⟨by repeat (first | (with_reducible first | exact HB.out | apply below_alloc | apply pw_below_drewN | apply below_drew1 | refine below_set ?_ GE189.out | refine below_set ?_ GE204.out) | exact HB.out)⟩⟩
                case round =>
                  clear H'
                  try clear c1
                  try clear c2
                  try clear p2
                  try clear q2
                  try clear hx2
                  try clear c3
                  try clear c4
                  try clear c5
                  try clear c6
                  try clear p6
                  try clear c7
                  try clear c12
                  try clear c13
                  try clear p20
                  try clear q20
                  try clear hx20
                  try clear p21
                  try clear q21
                  try clear hx21
                  try clear c23
                  try clear c24
                  try clear c26
                  try clear c31
                  try clear c31b0
                  try clear c32
                  try clear c32b0
                  try clear c33
                  try clear c33b0
                  try clear c35
                  try clear c36
                  try clear c36b0
                  try clear c36b1
                  try clear c37
                  try clear c37b0
                  try clear c37b1
                  try clear c37b2
                  try clear c38
                  try clear c38b0
                  try clear c38b1
                  try clear c38b2
                  try clear c39
                  try clear c40
                  try clear c41
                  try clear c45
                  try clear c46
                  try clear c47
                  try clear c48
                  try clear c49
                  try clear c50
                  try clear c50b0
                  try clear c51
                  try clear c51b0
                  try clear c52
                  try clear c52b0
                  try clear c53
                  try clear c57
                  try clear c57b0
                  try clear c57b1
                  try clear c57b2
                  try clear c60
                  try clear c60b0
                  try clear c60b1
                  try clear c61
                  try clear c61b0
                  try clear c61b1
                  try clear c62
                  try clear c62b0
                  try clear c62b1
                  try clear c63
                  try clear c63b0
                  try clear c63b1
                  try clear p64
                  try clear c65
                  try clear c67
                  try clear c68
                  try clear c69
                  try clear hcz25_0
                  try clear hcz25_1
                  try clear hcz25_2
                  try clear hcz25_3
                  try clear hcz27_0
                  try clear hcz27_1
                  try clear hcz27_2
                  try clear hcz27_3
                  try clear hcz42_0
                  try clear hcz42_1
                  try clear hcz42_2
                  try clear hcz42_3
                  try clear hcz70_0
                  try clear hcz70_1
                  try clear hcz70_2
                  try clear hcz70_3
                  try clear hcz72_0
                  try clear hcz72_1
                  try clear hcz72_2
                  try clear hcz72_3
                  try clear hcz74_0
                  try clear hcz74_1
                  try clear hcz74_2
                  try clear hcz74_3
                  try clear hcz76_0
                  try clear hcz76_1
                  try clear hcz76_2
                  try clear hcz76_3
                  try clear hcz78_0
                  try clear hcz78_1
                  try clear hcz78_2
                  try clear hcz78_3
                  try clear hcz80_0
                  try clear hcz80_1
                  try clear hcz80_2
                  try clear hcz80_3
                  try clear hfz25_0
                  try clear hfz25_1
                  try clear hfz25_2
                  try clear hfz25_3
                  try clear hfz27_0
                  try clear hfz27_1
                  try clear hfz27_2
                  try clear hfz27_3
                  try clear hfz42_0
                  try clear hfz42_1
                  try clear hfz42_2
                  try clear hfz42_3
                  try clear hfz70_0
                  try clear hfz70_1
                  try clear hfz70_2
                  try clear hfz70_3
                  try clear hfz72_0
                  try clear hfz72_1
                  try clear hfz72_2
                  try clear hfz72_3
                  try clear hfz74_0
                  try clear hfz74_1
                  try clear hfz74_2
                  try clear hfz74_3
                  try clear hfz76_0
                  try clear hfz76_1
                  try clear hfz76_2
                  try clear hfz76_3
                  try clear hfz78_0
                  try clear hfz78_1
                  try clear hfz78_2
                  try clear hfz78_3
                  try clear hfz80_0
                  try clear hfz80_1
                  try clear hfz80_2
                  try clear hfz80_3
                  try clear hx208_0
                  try clear hx208_1
                  try clear hx208_2
                  try clear hx208_3
                  try clear hx215_0
                  try clear p2
                  try clear p20
                  try clear p208
                  try clear p215
                  try clear p6
                  try clear q2
                  try clear q20
                  try clear q208
                  try clear q215
                  obtain ⟨x161_3, rfl, HA, HK3, HO_159, BK189, BK204, HB⟩ := hrel
                  cases gk with
                  | zero => exact absurd HA.out (by simp [storagebarterlaw04_ChunkCuts.l2])
                  | succ k3 =>
                    have H := HA.out
                    clear HA
                    simp only [storagebarterlaw04_ChunkCuts.l2] at H
                    by_cases c90 : x161_3 < (y239.length : Int)
                    · rw [if_pos c90] at H
                      have c90b0 : decide (x161_3 < (y239.length : Int)) = true := decide_eq_true c90
                      clear c90
                      by_cases c91 : 0 ≤ x161_3
                      · rw [if_pos c91] at H
                        have c91b0 : decide (0 ≤ x161_3) = true := decide_eq_true c91
                        clear c91
                        by_cases c92 : x161_3 < (y239.length : Int)
                        · rw [if_pos c92] at H
                          have c92b0 : decide (x161_3 < (y239.length : Int)) = true := decide_eq_true c92
                          clear c92
                          replace H := Option.bind_eq_some_iff.mp H
                          obtain ⟨t243, A930, H⟩ := H
                          replace H : ((storagebarterref04_Weight.f k3 a1 (rd y239 x161_3)).bind fun t244 => (if t243 = t244 then (storagebarterlaw04_ChunkCuts.l2 k3 a1 y239 (y239.length : Int) (wrap64 (x161_3 + 1))) else (some false))) = some r := H
                          have A93 := Aside0.mk A930
                          clear A930
                          replace H := Option.bind_eq_some_iff.mp H
                          obtain ⟨t244, A940, H⟩ := H
                          replace H : (if t243 = t244 then (storagebarterlaw04_ChunkCuts.l2 k3 a1 y239 (y239.length : Int) (wrap64 (x161_3 + 1))) else (some false)) = some r := H
                          have A94 := Aside0.mk A940
                          clear A940
                          by_cases c95 : t243 = t244
                          · rw [if_pos c95] at H
                            have c95b0 : (t243 == t244) = true := beq_iff_eq.mpr c95
                            have c95b1 : (t243 != t244) = false := bne_eq_false_iff_eq.mpr c95
                            clear c95
                            have H' := Aside0.mk H
                            clear H
                            have p242 : 0 ≤ (x161_3 : Int) := of_decide_eq_true (by first | (with_reducible assumption) | assumption)
                            have q242 : x161_3 < (y239.length : Int) := of_decide_eq_true (by first | (with_reducible assumption) | assumption)
                            obtain ⟨ad242, e242, hx242_0⟩ := Kd.at_int (Kd.R_reads' HO_159.out).2.2 x161_3 p242 q242
                            cases e242
                            replace p242 := eq_true p242
                            replace q242 := eq_true q242
                            go_wp2_with (first | ((with_reducible refine gate_callee (f := 41) rfl ?_); refine goesL_ (some 167) rfl rfl Try.func41 (by kernel_rfl) rfl #[.string a1, .int .i64 (rd y239 x161_3)] rfl (by (try simp only [List.map_toArray, List.map_cons, List.map_nil]); first | done | rfl | (simp only [List.length_drop, List.length_take]; rfl)) ?_; (with_reducible refine (chunk_Weight.calls a1 (rd y239 x161_3) t243 _ A93.out).mono ?_); rintro e w96 ⟨rfl, hb⟩; refine ⟨_, rfl, ?_⟩; have n0_ := Aside0.mk (Kd.R_below (by (with_reducible repeat (first | apply Kd.R_alloc | apply Kd.R_drewN | apply Kd.R_drew)); exact HO_159.out) hb); have n1_ := Aside0.mk (blk_below (g := gb189) (o := .cells #[.int .i64 a3_0, .int .i64 a3_1, .int .i64 a3_2, .int .i64 a3_3] 58 (0, 0)) (by (with_reducible repeat (first | refine blk_drewN ?_ _ | refine blk_drew ?_ | refine blk_alloc ?_ _)); exact BK189.out) hb); have n2_ := Aside0.mk (blk_below (g := gb204) (o := .cells #[.int .i64 t199, .int .i64 t200, .int .i64 t201, .int .i64 t202] 58 (0, 0)) (by (with_reducible repeat (first | refine blk_drewN ?_ _ | refine blk_drew ?_ | refine blk_alloc ?_ _)); exact BK204.out) hb); have n3_ := Aside0.mk (below_step (by repeat (first | (with_reducible first | exact HB.out | apply below_alloc | apply pw_below_drewN | apply below_drew1 | refine below_set ?_ GE189.out | refine below_set ?_ GE204.out) | exact HB.out)) hb); clear HO_159; clear BK189; clear BK204; clear HB; have HO_159 := n0_; have BK189 := n1_; have BK204 := n2_; have HB := n3_; clear n0_ n1_ n2_ n3_; (try clear hb); (try clear hb2); (try clear hk); (try clear hi)) | ((with_reducible refine gate_callee (f := 54) rfl ?_); refine goesL_ (some 170) rfl rfl Try.func54 (by kernel_rfl) rfl #[.string a1, .int .i64 (rd y239 x161_3)] rfl (by (try simp only [List.map_toArray, List.map_cons, List.map_nil]); first | done | rfl | (simp only [List.length_drop, List.length_take]; rfl)) ?_; (with_reducible refine (storagebarterref04_Weight.calls k3 a1 (rd y239 x161_3) t244 _ A94.out).mono ?_); rintro e w97 ⟨rfl, hb⟩; refine ⟨_, rfl, ?_⟩; have n0_ := Aside0.mk (Kd.R_below (by (with_reducible repeat (first | apply Kd.R_alloc | apply Kd.R_drewN | apply Kd.R_drew)); exact HO_159.out) hb); have n1_ := Aside0.mk (blk_below (g := gb189) (o := .cells #[.int .i64 a3_0, .int .i64 a3_1, .int .i64 a3_2, .int .i64 a3_3] 58 (0, 0)) (by (with_reducible repeat (first | refine blk_drewN ?_ _ | refine blk_drew ?_ | refine blk_alloc ?_ _)); exact BK189.out) hb); have n2_ := Aside0.mk (blk_below (g := gb204) (o := .cells #[.int .i64 t199, .int .i64 t200, .int .i64 t201, .int .i64 t202] 58 (0, 0)) (by (with_reducible repeat (first | refine blk_drewN ?_ _ | refine blk_drew ?_ | refine blk_alloc ?_ _)); exact BK204.out) hb); have n3_ := Aside0.mk (below_step (by repeat (first | (with_reducible first | exact HB.out | apply below_alloc | apply pw_below_drewN | apply below_drew1 | refine below_set ?_ GE189.out | refine below_set ?_ GE204.out) | exact HB.out)) hb); clear HO_159; clear BK189; clear BK204; clear HB; have HO_159 := n0_; have BK189 := n1_; have BK204 := n2_; have HB := n3_; clear n0_ n1_ n2_ n3_; (try clear hb); (try clear hb2); (try clear hk); (try clear hi)))
                            go_roundg k3
                            case measure => have := HJ7.out; have := HK2.out; have := HK3.out; omega
                            case rel => exact ⟨(wrap64 (x161_3 + 1)), (by first | rfl | (simp; done) | (simp [*]; done)), H', ⟨by have := HJ7.out; have := HK2.out; have := HK3.out; omega⟩, ⟨by (with_reducible repeat (first | apply Kd.R_alloc | apply Kd.R_drewN | apply Kd.R_drew)); exact HO_159.out⟩, ⟨by (with_reducible repeat (first | refine blk_drewN ?_ _ | refine blk_drew ?_ | refine blk_alloc ?_ _)); exact BK189.out⟩, ⟨by (with_reducible repeat (first | refine blk_drewN ?_ _ | refine blk_drew ?_ | refine blk_alloc ?_ _)); exact BK204.out⟩, ⟨by repeat (first | (with_reducible first | exact HB.out | apply below_alloc | apply pw_below_drewN | apply below_drew1 | refine below_set ?_ GE189.out | refine below_set ?_ GE204.out) | exact HB.out)⟩⟩
                          · rw [if_neg c95] at H
                            have c95b0 : (t243 == t244) = false := beq_eq_false_iff_ne.mpr c95
                            have c95b1 : (t243 != t244) = true := bne_iff_ne.mpr c95
                            exact absurd (Option.some.inj H) (by rw [HRT_.out]; decide)
                        · rw [if_neg c92] at H
                          exact absurd H (by simp)
                      · rw [if_neg c91] at H
                        exact absurd H (by simp)
                    · rw [if_neg c90] at H
                      have c90b0 : decide (x161_3 < (y239.length : Int)) = false := decide_eq_false c90
                      clear c90
                      obtain rfl := Option.some.inj H
                      go_wp2
                      go_ret
                      exact ⟨by first | rfl | (simp [errW_none, errW_some] <;> rfl) | (simp [*, errW_none, errW_some] <;> rfl), by repeat (first | (with_reducible first | exact HB.out | apply below_alloc | apply pw_below_drewN | apply below_drew1 | refine below_set ?_ GE189.out | refine below_set ?_ GE204.out) | exact HB.out)⟩
  · replace c7 := Bool.eq_false_iff.mpr c7
    subst c7
    have H1 : (some false) = some r := by rw [if_neg (show ¬ (false = true) by decide)] at H; exact H
    clear H
    have H := H1
    clear H1
    exact absurd (Option.some.inj H) (by rw [HRT_.out]; decide)

/-- THE ONE PURE STATEMENT of storagebarterlaw04_ChunkCuts: yours. -/
def storagebarterlaw04_ChunkCuts.Pure : Prop := ∀ (l0 : List Int) (a1 : ByteArray) (a2 : ByteArray) (a3_0 : Int) (a3_1 : Int) (a3_2 : Int) (a3_3 : Int) (a4 : Int), l0.length ≤ maxLen → l0.length * 8 ≤ 140737488351232 → (∀ x ∈ l0, (Lit.int .i64 x).wf = true) → a1.size ≤ 140737488351232 → a2.size ≤ 140737488351232 → (((Lit.int .i64 a3_0).wf = true) ∧ (((Lit.int .i64 a3_1).wf = true) ∧ (((Lit.int .i64 a3_2).wf = true) ∧ ((Lit.int .i64 a3_3).wf = true)))) → (Lit.int .i64 a4).wf = true → ∃ k, storagebarterlaw04_ChunkCuts.f k l0 a1 a2 a3_0 a3_1 a3_2 a3_3 a4 = some true
theorem storagebarterlaw04_ChunkCuts.walk (P : storagebarterlaw04_ChunkCuts.Pure) (a0 : Option Addr) (len0 cap0 : Nat) (z0 : List Int) (a1 : ByteArray) (a2 : ByteArray) (a3_0 : Int) (a3_1 : Int) (a3_2 : Int) (a3_3 : Int) (a4 : Int) (w : World) (w0 : (a0 = none ∧ len0 = 0 ∧ cap0 = 0 ∧ z0 = []) ∨ ∃ x, a0 = some x ∧ len0 ≤ cap0 ∧ cap0 ≤ maxLen ∧ z0.length = cap0 ∧ (∀ i, i < z0.length → w.cell? (x.add i) = some (.int .i64 (z0.getD i 0))) ∧ ∀ n ∈ z0, (Lit.int .i64 n).wf = true) (y0 : len0 * 8 ≤ 140737488351232) (w1 : a1.size ≤ 140737488351232) (w2 : a2.size ≤ 140737488351232) (w3 : (((Lit.int .i64 a3_0).wf = true) ∧ (((Lit.int .i64 a3_1).wf = true) ∧ (((Lit.int .i64 a3_2).wf = true) ∧ ((Lit.int .i64 a3_3).wf = true))))) (w4 : (Lit.int .i64 a4).wf = true) :
    Calls Try.prog 13 #[.slice a0 len0 cap0, .string a1, .string a2, .agg #[.int .i64 a3_0, .int .i64 a3_1, .int .i64 a3_2, .int .i64 a3_3], .int .i64 a4] w fun e w' => e = .returned (.bool true) ∧ Below w.heap.size w w' := by
  obtain ⟨l0, rfl, hr0, hm0, hw0, hc0⟩ := ReadsInt.ofRowC w0
  obtain ⟨k, h⟩ := P l0 a1 a2 a3_0 a3_1 a3_2 a3_3 a4 hm0 y0 hw0 w1 w2 w3 w4
  refine (storagebarterlaw04_ChunkCuts.calls k _ _ l0 a1 a2 a3_0 a3_1 a3_2 a3_3 a4 true w (Kd.C_of_reads (d := (0 : Int)) (h1 := fun _ => rfl) hr0) hc0 h rfl).mono ?_
  rintro e w' ⟨rfl, hd⟩
  exact ⟨rfl, hd⟩

end Go.Proofs.Ytepffabkcbfejaa.PChunkCuts
