-- Written by a program of this repository (wip/tools/myprint.py over the print of the kit): contracts and rows.
import Derived.Test.YtepffabkcbfejaaPChunkBackx0
import Derived.Test.YtepffabkcbfejaaPChunkBackx2
import Derived.Test.YtepffabkcbfejaaPChunkBackx3
namespace Go.Proofs.Ytepffabkcbfejaa.PChunkBack
open Go.RowKit Go.Proofs.YtepffabkcbfejaaW.PrintWords Go.Proofs.YtepffabkcbfejaaW.PrintLast Go.Proofs.YtepffabkcbfejaaW.PrintMore
attribute [local go_sem] max2_int min2_int max_two min_two max_three min_three max_four min_four   -- for this text's walks alone
set_option linter.unusedVariables false
set_option linter.unusedSimpArgs false

/-! ### storagebarterlaw04_ChunkBack: function 11 -/
mutual
def storagebarterlaw04_ChunkBack.j0 : Nat → List ByteArray → List Int → Bool → Int → Int → Int → Int → Option (Bool)
  | 0, _, _, _, _, _, _, _ => none
  | k + 1, x6, x8, x64, x157000, x157001, x157002, x157003 => if x64 = true then (some false) else (storagebarterlaw04_ChunkBack.l0 k x6 x8 0 x6 (x6.length : Int) 0 x157000 x157001 x157002 x157003)
def storagebarterlaw04_ChunkBack.l0 : Nat → List ByteArray → List Int → Int → List ByteArray → Int → Int → Int → Int → Int → Int → Option (Bool)
  | 0, _, _, _, _, _, _, _, _, _, _ => none
  | k + 1, x6, x8, x12, x65, x66, x67, x157000, x157001, x157002, x157003 => if x67 < x66 then (if 0 ≤ x67 then (if x67 < (x65.length : Int) then (if ((rdOf ByteArray.empty x65 x67).size : Int) < 1 then (some false) else (if ((rdOf ByteArray.empty x65 x67).size : Int) > x157001 then (some false) else (if x67 < (wrap64 ((x6.length : Int) - 1)) then (if ((rdOf ByteArray.empty x65 x67).size : Int) < x157000 then (some false) else (if x67 < (x8.length : Int) then (if (rd x8 x67) = (wrap64 (x12 + ((rdOf ByteArray.empty x65 x67).size : Int))) then (storagebarterlaw04_ChunkBack.l0 k x6 x8 (wrap64 (x12 + ((rdOf ByteArray.empty x65 x67).size : Int))) x65 x66 (wrap64 (x67 + 1)) x157000 x157001 x157002 x157003) else (some false)) else (none))) else (if x67 < (x8.length : Int) then (if (rd x8 x67) = (wrap64 (x12 + ((rdOf ByteArray.empty x65 x67).size : Int))) then (storagebarterlaw04_ChunkBack.l0 k x6 x8 (wrap64 (x12 + ((rdOf ByteArray.empty x65 x67).size : Int))) x65 x66 (wrap64 (x67 + 1)) x157000 x157001 x157002 x157003) else (some false)) else (none))))) else (none)) else (none)) else (some true)
end
def storagebarterlaw04_ChunkBack.f (k : Nat) (l0 : List Int) : Option (Bool) := (storagebarterlaw04_sane.f k).bind fun t146 => (if t146 = true then ((storagebartermake_Few.f l0).bind fun t147 => (if t147 = true then ((storagebartermake_New.f l0).bind fun bt148 => ((storagebartermake_Cutting.f bt148.1 bt148.2).bind fun bt151 => ((storagebartermake_Text.f k bt148.1 bt151.2.2.2.2 400).bind fun bt157 => ((chunk_Cut.f k bt157.1 bt151.1 bt151.2.1 bt151.2.2.1 bt151.2.2.2.1).bind fun bt159 => ((chunk_Ends.f bt157.1 bt151.1 bt151.2.1 bt151.2.2.1 bt151.2.2.2.1).bind fun bt163 => ((chunk_Join.f k bt159.1).bind fun bt167 => (if bt159.2 = 0 then (if bt163.2 = 0 then (if bt167.2 = 0 then (if bt167.1.toList = bt157.1.toList then (storagebarterlaw04_ChunkBack.j0 k bt159.1 bt163.1 ((bt163.1.length : Int) != (bt159.1.length : Int)) bt151.1 bt151.2.1 bt151.2.2.1 bt151.2.2.2.1) else (storagebarterlaw04_ChunkBack.j0 k bt159.1 bt163.1 true bt151.1 bt151.2.1 bt151.2.2.1 bt151.2.2.2.1)) else (storagebarterlaw04_ChunkBack.j0 k bt159.1 bt163.1 true bt151.1 bt151.2.1 bt151.2.2.1 bt151.2.2.2.1)) else (storagebarterlaw04_ChunkBack.j0 k bt159.1 bt163.1 true bt151.1 bt151.2.1 bt151.2.2.1 bt151.2.2.2.1)) else (storagebarterlaw04_ChunkBack.j0 k bt159.1 bt163.1 true bt151.1 bt151.2.1 bt151.2.2.1 bt151.2.2.2.1)))))))) else (some true))) else (some false))
theorem storagebarterlaw04_ChunkBack.mono_l : ∀ k, (∀ y0 y1 y2 y3 y4 y5 y6, LeO (storagebarterlaw04_ChunkBack.j0 k y0 y1 y2 y3 y4 y5 y6) (storagebarterlaw04_ChunkBack.j0 (k + 1) y0 y1 y2 y3 y4 y5 y6)) ∧ (∀ y0 y1 y2 y3 y4 y5 y6 y7 y8 y9, LeO (storagebarterlaw04_ChunkBack.l0 k y0 y1 y2 y3 y4 y5 y6 y7 y8 y9) (storagebarterlaw04_ChunkBack.l0 (k + 1) y0 y1 y2 y3 y4 y5 y6 y7 y8 y9))
  | 0 => ⟨fun _ _ _ _ _ _ _ r h => by simp [storagebarterlaw04_ChunkBack.j0] at h, fun _ _ _ _ _ _ _ _ _ _ r h => by simp [storagebarterlaw04_ChunkBack.l0] at h⟩
  | k + 1 => by
    obtain ⟨ih0, ih1⟩ := storagebarterlaw04_ChunkBack.mono_l k
    refine ⟨?_, ?_⟩
    · intro y0 y1 y2 y3 y4 y5 y6
      unfold storagebarterlaw04_ChunkBack.j0
      repeat' first
      | (with_reducible exact ih0 _ _ _ _ _ _ _)
      | (with_reducible exact ih1 _ _ _ _ _ _ _ _ _ _)
      | (with_reducible exact chunk_Cut.mono _ _ _ _ _ _)
      | (with_reducible exact chunk_Join.mono _ _)
      | (with_reducible exact storagebarterlaw04_sane.mono _)
      | (with_reducible exact storagebartermake_Text.mono _ _ _ _)
      | (with_reducible exact LeO.refl _)
      | (with_reducible exact LeO.none _)
      | (with_reducible refine LeO.ite ?_ ?_)
      | (with_reducible refine LeO.bind ?_ (fun _ => ?_))
      | exact ih0 _ _ _ _ _ _ _
      | exact ih1 _ _ _ _ _ _ _ _ _ _
      | exact chunk_Cut.mono _ _ _ _ _ _
      | exact chunk_Join.mono _ _
      | exact storagebarterlaw04_sane.mono _
      | exact storagebartermake_Text.mono _ _ _ _
      | exact LeO.none _
      | refine LeO.ite ?_ ?_
      | refine LeO.bind ?_ (fun _ => ?_)
    · intro y0 y1 y2 y3 y4 y5 y6 y7 y8 y9
      unfold storagebarterlaw04_ChunkBack.l0
      repeat' first
      | (with_reducible exact ih0 _ _ _ _ _ _ _)
      | (with_reducible exact ih1 _ _ _ _ _ _ _ _ _ _)
      | (with_reducible exact chunk_Cut.mono _ _ _ _ _ _)
      | (with_reducible exact chunk_Join.mono _ _)
      | (with_reducible exact storagebarterlaw04_sane.mono _)
      | (with_reducible exact storagebartermake_Text.mono _ _ _ _)
      | (with_reducible exact LeO.refl _)
      | (with_reducible exact LeO.none _)
      | (with_reducible refine LeO.ite ?_ ?_)
      | (with_reducible refine LeO.bind ?_ (fun _ => ?_))
      | exact ih0 _ _ _ _ _ _ _
      | exact ih1 _ _ _ _ _ _ _ _ _ _
      | exact chunk_Cut.mono _ _ _ _ _ _
      | exact chunk_Join.mono _ _
      | exact storagebarterlaw04_sane.mono _
      | exact storagebartermake_Text.mono _ _ _ _
      | exact LeO.none _
      | refine LeO.ite ?_ ?_
      | refine LeO.bind ?_ (fun _ => ?_)
theorem storagebarterlaw04_ChunkBack.mono : ∀ a0 k, LeO (storagebarterlaw04_ChunkBack.f k a0) (storagebarterlaw04_ChunkBack.f (k + 1) a0) := by
  intro a0 k
  obtain ⟨ih0, ih1⟩ := storagebarterlaw04_ChunkBack.mono_l k
  unfold storagebarterlaw04_ChunkBack.f
  repeat' first
      | (with_reducible exact ih0 _ _ _ _ _ _ _)
      | (with_reducible exact ih1 _ _ _ _ _ _ _ _ _ _)
      | (with_reducible exact chunk_Cut.mono _ _ _ _ _ _)
      | (with_reducible exact chunk_Join.mono _ _)
      | (with_reducible exact storagebarterlaw04_sane.mono _)
      | (with_reducible exact storagebartermake_Text.mono _ _ _ _)
      | (with_reducible exact LeO.refl _)
      | (with_reducible exact LeO.none _)
      | (with_reducible refine LeO.ite ?_ ?_)
      | (with_reducible refine LeO.bind ?_ (fun _ => ?_))
      | exact ih0 _ _ _ _ _ _ _
      | exact ih1 _ _ _ _ _ _ _ _ _ _
      | exact chunk_Cut.mono _ _ _ _ _ _
      | exact chunk_Join.mono _ _
      | exact storagebarterlaw04_sane.mono _
      | exact storagebartermake_Text.mono _ _ _ _
      | exact LeO.none _
      | refine LeO.ite ?_ ?_
      | refine LeO.bind ?_ (fun _ => ?_)
set_option maxHeartbeats 8000000 in
set_option maxRecDepth 100000 in
theorem storagebarterlaw04_ChunkBack.calls (k : Nat) (A0 : Option Addr) (c0 : Nat) (l0 : List Int) (r : Bool) (w : World) (hr0 : Kd.C (Kd.int .i64) w A0 l0.length l0) (hc0 : l0.length ≤ c0) (h : storagebarterlaw04_ChunkBack.f k l0 = some r) :
    Calls Try.prog 11 #[.slice A0 l0.length c0] w fun e w' => e = .returned (.bool r) ∧ Below w.heap.size w w' := by
  have hu58 := Try.underlying58
  have HR0 := Aside0.mk hr0
  have HC0 := Aside0.mk hc0
  clear hr0 hc0
  have HB := Aside0.mk (Below.refl w.heap.size w)
  have H : ((storagebarterlaw04_sane.f k).bind fun t146 => (if t146 = true then ((storagebartermake_Few.f l0).bind fun t147 => (if t147 = true then ((storagebartermake_New.f l0).bind fun bt148 => ((storagebartermake_Cutting.f bt148.1 bt148.2).bind fun bt151 => ((storagebartermake_Text.f k bt148.1 bt151.2.2.2.2 400).bind fun bt157 => ((chunk_Cut.f k bt157.1 bt151.1 bt151.2.1 bt151.2.2.1 bt151.2.2.2.1).bind fun bt159 => ((chunk_Ends.f bt157.1 bt151.1 bt151.2.1 bt151.2.2.1 bt151.2.2.2.1).bind fun bt163 => ((chunk_Join.f k bt159.1).bind fun bt167 => (if bt159.2 = 0 then (if bt163.2 = 0 then (if bt167.2 = 0 then (if bt167.1.toList = bt157.1.toList then (storagebarterlaw04_ChunkBack.j0 k bt159.1 bt163.1 ((bt163.1.length : Int) != (bt159.1.length : Int)) bt151.1 bt151.2.1 bt151.2.2.1 bt151.2.2.2.1) else (storagebarterlaw04_ChunkBack.j0 k bt159.1 bt163.1 true bt151.1 bt151.2.1 bt151.2.2.1 bt151.2.2.2.1)) else (storagebarterlaw04_ChunkBack.j0 k bt159.1 bt163.1 true bt151.1 bt151.2.1 bt151.2.2.1 bt151.2.2.2.1)) else (storagebarterlaw04_ChunkBack.j0 k bt159.1 bt163.1 true bt151.1 bt151.2.1 bt151.2.2.1 bt151.2.2.2.1)) else (storagebarterlaw04_ChunkBack.j0 k bt159.1 bt163.1 true bt151.1 bt151.2.1 bt151.2.2.1 bt151.2.2.2.1)))))))) else (some true))) else (some false))) = some r := h
  clear h
  replace H := Option.bind_eq_some_iff.mp H
  obtain ⟨t146, A20, H⟩ := H
  replace H : (if t146 = true then ((storagebartermake_Few.f l0).bind fun t147 => (if t147 = true then ((storagebartermake_New.f l0).bind fun bt148 => ((storagebartermake_Cutting.f bt148.1 bt148.2).bind fun bt151 => ((storagebartermake_Text.f k bt148.1 bt151.2.2.2.2 400).bind fun bt157 => ((chunk_Cut.f k bt157.1 bt151.1 bt151.2.1 bt151.2.2.1 bt151.2.2.2.1).bind fun bt159 => ((chunk_Ends.f bt157.1 bt151.1 bt151.2.1 bt151.2.2.1 bt151.2.2.2.1).bind fun bt163 => ((chunk_Join.f k bt159.1).bind fun bt167 => (if bt159.2 = 0 then (if bt163.2 = 0 then (if bt167.2 = 0 then (if bt167.1.toList = bt157.1.toList then (storagebarterlaw04_ChunkBack.j0 k bt159.1 bt163.1 ((bt163.1.length : Int) != (bt159.1.length : Int)) bt151.1 bt151.2.1 bt151.2.2.1 bt151.2.2.2.1) else (storagebarterlaw04_ChunkBack.j0 k bt159.1 bt163.1 true bt151.1 bt151.2.1 bt151.2.2.1 bt151.2.2.2.1)) else (storagebarterlaw04_ChunkBack.j0 k bt159.1 bt163.1 true bt151.1 bt151.2.1 bt151.2.2.1 bt151.2.2.2.1)) else (storagebarterlaw04_ChunkBack.j0 k bt159.1 bt163.1 true bt151.1 bt151.2.1 bt151.2.2.1 bt151.2.2.2.1)) else (storagebarterlaw04_ChunkBack.j0 k bt159.1 bt163.1 true bt151.1 bt151.2.1 bt151.2.2.1 bt151.2.2.2.1)))))))) else (some true))) else (some false)) = some r := H
  have A2 := Aside0.mk A20
  clear A20
  by_cases c3 : t146 = true
  · subst c3
    have H1 : ((storagebartermake_Few.f l0).bind fun t147 => (if t147 = true then ((storagebartermake_New.f l0).bind fun bt148 => ((storagebartermake_Cutting.f bt148.1 bt148.2).bind fun bt151 => ((storagebartermake_Text.f k bt148.1 bt151.2.2.2.2 400).bind fun bt157 => ((chunk_Cut.f k bt157.1 bt151.1 bt151.2.1 bt151.2.2.1 bt151.2.2.2.1).bind fun bt159 => ((chunk_Ends.f bt157.1 bt151.1 bt151.2.1 bt151.2.2.1 bt151.2.2.2.1).bind fun bt163 => ((chunk_Join.f k bt159.1).bind fun bt167 => (if bt159.2 = 0 then (if bt163.2 = 0 then (if bt167.2 = 0 then (if bt167.1.toList = bt157.1.toList then (storagebarterlaw04_ChunkBack.j0 k bt159.1 bt163.1 ((bt163.1.length : Int) != (bt159.1.length : Int)) bt151.1 bt151.2.1 bt151.2.2.1 bt151.2.2.2.1) else (storagebarterlaw04_ChunkBack.j0 k bt159.1 bt163.1 true bt151.1 bt151.2.1 bt151.2.2.1 bt151.2.2.2.1)) else (storagebarterlaw04_ChunkBack.j0 k bt159.1 bt163.1 true bt151.1 bt151.2.1 bt151.2.2.1 bt151.2.2.2.1)) else (storagebarterlaw04_ChunkBack.j0 k bt159.1 bt163.1 true bt151.1 bt151.2.1 bt151.2.2.1 bt151.2.2.2.1)) else (storagebarterlaw04_ChunkBack.j0 k bt159.1 bt163.1 true bt151.1 bt151.2.1 bt151.2.2.1 bt151.2.2.2.1)))))))) else (some true))) = some r := by rw [if_pos rfl] at H; exact H
    clear H
    have H := H1
    clear H1
    replace H := Option.bind_eq_some_iff.mp H
    obtain ⟨t147, A40, H⟩ := H
    replace H : (if t147 = true then ((storagebartermake_New.f l0).bind fun bt148 => ((storagebartermake_Cutting.f bt148.1 bt148.2).bind fun bt151 => ((storagebartermake_Text.f k bt148.1 bt151.2.2.2.2 400).bind fun bt157 => ((chunk_Cut.f k bt157.1 bt151.1 bt151.2.1 bt151.2.2.1 bt151.2.2.2.1).bind fun bt159 => ((chunk_Ends.f bt157.1 bt151.1 bt151.2.1 bt151.2.2.1 bt151.2.2.2.1).bind fun bt163 => ((chunk_Join.f k bt159.1).bind fun bt167 => (if bt159.2 = 0 then (if bt163.2 = 0 then (if bt167.2 = 0 then (if bt167.1.toList = bt157.1.toList then (storagebarterlaw04_ChunkBack.j0 k bt159.1 bt163.1 ((bt163.1.length : Int) != (bt159.1.length : Int)) bt151.1 bt151.2.1 bt151.2.2.1 bt151.2.2.2.1) else (storagebarterlaw04_ChunkBack.j0 k bt159.1 bt163.1 true bt151.1 bt151.2.1 bt151.2.2.1 bt151.2.2.2.1)) else (storagebarterlaw04_ChunkBack.j0 k bt159.1 bt163.1 true bt151.1 bt151.2.1 bt151.2.2.1 bt151.2.2.2.1)) else (storagebarterlaw04_ChunkBack.j0 k bt159.1 bt163.1 true bt151.1 bt151.2.1 bt151.2.2.1 bt151.2.2.2.1)) else (storagebarterlaw04_ChunkBack.j0 k bt159.1 bt163.1 true bt151.1 bt151.2.1 bt151.2.2.1 bt151.2.2.2.1)))))))) else (some true)) = some r := H
    have A4 := Aside0.mk A40
    clear A40
    by_cases c5 : t147 = true
    · subst c5
      have H1 : ((storagebartermake_New.f l0).bind fun bt148 => ((storagebartermake_Cutting.f bt148.1 bt148.2).bind fun bt151 => ((storagebartermake_Text.f k bt148.1 bt151.2.2.2.2 400).bind fun bt157 => ((chunk_Cut.f k bt157.1 bt151.1 bt151.2.1 bt151.2.2.1 bt151.2.2.2.1).bind fun bt159 => ((chunk_Ends.f bt157.1 bt151.1 bt151.2.1 bt151.2.2.1 bt151.2.2.2.1).bind fun bt163 => ((chunk_Join.f k bt159.1).bind fun bt167 => (if bt159.2 = 0 then (if bt163.2 = 0 then (if bt167.2 = 0 then (if bt167.1.toList = bt157.1.toList then (storagebarterlaw04_ChunkBack.j0 k bt159.1 bt163.1 ((bt163.1.length : Int) != (bt159.1.length : Int)) bt151.1 bt151.2.1 bt151.2.2.1 bt151.2.2.2.1) else (storagebarterlaw04_ChunkBack.j0 k bt159.1 bt163.1 true bt151.1 bt151.2.1 bt151.2.2.1 bt151.2.2.2.1)) else (storagebarterlaw04_ChunkBack.j0 k bt159.1 bt163.1 true bt151.1 bt151.2.1 bt151.2.2.1 bt151.2.2.2.1)) else (storagebarterlaw04_ChunkBack.j0 k bt159.1 bt163.1 true bt151.1 bt151.2.1 bt151.2.2.1 bt151.2.2.2.1)) else (storagebarterlaw04_ChunkBack.j0 k bt159.1 bt163.1 true bt151.1 bt151.2.1 bt151.2.2.1 bt151.2.2.2.1)))))))) = some r := by rw [if_pos rfl] at H; exact H
      clear H
      have H := H1
      clear H1
      replace H := Option.bind_eq_some_iff.mp H
      obtain ⟨⟨t148, t149⟩, A60, H⟩ := H
      replace H : ((storagebartermake_Cutting.f t148 t149).bind fun bt151 => ((storagebartermake_Text.f k t148 bt151.2.2.2.2 400).bind fun bt157 => ((chunk_Cut.f k bt157.1 bt151.1 bt151.2.1 bt151.2.2.1 bt151.2.2.2.1).bind fun bt159 => ((chunk_Ends.f bt157.1 bt151.1 bt151.2.1 bt151.2.2.1 bt151.2.2.2.1).bind fun bt163 => ((chunk_Join.f k bt159.1).bind fun bt167 => (if bt159.2 = 0 then (if bt163.2 = 0 then (if bt167.2 = 0 then (if bt167.1.toList = bt157.1.toList then (storagebarterlaw04_ChunkBack.j0 k bt159.1 bt163.1 ((bt163.1.length : Int) != (bt159.1.length : Int)) bt151.1 bt151.2.1 bt151.2.2.1 bt151.2.2.2.1) else (storagebarterlaw04_ChunkBack.j0 k bt159.1 bt163.1 true bt151.1 bt151.2.1 bt151.2.2.1 bt151.2.2.2.1)) else (storagebarterlaw04_ChunkBack.j0 k bt159.1 bt163.1 true bt151.1 bt151.2.1 bt151.2.2.1 bt151.2.2.2.1)) else (storagebarterlaw04_ChunkBack.j0 k bt159.1 bt163.1 true bt151.1 bt151.2.1 bt151.2.2.1 bt151.2.2.2.1)) else (storagebarterlaw04_ChunkBack.j0 k bt159.1 bt163.1 true bt151.1 bt151.2.1 bt151.2.2.1 bt151.2.2.2.1))))))) = some r := H
      have A6 := Aside0.mk A60
      clear A60
      replace H := Option.bind_eq_some_iff.mp H
      obtain ⟨⟨t151, t152, t153, t154, t155⟩, A70, H⟩ := H
      replace H : ((storagebartermake_Text.f k t148 t155 400).bind fun bt157 => ((chunk_Cut.f k bt157.1 t151 t152 t153 t154).bind fun bt159 => ((chunk_Ends.f bt157.1 t151 t152 t153 t154).bind fun bt163 => ((chunk_Join.f k bt159.1).bind fun bt167 => (if bt159.2 = 0 then (if bt163.2 = 0 then (if bt167.2 = 0 then (if bt167.1.toList = bt157.1.toList then (storagebarterlaw04_ChunkBack.j0 k bt159.1 bt163.1 ((bt163.1.length : Int) != (bt159.1.length : Int)) t151 t152 t153 t154) else (storagebarterlaw04_ChunkBack.j0 k bt159.1 bt163.1 true t151 t152 t153 t154)) else (storagebarterlaw04_ChunkBack.j0 k bt159.1 bt163.1 true t151 t152 t153 t154)) else (storagebarterlaw04_ChunkBack.j0 k bt159.1 bt163.1 true t151 t152 t153 t154)) else (storagebarterlaw04_ChunkBack.j0 k bt159.1 bt163.1 true t151 t152 t153 t154)))))) = some r := H
      have A7 := Aside0.mk A70
      clear A70
      replace H := Option.bind_eq_some_iff.mp H
      obtain ⟨⟨t157, t158⟩, A80, H⟩ := H
      replace H : ((chunk_Cut.f k t157 t151 t152 t153 t154).bind fun bt159 => ((chunk_Ends.f t157 t151 t152 t153 t154).bind fun bt163 => ((chunk_Join.f k bt159.1).bind fun bt167 => (if bt159.2 = 0 then (if bt163.2 = 0 then (if bt167.2 = 0 then (if bt167.1.toList = t157.toList then (storagebarterlaw04_ChunkBack.j0 k bt159.1 bt163.1 ((bt163.1.length : Int) != (bt159.1.length : Int)) t151 t152 t153 t154) else (storagebarterlaw04_ChunkBack.j0 k bt159.1 bt163.1 true t151 t152 t153 t154)) else (storagebarterlaw04_ChunkBack.j0 k bt159.1 bt163.1 true t151 t152 t153 t154)) else (storagebarterlaw04_ChunkBack.j0 k bt159.1 bt163.1 true t151 t152 t153 t154)) else (storagebarterlaw04_ChunkBack.j0 k bt159.1 bt163.1 true t151 t152 t153 t154))))) = some r := H
      have A8 := Aside0.mk A80
      clear A80
      replace H := Option.bind_eq_some_iff.mp H
      obtain ⟨⟨t159, t162⟩, A90, H⟩ := H
      replace H : ((chunk_Ends.f t157 t151 t152 t153 t154).bind fun bt163 => ((chunk_Join.f k t159).bind fun bt167 => (if t162 = 0 then (if bt163.2 = 0 then (if bt167.2 = 0 then (if bt167.1.toList = t157.toList then (storagebarterlaw04_ChunkBack.j0 k t159 bt163.1 ((bt163.1.length : Int) != (t159.length : Int)) t151 t152 t153 t154) else (storagebarterlaw04_ChunkBack.j0 k t159 bt163.1 true t151 t152 t153 t154)) else (storagebarterlaw04_ChunkBack.j0 k t159 bt163.1 true t151 t152 t153 t154)) else (storagebarterlaw04_ChunkBack.j0 k t159 bt163.1 true t151 t152 t153 t154)) else (storagebarterlaw04_ChunkBack.j0 k t159 bt163.1 true t151 t152 t153 t154)))) = some r := H
      have A9 := Aside0.mk A90
      clear A90
      replace H := Option.bind_eq_some_iff.mp H
      obtain ⟨⟨t163, t166⟩, A100, H⟩ := H
      replace H : ((chunk_Join.f k t159).bind fun bt167 => (if t162 = 0 then (if t166 = 0 then (if bt167.2 = 0 then (if bt167.1.toList = t157.toList then (storagebarterlaw04_ChunkBack.j0 k t159 t163 ((t163.length : Int) != (t159.length : Int)) t151 t152 t153 t154) else (storagebarterlaw04_ChunkBack.j0 k t159 t163 true t151 t152 t153 t154)) else (storagebarterlaw04_ChunkBack.j0 k t159 t163 true t151 t152 t153 t154)) else (storagebarterlaw04_ChunkBack.j0 k t159 t163 true t151 t152 t153 t154)) else (storagebarterlaw04_ChunkBack.j0 k t159 t163 true t151 t152 t153 t154))) = some r := H
      have A10 := Aside0.mk A100
      clear A100
      replace H := Option.bind_eq_some_iff.mp H
      obtain ⟨⟨t167, t168⟩, A110, H⟩ := H
      replace H : (if t162 = 0 then (if t166 = 0 then (if t168 = 0 then (if t167.toList = t157.toList then (storagebarterlaw04_ChunkBack.j0 k t159 t163 ((t163.length : Int) != (t159.length : Int)) t151 t152 t153 t154) else (storagebarterlaw04_ChunkBack.j0 k t159 t163 true t151 t152 t153 t154)) else (storagebarterlaw04_ChunkBack.j0 k t159 t163 true t151 t152 t153 t154)) else (storagebarterlaw04_ChunkBack.j0 k t159 t163 true t151 t152 t153 t154)) else (storagebarterlaw04_ChunkBack.j0 k t159 t163 true t151 t152 t153 t154)) = some r := H
      have A11 := Aside0.mk A110
      clear A110
      have HC12 := Aside0.mk H
      clear H
      go_enter Try.func11, Try.ntmps11
      go_upto_region 11 with (first | ((with_reducible refine gate_callee (f := 35) rfl ?_); refine goesL_ (some 15) rfl rfl Try.func35 (by kernel_rfl) rfl #[] rfl (by (try simp only [List.map_toArray, List.map_cons, List.map_nil]); first | done | rfl | (simp only [List.length_drop, List.length_take]; rfl)) ?_; (with_reducible refine (storagebarterlaw04_sane.calls k  true _ A2.out).mono ?_); rintro e w13 ⟨rfl, hb⟩; refine ⟨_, rfl, ?_⟩; have n0_ := Aside0.mk (below_step (by repeat (first | (with_reducible first | exact HB.out | apply below_alloc | apply pw_below_drewN | apply below_drew1) | exact HB.out)) hb); clear HB; have HB := n0_; clear n0_; (try clear hb); (try clear hb2); (try clear hk); (try clear hi)) | ((with_reducible refine gate_callee (f := 36) rfl ?_); refine goesL_ (some 18) rfl rfl Try.func36 (by kernel_rfl) rfl #[.slice A0 l0.length c0] rfl (by (try simp only [List.map_toArray, List.map_cons, List.map_nil]); first | done | rfl | (simp only [List.length_drop, List.length_take]; rfl)) ?_; (with_reducible refine (storagebartermake_Few.calls _ _ l0 true _ ?side1 ?side2 A4.out).mono ?_); (case side1 => repeat (first | exact (Kd.C_below HR0.out HB.out) | (with_reducible refine Kd.C_alloc ?_ _) | (with_reducible refine Kd.C_drewN ?_ _) | (with_reducible refine Kd.C_drew ?_))); (case side2 => exact HC0.out); rintro e w' ⟨rfl, ⟨nd, rfl⟩⟩; refine ⟨_, rfl, ?_⟩; (try (rw [drewN_self w13]; generalize hq_ : World.drewN w13 _ = w13; have n0_ : Aside0 (Below w.heap.size w w13) := ⟨by rw [← hq_]; exact (by repeat (first | (with_reducible first | exact HB.out | apply below_alloc | apply pw_below_drewN | apply below_drew1) | exact HB.out))⟩; clear HB hq_; have HB := n0_; clear n0_))) | ((with_reducible refine gate_callee (f := 37) rfl ?_); refine goesL_ (some 21) rfl rfl Try.func37 (by kernel_rfl) rfl #[.slice A0 l0.length c0] rfl (by (try simp only [List.map_toArray, List.map_cons, List.map_nil]); first | done | rfl | (simp only [List.length_drop, List.length_take]; rfl)) ?_; (with_reducible refine (storagebartermake_New.calls _ _ l0 t148 t149 w _ ?side1 ?side2 ?side3 A6.out).mono ?_); (case side1 => repeat (first | (with_reducible first | exact HB.out | apply below_alloc | apply pw_below_drewN | apply below_drew1) | exact HB.out)); (case side2 => exact HR0.out); (case side3 => exact HC0.out); rintro e w14 ⟨g150, rfl, hi, hb, hb2⟩; refine ⟨_, rfl, ?_⟩; have n0_ := Aside0.mk (hb); have n1_ := Aside0.mk (hi); clear HB; have HB := n0_; have HI150 := n1_; clear n0_ n1_; (try clear hb); (try clear hb2); (try clear hk); (try clear hi)) | ((with_reducible refine gate_callee (f := 38) rfl ?_); refine goesL_ (some 23) rfl rfl Try.func38 (by kernel_rfl) rfl #[.pointer (some ⟨g150, 0, none⟩)] rfl (by (try simp only [List.map_toArray, List.map_cons, List.map_nil]); first | done | rfl | (simp only [List.length_drop, List.length_take]; rfl)) ?_; (with_reducible refine (storagebartermake_Cutting.calls g150 t148 t149 t151 t152 t153 t154 t155 w _ ?side1 ?side2 A7.out).mono ?_); (case side1 => repeat (first | (with_reducible first | exact HI150.out | apply IsS92.alloc | apply IsS92.drewN | apply IsS92.drew | apply IsS92.set_1) | exact HI150.out)); (case side2 => repeat (first | (with_reducible first | exact HB.out | apply below_alloc | apply pw_below_drewN | apply below_drew1 | refine below_set ?_ (IsS92.ge HI150.out)) | exact HB.out)); rintro e w15 ⟨rfl, hi, hb, hk⟩; refine ⟨_, rfl, ?_⟩; have n0_ := Aside0.mk (hb); have n1_ := Aside0.mk (hi); clear HB; clear HI150; have HB := n0_; have HI150 := n1_; clear n0_ n1_; (try clear hb); (try clear hb2); (try clear hk); (try clear hi)) | ((with_reducible refine gate_dst (N := 4) rfl ?_); (try (refine gate_guard (by rfl) ?_; dsimp only)); refine box_event ?hg (N := 4) ?hd (cs := #[.int .i64 0, .int .i64 0, .int .i64 0, .int .i64 0]) (t := 58) ?hr ?_; (case hd => rfl); (case hg => rfl); (case hr => first | (go_simp; done) | (go_simp; rfl)); intro gb156 hg w16 hbox hb; have n0_ := Aside0.mk (IsS92.below (by repeat (first | (with_reducible first | exact HI150.out | apply IsS92.alloc | apply IsS92.drewN | apply IsS92.drew | apply IsS92.set_1) | exact HI150.out)) hb); have n1_ := Aside0.mk (below_step (by repeat (first | (with_reducible first | exact HB.out | apply below_alloc | apply pw_below_drewN | apply below_drew1 | refine below_set ?_ (IsS92.ge HI150.out)) | exact HB.out)) hb); have n2_ := Aside0.mk (hbox); have n3_ := Aside0.mk ((by rw [hg]; exact (below_size (by repeat (first | (with_reducible first | exact HB.out | apply below_alloc | apply pw_below_drewN | apply below_drew1 | refine below_set ?_ (IsS92.ge HI150.out)) | exact HB.out))) : w.heap.size ≤ gb156)); have n4_ := Aside0.mk ((by rw [hg]; exact (below_size (by repeat (first | (with_reducible first | exact HB.out | apply below_alloc | apply pw_below_drewN | apply below_drew1 | refine below_set ?_ (IsS92.ge HI150.out)) | exact HB.out))) : w.heap.size ≤ gb156)); have n5_ := Aside0.mk ((by rw [hg]; exact Nat.ne_of_lt (IsS92.lt (show IsS92 w _ g150 t148 t155 from by repeat (first | (with_reducible first | exact HI150.out | apply IsS92.alloc | apply IsS92.drewN | apply IsS92.drew | apply IsS92.set_1) | exact HI150.out))) : g150 ≠ gb156)); have n6_ := Aside0.mk ((by rw [hg]; exact Nat.ne_of_gt (IsS92.lt (show IsS92 w _ g150 t148 t155 from by repeat (first | (with_reducible first | exact HI150.out | apply IsS92.alloc | apply IsS92.drewN | apply IsS92.drew | apply IsS92.set_1) | exact HI150.out))) : gb156 ≠ g150)); clear HI150; clear HB; have HI150 := n0_; have HB := n1_; have BK156 := n2_; have GW156 := n3_; have GE156 := n4_; have NB150_156 := n5_; have NB156_150 := n6_; clear n0_ n1_ n2_ n3_ n4_ n5_ n6_; clear hb hbox hg; have hnb17 := NB156_150.out; have hnc17 := NB150_156.out; have hcz18_0 : w16.cell? ⟨gb156, 0, none⟩ = some (.int .i64 0) := (blk_cell BK156.out 0).trans rfl; have hcz18_1 : w16.cell? ⟨gb156, 1, none⟩ = some (.int .i64 0) := (blk_cell BK156.out 1).trans rfl; have hcz18_2 : w16.cell? ⟨gb156, 2, none⟩ = some (.int .i64 0) := (blk_cell BK156.out 2).trans rfl; have hcz18_3 : w16.cell? ⟨gb156, 3, none⟩ = some (.int .i64 0) := (blk_cell BK156.out 3).trans rfl; have hfz18_0 := blk_frozen BK156.out 0; have hfz18_1 := blk_frozen BK156.out 1; have hfz18_2 := blk_frozen BK156.out 2; have hfz18_3 := blk_frozen BK156.out 3) | ((with_reducible refine gate_callee (f := 40) rfl ?_); refine goesL_ (some 25) rfl rfl Try.func40 (by kernel_rfl) rfl #[.pointer (some ⟨g150, 0, none⟩), .int .i64 400] rfl (by (try simp only [List.map_toArray, List.map_cons, List.map_nil]); first | done | rfl | (simp only [List.length_drop, List.length_take]; rfl)) ?_; (with_reducible refine (storagebartermake_Text.calls k g150 t148 t155 400 t157 t158 w _ ?side1 ?side2 A8.out).mono ?_); (case side1 => repeat (first | (with_reducible first | exact HI150.out | apply IsS92.alloc | apply IsS92.drewN | apply IsS92.drew | apply IsS92.set_1 | refine IsS92.far ?_ NB150_156.out _) | exact HI150.out)); (case side2 => repeat (first | (with_reducible first | exact HB.out | apply below_alloc | apply pw_below_drewN | apply below_drew1 | refine below_set ?_ (IsS92.ge HI150.out) | refine below_set ?_ GE156.out) | exact HB.out)); rintro e w19 ⟨rfl, hi, hb, hk⟩; refine ⟨_, rfl, ?_⟩; have n0_ := Aside0.mk (KeepBut.blk hk (g' := gb156) (o := .cells #[.int .i64 t151, .int .i64 t152, .int .i64 t153, .int .i64 t154] 58 (0, 0)) (by (with_reducible repeat (first | refine blk_drewN ?_ _ | refine blk_drew ?_ | refine blk_alloc ?_ _)); refine blk_put (cs := #[.int .i64 t151, .int .i64 t152, .int .i64 t153, .int .i64 0]) ?_ 3 _ rfl; (with_reducible repeat (first | refine blk_drewN ?_ _ | refine blk_drew ?_ | refine blk_alloc ?_ _)); refine blk_put (cs := #[.int .i64 t151, .int .i64 t152, .int .i64 0, .int .i64 0]) ?_ 2 _ rfl; (with_reducible repeat (first | refine blk_drewN ?_ _ | refine blk_drew ?_ | refine blk_alloc ?_ _)); refine blk_put (cs := #[.int .i64 t151, .int .i64 0, .int .i64 0, .int .i64 0]) ?_ 1 _ rfl; (with_reducible repeat (first | refine blk_drewN ?_ _ | refine blk_drew ?_ | refine blk_alloc ?_ _)); refine blk_put (cs := #[.int .i64 0, .int .i64 0, .int .i64 0, .int .i64 0]) ?_ 0 _ rfl; (with_reducible repeat (first | refine blk_drewN ?_ _ | refine blk_drew ?_ | refine blk_alloc ?_ _)); exact BK156.out) NB156_150.out (by simp)); have n1_ := Aside0.mk (hb); have n2_ := Aside0.mk (hi); clear BK156; clear HB; clear HI150; have BK156 := n0_; have HB := n1_; have HI150 := n2_; clear n0_ n1_ n2_; (try clear hb); (try clear hb2); (try clear hk); (try clear hi); have hcz20_0 : w19.cell? ⟨gb156, 0, none⟩ = some (.int .i64 t151) := (blk_cell BK156.out 0).trans rfl; have hcz20_1 : w19.cell? ⟨gb156, 1, none⟩ = some (.int .i64 t152) := (blk_cell BK156.out 1).trans rfl; have hcz20_2 : w19.cell? ⟨gb156, 2, none⟩ = some (.int .i64 t153) := (blk_cell BK156.out 2).trans rfl; have hcz20_3 : w19.cell? ⟨gb156, 3, none⟩ = some (.int .i64 t154) := (blk_cell BK156.out 3).trans rfl; have hfz20_0 := blk_frozen BK156.out 0; have hfz20_1 := blk_frozen BK156.out 1; have hfz20_2 := blk_frozen BK156.out 2; have hfz20_3 := blk_frozen BK156.out 3) | ((with_reducible refine gate_callee (f := 39) rfl ?_); refine goesL_ (some 29) rfl rfl Try.func39 (by kernel_rfl) rfl #[.string t157, .agg #[.int .i64 t151, .int .i64 t152, .int .i64 t153, .int .i64 t154]] rfl (by (try simp only [List.map_toArray, List.map_cons, List.map_nil]); first | done | rfl | (simp only [List.length_drop, List.length_take]; rfl)) ?_; (with_reducible refine (chunk_Cut.calls k t157 t151 t152 t153 t154 t159 t162 _ A9.out).mono ?_); rintro e w21 ⟨v160, rfl, ho0, hb⟩; refine ⟨_, rfl, ?_⟩; have n0_ := Aside0.mk (Kd.R_lower ho0 (below_size (by repeat (first | (with_reducible first | exact HB.out | apply below_alloc | apply pw_below_drewN | apply below_drew1 | refine below_set ?_ (IsS92.ge HI150.out) | refine below_set ?_ GE156.out) | exact HB.out)))); have n1_ := Aside0.mk (IsS92.below (by repeat (first | (with_reducible first | exact HI150.out | apply IsS92.alloc | apply IsS92.drewN | apply IsS92.drew | apply IsS92.set_1 | refine IsS92.far ?_ NB150_156.out _) | exact HI150.out)) hb); have n2_ := Aside0.mk (blk_below (g := gb156) (o := .cells #[.int .i64 t151, .int .i64 t152, .int .i64 t153, .int .i64 t154] 58 (0, 0)) (by (with_reducible repeat (first | refine blk_drewN ?_ _ | refine blk_drew ?_ | refine blk_alloc ?_ _)); exact BK156.out) hb); have n3_ := Aside0.mk (below_step (by repeat (first | (with_reducible first | exact HB.out | apply below_alloc | apply pw_below_drewN | apply below_drew1 | refine below_set ?_ (IsS92.ge HI150.out) | refine below_set ?_ GE156.out) | exact HB.out)) hb); clear HI150; clear BK156; clear HB; have HO161 := n0_; have HI150 := n1_; have BK156 := n2_; have HB := n3_; clear n0_ n1_ n2_ n3_; (try clear hb); (try clear hb2); (try clear hk); (try clear hi); (try clear ho0); have hcz22_0 : w21.cell? ⟨gb156, 0, none⟩ = some (.int .i64 t151) := (blk_cell BK156.out 0).trans rfl; have hcz22_1 : w21.cell? ⟨gb156, 1, none⟩ = some (.int .i64 t152) := (blk_cell BK156.out 1).trans rfl; have hcz22_2 : w21.cell? ⟨gb156, 2, none⟩ = some (.int .i64 t153) := (blk_cell BK156.out 2).trans rfl; have hcz22_3 : w21.cell? ⟨gb156, 3, none⟩ = some (.int .i64 t154) := (blk_cell BK156.out 3).trans rfl; have hfz22_0 := blk_frozen BK156.out 0; have hfz22_1 := blk_frozen BK156.out 1; have hfz22_2 := blk_frozen BK156.out 2; have hfz22_3 := blk_frozen BK156.out 3) | ((with_reducible refine gate_callee (f := 45) rfl ?_); refine goesL_ (some 35) rfl rfl Try.func45 (by kernel_rfl) rfl #[.string t157, .agg #[.int .i64 t151, .int .i64 t152, .int .i64 t153, .int .i64 t154]] rfl (by (try simp only [List.map_toArray, List.map_cons, List.map_nil]); first | done | rfl | (simp only [List.length_drop, List.length_take]; rfl)) ?_; (with_reducible refine (chunk_Ends.calls t157 t151 t152 t153 t154 t163 t166 _ A10.out).mono ?_); rintro e w23 ⟨v164, rfl, ho0, hb⟩; refine ⟨_, rfl, ?_⟩; have n0_ := Aside0.mk (Kd.R_below (by (with_reducible repeat (first | apply Kd.R_alloc | apply Kd.R_drewN | apply Kd.R_drew)); exact HO161.out) hb); have n1_ := Aside0.mk (Kd.R_lower ho0 (below_size (by repeat (first | (with_reducible first | exact HB.out | apply below_alloc | apply pw_below_drewN | apply below_drew1 | refine below_set ?_ (IsS92.ge HI150.out) | refine below_set ?_ GE156.out) | exact HB.out)))); have n2_ := Aside0.mk (IsS92.below (by repeat (first | (with_reducible first | exact HI150.out | apply IsS92.alloc | apply IsS92.drewN | apply IsS92.drew | apply IsS92.set_1 | refine IsS92.far ?_ NB150_156.out _) | exact HI150.out)) hb); have n3_ := Aside0.mk (blk_below (g := gb156) (o := .cells #[.int .i64 t151, .int .i64 t152, .int .i64 t153, .int .i64 t154] 58 (0, 0)) (by (with_reducible repeat (first | refine blk_drewN ?_ _ | refine blk_drew ?_ | refine blk_alloc ?_ _)); exact BK156.out) hb); have n4_ := Aside0.mk (below_step (by repeat (first | (with_reducible first | exact HB.out | apply below_alloc | apply pw_below_drewN | apply below_drew1 | refine below_set ?_ (IsS92.ge HI150.out) | refine below_set ?_ GE156.out) | exact HB.out)) hb); clear HO161; clear HI150; clear BK156; clear HB; have HO161 := n0_; have HO165 := n1_; have HI150 := n2_; have BK156 := n3_; have HB := n4_; clear n0_ n1_ n2_ n3_ n4_; (try clear hb); (try clear hb2); (try clear hk); (try clear hi); (try clear ho0); obtain ⟨Ao24, co24, eo24⟩ := Kd.R_slice HO161.out; subst eo24) | ((with_reducible refine gate_callee (f := 43) rfl ?_); refine goesL_ (some 40) rfl rfl Try.func43 (by kernel_rfl) rfl #[.slice Ao24 t159.length co24] rfl (by (try simp only [List.map_toArray, List.map_cons, List.map_nil]); first | done | rfl | (simp only [List.length_drop, List.length_take]; rfl)) ?_; (with_reducible refine (chunk_Join.calls k _ _ t159 t167 t168 _ ?side1 ?side2 A11.out).mono ?_); (case side1 => repeat (first | exact (Kd.R_reads' HO161.out).2.2 | (with_reducible refine Kd.C_alloc ?_ _) | (with_reducible refine Kd.C_drewN ?_ _) | (with_reducible refine Kd.C_drew ?_))); (case side2 => exact (Kd.R_reads' HO161.out).2.1); rintro e w25 ⟨rfl, hb⟩; refine ⟨_, rfl, ?_⟩; have n0_ := Aside0.mk (Kd.R_below (by (with_reducible repeat (first | apply Kd.R_alloc | apply Kd.R_drewN | apply Kd.R_drew)); exact HO161.out) hb); have n1_ := Aside0.mk (Kd.R_below (by (with_reducible repeat (first | apply Kd.R_alloc | apply Kd.R_drewN | apply Kd.R_drew)); exact HO165.out) hb); have n2_ := Aside0.mk (IsS92.below (by repeat (first | (with_reducible first | exact HI150.out | apply IsS92.alloc | apply IsS92.drewN | apply IsS92.drew | apply IsS92.set_1 | refine IsS92.far ?_ NB150_156.out _) | exact HI150.out)) hb); have n3_ := Aside0.mk (blk_below (g := gb156) (o := .cells #[.int .i64 t151, .int .i64 t152, .int .i64 t153, .int .i64 t154] 58 (0, 0)) (by (with_reducible repeat (first | refine blk_drewN ?_ _ | refine blk_drew ?_ | refine blk_alloc ?_ _)); exact BK156.out) hb); have n4_ := Aside0.mk (below_step (by repeat (first | (with_reducible first | exact HB.out | apply below_alloc | apply pw_below_drewN | apply below_drew1 | refine below_set ?_ (IsS92.ge HI150.out) | refine below_set ?_ GE156.out) | exact HB.out)) hb); clear HO161; clear HO165; clear HI150; clear BK156; clear HB; have HO161 := n0_; have HO165 := n1_; have HI150 := n2_; have BK156 := n3_; have HB := n4_; clear n0_ n1_ n2_ n3_ n4_; (try clear hb); (try clear hb2); (try clear hk); (try clear hi)))
      (try simp only [Act.put, List.setIfInBounds_toArray, List.set_cons_zero, List.set_cons_succ])
      go_cut [64] (fun v64 wc => ∃ (kq : Nat) (x64_11 : Bool), v64 = .bool x64_11 ∧ Aside0 (storagebarterlaw04_ChunkBack.j0 kq t159 t163 x64_11 t151 t152 t153 t154 = some r) ∧ Aside0 (kq ≤ k) ∧ Aside0 (Kd.R Kd.string 9 wc w.heap.size (fun _ => True) (.slice Ao24 t159.length co24) t159) ∧ Aside0 (Kd.R (Kd.int .i64) 3 wc w.heap.size (fun _ => True) v164 t163) ∧ Aside0 (wc.heap[gb156]? = some (.cells #[.int .i64 t151, .int .i64 t152, .int .i64 t153, .int .i64 t154] 58 (0, 0))) ∧ Aside0 (Below w.heap.size w wc))
      case first =>
        have H := HC12.out
        clear HC12
        by_cases c26 : t162 = 0
        · rw [if_pos c26] at H
          have c26b0 : (t162 == 0) = true := beq_iff_eq.mpr c26
          have c26b1 : (t162 != 0) = false := bne_eq_false_iff_eq.mpr c26
          clear c26
          (first | rw [c26b0] | (simp only [i64_w, i32_w]; rw [c26b0]) | skip)
          by_cases c27 : t166 = 0
          · rw [if_pos c27] at H
            have c27b0 : (t166 == 0) = true := beq_iff_eq.mpr c27
            have c27b1 : (t166 != 0) = false := bne_eq_false_iff_eq.mpr c27
            clear c27
            by_cases c28 : t168 = 0
            · rw [if_pos c28] at H
              have c28b0 : (t168 == 0) = true := beq_iff_eq.mpr c28
              have c28b1 : (t168 != 0) = false := bne_eq_false_iff_eq.mpr c28
              clear c28
              by_cases c29 : t167.toList = t157.toList
              · rw [if_pos c29] at H
                have c29b0 : (t167.toList == t157.toList) = true := beq_iff_eq.mpr c29
                have c29b1 : (t167.toList != t157.toList) = false := bne_eq_false_iff_eq.mpr c29
                clear c29
                have H' := Aside0.mk H
                clear H
                obtain ⟨Ao30, co30, eo30⟩ := Kd.R_slice HO165.out
                subst eo30
                go_wp2
                go_meet
                case rel => exact ⟨_, (((t163.length : Int) != (t159.length : Int))), (by first | rfl | (simp; done) | (simp [*]; done)), H', ⟨by first | omega | exact Nat.le_refl _⟩, ⟨by (with_reducible repeat (first | apply Kd.R_alloc | apply Kd.R_drewN | apply Kd.R_drew)); exact HO161.out⟩, ⟨by (with_reducible repeat (first | apply Kd.R_alloc | apply Kd.R_drewN | apply Kd.R_drew)); exact HO165.out⟩, ⟨by (with_reducible repeat (first | refine blk_drewN ?_ _ | refine blk_drew ?_ | refine blk_alloc ?_ _)); exact BK156.out⟩, ⟨by repeat (first | (with_reducible first | exact HB.out | apply below_alloc | apply pw_below_drewN | apply below_drew1 | refine below_set ?_ (IsS92.ge HI150.out) | refine below_set ?_ GE156.out) | exact HB.out)⟩⟩
              · rw [if_neg c29] at H
                have c29b0 : (t167.toList == t157.toList) = false := beq_eq_false_iff_ne.mpr c29
                have c29b1 : (t167.toList != t157.toList) = true := bne_iff_ne.mpr c29
                have H' := Aside0.mk H
                clear H
                go_wp2
                go_meet
                case rel => exact ⟨_, (true), (by first | rfl | (simp; done) | (simp [*]; done)), H', ⟨by first | omega | exact Nat.le_refl _⟩, ⟨by (with_reducible repeat (first | apply Kd.R_alloc | apply Kd.R_drewN | apply Kd.R_drew)); exact HO161.out⟩, ⟨by (with_reducible repeat (first | apply Kd.R_alloc | apply Kd.R_drewN | apply Kd.R_drew)); exact HO165.out⟩, ⟨by (with_reducible repeat (first | refine blk_drewN ?_ _ | refine blk_drew ?_ | refine blk_alloc ?_ _)); exact BK156.out⟩, ⟨by repeat (first | (with_reducible first | exact HB.out | apply below_alloc | apply pw_below_drewN | apply below_drew1 | refine below_set ?_ (IsS92.ge HI150.out) | refine below_set ?_ GE156.out) | exact HB.out)⟩⟩
            · rw [if_neg c28] at H
              have c28b0 : (t168 == 0) = false := beq_eq_false_iff_ne.mpr c28
              have c28b1 : (t168 != 0) = true := bne_iff_ne.mpr c28
              have H' := Aside0.mk H
              clear H
              go_wp2
              go_meet
              case rel => exact ⟨_, (true), (by first | rfl | (simp; done) | (simp [*]; done)), H', ⟨by first | omega | exact Nat.le_refl _⟩, ⟨by (with_reducible repeat (first | apply Kd.R_alloc | apply Kd.R_drewN | apply Kd.R_drew)); exact HO161.out⟩, ⟨by (with_reducible repeat (first | apply Kd.R_alloc | apply Kd.R_drewN | apply Kd.R_drew)); exact HO165.out⟩, ⟨by (with_reducible repeat (first | refine blk_drewN ?_ _ | refine blk_drew ?_ | refine blk_alloc ?_ _)); exact BK156.out⟩, ⟨by repeat (first | (with_reducible first | exact HB.out | apply below_alloc | apply pw_below_drewN | apply below_drew1 | refine below_set ?_ (IsS92.ge HI150.out) | refine below_set ?_ GE156.out) | exact HB.out)⟩⟩
          · rw [if_neg c27] at H
            have c27b0 : (t166 == 0) = false := beq_eq_false_iff_ne.mpr c27
            have c27b1 : (t166 != 0) = true := bne_iff_ne.mpr c27
            have H' := Aside0.mk H
            clear H
            go_wp2
            go_meet
            case rel => exact ⟨_, (true), (by first | rfl | (simp; done) | (simp [*]; done)), H', ⟨by first | omega | exact Nat.le_refl _⟩, ⟨by (with_reducible repeat (first | apply Kd.R_alloc | apply Kd.R_drewN | apply Kd.R_drew)); exact HO161.out⟩, ⟨by (with_reducible repeat (first | apply Kd.R_alloc | apply Kd.R_drewN | apply Kd.R_drew)); exact HO165.out⟩, ⟨by (with_reducible repeat (first | refine blk_drewN ?_ _ | refine blk_drew ?_ | refine blk_alloc ?_ _)); exact BK156.out⟩, ⟨by repeat (first | (with_reducible first | exact HB.out | apply below_alloc | apply pw_below_drewN | apply below_drew1 | refine below_set ?_ (IsS92.ge HI150.out) | refine below_set ?_ GE156.out) | exact HB.out)⟩⟩
        · rw [if_neg c26] at H
          have c26b0 : (t162 == 0) = false := beq_eq_false_iff_ne.mpr c26
          have c26b1 : (t162 != 0) = true := bne_iff_ne.mpr c26
          (first | rw [c26b0] | (simp only [i64_w, i32_w]; rw [c26b0]) | skip)
          have H' := Aside0.mk H
          clear H
          go_wp2
          go_meet
          case rel => exact ⟨_, (true), (by first | rfl | (simp; done) | (simp [*]; done)), H', ⟨by first | omega | exact Nat.le_refl _⟩, ⟨by (with_reducible repeat (first | apply Kd.R_alloc | apply Kd.R_drewN | apply Kd.R_drew)); exact HO161.out⟩, ⟨by (with_reducible repeat (first | apply Kd.R_alloc | apply Kd.R_drewN | apply Kd.R_drew)); exact HO165.out⟩, ⟨by (with_reducible repeat (first | refine blk_drewN ?_ _ | refine blk_drew ?_ | refine blk_alloc ?_ _)); exact BK156.out⟩, ⟨by repeat (first | (with_reducible first | exact HB.out | apply below_alloc | apply pw_below_drewN | apply below_drew1 | refine below_set ?_ (IsS92.ge HI150.out) | refine below_set ?_ GE156.out) | exact HB.out)⟩⟩
      case rest =>
        clear HC12
        try clear c1
        try clear c2
        try clear p2
        try clear c3
        try clear c4
        try clear c5
        try clear c11
        try clear c17
        try clear c26
        try clear c26b0
        try clear c26b1
        try clear c27
        try clear c27b0
        try clear c27b1
        try clear c28
        try clear c28b0
        try clear c28b1
        try clear c29
        try clear c29b0
        try clear c29b1
        try clear hcz18_0
        try clear hcz18_1
        try clear hcz18_2
        try clear hcz18_3
        try clear hcz20_0
        try clear hcz20_1
        try clear hcz20_2
        try clear hcz20_3
        try clear hcz22_0
        try clear hcz22_1
        try clear hcz22_2
        try clear hcz22_3
        try clear hfz18_0
        try clear hfz18_1
        try clear hfz18_2
        try clear hfz18_3
        try clear hfz20_0
        try clear hfz20_1
        try clear hfz20_2
        try clear hfz20_3
        try clear hfz22_0
        try clear hfz22_1
        try clear hfz22_2
        try clear hfz22_3
        obtain ⟨kq, x64_11, rfl, HA, HJ11, HO_6, HO_8, BK156, HB⟩ := hcut
        cases kq with
        | zero => exact absurd HA.out (by simp [storagebarterlaw04_ChunkBack.j0])
        | succ kj11 =>
          have H := HA.out
          clear HA
          simp only [storagebarterlaw04_ChunkBack.j0] at H
          by_cases c31 : x64_11 = true
          · subst c31
            have H1 : (some false) = some r := by rw [if_pos rfl] at H; exact H
            clear H
            have H := H1
            clear H1
            obtain rfl := Option.some.inj H
            go_wp2
            go_ret
            exact ⟨by first | rfl | (simp [errW_none, errW_some] <;> rfl) | (simp [*, errW_none, errW_some] <;> rfl), by repeat (first | (with_reducible first | exact HB.out | apply below_alloc | apply pw_below_drewN | apply below_drew1 | refine below_set ?_ GE156.out) | exact HB.out)⟩
          · replace c31 := Bool.eq_false_iff.mpr c31
            subst c31
            have H1 : (storagebarterlaw04_ChunkBack.l0 kj11 t159 t163 0 t159 (t159.length : Int) 0 t151 t152 t153 t154) = some r := by rw [if_neg (show ¬ (false = true) by decide)] at H; exact H
            clear H
            have H := H1
            clear H1
            have H' := Aside0.mk H
            clear H
            go_wp2
            go_loopg [12, 67] kj11 (fun kq v12 v67 w' => ∃ (x12_2 : Int) (x67_2 : Int), v12 = .int .i64 x12_2 ∧ v67 = .int .i64 x67_2 ∧ Aside0 (storagebarterlaw04_ChunkBack.l0 kq t159 t163 x12_2 t159 (t159.length : Int) x67_2 t151 t152 t153 t154 = some r) ∧ Aside0 (kq ≤ kj11) ∧ Aside0 (Kd.R Kd.string 9 w' w.heap.size (fun _ => True) (.slice Ao24 t159.length co24) t159) ∧ Aside0 (Kd.R (Kd.int .i64) 3 w' w.heap.size (fun _ => True) v164 t163) ∧ Aside0 (Kd.R Kd.string 9 w' w.heap.size (fun _ => True) (.slice Ao24 t159.length co24) t159) ∧ Aside0 (w'.heap[gb156]? = some (.cells #[.int .i64 t151, .int .i64 t152, .int .i64 t153, .int .i64 t154] 58 (0, 0))) ∧ Aside0 (Below w.heap.size w w'))
            case atStart => exact ⟨(0), (0), (by first | rfl | (simp; done) | (simp [*]; done)), (by first | rfl | (simp; done) | (simp [*]; done)), H', ⟨Nat.le_refl _⟩, ⟨by (with_reducible repeat (first | apply Kd.R_alloc | apply Kd.R_drewN | apply Kd.R_drew)); exact HO_6.out⟩, ⟨by (with_reducible repeat (first | apply Kd.R_alloc | apply Kd.R_drewN | apply Kd.R_drew)); exact HO_8.out⟩, ⟨by (with_reducible repeat (first | apply Kd.R_alloc | apply Kd.R_drewN | apply Kd.R_drew)); exact HO_6.out⟩, ⟨by (with_reducible repeat (first | refine blk_drewN ?_ _ | refine blk_drew ?_ | refine blk_alloc ?_ _)); exact BK156.out⟩, ⟨by repeat (first | (with_reducible first | exact HB.out | apply below_alloc | apply pw_below_drewN | apply below_drew1 | refine below_set ?_ GE156.out) | exact HB.out)⟩⟩
            case round =>
              clear H'
              try clear c1
              try clear c2
              try clear p2
              try clear c3
              try clear c4
              try clear c5
              try clear c11
              try clear c17
              try clear c26
              try clear c26b0
              try clear c26b1
              try clear c27
              try clear c27b0
              try clear c27b1
              try clear c28
              try clear c28b0
              try clear c28b1
              try clear c29
              try clear c29b0
              try clear c29b1
              try clear c31
              try clear hcz18_0
              try clear hcz18_1
              try clear hcz18_2
              try clear hcz18_3
              try clear hcz20_0
              try clear hcz20_1
              try clear hcz20_2
              try clear hcz20_3
              try clear hcz22_0
              try clear hcz22_1
              try clear hcz22_2
              try clear hcz22_3
              try clear hfz18_0
              try clear hfz18_1
              try clear hfz18_2
              try clear hfz18_3
              try clear hfz20_0
              try clear hfz20_1
              try clear hfz20_2
              try clear hfz20_3
              try clear hfz22_0
              try clear hfz22_1
              try clear hfz22_2
              try clear hfz22_3
              try clear p2
              obtain ⟨x12_2, x67_2, rfl, rfl, HA, HK2, HO_6, HO_8, HO_65, BK156, HB⟩ := hrel
              cases gk with
              | zero => exact absurd HA.out (by simp [storagebarterlaw04_ChunkBack.l0])
              | succ k2 =>
                have H := HA.out
                clear HA
                simp only [storagebarterlaw04_ChunkBack.l0] at H
                by_cases c32 : x67_2 < (t159.length : Int)
                · rw [if_pos c32] at H
                  have c32b0 : decide (x67_2 < (t159.length : Int)) = true := decide_eq_true c32
                  clear c32
                  by_cases c33 : 0 ≤ x67_2
                  · rw [if_pos c33] at H
                    have c33b0 : decide (0 ≤ x67_2) = true := decide_eq_true c33
                    clear c33
                    by_cases c34 : x67_2 < (t159.length : Int)
                    · rw [if_pos c34] at H
                      have c34b0 : decide (x67_2 < (t159.length : Int)) = true := decide_eq_true c34
                      clear c34
                      by_cases c35 : ((rdOf ByteArray.empty t159 x67_2).size : Int) < 1
                      · rw [if_pos c35] at H
                        have c35b0 : decide (((rdOf ByteArray.empty t159 x67_2).size : Int) < 1) = true := decide_eq_true c35
                        have c35b1 : decide ((rdOf ByteArray.empty t159 x67_2).size < 1) = true := decide_eq_true (by omega)
                        clear c35
                        obtain rfl := Option.some.inj H
                        have p169 : 0 ≤ (x67_2 : Int) := of_decide_eq_true (by first | (with_reducible assumption) | assumption)
                        have q169 : x67_2 < (t159.length : Int) := of_decide_eq_true (by first | (with_reducible assumption) | assumption)
                        obtain ⟨ad169, e169, hx169_0⟩ := Kd.at_string (Kd.R_reads' HO_65.out).2.2 x67_2 p169 q169
                        cases e169
                        replace p169 := eq_true p169
                        replace q169 := eq_true q169
                        go_wp2
                        go_ret
                        exact ⟨by first | rfl | (simp [errW_none, errW_some] <;> rfl) | (simp [*, errW_none, errW_some] <;> rfl), by repeat (first | (with_reducible first | exact HB.out | apply below_alloc | apply pw_below_drewN | apply below_drew1 | refine below_set ?_ GE156.out) | exact HB.out)⟩
                      · rw [if_neg c35] at H
                        have c35b0 : decide (((rdOf ByteArray.empty t159 x67_2).size : Int) < 1) = false := decide_eq_false c35
                        have c35b1 : decide ((rdOf ByteArray.empty t159 x67_2).size < 1) = false := decide_eq_false (by omega)
                        clear c35
                        by_cases c36 : ((rdOf ByteArray.empty t159 x67_2).size : Int) > t152
                        · rw [if_pos c36] at H
                          have c36b0 : decide (t152 < ((rdOf ByteArray.empty t159 x67_2).size : Int)) = true := decide_eq_true c36
                          clear c36
                          obtain rfl := Option.some.inj H
                          have p169 : 0 ≤ (x67_2 : Int) := of_decide_eq_true (by first | (with_reducible assumption) | assumption)
                          have q169 : x67_2 < (t159.length : Int) := of_decide_eq_true (by first | (with_reducible assumption) | assumption)
                          obtain ⟨ad169, e169, hx169_0⟩ := Kd.at_string (Kd.R_reads' HO_65.out).2.2 x67_2 p169 q169
                          cases e169
                          replace p169 := eq_true p169
                          replace q169 := eq_true q169
                          have hcz37_0 : wr.cell? ⟨gb156, 0, none⟩ = some (.int .i64 t151) := (blk_cell BK156.out 0).trans rfl
                          have hcz37_1 : wr.cell? ⟨gb156, 1, none⟩ = some (.int .i64 t152) := (blk_cell BK156.out 1).trans rfl
                          have hcz37_2 : wr.cell? ⟨gb156, 2, none⟩ = some (.int .i64 t153) := (blk_cell BK156.out 2).trans rfl
                          have hcz37_3 : wr.cell? ⟨gb156, 3, none⟩ = some (.int .i64 t154) := (blk_cell BK156.out 3).trans rfl
                          have hfz37_0 := blk_frozen BK156.out 0
                          have hfz37_1 := blk_frozen BK156.out 1
                          have hfz37_2 := blk_frozen BK156.out 2
                          have hfz37_3 := blk_frozen BK156.out 3
                          go_wp2
                          go_ret
                          exact ⟨by first | rfl | (simp [errW_none, errW_some] <;> rfl) | (simp [*, errW_none, errW_some] <;> rfl), by repeat (first | (with_reducible first | exact HB.out | apply below_alloc | apply pw_below_drewN | apply below_drew1 | refine below_set ?_ GE156.out) | exact HB.out)⟩
                        · rw [if_neg c36] at H
                          have c36b0 : decide (t152 < ((rdOf ByteArray.empty t159 x67_2).size : Int)) = false := decide_eq_false c36
                          clear c36
                          by_cases c38 : x67_2 < (wrap64 ((t159.length : Int) - 1))
                          · rw [if_pos c38] at H
                            have c38b0 : decide (x67_2 < (wrap64 ((t159.length : Int) - 1))) = true := decide_eq_true c38
                            clear c38
                            by_cases c39 : ((rdOf ByteArray.empty t159 x67_2).size : Int) < t151
                            · rw [if_pos c39] at H
                              have c39b0 : decide (((rdOf ByteArray.empty t159 x67_2).size : Int) < t151) = true := decide_eq_true c39
                              clear c39
                              obtain rfl := Option.some.inj H
                              have p169 : 0 ≤ (x67_2 : Int) := of_decide_eq_true (by first | (with_reducible assumption) | assumption)
                              have q169 : x67_2 < (t159.length : Int) := of_decide_eq_true (by first | (with_reducible assumption) | assumption)
                              obtain ⟨ad169, e169, hx169_0⟩ := Kd.at_string (Kd.R_reads' HO_65.out).2.2 x67_2 p169 q169
                              cases e169
                              replace p169 := eq_true p169
                              replace q169 := eq_true q169
                              have hcz40_0 : wr.cell? ⟨gb156, 0, none⟩ = some (.int .i64 t151) := (blk_cell BK156.out 0).trans rfl
                              have hcz40_1 : wr.cell? ⟨gb156, 1, none⟩ = some (.int .i64 t152) := (blk_cell BK156.out 1).trans rfl
                              have hcz40_2 : wr.cell? ⟨gb156, 2, none⟩ = some (.int .i64 t153) := (blk_cell BK156.out 2).trans rfl
                              have hcz40_3 : wr.cell? ⟨gb156, 3, none⟩ = some (.int .i64 t154) := (blk_cell BK156.out 3).trans rfl
                              have hfz40_0 := blk_frozen BK156.out 0
                              have hfz40_1 := blk_frozen BK156.out 1
                              have hfz40_2 := blk_frozen BK156.out 2
                              have hfz40_3 := blk_frozen BK156.out 3
                              go_wp2
                              go_ret
                              exact ⟨by first | rfl | (simp [errW_none, errW_some] <;> rfl) | (simp [*, errW_none, errW_some] <;> rfl), by repeat (first | (with_reducible first | exact HB.out | apply below_alloc | apply pw_below_drewN | apply below_drew1 | refine below_set ?_ GE156.out) | exact HB.out)⟩
                            · rw [if_neg c39] at H
                              have c39b0 : decide (((rdOf ByteArray.empty t159 x67_2).size : Int) < t151) = false := decide_eq_false c39
                              clear c39
                              by_cases c41 : x67_2 < (t163.length : Int)
                              · rw [if_pos c41] at H
                                have c41b0 : decide (x67_2 < (t163.length : Int)) = true := decide_eq_true c41
                                clear c41
                                by_cases c42 : (rd t163 x67_2) = (wrap64 (x12_2 + ((rdOf ByteArray.empty t159 x67_2).size : Int)))
                                · rw [if_pos c42] at H
                                  have c42b0 : ((rd t163 x67_2) == (wrap64 (x12_2 + ((rdOf ByteArray.empty t159 x67_2).size : Int)))) = true := beq_iff_eq.mpr c42
                                  have c42b1 : ((rd t163 x67_2) != (wrap64 (x12_2 + ((rdOf ByteArray.empty t159 x67_2).size : Int)))) = false := bne_eq_false_iff_eq.mpr c42
                                  clear c42
                                  have H' := Aside0.mk H
                                  clear H
                                  have p169 : 0 ≤ (x67_2 : Int) := of_decide_eq_true (by first | (with_reducible assumption) | assumption)
                                  have q169 : x67_2 < (t159.length : Int) := of_decide_eq_true (by first | (with_reducible assumption) | assumption)
                                  obtain ⟨ad169, e169, hx169_0⟩ := Kd.at_string (Kd.R_reads' HO_65.out).2.2 x67_2 p169 q169
                                  cases e169
                                  replace p169 := eq_true p169
                                  replace q169 := eq_true q169
                                  have hcz43_0 : wr.cell? ⟨gb156, 0, none⟩ = some (.int .i64 t151) := (blk_cell BK156.out 0).trans rfl
                                  have hcz43_1 : wr.cell? ⟨gb156, 1, none⟩ = some (.int .i64 t152) := (blk_cell BK156.out 1).trans rfl
                                  have hcz43_2 : wr.cell? ⟨gb156, 2, none⟩ = some (.int .i64 t153) := (blk_cell BK156.out 2).trans rfl
                                  have hcz43_3 : wr.cell? ⟨gb156, 3, none⟩ = some (.int .i64 t154) := (blk_cell BK156.out 3).trans rfl
                                  have hfz43_0 := blk_frozen BK156.out 0
                                  have hfz43_1 := blk_frozen BK156.out 1
                                  have hfz43_2 := blk_frozen BK156.out 2
                                  have hfz43_3 := blk_frozen BK156.out 3
                                  obtain ⟨Ao44, co44, eo44⟩ := Kd.R_slice HO_8.out
                                  subst eo44
                                  have p170 : 0 ≤ (x67_2 : Int) := of_decide_eq_true (by first | (with_reducible assumption) | assumption)
                                  have q170 : x67_2 < (t163.length : Int) := of_decide_eq_true (by first | (with_reducible assumption) | assumption)
                                  obtain ⟨ad170, e170, hx170_0⟩ := Kd.at_int (Kd.R_reads' HO_8.out).2.2 x67_2 p170 q170
                                  cases e170
                                  replace p170 := eq_true p170
                                  replace q170 := eq_true q170
                                  go_wp2
                                  go_roundg k2
                                  case measure => have := HJ11.out; have := HK2.out; omega
                                  case rel => exact ⟨(wrap64 (x12_2 + ((rdOf ByteArray.empty t159 x67_2).size : Int))), (wrap64 (x67_2 + 1)), (by first | rfl | (simp; done) | (simp [*]; done)), (by first | rfl | (simp; done) | (simp [*]; done)), H', ⟨by have := HJ11.out; have := HK2.out; omega⟩, ⟨by (with_reducible repeat (first | apply Kd.R_alloc | apply Kd.R_drewN | apply Kd.R_drew)); exact HO_6.out⟩, ⟨by (with_reducible repeat (first | apply Kd.R_alloc | apply Kd.R_drewN | apply Kd.R_drew)); exact HO_8.out⟩, ⟨by (with_reducible repeat (first | apply Kd.R_alloc | apply Kd.R_drewN | apply Kd.R_drew)); exact HO_65.out⟩, ⟨by (with_reducible repeat (first | refine blk_drewN ?_ _ | refine blk_drew ?_ | refine blk_alloc ?_ _)); exact BK156.out⟩, ⟨by repeat (first | (with_reducible first | exact HB.out | apply below_alloc | apply pw_below_drewN | apply below_drew1 | refine below_set ?_ GE156.out) | exact HB.out)⟩⟩
                                · rw [if_neg c42] at H
                                  have c42b0 : ((rd t163 x67_2) == (wrap64 (x12_2 + ((rdOf ByteArray.empty t159 x67_2).size : Int)))) = false := beq_eq_false_iff_ne.mpr c42
                                  have c42b1 : ((rd t163 x67_2) != (wrap64 (x12_2 + ((rdOf ByteArray.empty t159 x67_2).size : Int)))) = true := bne_iff_ne.mpr c42
                                  obtain rfl := Option.some.inj H
                                  have p169 : 0 ≤ (x67_2 : Int) := of_decide_eq_true (by first | (with_reducible assumption) | assumption)
                                  have q169 : x67_2 < (t159.length : Int) := of_decide_eq_true (by first | (with_reducible assumption) | assumption)
                                  obtain ⟨ad169, e169, hx169_0⟩ := Kd.at_string (Kd.R_reads' HO_65.out).2.2 x67_2 p169 q169
                                  cases e169
                                  replace p169 := eq_true p169
                                  replace q169 := eq_true q169
                                  have hcz45_0 : wr.cell? ⟨gb156, 0, none⟩ = some (.int .i64 t151) := (blk_cell BK156.out 0).trans rfl
                                  have hcz45_1 : wr.cell? ⟨gb156, 1, none⟩ = some (.int .i64 t152) := (blk_cell BK156.out 1).trans rfl
                                  have hcz45_2 : wr.cell? ⟨gb156, 2, none⟩ = some (.int .i64 t153) := (blk_cell BK156.out 2).trans rfl
                                  have hcz45_3 : wr.cell? ⟨gb156, 3, none⟩ = some (.int .i64 t154) := (blk_cell BK156.out 3).trans rfl
                                  have hfz45_0 := blk_frozen BK156.out 0
                                  have hfz45_1 := blk_frozen BK156.out 1
                                  have hfz45_2 := blk_frozen BK156.out 2
                                  have hfz45_3 := blk_frozen BK156.out 3
                                  obtain ⟨Ao46, co46, eo46⟩ := Kd.R_slice HO_8.out
                                  subst eo46
                                  have p170 : 0 ≤ (x67_2 : Int) := of_decide_eq_true (by first | (with_reducible assumption) | assumption)
                                  have q170 : x67_2 < (t163.length : Int) := of_decide_eq_true (by first | (with_reducible assumption) | assumption)
                                  obtain ⟨ad170, e170, hx170_0⟩ := Kd.at_int (Kd.R_reads' HO_8.out).2.2 x67_2 p170 q170
                                  cases e170
                                  replace p170 := eq_true p170
                                  replace q170 := eq_true q170
                                  go_wp2
                                  go_ret
                                  exact ⟨by first | rfl | (simp [errW_none, errW_some] <;> rfl) | (simp [*, errW_none, errW_some] <;> rfl), by repeat (first | (with_reducible first | exact HB.out | apply below_alloc | apply pw_below_drewN | apply below_drew1 | refine below_set ?_ GE156.out) | exact HB.out)⟩
                              · rw [if_neg c41] at H
                                exact absurd H (by simp)
                          · rw [if_neg c38] at H
                            have c38b0 : decide (x67_2 < (wrap64 ((t159.length : Int) - 1))) = false := decide_eq_false c38
                            clear c38
                            by_cases c47 : x67_2 < (t163.length : Int)
                            · rw [if_pos c47] at H
                              have c47b0 : decide (x67_2 < (t163.length : Int)) = true := decide_eq_true c47
                              clear c47
                              by_cases c48 : (rd t163 x67_2) = (wrap64 (x12_2 + ((rdOf ByteArray.empty t159 x67_2).size : Int)))
                              · rw [if_pos c48] at H
                                have c48b0 : ((rd t163 x67_2) == (wrap64 (x12_2 + ((rdOf ByteArray.empty t159 x67_2).size : Int)))) = true := beq_iff_eq.mpr c48
                                have c48b1 : ((rd t163 x67_2) != (wrap64 (x12_2 + ((rdOf ByteArray.empty t159 x67_2).size : Int)))) = false := bne_eq_false_iff_eq.mpr c48
                                clear c48
                                have H' := Aside0.mk H
                                clear H
                                have p169 : 0 ≤ (x67_2 : Int) := of_decide_eq_true (by first | (with_reducible assumption) | assumption)
                                have q169 : x67_2 < (t159.length : Int) := of_decide_eq_true (by first | (with_reducible assumption) | assumption)
                                obtain ⟨ad169, e169, hx169_0⟩ := Kd.at_string (Kd.R_reads' HO_65.out).2.2 x67_2 p169 q169
                                cases e169
                                replace p169 := eq_true p169
                                replace q169 := eq_true q169
                                have hcz49_0 : wr.cell? ⟨gb156, 0, none⟩ = some (.int .i64 t151) := (blk_cell BK156.out 0).trans rfl
                                have hcz49_1 : wr.cell? ⟨gb156, 1, none⟩ = some (.int .i64 t152) := (blk_cell BK156.out 1).trans rfl
                                have hcz49_2 : wr.cell? ⟨gb156, 2, none⟩ = some (.int .i64 t153) := (blk_cell BK156.out 2).trans rfl
                                have hcz49_3 : wr.cell? ⟨gb156, 3, none⟩ = some (.int .i64 t154) := (blk_cell BK156.out 3).trans rfl
                                have hfz49_0 := blk_frozen BK156.out 0
                                have hfz49_1 := blk_frozen BK156.out 1
                                have hfz49_2 := blk_frozen BK156.out 2
                                have hfz49_3 := blk_frozen BK156.out 3
                                obtain ⟨Ao50, co50, eo50⟩ := Kd.R_slice HO_8.out
                                subst eo50
                                have p171 : 0 ≤ (x67_2 : Int) := of_decide_eq_true (by first | (with_reducible assumption) | assumption)
                                have q171 : x67_2 < (t163.length : Int) := of_decide_eq_true (by first | (with_reducible assumption) | assumption)
                                obtain ⟨ad171, e171, hx171_0⟩ := Kd.at_int (Kd.R_reads' HO_8.out).2.2 x67_2 p171 q171
                                cases e171
                                replace p171 := eq_true p171
                                replace q171 := eq_true q171
                                go_wp2
                                go_roundg k2
                                case measure => have := HJ11.out; have := HK2.out; omega
                                case rel => exact ⟨(wrap64 (x12_2 + ((rdOf ByteArray.empty t159 x67_2).size : Int))), (wrap64 (x67_2 + 1)), (by first | rfl | (simp; done) | (simp [*]; done)), (by first | rfl | (simp; done) | (simp [*]; done)), H', ⟨by have := HJ11.out; have := HK2.out; omega⟩, ⟨by (with_reducible repeat (first | apply Kd.R_alloc | apply Kd.R_drewN | apply Kd.R_drew)); exact HO_6.out⟩, ⟨by (with_reducible repeat (first | apply Kd.R_alloc | apply Kd.R_drewN | apply Kd.R_drew)); exact HO_8.out⟩, ⟨by (with_reducible repeat (first | apply Kd.R_alloc | apply Kd.R_drewN | apply Kd.R_drew)); exact HO_65.out⟩, ⟨by (with_reducible repeat (first | refine blk_drewN ?_ _ | refine blk_drew ?_ | refine blk_alloc ?_ _)); exact BK156.out⟩, ⟨by repeat (first | (with_reducible first | exact HB.out | apply below_alloc | apply pw_below_drewN | apply below_drew1 | refine below_set ?_ GE156.out) | exact HB.out)⟩⟩
                              · rw [if_neg c48] at H
                                have c48b0 : ((rd t163 x67_2) == (wrap64 (x12_2 + ((rdOf ByteArray.empty t159 x67_2).size : Int)))) = false := beq_eq_false_iff_ne.mpr c48
                                have c48b1 : ((rd t163 x67_2) != (wrap64 (x12_2 + ((rdOf ByteArray.empty t159 x67_2).size : Int)))) = true := bne_iff_ne.mpr c48
                                obtain rfl := Option.some.inj H
                                have p169 : 0 ≤ (x67_2 : Int) := of_decide_eq_true (by first | (with_reducible assumption) | assumption)
                                have q169 : x67_2 < (t159.length : Int) := of_decide_eq_true (by first | (with_reducible assumption) | assumption)
                                obtain ⟨ad169, e169, hx169_0⟩ := Kd.at_string (Kd.R_reads' HO_65.out).2.2 x67_2 p169 q169
                                cases e169
                                replace p169 := eq_true p169
                                replace q169 := eq_true q169
                                have hcz51_0 : wr.cell? ⟨gb156, 0, none⟩ = some (.int .i64 t151) := (blk_cell BK156.out 0).trans rfl
                                have hcz51_1 : wr.cell? ⟨gb156, 1, none⟩ = some (.int .i64 t152) := (blk_cell BK156.out 1).trans rfl
                                have hcz51_2 : wr.cell? ⟨gb156, 2, none⟩ = some (.int .i64 t153) := (blk_cell BK156.out 2).trans rfl
                                have hcz51_3 : wr.cell? ⟨gb156, 3, none⟩ = some (.int .i64 t154) := (blk_cell BK156.out 3).trans rfl
                                have hfz51_0 := blk_frozen BK156.out 0
                                have hfz51_1 := blk_frozen BK156.out 1
                                have hfz51_2 := blk_frozen BK156.out 2
                                have hfz51_3 := blk_frozen BK156.out 3
                                obtain ⟨Ao52, co52, eo52⟩ := Kd.R_slice HO_8.out
                                subst eo52
                                have p171 : 0 ≤ (x67_2 : Int) := of_decide_eq_true (by first | (with_reducible assumption) | assumption)
                                have q171 : x67_2 < (t163.length : Int) := of_decide_eq_true (by first | (with_reducible assumption) | assumption)
                                obtain ⟨ad171, e171, hx171_0⟩ := Kd.at_int (Kd.R_reads' HO_8.out).2.2 x67_2 p171 q171
                                cases e171
                                replace p171 := eq_true p171
                                replace q171 := eq_true q171
                                go_wp2
                                go_ret
                                exact ⟨by first | rfl | (simp [errW_none, errW_some] <;> rfl) | (simp [*, errW_none, errW_some] <;> rfl), by repeat (first | (with_reducible first | exact HB.out | apply below_alloc | apply pw_below_drewN | apply below_drew1 | refine below_set ?_ GE156.out) | exact HB.out)⟩
                            · rw [if_neg c47] at H
                              exact absurd H (by simp)
                    · rw [if_neg c34] at H
                      exact absurd H (by simp)
                  · rw [if_neg c33] at H
                    exact absurd H (by simp)
                · rw [if_neg c32] at H
                  have c32b0 : decide (x67_2 < (t159.length : Int)) = false := decide_eq_false c32
                  clear c32
                  obtain rfl := Option.some.inj H
                  go_wp2
                  go_ret
                  exact ⟨by first | rfl | (simp [errW_none, errW_some] <;> rfl) | (simp [*, errW_none, errW_some] <;> rfl), by repeat (first | (with_reducible first | exact HB.out | apply below_alloc | apply pw_below_drewN | apply below_drew1 | refine below_set ?_ GE156.out) | exact HB.out)⟩
    · replace c5 := Bool.eq_false_iff.mpr c5
      subst c5
      have H1 : (some true) = some r := by rw [if_neg (show ¬ (false = true) by decide)] at H; exact H
      clear H
      have H := H1
      clear H1
      obtain rfl := Option.some.inj H
      go_enter Try.func11, Try.ntmps11
      go_wp2_with (first | ((with_reducible refine gate_callee (f := 35) rfl ?_); refine goesL_ (some 15) rfl rfl Try.func35 (by kernel_rfl) rfl #[] rfl (by (try simp only [List.map_toArray, List.map_cons, List.map_nil]); first | done | rfl | (simp only [List.length_drop, List.length_take]; rfl)) ?_; (with_reducible refine (storagebarterlaw04_sane.calls k  true _ A2.out).mono ?_); rintro e w53 ⟨rfl, hb⟩; refine ⟨_, rfl, ?_⟩; have n0_ := Aside0.mk (below_step (by repeat (first | (with_reducible first | exact HB.out | apply below_alloc | apply pw_below_drewN | apply below_drew1) | exact HB.out)) hb); clear HB; have HB := n0_; clear n0_; (try clear hb); (try clear hb2); (try clear hk); (try clear hi)) | ((with_reducible refine gate_callee (f := 36) rfl ?_); refine goesL_ (some 18) rfl rfl Try.func36 (by kernel_rfl) rfl #[.slice A0 l0.length c0] rfl (by (try simp only [List.map_toArray, List.map_cons, List.map_nil]); first | done | rfl | (simp only [List.length_drop, List.length_take]; rfl)) ?_; (with_reducible refine (storagebartermake_Few.calls _ _ l0 false _ ?side1 ?side2 A4.out).mono ?_); (case side1 => repeat (first | exact (Kd.C_below HR0.out HB.out) | (with_reducible refine Kd.C_alloc ?_ _) | (with_reducible refine Kd.C_drewN ?_ _) | (with_reducible refine Kd.C_drew ?_))); (case side2 => exact HC0.out); rintro e w' ⟨rfl, ⟨nd, rfl⟩⟩; refine ⟨_, rfl, ?_⟩))
      go_ret
      exact ⟨by first | rfl | (simp [errW_none, errW_some] <;> rfl) | (simp [*, errW_none, errW_some] <;> rfl), by repeat (first | (with_reducible first | exact HB.out | apply below_alloc | apply pw_below_drewN | apply below_drew1) | exact HB.out)⟩
  · replace c3 := Bool.eq_false_iff.mpr c3
    subst c3
    have H1 : (some false) = some r := by rw [if_neg (show ¬ (false = true) by decide)] at H; exact H
    clear H
    have H := H1
    clear H1
    obtain rfl := Option.some.inj H
    go_enter Try.func11, Try.ntmps11
    go_wp2_with (first | ((with_reducible refine gate_callee (f := 35) rfl ?_); refine goesL_ (some 15) rfl rfl Try.func35 (by kernel_rfl) rfl #[] rfl (by (try simp only [List.map_toArray, List.map_cons, List.map_nil]); first | done | rfl | (simp only [List.length_drop, List.length_take]; rfl)) ?_; (with_reducible refine (storagebarterlaw04_sane.calls k  false _ A2.out).mono ?_); rintro e w54 ⟨rfl, hb⟩; refine ⟨_, rfl, ?_⟩; have n0_ := Aside0.mk (below_step (by repeat (first | (with_reducible first | exact HB.out | apply below_alloc | apply pw_below_drewN | apply below_drew1) | exact HB.out)) hb); clear HB; have HB := n0_; clear n0_; (try clear hb); (try clear hb2); (try clear hk); (try clear hi)))
    go_ret
    exact ⟨by first | rfl | (simp [errW_none, errW_some] <;> rfl) | (simp [*, errW_none, errW_some] <;> rfl), by repeat (first | (with_reducible first | exact HB.out | apply below_alloc | apply pw_below_drewN | apply below_drew1) | exact HB.out)⟩

/-- THE ONE PURE STATEMENT of storagebarterlaw04_ChunkBack: yours. -/
def storagebarterlaw04_ChunkBack.Pure : Prop := ∀ (l0 : List Int), l0.length ≤ maxLen → l0.length * 8 ≤ 140737488351232 → (∀ x ∈ l0, (Lit.int .i64 x).wf = true) → ∃ k, storagebarterlaw04_ChunkBack.f k l0 = some true
theorem storagebarterlaw04_ChunkBack.walk (P : storagebarterlaw04_ChunkBack.Pure) (a0 : Option Addr) (len0 cap0 : Nat) (z0 : List Int) (w : World) (w0 : (a0 = none ∧ len0 = 0 ∧ cap0 = 0 ∧ z0 = []) ∨ ∃ x, a0 = some x ∧ len0 ≤ cap0 ∧ cap0 ≤ maxLen ∧ z0.length = cap0 ∧ (∀ i, i < z0.length → w.cell? (x.add i) = some (.int .i64 (z0.getD i 0))) ∧ ∀ n ∈ z0, (Lit.int .i64 n).wf = true) (y0 : len0 * 8 ≤ 140737488351232) :
    Calls Try.prog 11 #[.slice a0 len0 cap0] w fun e w' => e = .returned (.bool true) ∧ Below w.heap.size w w' := by
  obtain ⟨l0, rfl, hr0, hm0, hw0, hc0⟩ := ReadsInt.ofRowC w0
  obtain ⟨k, h⟩ := P l0 hm0 y0 hw0
  refine (storagebarterlaw04_ChunkBack.calls k _ _ l0 true w (Kd.C_of_reads (d := (0 : Int)) (h1 := fun _ => rfl) hr0) hc0 h).mono ?_
  rintro e w' ⟨rfl, hd⟩
  exact ⟨rfl, hd⟩

end Go.Proofs.Ytepffabkcbfejaa.PChunkBack
