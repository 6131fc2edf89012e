/- The law DeviationCounts answers true for every input: what its printed functions compute, in plain Lean. -/
import Derived.Test.YtdflpnfceajomaaDoorPDeviationCountsx3
set_option linter.unusedVariables false
set_option linter.unusedSimpArgs false
set_option maxRecDepth 100000
namespace Go.Proofs.YtdflpnfceajomaaDoor.Pure
open Go.RowKit Go.Proofs.YtdflpnfceajomaaDoor.PDeviationCounts Go.Proofs.YtdflpnfceajomaaDoorW.PrintWords Go.Proofs.YtdflpnfceajomaaDoorW.PrintMore Go.Proofs.YtdflpnfceajomaaDoorW.PrintLast

/-! the numbers of tables by Pascal's rule: all small numbers, reckoned -/
theorem dev_sane : storagebarterlaw30_sane.f 20 = some true := by kernel_rfl
def dev_body (k : Nat) (a b : Int) : Option Bool := (deviation_Count.f k a b).bind fun bt127 => ((deviation_Count.f k (wrap64 (a - 1)) b).bind fun bt129 => ((deviation_Count.f k (wrap64 (a - 1)) (wrap64 (b - 1))).bind fun bt131 => (if bt129.2 = true then (storagebarterlaw30_DeviationCounts.j0 k bt127.1 bt127.2 bt129.1 bt131.1 (!bt131.2)) else (storagebarterlaw30_DeviationCounts.j0 k bt127.1 bt127.2 bt129.1 bt131.1 true))))
theorem dev_all : (List.range 40).all (fun i => (List.range 4).all (fun j => dev_body 20 (1 + (i : Int)) (1 + (j : Int)) == some true)) = true := by kernel_rfl
theorem dev_mod (a m : Int) (h0 : 0 ≤ a) (h1 : a ≤ 255) (hm : 0 < m) (hm2 : m ≤ 40) : wrap64 (1 + Int.tmod (wrap64 a) m) = 1 + ((a % m).toNat : Int) := by
  have e : wrap64 a = a := by unfold wrap64; omega
  rw [e, Int.tmod_eq_emod_of_nonneg h0]
  have h2 := Int.emod_nonneg a (b := m) (by omega)
  have h3 := Int.emod_lt_of_pos a hm
  unfold wrap64
  omega
theorem DeviationCounts : storagebarterlaw30_DeviationCounts.Pure := by
  intro a0 a1 h0 h1
  have b0 : 0 ≤ a0 ∧ a0 ≤ 255 := by have m0 : IntKind.u8.min = 0 := rfl; have m1 : IntKind.u8.max = 255 := rfl; simp [Lit.wf, IntKind.wrap] at h0; omega
  have b1 : 0 ≤ a1 ∧ a1 ≤ 255 := by have m0 : IntKind.u8.min = 0 := rfl; have m1 : IntKind.u8.max = 255 := rfl; simp [Lit.wf, IntKind.wrap] at h1; omega
  refine ⟨20, ?_⟩
  unfold storagebarterlaw30_DeviationCounts.f
  rw [dev_sane]
  simp only [Option.bind_some, if_true]
  rw [dev_mod a0 40 b0.1 b0.2 (by omega) (by omega), dev_mod a1 4 b1.1 b1.2 (by omega) (by omega)]
  show dev_body 20 (1 + ((a0 % 40).toNat : Int)) (1 + ((a1 % 4).toNat : Int)) = some true
  have h := dev_all
  rw [List.all_eq_true] at h
  have h2 := h (a0 % 40).toNat (List.mem_range.mpr (by omega))
  rw [List.all_eq_true] at h2
  exact eq_of_beq (h2 (a1 % 4).toNat (List.mem_range.mpr (by omega)))

end Go.Proofs.YtdflpnfceajomaaDoor.Pure
