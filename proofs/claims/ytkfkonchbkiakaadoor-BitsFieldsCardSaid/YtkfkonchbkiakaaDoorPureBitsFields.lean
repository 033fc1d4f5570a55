/- BitsFields: whatever the words, the places and the numbers: the law returns true and leaves its arguments as they were. No condition. -/
import Derived.Test.YtkfkonchbkiakaaDoorPFields
namespace Go.Proofs.YtkfkonchbkiakaaDoor.Pure
set_option linter.unusedVariables false
set_option linter.unusedSimpArgs false
open Go.RowKit Go.Proofs.YtkfkonchbkiakaaDoor.Q Go.Proofs.YtkfkonchbkiakaaDoorW.PrintWords Go.Proofs.YtkfkonchbkiakaaDoorW.PrintLast Go.Proofs.YtkfkonchbkiakaaDoorW.PrintMore Go.Proofs.YtkfkonchbkiakaaDoor.P1 Go.Proofs.YtkfkonchbkiakaaDoor.X
theorem BitsFields : brazierlaw1_BitsFields.Pure := by
  intro w lo n v x y hw hlo hn hv hx hy
  refine ⟨5, ?_⟩
  obtain ⟨w0, w1⟩ := wf_u32 hw
  obtain ⟨v0, v1⟩ := wf_u32 hv
  obtain ⟨lo0, lo1⟩ := wf_i64 hlo
  obtain ⟨n0, n1⟩ := wf_i64 hn
  obtain ⟨x0, x1⟩ := wf_u64 hx
  have hu : ∀ x : Int, 0 ≤ IntKind.u64.wrap x ∧ IntKind.u64.wrap x < 18446744073709551616 := by intro x; rw [u64w]; omega
  obtain ⟨w, rfl⟩ := Int.eq_ofNat_of_zero_le w0
  obtain ⟨v, rfl⟩ := Int.eq_ofNat_of_zero_le v0
  unfold brazierlaw1_BitsFields.f
  rw [known_true]
  simp only [Option.bind_some, if_true]
  rw [field_eq w lo n (by omega) lo0 lo1, ref_field_eq w lo n (by omega) lo0 lo1]
  simp only [Option.bind_some, if_true]
  rw [put_eq w v lo n (by omega) (by omega) lo0 lo1, ref_put_eq w v lo n (by omega) (by omega) lo0 lo1]
  simp only [Option.bind_some, if_true]
  rw [sext_eq x n x0 x1 n0 n1, ref_sext_eq x n x0 x1 n0 n1]
  simp only [Option.bind_some, if_true]
  have hf : ∀ k, brazierref1_Fits.f (k + 1) y n = bits_Fits.f y n := by
    intro k
    unfold brazierref1_Fits.f bits_Fits.f
    rw [sext_eq _ n (hu y).1 (hu y).2 n0 n1, ref_sext_eq _ n (hu y).1 (hu y).2 n0 n1]
  have hs : ∃ r, bits_Fits.f y n = some r := by
    unfold bits_Fits.f
    rw [sext_eq _ n (hu y).1 (hu y).2 n0 n1]
    repeat' split
    all_goals exact ⟨_, rfl⟩
  obtain ⟨r, hr⟩ := hs
  rw [hf 4, hr]
  simp
end Go.Proofs.YtkfkonchbkiakaaDoor.Pure
