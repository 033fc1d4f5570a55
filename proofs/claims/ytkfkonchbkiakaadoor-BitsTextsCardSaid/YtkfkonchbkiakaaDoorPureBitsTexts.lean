/- BitsTexts: whatever the number, the count of digits, the text and the two numbers: the law returns true and leaves its arguments as they were. No condition. -/
import Derived.Test.YtkfkonchbkiakaaDoorPHex
namespace Go.Proofs.YtkfkonchbkiakaaDoor.Pure
set_option linter.unusedVariables false
set_option linter.unusedSimpArgs false
open Go.RowKit Go.Proofs.YtkfkonchbkiakaaDoor.Q Go.Proofs.YtkfkonchbkiakaaDoorW.PrintWords Go.Proofs.YtkfkonchbkiakaaDoorW.PrintLast Go.Proofs.YtkfkonchbkiakaaDoorW.PrintMore Go.Proofs.YtkfkonchbkiakaaDoor.P1 Go.Proofs.YtkfkonchbkiakaaDoor.X
theorem BitsTexts : brazierlaw1_BitsTexts.Pure := by
  intro v digits s a b hv hd hs ha hb
  refine ⟨4000, ?_⟩
  obtain ⟨v0, v1⟩ := wf_u64 hv
  obtain ⟨L, hL⟩ := digits_ex v v0 v1
  have h1 := hex_eq v digits v0 v1 L hL
  have h2 := ref_hex_eq v digits v0 v1 L hL 3999 (by omega)
  unfold brazierlaw1_BitsTexts.f
  rw [known_true]
  simp only [Option.bind_some, if_true]
  by_cases hsz : (s.size : Int) > 1000
  · rw [if_pos hsz]
  rw [if_neg hsz, read_eq s (by omega) 4000 (by omega), ref_read_eq s (by omega) 4000 (by omega)]
  simp only [Option.bind_some]
  have fin : ∀ t : Int, t = (if a < b then b else a) → brazierlaw1_BitsTexts.j0 4000 v digits a b (rh s).1 (rh s).2 (rh s).1 (rh s).2 t = some true := by
    intro t ht
    rw [show (4000 : Nat) = 3999 + 1 from rfl]
    simp only [brazierlaw1_BitsTexts.j0]
    rw [h1, h2]
    simp only [Option.bind_some, if_true, beq_self_eq_true]
    have hm : bits_Most_int64.f a b = some t := by
      unfold bits_Most_int64.f
      rw [ht]
      split <;> rfl
    rw [hm]
    simp only [Option.bind_some, if_true]
    unfold bits_Most_uint64.f
    split
    · simp only [Option.bind_some]
      refine congrArg some (decide_eq_true ?_)
      omega
    · simp only [Option.bind_some]
      refine congrArg some (decide_eq_true ?_)
      omega
  by_cases hab : b > a
  · rw [if_pos hab]
    exact fin b (by rw [if_pos hab])
  · rw [if_neg hab]
    exact fin a (by rw [if_neg hab])
end Go.Proofs.YtkfkonchbkiakaaDoor.Pure
