/- BitsMoves: whatever the number, the two counts and the kind: the law returns true and leaves its arguments as they were. No condition. -/
import Derived.Test.YtkfkonchbkiakaaDoorPBase
import Derived.Test.YtkfkonchbkiakaaDoorQx4
namespace Go.Proofs.YtkfkonchbkiakaaDoor.Pure
set_option linter.unusedVariables false
set_option linter.unusedSimpArgs false
open Go.RowKit Go.Proofs.YtkfkonchbkiakaaDoor.Q Go.Proofs.YtkfkonchbkiakaaDoorW.PrintWords Go.Proofs.YtkfkonchbkiakaaDoorW.PrintLast Go.Proofs.YtkfkonchbkiakaaDoorW.PrintMore Go.Proofs.YtkfkonchbkiakaaDoor.P1 Go.Proofs.YtkfkonchbkiakaaDoor.X

theorem toNat_small {x : Int} (h0 : 0 ≤ x) (h1 : x < 64) : (IntKind.u64.wrap x % 64).toNat = x.toNat := by
  rw [u64w]; omega

theorem BitsMoves : brazierlaw1_BitsMoves.Pure := by
  intro a one two kind ha h1 h2 h3
  refine ⟨5, ?_⟩
  obtain ⟨a0, a1⟩ := wf_u64 ha
  obtain ⟨b0, b1⟩ := wf_i64 h1
  obtain ⟨c0, c1⟩ := wf_i64 h2
  have hj : ∀ k, brazierlaw1_BitsMoves.j0 (k + 1) a one two kind true = some true := by
    intro k
    simp only [brazierlaw1_BitsMoves.j0, if_true]
  unfold brazierlaw1_BitsMoves.f
  rw [known_true]
  simp only [Option.bind_some, if_true]
  by_cases g1 : one < 0
  · rw [if_pos g1]; exact hj 4
  rw [if_neg g1]
  by_cases g2 : two < 0
  · rw [if_pos g2]; exact hj 4
  rw [if_neg g2]
  by_cases g3 : one > 63
  · rw [if_pos g3]; exact hj 4
  rw [if_neg g3]
  have hw : wrap64 (63 - one) = 63 - one := by unfold wrap64; omega
  rw [hw]
  by_cases g4 : two > 63 - one
  · rw [if_pos g4]; exact hj 4
  rw [if_neg g4]
  by_cases g5 : kind < 0
  · rw [if_pos g5]; exact hj 4
  rw [if_neg g5]
  by_cases g6 : kind > 2
  · rw [decide_eq_true g6]; exact hj 4
  rw [decide_eq_false g6]
  have hu : ∀ x : Int, 0 ≤ IntKind.u64.wrap x ∧ IntKind.u64.wrap x < 18446744073709551616 := by intro x; rw [u64w]; omega
  have e1 : (IntKind.u64.wrap one % 64).toNat = one.toNat := toNat_small (by omega) (by omega)
  have e2 : (IntKind.u64.wrap two % 64).toNat = two.toNat := toNat_small (by omega) (by omega)
  have e3 : (IntKind.u64.wrap (wrap64 (one + two)) % 64).toNat = one.toNat + two.toNat := by
    rw [u64w]; unfold wrap64; omega
  have e4 : (IntKind.u64.wrap (IntKind.u64.wrap one + 64) % 64).toNat = one.toNat := by
    simp only [u64w]; omega
  have e5 : 0 ≤ IntKind.u64.wrap one := (hu one).1
  have e6 : IntKind.u64.wrap one = one := by rw [u64w]; omega
  simp only [brazierlaw1_BitsMoves.j0, Bool.false_eq_true, if_false]
  rw [shift_eq a _ kind (hu _).1 (hu _).2]
  simp only [Option.bind_some]
  have r1 := sh_range a (IntKind.u64.wrap one % 64).toNat kind a0 a1
  rw [shift_eq _ _ kind (hu _).1 (hu _).2, shift_eq a _ kind (hu _).1 (hu _).2]
  simp only [Option.bind_some]
  rw [e1, e2, e3, sh_add, if_pos rfl, shift_eq a _ kind (hu _).1 (hu _).2]
  simp only [Option.bind_some]
  rw [e4]
  simp only [brazierlaw1_BitsMoves.j1, bne_self_eq_false, Bool.false_eq_true, if_false]
  rw [shift_eq a _ 0 (hu _).1 (hu _).2]
  simp only [Option.bind_some]
  rw [shift_eq _ _ 1 (hu _).1 (hu _).2]
  simp only [Option.bind_some]
  rw [if_pos e5, e1]
  have hsh : sh (sh a one.toNat 0) one.toNat 1 = shr .u64 (shl .u64 a (IntKind.u64.wrap one)) (IntKind.u64.wrap one) := by
    have hm : min one.toNat 64 = one.toNat := by omega
    unfold sh shr shl
    simp only [e6, u64w, show IntKind.u64.bits = 64 from rfl, hm, if_true]
    rfl
  rw [if_pos hsh, shift_eq a _ 2 (by omega) (by omega)]
  simp only [Option.bind_some]
  have hl : sh a ((63 : Int) % 64).toNat 2 = (wrap64 a / 9223372036854775808) % 18446744073709551616 := rfl
  rw [hl]
  have hr := wrap64_range a
  have hd : wrap64 ((wrap64 a / 9223372036854775808) % 18446744073709551616) = wrap64 a / 9223372036854775808 := by
    apply wrap_back <;> omega
  rw [hd]
  simp
end Go.Proofs.YtkfkonchbkiakaaDoor.Pure
