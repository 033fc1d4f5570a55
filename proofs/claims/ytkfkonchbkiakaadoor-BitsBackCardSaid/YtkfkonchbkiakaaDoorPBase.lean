/- Shifts, in plain arithmetic. -/
import Derived.Test.YtkfkonchbkiakaaDoorQx3
namespace Go.Proofs.YtkfkonchbkiakaaDoor.P1
set_option linter.unusedVariables false
set_option linter.unusedSimpArgs false
open Go.RowKit Go.Proofs.YtkfkonchbkiakaaDoorW.PrintWords Go.Proofs.YtkfkonchbkiakaaDoorW.PrintLast Go.Proofs.YtkfkonchbkiakaaDoorW.PrintMore Go.Proofs.YtkfkonchbkiakaaDoor.Q Go.Proofs.YtkfkonchbkiakaaDoor.X

theorem u64w (x : Int) : IntKind.u64.wrap x = x % 18446744073709551616 := by
  simp [IntKind.wrap, IntKind.bits, IntKind.signed]
theorem u32w (x : Int) : IntKind.u32.wrap x = x % 4294967296 := by
  simp [IntKind.wrap, IntKind.bits, IntKind.signed]
theorem i64w (x : Int) : IntKind.i64.wrap x = wrap64 x := by
  rw [Go.IntKind.wrap_i64]
  unfold wrap64
  omega
theorem wf_u64 {x : Int} (h : (Lit.int .u64 x).wf = true) : 0 ≤ x ∧ x < 18446744073709551616 := by
  have h1 : IntKind.u64.min = 0 := by decide
  simp only [Lit.wf, Bool.and_eq_true, decide_eq_true_eq, h1, max_u64] at h
  omega
theorem wf_u32 {x : Int} (h : (Lit.int .u32 x).wf = true) : 0 ≤ x ∧ x < 4294967296 := by
  have h1 : IntKind.u32.min = 0 := by decide
  simp only [Lit.wf, Bool.and_eq_true, decide_eq_true_eq, h1, max_u32] at h
  omega
theorem wf_i64 {x : Int} (h : (Lit.int .i64 x).wf = true) : -9223372036854775808 ≤ x ∧ x < 9223372036854775808 := by
  have h1 : IntKind.i64.min = -9223372036854775808 := by decide
  have h2 : IntKind.i64.max = 9223372036854775807 := by decide
  simp only [Lit.wf, Bool.and_eq_true, decide_eq_true_eq, h1, h2] at h
  omega
theorem and63 (x : Int) (h0 : 0 ≤ x) (h1 : x < 18446744073709551616) : Go.bits .and .u64 x 63 = x % 64 := by
  rw [Go.u64_and x 63 h0 h1 (by omega) (by omega)]
  have h := Nat.and_two_pow_sub_one_eq_mod x.toNat 6
  simp only [Nat.reducePow, Nat.reduceSub] at h
  rw [show (63 : Int).toNat = 63 from rfl, h]
  omega
theorem two_pow_pos (n : Nat) : (0 : Int) < 2 ^ n := Int.pow_pos (by omega)

/-- What Shift does, at a count n below 64. -/
def sh (a : Int) (n : Nat) (kind : Int) : Int :=
  if kind = 0 then (a * 2 ^ n) % 18446744073709551616 else if kind = 1 then a / 2 ^ n else if kind = 2 then (wrap64 a / 2 ^ n) % 18446744073709551616 else a
theorem shift_eq (a b kind : Int) (h0 : 0 ≤ b) (h1 : b < 18446744073709551616) : bits_Shift.f a b kind = some (sh a (b % 64).toNat kind) := by
  have e := and63 b h0 h1
  have hm : min (b % 64).toNat 64 = (b % 64).toNat := by omega
  have hp : (0 : Int) ≤ b % 64 := by omega
  unfold bits_Shift.f sh shl shr
  rw [e]
  simp only [if_pos hp, u64w, show IntKind.u64.bits = 64 from rfl, show IntKind.i64.bits = 64 from rfl, hm]
  repeat' split
  all_goals rfl
theorem wrap64_range (x : Int) : -9223372036854775808 ≤ wrap64 x ∧ wrap64 x < 9223372036854775808 := by
  unfold wrap64; omega
theorem ediv_range {x : Int} (h0 : -9223372036854775808 ≤ x) (h1 : x < 9223372036854775808) (n : Nat) : -9223372036854775808 ≤ x / 2 ^ n ∧ x / 2 ^ n < 9223372036854775808 := by
  have hp := two_pow_pos n
  constructor
  · rw [Int.le_ediv_iff_mul_le hp]
    have : (1 : Int) ≤ 2 ^ n := by omega
    omega
  · apply Int.ediv_lt_of_lt_mul hp
    have h2 : (1 : Int) ≤ 2 ^ n := by omega
    omega
theorem wrap_back {x : Int} (h0 : -9223372036854775808 ≤ x) (h1 : x < 9223372036854775808) : wrap64 (x % 18446744073709551616) = x := by
  unfold wrap64; omega
theorem sh_range (a : Int) (n : Nat) (kind : Int) (h0 : 0 ≤ a) (h1 : a < 18446744073709551616) : 0 ≤ sh a n kind ∧ sh a n kind < 18446744073709551616 := by
  unfold sh
  have hp := two_pow_pos n
  split
  · omega
  · split
    · exact ⟨Int.ediv_nonneg h0 (by omega), Int.lt_of_le_of_lt (Int.ediv_le_self _ h0) h1⟩
    · split
      · omega
      · exact ⟨h0, h1⟩
theorem sh_add (a : Int) (m n : Nat) (kind : Int) : sh (sh a m kind) n kind = sh a (m + n) kind := by
  unfold sh
  by_cases k0 : kind = 0
  · simp only [if_pos k0]
    rw [Int.mul_emod (a * 2 ^ m % _), Int.emod_emod_of_dvd _ (Int.dvd_refl _), ← Int.mul_emod, Int.pow_add, Int.mul_assoc]
  · by_cases k1 : kind = 1
    · simp only [if_neg k0, if_pos k1]
      rw [Int.pow_add, Int.ediv_ediv_of_nonneg (by have := two_pow_pos m; omega)]
    · by_cases k2 : kind = 2
      · simp only [if_neg k0, if_neg k1, if_pos k2]
        have hr := wrap64_range a
        have hd := ediv_range hr.1 hr.2 m
        rw [wrap_back hd.1 hd.2, Int.pow_add, Int.ediv_ediv_of_nonneg (by have := two_pow_pos m; omega)]
      · simp only [if_neg k0, if_neg k1, if_neg k2]
theorem known_true : brazierlaw1_known.f = some true := by decide +kernel
end Go.Proofs.YtkfkonchbkiakaaDoor.P1
