/- Fields of words, signed numbers: what the program's and the reference's functions are, in plain arithmetic. -/
import Derived.Test.YtkfkonchbkiakaaDoorPBase
import Derived.Test.YtkfkonchbkiakaaDoorQx5
namespace Go.Proofs.YtkfkonchbkiakaaDoor.P1
set_option linter.unusedVariables false
set_option linter.unusedSimpArgs false
open Go.RowKit Go.Proofs.YtkfkonchbkiakaaDoorW.PrintWords Go.Proofs.YtkfkonchbkiakaaDoorW.PrintLast Go.Proofs.YtkfkonchbkiakaaDoorW.PrintMore Go.Proofs.YtkfkonchbkiakaaDoor.Q Go.Proofs.YtkfkonchbkiakaaDoor.X

/-- A field may be: n bits from bit lo on lie in a word. -/
def Ok (lo n : Int) : Prop := 0 ≤ lo ∧ lo ≤ 31 ∧ 1 ≤ n ∧ n ≤ 32 - lo
instance (lo n : Int) : Decidable (Ok lo n) := inferInstanceAs (Decidable (_ ∧ _ ∧ _ ∧ _))
theorem within_eq (lo n : Int) (h0 : -9223372036854775808 ≤ lo) (h1 : lo < 9223372036854775808) : bits_within.f lo n = some (decide (Ok lo n)) := by
  unfold bits_within.f
  by_cases h : Ok lo n
  · rw [decide_eq_true h]
    obtain ⟨a, b, c, d⟩ := h
    have hs : wrap64 (32 - lo) = 32 - lo := by unfold wrap64; omega
    rw [if_pos (by omega), if_pos (by omega), if_pos (by omega), hs, decide_eq_true d]
  · rw [decide_eq_false h]
    unfold Ok at h
    by_cases a : lo ≥ 0
    · rw [if_pos a]
      by_cases b : lo < 32
      · rw [if_pos b]
        by_cases c : n ≥ 1
        · have hs : wrap64 (32 - lo) = 32 - lo := by unfold wrap64; omega
          rw [if_pos c, hs, decide_eq_false (by omega)]
        · rw [if_neg c]
      · rw [if_neg b]
    · rw [if_neg a]
theorem pow_cast (n : Nat) : ((2 : Int) ^ n) = ((2 ^ n : Nat) : Int) := by simp
theorem pow_le {m n : Nat} (h : m ≤ n) : (2 : Int) ^ m ≤ 2 ^ n := by
  rw [pow_cast, pow_cast]
  have : 2 ^ m ≤ 2 ^ n := Nat.pow_le_pow_right (by omega) h
  omega
theorem pow_le32 {n : Nat} (h : n ≤ 32) : (2 : Int) ^ n ≤ 4294967296 := pow_le h
theorem pow_le64 {n : Nat} (h : n ≤ 64) : (2 : Int) ^ n ≤ 18446744073709551616 := pow_le h
theorem mask_eq (n : Int) (h0 : 1 ≤ n) (h1 : n ≤ 32) : bits_mask.f n = some (((2 ^ n.toNat - 1 : Nat)) : Int) := by
  unfold bits_mask.f shl
  rw [if_pos (by omega)]
  refine congrArg some ?_
  rw [show IntKind.u32.bits = 32 from rfl, Nat.min_eq_left (by omega), u32w, Int.one_mul]
  have hp := pow_le32 (n := n.toNat) (by omega)
  have hq := two_pow_pos n.toNat
  have e := pow_cast n.toNat
  omega
theorem mask64_eq (n : Int) (h0 : 1 ≤ n) (h1 : n ≤ 64) : brazierref1_mask.f n = some (((2 ^ n.toNat - 1 : Nat)) : Int) := by
  unfold brazierref1_mask.f shl
  by_cases h : n ≥ 64
  · rw [if_pos h]
    have : n = 64 := by omega
    subst this
    rfl
  · have hw : IntKind.u64.wrap n = n := by rw [u64w]; omega
    rw [if_neg h, hw, if_pos (by omega)]
    refine congrArg some ?_
    rw [show IntKind.u64.bits = 64 from rfl, Nat.min_eq_left (by omega)]
    simp only [u64w, Int.one_mul]
    have hp := pow_le64 (n := n.toNat) (by omega)
    have hq := two_pow_pos n.toNat
    have e := pow_cast n.toNat
    omega
theorem and_mask (x n : Nat) : x &&& (2 ^ n - 1) = x % 2 ^ n := Nat.and_two_pow_sub_one_eq_mod x n
theorem lt_pow32 {n : Nat} (h : n ≤ 32) : 2 ^ n - 1 < 4294967296 := by
  have : 2 ^ n ≤ 2 ^ 32 := Nat.pow_le_pow_right (by omega) h
  have := Nat.two_pow_pos n
  omega
theorem lt_pow64 {n : Nat} (h : n ≤ 64) : 2 ^ n - 1 < 18446744073709551616 := by
  have : 2 ^ n ≤ 2 ^ 64 := Nat.pow_le_pow_right (by omega) h
  have := Nat.two_pow_pos n
  omega
/-- A field. -/
def fld (w lo n : Nat) : Nat := w / 2 ^ lo % 2 ^ n
theorem field_eq (w : Nat) (lo n : Int) (hw : w < 4294967296) (h0 : -9223372036854775808 ≤ lo) (h1 : lo < 9223372036854775808) : bits_Field.f w lo n = some (if Ok lo n then ((fld w lo.toNat n.toNat : Nat) : Int) else 0) := by
  unfold bits_Field.f
  rw [within_eq lo n h0 h1]
  simp only [Option.bind_some]
  by_cases h : Ok lo n
  · rw [if_pos (by simpa using h), if_pos h]
    obtain ⟨a, b, c, d⟩ := h
    rw [if_pos a, mask_eq n c (by omega)]
    simp only [Option.bind_some]
    refine congrArg some ?_
    unfold shr
    rw [show IntKind.u32.bits = 32 from rfl, Nat.min_eq_left (by omega), pow_cast]
    have e : ((w : Int) / ((2 ^ lo.toNat : Nat) : Int)) = ((w / 2 ^ lo.toNat : Nat) : Int) := by simp
    have hle : w / 2 ^ lo.toNat ≤ w := Nat.div_le_self _ _
    rw [e, Go.u32_and_nat _ _ (by omega) (lt_pow32 (by omega)), and_mask]
    rfl
  · rw [if_neg (by simpa using h), if_neg h]
theorem ref_field_eq (w : Nat) (lo n : Int) (hw : w < 4294967296) (h0 : -9223372036854775808 ≤ lo) (h1 : lo < 9223372036854775808) : brazierref1_Field.f w lo n = some (if Ok lo n then ((fld w lo.toNat n.toNat : Nat) : Int) else 0) := by
  unfold brazierref1_Field.f
  by_cases h : Ok lo n
  · rw [if_pos h]
    obtain ⟨a, b, c, d⟩ := h
    have hl : IntKind.u64.wrap lo = lo := by rw [u64w]; omega
    have hww : IntKind.u64.wrap (w : Int) = w := by rw [u64w]; omega
    have hs : wrap64 (32 - lo) = 32 - lo := by unfold wrap64; omega
    rw [if_neg (by omega), if_neg (by omega), if_neg (by omega), hs, if_neg (by omega), hl, if_pos a, mask64_eq n c (by omega), hww]
    simp only [Option.bind_some]
    refine congrArg some ?_
    unfold shr
    rw [show IntKind.u64.bits = 64 from rfl, Nat.min_eq_left (by omega), pow_cast]
    have e : ((w : Int) / ((2 ^ lo.toNat : Nat) : Int)) = ((w / 2 ^ lo.toNat : Nat) : Int) := by simp
    have hle : w / 2 ^ lo.toNat ≤ w := Nat.div_le_self _ _
    rw [e, Go.u64_and_nat _ _ (by omega) (lt_pow64 (by omega)), and_mask]
    unfold fld
    have hlt := Nat.mod_le (w / 2 ^ lo.toNat) (2 ^ n.toNat)
    omega
  · rw [if_neg h]
    by_cases a : lo < 0
    · rw [if_pos a]
    rw [if_neg a]
    by_cases b : lo > 31
    · rw [if_pos b]
    rw [if_neg b]
    by_cases c : n < 1
    · rw [if_pos c]
    rw [if_neg c]
    have hs : wrap64 (32 - lo) = 32 - lo := by unfold wrap64; omega
    rw [hs, if_pos]
    unfold Ok at h
    omega
theorem fld_bit (w lo n i : Nat) : (fld w lo n).testBit i = (decide (i < n) && w.testBit (i + lo)) := by
  unfold fld
  rw [Nat.testBit_mod_two_pow, Nat.testBit_div_two_pow]

/-- What Put lays. -/
def putv (w lo n v : Nat) : Nat := (w &&& (4294967295 - (2 ^ n - 1) * 2 ^ lo)) ||| (v % 2 ^ n) * 2 ^ lo
theorem mask_lt (lo n : Nat) (h : lo + n ≤ 32) : (2 ^ n - 1) * 2 ^ lo < 2 ^ 32 := by
  have h1 : (2 ^ n - 1) * 2 ^ lo < 2 ^ n * 2 ^ lo := Nat.mul_lt_mul_of_pos_right (by have := Nat.two_pow_pos n; omega) (Nat.two_pow_pos lo)
  rw [← Nat.pow_add] at h1
  exact Nat.lt_of_lt_of_le h1 (Nat.pow_le_pow_right (by omega) (by omega))
theorem low_lt (lo n v : Nat) (h : lo + n ≤ 32) : (v % 2 ^ n) * 2 ^ lo < 2 ^ 32 := by
  have h1 : (v % 2 ^ n) * 2 ^ lo < 2 ^ n * 2 ^ lo := Nat.mul_lt_mul_of_pos_right (Nat.mod_lt _ (Nat.two_pow_pos n)) (Nat.two_pow_pos lo)
  rw [← Nat.pow_add] at h1
  exact Nat.lt_of_lt_of_le h1 (Nat.pow_le_pow_right (by omega) (by omega))
theorem mul_bit (x lo i : Nat) : (x * 2 ^ lo).testBit i = (decide (lo ≤ i) && x.testBit (i - lo)) := by
  rw [← Nat.shiftLeft_eq, Nat.testBit_shiftLeft]
theorem bit_high {w i : Nat} (hw : w < 4294967296) (hi : 32 ≤ i) : w.testBit i = false :=
  Nat.testBit_lt_two_pow (Nat.lt_of_lt_of_le (show w < 2 ^ 32 from hw) (Nat.pow_le_pow_right (by omega) hi))
theorem putv_bit (w lo n v i : Nat) (hw : w < 4294967296) (h : lo + n ≤ 32) : (putv w lo n v).testBit i = if lo ≤ i ∧ i < lo + n then v.testBit (i - lo) else w.testBit i := by
  unfold putv
  have hm := mask_lt lo n h
  have hs := Nat.testBit_two_pow_sub_succ hm i
  rw [show 2 ^ 32 - ((2 ^ n - 1) * 2 ^ lo + 1) = 4294967295 - (2 ^ n - 1) * 2 ^ lo from by omega] at hs
  rw [Nat.testBit_or, Nat.testBit_and, hs, mul_bit, mul_bit, Nat.testBit_two_pow_sub_one, Nat.testBit_mod_two_pow]
  by_cases h1 : lo ≤ i
  · by_cases h2 : i < lo + n
    · have h3 : i - lo < n := by omega
      have h4 : i < 32 := by omega
      simp [h1, h2, h3]
    · have h3 : ¬ i - lo < n := by omega
      simp only [h1, h2, h3, decide_true, decide_false, Bool.and_false, Bool.not_false, Bool.false_and, Bool.or_false, and_false, if_false, Bool.true_and]
      by_cases h4 : i < 32
      · simp [h4]
      · rw [bit_high hw (by omega)]
        simp
  · simp only [h1, decide_false, Bool.false_and, Bool.not_false, Bool.or_false, false_and, if_false, Bool.and_true]
    have h4 : i < 32 := by omega
    simp [h4]
theorem putv_lt (w lo n v : Nat) (hw : w < 4294967296) (h : lo + n ≤ 32) : putv w lo n v < 4294967296 := by
  unfold putv
  have h1 : w &&& (4294967295 - (2 ^ n - 1) * 2 ^ lo) < 2 ^ 32 := Nat.lt_of_le_of_lt Nat.and_le_left hw
  exact Nat.or_lt_two_pow h1 (low_lt lo n v h)
theorem shl32 (x : Nat) (lo : Int) (a : 0 ≤ lo) (b : lo ≤ 31) (h : x * 2 ^ lo.toNat < 2 ^ 32) : shl .u32 (x : Int) lo = ((x * 2 ^ lo.toNat : Nat) : Int) := by
  unfold shl
  rw [show IntKind.u32.bits = 32 from rfl, Nat.min_eq_left (by omega), u32w, pow_cast]
  have e : ((x : Int) * ((2 ^ lo.toNat : Nat) : Int)) = ((x * 2 ^ lo.toNat : Nat) : Int) := by simp
  rw [e]
  omega
theorem put_eq (w v : Nat) (lo n : Int) (hw : w < 4294967296) (hv : v < 4294967296) (h0 : -9223372036854775808 ≤ lo) (h1 : lo < 9223372036854775808) : bits_Put.f w lo n v = some (if Ok lo n then ((putv w lo.toNat n.toNat v : Nat) : Int) else w) := by
  unfold bits_Put.f
  rw [within_eq lo n h0 h1]
  simp only [Option.bind_some]
  by_cases h : Ok lo n
  · rw [if_pos (by simpa using h), if_pos h]
    obtain ⟨a, b, c, d⟩ := h
    have hln : lo.toNat + n.toNat ≤ 32 := by omega
    rw [mask_eq n c (by omega)]
    simp only [Option.bind_some]
    rw [if_pos a, Go.u32_and_nat _ _ hv (lt_pow32 (by omega)), and_mask]
    have m1 := mask_lt lo.toNat n.toNat hln
    have m2 := low_lt lo.toNat n.toNat v hln
    rw [shl32 _ lo a b m1, shl32 _ lo a b m2, Go.u32_andNot_nat _ _ hw (by omega)]
    have h3 : w &&& (4294967295 - (2 ^ n.toNat - 1) * 2 ^ lo.toNat) < 4294967296 := Nat.lt_of_le_of_lt Nat.and_le_left hw
    rw [Go.u32_or_nat _ _ h3 (by omega)]
    rfl
  · rw [if_neg (by simpa using h), if_neg h]
theorem ref_put_eq (w v : Nat) (lo n : Int) (hw : w < 4294967296) (hv : v < 4294967296) (h0 : -9223372036854775808 ≤ lo) (h1 : lo < 9223372036854775808) : brazierref1_Put.f w lo n v = some (if Ok lo n then ((putv w lo.toNat n.toNat v : Nat) : Int) else w) := by
  unfold brazierref1_Put.f
  by_cases h : Ok lo n
  · rw [if_pos h]
    obtain ⟨a, b, c, d⟩ := h
    have hln : lo.toNat + n.toNat ≤ 32 := by omega
    have hl : IntKind.u64.wrap lo = lo := by rw [u64w]; omega
    have hvv : IntKind.u64.wrap (v : Int) = v := by rw [u64w]; omega
    have hs : wrap64 (32 - lo) = 32 - lo := by unfold wrap64; omega
    rw [if_neg (by omega), if_neg (by omega), if_neg (by omega), hs, if_neg (by omega), mask64_eq n c (by omega), hl, hvv]
    simp only [Option.bind_some]
    rw [if_pos a]
    refine congrArg some ?_
    have m1 := mask_lt lo.toNat n.toNat hln
    have m2 := low_lt lo.toNat n.toNat v hln
    have hv64 : v * 2 ^ lo.toNat < 2 ^ 64 := by
      have p1 : v * 2 ^ lo.toNat < 2 ^ 32 * 2 ^ lo.toNat := Nat.mul_lt_mul_of_pos_right (by omega) (Nat.two_pow_pos _)
      rw [← Nat.pow_add] at p1
      exact Nat.lt_of_lt_of_le p1 (Nat.pow_le_pow_right (by omega) (by omega))
    have s64 : ∀ x : Nat, x * 2 ^ lo.toNat < 2 ^ 64 → shl .u64 (x : Int) lo = ((x * 2 ^ lo.toNat : Nat) : Int) := by
      intro x hx
      unfold shl
      rw [show IntKind.u64.bits = 64 from rfl, Nat.min_eq_left (by omega), u64w, pow_cast]
      have e : ((x : Int) * ((2 ^ lo.toNat : Nat) : Int)) = ((x * 2 ^ lo.toNat : Nat) : Int) := by simp
      rw [e]
      omega
    rw [s64 _ (by omega), s64 v hv64]
    have e1 : (((2 ^ n.toNat - 1) * 2 ^ lo.toNat : Nat) : Int) % 4294967296 = (((2 ^ n.toNat - 1) * 2 ^ lo.toNat : Nat) : Int) := by omega
    have e2 : ((v * 2 ^ lo.toNat : Nat) : Int) % 4294967296 = ((v * 2 ^ lo.toNat % 4294967296 : Nat) : Int) := by omega
    have h3 : w &&& (4294967295 - (2 ^ n.toNat - 1) * 2 ^ lo.toNat) < 4294967296 := Nat.lt_of_le_of_lt Nat.and_le_left hw
    have h4 : v * 2 ^ lo.toNat % 4294967296 < 4294967296 := by omega
    have h5 : v * 2 ^ lo.toNat % 4294967296 &&& (2 ^ n.toNat - 1) * 2 ^ lo.toNat < 4294967296 := Nat.lt_of_le_of_lt Nat.and_le_left h4
    rw [e1, e2, Go.u32_andNot_nat _ _ hw (by omega), Go.u32_and_nat _ _ h4 (by omega), Go.u32_or_nat _ _ h3 h5]
    unfold putv
    have e3 : v * 2 ^ lo.toNat % 4294967296 &&& (2 ^ n.toNat - 1) * 2 ^ lo.toNat = v % 2 ^ n.toNat * 2 ^ lo.toNat := by
      apply Nat.eq_of_testBit_eq
      intro i
      rw [Nat.testBit_and, show (4294967296 : Nat) = 2 ^ 32 from rfl, Nat.testBit_mod_two_pow, mul_bit, mul_bit, mul_bit, Nat.testBit_two_pow_sub_one, Nat.testBit_mod_two_pow]
      by_cases q1 : lo.toNat ≤ i
      · by_cases q2 : i - lo.toNat < n.toNat
        · have q3 : i < 32 := by omega
          simp [q1, q2, q3]
        · simp [q2]
      · simp [q1]
    rw [e3]
  · rw [if_neg h]
    by_cases a : lo < 0
    · rw [if_pos a]
    rw [if_neg a]
    by_cases b : lo > 31
    · rw [if_pos b]
    rw [if_neg b]
    by_cases c : n < 1
    · rw [if_pos c]
    rw [if_neg c]
    have hs : wrap64 (32 - lo) = 32 - lo := by unfold wrap64; omega
    rw [hs, if_pos]
    unfold Ok at h
    omega
end Go.Proofs.YtkfkonchbkiakaaDoor.P1
namespace Go.Proofs.YtkfkonchbkiakaaDoor.P1
set_option linter.unusedVariables false
set_option linter.unusedSimpArgs false
open Go.RowKit Go.Proofs.YtkfkonchbkiakaaDoorW.PrintWords Go.Proofs.YtkfkonchbkiakaaDoorW.PrintLast Go.Proofs.YtkfkonchbkiakaaDoorW.PrintMore Go.Proofs.YtkfkonchbkiakaaDoor.Q Go.Proofs.YtkfkonchbkiakaaDoor.X
/-- The lowest n bits as a signed number. -/
def sx (v : Int) (n : Nat) : Int := if v % 2 ^ n < 2 ^ (n - 1) then v % 2 ^ n else v % 2 ^ n - 2 ^ n
theorem sext_eq (v n : Int) (h0 : 0 ≤ v) (h1 : v < 18446744073709551616) (n0 : -9223372036854775808 ≤ n) (n1 : n < 9223372036854775808) :
    bits_Sext.f v n = some (if 1 ≤ n ∧ n ≤ 64 then sx v n.toNat else wrap64 v) := by
  unfold bits_Sext.f
  by_cases a : n < 1
  · rw [if_pos a, if_neg (by omega)]
  rw [if_neg a]
  by_cases b : n > 64
  · rw [if_pos b, if_neg (by omega)]
  have hs : wrap64 (64 - n) = 64 - n := by unfold wrap64; omega
  rw [if_neg b, hs, if_pos (by omega), if_pos (by omega)]
  refine congrArg some ?_
  obtain ⟨m, rfl⟩ : ∃ m : Nat, n = m := ⟨n.toNat, by omega⟩
  obtain ⟨c, hc⟩ : ∃ c : Nat, m + c = 64 := ⟨64 - m, by omega⟩
  have e1 : (64 - (m : Int)).toNat = c := by omega
  unfold shr shl sx
  rw [show IntKind.i64.bits = 64 from rfl, e1, Nat.min_eq_left (by omega), i64w, Int.toNat_natCast]
  have hpp : (2 : Int) ^ m * 2 ^ c = 18446744073709551616 := by rw [← Int.pow_add, hc]; rfl
  have hm1 : (2 : Int) ^ m = 2 * 2 ^ (m - 1) := by
    obtain ⟨k, rfl⟩ : ∃ k, m = k + 1 := ⟨m - 1, by omega⟩
    rw [Int.pow_succ, Nat.add_sub_cancel]; omega
  have hp := two_pow_pos m
  have hc0 := two_pow_pos c
  have hdm := Int.mul_ediv_add_emod v (2 ^ m)
  have x0 := Int.emod_nonneg v (show (2 : Int) ^ m ≠ 0 by omega)
  have x1 := Int.emod_lt_of_pos v hp
  generalize hx : v % 2 ^ m = x at *
  generalize hq : v / 2 ^ m = q at *
  have hv : v * 2 ^ c = 18446744073709551616 * q + x * 2 ^ c := by
    rw [← hdm, Int.add_mul, Int.mul_comm (2 ^ m) q, Int.mul_assoc, hpp, Int.mul_comm q]
  obtain ⟨t, ht⟩ : ∃ t, wrap64 v = v + 18446744073709551616 * t := by
    refine ⟨-((v + 9223372036854775808) / 18446744073709551616), ?_⟩
    unfold wrap64; omega
  have hw : wrap64 v * 2 ^ c = 18446744073709551616 * (q + t * 2 ^ c) + x * 2 ^ c := by
    rw [ht, Int.add_mul, hv, Int.mul_add, Int.mul_assoc]; omega
  rw [hw]
  by_cases hlt : x < 2 ^ (m - 1)
  · rw [if_pos hlt]
    have h2 : x * 2 ^ c < 2 ^ (m - 1) * 2 ^ c := Int.mul_lt_mul_of_pos_right hlt hc0
    have h3 : (2 : Int) ^ (m - 1) * 2 ^ c = 9223372036854775808 := by
      rw [hm1, Int.mul_assoc] at hpp; omega
    have h4 : 0 ≤ x * 2 ^ c := Int.mul_nonneg x0 (by omega)
    have e : wrap64 (18446744073709551616 * (q + t * 2 ^ c) + x * 2 ^ c) = x * 2 ^ c := by unfold wrap64; omega
    rw [e, Int.mul_ediv_cancel _ (by omega)]
  · rw [if_neg hlt]
    have h2 : 2 ^ (m - 1) * 2 ^ c ≤ x * 2 ^ c := Int.mul_le_mul_of_nonneg_right (by omega) (by omega)
    have h3 : (2 : Int) ^ (m - 1) * 2 ^ c = 9223372036854775808 := by
      rw [hm1, Int.mul_assoc] at hpp; omega
    have h4 : x * 2 ^ c < 2 ^ m * 2 ^ c := Int.mul_lt_mul_of_pos_right x1 hc0
    have e : wrap64 (18446744073709551616 * (q + t * 2 ^ c) + x * 2 ^ c) = (x - 2 ^ m) * 2 ^ c := by
      rw [Int.sub_mul, hpp]
      unfold wrap64; omega
    rw [e, Int.mul_ediv_cancel _ (by omega)]
theorem ref_sext_eq (v n : Int) (h0 : 0 ≤ v) (h1 : v < 18446744073709551616) (n0 : -9223372036854775808 ≤ n) (n1 : n < 9223372036854775808) (k : Nat) :
    brazierref1_Sext.f (k + 1) v n = some (if 1 ≤ n ∧ n ≤ 64 then sx v n.toNat else wrap64 v) := by
  unfold brazierref1_Sext.f
  by_cases a : n < 1
  · rw [if_pos a, if_neg (by omega)]
    simp only [brazierref1_Sext.j0, if_true]
  rw [if_neg a]
  by_cases b : n > 64
  · rw [decide_eq_true b, if_neg (by omega)]
    simp only [brazierref1_Sext.j0, if_true]
  rw [decide_eq_false b, if_pos (by omega)]
  simp only [brazierref1_Sext.j0, Bool.false_eq_true, if_false]
  rw [mask64_eq n (by omega) (by omega)]
  simp only [Option.bind_some]
  have hs : wrap64 (n - 1) = n - 1 := by unfold wrap64; omega
  have hu : IntKind.u64.wrap (n - 1) = n - 1 := by rw [u64w]; omega
  rw [hs, hu, if_pos (by omega)]
  obtain ⟨m, rfl⟩ : ∃ m : Nat, n = m := ⟨n.toNat, by omega⟩
  obtain ⟨vn, rfl⟩ := Int.eq_ofNat_of_zero_le h0
  simp only [Int.toNat_natCast]
  have hml := lt_pow64 (n := m) (by omega)
  rw [Go.u64_and_nat _ _ (by omega) hml, and_mask]
  have hp := Nat.two_pow_pos m
  have hm1 : 2 ^ m = 2 * 2 ^ (m - 1) := by
    obtain ⟨k, rfl⟩ : ∃ k, m = k + 1 := ⟨m - 1, by omega⟩
    rw [Nat.pow_succ, Nat.add_sub_cancel]; omega
  have hle : 2 ^ m ≤ 2 ^ 64 := Nat.pow_le_pow_right (by omega) (by omega)
  have x1 := Nat.mod_lt vn hp
  have hsx : sx (vn : Int) m = if vn % 2 ^ m < 2 ^ (m - 1) then ((vn % 2 ^ m : Nat) : Int) else ((vn % 2 ^ m : Nat) : Int) - ((2 ^ m : Nat) : Int) := by
    unfold sx
    rw [pow_cast, pow_cast]
    have e : ((vn : Int) % ((2 ^ m : Nat) : Int)) = ((vn % 2 ^ m : Nat) : Int) := by simp
    rw [e]
    by_cases h : vn % 2 ^ m < 2 ^ (m - 1)
    · rw [if_pos h, if_pos (by omega)]
    · rw [if_neg h, if_neg (by omega)]
  rw [hsx]
  have hshr : shr .u64 ((vn % 2 ^ m : Nat) : Int) ((m : Int) - 1) = ((vn % 2 ^ m / 2 ^ (m - 1) : Nat) : Int) := by
    unfold shr
    have : ((m : Int) - 1).toNat = m - 1 := by omega
    rw [show IntKind.u64.bits = 64 from rfl, this, Nat.min_eq_left (by omega), pow_cast]
    simp
  rw [hshr]
  by_cases h : vn % 2 ^ m < 2 ^ (m - 1)
  · rw [if_pos h, if_neg (by rw [Nat.div_eq_of_lt h]; omega)]
    refine congrArg some ?_
    unfold wrap64; omega
  · have hd : vn % 2 ^ m / 2 ^ (m - 1) = 1 := by
      apply Nat.div_eq_of_lt_le <;> omega
    rw [if_neg h, if_pos (by rw [hd]; rfl)]
    refine congrArg some ?_
    have hx : Go.bits .xor .u64 18446744073709551615 (((2 ^ m - 1 : Nat)) : Int) = ((18446744073709551615 - (2 ^ m - 1) : Nat) : Int) := by
      have h1 := Go.u64_xor_nat 18446744073709551615 (2 ^ m - 1) (by omega) hml
      have e : (18446744073709551615 ^^^ (2 ^ m - 1) : Nat) = 18446744073709551615 - (2 ^ m - 1) := by
        apply Nat.eq_of_testBit_eq
        intro i
        have hs := Nat.testBit_two_pow_sub_succ (x := 2 ^ m - 1) (n := 64) (by omega) i
        rw [show 2 ^ 64 - (2 ^ m - 1 + 1) = 18446744073709551615 - (2 ^ m - 1) from by omega] at hs
        rw [hs, Nat.testBit_xor, show (18446744073709551615 : Nat) = 2 ^ 64 - 1 from rfl, Nat.testBit_two_pow_sub_one, Nat.testBit_two_pow_sub_one]
        by_cases q1 : i < m
        · have q2 : i < 64 := by omega
          simp [q1, q2]
        · by_cases q2 : i < 64
          · simp [q1, q2]
          · simp [q1, q2]
      rw [e] at h1
      exact h1
    have hor : vn % 2 ^ m ||| (18446744073709551615 - (2 ^ m - 1)) = vn % 2 ^ m + (18446744073709551616 - 2 ^ m) := by
      obtain ⟨c, hc⟩ : ∃ c : Nat, m + c = 64 := ⟨64 - m, by omega⟩
      have h2 := Nat.two_pow_add_eq_or_of_lt x1 (2 ^ c - 1)
      have h3 : 2 ^ m * (2 ^ c - 1) = 18446744073709551616 - 2 ^ m := by
        rw [Nat.mul_sub, ← Nat.pow_add, hc, Nat.mul_one]
      rw [h3] at h2
      rw [show 18446744073709551615 - (2 ^ m - 1) = 18446744073709551616 - 2 ^ m from by omega, Nat.or_comm, ← h2]
      omega
    rw [hx, Go.u64_or_nat _ _ (by omega) (by omega), hor]
    unfold wrap64; omega
end Go.Proofs.YtkfkonchbkiakaaDoor.P1
