/- Parts of the proof, one behind the other. -/
import Derived.Test.YtolohpkjpgbahaazSemPartsRLG
section
/- RL: what bits of words are, as bit vectors. -/
namespace Go.Proofs.YtolohpkjpgbahaaRL
open Go
set_option linter.unusedVariables false
theorem wrap_u64 (n : Int) : IntKind.u64.wrap n = n % 18446744073709551616 := by
  unfold IntKind.wrap
  simp [IntKind.signed, IntKind.bits]
theorem wrap_i64 (n : Int) : IntKind.i64.wrap n = (n + 9223372036854775808) % 18446744073709551616 - 9223372036854775808 := by
  unfold IntKind.wrap
  simp [IntKind.signed, IntKind.bits]
  split <;> omega
end Go.Proofs.YtolohpkjpgbahaaRL
end
section
/- Fields of words, as numbers: masks, shifts, ors of what has no bit in common. -/
namespace Go.Proofs.Ytolohpkjpgbahaa.isa
open Go Go.Proofs Go.Proofs.YtolohpkjpgbahaaRL
set_option linter.unusedVariables false
set_option linter.unusedSimpArgs false
theorem wrap_i64_in {n : Int} (h0 : -9223372036854775808 ≤ n) (h1 : n < 9223372036854775808) : IntKind.i64.wrap n = n := by rw [wrap_i64]; omega
theorem and_mask (a lo n : Nat) : a &&& ((2 ^ n - 1) * 2 ^ lo) = a / 2 ^ lo % 2 ^ n * 2 ^ lo := by
  apply Nat.eq_of_testBit_eq
  intro i
  rw [Nat.testBit_and]
  rcases Nat.lt_or_ge i lo with h | h
  · rw [Nat.testBit_mul_two_pow, Nat.testBit_mul_two_pow]
    simp [Nat.not_le.2 h]
  · rw [Nat.testBit_mul_two_pow, Nat.testBit_mul_two_pow, Nat.testBit_two_pow_sub_one, Nat.testBit_mod_two_pow, Nat.testBit_div_two_pow]
    simp only [h, decide_true, Bool.true_and]
    rw [show i - lo + lo = i by omega, Bool.and_comm]
theorem or_apart (a lo n x : Nat) (hx : x < 2 ^ n) (ha : a / 2 ^ lo % 2 ^ n = 0) : a ||| (x * 2 ^ lo) = a + x * 2 ^ lo := by
  have p1 : 0 < 2 ^ lo := Nat.two_pow_pos lo
  have p2 : 2 ^ (n + lo) = 2 ^ n * 2 ^ lo := Nat.pow_add ..
  have h0 : a % 2 ^ lo < 2 ^ lo := Nat.mod_lt _ p1
  have e1 : a = 2 ^ (n + lo) * (a / 2 ^ (n + lo)) + a % 2 ^ lo := by
    have h1 := Nat.div_add_mod a (2 ^ lo)
    have h2 := Nat.div_add_mod (a / 2 ^ lo) (2 ^ n)
    rw [ha, Nat.add_zero] at h2
    rw [Nat.div_div_eq_div_mul, Nat.mul_comm (2 ^ lo) (2 ^ n), ← p2] at h2
    rw [← h2] at h1
    have h3 : ∀ X, 2 ^ (n + lo) * X = 2 ^ lo * (2 ^ n * X) := fun X => by rw [p2, Nat.mul_comm (2 ^ n) (2 ^ lo), Nat.mul_assoc]
    rw [h3]
    exact h1.symm
  have e2 : a = 2 ^ (n + lo) * (a / 2 ^ (n + lo)) ||| a % 2 ^ lo := by
    rw [← Nat.two_pow_add_eq_or_of_lt (Nat.lt_of_lt_of_le h0 (Nat.pow_le_pow_right (by omega) (by omega)))]
    exact e1
  have e3 : a % 2 ^ lo ||| x * 2 ^ lo = a % 2 ^ lo + x * 2 ^ lo := by
    rw [Nat.or_comm, Nat.mul_comm, ← Nat.two_pow_add_eq_or_of_lt h0, Nat.add_comm]
  have h3 : a % 2 ^ lo + x * 2 ^ lo < 2 ^ (n + lo) := by
    rw [p2]
    have : (x + 1) * 2 ^ lo ≤ 2 ^ n * 2 ^ lo := Nat.mul_le_mul_right _ hx
    rw [Nat.add_mul, Nat.one_mul] at this
    omega
  calc a ||| x * 2 ^ lo = (2 ^ (n + lo) * (a / 2 ^ (n + lo)) ||| a % 2 ^ lo) ||| x * 2 ^ lo := by rw [← e2]
    _ = 2 ^ (n + lo) * (a / 2 ^ (n + lo)) ||| (a % 2 ^ lo + x * 2 ^ lo) := by rw [Nat.or_assoc, e3]
    _ = 2 ^ (n + lo) * (a / 2 ^ (n + lo)) + (a % 2 ^ lo + x * 2 ^ lo) := (Nat.two_pow_add_eq_or_of_lt h3 _).symm
    _ = a + x * 2 ^ lo := by rw [← Nat.add_assoc, ← e1]
theorem nat_and (k : IntKind) (a b : Nat) (hk : k.signed = false) (ha : a < 2 ^ k.bits) (hb : b < 2 ^ k.bits) : Go.bits .and k (a : Int) (b : Int) = ((a &&& b : Nat) : Int) := by
  have e1 : BitVec.ofInt k.bits (a : Int) = BitVec.ofNat k.bits a := by simp
  have e2 : BitVec.ofInt k.bits (b : Int) = BitVec.ofNat k.bits b := by simp
  have hw : ∀ n : Nat, n < 2 ^ k.bits → k.wrap (n : Int) = (n : Int) := by
    intro n hn
    unfold IntKind.wrap
    simp only [hk, Bool.false_and, Bool.false_eq_true, if_false]
    exact_mod_cast Nat.mod_eq_of_lt hn
  unfold Go.bits
  simp only [e1, e2, BitVec.toNat_and, BitVec.toNat_ofNat, Nat.mod_eq_of_lt ha, Nat.mod_eq_of_lt hb]
  exact hw _ (Nat.lt_of_le_of_lt Nat.and_le_left ha)
theorem nat_or (k : IntKind) (a b : Nat) (hk : k.signed = false) (ha : a < 2 ^ k.bits) (hb : b < 2 ^ k.bits) : Go.bits .or k (a : Int) (b : Int) = ((a ||| b : Nat) : Int) := by
  have e1 : BitVec.ofInt k.bits (a : Int) = BitVec.ofNat k.bits a := by simp
  have e2 : BitVec.ofInt k.bits (b : Int) = BitVec.ofNat k.bits b := by simp
  have hw : ∀ n : Nat, n < 2 ^ k.bits → k.wrap (n : Int) = (n : Int) := by
    intro n hn
    unfold IntKind.wrap
    simp only [hk, Bool.false_and, Bool.false_eq_true, if_false]
    exact_mod_cast Nat.mod_eq_of_lt hn
  unfold Go.bits
  simp only [e1, e2, BitVec.toNat_or, BitVec.toNat_ofNat, Nat.mod_eq_of_lt ha, Nat.mod_eq_of_lt hb]
  exact hw _ (Nat.or_lt_two_pow ha hb)
theorem nat_andNot (k : IntKind) (a lo n : Nat) (hk : k.signed = false) (ha : a < 2 ^ k.bits) (hn : n + lo ≤ k.bits) : Go.bits .andNot k (a : Int) (((2 ^ n - 1) * 2 ^ lo : Nat) : Int) = ((a - a / 2 ^ lo % 2 ^ n * 2 ^ lo : Nat) : Int) := by
  have hm : (2 ^ n - 1) * 2 ^ lo < 2 ^ k.bits := by
    have h1 : (2 ^ n - 1) * 2 ^ lo < 2 ^ n * 2 ^ lo := Nat.mul_lt_mul_of_pos_right (by have := Nat.two_pow_pos n; omega) (Nat.two_pow_pos lo)
    rw [← Nat.pow_add] at h1
    exact Nat.lt_of_lt_of_le h1 (Nat.pow_le_pow_right (by omega) hn)
  have e1 : BitVec.ofInt k.bits (a : Int) = BitVec.ofNat k.bits a := by simp
  have e2 : BitVec.ofInt k.bits (((2 ^ n - 1) * 2 ^ lo : Nat) : Int) = BitVec.ofNat k.bits ((2 ^ n - 1) * 2 ^ lo) := by rw [BitVec.ofInt_natCast]
  have hw : ∀ n : Nat, n < 2 ^ k.bits → k.wrap (n : Int) = (n : Int) := by
    intro n hn
    unfold IntKind.wrap
    simp only [hk, Bool.false_and, Bool.false_eq_true, if_false]
    exact_mod_cast Nat.mod_eq_of_lt hn
  have hle : a / 2 ^ lo % 2 ^ n * 2 ^ lo ≤ a := Nat.le_trans (Nat.mul_le_mul_right _ (Nat.mod_le _ _)) (Nat.div_mul_le_self _ _)
  let z := a - a / 2 ^ lo % 2 ^ n * 2 ^ lo
  have hz0 : z / 2 ^ lo % 2 ^ n = 0 := by
    have h1 : z = (a / 2 ^ lo - a / 2 ^ lo % 2 ^ n) * 2 ^ lo + a % 2 ^ lo := by
      have h2 := Nat.div_add_mod a (2 ^ lo)
      have h3 : a / 2 ^ lo % 2 ^ n ≤ a / 2 ^ lo := Nat.mod_le _ _
      show a - a / 2 ^ lo % 2 ^ n * 2 ^ lo = _
      rw [Nat.sub_mul]
      rw [Nat.mul_comm (2 ^ lo)] at h2
      have h4 : a / 2 ^ lo % 2 ^ n * 2 ^ lo ≤ a / 2 ^ lo * 2 ^ lo := Nat.mul_le_mul_right _ h3
      omega
    rw [h1, Nat.mul_comm, Nat.mul_add_div (Nat.two_pow_pos lo), Nat.div_eq_of_lt (Nat.mod_lt _ (Nat.two_pow_pos lo)), Nat.add_zero]
    have h5 := Nat.div_add_mod (a / 2 ^ lo) (2 ^ n)
    have h6 : a / 2 ^ lo - a / 2 ^ lo % 2 ^ n = 2 ^ n * (a / 2 ^ lo / 2 ^ n) := by omega
    rw [h6, Nat.mul_mod_right]
  have hzy : z ||| (a / 2 ^ lo % 2 ^ n * 2 ^ lo) = a := by
    rw [or_apart z lo n _ (Nat.mod_lt _ (Nat.two_pow_pos n)) hz0]
    show a - _ + _ = a
    omega
  have hzl : z < 2 ^ k.bits := Nat.lt_of_le_of_lt (Nat.sub_le _ _) ha
  have hyl : a / 2 ^ lo % 2 ^ n * 2 ^ lo < 2 ^ k.bits := Nat.lt_of_le_of_lt hle ha
  have hzm : z &&& ((2 ^ n - 1) * 2 ^ lo) = 0 := by rw [and_mask, hz0, Nat.zero_mul]
  have hb : BitVec.ofNat k.bits a &&& ~~~ BitVec.ofNat k.bits ((2 ^ n - 1) * 2 ^ lo) = BitVec.ofNat k.bits z := by
    apply BitVec.eq_of_getLsbD_eq
    intro i hi
    have t1 : a.testBit i = (z.testBit i || (a / 2 ^ lo % 2 ^ n * 2 ^ lo).testBit i) := by rw [← Nat.testBit_or, hzy]
    have t2 : (z.testBit i && ((2 ^ n - 1) * 2 ^ lo).testBit i) = false := by rw [← Nat.testBit_and, hzm, Nat.zero_testBit]
    have t3 : (a / 2 ^ lo % 2 ^ n * 2 ^ lo).testBit i = (a.testBit i && ((2 ^ n - 1) * 2 ^ lo).testBit i) := by rw [← Nat.testBit_and, and_mask]
    simp only [BitVec.getLsbD_and, BitVec.getLsbD_not, BitVec.getLsbD_ofNat, hi, decide_true, Bool.true_and]
    rw [t3] at t1
    revert t1 t2
    cases a.testBit i <;> cases z.testBit i <;> cases ((2 ^ n - 1) * 2 ^ lo).testBit i <;> simp
  unfold Go.bits
  simp only [e1, e2]
  rw [hb, BitVec.toNat_ofNat, Nat.mod_eq_of_lt hzl]
  exact hw _ hzl
end Go.Proofs.Ytolohpkjpgbahaa.isa
end
