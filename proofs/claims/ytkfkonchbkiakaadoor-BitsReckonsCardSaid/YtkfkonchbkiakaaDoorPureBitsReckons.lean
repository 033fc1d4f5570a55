/- BitsReckons: whatever the two numbers, the carry, the count and the kind: the law returns true and leaves its arguments as they were. No condition. -/
import Derived.Test.YtkfkonchbkiakaaDoorPBase
import Derived.Test.YtkfkonchbkiakaaDoorQx3
namespace Go.Proofs.YtkfkonchbkiakaaDoor.Pure
set_option linter.unusedVariables false
set_option linter.unusedSimpArgs false
open Go.RowKit Go.Proofs.YtkfkonchbkiakaaDoor.Q Go.Proofs.YtkfkonchbkiakaaDoorW.PrintWords Go.Proofs.YtkfkonchbkiakaaDoorW.PrintLast Go.Proofs.YtkfkonchbkiakaaDoorW.PrintMore Go.Proofs.YtkfkonchbkiakaaDoor.P1 Go.Proofs.YtkfkonchbkiakaaDoor.X

/-! Add -/
theorem xor_max (b : Int) (h0 : 0 ≤ b) (h1 : b < 18446744073709551616) : Go.bits .xor .u64 18446744073709551615 b = 18446744073709551615 - b := by
  rw [Go.u64_xor _ b (by omega) (by omega) h0 h1]
  have h := Nat.testBit_two_pow_sub_succ (x := b.toNat) (n := 64) (by omega)
  have e : ((18446744073709551615 : Int).toNat ^^^ b.toNat) = 18446744073709551615 - b.toNat := by
    apply Nat.eq_of_testBit_eq
    intro i
    have hi := h i
    rw [show (2 : Nat) ^ 64 - (b.toNat + 1) = 18446744073709551615 - b.toNat from by omega] at hi
    rw [hi, Nat.testBit_xor]
    have hm : ((18446744073709551615 : Int).toNat).testBit i = decide (i < 64) := by
      rw [show (18446744073709551615 : Int).toNat = 2 ^ 64 - 1 from rfl, Nat.testBit_two_pow_sub_one]
    rw [hm]
    by_cases hi64 : i < 64
    · simp [hi64]
    · have : b.toNat.testBit i = false := Nat.testBit_lt_two_pow (Nat.lt_of_lt_of_le (by omega : b.toNat < 2 ^ 64) (Nat.pow_le_pow_right (by omega) (by omega)))
      simp [hi64, this]
  rw [e]
  omega

/-- The sign bit of a word. -/
def neg (x : Int) : Bool := decide (wrap64 x < 0)
theorem neg_eq (x : Int) (h0 : 0 ≤ x) (h1 : x < 18446744073709551616) : neg x = decide (9223372036854775808 ≤ x) := by
  unfold neg wrap64
  congr 1
  apply propext
  omega
theorem neg_bit (n : Nat) (h1 : n < 18446744073709551616) : n.testBit 63 = decide (9223372036854775808 ≤ n) := by
  rw [Nat.testBit_eq_decide_div_mod_eq]
  congr 1
  apply propext
  simp only [Nat.reducePow]
  omega
theorem neg_test (x : Int) (h0 : 0 ≤ x) (h1 : x < 18446744073709551616) : neg x = x.toNat.testBit 63 := by
  rw [neg_eq x h0 h1, neg_bit _ (by omega)]
  congr 1
  apply propext
  omega
theorem neg_and_xor (a b s : Int) (a0 : 0 ≤ a) (a1 : a < 18446744073709551616) (b0 : 0 ≤ b) (b1 : b < 18446744073709551616) (s0 : 0 ≤ s) (s1 : s < 18446744073709551616) :
    decide (wrap64 (Go.bits .and .u64 (Go.bits .xor .u64 a s) (Go.bits .xor .u64 b s)) < 0) = ((neg a != neg s) && (neg b != neg s)) := by
  rw [Go.u64_xor a s a0 a1 s0 s1, Go.u64_xor b s b0 b1 s0 s1]
  have x1 : a.toNat ^^^ s.toNat < 2 ^ 64 := Nat.xor_lt_two_pow (by omega) (by omega)
  have x2 : b.toNat ^^^ s.toNat < 2 ^ 64 := Nat.xor_lt_two_pow (by omega) (by omega)
  rw [Go.u64_and_nat _ _ (by omega) (by omega)]
  have x3 : (a.toNat ^^^ s.toNat) &&& (b.toNat ^^^ s.toNat) < 2 ^ 64 := Nat.and_lt_two_pow _ x2
  show neg _ = _
  rw [neg_test _ (by omega) (by omega), neg_test a a0 a1, neg_test b b0 b1, neg_test s s0 s1]
  simp only [Int.toNat_natCast, Nat.testBit_and, Nat.testBit_xor]

/-- The sum and the flags. -/
def addr (a b : Int) (i : Bool) : Int × Bool × Bool × Bool × Bool :=
  let s := (a + b + if i then 1 else 0) % 18446744073709551616
  (s, neg s, s == 0, decide (18446744073709551616 ≤ a + b + if i then 1 else 0), (neg a != neg s) && (neg b != neg s))

theorem ref_add (a b : Int) (i : Bool) (a0 : 0 ≤ a) (a1 : a < 18446744073709551616) (b0 : 0 ≤ b) (b1 : b < 18446744073709551616) : brazierref1_Add.f a b i = some (addr a b i) := by
  unfold brazierref1_Add.f
  rw [xor_max b b0 b1]
  cases i
  · simp only [Bool.false_eq_true, if_false, addr, Int.add_zero, u64w, Int.emod_emod]
    generalize hs : (a + b) % 18446744073709551616 = s
    repeat' split
    all_goals
      refine congrArg some (Prod.ext rfl (Prod.ext rfl (Prod.ext rfl (Prod.ext ?_ ?_))))
      · apply Bool.eq_iff_iff.mpr
        simp only [decide_eq_true_eq, Bool.false_eq_true, false_iff, true_iff]
        omega
      · apply Bool.eq_iff_iff.mpr
        simp only [neg, Bool.and_eq_true, bne_iff_ne, ne_eq, decide_eq_decide, decide_eq_true_eq, Bool.false_eq_true, false_iff, true_iff]
        omega
  · have e : ((a + b) % 18446744073709551616 + 1) % 18446744073709551616 = (a + b + 1) % 18446744073709551616 := by omega
    simp only [if_true, addr, u64w, e]
    generalize hs : (a + b + 1) % 18446744073709551616 = s
    repeat' split
    all_goals
      refine congrArg some (Prod.ext rfl (Prod.ext rfl (Prod.ext rfl (Prod.ext ?_ ?_))))
      · apply Bool.eq_iff_iff.mpr
        simp only [decide_eq_true_eq, Bool.false_eq_true, false_iff, true_iff]
        omega
      · apply Bool.eq_iff_iff.mpr
        simp only [neg, Bool.and_eq_true, bne_iff_ne, ne_eq, decide_eq_decide, decide_eq_true_eq, Bool.false_eq_true, false_iff, true_iff]
        omega
theorem add_eq (a b : Int) (i : Bool) (a0 : 0 ≤ a) (a1 : a < 18446744073709551616) (b0 : 0 ≤ b) (b1 : b < 18446744073709551616) : bits_Add.f a b i = some (addr a b i) := by
  unfold bits_Add.f
  rw [neg_and_xor a b _ a0 a1 b0 b1 (by rw [u64w]; omega) (by rw [u64w]; omega), neg_and_xor a b _ a0 a1 b0 b1 (by rw [u64w]; omega) (by rw [u64w]; omega)]
  cases i
  · simp only [Bool.false_eq_true, if_false, addr, Int.add_zero, u64w]
    congr 1
    refine Prod.ext rfl (Prod.ext rfl (Prod.ext rfl (Prod.ext ?_ rfl)))
    show decide _ = decide _
    congr 1
    apply propext
    omega
  · simp only [if_true, addr, u64w]
    have e : ((a + b) % 18446744073709551616 + 1) % 18446744073709551616 = (a + b + 1) % 18446744073709551616 := by omega
    rw [e]
    by_cases h : (a + b) % 18446744073709551616 < a
    · rw [if_pos h]
      congr 1
      refine Prod.ext rfl (Prod.ext rfl (Prod.ext rfl (Prod.ext ?_ rfl)))
      show true = decide _
      rw [decide_eq_true (by omega)]
    · rw [if_neg h]
      congr 1
      refine Prod.ext rfl (Prod.ext rfl (Prod.ext rfl (Prod.ext ?_ rfl)))
      show ((a + b + 1) % 18446744073709551616 == 0) = decide _
      rw [Bool.eq_iff_iff]
      simp only [beq_iff_eq, decide_eq_true_eq]
      omega

/-! Shift -/
theorem sh_step (a : Int) (n : Nat) (kind : Int) : sh (sh a 1 kind) n kind = sh a (n + 1) kind := by rw [sh_add, Nat.add_comm]
theorem sh_zero (a : Int) (kind : Int) (h0 : 0 ≤ a) (h1 : a < 18446744073709551616) : sh a 0 kind = a := by
  unfold sh
  simp only [Int.pow_zero, Int.mul_one, Int.ediv_one]
  split
  · omega
  · split
    · rfl
    · split
      · unfold wrap64; omega
      · rfl
/-- One move to the right that keeps the sign. -/
theorem asr_one (a : Int) (h0 : 0 ≤ a) (h1 : a < 18446744073709551616) : Go.bits .or .u64 (a / 2) (Go.bits .and .u64 a 9223372036854775808) = (wrap64 a / 2) % 18446744073709551616 := by
  rw [Go.u64_and a _ h0 h1 (by omega) (by omega)]
  have hand : (a.toNat &&& (9223372036854775808 : Int).toNat) = if 9223372036854775808 ≤ a then 9223372036854775808 else 0 := by
    apply Nat.eq_of_testBit_eq
    intro i
    rw [Nat.testBit_and, show (9223372036854775808 : Int).toNat = 2 ^ 63 from rfl, Nat.testBit_two_pow]
    by_cases hi : 63 = i
    · subst hi
      rw [neg_bit _ (by omega)]
      split
      · rw [show (9223372036854775808 : Nat) = 2 ^ 63 from rfl, Nat.testBit_two_pow]
        simp
        omega
      · simp
        omega
    · split
      · rw [show (9223372036854775808 : Nat) = 2 ^ 63 from rfl, Nat.testBit_two_pow]
        simp [hi]
      · simp [hi]
  rw [hand]
  have hor : ∀ x : Nat, x < 2 ^ 63 → x ||| 9223372036854775808 = x + 9223372036854775808 := by
    intro x hx
    have := Nat.two_pow_add_eq_or_of_lt hx 1
    simp only [Nat.reducePow, Nat.mul_one] at this
    rw [Nat.or_comm, ← this, Nat.add_comm]
  split
  · rw [Go.u64_or _ _ (by omega) (by omega) (by omega) (by omega), show ((9223372036854775808 : Nat) : Int).toNat = 9223372036854775808 from rfl, hor _ (by omega)]
    unfold wrap64
    omega
  · rw [Go.u64_or _ _ (by omega) (by omega) (by omega) (by omega)]
    simp only [Int.toNat_natCast, Nat.or_zero]
    unfold wrap64
    omega
theorem sh_one (a : Int) (kind : Int) (h0 : 0 ≤ a) (h1 : a < 18446744073709551616) :
    sh a 1 kind = if kind = 0 then IntKind.u64.wrap (a * 2) else if kind = 1 then a / 2 else if kind = 2 then Go.bits .or .u64 (a / 2) (Go.bits .and .u64 a 9223372036854775808) else a := by
  unfold sh
  rw [asr_one a h0 h1, u64w]
  simp only [Int.pow_one]
theorem ref_shift_l (kind : Int) (b : Int) (hb : b < 64) : ∀ (d : Nat) (k : Nat) (a i : Int), 0 ≤ a → a < 18446744073709551616 → 0 ≤ i → i ≤ b → (b - i).toNat = d → d < k → brazierref1_Shift.l0 k a b kind i = some (sh a d kind) := by
  intro d
  induction d with
  | zero =>
    intro k a i h0 h1 h2 h3 hd hk
    obtain ⟨k, rfl⟩ : ∃ m, k = m + 1 := ⟨k - 1, by omega⟩
    simp only [brazierref1_Shift.l0]
    rw [if_neg (by omega), sh_zero a kind h0 h1]
  | succ d ih =>
    intro k a i h0 h1 h2 h3 hd hk
    obtain ⟨k, rfl⟩ : ∃ m, k = m + 1 := ⟨k - 1, by omega⟩
    simp only [brazierref1_Shift.l0]
    have hw : IntKind.u64.wrap (i + 1) = i + 1 := by rw [u64w]; omega
    have hr := sh_range a 1 kind h0 h1
    have hs := ih k (sh a 1 kind) (i + 1) hr.1 hr.2 (by omega) (by omega) (by omega) (by omega)
    rw [sh_step] at hs
    rw [if_pos (by omega), hw]
    rw [sh_one a kind h0 h1] at hs
    split
    · rename_i h; rw [if_pos h] at hs; exact hs
    · rename_i h; rw [if_neg h] at hs
      split
      · rename_i h; rw [if_pos h] at hs; exact hs
      · rename_i h; rw [if_neg h] at hs
        split
        · rename_i h; rw [if_pos h] at hs; exact hs
        · rename_i h; rw [if_neg h] at hs; exact hs
theorem ref_shift (a b kind : Int) (a0 : 0 ≤ a) (a1 : a < 18446744073709551616) (h0 : 0 ≤ b) (h1 : b < 18446744073709551616) (k : Nat) (hk : 64 < k) : brazierref1_Shift.f k a b kind = some (sh a (b % 64).toNat kind) := by
  unfold brazierref1_Shift.f
  rw [and63 b h0 h1]
  exact ref_shift_l kind (b % 64) (by omega) (b % 64).toNat k a 0 a0 a1 (by omega) (by omega) (by omega) (by omega)

/-! Div: one place after another -/
theorem bit_and_one (x : Int) (h0 : 0 ≤ x) (h1 : x < 18446744073709551616) : Go.bits .and .u64 x 1 = x % 2 := by
  rw [Go.u64_and x 1 h0 h1 (by omega) (by omega)]
  rw [show (1 : Int).toNat = 1 from rfl, Nat.and_one_is_mod]
  omega
theorem or_one (x b : Int) (h0 : 0 ≤ x) (h1 : x < 18446744073709551616) (he : x % 2 = 0) (hb0 : 0 ≤ b) (hb1 : b < 2) : Go.bits .or .u64 x b = x + b := by
  rw [Go.u64_or x b h0 h1 hb0 (by omega)]
  have h := Nat.two_pow_add_eq_or_of_lt (i := 1) (b := b.toNat) (by omega) (x.toNat / 2)
  have e : 2 ^ 1 * (x.toNat / 2) = x.toNat := by omega
  rw [e] at h
  rw [← h]
  omega
/-- The sign that the two numbers give a quotient. -/
def signed (p q : Int) (v : Int) : Int := if ((decide (p < 0)) != (decide (q < 0))) = true then wrap64 (IntKind.u64.wrap (-v)) else wrap64 v
theorem or_pow (Q : Int) (n : Nat) (hQ : 0 ≤ Q) (hn : n < 64) (hb : Q * 2 ^ (n + 1) < 18446744073709551616) : Go.bits .or .u64 (Q * 2 ^ (n + 1)) (2 ^ n) = Q * 2 ^ (n + 1) + 2 ^ n := by
  obtain ⟨m, rfl⟩ := Int.eq_ofNat_of_zero_le hQ
  have e1 : ((m : Int) * 2 ^ (n + 1)) = ((m * 2 ^ (n + 1) : Nat) : Int) := by simp
  have e2 : ((2 : Int) ^ n) = ((2 ^ n : Nat) : Int) := by simp
  have hn2 : 2 ^ n < 2 ^ 64 := Nat.pow_lt_pow_right (by omega) hn
  rw [e1] at hb ⊢
  rw [e2, Go.u64_or_nat _ _ (by omega) (by omega)]
  have h := Nat.two_pow_add_eq_or_of_lt (i := n + 1) (b := 2 ^ n) (Nat.pow_lt_pow_right (by omega) (by omega)) m
  rw [Nat.mul_comm m, ← h]
  omega
/-- Places from i on of a quotient, and what is left. -/
theorem div_l (x y : Int) (x0 : 0 ≤ x) (x1 : x < 18446744073709551616) (y0 : 0 < y) (y1 : y < 18446744073709551616) (p q : Int) :
    ∀ (d : Nat) (k : Nat) (i : Int), i + 1 = d → d ≤ 64 → d < k →
      brazierref1_Div.l0 k p q x y (x / 2 ^ d / y * 2 ^ d) (x / 2 ^ d % y) i = some (signed p q (x / y)) := by
  intro d
  induction d with
  | zero =>
    intro k i hi hd hk
    obtain ⟨k, rfl⟩ : ∃ m, k = m + 1 := ⟨k - 1, by omega⟩
    simp only [brazierref1_Div.l0]
    rw [if_neg (by omega)]
    simp only [Int.pow_zero, Int.mul_one, Int.ediv_one, signed]
    split <;> rfl
  | succ n ih =>
    intro k i hi hd hk
    obtain ⟨k, rfl⟩ : ∃ m, k = m + 1 := ⟨k - 1, by omega⟩
    have hin : i = (n : Int) := by omega
    subst hin
    have hw : wrap64 ((n : Int) - 1) = (n : Int) - 1 := by unfold wrap64; omega
    have hu : IntKind.u64.wrap (n : Int) = (n : Int) := by rw [u64w]; omega
    have step := ih k ((n : Int) - 1) (by omega) (by omega) (by omega)
    have hp := two_pow_pos n
    have hn2 : (2 : Int) ^ n < 18446744073709551616 := by
      have : 2 ^ n < 2 ^ 64 := Nat.pow_lt_pow_right (by omega) (by omega)
      have e2 : ((2 : Int) ^ n) = ((2 ^ n : Nat) : Int) := by simp
      rw [e2]; omega
    have hz : x / 2 ^ (n + 1) = x / 2 ^ n / 2 := by rw [Int.pow_succ, Int.ediv_ediv_of_nonneg (by omega)]
    have hshr : shr .u64 x (n : Int) = x / 2 ^ n := by
      unfold shr
      rw [show IntKind.u64.bits = 64 from rfl, Int.toNat_natCast, Nat.min_eq_left (by omega)]
    have hshl : shl .u64 1 (n : Int) = 2 ^ n := by
      unfold shl
      rw [show IntKind.u64.bits = 64 from rfl, Int.toNat_natCast, Nat.min_eq_left (by omega), u64w, Int.one_mul]
      omega
    have z0 : 0 ≤ x / 2 ^ n := Int.ediv_nonneg x0 (by omega)
    have z1 : x / 2 ^ n < 18446744073709551616 := Int.lt_of_le_of_lt (Int.ediv_le_self _ x0) x1
    have hzx : x / 2 ^ n * 2 ^ n ≤ x := Int.ediv_mul_le x (by omega)
    rw [hz]
    generalize hzz : x / 2 ^ n = z at *
    have r0 : 0 ≤ z / 2 % y := Int.emod_nonneg _ (by omega)
    have r1 : z / 2 % y < y := Int.emod_lt_of_pos _ y0
    have hdm : y * (z / 2 / y) + z / 2 % y = z / 2 := Int.mul_ediv_add_emod _ _
    have Q0 : 0 ≤ z / 2 / y := Int.ediv_nonneg (by omega) (by omega)
    have hQle : z / 2 / y ≤ z / 2 := Int.ediv_le_self _ (by omega)
    have hQb : z / 2 / y * 2 ^ (n + 1) < 18446744073709551616 := by
      have h1 : z / 2 / y * 2 ^ (n + 1) ≤ z / 2 * 2 ^ (n + 1) := Int.mul_le_mul_of_nonneg_right hQle (by have := two_pow_pos (n + 1); omega)
      have h2 : z / 2 * 2 ^ (n + 1) = (2 * (z / 2)) * 2 ^ n := by rw [Int.pow_succ, Int.mul_comm (2 ^ n) 2, ← Int.mul_assoc, Int.mul_comm (z / 2) 2]
      have h3 : (2 * (z / 2)) * 2 ^ n ≤ z * 2 ^ n := Int.mul_le_mul_of_nonneg_right (by omega) (by omega)
      omega
    have hor := or_pow (z / 2 / y) n Q0 (by omega) hQb
    generalize hQ : z / 2 / y = Q at *
    generalize hr : z / 2 % y = r at *
    have hR : z = y * (2 * Q) + (2 * r + z % 2) := by
      have : y * (2 * Q) = 2 * (y * Q) := by rw [← Int.mul_assoc, Int.mul_comm y 2, Int.mul_assoc]
      omega
    have hb := bit_and_one z z0 z1
    have hm : IntKind.u64.wrap (r * 2) = (r * 2) % 18446744073709551616 := u64w _
    have ho : Go.bits .or .u64 (IntKind.u64.wrap (r * 2)) (Go.bits .and .u64 z 1) = (r * 2) % 18446744073709551616 + z % 2 := by
      rw [hb, hm]
      exact or_one _ _ (by omega) (by omega) (by omega) (by omega) (by omega)
    have big : y ≤ 2 * r + z % 2 → z / y * 2 ^ n = Q * 2 ^ (n + 1) + 2 ^ n ∧ z % y = 2 * r + z % 2 - y := by
      intro hge
      have hu2 := (Int.ediv_emod_unique (a := z) (b := y) (r := 2 * r + z % 2 - y) (q := 2 * Q + 1) y0).2 ⟨by rw [Int.mul_add]; omega, by omega, by omega⟩
      refine ⟨?_, hu2.2⟩
      rw [hu2.1, Int.add_mul, Int.one_mul, Int.pow_succ, Int.mul_comm (2 ^ n) 2, ← Int.mul_assoc, Int.mul_comm Q 2]
    have small : 2 * r + z % 2 < y → z / y * 2 ^ n = Q * 2 ^ (n + 1) ∧ z % y = 2 * r + z % 2 := by
      intro hlt
      have hu2 := (Int.ediv_emod_unique (a := z) (b := y) (r := 2 * r + z % 2) (q := 2 * Q) y0).2 ⟨by omega, by omega, by omega⟩
      refine ⟨?_, hu2.2⟩
      rw [hu2.1, Int.pow_succ, Int.mul_comm (2 ^ n) 2, ← Int.mul_assoc, Int.mul_comm Q 2]
    simp only [brazierref1_Div.l0]
    rw [if_pos (by omega), hu, if_pos (by omega), hshr, hshl, ho, hor, hw]
    by_cases hover : r / 9223372036854775808 = 1
    · obtain ⟨e1, e2⟩ := big (by omega)
      rw [e1, e2] at step
      rw [if_pos hover]
      have e3 : IntKind.u64.wrap ((r * 2) % 18446744073709551616 + z % 2 - y) = 2 * r + z % 2 - y := by rw [u64w]; omega
      rw [e3]
      exact step
    · rw [if_neg hover]
      have e4 : (r * 2) % 18446744073709551616 = 2 * r := by omega
      rw [e4]
      by_cases hge : 2 * r + z % 2 ≥ y
      · obtain ⟨e1, e2⟩ := big hge
        rw [e1, e2] at step
        rw [if_pos hge]
        have e3 : IntKind.u64.wrap (2 * r + z % 2 - y) = 2 * r + z % 2 - y := by rw [u64w]; omega
        rw [e3]
        exact step
      · obtain ⟨e1, e2⟩ := small (by omega)
        rw [e1, e2] at step
        rw [if_neg hge]
        exact step
theorem wrap_u (v : Int) : wrap64 (IntKind.u64.wrap v) = wrap64 v := by rw [u64w]; unfold wrap64; omega
theorem ref_div (a b : Int) (a0 : -9223372036854775808 ≤ a) (a1 : a < 9223372036854775808) (b0 : -9223372036854775808 ≤ b) (b1 : b < 9223372036854775808) (k : Nat) (hk : 70 < k) :
    brazierref1_Div.f k a b = some (if b = 0 then 0 else wrap64 (Int.tdiv a b)) := by
  unfold brazierref1_Div.f
  by_cases hb : b = 0
  · rw [if_pos hb, if_pos hb]
  rw [if_neg hb, if_neg hb]
  have main : ∀ x y : Int, 0 ≤ x → x < 18446744073709551616 → 0 < y → y < 18446744073709551616 → ∀ k, 66 < k → brazierref1_Div.j1 k a b x y = some (signed a b (x / y)) := by
    intro x y x0 x1 y0 y1 k hk
    obtain ⟨k, rfl⟩ : ∃ m, k = m + 1 := ⟨k - 1, by omega⟩
    simp only [brazierref1_Div.j1]
    have h := div_l x y x0 x1 y0 y1 a b 64 k 63 (by omega) (by omega) (by omega)
    have e : x / 2 ^ 64 = 0 := Int.ediv_eq_zero_of_lt x0 (by omega)
    rw [e] at h
    simpa using h
  have mid : ∀ x : Int, 0 ≤ x → x < 18446744073709551616 → brazierref1_Div.j0 k a b x (IntKind.u64.wrap b) = some (signed a b (x / (if b < 0 then -b else b))) := by
    intro x x0 x1
    obtain ⟨k, rfl⟩ : ∃ m, k = m + 1 := ⟨k - 1, by omega⟩
    simp only [brazierref1_Div.j0]
    by_cases hn : b < 0
    · rw [if_pos hn, if_pos hn]
      have e : IntKind.u64.wrap (-(IntKind.u64.wrap b)) = -b := by simp only [u64w]; omega
      rw [e]
      exact main x (-b) x0 x1 (by omega) (by omega) k (by omega)
    · rw [if_neg hn, if_neg hn]
      have e : IntKind.u64.wrap b = b := by rw [u64w]; omega
      rw [e]
      exact main x b x0 x1 (by omega) (by omega) k (by omega)
  have ht : wrap64 (Int.tdiv a b) = signed a b ((if a < 0 then -a else a) / (if b < 0 then -b else b)) := by
    unfold signed
    rw [wrap_u]
    by_cases ha : a < 0
    · by_cases hn : b < 0
      · simp only [if_pos ha, if_pos hn, ha, hn, decide_true, bne_self_eq_false, Bool.false_eq_true, if_false]
        rw [← Int.neg_neg a, ← Int.neg_neg b, Int.tdiv_neg, Int.neg_tdiv, Int.neg_neg, Int.tdiv_eq_ediv_of_nonneg (by omega)]
        simp
      · simp only [if_pos ha, if_neg hn, ha, hn, decide_true, decide_false]
        rw [← Int.neg_neg a, Int.neg_tdiv, Int.tdiv_eq_ediv_of_nonneg (by omega)]
        simp
    · by_cases hn : b < 0
      · simp only [if_neg ha, if_pos hn, ha, hn, decide_true, decide_false]
        rw [← Int.neg_neg b, Int.tdiv_neg, Int.tdiv_eq_ediv_of_nonneg (by omega)]
        simp
      · simp only [if_neg ha, if_neg hn, ha, hn, decide_false, bne_self_eq_false, Bool.false_eq_true, if_false]
        rw [Int.tdiv_eq_ediv_of_nonneg (by omega)]
  rw [ht]
  by_cases ha : a < 0
  · rw [if_pos ha]
    have e : IntKind.u64.wrap (-(IntKind.u64.wrap a)) = -a := by simp only [u64w]; omega
    rw [e, mid (-a) (by omega) (by omega)]
    simp only [if_pos ha]
  · rw [if_neg ha]
    have e : IntKind.u64.wrap a = a := by rw [u64w]; omega
    rw [e, mid a (by omega) (by omega)]
    simp only [if_neg ha]
theorem div_eq (a b : Int) (a0 : -9223372036854775808 ≤ a) (a1 : a < 9223372036854775808) (b0 : -9223372036854775808 ≤ b) (b1 : b < 9223372036854775808) (k : Nat) (hk : 70 < k) :
    brazierref1_Div.f k a b = bits_Div.f a b := by
  rw [ref_div a b a0 a1 b0 b1 k hk]
  unfold bits_Div.f
  by_cases hb : b = 0
  · rw [if_pos hb, if_pos hb]
  · rw [if_neg hb, if_neg hb]
    by_cases h1 : b = -1
    · rw [if_pos h1, h1, Int.tdiv_neg, Int.tdiv_one]
    · rw [if_neg h1]
theorem div_some (a b : Int) : ∃ r, bits_Div.f a b = some r := by
  unfold bits_Div.f
  repeat' split
  all_goals exact ⟨_, rfl⟩
theorem rem_some (a b : Int) : ∃ r, bits_Rem.f a b = some r := by
  obtain ⟨r, hr⟩ := div_some a b
  unfold bits_Rem.f
  rw [hr]
  exact ⟨_, rfl⟩
theorem BitsReckons : brazierlaw1_BitsReckons.Pure := by
  intro a b i c kind ha hb hc hk
  refine ⟨100, ?_⟩
  obtain ⟨a0, a1⟩ := wf_i64 ha
  obtain ⟨b0, b1⟩ := wf_i64 hb
  obtain ⟨c0, c1⟩ := wf_u64 hc
  have hu : ∀ x : Int, 0 ≤ IntKind.u64.wrap x ∧ IntKind.u64.wrap x < 18446744073709551616 := by intro x; rw [u64w]; omega
  obtain ⟨q, hq⟩ := div_some a b
  obtain ⟨r, hr⟩ := rem_some a b
  have hq' : brazierref1_Div.f 99 a b = some q := by rw [div_eq a b a0 a1 b0 b1 99 (by omega), hq]
  have hr' : brazierref1_Rem.f 99 a b = some r := by
    unfold brazierref1_Rem.f
    unfold bits_Rem.f at hr
    rw [hq']
    rw [hq] at hr
    exact hr
  unfold brazierlaw1_BitsReckons.f
  rw [known_true]
  simp only [Option.bind_some, if_true]
  rw [add_eq _ _ i (hu a).1 (hu a).2 (hu b).1 (hu b).2, ref_add _ _ i (hu a).1 (hu a).2 (hu b).1 (hu b).2]
  simp only [Option.bind_some, if_true, bne_self_eq_false, Bool.false_eq_true, if_false]
  rw [show (100 : Nat) = 99 + 1 from rfl]
  simp only [brazierlaw1_BitsReckons.j0, Bool.false_eq_true, if_false]
  rw [hq, hq']
  simp only [Option.bind_some, if_true]
  rw [hr, hr']
  simp only [Option.bind_some, if_true]
  rw [shift_eq _ c kind c0 c1, ref_shift _ c kind (hu a).1 (hu a).2 c0 c1 99 (by omega)]
  simp
end Go.Proofs.YtkfkonchbkiakaaDoor.Pure
