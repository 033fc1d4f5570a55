/- Fields of words, in plain arithmetic. -/
import Derived.Test.YtbjikmepfpkmjaazEncWordsPChkB
namespace Go.Proofs.Ytbjikmepfpkmjaa.X
set_option linter.unusedVariables false
set_option linter.unusedSimpArgs false
open Go.RowKit Go.Proofs.YtbjikmepfpkmjaaW.PrintWords Go.Proofs.YtbjikmepfpkmjaaW.PrintLast Go.Proofs.YtbjikmepfpkmjaaW.PrintMore Go.Proofs.Ytbjikmepfpkmjaa.Q
theorem u32w (x : Int) : IntKind.u32.wrap x = x % 4294967296 := by
  simp [IntKind.wrap, IntKind.bits, IntKind.signed]
theorem two_pow_pos (n : Nat) : (0 : Int) < 2 ^ n := Int.pow_pos (by omega)

def Ok (lo n : Int) : Prop := 0 ≤ lo ∧ lo ≤ 31 ∧ 1 ≤ n ∧ n ≤ 32 - lo
instance (lo n : Int) : Decidable (Ok lo n) := inferInstanceAs (Decidable (_ ∧ _ ∧ _ ∧ _))
theorem within_eq (lo n : Int) (h0 : -9223372036854775808 ≤ lo) (h1 : lo < 9223372036854775808) : bits_within.f lo n = some (decide (Ok lo n)) := by
  unfold bits_within.f
  by_cases h : Ok lo n
  · rw [decide_eq_true h]
    obtain ⟨a, b, c, d⟩ := h
    have hs : wrap64 (32 - lo) = 32 - lo := by unfold wrap64; omega
    rw [if_pos (by omega), if_pos (by omega), if_pos (by omega), hs, decide_eq_true d]
  · rw [decide_eq_false h]
    unfold Ok at h
    by_cases a : lo ≥ 0
    · rw [if_pos a]
      by_cases b : lo < 32
      · rw [if_pos b]
        by_cases c : n ≥ 1
        · have hs : wrap64 (32 - lo) = 32 - lo := by unfold wrap64; omega
          rw [if_pos c, hs, decide_eq_false (by omega)]
        · rw [if_neg c]
      · rw [if_neg b]
    · rw [if_neg a]
theorem pow_cast (n : Nat) : ((2 : Int) ^ n) = ((2 ^ n : Nat) : Int) := by simp
theorem pow_le {m n : Nat} (h : m ≤ n) : (2 : Int) ^ m ≤ 2 ^ n := by
  rw [pow_cast, pow_cast]
  have : 2 ^ m ≤ 2 ^ n := Nat.pow_le_pow_right (by omega) h
  omega
theorem pow_le32 {n : Nat} (h : n ≤ 32) : (2 : Int) ^ n ≤ 4294967296 := pow_le h
theorem mask_eq (n : Int) (h0 : 1 ≤ n) (h1 : n ≤ 32) : bits_mask.f n = some (((2 ^ n.toNat - 1 : Nat)) : Int) := by
  unfold bits_mask.f shl
  rw [if_pos (by omega)]
  refine congrArg some ?_
  rw [show IntKind.u32.bits = 32 from rfl, Nat.min_eq_left (by omega), u32w, Int.one_mul]
  have hp := pow_le32 (n := n.toNat) (by omega)
  have hq := two_pow_pos n.toNat
  have e := pow_cast n.toNat
  omega
theorem and_mask (x n : Nat) : x &&& (2 ^ n - 1) = x % 2 ^ n := Nat.and_two_pow_sub_one_eq_mod x n
theorem lt_pow32 {n : Nat} (h : n ≤ 32) : 2 ^ n - 1 < 4294967296 := by
  have : 2 ^ n ≤ 2 ^ 32 := Nat.pow_le_pow_right (by omega) h
  have := Nat.two_pow_pos n
  omega
def putv (w lo n v : Nat) : Nat := (w &&& (4294967295 - (2 ^ n - 1) * 2 ^ lo)) ||| (v % 2 ^ n) * 2 ^ lo
theorem mask_lt (lo n : Nat) (h : lo + n ≤ 32) : (2 ^ n - 1) * 2 ^ lo < 2 ^ 32 := by
  have h1 : (2 ^ n - 1) * 2 ^ lo < 2 ^ n * 2 ^ lo := Nat.mul_lt_mul_of_pos_right (by have := Nat.two_pow_pos n; omega) (Nat.two_pow_pos lo)
  rw [← Nat.pow_add] at h1
  exact Nat.lt_of_lt_of_le h1 (Nat.pow_le_pow_right (by omega) (by omega))
theorem low_lt (lo n v : Nat) (h : lo + n ≤ 32) : (v % 2 ^ n) * 2 ^ lo < 2 ^ 32 := by
  have h1 : (v % 2 ^ n) * 2 ^ lo < 2 ^ n * 2 ^ lo := Nat.mul_lt_mul_of_pos_right (Nat.mod_lt _ (Nat.two_pow_pos n)) (Nat.two_pow_pos lo)
  rw [← Nat.pow_add] at h1
  exact Nat.lt_of_lt_of_le h1 (Nat.pow_le_pow_right (by omega) (by omega))
theorem mul_bit (x lo i : Nat) : (x * 2 ^ lo).testBit i = (decide (lo ≤ i) && x.testBit (i - lo)) := by
  rw [← Nat.shiftLeft_eq, Nat.testBit_shiftLeft]
theorem bit_high {w i : Nat} (hw : w < 4294967296) (hi : 32 ≤ i) : w.testBit i = false :=
  Nat.testBit_lt_two_pow (Nat.lt_of_lt_of_le (show w < 2 ^ 32 from hw) (Nat.pow_le_pow_right (by omega) hi))
theorem putv_bit (w lo n v i : Nat) (hw : w < 4294967296) (h : lo + n ≤ 32) : (putv w lo n v).testBit i = if lo ≤ i ∧ i < lo + n then v.testBit (i - lo) else w.testBit i := by
  unfold putv
  have hm := mask_lt lo n h
  have hs := Nat.testBit_two_pow_sub_succ hm i
  rw [show 2 ^ 32 - ((2 ^ n - 1) * 2 ^ lo + 1) = 4294967295 - (2 ^ n - 1) * 2 ^ lo from by omega] at hs
  rw [Nat.testBit_or, Nat.testBit_and, hs, mul_bit, mul_bit, Nat.testBit_two_pow_sub_one, Nat.testBit_mod_two_pow]
  by_cases h1 : lo ≤ i
  · by_cases h2 : i < lo + n
    · have h3 : i - lo < n := by omega
      have h4 : i < 32 := by omega
      simp [h1, h2, h3]
    · have h3 : ¬ i - lo < n := by omega
      simp only [h1, h2, h3, decide_true, decide_false, Bool.and_false, Bool.not_false, Bool.false_and, Bool.or_false, and_false, if_false, Bool.true_and]
      by_cases h4 : i < 32
      · simp [h4]
      · rw [bit_high hw (by omega)]
        simp
  · simp only [h1, decide_false, Bool.false_and, Bool.not_false, Bool.or_false, false_and, if_false, Bool.and_true]
    have h4 : i < 32 := by omega
    simp [h4]
theorem shl32 (x : Nat) (lo : Int) (a : 0 ≤ lo) (b : lo ≤ 31) (h : x * 2 ^ lo.toNat < 2 ^ 32) : shl .u32 (x : Int) lo = ((x * 2 ^ lo.toNat : Nat) : Int) := by
  unfold shl
  rw [show IntKind.u32.bits = 32 from rfl, Nat.min_eq_left (by omega), u32w, pow_cast]
  have e : ((x : Int) * ((2 ^ lo.toNat : Nat) : Int)) = ((x * 2 ^ lo.toNat : Nat) : Int) := by simp
  rw [e]
  omega
theorem put_eq (w v : Nat) (lo n : Int) (hw : w < 4294967296) (hv : v < 4294967296) (h0 : -9223372036854775808 ≤ lo) (h1 : lo < 9223372036854775808) : bits_Put.f w lo n v = some (if Ok lo n then ((putv w lo.toNat n.toNat v : Nat) : Int) else w) := by
  unfold bits_Put.f
  rw [within_eq lo n h0 h1]
  simp only [Option.bind_some]
  by_cases h : Ok lo n
  · rw [if_pos (by simpa using h), if_pos h]
    obtain ⟨a, b, c, d⟩ := h
    have hln : lo.toNat + n.toNat ≤ 32 := by omega
    rw [mask_eq n c (by omega)]
    simp only [Option.bind_some]
    rw [if_pos a, Go.u32_and_nat _ _ hv (lt_pow32 (by omega)), and_mask]
    have m1 := mask_lt lo.toNat n.toNat hln
    have m2 := low_lt lo.toNat n.toNat v hln
    rw [shl32 _ lo a b m1, shl32 _ lo a b m2, Go.u32_andNot_nat _ _ hw (by omega)]
    have h3 : w &&& (4294967295 - (2 ^ n.toNat - 1) * 2 ^ lo.toNat) < 4294967296 := Nat.lt_of_le_of_lt Nat.and_le_left hw
    rw [Go.u32_or_nat _ _ h3 (by omega)]
    rfl
  · rw [if_neg (by simpa using h), if_neg h]
theorem or_add (x y lo n : Nat) (hf : x / 2 ^ lo % 2 ^ n = 0) (hy : y < 2 ^ n) : x ||| y * 2 ^ lo = x + y * 2 ^ lo := by
  have hp := Nat.two_pow_pos lo
  have hl : x % 2 ^ lo < 2 ^ lo := Nat.mod_lt _ hp
  have hx : x = 2 ^ lo * (x / 2 ^ lo) + x % 2 ^ lo := (Nat.div_add_mod x (2 ^ lo)).symm
  have hq : x / 2 ^ lo = 2 ^ n * (x / 2 ^ lo / 2 ^ n) := by
    have := Nat.div_add_mod (x / 2 ^ lo) (2 ^ n)
    omega
  have e1 : x + y * 2 ^ lo = 2 ^ lo * (x / 2 ^ lo + y) + x % 2 ^ lo := by
    rw [Nat.mul_add, Nat.mul_comm y]
    omega
  have e2 : x / 2 ^ lo + y = x / 2 ^ lo ||| y := by
    rw [hq]
    exact Nat.two_pow_add_eq_or_of_lt hy _
  rw [e1, e2, Nat.two_pow_add_eq_or_of_lt hl]
  have e3 : 2 ^ lo * (x / 2 ^ lo ||| y) = 2 ^ lo * (x / 2 ^ lo) ||| y * 2 ^ lo := by
    apply Nat.eq_of_testBit_eq
    intro i
    rw [Nat.testBit_or, Nat.mul_comm, mul_bit, Nat.mul_comm (2 ^ lo), mul_bit, mul_bit, Nat.testBit_or]
    cases decide (lo ≤ i) <;> simp
  rw [e3]
  have e4 : x = 2 ^ lo * (x / 2 ^ lo) ||| x % 2 ^ lo := by
    rw [← Nat.two_pow_add_eq_or_of_lt hl]
    exact hx
  apply Nat.eq_of_testBit_eq
  intro i
  have e5 := congrArg (fun z => z.testBit i) e4
  simp only [Nat.testBit_or] at e5
  simp only [Nat.testBit_or, e5]
  cases (2 ^ lo * (x / 2 ^ lo)).testBit i <;> cases (x % 2 ^ lo).testBit i <;> cases (y * 2 ^ lo).testBit i <;> rfl
theorem putv_add (x y lo n : Nat) (hx : x < 4294967296) (h : lo + n ≤ 32) (hf : x / 2 ^ lo % 2 ^ n = 0) : putv x lo n y = x + y % 2 ^ n * 2 ^ lo := by
  rw [← or_add x (y % 2 ^ n) lo n hf (Nat.mod_lt _ (Nat.two_pow_pos n))]
  apply Nat.eq_of_testBit_eq
  intro i
  rw [putv_bit _ _ _ _ _ hx h, Nat.testBit_or, mul_bit, Nat.testBit_mod_two_pow]
  have hb : ∀ j, j < n → x.testBit (j + lo) = false := by
    intro j hj
    have := congrArg (fun z => z.testBit j) hf
    simp only [Nat.testBit_mod_two_pow, Nat.testBit_div_two_pow, Nat.zero_testBit, hj, decide_true, Bool.true_and] at this
    exact this
  by_cases h1 : lo ≤ i
  · by_cases h2 : i < lo + n
    · have h3 := hb (i - lo) (by omega)
      rw [Nat.sub_add_cancel h1] at h3
      have h4 : i - lo < n := by omega
      simp [h1, h2, h3, h4]
    · have h4 : ¬ i - lo < n := by omega
      simp [h1, h2, h4]
  · simp [h1]
theorem nat_of {x : Int} (h : 0 ≤ x) : ∃ m : Nat, x = m := ⟨x.toNat, by omega⟩
theorem put1x (lo n : Nat) (P Q : Int) (x v y : Int) (hP : P = ((2 ^ lo : Nat) : Int)) (hQ : Q = ((2 ^ n : Nat) : Int)) (hn : 1 ≤ n) (hl : lo ≤ 31) (hln : lo + n ≤ 32) (hx0 : 0 ≤ x) (hx1 : x < 4294967296) (hf : x / P % Q = 0) (hy : v % 4294967296 % Q = y) :
    put1 x (lo : Int) (n : Int) v = some (x + y * P) := by
  obtain ⟨X, rfl⟩ := nat_of hx0
  obtain ⟨V, hV⟩ := nat_of (Int.emod_nonneg v (by omega : (4294967296 : Int) ≠ 0))
  have hV1 : v % 4294967296 < 4294967296 := Int.emod_lt_of_pos _ (by omega)
  rw [hV] at hV1 hy
  have ok : Ok (lo : Int) (n : Int) := by unfold Ok; omega
  unfold put1
  rw [hV, put_eq X V lo n (by omega) (by omega) (by omega) (by omega), if_pos ok, Int.toNat_natCast, Int.toNat_natCast]
  subst hP
  subst hQ
  have hf' : X / 2 ^ lo % 2 ^ n = 0 := by exact_mod_cast hf
  rw [putv_add X V lo n (by omega) hln hf', ← hy]
  push_cast
  rfl
theorem orx (lo n : Nat) (P Q y x z : Int) (hP : P = ((2 ^ lo : Nat) : Int)) (hQ : Q = ((2 ^ n : Nat) : Int)) (hx0 : 0 ≤ x) (hx1 : x < 4294967296) (hf : x / P % Q = 0) (hy0 : 0 ≤ y) (hy1 : y < Q) (hz1 : y * P < 4294967296) (hz : z = y * P) : Go.bits .or .u32 x z = x + z := by
  obtain ⟨X, rfl⟩ := nat_of hx0
  obtain ⟨Y, rfl⟩ := nat_of hy0
  subst hP
  subst hQ
  subst hz
  have e : (Y : Int) * ((2 ^ lo : Nat) : Int) = ((Y * 2 ^ lo : Nat) : Int) := by push_cast; rfl
  rw [e] at hz1 ⊢
  have hf' : X / 2 ^ lo % 2 ^ n = 0 := by exact_mod_cast hf
  rw [Go.u32_or_nat _ _ (by omega) (by omega), or_add X Y lo n hf' (by omega)]
  push_cast
  rfl
theorem andx (n : Nat) (M Q x : Int) (hM : M = ((2 ^ n - 1 : Nat) : Int)) (hQ : Q = ((2 ^ n : Nat) : Int)) (hn : n ≤ 32) (hx0 : 0 ≤ x) (hx1 : x < 4294967296) : Go.bits .and .u32 x M = x % Q := by
  obtain ⟨X, rfl⟩ := nat_of hx0
  subst hM
  subst hQ
  rw [Go.u32_and_nat _ _ (by omega) (lt_pow32 hn), and_mask]
  push_cast
  rfl
theorem quo {imm : Int} {b : Int} (hb : b = 4 ∨ b = 8) (h : Int.tmod imm b = 0) : ∃ q, imm = b * q ∧ Int.tdiv imm b = q := by
  refine ⟨Int.tdiv imm b, ?_, rfl⟩
  have := Int.mul_tdiv_add_tmod imm b
  omega
end Go.Proofs.Ytbjikmepfpkmjaa.X
