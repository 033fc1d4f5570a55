/- SemCompares: what the law's function computes, and that it is true. -/
import Derived.Test.YtolohpkjpgbahaazSemComparesPSpec
import Derived.Test.YtolohpkjpgbahaazSemComparesRL15
import Derived.Test.YtolohpkjpgbahaazSemComparesRLBits
namespace Go.Proofs.Ytolohpkjpgbahaa.semCompares
open Go Go.Proofs.YtolohpkjpgbahaaRL Go.Proofs.Ytolohpkjpgbahaa.sp
set_option linter.unusedVariables false
noncomputable def D : Dh := specs noD
theorem hD : DOk Try.prog D := specs_ok noD_ok
def aks : List AK := [.one (.int .u64), .one (.int .u64)]
def w64 (n : Int) : Int := IntKind.u64.wrap n
def i64 (n : Int) : Int := IntKind.i64.wrap n
def cb (b : Int) : Int := Go.bits .xor .u64 IntKind.u64.max b
def s0 (a b : Int) : Int := w64 (a + cb b)
def s1 (a b : Int) : Int := w64 (s0 a b + 1)
def nn (a b : Int) : Bool := decide (i64 (s1 a b) < 0)
def zz (a b : Int) : Bool := s1 a b == 0
def vv (a b : Int) : Bool := decide (i64 (Go.bits .and .u64 (Go.bits .xor .u64 a (s1 a b)) (Go.bits .xor .u64 (cb b) (s1 a b))) < 0)
def xs (a b : Int) (i : Nat) : Int := match Nat.beq i 1 with | true => a | false => match Nat.beq i 2 with | true => b | false => 0
def chain (a b : Int) (c : Bool) : Bool :=
    match !(holdsX 0 (nn a b) (zz a b) c (vv a b) == (a == b)) with
    | true => false
    | false => (match !(holdsX 1 (nn a b) (zz a b) c (vv a b) == (a != b)) with
    | true => false
    | false => (match !(holdsX 2 (nn a b) (zz a b) c (vv a b) == (decide (a ≥ b))) with
    | true => false
    | false => (match !(holdsX 3 (nn a b) (zz a b) c (vv a b) == (decide (a < b))) with
    | true => false
    | false => (match !(holdsX 4 (nn a b) (zz a b) c (vv a b) == (decide (i64 (i64 a - i64 b) < 0))) with
    | true => false
    | false => (match !(holdsX 5 (nn a b) (zz a b) c (vv a b) == (decide (i64 (i64 a - i64 b) ≥ 0))) with
    | true => false
    | false => (match !(holdsX 6 (nn a b) (zz a b) c (vv a b) == (vv a b)) with
    | true => false
    | false => (match !(holdsX 7 (nn a b) (zz a b) c (vv a b) == (!vv a b)) with
    | true => false
    | false => (match !(holdsX 8 (nn a b) (zz a b) c (vv a b) == (decide (a > b))) with
    | true => false
    | false => (match !(holdsX 9 (nn a b) (zz a b) c (vv a b) == (decide (a ≤ b))) with
    | true => false
    | false => (match !(holdsX 10 (nn a b) (zz a b) c (vv a b) == (decide (i64 a ≥ i64 b))) with
    | true => false
    | false => (match !(holdsX 11 (nn a b) (zz a b) c (vv a b) == (decide (i64 a < i64 b))) with
    | true => false
    | false => (match !(holdsX 12 (nn a b) (zz a b) c (vv a b) == (decide (i64 a > i64 b))) with
    | true => false
    | false => (match !(holdsX 13 (nn a b) (zz a b) c (vv a b) == (decide (i64 a ≤ i64 b))) with
    | true => false
    | false => (match !(holdsX 14 (nn a b) (zz a b) c (vv a b) == (true)) with
    | true => false
    | false => (match !(holdsX 15 (nn a b) (zz a b) c (vv a b) == (true)) with
    | true => false
    | false => (match eqN (xs a b) (xs a b) 31 0 with | true => true | false => false))))))))))))))))
set_option maxRecDepth 100000 in
theorem formula (a b : Int) : lawI Try.prog D 100 4 [.raw (.int .u64 a), .raw (.int .u64 b)] [] = (match decide (s0 a b < a) with | true => chain a b true | false => chain a b (s1 a b == 0)) := by kernel_rfl
theorem cb_eq {b : Int} (h0 : 0 ≤ b) (h1 : b < 18446744073709551616) : cb b = 18446744073709551615 - b := by
  have hm : bv (cb b) = ~~~ bv b := by
    unfold cb
    rw [bv_xor]
    have : bv IntKind.u64.max = BitVec.allOnes 64 := by decide
    rw [this, BitVec.allOnes_xor]
  obtain ⟨c0, c1⟩ := bits_lt .xor IntKind.u64.max b
  have e := bits_eq (t := cb b) c0 c1 hm
  rw [e, BitVec.toNat_not]
  have := bv_toNat b
  have hlt := (bv b).isLt
  have h2 : (2 : Nat) ^ 64 = 18446744073709551616 := by decide
  rw [h2] at hlt ⊢
  omega
theorem chain_true {a b : Int} {c : Bool} (n z v : Bool)
    (h0 : z = (a == b)) (h2 : c = decide (a ≥ b)) (h4 : n = decide (i64 (i64 a - i64 b) < 0)) (h10 : (n == v) = decide (i64 a ≥ i64 b)) (hab : (a == b) = (i64 a == i64 b))
    (hn : nn a b = n) (hz : zz a b = z) (hv : vv a b = v) : chain a b c = true := by
  unfold chain
  rw [hn, hz, hv]
  have q1 : (a != b) = !z := by rw [h0]; rfl
  have q3 : decide (a < b) = !c := by rw [h2]; by_cases h : a < b <;> simp [h] <;> omega
  have q5 : decide (i64 (i64 a - i64 b) ≥ 0) = !n := by rw [h4]; by_cases h : i64 (i64 a - i64 b) < 0 <;> simp [h] <;> omega
  have q8 : decide (a > b) = (c && !z) := by rw [h2, h0]; by_cases h : a > b <;> by_cases h' : a = b <;> simp [h, h'] <;> omega
  have q9 : decide (a ≤ b) = !(c && !z) := by rw [← q8]; by_cases h : a ≤ b <;> simp [h] <;> omega
  have q11 : decide (i64 a < i64 b) = !(n == v) := by rw [h10]; by_cases h : i64 a < i64 b <;> simp [h] <;> omega
  have q12 : decide (i64 a > i64 b) = (!z && n == v) := by rw [h10, h0, hab]; by_cases h : i64 a > i64 b <;> by_cases h' : i64 a = i64 b <;> simp [h, h'] <;> omega
  have q13 : decide (i64 a ≤ i64 b) = !(!z && n == v) := by rw [← q12]; by_cases h : i64 a ≤ i64 b <;> simp [h] <;> omega
  rw [← h0, q1, ← h2, q3, ← h4, q5, q8, q9, ← h10, q11, q12, q13, eqN_self]
  cases n <;> cases z <;> cases c <;> cases v <;> decide
theorem true_of {a b : Int} (a0 : 0 ≤ a) (a1 : a < 18446744073709551616) (b0 : 0 ≤ b) (b1 : b < 18446744073709551616) : (match decide (s0 a b < a) with | true => chain a b true | false => chain a b (s1 a b == 0)) = true := by
  have es0 : s0 a b = (a + 18446744073709551615 - b) % 18446744073709551616 := by unfold s0 w64; rw [cb_eq b0 b1, wrap_u64]; congr 1; omega
  have es1 : s1 a b = (a - b) % 18446744073709551616 := by unfold s1 w64; rw [es0, wrap_u64]; omega
  have go : ∀ c : Bool, c = decide (a ≥ b) → chain a b c = true := by
    intro c hc
    refine chain_true (nn a b) (zz a b) (vv a b) ?_ hc ?_ ?_ ?_ rfl rfl rfl
    · unfold zz; rw [es1]
      refine decide_eq_decide.2 ?_
      constructor <;> intro h <;> omega
    · unfold nn i64; rw [es1, wrap_i64, wrap_i64, wrap_i64, wrap_i64]
      apply decide_eq_decide.2
      constructor <;> intro h <;> omega
    · have ev : vv a b = (((bv a).msb ^^ (bv (s1 a b)).msb) && (!(bv b).msb ^^ (bv (s1 a b)).msb)) := by
        unfold vv i64
        rw [neg_msb, bv_and, bv_xor, bv_xor, BitVec.msb_and, BitVec.msb_xor, BitVec.msb_xor]
        congr 2
        unfold cb
        rw [bv_xor]
        have : bv IntKind.u64.max = BitVec.allOnes 64 := by decide
        rw [this, BitVec.allOnes_xor, BitVec.msb_not]
        simp
      have en : nn a b = (bv (s1 a b)).msb := by unfold nn i64; exact neg_msb _
      rw [ev, en, bv_msb, bv_msb, bv_msb]
      unfold i64
      rw [es1, wrap_i64, wrap_i64]
      by_cases g1 : 9223372036854775808 ≤ a % 18446744073709551616 <;> by_cases g2 : 9223372036854775808 ≤ b % 18446744073709551616 <;> by_cases g3 : 9223372036854775808 ≤ (a - b) % 18446744073709551616 % 18446744073709551616 <;> simp only [g1, g2, g3, decide_true, decide_false] <;> first | exact (decide_eq_true (by omega)).symm | exact (decide_eq_false (by omega)).symm
    · unfold i64; rw [wrap_i64, wrap_i64]
      refine decide_eq_decide.2 ?_
      constructor <;> intro h <;> omega
  rw [es0]
  by_cases h : (a + 18446744073709551615 - b) % 18446744073709551616 < a
  · rw [decide_eq_true h]; exact go true (by simp; omega)
  · rw [decide_eq_false h]
    refine go _ ?_
    rw [es1]
    refine decide_eq_decide.2 ?_
    constructor <;> intro h <;> omega
theorem law_call (args : List V) (h : argsOk aks args) : CallOk Try.prog 4 args [] fun r _ => r = .ret (.raw (.bool true)) := by
  obtain ⟨a, r1, rfl, ha, h1⟩ := argsOk_int h
  obtain ⟨b, r2, rfl, hb, h2⟩ := argsOk_int h1
  cases argsOk_nil h2
  obtain ⟨a0, a1⟩ := bounds_u64 ha
  obtain ⟨b0, b1⟩ := bounds_u64 hb
  exact lawI_sound (D := D) (n := 100) hD names mixed ((formula a b).trans (true_of a0 (by omega) b0 (by omega)))
end Go.Proofs.Ytolohpkjpgbahaa.semCompares
