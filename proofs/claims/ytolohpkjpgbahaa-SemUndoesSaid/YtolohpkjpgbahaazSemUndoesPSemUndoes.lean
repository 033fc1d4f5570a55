/- SemUndoes: what the law's function computes, and that it is true. -/
import Derived.Test.YtolohpkjpgbahaazSemUndoesRLRow
import Derived.Test.YtolohpkjpgbahaazSemUndoesRLNames
namespace Go.Proofs.Ytolohpkjpgbahaa.semUndoes
open Go Go.Proofs.YtolohpkjpgbahaaRL
set_option linter.unusedVariables false
noncomputable def D : Dh := runD Try.prog noD 100
theorem hD : DOk Try.prog D := runD_ok noD_ok names mixed 100
def n : Nat := 100
def aks : List AK := [.one (.int .u64), .one (.int .u64), .one (.int .u64)]
def w64 (n : Int) : Int := IntKind.u64.wrap n
set_option maxRecDepth 100000 in
theorem formula (a b c : Int) : lawB Try.prog D n 6 [.raw (.int .u64 a), .raw (.int .u64 b), .raw (.int .u64 c)] [] = (match (w64 (w64 (a + b) - b) == a) with | true => (match (Go.bits .xor .u64 (Go.bits .xor .u64 a b) b == a) with | true => (w64 (w64 (c + w64 (a * b)) - w64 (a * b)) == c) | false => false) | false => false) := by kernel_rfl
theorem w64_sub (a b : Int) (h0 : 0 ≤ a) (h1 : a < 18446744073709551616) : w64 (w64 (a + b) - b) = a := by
  have e : ∀ n : Int, w64 n = n % 18446744073709551616 := fun n => by
    unfold w64 IntKind.wrap
    simp [IntKind.signed, IntKind.bits]
  rw [e, e]
  omega
theorem xor_xor (a b : Int) (h0 : 0 ≤ a) (h1 : a < 18446744073709551616) : Go.bits .xor .u64 (Go.bits .xor .u64 a b) b = a := by
  have e : ∀ n : Int, IntKind.u64.wrap n = n % 18446744073709551616 := fun n => by
    unfold IntKind.wrap
    simp [IntKind.signed, IntKind.bits]
  unfold Go.bits
  simp only [e]
  have hx : BitVec.ofInt IntKind.u64.bits ((((BitVec.ofInt IntKind.u64.bits a ^^^ BitVec.ofInt IntKind.u64.bits b).toNat : Int)) % 18446744073709551616) = BitVec.ofInt IntKind.u64.bits a ^^^ BitVec.ofInt IntKind.u64.bits b := by
    apply BitVec.eq_of_toNat_eq
    have hlt := (BitVec.ofInt IntKind.u64.bits a ^^^ BitVec.ofInt IntKind.u64.bits b).isLt
    have hb : (2 : Nat) ^ IntKind.u64.bits = 18446744073709551616 := by decide
    rw [BitVec.toNat_ofInt, hb]
    rw [hb] at hlt
    have : ((((BitVec.ofInt IntKind.u64.bits a ^^^ BitVec.ofInt IntKind.u64.bits b).toNat : Int)) % 18446744073709551616 % ((18446744073709551616 : Nat) : Int)) = (((BitVec.ofInt IntKind.u64.bits a ^^^ BitVec.ofInt IntKind.u64.bits b).toNat : Int)) := by omega
    rw [this]
    simp
  rw [hx]
  rw [BitVec.xor_assoc, BitVec.xor_self, BitVec.xor_zero, BitVec.toNat_ofInt]
  have hb : ((2 ^ IntKind.u64.bits : Nat) : Int) = 18446744073709551616 := by decide
  rw [hb]
  omega
theorem law_true : ∀ args, argsOk aks args → lawB Try.prog D n 6 args [] = true := by
  intro args h
  match args, h with
  | [.raw _, .raw _, .raw _], ⟨⟨a, rfl, ha⟩, ⟨b, rfl, hb⟩, ⟨c, rfl, hc⟩, _⟩ =>
    obtain ⟨a0, a1⟩ := bounds_u64 ha
    obtain ⟨c0, c1⟩ := bounds_u64 hc
    rw [formula, w64_sub a b a0 (by omega), xor_xor a b a0 (by omega), w64_sub c _ c0 (by omega)]
    simp
end Go.Proofs.Ytolohpkjpgbahaa.semUndoes
