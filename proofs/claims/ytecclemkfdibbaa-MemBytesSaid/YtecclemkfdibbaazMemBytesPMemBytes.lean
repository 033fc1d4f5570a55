/- MemBytes: what the law's function computes is true. -/
import Derived.Test.YtecclemkfdibbaazMemBytesPMemB0
import Derived.Test.YtecclemkfdibbaazMemBytesPMemB1
import Derived.Test.YtecclemkfdibbaazMemBytesPMemB2
import Derived.Test.YtecclemkfdibbaazMemBytesPMemB3
import Derived.Test.YtecclemkfdibbaazMemBytesRLBits
namespace Go.Proofs.Ytecclemkfdibbaa.memBytes
open Go Go.Proofs.YtecclemkfdibbaaRL Go.Proofs.Ytecclemkfdibbaa.sp
set_option linter.unusedVariables false
theorem or_nat {x b k : Nat} (hbk : b < 2 ^ k) (hlt : 2 ^ k * x + b < 18446744073709551616) : Go.bits .or .u64 ((2 ^ k * x : Nat) : Int) (b : Int) = ((2 ^ k * x + b : Nat) : Int) := by
  obtain ⟨c0, c1⟩ := bits_lt .or ((2 ^ k * x : Nat) : Int) (b : Int)
  rw [bits_eq c0 c1 (bv_or _ _), BitVec.toNat_or]
  have e1 : (bv ((2 ^ k * x : Nat) : Int)).toNat = 2 ^ k * x := by have := bv_toNat ((2 ^ k * x : Nat) : Int); omega
  have e2 : (bv ((b : Nat) : Int)).toNat = b := by have := bv_toNat ((b : Nat) : Int); omega
  rw [e1, e2, ← Nat.two_pow_add_eq_or_of_lt hbk]
theorem or_8 {x b : Int} (hx : 0 ≤ x) (hb : 0 ≤ b) (hbk : b < 256) (hlt : x * 256 + b < 18446744073709551616) : Go.bits .or .u64 (x * 256) b = x * 256 + b := by
  obtain ⟨x, rfl⟩ := Int.eq_ofNat_of_zero_le hx
  obtain ⟨b, rfl⟩ := Int.eq_ofNat_of_zero_le hb
  have := or_nat (x := x) (b := b) (k := 8) (by omega) (by omega)
  have e : ((x : Int) * 256) = ((2 ^ 8 * x : Nat) : Int) := by omega
  rw [e, this]
  omega
theorem or_32 {x b : Int} (hx : 0 ≤ x) (hb : 0 ≤ b) (hbk : b < 4294967296) (hlt : x * 4294967296 + b < 18446744073709551616) : Go.bits .or .u64 (x * 4294967296) b = x * 4294967296 + b := by
  obtain ⟨x, rfl⟩ := Int.eq_ofNat_of_zero_le hx
  obtain ⟨b, rfl⟩ := Int.eq_ofNat_of_zero_le hb
  have := or_nat (x := x) (b := b) (k := 32) (by omega) (by omega)
  have e : ((x : Int) * 4294967296) = ((2 ^ 32 * x : Nat) : Int) := by omega
  rw [e, this]
  omega
theorem or_comm (a b : Int) : Go.bits .or .u64 a b = Go.bits .or .u64 b a := by
  obtain ⟨c0, c1⟩ := bits_lt .or a b
  obtain ⟨d0, d1⟩ := bits_lt .or b a
  rw [bits_eq c0 c1 (bv_or _ _), bits_eq d0 d1 (bv_or _ _), BitVec.or_comm]
theorem wrap_u8 (n : Int) : IntKind.u8.wrap n = n % 256 := by
  unfold IntKind.wrap
  simp [IntKind.signed, IntKind.bits]
theorem wrap_u32 (n : Int) : IntKind.u32.wrap n = n % 4294967296 := by
  unfold IntKind.wrap
  simp [IntKind.signed, IntKind.bits]
theorem byt_eq {v : Int} (k : Nat) : byt v k = v / 2 ^ k % 256 := by
  unfold byt
  rw [wrap_u8, Int.fdiv_eq_ediv_of_nonneg]
  exact Int.le_of_lt (Int.pow_pos (by decide))
theorem put_eq' {x b : Int} (hx : 0 ≤ x) (hx1 : x < 16777216) (hb : 0 ≤ b) (hb1 : b < 256) : put x b = x * 256 + b := by
  unfold put
  have e0 : x * 2 ^ 8 = x * 256 := rfl
  have e1 : IntKind.u64.wrap (x * 256) = x * 256 := by rw [wrap_u64]; omega
  have e2 : IntKind.u64.wrap b = b := by rw [wrap_u64]; omega
  rw [e0, e1, e2]
  exact or_8 hx hb hb1 (by omega)
theorem byt_lt (v : Int) (k : Nat) : 0 ≤ byt v k ∧ byt v k < 256 := by
  rw [byt_eq]
  exact ⟨Int.emod_nonneg _ (by decide), Int.emod_lt_of_pos _ (by decide)⟩
theorem four_eq (v : Int) (k : Nat) : four v k = byt v (k + 24) * 16777216 + byt v (k + 16) * 65536 + byt v (k + 8) * 256 + byt v k := by
  obtain ⟨a0, a1⟩ := byt_lt v (k + 24)
  obtain ⟨b0, b1⟩ := byt_lt v (k + 16)
  obtain ⟨c0, c1⟩ := byt_lt v (k + 8)
  obtain ⟨d0, d1⟩ := byt_lt v k
  unfold four
  rw [put_eq' (by omega) (by omega) a0 a1, put_eq' (by omega) (by omega) b0 b1, put_eq' (by omega) (by omega) c0 c1, put_eq' (by omega) (by omega) d0 d1, wrap_u32, wrap_u64]
  omega
theorem byt_all (v : Int) : byt v 0 = v % 256 ∧ byt v 8 = v / 256 % 256 ∧ byt v 16 = v / 65536 % 256 ∧ byt v 24 = v / 16777216 % 256 ∧ byt v 32 = v / 4294967296 % 256 ∧ byt v 40 = v / 1099511627776 % 256 ∧ byt v 48 = v / 281474976710656 % 256 ∧ byt v 56 = v / 72057594037927936 % 256 := by
  have p0 : (2 : Int) ^ 0 = 1 := by decide
  have p1 : (2 : Int) ^ 8 = 256 := by decide
  have p2 : (2 : Int) ^ 16 = 65536 := by decide
  have p3 : (2 : Int) ^ 24 = 16777216 := by decide
  have p4 : (2 : Int) ^ 32 = 4294967296 := by decide
  have p5 : (2 : Int) ^ 40 = 1099511627776 := by decide
  have p6 : (2 : Int) ^ 48 = 281474976710656 := by decide
  have p7 : (2 : Int) ^ 56 = 72057594037927936 := by decide
  rw [byt_eq, byt_eq, byt_eq, byt_eq, byt_eq, byt_eq, byt_eq, byt_eq, p0, p1, p2, p3, p4, p5, p6, p7, Int.ediv_one]
  exact ⟨rfl, rfl, rfl, rfl, rfl, rfl, rfl, rfl⟩
theorem parts {v : Int} (h0 : 0 ≤ v) (h1 : v < 18446744073709551616) :
    (v / 72057594037927936 % 256 * 16777216 + v / 281474976710656 % 256 * 65536 + v / 1099511627776 % 256 * 256 + v / 4294967296 % 256) * 4294967296 + (v / 16777216 % 256 * 16777216 + v / 65536 % 256 * 65536 + v / 256 % 256 * 256 + v % 256) = v := by omega
theorem form_true {v : Int} (h0 : 0 ≤ v) (h1 : v < 18446744073709551616) : form v = true := by
  have hs : ∀ k K, same v k K = K := fun k K => by unfold same c; simp
  obtain ⟨b0, b1, b2, b3, b4, b5, b6, b7⟩ := byt_all v
  have e0 : four v 0 = v / 16777216 % 256 * 16777216 + v / 65536 % 256 * 65536 + v / 256 % 256 * 256 + v % 256 := by rw [four_eq, ← b0, ← b1, ← b2, ← b3]
  have e1 : four v 32 = v / 72057594037927936 % 256 * 16777216 + v / 281474976710656 % 256 * 65536 + v / 1099511627776 % 256 * 256 + v / 4294967296 % 256 := by rw [four_eq, ← b4, ← b5, ← b6, ← b7]
  have hlo : 0 ≤ four v 0 ∧ four v 0 < 4294967296 := by rw [e0]; omega
  have hhi : 0 ≤ four v 32 ∧ four v 32 < 4294967296 := by rw [e1]; omega
  have p4 : (2 : Int) ^ 32 = 4294967296 := by decide
  unfold form
  rw [hs, hs, hs, hs, hs, hs, hs, hs, or_comm, p4]
  have ew : IntKind.u64.wrap (four v 32 * 4294967296) = four v 32 * 4294967296 := by rw [wrap_u64]; omega
  rw [ew, or_32 hhi.1 hlo.1 hlo.2 (by omega), beq_iff_eq, e0, e1]
  exact parts h0 h1
theorem formula (m : Nat) (v : Int) : ∀ r : Nat, r < 64 → lawI Try.prog D 100 3 [.md .u64 m [(r, 64)], .raw (.int .u64 v)] [] = form v
  | 0, _ => f0 m v
  | 1, _ => f1 m v
  | 2, _ => f2 m v
  | 3, _ => f3 m v
  | 4, _ => f4 m v
  | 5, _ => f5 m v
  | 6, _ => f6 m v
  | 7, _ => f7 m v
  | 8, _ => f8 m v
  | 9, _ => f9 m v
  | 10, _ => f10 m v
  | 11, _ => f11 m v
  | 12, _ => f12 m v
  | 13, _ => f13 m v
  | 14, _ => f14 m v
  | 15, _ => f15 m v
  | 16, _ => f16 m v
  | 17, _ => f17 m v
  | 18, _ => f18 m v
  | 19, _ => f19 m v
  | 20, _ => f20 m v
  | 21, _ => f21 m v
  | 22, _ => f22 m v
  | 23, _ => f23 m v
  | 24, _ => f24 m v
  | 25, _ => f25 m v
  | 26, _ => f26 m v
  | 27, _ => f27 m v
  | 28, _ => f28 m v
  | 29, _ => f29 m v
  | 30, _ => f30 m v
  | 31, _ => f31 m v
  | 32, _ => f32 m v
  | 33, _ => f33 m v
  | 34, _ => f34 m v
  | 35, _ => f35 m v
  | 36, _ => f36 m v
  | 37, _ => f37 m v
  | 38, _ => f38 m v
  | 39, _ => f39 m v
  | 40, _ => f40 m v
  | 41, _ => f41 m v
  | 42, _ => f42 m v
  | 43, _ => f43 m v
  | 44, _ => f44 m v
  | 45, _ => f45 m v
  | 46, _ => f46 m v
  | 47, _ => f47 m v
  | 48, _ => f48 m v
  | 49, _ => f49 m v
  | 50, _ => f50 m v
  | 51, _ => f51 m v
  | 52, _ => f52 m v
  | 53, _ => f53 m v
  | 54, _ => f54 m v
  | 55, _ => f55 m v
  | 56, _ => f56 m v
  | 57, _ => f57 m v
  | 58, _ => f58 m v
  | 59, _ => f59 m v
  | 60, _ => f60 m v
  | 61, _ => f61 m v
  | 62, _ => f62 m v
  | 63, _ => f63 m v
  | k + 64, h => absurd h (by omega)
theorem law_call (args : List V) (h : argsOk aks args) : CallOk Try.prog 3 args [] fun r _ => r = .ret (.raw (.bool true)) := by
  obtain ⟨a, r1, rfl, ha, h1⟩ := argsOk_int h
  obtain ⟨v, r2, rfl, hv, h2⟩ := argsOk_int h1
  cases argsOk_nil h2
  have ha' : 0 ≤ a ∧ a ≤ 18446744073709551615 := by simpa [Lit.wf, IntKind.min, IntKind.max, IntKind.signed, IntKind.bits] using ha
  have hv' : 0 ≤ v ∧ v < 18446744073709551616 := by
    have : 0 ≤ v ∧ v ≤ 18446744073709551615 := by simpa [Lit.wf, IntKind.min, IntKind.max, IntKind.signed, IntKind.bits] using hv
    omega
  obtain ⟨n, rfl⟩ := Int.eq_ofNat_of_zero_le ha'.1
  refine CallOk.same (args' := [.md .u64 (n / 64) [(n % 64, 64)], .raw (.int .u64 v)]) (fun ρ => ?_) ⟨trivial, trivial, trivial⟩ (lawI_sound (D := D) (n := 100) hD names mixed ((formula (n / 64) v (n % 64) (Nat.mod_lt _ (by decide))).trans (form_true hv'.1 hv'.2)))
  have : mdVal (n / 64) [(n % 64, 64)] = n := by simp only [mdVal]; omega
  simp only [absL, V.abs, this]
end Go.Proofs.Ytecclemkfdibbaa.memBytes
