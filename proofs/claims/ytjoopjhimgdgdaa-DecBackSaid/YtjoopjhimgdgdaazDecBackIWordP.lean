/- What the lays of an instruction's fields come to: sums. Printed by genword.py. -/
import Derived.Test.YtjoopjhimgdgdaazDecBackINum
import Derived.Test.YtjoopjhimgdgdaazDecBackIChk
namespace Go.Proofs.Ytjoopjhimgdgdaa.isa
open Go Go.Proofs Go.Proofs.YtjoopjhimgdgdaaRL
set_option linter.unusedVariables false
set_option linter.unusedSimpArgs false
/-- What a DMB's word has of its Imm. -/
def bar (imm : Int) : Int := if imm = 0 then 11 else if imm = 1 then 9 else if imm = 2 then 10 else 0
/-- The word of an instruction of op k that may be. -/
def wordP (k : Nat) (d n m a c imm : Int) : Int := match k with
  | 0 => 0 + imm
  | 1 => 3573751839
  | 2 => 3531603968 + m * 2097152 + imm * 32 + d
  | 3 => 4068474880 + m * 2097152 + imm * 32 + d
  | 4 => 2432696320 + n * 32 + imm * 1024 + d
  | 5 => 3506438144 + n * 32 + imm * 1024 + d
  | 6 => 4043309056 + n * 32 + imm * 1024 + d
  | 7 => 2332033024 + n * 32 + m * 65536 + d
  | 8 => 3405774848 + n * 32 + m * 65536 + d
  | 9 => 3942645760 + n * 32 + m * 65536 + d
  | 10 => 2315255808 + n * 32 + m * 65536 + d
  | 11 => 2852126720 + n * 32 + m * 65536 + d
  | 12 => 3388997632 + n * 32 + m * 65536 + d
  | 13 => 2600468480 + n * 32 + m * 65536 + a * 1024 + d
  | 14 => 2600501248 + n * 32 + m * 65536 + a * 1024 + d
  | 15 => 2596277248 + n * 32 + m * 65536 + d
  | 16 => 2596282368 + n * 32 + m * 65536 + d
  | 17 => 2596283392 + n * 32 + m * 65536 + d
  | 18 => 2596284416 + n * 32 + m * 65536 + d
  | 19 => 2592080896 + n * 32 + c * 4096 + m * 65536 + d
  | 20 => 335544320 + ((imm / 4) % 67108864)
  | 21 => 1409286144 + ((imm / 4) % 524288) * 32 + c
  | 22 => 3019898880 + ((imm / 4) % 524288) * 32 + d
  | 23 => 3036676096 + ((imm / 4) % 524288) * 32 + d
  | 24 => 2483027968 + ((imm / 4) % 67108864)
  | 25 => 3592355840 + n * 32
  | 26 => 3594452992 + n * 32
  | 27 => 3596550144 + n * 32
  | 28 => 4181721088 + n * 32 + (imm / 8) * 1024 + d
  | 29 => 4177526784 + n * 32 + (imm / 8) * 1024 + d
  | 30 => 960495616 + n * 32 + imm * 1024 + d
  | 31 => 4167071744 + n * 32 + m * 65536 + d
  | 32 => 4162877440 + n * 32 + m * 65536 + d
  | 33 => 3370122240 + n * 32 + d
  | 34 => 3365927936 + n * 32 + d
  | 35 => 3361700864 + n * 32 + d
  | 36 => 3355474944 + d * 65536 + n * 32 + m
  | 37 => 3573756095 + (bar imm) * 256
  | 38 => 3573758879
  | 39 => 3573759967
  | 40 => 3574299424 + n
  | 41 => 3574297888 + n
  | 42 => 3556769793 + imm * 32
  | _ => 0
/-- An instruction's word. -/
def wordV (op d n m a c imm : Int) : Int := if okI op d n m a c imm then wordP op.toNat d n m a c imm else 0
theorem put_add {w v : Int} (lo n : Nat) (m p m2 M : Int) (hM : M = ((2 ^ n : Nat) : Int)) (hm : m = (((2 ^ n - 1) * 2 ^ lo : Nat) : Int)) (hp : p = ((2 ^ lo : Nat) : Int)) (hm2 : m2 = ((2 ^ n - 1 : Nat) : Int)) (hl : n + lo ≤ 32) (w0 : 0 ≤ w) (w1 : w < 4294967296) (hz : w / p % M = 0) :
    putM w m p m2 (IntKind.u32.wrap v) = w + v % M * p := by
  subst hM
  have e : IntKind.u32.wrap v % ((2 ^ n : Nat) : Int) = v % ((2 ^ n : Nat) : Int) := by
    rw [wrap_u32]
    refine Int.emod_emod_of_dvd v ?_
    have : (4294967296 : Int) = ((2 ^ 32 : Nat) : Int) := rfl
    rw [this]
    exact Int.natCast_dvd_natCast.2 (Nat.pow_dvd_pow 2 (by omega))
  have b := wrap_u32 v
  rw [putM_eq lo n hm hp hm2 hl w0 w1 (by omega) (by omega), hz, e]
  omega
/-- The word as the code lays it. -/
def encM (k : Nat) (d n m a c imm : Int) : Int := match k with
  | 0 => putM (0) 65535 1 65535 (IntKind.u32.wrap (imm))
  | 1 => 3573751839
  | 2 => putM (putM (putM (3531603968) 6291456 2097152 3 (IntKind.u32.wrap (m))) 2097120 32 65535 (IntKind.u32.wrap (imm))) 31 1 31 (IntKind.u32.wrap (d))
  | 3 => putM (putM (putM (4068474880) 6291456 2097152 3 (IntKind.u32.wrap (m))) 2097120 32 65535 (IntKind.u32.wrap (imm))) 31 1 31 (IntKind.u32.wrap (d))
  | 4 => putM (putM (putM (2432696320) 992 32 31 (IntKind.u32.wrap (n))) 4193280 1024 4095 (IntKind.u32.wrap (imm))) 31 1 31 (IntKind.u32.wrap (d))
  | 5 => putM (putM (putM (3506438144) 992 32 31 (IntKind.u32.wrap (n))) 4193280 1024 4095 (IntKind.u32.wrap (imm))) 31 1 31 (IntKind.u32.wrap (d))
  | 6 => putM (putM (putM (4043309056) 992 32 31 (IntKind.u32.wrap (n))) 4193280 1024 4095 (IntKind.u32.wrap (imm))) 31 1 31 (IntKind.u32.wrap (d))
  | 7 => putM (putM (putM (2332033024) 992 32 31 (IntKind.u32.wrap (n))) 2031616 65536 31 (IntKind.u32.wrap (m))) 31 1 31 (IntKind.u32.wrap (d))
  | 8 => putM (putM (putM (3405774848) 992 32 31 (IntKind.u32.wrap (n))) 2031616 65536 31 (IntKind.u32.wrap (m))) 31 1 31 (IntKind.u32.wrap (d))
  | 9 => putM (putM (putM (3942645760) 992 32 31 (IntKind.u32.wrap (n))) 2031616 65536 31 (IntKind.u32.wrap (m))) 31 1 31 (IntKind.u32.wrap (d))
  | 10 => putM (putM (putM (2315255808) 992 32 31 (IntKind.u32.wrap (n))) 2031616 65536 31 (IntKind.u32.wrap (m))) 31 1 31 (IntKind.u32.wrap (d))
  | 11 => putM (putM (putM (2852126720) 992 32 31 (IntKind.u32.wrap (n))) 2031616 65536 31 (IntKind.u32.wrap (m))) 31 1 31 (IntKind.u32.wrap (d))
  | 12 => putM (putM (putM (3388997632) 992 32 31 (IntKind.u32.wrap (n))) 2031616 65536 31 (IntKind.u32.wrap (m))) 31 1 31 (IntKind.u32.wrap (d))
  | 13 => putM (putM (putM (putM (2600468480) 992 32 31 (IntKind.u32.wrap (n))) 2031616 65536 31 (IntKind.u32.wrap (m))) 31744 1024 31 (IntKind.u32.wrap (a))) 31 1 31 (IntKind.u32.wrap (d))
  | 14 => putM (putM (putM (putM (2600501248) 992 32 31 (IntKind.u32.wrap (n))) 2031616 65536 31 (IntKind.u32.wrap (m))) 31744 1024 31 (IntKind.u32.wrap (a))) 31 1 31 (IntKind.u32.wrap (d))
  | 15 => putM (putM (putM (2596277248) 992 32 31 (IntKind.u32.wrap (n))) 2031616 65536 31 (IntKind.u32.wrap (m))) 31 1 31 (IntKind.u32.wrap (d))
  | 16 => putM (putM (putM (2596282368) 992 32 31 (IntKind.u32.wrap (n))) 2031616 65536 31 (IntKind.u32.wrap (m))) 31 1 31 (IntKind.u32.wrap (d))
  | 17 => putM (putM (putM (2596283392) 992 32 31 (IntKind.u32.wrap (n))) 2031616 65536 31 (IntKind.u32.wrap (m))) 31 1 31 (IntKind.u32.wrap (d))
  | 18 => putM (putM (putM (2596284416) 992 32 31 (IntKind.u32.wrap (n))) 2031616 65536 31 (IntKind.u32.wrap (m))) 31 1 31 (IntKind.u32.wrap (d))
  | 19 => putM (putM (putM (putM (2592080896) 992 32 31 (IntKind.u32.wrap (n))) 61440 4096 15 (IntKind.u32.wrap (c))) 2031616 65536 31 (IntKind.u32.wrap (m))) 31 1 31 (IntKind.u32.wrap (d))
  | 20 => putM (335544320) 67108863 1 67108863 (IntKind.u32.wrap (IntKind.i64.wrap (imm.tdiv 4)))
  | 21 => putM (putM (1409286144) 16777184 32 524287 (IntKind.u32.wrap (IntKind.i64.wrap (imm.tdiv 4)))) 15 1 15 (IntKind.u32.wrap (c))
  | 22 => putM (putM (3019898880) 16777184 32 524287 (IntKind.u32.wrap (IntKind.i64.wrap (imm.tdiv 4)))) 31 1 31 (IntKind.u32.wrap (d))
  | 23 => putM (putM (3036676096) 16777184 32 524287 (IntKind.u32.wrap (IntKind.i64.wrap (imm.tdiv 4)))) 31 1 31 (IntKind.u32.wrap (d))
  | 24 => putM (2483027968) 67108863 1 67108863 (IntKind.u32.wrap (IntKind.i64.wrap (imm.tdiv 4)))
  | 25 => putM (3592355840) 992 32 31 (IntKind.u32.wrap (n))
  | 26 => putM (3594452992) 992 32 31 (IntKind.u32.wrap (n))
  | 27 => putM (3596550144) 992 32 31 (IntKind.u32.wrap (n))
  | 28 => putM (putM (putM (4181721088) 992 32 31 (IntKind.u32.wrap (n))) 4193280 1024 4095 (IntKind.u32.wrap (IntKind.i64.wrap (imm.tdiv 8)))) 31 1 31 (IntKind.u32.wrap (d))
  | 29 => putM (putM (putM (4177526784) 992 32 31 (IntKind.u32.wrap (n))) 4193280 1024 4095 (IntKind.u32.wrap (IntKind.i64.wrap (imm.tdiv 8)))) 31 1 31 (IntKind.u32.wrap (d))
  | 30 => putM (putM (putM (960495616) 992 32 31 (IntKind.u32.wrap (n))) 4193280 1024 4095 (IntKind.u32.wrap (imm))) 31 1 31 (IntKind.u32.wrap (d))
  | 31 => putM (putM (putM (4167071744) 992 32 31 (IntKind.u32.wrap (n))) 2031616 65536 31 (IntKind.u32.wrap (m))) 31 1 31 (IntKind.u32.wrap (d))
  | 32 => putM (putM (putM (4162877440) 992 32 31 (IntKind.u32.wrap (n))) 2031616 65536 31 (IntKind.u32.wrap (m))) 31 1 31 (IntKind.u32.wrap (d))
  | 33 => putM (putM (3370122240) 992 32 31 (IntKind.u32.wrap (n))) 31 1 31 (IntKind.u32.wrap (d))
  | 34 => putM (putM (3365927936) 992 32 31 (IntKind.u32.wrap (n))) 31 1 31 (IntKind.u32.wrap (d))
  | 35 => putM (putM (3361700864) 992 32 31 (IntKind.u32.wrap (n))) 31 1 31 (IntKind.u32.wrap (d))
  | 36 => putM (putM (putM (3355474944) 2031616 65536 31 (IntKind.u32.wrap (d))) 992 32 31 (IntKind.u32.wrap (n))) 31 1 31 (IntKind.u32.wrap (m))
  | 38 => 3573758879
  | 39 => 3573759967
  | 40 => putM (3574299424) 31 1 31 (IntKind.u32.wrap (n))
  | 41 => putM (3574297888) 31 1 31 (IntKind.u32.wrap (n))
  | 42 => putM (3556769793) 2097120 32 65535 (IntKind.u32.wrap (imm))
  | _ => 0
theorem tdiv4 {imm : Int} (h : imm % 4 = 0) (h0 : -134217728 ≤ imm) (h1 : imm < 134217728) : IntKind.i64.wrap (imm.tdiv 4) = imm / 4 := by
  have : imm.tdiv 4 = imm / 4 := by
    obtain ⟨q, rfl⟩ : ∃ q, imm = q * 4 := ⟨imm / 4, by omega⟩
    rw [Int.mul_tdiv_cancel _ (by omega), Int.mul_ediv_cancel _ (by omega)]
  rw [this, wrap_i64_in (by omega) (by omega)]
theorem tdiv8 {imm : Int} (h0 : 0 ≤ imm) (h1 : imm < 32768) : IntKind.i64.wrap (imm.tdiv 8) = imm / 8 := by
  rw [Int.tdiv_eq_ediv_of_nonneg h0, wrap_i64_in (by omega) (by omega)]
theorem enc_0 {d n m a c imm : Int} (h : okP 0 d n m a c imm) : encM 0 d n m a c imm = wordP 0 d n m a c imm := by
  obtain ⟨hd, hn, hm, ha, hc, hz, hi⟩ : d = 0 ∧ n = 0 ∧ m = 0 ∧ a = 0 ∧ c = 0 ∧ True ∧ (0 ≤ imm ∧ imm < 65536) := h
  show putM (0) 65535 1 65535 (IntKind.u32.wrap (imm)) = 0 + imm
  rw [put_add 0 16 65535 1 65535 65536 rfl rfl rfl rfl (by omega) (by omega) (by omega) (by omega)]
  omega
theorem enc_1 {d n m a c imm : Int} (h : okP 1 d n m a c imm) : encM 1 d n m a c imm = wordP 1 d n m a c imm := by
  rfl
theorem enc_2 {d n m a c imm : Int} (h : okP 2 d n m a c imm) : encM 2 d n m a c imm = wordP 2 d n m a c imm := by
  obtain ⟨hd, hn, hm, ha, hc, hz, hi⟩ : (0 ≤ d ∧ d ≤ 31) ∧ n = 0 ∧ (0 ≤ m ∧ m ≤ 31) ∧ a = 0 ∧ c = 0 ∧ True ∧ (0 ≤ imm ∧ imm < 65536 ∧ m ≤ 3) := h
  show putM (putM (putM (3531603968) 6291456 2097152 3 (IntKind.u32.wrap (m))) 2097120 32 65535 (IntKind.u32.wrap (imm))) 31 1 31 (IntKind.u32.wrap (d)) = 3531603968 + m * 2097152 + imm * 32 + d
  rw [put_add 21 2 6291456 2097152 3 4 rfl rfl rfl rfl (by omega) (by omega) (by omega) (by omega)]
  rw [put_add 5 16 2097120 32 65535 65536 rfl rfl rfl rfl (by omega) (by omega) (by omega) (by omega)]
  rw [put_add 0 5 31 1 31 32 rfl rfl rfl rfl (by omega) (by omega) (by omega) (by omega)]
  omega
theorem enc_3 {d n m a c imm : Int} (h : okP 3 d n m a c imm) : encM 3 d n m a c imm = wordP 3 d n m a c imm := by
  obtain ⟨hd, hn, hm, ha, hc, hz, hi⟩ : (0 ≤ d ∧ d ≤ 31) ∧ n = 0 ∧ (0 ≤ m ∧ m ≤ 31) ∧ a = 0 ∧ c = 0 ∧ True ∧ (0 ≤ imm ∧ imm < 65536 ∧ m ≤ 3) := h
  show putM (putM (putM (4068474880) 6291456 2097152 3 (IntKind.u32.wrap (m))) 2097120 32 65535 (IntKind.u32.wrap (imm))) 31 1 31 (IntKind.u32.wrap (d)) = 4068474880 + m * 2097152 + imm * 32 + d
  rw [put_add 21 2 6291456 2097152 3 4 rfl rfl rfl rfl (by omega) (by omega) (by omega) (by omega)]
  rw [put_add 5 16 2097120 32 65535 65536 rfl rfl rfl rfl (by omega) (by omega) (by omega) (by omega)]
  rw [put_add 0 5 31 1 31 32 rfl rfl rfl rfl (by omega) (by omega) (by omega) (by omega)]
  omega
theorem enc_4 {d n m a c imm : Int} (h : okP 4 d n m a c imm) : encM 4 d n m a c imm = wordP 4 d n m a c imm := by
  obtain ⟨hd, hn, hm, ha, hc, hz, hi⟩ : (0 ≤ d ∧ d ≤ 31) ∧ (0 ≤ n ∧ n ≤ 31) ∧ m = 0 ∧ a = 0 ∧ c = 0 ∧ True ∧ (0 ≤ imm ∧ imm < 4096) := h
  show putM (putM (putM (2432696320) 992 32 31 (IntKind.u32.wrap (n))) 4193280 1024 4095 (IntKind.u32.wrap (imm))) 31 1 31 (IntKind.u32.wrap (d)) = 2432696320 + n * 32 + imm * 1024 + d
  rw [put_add 5 5 992 32 31 32 rfl rfl rfl rfl (by omega) (by omega) (by omega) (by omega)]
  rw [put_add 10 12 4193280 1024 4095 4096 rfl rfl rfl rfl (by omega) (by omega) (by omega) (by omega)]
  rw [put_add 0 5 31 1 31 32 rfl rfl rfl rfl (by omega) (by omega) (by omega) (by omega)]
  omega
theorem enc_5 {d n m a c imm : Int} (h : okP 5 d n m a c imm) : encM 5 d n m a c imm = wordP 5 d n m a c imm := by
  obtain ⟨hd, hn, hm, ha, hc, hz, hi⟩ : (0 ≤ d ∧ d ≤ 31) ∧ (0 ≤ n ∧ n ≤ 31) ∧ m = 0 ∧ a = 0 ∧ c = 0 ∧ True ∧ (0 ≤ imm ∧ imm < 4096) := h
  show putM (putM (putM (3506438144) 992 32 31 (IntKind.u32.wrap (n))) 4193280 1024 4095 (IntKind.u32.wrap (imm))) 31 1 31 (IntKind.u32.wrap (d)) = 3506438144 + n * 32 + imm * 1024 + d
  rw [put_add 5 5 992 32 31 32 rfl rfl rfl rfl (by omega) (by omega) (by omega) (by omega)]
  rw [put_add 10 12 4193280 1024 4095 4096 rfl rfl rfl rfl (by omega) (by omega) (by omega) (by omega)]
  rw [put_add 0 5 31 1 31 32 rfl rfl rfl rfl (by omega) (by omega) (by omega) (by omega)]
  omega
theorem enc_6 {d n m a c imm : Int} (h : okP 6 d n m a c imm) : encM 6 d n m a c imm = wordP 6 d n m a c imm := by
  obtain ⟨hd, hn, hm, ha, hc, hz, hi⟩ : (0 ≤ d ∧ d ≤ 31) ∧ (0 ≤ n ∧ n ≤ 31) ∧ m = 0 ∧ a = 0 ∧ c = 0 ∧ True ∧ (0 ≤ imm ∧ imm < 4096) := h
  show putM (putM (putM (4043309056) 992 32 31 (IntKind.u32.wrap (n))) 4193280 1024 4095 (IntKind.u32.wrap (imm))) 31 1 31 (IntKind.u32.wrap (d)) = 4043309056 + n * 32 + imm * 1024 + d
  rw [put_add 5 5 992 32 31 32 rfl rfl rfl rfl (by omega) (by omega) (by omega) (by omega)]
  rw [put_add 10 12 4193280 1024 4095 4096 rfl rfl rfl rfl (by omega) (by omega) (by omega) (by omega)]
  rw [put_add 0 5 31 1 31 32 rfl rfl rfl rfl (by omega) (by omega) (by omega) (by omega)]
  omega
theorem enc_7 {d n m a c imm : Int} (h : okP 7 d n m a c imm) : encM 7 d n m a c imm = wordP 7 d n m a c imm := by
  obtain ⟨hd, hn, hm, ha, hc, hz, hi⟩ : (0 ≤ d ∧ d ≤ 31) ∧ (0 ≤ n ∧ n ≤ 31) ∧ (0 ≤ m ∧ m ≤ 31) ∧ a = 0 ∧ c = 0 ∧ imm = 0 ∧ (True) := h
  show putM (putM (putM (2332033024) 992 32 31 (IntKind.u32.wrap (n))) 2031616 65536 31 (IntKind.u32.wrap (m))) 31 1 31 (IntKind.u32.wrap (d)) = 2332033024 + n * 32 + m * 65536 + d
  rw [put_add 5 5 992 32 31 32 rfl rfl rfl rfl (by omega) (by omega) (by omega) (by omega)]
  rw [put_add 16 5 2031616 65536 31 32 rfl rfl rfl rfl (by omega) (by omega) (by omega) (by omega)]
  rw [put_add 0 5 31 1 31 32 rfl rfl rfl rfl (by omega) (by omega) (by omega) (by omega)]
  omega
theorem enc_8 {d n m a c imm : Int} (h : okP 8 d n m a c imm) : encM 8 d n m a c imm = wordP 8 d n m a c imm := by
  obtain ⟨hd, hn, hm, ha, hc, hz, hi⟩ : (0 ≤ d ∧ d ≤ 31) ∧ (0 ≤ n ∧ n ≤ 31) ∧ (0 ≤ m ∧ m ≤ 31) ∧ a = 0 ∧ c = 0 ∧ imm = 0 ∧ (True) := h
  show putM (putM (putM (3405774848) 992 32 31 (IntKind.u32.wrap (n))) 2031616 65536 31 (IntKind.u32.wrap (m))) 31 1 31 (IntKind.u32.wrap (d)) = 3405774848 + n * 32 + m * 65536 + d
  rw [put_add 5 5 992 32 31 32 rfl rfl rfl rfl (by omega) (by omega) (by omega) (by omega)]
  rw [put_add 16 5 2031616 65536 31 32 rfl rfl rfl rfl (by omega) (by omega) (by omega) (by omega)]
  rw [put_add 0 5 31 1 31 32 rfl rfl rfl rfl (by omega) (by omega) (by omega) (by omega)]
  omega
theorem enc_9 {d n m a c imm : Int} (h : okP 9 d n m a c imm) : encM 9 d n m a c imm = wordP 9 d n m a c imm := by
  obtain ⟨hd, hn, hm, ha, hc, hz, hi⟩ : (0 ≤ d ∧ d ≤ 31) ∧ (0 ≤ n ∧ n ≤ 31) ∧ (0 ≤ m ∧ m ≤ 31) ∧ a = 0 ∧ c = 0 ∧ imm = 0 ∧ (True) := h
  show putM (putM (putM (3942645760) 992 32 31 (IntKind.u32.wrap (n))) 2031616 65536 31 (IntKind.u32.wrap (m))) 31 1 31 (IntKind.u32.wrap (d)) = 3942645760 + n * 32 + m * 65536 + d
  rw [put_add 5 5 992 32 31 32 rfl rfl rfl rfl (by omega) (by omega) (by omega) (by omega)]
  rw [put_add 16 5 2031616 65536 31 32 rfl rfl rfl rfl (by omega) (by omega) (by omega) (by omega)]
  rw [put_add 0 5 31 1 31 32 rfl rfl rfl rfl (by omega) (by omega) (by omega) (by omega)]
  omega
theorem enc_10 {d n m a c imm : Int} (h : okP 10 d n m a c imm) : encM 10 d n m a c imm = wordP 10 d n m a c imm := by
  obtain ⟨hd, hn, hm, ha, hc, hz, hi⟩ : (0 ≤ d ∧ d ≤ 31) ∧ (0 ≤ n ∧ n ≤ 31) ∧ (0 ≤ m ∧ m ≤ 31) ∧ a = 0 ∧ c = 0 ∧ imm = 0 ∧ (True) := h
  show putM (putM (putM (2315255808) 992 32 31 (IntKind.u32.wrap (n))) 2031616 65536 31 (IntKind.u32.wrap (m))) 31 1 31 (IntKind.u32.wrap (d)) = 2315255808 + n * 32 + m * 65536 + d
  rw [put_add 5 5 992 32 31 32 rfl rfl rfl rfl (by omega) (by omega) (by omega) (by omega)]
  rw [put_add 16 5 2031616 65536 31 32 rfl rfl rfl rfl (by omega) (by omega) (by omega) (by omega)]
  rw [put_add 0 5 31 1 31 32 rfl rfl rfl rfl (by omega) (by omega) (by omega) (by omega)]
  omega
theorem enc_11 {d n m a c imm : Int} (h : okP 11 d n m a c imm) : encM 11 d n m a c imm = wordP 11 d n m a c imm := by
  obtain ⟨hd, hn, hm, ha, hc, hz, hi⟩ : (0 ≤ d ∧ d ≤ 31) ∧ (0 ≤ n ∧ n ≤ 31) ∧ (0 ≤ m ∧ m ≤ 31) ∧ a = 0 ∧ c = 0 ∧ imm = 0 ∧ (True) := h
  show putM (putM (putM (2852126720) 992 32 31 (IntKind.u32.wrap (n))) 2031616 65536 31 (IntKind.u32.wrap (m))) 31 1 31 (IntKind.u32.wrap (d)) = 2852126720 + n * 32 + m * 65536 + d
  rw [put_add 5 5 992 32 31 32 rfl rfl rfl rfl (by omega) (by omega) (by omega) (by omega)]
  rw [put_add 16 5 2031616 65536 31 32 rfl rfl rfl rfl (by omega) (by omega) (by omega) (by omega)]
  rw [put_add 0 5 31 1 31 32 rfl rfl rfl rfl (by omega) (by omega) (by omega) (by omega)]
  omega
theorem enc_12 {d n m a c imm : Int} (h : okP 12 d n m a c imm) : encM 12 d n m a c imm = wordP 12 d n m a c imm := by
  obtain ⟨hd, hn, hm, ha, hc, hz, hi⟩ : (0 ≤ d ∧ d ≤ 31) ∧ (0 ≤ n ∧ n ≤ 31) ∧ (0 ≤ m ∧ m ≤ 31) ∧ a = 0 ∧ c = 0 ∧ imm = 0 ∧ (True) := h
  show putM (putM (putM (3388997632) 992 32 31 (IntKind.u32.wrap (n))) 2031616 65536 31 (IntKind.u32.wrap (m))) 31 1 31 (IntKind.u32.wrap (d)) = 3388997632 + n * 32 + m * 65536 + d
  rw [put_add 5 5 992 32 31 32 rfl rfl rfl rfl (by omega) (by omega) (by omega) (by omega)]
  rw [put_add 16 5 2031616 65536 31 32 rfl rfl rfl rfl (by omega) (by omega) (by omega) (by omega)]
  rw [put_add 0 5 31 1 31 32 rfl rfl rfl rfl (by omega) (by omega) (by omega) (by omega)]
  omega
theorem enc_13 {d n m a c imm : Int} (h : okP 13 d n m a c imm) : encM 13 d n m a c imm = wordP 13 d n m a c imm := by
  obtain ⟨hd, hn, hm, ha, hc, hz, hi⟩ : (0 ≤ d ∧ d ≤ 31) ∧ (0 ≤ n ∧ n ≤ 31) ∧ (0 ≤ m ∧ m ≤ 31) ∧ (0 ≤ a ∧ a ≤ 31) ∧ c = 0 ∧ imm = 0 ∧ (True) := h
  show putM (putM (putM (putM (2600468480) 992 32 31 (IntKind.u32.wrap (n))) 2031616 65536 31 (IntKind.u32.wrap (m))) 31744 1024 31 (IntKind.u32.wrap (a))) 31 1 31 (IntKind.u32.wrap (d)) = 2600468480 + n * 32 + m * 65536 + a * 1024 + d
  rw [put_add 5 5 992 32 31 32 rfl rfl rfl rfl (by omega) (by omega) (by omega) (by omega)]
  rw [put_add 16 5 2031616 65536 31 32 rfl rfl rfl rfl (by omega) (by omega) (by omega) (by omega)]
  rw [put_add 10 5 31744 1024 31 32 rfl rfl rfl rfl (by omega) (by omega) (by omega) (by omega)]
  rw [put_add 0 5 31 1 31 32 rfl rfl rfl rfl (by omega) (by omega) (by omega) (by omega)]
  omega
theorem enc_14 {d n m a c imm : Int} (h : okP 14 d n m a c imm) : encM 14 d n m a c imm = wordP 14 d n m a c imm := by
  obtain ⟨hd, hn, hm, ha, hc, hz, hi⟩ : (0 ≤ d ∧ d ≤ 31) ∧ (0 ≤ n ∧ n ≤ 31) ∧ (0 ≤ m ∧ m ≤ 31) ∧ (0 ≤ a ∧ a ≤ 31) ∧ c = 0 ∧ imm = 0 ∧ (True) := h
  show putM (putM (putM (putM (2600501248) 992 32 31 (IntKind.u32.wrap (n))) 2031616 65536 31 (IntKind.u32.wrap (m))) 31744 1024 31 (IntKind.u32.wrap (a))) 31 1 31 (IntKind.u32.wrap (d)) = 2600501248 + n * 32 + m * 65536 + a * 1024 + d
  rw [put_add 5 5 992 32 31 32 rfl rfl rfl rfl (by omega) (by omega) (by omega) (by omega)]
  rw [put_add 16 5 2031616 65536 31 32 rfl rfl rfl rfl (by omega) (by omega) (by omega) (by omega)]
  rw [put_add 10 5 31744 1024 31 32 rfl rfl rfl rfl (by omega) (by omega) (by omega) (by omega)]
  rw [put_add 0 5 31 1 31 32 rfl rfl rfl rfl (by omega) (by omega) (by omega) (by omega)]
  omega
theorem enc_15 {d n m a c imm : Int} (h : okP 15 d n m a c imm) : encM 15 d n m a c imm = wordP 15 d n m a c imm := by
  obtain ⟨hd, hn, hm, ha, hc, hz, hi⟩ : (0 ≤ d ∧ d ≤ 31) ∧ (0 ≤ n ∧ n ≤ 31) ∧ (0 ≤ m ∧ m ≤ 31) ∧ a = 0 ∧ c = 0 ∧ imm = 0 ∧ (True) := h
  show putM (putM (putM (2596277248) 992 32 31 (IntKind.u32.wrap (n))) 2031616 65536 31 (IntKind.u32.wrap (m))) 31 1 31 (IntKind.u32.wrap (d)) = 2596277248 + n * 32 + m * 65536 + d
  rw [put_add 5 5 992 32 31 32 rfl rfl rfl rfl (by omega) (by omega) (by omega) (by omega)]
  rw [put_add 16 5 2031616 65536 31 32 rfl rfl rfl rfl (by omega) (by omega) (by omega) (by omega)]
  rw [put_add 0 5 31 1 31 32 rfl rfl rfl rfl (by omega) (by omega) (by omega) (by omega)]
  omega
theorem enc_16 {d n m a c imm : Int} (h : okP 16 d n m a c imm) : encM 16 d n m a c imm = wordP 16 d n m a c imm := by
  obtain ⟨hd, hn, hm, ha, hc, hz, hi⟩ : (0 ≤ d ∧ d ≤ 31) ∧ (0 ≤ n ∧ n ≤ 31) ∧ (0 ≤ m ∧ m ≤ 31) ∧ a = 0 ∧ c = 0 ∧ imm = 0 ∧ (True) := h
  show putM (putM (putM (2596282368) 992 32 31 (IntKind.u32.wrap (n))) 2031616 65536 31 (IntKind.u32.wrap (m))) 31 1 31 (IntKind.u32.wrap (d)) = 2596282368 + n * 32 + m * 65536 + d
  rw [put_add 5 5 992 32 31 32 rfl rfl rfl rfl (by omega) (by omega) (by omega) (by omega)]
  rw [put_add 16 5 2031616 65536 31 32 rfl rfl rfl rfl (by omega) (by omega) (by omega) (by omega)]
  rw [put_add 0 5 31 1 31 32 rfl rfl rfl rfl (by omega) (by omega) (by omega) (by omega)]
  omega
theorem enc_17 {d n m a c imm : Int} (h : okP 17 d n m a c imm) : encM 17 d n m a c imm = wordP 17 d n m a c imm := by
  obtain ⟨hd, hn, hm, ha, hc, hz, hi⟩ : (0 ≤ d ∧ d ≤ 31) ∧ (0 ≤ n ∧ n ≤ 31) ∧ (0 ≤ m ∧ m ≤ 31) ∧ a = 0 ∧ c = 0 ∧ imm = 0 ∧ (True) := h
  show putM (putM (putM (2596283392) 992 32 31 (IntKind.u32.wrap (n))) 2031616 65536 31 (IntKind.u32.wrap (m))) 31 1 31 (IntKind.u32.wrap (d)) = 2596283392 + n * 32 + m * 65536 + d
  rw [put_add 5 5 992 32 31 32 rfl rfl rfl rfl (by omega) (by omega) (by omega) (by omega)]
  rw [put_add 16 5 2031616 65536 31 32 rfl rfl rfl rfl (by omega) (by omega) (by omega) (by omega)]
  rw [put_add 0 5 31 1 31 32 rfl rfl rfl rfl (by omega) (by omega) (by omega) (by omega)]
  omega
theorem enc_18 {d n m a c imm : Int} (h : okP 18 d n m a c imm) : encM 18 d n m a c imm = wordP 18 d n m a c imm := by
  obtain ⟨hd, hn, hm, ha, hc, hz, hi⟩ : (0 ≤ d ∧ d ≤ 31) ∧ (0 ≤ n ∧ n ≤ 31) ∧ (0 ≤ m ∧ m ≤ 31) ∧ a = 0 ∧ c = 0 ∧ imm = 0 ∧ (True) := h
  show putM (putM (putM (2596284416) 992 32 31 (IntKind.u32.wrap (n))) 2031616 65536 31 (IntKind.u32.wrap (m))) 31 1 31 (IntKind.u32.wrap (d)) = 2596284416 + n * 32 + m * 65536 + d
  rw [put_add 5 5 992 32 31 32 rfl rfl rfl rfl (by omega) (by omega) (by omega) (by omega)]
  rw [put_add 16 5 2031616 65536 31 32 rfl rfl rfl rfl (by omega) (by omega) (by omega) (by omega)]
  rw [put_add 0 5 31 1 31 32 rfl rfl rfl rfl (by omega) (by omega) (by omega) (by omega)]
  omega
theorem enc_19 {d n m a c imm : Int} (h : okP 19 d n m a c imm) : encM 19 d n m a c imm = wordP 19 d n m a c imm := by
  obtain ⟨hd, hn, hm, ha, hc, hz, hi⟩ : (0 ≤ d ∧ d ≤ 31) ∧ (0 ≤ n ∧ n ≤ 31) ∧ (0 ≤ m ∧ m ≤ 31) ∧ a = 0 ∧ (0 ≤ c ∧ c ≤ 15) ∧ imm = 0 ∧ (True) := h
  show putM (putM (putM (putM (2592080896) 992 32 31 (IntKind.u32.wrap (n))) 61440 4096 15 (IntKind.u32.wrap (c))) 2031616 65536 31 (IntKind.u32.wrap (m))) 31 1 31 (IntKind.u32.wrap (d)) = 2592080896 + n * 32 + c * 4096 + m * 65536 + d
  rw [put_add 5 5 992 32 31 32 rfl rfl rfl rfl (by omega) (by omega) (by omega) (by omega)]
  rw [put_add 12 4 61440 4096 15 16 rfl rfl rfl rfl (by omega) (by omega) (by omega) (by omega)]
  rw [put_add 16 5 2031616 65536 31 32 rfl rfl rfl rfl (by omega) (by omega) (by omega) (by omega)]
  rw [put_add 0 5 31 1 31 32 rfl rfl rfl rfl (by omega) (by omega) (by omega) (by omega)]
  omega
theorem enc_20 {d n m a c imm : Int} (h : okP 20 d n m a c imm) : encM 20 d n m a c imm = wordP 20 d n m a c imm := by
  obtain ⟨hd, hn, hm, ha, hc, hz, hi⟩ : d = 0 ∧ n = 0 ∧ m = 0 ∧ a = 0 ∧ c = 0 ∧ True ∧ (imm % 4 = 0 ∧ -134217728 ≤ imm ∧ imm < 134217728) := h
  show putM (335544320) 67108863 1 67108863 (IntKind.u32.wrap (IntKind.i64.wrap (imm.tdiv 4))) = 335544320 + ((imm / 4) % 67108864)
  rw [tdiv4 hi.1 (by omega) (by omega)]
  rw [put_add 0 26 67108863 1 67108863 67108864 rfl rfl rfl rfl (by omega) (by omega) (by omega) (by omega)]
  omega
theorem enc_21 {d n m a c imm : Int} (h : okP 21 d n m a c imm) : encM 21 d n m a c imm = wordP 21 d n m a c imm := by
  obtain ⟨hd, hn, hm, ha, hc, hz, hi⟩ : d = 0 ∧ n = 0 ∧ m = 0 ∧ a = 0 ∧ (0 ≤ c ∧ c ≤ 15) ∧ True ∧ (imm % 4 = 0 ∧ -1048576 ≤ imm ∧ imm < 1048576 ∧ c ≤ 13) := h
  show putM (putM (1409286144) 16777184 32 524287 (IntKind.u32.wrap (IntKind.i64.wrap (imm.tdiv 4)))) 15 1 15 (IntKind.u32.wrap (c)) = 1409286144 + ((imm / 4) % 524288) * 32 + c
  rw [tdiv4 hi.1 (by omega) (by omega)]
  rw [put_add 5 19 16777184 32 524287 524288 rfl rfl rfl rfl (by omega) (by omega) (by omega) (by omega)]
  rw [put_add 0 4 15 1 15 16 rfl rfl rfl rfl (by omega) (by omega) (by omega) (by omega)]
  omega
theorem enc_22 {d n m a c imm : Int} (h : okP 22 d n m a c imm) : encM 22 d n m a c imm = wordP 22 d n m a c imm := by
  obtain ⟨hd, hn, hm, ha, hc, hz, hi⟩ : (0 ≤ d ∧ d ≤ 31) ∧ n = 0 ∧ m = 0 ∧ a = 0 ∧ c = 0 ∧ True ∧ (imm % 4 = 0 ∧ -1048576 ≤ imm ∧ imm < 1048576) := h
  show putM (putM (3019898880) 16777184 32 524287 (IntKind.u32.wrap (IntKind.i64.wrap (imm.tdiv 4)))) 31 1 31 (IntKind.u32.wrap (d)) = 3019898880 + ((imm / 4) % 524288) * 32 + d
  rw [tdiv4 hi.1 (by omega) (by omega)]
  rw [put_add 5 19 16777184 32 524287 524288 rfl rfl rfl rfl (by omega) (by omega) (by omega) (by omega)]
  rw [put_add 0 5 31 1 31 32 rfl rfl rfl rfl (by omega) (by omega) (by omega) (by omega)]
  omega
theorem enc_23 {d n m a c imm : Int} (h : okP 23 d n m a c imm) : encM 23 d n m a c imm = wordP 23 d n m a c imm := by
  obtain ⟨hd, hn, hm, ha, hc, hz, hi⟩ : (0 ≤ d ∧ d ≤ 31) ∧ n = 0 ∧ m = 0 ∧ a = 0 ∧ c = 0 ∧ True ∧ (imm % 4 = 0 ∧ -1048576 ≤ imm ∧ imm < 1048576) := h
  show putM (putM (3036676096) 16777184 32 524287 (IntKind.u32.wrap (IntKind.i64.wrap (imm.tdiv 4)))) 31 1 31 (IntKind.u32.wrap (d)) = 3036676096 + ((imm / 4) % 524288) * 32 + d
  rw [tdiv4 hi.1 (by omega) (by omega)]
  rw [put_add 5 19 16777184 32 524287 524288 rfl rfl rfl rfl (by omega) (by omega) (by omega) (by omega)]
  rw [put_add 0 5 31 1 31 32 rfl rfl rfl rfl (by omega) (by omega) (by omega) (by omega)]
  omega
theorem enc_24 {d n m a c imm : Int} (h : okP 24 d n m a c imm) : encM 24 d n m a c imm = wordP 24 d n m a c imm := by
  obtain ⟨hd, hn, hm, ha, hc, hz, hi⟩ : d = 0 ∧ n = 0 ∧ m = 0 ∧ a = 0 ∧ c = 0 ∧ True ∧ (imm % 4 = 0 ∧ -134217728 ≤ imm ∧ imm < 134217728) := h
  show putM (2483027968) 67108863 1 67108863 (IntKind.u32.wrap (IntKind.i64.wrap (imm.tdiv 4))) = 2483027968 + ((imm / 4) % 67108864)
  rw [tdiv4 hi.1 (by omega) (by omega)]
  rw [put_add 0 26 67108863 1 67108863 67108864 rfl rfl rfl rfl (by omega) (by omega) (by omega) (by omega)]
  omega
theorem enc_25 {d n m a c imm : Int} (h : okP 25 d n m a c imm) : encM 25 d n m a c imm = wordP 25 d n m a c imm := by
  obtain ⟨hd, hn, hm, ha, hc, hz, hi⟩ : d = 0 ∧ (0 ≤ n ∧ n ≤ 31) ∧ m = 0 ∧ a = 0 ∧ c = 0 ∧ imm = 0 ∧ (True) := h
  show putM (3592355840) 992 32 31 (IntKind.u32.wrap (n)) = 3592355840 + n * 32
  rw [put_add 5 5 992 32 31 32 rfl rfl rfl rfl (by omega) (by omega) (by omega) (by omega)]
  omega
theorem enc_26 {d n m a c imm : Int} (h : okP 26 d n m a c imm) : encM 26 d n m a c imm = wordP 26 d n m a c imm := by
  obtain ⟨hd, hn, hm, ha, hc, hz, hi⟩ : d = 0 ∧ (0 ≤ n ∧ n ≤ 31) ∧ m = 0 ∧ a = 0 ∧ c = 0 ∧ imm = 0 ∧ (True) := h
  show putM (3594452992) 992 32 31 (IntKind.u32.wrap (n)) = 3594452992 + n * 32
  rw [put_add 5 5 992 32 31 32 rfl rfl rfl rfl (by omega) (by omega) (by omega) (by omega)]
  omega
theorem enc_27 {d n m a c imm : Int} (h : okP 27 d n m a c imm) : encM 27 d n m a c imm = wordP 27 d n m a c imm := by
  obtain ⟨hd, hn, hm, ha, hc, hz, hi⟩ : d = 0 ∧ (0 ≤ n ∧ n ≤ 31) ∧ m = 0 ∧ a = 0 ∧ c = 0 ∧ imm = 0 ∧ (True) := h
  show putM (3596550144) 992 32 31 (IntKind.u32.wrap (n)) = 3596550144 + n * 32
  rw [put_add 5 5 992 32 31 32 rfl rfl rfl rfl (by omega) (by omega) (by omega) (by omega)]
  omega
theorem enc_28 {d n m a c imm : Int} (h : okP 28 d n m a c imm) : encM 28 d n m a c imm = wordP 28 d n m a c imm := by
  obtain ⟨hd, hn, hm, ha, hc, hz, hi⟩ : (0 ≤ d ∧ d ≤ 31) ∧ (0 ≤ n ∧ n ≤ 31) ∧ m = 0 ∧ a = 0 ∧ c = 0 ∧ True ∧ (0 ≤ imm ∧ imm < 32768 ∧ imm % 8 = 0) := h
  show putM (putM (putM (4181721088) 992 32 31 (IntKind.u32.wrap (n))) 4193280 1024 4095 (IntKind.u32.wrap (IntKind.i64.wrap (imm.tdiv 8)))) 31 1 31 (IntKind.u32.wrap (d)) = 4181721088 + n * 32 + (imm / 8) * 1024 + d
  rw [tdiv8 (by omega) (by omega)]
  rw [put_add 5 5 992 32 31 32 rfl rfl rfl rfl (by omega) (by omega) (by omega) (by omega)]
  rw [put_add 10 12 4193280 1024 4095 4096 rfl rfl rfl rfl (by omega) (by omega) (by omega) (by omega)]
  rw [put_add 0 5 31 1 31 32 rfl rfl rfl rfl (by omega) (by omega) (by omega) (by omega)]
  omega
theorem enc_29 {d n m a c imm : Int} (h : okP 29 d n m a c imm) : encM 29 d n m a c imm = wordP 29 d n m a c imm := by
  obtain ⟨hd, hn, hm, ha, hc, hz, hi⟩ : (0 ≤ d ∧ d ≤ 31) ∧ (0 ≤ n ∧ n ≤ 31) ∧ m = 0 ∧ a = 0 ∧ c = 0 ∧ True ∧ (0 ≤ imm ∧ imm < 32768 ∧ imm % 8 = 0) := h
  show putM (putM (putM (4177526784) 992 32 31 (IntKind.u32.wrap (n))) 4193280 1024 4095 (IntKind.u32.wrap (IntKind.i64.wrap (imm.tdiv 8)))) 31 1 31 (IntKind.u32.wrap (d)) = 4177526784 + n * 32 + (imm / 8) * 1024 + d
  rw [tdiv8 (by omega) (by omega)]
  rw [put_add 5 5 992 32 31 32 rfl rfl rfl rfl (by omega) (by omega) (by omega) (by omega)]
  rw [put_add 10 12 4193280 1024 4095 4096 rfl rfl rfl rfl (by omega) (by omega) (by omega) (by omega)]
  rw [put_add 0 5 31 1 31 32 rfl rfl rfl rfl (by omega) (by omega) (by omega) (by omega)]
  omega
theorem enc_30 {d n m a c imm : Int} (h : okP 30 d n m a c imm) : encM 30 d n m a c imm = wordP 30 d n m a c imm := by
  obtain ⟨hd, hn, hm, ha, hc, hz, hi⟩ : (0 ≤ d ∧ d ≤ 31) ∧ (0 ≤ n ∧ n ≤ 31) ∧ m = 0 ∧ a = 0 ∧ c = 0 ∧ True ∧ (0 ≤ imm ∧ imm < 4096) := h
  show putM (putM (putM (960495616) 992 32 31 (IntKind.u32.wrap (n))) 4193280 1024 4095 (IntKind.u32.wrap (imm))) 31 1 31 (IntKind.u32.wrap (d)) = 960495616 + n * 32 + imm * 1024 + d
  rw [put_add 5 5 992 32 31 32 rfl rfl rfl rfl (by omega) (by omega) (by omega) (by omega)]
  rw [put_add 10 12 4193280 1024 4095 4096 rfl rfl rfl rfl (by omega) (by omega) (by omega) (by omega)]
  rw [put_add 0 5 31 1 31 32 rfl rfl rfl rfl (by omega) (by omega) (by omega) (by omega)]
  omega
theorem enc_31 {d n m a c imm : Int} (h : okP 31 d n m a c imm) : encM 31 d n m a c imm = wordP 31 d n m a c imm := by
  obtain ⟨hd, hn, hm, ha, hc, hz, hi⟩ : (0 ≤ d ∧ d ≤ 31) ∧ (0 ≤ n ∧ n ≤ 31) ∧ (0 ≤ m ∧ m ≤ 31) ∧ a = 0 ∧ c = 0 ∧ imm = 0 ∧ (True) := h
  show putM (putM (putM (4167071744) 992 32 31 (IntKind.u32.wrap (n))) 2031616 65536 31 (IntKind.u32.wrap (m))) 31 1 31 (IntKind.u32.wrap (d)) = 4167071744 + n * 32 + m * 65536 + d
  rw [put_add 5 5 992 32 31 32 rfl rfl rfl rfl (by omega) (by omega) (by omega) (by omega)]
  rw [put_add 16 5 2031616 65536 31 32 rfl rfl rfl rfl (by omega) (by omega) (by omega) (by omega)]
  rw [put_add 0 5 31 1 31 32 rfl rfl rfl rfl (by omega) (by omega) (by omega) (by omega)]
  omega
theorem enc_32 {d n m a c imm : Int} (h : okP 32 d n m a c imm) : encM 32 d n m a c imm = wordP 32 d n m a c imm := by
  obtain ⟨hd, hn, hm, ha, hc, hz, hi⟩ : (0 ≤ d ∧ d ≤ 31) ∧ (0 ≤ n ∧ n ≤ 31) ∧ (0 ≤ m ∧ m ≤ 31) ∧ a = 0 ∧ c = 0 ∧ imm = 0 ∧ (True) := h
  show putM (putM (putM (4162877440) 992 32 31 (IntKind.u32.wrap (n))) 2031616 65536 31 (IntKind.u32.wrap (m))) 31 1 31 (IntKind.u32.wrap (d)) = 4162877440 + n * 32 + m * 65536 + d
  rw [put_add 5 5 992 32 31 32 rfl rfl rfl rfl (by omega) (by omega) (by omega) (by omega)]
  rw [put_add 16 5 2031616 65536 31 32 rfl rfl rfl rfl (by omega) (by omega) (by omega) (by omega)]
  rw [put_add 0 5 31 1 31 32 rfl rfl rfl rfl (by omega) (by omega) (by omega) (by omega)]
  omega
theorem enc_33 {d n m a c imm : Int} (h : okP 33 d n m a c imm) : encM 33 d n m a c imm = wordP 33 d n m a c imm := by
  obtain ⟨hd, hn, hm, ha, hc, hz, hi⟩ : (0 ≤ d ∧ d ≤ 31) ∧ (0 ≤ n ∧ n ≤ 31) ∧ m = 0 ∧ a = 0 ∧ c = 0 ∧ imm = 0 ∧ (True) := h
  show putM (putM (3370122240) 992 32 31 (IntKind.u32.wrap (n))) 31 1 31 (IntKind.u32.wrap (d)) = 3370122240 + n * 32 + d
  rw [put_add 5 5 992 32 31 32 rfl rfl rfl rfl (by omega) (by omega) (by omega) (by omega)]
  rw [put_add 0 5 31 1 31 32 rfl rfl rfl rfl (by omega) (by omega) (by omega) (by omega)]
  omega
theorem enc_34 {d n m a c imm : Int} (h : okP 34 d n m a c imm) : encM 34 d n m a c imm = wordP 34 d n m a c imm := by
  obtain ⟨hd, hn, hm, ha, hc, hz, hi⟩ : (0 ≤ d ∧ d ≤ 31) ∧ (0 ≤ n ∧ n ≤ 31) ∧ m = 0 ∧ a = 0 ∧ c = 0 ∧ imm = 0 ∧ (True) := h
  show putM (putM (3365927936) 992 32 31 (IntKind.u32.wrap (n))) 31 1 31 (IntKind.u32.wrap (d)) = 3365927936 + n * 32 + d
  rw [put_add 5 5 992 32 31 32 rfl rfl rfl rfl (by omega) (by omega) (by omega) (by omega)]
  rw [put_add 0 5 31 1 31 32 rfl rfl rfl rfl (by omega) (by omega) (by omega) (by omega)]
  omega
theorem enc_35 {d n m a c imm : Int} (h : okP 35 d n m a c imm) : encM 35 d n m a c imm = wordP 35 d n m a c imm := by
  obtain ⟨hd, hn, hm, ha, hc, hz, hi⟩ : (0 ≤ d ∧ d ≤ 31) ∧ (0 ≤ n ∧ n ≤ 31) ∧ m = 0 ∧ a = 0 ∧ c = 0 ∧ imm = 0 ∧ (True) := h
  show putM (putM (3361700864) 992 32 31 (IntKind.u32.wrap (n))) 31 1 31 (IntKind.u32.wrap (d)) = 3361700864 + n * 32 + d
  rw [put_add 5 5 992 32 31 32 rfl rfl rfl rfl (by omega) (by omega) (by omega) (by omega)]
  rw [put_add 0 5 31 1 31 32 rfl rfl rfl rfl (by omega) (by omega) (by omega) (by omega)]
  omega
theorem enc_36 {d n m a c imm : Int} (h : okP 36 d n m a c imm) : encM 36 d n m a c imm = wordP 36 d n m a c imm := by
  obtain ⟨hd, hn, hm, ha, hc, hz, hi⟩ : (0 ≤ d ∧ d ≤ 31) ∧ (0 ≤ n ∧ n ≤ 31) ∧ (0 ≤ m ∧ m ≤ 31) ∧ a = 0 ∧ c = 0 ∧ imm = 0 ∧ (True) := h
  show putM (putM (putM (3355474944) 2031616 65536 31 (IntKind.u32.wrap (d))) 992 32 31 (IntKind.u32.wrap (n))) 31 1 31 (IntKind.u32.wrap (m)) = 3355474944 + d * 65536 + n * 32 + m
  rw [put_add 16 5 2031616 65536 31 32 rfl rfl rfl rfl (by omega) (by omega) (by omega) (by omega)]
  rw [put_add 5 5 992 32 31 32 rfl rfl rfl rfl (by omega) (by omega) (by omega) (by omega)]
  rw [put_add 0 5 31 1 31 32 rfl rfl rfl rfl (by omega) (by omega) (by omega) (by omega)]
  omega
theorem enc_38 {d n m a c imm : Int} (h : okP 38 d n m a c imm) : encM 38 d n m a c imm = wordP 38 d n m a c imm := by
  rfl
theorem enc_39 {d n m a c imm : Int} (h : okP 39 d n m a c imm) : encM 39 d n m a c imm = wordP 39 d n m a c imm := by
  rfl
theorem enc_40 {d n m a c imm : Int} (h : okP 40 d n m a c imm) : encM 40 d n m a c imm = wordP 40 d n m a c imm := by
  obtain ⟨hd, hn, hm, ha, hc, hz, hi⟩ : d = 0 ∧ (0 ≤ n ∧ n ≤ 31) ∧ m = 0 ∧ a = 0 ∧ c = 0 ∧ imm = 0 ∧ (True) := h
  show putM (3574299424) 31 1 31 (IntKind.u32.wrap (n)) = 3574299424 + n
  rw [put_add 0 5 31 1 31 32 rfl rfl rfl rfl (by omega) (by omega) (by omega) (by omega)]
  omega
theorem enc_41 {d n m a c imm : Int} (h : okP 41 d n m a c imm) : encM 41 d n m a c imm = wordP 41 d n m a c imm := by
  obtain ⟨hd, hn, hm, ha, hc, hz, hi⟩ : d = 0 ∧ (0 ≤ n ∧ n ≤ 31) ∧ m = 0 ∧ a = 0 ∧ c = 0 ∧ imm = 0 ∧ (True) := h
  show putM (3574297888) 31 1 31 (IntKind.u32.wrap (n)) = 3574297888 + n
  rw [put_add 0 5 31 1 31 32 rfl rfl rfl rfl (by omega) (by omega) (by omega) (by omega)]
  omega
theorem enc_42 {d n m a c imm : Int} (h : okP 42 d n m a c imm) : encM 42 d n m a c imm = wordP 42 d n m a c imm := by
  obtain ⟨hd, hn, hm, ha, hc, hz, hi⟩ : d = 0 ∧ n = 0 ∧ m = 0 ∧ a = 0 ∧ c = 0 ∧ True ∧ (0 ≤ imm ∧ imm < 65536) := h
  show putM (3556769793) 2097120 32 65535 (IntKind.u32.wrap (imm)) = 3556769793 + imm * 32
  rw [put_add 5 16 2097120 32 65535 65536 rfl rfl rfl rfl (by omega) (by omega) (by omega) (by omega)]
  omega
end Go.Proofs.Ytjoopjhimgdgdaa.isa
