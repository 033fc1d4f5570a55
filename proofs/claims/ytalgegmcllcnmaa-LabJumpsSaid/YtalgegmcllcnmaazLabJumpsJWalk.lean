/- Parts of the proof, one behind the other. -/
import Derived.Test.YtalgegmcllcnmaazLabJumpsIDecP
import Derived.Test.YtalgegmcllcnmaazLabJumpsIIns
import Derived.Test.YtalgegmcllcnmaazLabJumpsIWordL
import Derived.Test.YtalgegmcllcnmaazLabJumpsJFillT
section
/- decI: it undoes words; what it tells is right. Printed by gendec.py. -/
namespace Go.Proofs.Ytalgegmcllcnmaa.isa
open Go Go.Proofs Go.Proofs.YtalgegmcllcnmaaRL
set_option linter.unusedVariables false
set_option linter.unusedSimpArgs false
theorem kind_of {d n m a c imm : Int} : ∀ k : Nat, 0 < k → k < 43 → okP k d n m a c imm → kindN (wordP k d n m a c imm) = k
  | 0, h, _, _ => absurd h (by omega)
  | 1, _, _, h => kind_1 h rfl
  | 2, _, _, h => kind_2 h rfl
  | 3, _, _, h => kind_3 h rfl
  | 4, _, _, h => kind_4 h rfl
  | 5, _, _, h => kind_5 h rfl
  | 6, _, _, h => kind_6 h rfl
  | 7, _, _, h => kind_7 h rfl
  | 8, _, _, h => kind_8 h rfl
  | 9, _, _, h => kind_9 h rfl
  | 10, _, _, h => kind_10 h rfl
  | 11, _, _, h => kind_11 h rfl
  | 12, _, _, h => kind_12 h rfl
  | 13, _, _, h => kind_13 h rfl
  | 14, _, _, h => kind_14 h rfl
  | 15, _, _, h => kind_15 h rfl
  | 16, _, _, h => kind_16 h rfl
  | 17, _, _, h => kind_17 h rfl
  | 18, _, _, h => kind_18 h rfl
  | 19, _, _, h => kind_19 h rfl
  | 20, _, _, h => kind_20 h rfl
  | 21, _, _, h => kind_21 h rfl
  | 22, _, _, h => kind_22 h rfl
  | 23, _, _, h => kind_23 h rfl
  | 24, _, _, h => kind_24 h rfl
  | 25, _, _, h => kind_25 h rfl
  | 26, _, _, h => kind_26 h rfl
  | 27, _, _, h => kind_27 h rfl
  | 28, _, _, h => kind_28 h rfl
  | 29, _, _, h => kind_29 h rfl
  | 30, _, _, h => kind_30 h rfl
  | 31, _, _, h => kind_31 h rfl
  | 32, _, _, h => kind_32 h rfl
  | 33, _, _, h => kind_33 h rfl
  | 34, _, _, h => kind_34 h rfl
  | 35, _, _, h => kind_35 h rfl
  | 36, _, _, h => kind_36 h rfl
  | 37, _, _, h => kind_37 h rfl
  | 38, _, _, h => kind_38 h rfl
  | 39, _, _, h => kind_39 h rfl
  | 40, _, _, h => kind_40 h rfl
  | 41, _, _, h => kind_41 h rfl
  | 42, _, _, h => kind_42 h rfl
  | k + 43, _, h, _ => absurd h (by omega)
theorem dec_of {d n m a c imm : Int} : ∀ k : Nat, 0 < k → k < 43 → okP k d n m a c imm → decF k (wordP k d n m a c imm) = ⟨(k : Nat), d, n, m, a, c, imm⟩
  | 0, h, _, _ => absurd h (by omega)
  | 1, _, _, h => dec_1 h rfl
  | 2, _, _, h => dec_2 h rfl
  | 3, _, _, h => dec_3 h rfl
  | 4, _, _, h => dec_4 h rfl
  | 5, _, _, h => dec_5 h rfl
  | 6, _, _, h => dec_6 h rfl
  | 7, _, _, h => dec_7 h rfl
  | 8, _, _, h => dec_8 h rfl
  | 9, _, _, h => dec_9 h rfl
  | 10, _, _, h => dec_10 h rfl
  | 11, _, _, h => dec_11 h rfl
  | 12, _, _, h => dec_12 h rfl
  | 13, _, _, h => dec_13 h rfl
  | 14, _, _, h => dec_14 h rfl
  | 15, _, _, h => dec_15 h rfl
  | 16, _, _, h => dec_16 h rfl
  | 17, _, _, h => dec_17 h rfl
  | 18, _, _, h => dec_18 h rfl
  | 19, _, _, h => dec_19 h rfl
  | 20, _, _, h => dec_20 h rfl
  | 21, _, _, h => dec_21 h rfl
  | 22, _, _, h => dec_22 h rfl
  | 23, _, _, h => dec_23 h rfl
  | 24, _, _, h => dec_24 h rfl
  | 25, _, _, h => dec_25 h rfl
  | 26, _, _, h => dec_26 h rfl
  | 27, _, _, h => dec_27 h rfl
  | 28, _, _, h => dec_28 h rfl
  | 29, _, _, h => dec_29 h rfl
  | 30, _, _, h => dec_30 h rfl
  | 31, _, _, h => dec_31 h rfl
  | 32, _, _, h => dec_32 h rfl
  | 33, _, _, h => dec_33 h rfl
  | 34, _, _, h => dec_34 h rfl
  | 35, _, _, h => dec_35 h rfl
  | 36, _, _, h => dec_36 h rfl
  | 37, _, _, h => dec_37 h rfl
  | 38, _, _, h => dec_38 h rfl
  | 39, _, _, h => dec_39 h rfl
  | 40, _, _, h => dec_40 h rfl
  | 41, _, _, h => dec_41 h rfl
  | 42, _, _, h => dec_42 h rfl
  | k + 43, _, h, _ => absurd h (by omega)
theorem dec_word {i : I7} (h : i.ok) (h0 : i.op ≠ 0) : decI i.word = i := by
  obtain ⟨op, d, n, m, a, c, imm⟩ := i
  obtain ⟨h1, h2⟩ := h
  dsimp only at h0 h1 h2
  obtain ⟨k, rfl⟩ := Int.eq_ofNat_of_zero_le h1.1
  have e1 : (⟨(k : Nat), d, n, m, a, c, imm⟩ : I7).word = wordP k d n m a c imm := if_pos ⟨h1, h2⟩
  have e2 : kindN (wordP k d n m a c imm) = k := kind_of k (by omega) (by omega) h2
  have e3 : decF k (wordP k d n m a c imm) = ⟨(k : Nat), d, n, m, a, c, imm⟩ := dec_of k (by omega) (by omega) h2
  rw [e1]
  unfold decI
  rw [e2, e3]
  exact if_pos ⟨by omega, ⟨h1, h2⟩, e1⟩
theorem ite_lt {p : Prop} [Decidable p] {a b : Nat} (ha : a < 43) (hb : b < 43) : (if p then a else b) < 43 := by
  by_cases h : p
  · rw [if_pos h]; exact ha
  · rw [if_neg h]; exact hb
theorem kind_lt (w : Int) : kindN w < 43 := by
  unfold kindN
  repeat (refine ite_lt (by omega) ?_)
  omega
/-- A UDF's word is one's that is no other instruction's. -/
theorem dec_word0 {i : I7} (h : i.ok) (h0 : i.op = 0) : decI i.word = i := by
  obtain ⟨op, d, n, m, a, c, imm⟩ := i
  dsimp only at h0
  subst h0
  obtain ⟨h1, h2⟩ := h
  dsimp only at h1 h2
  have e1 : (⟨0, d, n, m, a, c, imm⟩ : I7).word = 0 + imm := if_pos ⟨h1, h2⟩
  obtain ⟨hd, hn, hm, ha, hc, hz, hi⟩ : d = 0 ∧ n = 0 ∧ m = 0 ∧ a = 0 ∧ c = 0 ∧ True ∧ (0 ≤ imm ∧ imm < 65536) := h2
  rw [e1]
  have hk : kindN (0 + imm) = 0 := by
    unfold kindN
    rw [if_neg (show ¬ ((0 + imm) / 67108864 = 5) by omega)]
    rw [if_neg (show ¬ ((0 + imm) / 67108864 = 37) by omega)]
    rw [if_neg (show ¬ ((0 + imm) / 16777216 = 84) by omega)]
    rw [if_neg (show ¬ ((0 + imm) / 16777216 = 180) by omega)]
    rw [if_neg (show ¬ ((0 + imm) / 16777216 = 181) by omega)]
    rw [if_neg (show ¬ ((0 + imm) / 8388608 = 421) by omega)]
    rw [if_neg (show ¬ ((0 + imm) / 8388608 = 485) by omega)]
    rw [if_neg (show ¬ ((0 + imm) / 2097152 = 1696) by omega)]
    rw [if_neg (show ¬ ((0 + imm) = 3573751839) by omega)]
    rw [if_neg (show ¬ ((0 + imm) / 4194304 = 580) by omega)]
    rw [if_neg (show ¬ ((0 + imm) / 4194304 = 836) by omega)]
    rw [if_neg (show ¬ ((0 + imm) / 4194304 = 964) by omega)]
    rw [if_neg (show ¬ ((0 + imm) / 2097152 = 1112 ∧ (0 + imm) / 1024 % 64 = 0) by omega)]
    rw [if_neg (show ¬ ((0 + imm) / 2097152 = 1624 ∧ (0 + imm) / 1024 % 64 = 0) by omega)]
    rw [if_neg (show ¬ ((0 + imm) / 2097152 = 1880 ∧ (0 + imm) / 1024 % 64 = 0) by omega)]
    rw [if_neg (show ¬ ((0 + imm) / 2097152 = 1104 ∧ (0 + imm) / 1024 % 64 = 0) by omega)]
    rw [if_neg (show ¬ ((0 + imm) / 2097152 = 1360 ∧ (0 + imm) / 1024 % 64 = 0) by omega)]
    rw [if_neg (show ¬ ((0 + imm) / 2097152 = 1616 ∧ (0 + imm) / 1024 % 64 = 0) by omega)]
    rw [if_neg (show ¬ ((0 + imm) / 2097152 = 1240 ∧ (0 + imm) / 32768 % 2 = 0) by omega)]
    rw [if_neg (show ¬ ((0 + imm) / 2097152 = 1240 ∧ (0 + imm) / 32768 % 2 = 1) by omega)]
    rw [if_neg (show ¬ ((0 + imm) / 2097152 = 1238 ∧ (0 + imm) / 1024 % 64 = 3) by omega)]
    rw [if_neg (show ¬ ((0 + imm) / 2097152 = 1238 ∧ (0 + imm) / 1024 % 64 = 8) by omega)]
    rw [if_neg (show ¬ ((0 + imm) / 2097152 = 1238 ∧ (0 + imm) / 1024 % 64 = 9) by omega)]
    rw [if_neg (show ¬ ((0 + imm) / 2097152 = 1238 ∧ (0 + imm) / 1024 % 64 = 10) by omega)]
    rw [if_neg (show ¬ ((0 + imm) / 2097152 = 1236 ∧ (0 + imm) / 1024 % 4 = 1) by omega)]
    rw [if_neg (show ¬ ((0 + imm) / 1024 = 3508160 ∧ (0 + imm) % 32 = 0) by omega)]
    rw [if_neg (show ¬ ((0 + imm) / 1024 = 3510208 ∧ (0 + imm) % 32 = 0) by omega)]
    rw [if_neg (show ¬ ((0 + imm) / 1024 = 3512256 ∧ (0 + imm) % 32 = 0) by omega)]
    rw [if_neg (show ¬ ((0 + imm) / 4194304 = 997) by omega)]
    rw [if_neg (show ¬ ((0 + imm) / 4194304 = 996) by omega)]
    rw [if_neg (show ¬ ((0 + imm) / 4194304 = 229) by omega)]
    rw [if_neg (show ¬ ((0 + imm) / 2097152 = 1987 ∧ (0 + imm) / 1024 % 64 = 30) by omega)]
    rw [if_neg (show ¬ ((0 + imm) / 2097152 = 1985 ∧ (0 + imm) / 1024 % 64 = 30) by omega)]
    rw [if_neg (show ¬ ((0 + imm) / 1024 = 3291135) by omega)]
    rw [if_neg (show ¬ ((0 + imm) / 1024 = 3287039) by omega)]
    rw [if_neg (show ¬ ((0 + imm) / 1024 = 3282911) by omega)]
    rw [if_neg (show ¬ ((0 + imm) / 2097152 = 1600 ∧ (0 + imm) / 1024 % 64 = 31) by omega)]
    rw [if_neg (show ¬ ((0 + imm) / 4096 = 872499 ∧ (0 + imm) % 256 = 191) by omega)]
    rw [if_neg (show ¬ ((0 + imm) = 3573758879) by omega)]
    rw [if_neg (show ¬ ((0 + imm) = 3573759967) by omega)]
    rw [if_neg (show ¬ ((0 + imm) / 32 = 111696857) by omega)]
    rw [if_neg (show ¬ ((0 + imm) / 32 = 111696809) by omega)]
  unfold decI
  rw [if_neg (fun h => h.1 hk)]
  unfold udf
  subst hd hn hm ha hc
  ext <;> dsimp only <;> omega
theorem dec_word' {i : I7} (h : i.ok) : decI i.word = i := by
  by_cases h0 : i.op = 0
  · exact dec_word0 h h0
  · exact dec_word h h0
end Go.Proofs.Ytalgegmcllcnmaa.isa
end
section
/- dec.kind and dec.Ins as tables' lines. Printed by gendec.py. -/
namespace Go.Proofs.Ytalgegmcllcnmaa.isa
open Go Go.Proofs Go.Proofs.YtalgegmcllcnmaaRL
set_option linter.unusedVariables false
set_option linter.unusedSimpArgs false
/-- Tests one behind the other. -/
def chainG {R : Type} (br : Bool → R → R → R) (K : Nat → R) : List (Bool × Nat) → R
  | [] => K 0
  | (b, k) :: l => br b (K k) (chainG br K l)
def chainX : List (Bool × Nat) → Nat
  | [] => 0
  | (b, k) :: l => match b with
    | true => k
    | false => chainX l
theorem chain_Br {R : Type} (K : Nat → R) : ∀ l : List (Bool × Nat), chainG Br K l = K (chainX l)
  | [] => rfl
  | (true, k) :: l => rfl
  | (false, k) :: l => chain_Br K l
theorem chain_fine (K : Nat → Ans) : ∀ l : List (Bool × Nat), (chainG Ans.br K l).fine → (K (chainX l)).fine
  | [], h => h
  | (true, k) :: l, h => by
    rcases h with ⟨_, h⟩ | ⟨hb, _⟩
    · exact h
    · cases hb
  | (false, k) :: l, h => by
    rcases h with ⟨hb, _⟩ | ⟨_, h⟩
    · cases hb
    · exact chain_fine K l h
theorem chain_is (K : Nat → Ans) {r : Res} {s : Sto} : ∀ l : List (Bool × Nat), (K (chainX l)).is r s → (chainG Ans.br K l).is r s
  | [], h => h
  | (true, k) :: l, h => .inl ⟨rfl, h⟩
  | (false, k) :: l, h => .inr ⟨rfl, chain_is K l h⟩
/-- The tests of dec.kind. -/
def kindL (w : Int) : List (Bool × Nat) := [(w.fdiv 67108864 == 5, 20), (w.fdiv 67108864 == 37, 24), (w.fdiv 16777216 == 84, 21), (w.fdiv 16777216 == 180, 22), (w.fdiv 16777216 == 181, 23), (w.fdiv 8388608 == 421, 2), (w.fdiv 8388608 == 485, 3), (w.fdiv 2097152 == 1696, 42), (Go.bits .and .u32 w 4294967295 == 3573751839, 1), (Go.bits .and .u32 w 4290772992 == 2432696320, 4), (Go.bits .and .u32 w 4290772992 == 3506438144, 5), (Go.bits .and .u32 w 4290772992 == 4043309056, 6), (Go.bits .and .u32 w 4292934656 == 2332033024, 7), (Go.bits .and .u32 w 4292934656 == 3405774848, 8), (Go.bits .and .u32 w 4292934656 == 3942645760, 9), (Go.bits .and .u32 w 4292934656 == 2315255808, 10), (Go.bits .and .u32 w 4292934656 == 2852126720, 11), (Go.bits .and .u32 w 4292934656 == 3388997632, 12), (Go.bits .and .u32 w 4292902912 == 2600468480, 13), (Go.bits .and .u32 w 4292902912 == 2600501248, 14), (Go.bits .and .u32 w 4292934656 == 2596277248, 15), (Go.bits .and .u32 w 4292934656 == 2596282368, 16), (Go.bits .and .u32 w 4292934656 == 2596283392, 17), (Go.bits .and .u32 w 4292934656 == 2596284416, 18), (Go.bits .and .u32 w 4292873216 == 2592080896, 19), (Go.bits .and .u32 w 4294966303 == 3592355840, 25), (Go.bits .and .u32 w 4294966303 == 3594452992, 26), (Go.bits .and .u32 w 4294966303 == 3596550144, 27), (Go.bits .and .u32 w 4290772992 == 4181721088, 28), (Go.bits .and .u32 w 4290772992 == 4177526784, 29), (Go.bits .and .u32 w 4290772992 == 960495616, 30), (Go.bits .and .u32 w 4292934656 == 4167071744, 31), (Go.bits .and .u32 w 4292934656 == 4162877440, 32), (Go.bits .and .u32 w 4294966272 == 3370122240, 33), (Go.bits .and .u32 w 4294966272 == 3365927936, 34), (Go.bits .and .u32 w 4294966272 == 3361700864, 35), (Go.bits .and .u32 w 4292934656 == 3355474944, 36), (Go.bits .and .u32 w 4294963455 == 3573756095, 37), (Go.bits .and .u32 w 4294967295 == 3573758879, 38), (Go.bits .and .u32 w 4294967295 == 3573759967, 39), (Go.bits .and .u32 w 4294967264 == 3574299424, 40), (Go.bits .and .u32 w 4294967264 == 3574297888, 41)]
theorem and_1 {w : Int} (lo n : Nat) (m : Int) (hm : m = (((2 ^ n - 1) * 2 ^ lo : Nat) : Int)) (hl : n + lo ≤ 32) (h0 : 0 ≤ w) (h1 : w < 4294967296) : Go.bits .and .u32 w m = w / ((2 ^ lo : Nat) : Int) % ((2 ^ n : Nat) : Int) * ((2 ^ lo : Nat) : Int) := by
  subst hm
  obtain ⟨a, rfl⟩ := Int.eq_ofNat_of_zero_le h0
  have hmm : (2 ^ n - 1) * 2 ^ lo < 2 ^ 32 := by
    have h1 : (2 ^ n - 1) * 2 ^ lo < 2 ^ n * 2 ^ lo := Nat.mul_lt_mul_of_pos_right (by have := Nat.two_pow_pos n; omega) (Nat.two_pow_pos lo)
    rw [← Nat.pow_add] at h1
    exact Nat.lt_of_lt_of_le h1 (Nat.pow_le_pow_right (by omega) hl)
  rw [nat_and .u32 a _ rfl (by show a < 2 ^ 32; omega) hmm, and_mask, Int.natCast_mul, Int.natCast_emod, Int.natCast_ediv]
theorem and_2 {w : Int} (lo1 n1 lo2 n2 : Nat) (m : Int) (hm : m = (((2 ^ n1 - 1) * 2 ^ lo1 + (2 ^ n2 - 1) * 2 ^ lo2 : Nat) : Int)) (hl : n1 + lo1 ≤ 32) (hl2 : n2 + lo2 ≤ lo1) (h0 : 0 ≤ w) (h1 : w < 4294967296) :
    Go.bits .and .u32 w m = w / ((2 ^ lo1 : Nat) : Int) % ((2 ^ n1 : Nat) : Int) * ((2 ^ lo1 : Nat) : Int) + w / ((2 ^ lo2 : Nat) : Int) % ((2 ^ n2 : Nat) : Int) * ((2 ^ lo2 : Nat) : Int) := by
  subst hm
  obtain ⟨a, rfl⟩ := Int.eq_ofNat_of_zero_le h0
  have p2 : 2 ^ n2 * 2 ^ lo2 ≤ 2 ^ lo1 := by rw [← Nat.pow_add]; exact Nat.pow_le_pow_right (by omega) hl2
  have q2 : ∀ x, x < 2 ^ n2 → x * 2 ^ lo2 < 2 ^ lo1 := fun x hx => Nat.lt_of_lt_of_le (Nat.mul_lt_mul_of_pos_right hx (Nat.two_pow_pos lo2)) p2
  have p1 : 2 ^ n1 * 2 ^ lo1 ≤ 2 ^ 32 := by rw [← Nat.pow_add]; exact Nat.pow_le_pow_right (by omega) hl
  have q1 : ∀ x, x < 2 ^ n1 → x * 2 ^ lo1 + 2 ^ lo1 ≤ 2 ^ 32 := fun x hx => by
    have : (x + 1) * 2 ^ lo1 ≤ 2 ^ n1 * 2 ^ lo1 := Nat.mul_le_mul_right _ hx
    rw [Nat.add_mul, Nat.one_mul] at this
    omega
  have e1 : (2 ^ n1 - 1) * 2 ^ lo1 + (2 ^ n2 - 1) * 2 ^ lo2 = (2 ^ n1 - 1) * 2 ^ lo1 ||| (2 ^ n2 - 1) * 2 ^ lo2 := by
    rw [Nat.mul_comm (2 ^ n1 - 1)]
    exact Nat.two_pow_add_eq_or_of_lt (q2 _ (by have := Nat.two_pow_pos n2; omega)) _
  have hmm : (2 ^ n1 - 1) * 2 ^ lo1 + (2 ^ n2 - 1) * 2 ^ lo2 < 2 ^ 32 := by
    have h1 := q1 (2 ^ n1 - 1) (by have := Nat.two_pow_pos n1; omega)
    have h2 := q2 (2 ^ n2 - 1) (by have := Nat.two_pow_pos n2; omega)
    omega
  rw [nat_and .u32 a _ rfl (by show a < 2 ^ 32; omega) hmm, e1, Nat.and_or_distrib_left, and_mask, and_mask]
  have e2 : a / 2 ^ lo1 % 2 ^ n1 * 2 ^ lo1 ||| a / 2 ^ lo2 % 2 ^ n2 * 2 ^ lo2 = a / 2 ^ lo1 % 2 ^ n1 * 2 ^ lo1 + a / 2 ^ lo2 % 2 ^ n2 * 2 ^ lo2 := by
    rw [Nat.mul_comm (a / 2 ^ lo1 % 2 ^ n1)]
    exact (Nat.two_pow_add_eq_or_of_lt (q2 _ (Nat.mod_lt _ (Nat.two_pow_pos n2))) _).symm
  rw [e2, Int.natCast_add, Int.natCast_mul, Int.natCast_mul, Int.natCast_emod, Int.natCast_ediv, Int.natCast_emod, Int.natCast_ediv]
theorem chain_step {b : Bool} {p : Prop} [Decidable p] {k x : Nat} {l : List (Bool × Nat)} (h : b = decide p) (hx : chainX l = x) : chainX ((b, k) :: l) = if p then k else x := by
  subst h hx
  by_cases hp : p
  · rw [decide_eq_true hp, if_pos hp]; rfl
  · rw [decide_eq_false hp, if_neg hp]; rfl
theorem kindL_eq {w : Int} (h0 : 0 ≤ w) (h1 : w < 4294967296) : chainX (kindL w) = kindN w := by
  unfold kindL kindN
  refine chain_step (by rw [beq_dec, Int.fdiv_eq_ediv_of_nonneg _ (by omega)]) ?_
  refine chain_step (by rw [beq_dec, Int.fdiv_eq_ediv_of_nonneg _ (by omega)]) ?_
  refine chain_step (by rw [beq_dec, Int.fdiv_eq_ediv_of_nonneg _ (by omega)]) ?_
  refine chain_step (by rw [beq_dec, Int.fdiv_eq_ediv_of_nonneg _ (by omega)]) ?_
  refine chain_step (by rw [beq_dec, Int.fdiv_eq_ediv_of_nonneg _ (by omega)]) ?_
  refine chain_step (by rw [beq_dec, Int.fdiv_eq_ediv_of_nonneg _ (by omega)]) ?_
  refine chain_step (by rw [beq_dec, Int.fdiv_eq_ediv_of_nonneg _ (by omega)]) ?_
  refine chain_step (by rw [beq_dec, Int.fdiv_eq_ediv_of_nonneg _ (by omega)]) ?_
  refine chain_step (by rw [beq_dec, and_1 0 32 4294967295 rfl (by omega) h0 h1]; exact decide_eq_decide.2 ⟨fun h => by (try simp only [Nat.reducePow] at h); omega, fun h => by (try simp only [Nat.reducePow]); omega⟩) ?_
  refine chain_step (by rw [beq_dec, and_1 22 10 4290772992 rfl (by omega) h0 h1]; exact decide_eq_decide.2 ⟨fun h => by (try simp only [Nat.reducePow] at h); omega, fun h => by (try simp only [Nat.reducePow]); omega⟩) ?_
  refine chain_step (by rw [beq_dec, and_1 22 10 4290772992 rfl (by omega) h0 h1]; exact decide_eq_decide.2 ⟨fun h => by (try simp only [Nat.reducePow] at h); omega, fun h => by (try simp only [Nat.reducePow]); omega⟩) ?_
  refine chain_step (by rw [beq_dec, and_1 22 10 4290772992 rfl (by omega) h0 h1]; exact decide_eq_decide.2 ⟨fun h => by (try simp only [Nat.reducePow] at h); omega, fun h => by (try simp only [Nat.reducePow]); omega⟩) ?_
  refine chain_step (by rw [beq_dec, and_2 21 11 10 6 4292934656 rfl (by omega) (by omega) h0 h1]; exact decide_eq_decide.2 ⟨fun h => by (try simp only [Nat.reducePow] at h); omega, fun h => by (try simp only [Nat.reducePow]); omega⟩) ?_
  refine chain_step (by rw [beq_dec, and_2 21 11 10 6 4292934656 rfl (by omega) (by omega) h0 h1]; exact decide_eq_decide.2 ⟨fun h => by (try simp only [Nat.reducePow] at h); omega, fun h => by (try simp only [Nat.reducePow]); omega⟩) ?_
  refine chain_step (by rw [beq_dec, and_2 21 11 10 6 4292934656 rfl (by omega) (by omega) h0 h1]; exact decide_eq_decide.2 ⟨fun h => by (try simp only [Nat.reducePow] at h); omega, fun h => by (try simp only [Nat.reducePow]); omega⟩) ?_
  refine chain_step (by rw [beq_dec, and_2 21 11 10 6 4292934656 rfl (by omega) (by omega) h0 h1]; exact decide_eq_decide.2 ⟨fun h => by (try simp only [Nat.reducePow] at h); omega, fun h => by (try simp only [Nat.reducePow]); omega⟩) ?_
  refine chain_step (by rw [beq_dec, and_2 21 11 10 6 4292934656 rfl (by omega) (by omega) h0 h1]; exact decide_eq_decide.2 ⟨fun h => by (try simp only [Nat.reducePow] at h); omega, fun h => by (try simp only [Nat.reducePow]); omega⟩) ?_
  refine chain_step (by rw [beq_dec, and_2 21 11 10 6 4292934656 rfl (by omega) (by omega) h0 h1]; exact decide_eq_decide.2 ⟨fun h => by (try simp only [Nat.reducePow] at h); omega, fun h => by (try simp only [Nat.reducePow]); omega⟩) ?_
  refine chain_step (by rw [beq_dec, and_2 21 11 15 1 4292902912 rfl (by omega) (by omega) h0 h1]; exact decide_eq_decide.2 ⟨fun h => by (try simp only [Nat.reducePow] at h); omega, fun h => by (try simp only [Nat.reducePow]); omega⟩) ?_
  refine chain_step (by rw [beq_dec, and_2 21 11 15 1 4292902912 rfl (by omega) (by omega) h0 h1]; exact decide_eq_decide.2 ⟨fun h => by (try simp only [Nat.reducePow] at h); omega, fun h => by (try simp only [Nat.reducePow]); omega⟩) ?_
  refine chain_step (by rw [beq_dec, and_2 21 11 10 6 4292934656 rfl (by omega) (by omega) h0 h1]; exact decide_eq_decide.2 ⟨fun h => by (try simp only [Nat.reducePow] at h); omega, fun h => by (try simp only [Nat.reducePow]); omega⟩) ?_
  refine chain_step (by rw [beq_dec, and_2 21 11 10 6 4292934656 rfl (by omega) (by omega) h0 h1]; exact decide_eq_decide.2 ⟨fun h => by (try simp only [Nat.reducePow] at h); omega, fun h => by (try simp only [Nat.reducePow]); omega⟩) ?_
  refine chain_step (by rw [beq_dec, and_2 21 11 10 6 4292934656 rfl (by omega) (by omega) h0 h1]; exact decide_eq_decide.2 ⟨fun h => by (try simp only [Nat.reducePow] at h); omega, fun h => by (try simp only [Nat.reducePow]); omega⟩) ?_
  refine chain_step (by rw [beq_dec, and_2 21 11 10 6 4292934656 rfl (by omega) (by omega) h0 h1]; exact decide_eq_decide.2 ⟨fun h => by (try simp only [Nat.reducePow] at h); omega, fun h => by (try simp only [Nat.reducePow]); omega⟩) ?_
  refine chain_step (by rw [beq_dec, and_2 21 11 10 2 4292873216 rfl (by omega) (by omega) h0 h1]; exact decide_eq_decide.2 ⟨fun h => by (try simp only [Nat.reducePow] at h); omega, fun h => by (try simp only [Nat.reducePow]); omega⟩) ?_
  refine chain_step (by rw [beq_dec, and_2 10 22 0 5 4294966303 rfl (by omega) (by omega) h0 h1]; exact decide_eq_decide.2 ⟨fun h => by (try simp only [Nat.reducePow] at h); omega, fun h => by (try simp only [Nat.reducePow]); omega⟩) ?_
  refine chain_step (by rw [beq_dec, and_2 10 22 0 5 4294966303 rfl (by omega) (by omega) h0 h1]; exact decide_eq_decide.2 ⟨fun h => by (try simp only [Nat.reducePow] at h); omega, fun h => by (try simp only [Nat.reducePow]); omega⟩) ?_
  refine chain_step (by rw [beq_dec, and_2 10 22 0 5 4294966303 rfl (by omega) (by omega) h0 h1]; exact decide_eq_decide.2 ⟨fun h => by (try simp only [Nat.reducePow] at h); omega, fun h => by (try simp only [Nat.reducePow]); omega⟩) ?_
  refine chain_step (by rw [beq_dec, and_1 22 10 4290772992 rfl (by omega) h0 h1]; exact decide_eq_decide.2 ⟨fun h => by (try simp only [Nat.reducePow] at h); omega, fun h => by (try simp only [Nat.reducePow]); omega⟩) ?_
  refine chain_step (by rw [beq_dec, and_1 22 10 4290772992 rfl (by omega) h0 h1]; exact decide_eq_decide.2 ⟨fun h => by (try simp only [Nat.reducePow] at h); omega, fun h => by (try simp only [Nat.reducePow]); omega⟩) ?_
  refine chain_step (by rw [beq_dec, and_1 22 10 4290772992 rfl (by omega) h0 h1]; exact decide_eq_decide.2 ⟨fun h => by (try simp only [Nat.reducePow] at h); omega, fun h => by (try simp only [Nat.reducePow]); omega⟩) ?_
  refine chain_step (by rw [beq_dec, and_2 21 11 10 6 4292934656 rfl (by omega) (by omega) h0 h1]; exact decide_eq_decide.2 ⟨fun h => by (try simp only [Nat.reducePow] at h); omega, fun h => by (try simp only [Nat.reducePow]); omega⟩) ?_
  refine chain_step (by rw [beq_dec, and_2 21 11 10 6 4292934656 rfl (by omega) (by omega) h0 h1]; exact decide_eq_decide.2 ⟨fun h => by (try simp only [Nat.reducePow] at h); omega, fun h => by (try simp only [Nat.reducePow]); omega⟩) ?_
  refine chain_step (by rw [beq_dec, and_1 10 22 4294966272 rfl (by omega) h0 h1]; exact decide_eq_decide.2 ⟨fun h => by (try simp only [Nat.reducePow] at h); omega, fun h => by (try simp only [Nat.reducePow]); omega⟩) ?_
  refine chain_step (by rw [beq_dec, and_1 10 22 4294966272 rfl (by omega) h0 h1]; exact decide_eq_decide.2 ⟨fun h => by (try simp only [Nat.reducePow] at h); omega, fun h => by (try simp only [Nat.reducePow]); omega⟩) ?_
  refine chain_step (by rw [beq_dec, and_1 10 22 4294966272 rfl (by omega) h0 h1]; exact decide_eq_decide.2 ⟨fun h => by (try simp only [Nat.reducePow] at h); omega, fun h => by (try simp only [Nat.reducePow]); omega⟩) ?_
  refine chain_step (by rw [beq_dec, and_2 21 11 10 6 4292934656 rfl (by omega) (by omega) h0 h1]; exact decide_eq_decide.2 ⟨fun h => by (try simp only [Nat.reducePow] at h); omega, fun h => by (try simp only [Nat.reducePow]); omega⟩) ?_
  refine chain_step (by rw [beq_dec, and_2 12 20 0 8 4294963455 rfl (by omega) (by omega) h0 h1]; exact decide_eq_decide.2 ⟨fun h => by (try simp only [Nat.reducePow] at h); omega, fun h => by (try simp only [Nat.reducePow]); omega⟩) ?_
  refine chain_step (by rw [beq_dec, and_1 0 32 4294967295 rfl (by omega) h0 h1]; exact decide_eq_decide.2 ⟨fun h => by (try simp only [Nat.reducePow] at h); omega, fun h => by (try simp only [Nat.reducePow]); omega⟩) ?_
  refine chain_step (by rw [beq_dec, and_1 0 32 4294967295 rfl (by omega) h0 h1]; exact decide_eq_decide.2 ⟨fun h => by (try simp only [Nat.reducePow] at h); omega, fun h => by (try simp only [Nat.reducePow]); omega⟩) ?_
  refine chain_step (by rw [beq_dec, and_1 5 27 4294967264 rfl (by omega) h0 h1]; exact decide_eq_decide.2 ⟨fun h => by (try simp only [Nat.reducePow] at h); omega, fun h => by (try simp only [Nat.reducePow]); omega⟩) ?_
  refine chain_step (by rw [beq_dec, and_1 5 27 4294967264 rfl (by omega) h0 h1]; exact decide_eq_decide.2 ⟨fun h => by (try simp only [Nat.reducePow] at h); omega, fun h => by (try simp only [Nat.reducePow]); omega⟩) ?_
  rfl
def fE (w p m : Int) : Int := IntKind.i64.wrap (Go.bits .and .u32 (w.fdiv p) m)
def farE (w p m q : Int) : Int := IntKind.i64.wrap (4 * (IntKind.i64.wrap (IntKind.i64.wrap (IntKind.u64.wrap (Go.bits .and .u32 (w.fdiv p) m)) * q)).fdiv q)
theorem fE_eq {w : Int} (lo n : Nat) (p m M : Int) (hp : p = ((2 ^ lo : Nat) : Int)) (hm : m = ((2 ^ n - 1 : Nat) : Int)) (hM : M = ((2 ^ n : Nat) : Int)) (hn : n ≤ 32) (h0 : 0 ≤ w) (h1 : w < 4294967296) : fE w p m = w / p % M := by
  have hp0 : 0 < p := by subst hp; exact Int.natCast_pos.2 (Nat.two_pow_pos lo)
  have hM0 : 0 < M := by subst hM; exact Int.natCast_pos.2 (Nat.two_pow_pos n)
  have hM1 : M ≤ 4294967296 := by
    subst hM
    have : 2 ^ n ≤ 2 ^ 32 := Nat.pow_le_pow_right (by omega) hn
    omega
  have h2 : 0 ≤ w / p := Int.ediv_nonneg h0 (by omega)
  have h3 : w / p ≤ w := Int.ediv_le_self _ h0
  have h4 := Int.emod_nonneg (w / p) (show M ≠ 0 by omega)
  have h5 := Int.emod_lt_of_pos (w / p) hM0
  unfold fE
  subst hm
  rw [Int.fdiv_eq_ediv_of_nonneg _ (by omega), and_u32 n h2 (by omega) hn]
  subst hM
  rw [wrap_i64_in (by omega) (by omega)]
theorem farE_eq {w : Int} (lo n : Nat) (p m M q : Int) (hp : p = ((2 ^ lo : Nat) : Int)) (hm : m = ((2 ^ n - 1 : Nat) : Int)) (hM : M = ((2 ^ n : Nat) : Int)) (hn : n ≤ 32) (hq : (M = 67108864 ∧ q = 274877906944) ∨ (M = 524288 ∧ q = 35184372088832)) (h0 : 0 ≤ w) (h1 : w < 4294967296) : farE w p m q = 4 * sx M (w / p % M) := by
  have hp0 : 0 < p := by subst hp; exact Int.natCast_pos.2 (Nat.two_pow_pos lo)
  have h2 : 0 ≤ w / p := Int.ediv_nonneg h0 (by omega)
  have h3 : w / p ≤ w := Int.ediv_le_self _ h0
  unfold farE
  subst hm
  rw [Int.fdiv_eq_ediv_of_nonneg (b := p) _ (by omega), and_u32 n h2 (by omega) hn, ← hM]
  rcases hq with ⟨rfl, rfl⟩ | ⟨rfl, rfl⟩
  · have h5 := Int.emod_lt_of_pos (w / p) (show (0 : Int) < 67108864 by omega)
    have h6 := Int.emod_nonneg (w / p) (show (67108864 : Int) ≠ 0 by omega)
    generalize w / p % 67108864 = x at h5 h6
    rw [IntWalk.u64_in x (by omega), wrap_i64_in (n := x) (by omega) (by omega), Int.fdiv_eq_ediv_of_nonneg _ (by omega), wrap_i64 (x * _)]
    unfold sx
    have h7 : ((x * 274877906944 + 9223372036854775808) % 18446744073709551616 - 9223372036854775808) / 274877906944 = if x ≥ 67108864 / 2 then x - 67108864 else x := by split <;> omega
    rw [h7, wrap_i64_in (by split <;> omega) (by split <;> omega)]
  · have h5 := Int.emod_lt_of_pos (w / p) (show (0 : Int) < 524288 by omega)
    have h6 := Int.emod_nonneg (w / p) (show (524288 : Int) ≠ 0 by omega)
    generalize w / p % 524288 = x at h5 h6
    rw [IntWalk.u64_in x (by omega), wrap_i64_in (n := x) (by omega) (by omega), Int.fdiv_eq_ediv_of_nonneg _ (by omega), wrap_i64 (x * _)]
    unfold sx
    have h7 : ((x * 35184372088832 + 9223372036854775808) % 18446744073709551616 - 9223372036854775808) / 35184372088832 = if x ≥ 524288 / 2 then x - 524288 else x := by split <;> omega
    rw [h7, wrap_i64_in (by split <;> omega) (by split <;> omega)]
/-- The fields as the code takes them. -/
def decE (k : Nat) (w : Int) : I7 := match k with
  | 0 => ⟨0, 0, 0, 0, 0, 0, 0⟩
  | 1 => ⟨1, 0, 0, 0, 0, 0, 0⟩
  | 2 => ⟨2, fE w 1 31, 0, fE w 2097152 3, 0, 0, fE w 32 65535⟩
  | 3 => ⟨3, fE w 1 31, 0, fE w 2097152 3, 0, 0, fE w 32 65535⟩
  | 4 => ⟨4, fE w 1 31, fE w 32 31, 0, 0, 0, fE w 1024 4095⟩
  | 5 => ⟨5, fE w 1 31, fE w 32 31, 0, 0, 0, fE w 1024 4095⟩
  | 6 => ⟨6, fE w 1 31, fE w 32 31, 0, 0, 0, fE w 1024 4095⟩
  | 7 => ⟨7, fE w 1 31, fE w 32 31, fE w 65536 31, 0, 0, 0⟩
  | 8 => ⟨8, fE w 1 31, fE w 32 31, fE w 65536 31, 0, 0, 0⟩
  | 9 => ⟨9, fE w 1 31, fE w 32 31, fE w 65536 31, 0, 0, 0⟩
  | 10 => ⟨10, fE w 1 31, fE w 32 31, fE w 65536 31, 0, 0, 0⟩
  | 11 => ⟨11, fE w 1 31, fE w 32 31, fE w 65536 31, 0, 0, 0⟩
  | 12 => ⟨12, fE w 1 31, fE w 32 31, fE w 65536 31, 0, 0, 0⟩
  | 13 => ⟨13, fE w 1 31, fE w 32 31, fE w 65536 31, fE w 1024 31, 0, 0⟩
  | 14 => ⟨14, fE w 1 31, fE w 32 31, fE w 65536 31, fE w 1024 31, 0, 0⟩
  | 15 => ⟨15, fE w 1 31, fE w 32 31, fE w 65536 31, 0, 0, 0⟩
  | 16 => ⟨16, fE w 1 31, fE w 32 31, fE w 65536 31, 0, 0, 0⟩
  | 17 => ⟨17, fE w 1 31, fE w 32 31, fE w 65536 31, 0, 0, 0⟩
  | 18 => ⟨18, fE w 1 31, fE w 32 31, fE w 65536 31, 0, 0, 0⟩
  | 19 => ⟨19, fE w 1 31, fE w 32 31, fE w 65536 31, 0, fE w 4096 15, 0⟩
  | 20 => ⟨20, 0, 0, 0, 0, 0, farE w 1 67108863 274877906944⟩
  | 21 => ⟨21, 0, 0, 0, 0, fE w 1 15, farE w 32 524287 35184372088832⟩
  | 22 => ⟨22, fE w 1 31, 0, 0, 0, 0, farE w 32 524287 35184372088832⟩
  | 23 => ⟨23, fE w 1 31, 0, 0, 0, 0, farE w 32 524287 35184372088832⟩
  | 24 => ⟨24, 0, 0, 0, 0, 0, farE w 1 67108863 274877906944⟩
  | 25 => ⟨25, 0, fE w 32 31, 0, 0, 0, 0⟩
  | 26 => ⟨26, 0, fE w 32 31, 0, 0, 0, 0⟩
  | 27 => ⟨27, 0, fE w 32 31, 0, 0, 0, 0⟩
  | 28 => ⟨28, fE w 1 31, fE w 32 31, 0, 0, 0, IntKind.i64.wrap (8 * fE w 1024 4095)⟩
  | 29 => ⟨29, fE w 1 31, fE w 32 31, 0, 0, 0, IntKind.i64.wrap (8 * fE w 1024 4095)⟩
  | 30 => ⟨30, fE w 1 31, fE w 32 31, 0, 0, 0, fE w 1024 4095⟩
  | 31 => ⟨31, fE w 1 31, fE w 32 31, fE w 65536 31, 0, 0, 0⟩
  | 32 => ⟨32, fE w 1 31, fE w 32 31, fE w 65536 31, 0, 0, 0⟩
  | 33 => ⟨33, fE w 1 31, fE w 32 31, 0, 0, 0, 0⟩
  | 34 => ⟨34, fE w 1 31, fE w 32 31, 0, 0, 0, 0⟩
  | 35 => ⟨35, fE w 1 31, fE w 32 31, 0, 0, 0, 0⟩
  | 36 => ⟨36, fE w 65536 31, fE w 32 31, fE w 1 31, 0, 0, 0⟩
  | 37 => ⟨37, 0, 0, 0, 0, 0, 0⟩
  | 38 => ⟨38, 0, 0, 0, 0, 0, 0⟩
  | 39 => ⟨39, 0, 0, 0, 0, 0, 0⟩
  | 40 => ⟨40, 0, fE w 1 31, 0, 0, 0, 0⟩
  | 41 => ⟨41, 0, fE w 1 31, 0, 0, 0, 0⟩
  | 42 => ⟨42, 0, 0, 0, 0, 0, fE w 32 65535⟩
  | _ => ⟨0, 0, 0, 0, 0, 0, 0⟩
theorem decE_eq {w : Int} (h0 : 0 ≤ w) (h1 : w < 4294967296) : ∀ k : Nat, k < 43 → k ≠ 37 → decE k w = decF k w
  | 0, _, _ => by
    show (⟨_, _, _, _, _, _, _⟩ : I7) = ⟨_, _, _, _, _, _, _⟩
    exact I7.ext rfl rfl rfl rfl rfl rfl rfl
  | 1, _, _ => by
    show (⟨_, _, _, _, _, _, _⟩ : I7) = ⟨_, _, _, _, _, _, _⟩
    exact I7.ext rfl rfl rfl rfl rfl rfl rfl
  | 2, _, _ => by
    show (⟨_, _, _, _, _, _, _⟩ : I7) = ⟨_, _, _, _, _, _, _⟩
    exact I7.ext rfl (by rw [fE_eq 0 5 1 31 32 rfl rfl rfl (by omega) h0 h1, Int.ediv_one]) rfl (by rw [fE_eq 21 2 2097152 3 4 rfl rfl rfl (by omega) h0 h1]) rfl rfl (by rw [fE_eq 5 16 32 65535 65536 rfl rfl rfl (by omega) h0 h1])
  | 3, _, _ => by
    show (⟨_, _, _, _, _, _, _⟩ : I7) = ⟨_, _, _, _, _, _, _⟩
    exact I7.ext rfl (by rw [fE_eq 0 5 1 31 32 rfl rfl rfl (by omega) h0 h1, Int.ediv_one]) rfl (by rw [fE_eq 21 2 2097152 3 4 rfl rfl rfl (by omega) h0 h1]) rfl rfl (by rw [fE_eq 5 16 32 65535 65536 rfl rfl rfl (by omega) h0 h1])
  | 4, _, _ => by
    show (⟨_, _, _, _, _, _, _⟩ : I7) = ⟨_, _, _, _, _, _, _⟩
    exact I7.ext rfl (by rw [fE_eq 0 5 1 31 32 rfl rfl rfl (by omega) h0 h1, Int.ediv_one]) (by rw [fE_eq 5 5 32 31 32 rfl rfl rfl (by omega) h0 h1]) rfl rfl rfl (by rw [fE_eq 10 12 1024 4095 4096 rfl rfl rfl (by omega) h0 h1])
  | 5, _, _ => by
    show (⟨_, _, _, _, _, _, _⟩ : I7) = ⟨_, _, _, _, _, _, _⟩
    exact I7.ext rfl (by rw [fE_eq 0 5 1 31 32 rfl rfl rfl (by omega) h0 h1, Int.ediv_one]) (by rw [fE_eq 5 5 32 31 32 rfl rfl rfl (by omega) h0 h1]) rfl rfl rfl (by rw [fE_eq 10 12 1024 4095 4096 rfl rfl rfl (by omega) h0 h1])
  | 6, _, _ => by
    show (⟨_, _, _, _, _, _, _⟩ : I7) = ⟨_, _, _, _, _, _, _⟩
    exact I7.ext rfl (by rw [fE_eq 0 5 1 31 32 rfl rfl rfl (by omega) h0 h1, Int.ediv_one]) (by rw [fE_eq 5 5 32 31 32 rfl rfl rfl (by omega) h0 h1]) rfl rfl rfl (by rw [fE_eq 10 12 1024 4095 4096 rfl rfl rfl (by omega) h0 h1])
  | 7, _, _ => by
    show (⟨_, _, _, _, _, _, _⟩ : I7) = ⟨_, _, _, _, _, _, _⟩
    exact I7.ext rfl (by rw [fE_eq 0 5 1 31 32 rfl rfl rfl (by omega) h0 h1, Int.ediv_one]) (by rw [fE_eq 5 5 32 31 32 rfl rfl rfl (by omega) h0 h1]) (by rw [fE_eq 16 5 65536 31 32 rfl rfl rfl (by omega) h0 h1]) rfl rfl rfl
  | 8, _, _ => by
    show (⟨_, _, _, _, _, _, _⟩ : I7) = ⟨_, _, _, _, _, _, _⟩
    exact I7.ext rfl (by rw [fE_eq 0 5 1 31 32 rfl rfl rfl (by omega) h0 h1, Int.ediv_one]) (by rw [fE_eq 5 5 32 31 32 rfl rfl rfl (by omega) h0 h1]) (by rw [fE_eq 16 5 65536 31 32 rfl rfl rfl (by omega) h0 h1]) rfl rfl rfl
  | 9, _, _ => by
    show (⟨_, _, _, _, _, _, _⟩ : I7) = ⟨_, _, _, _, _, _, _⟩
    exact I7.ext rfl (by rw [fE_eq 0 5 1 31 32 rfl rfl rfl (by omega) h0 h1, Int.ediv_one]) (by rw [fE_eq 5 5 32 31 32 rfl rfl rfl (by omega) h0 h1]) (by rw [fE_eq 16 5 65536 31 32 rfl rfl rfl (by omega) h0 h1]) rfl rfl rfl
  | 10, _, _ => by
    show (⟨_, _, _, _, _, _, _⟩ : I7) = ⟨_, _, _, _, _, _, _⟩
    exact I7.ext rfl (by rw [fE_eq 0 5 1 31 32 rfl rfl rfl (by omega) h0 h1, Int.ediv_one]) (by rw [fE_eq 5 5 32 31 32 rfl rfl rfl (by omega) h0 h1]) (by rw [fE_eq 16 5 65536 31 32 rfl rfl rfl (by omega) h0 h1]) rfl rfl rfl
  | 11, _, _ => by
    show (⟨_, _, _, _, _, _, _⟩ : I7) = ⟨_, _, _, _, _, _, _⟩
    exact I7.ext rfl (by rw [fE_eq 0 5 1 31 32 rfl rfl rfl (by omega) h0 h1, Int.ediv_one]) (by rw [fE_eq 5 5 32 31 32 rfl rfl rfl (by omega) h0 h1]) (by rw [fE_eq 16 5 65536 31 32 rfl rfl rfl (by omega) h0 h1]) rfl rfl rfl
  | 12, _, _ => by
    show (⟨_, _, _, _, _, _, _⟩ : I7) = ⟨_, _, _, _, _, _, _⟩
    exact I7.ext rfl (by rw [fE_eq 0 5 1 31 32 rfl rfl rfl (by omega) h0 h1, Int.ediv_one]) (by rw [fE_eq 5 5 32 31 32 rfl rfl rfl (by omega) h0 h1]) (by rw [fE_eq 16 5 65536 31 32 rfl rfl rfl (by omega) h0 h1]) rfl rfl rfl
  | 13, _, _ => by
    show (⟨_, _, _, _, _, _, _⟩ : I7) = ⟨_, _, _, _, _, _, _⟩
    exact I7.ext rfl (by rw [fE_eq 0 5 1 31 32 rfl rfl rfl (by omega) h0 h1, Int.ediv_one]) (by rw [fE_eq 5 5 32 31 32 rfl rfl rfl (by omega) h0 h1]) (by rw [fE_eq 16 5 65536 31 32 rfl rfl rfl (by omega) h0 h1]) (by rw [fE_eq 10 5 1024 31 32 rfl rfl rfl (by omega) h0 h1]) rfl rfl
  | 14, _, _ => by
    show (⟨_, _, _, _, _, _, _⟩ : I7) = ⟨_, _, _, _, _, _, _⟩
    exact I7.ext rfl (by rw [fE_eq 0 5 1 31 32 rfl rfl rfl (by omega) h0 h1, Int.ediv_one]) (by rw [fE_eq 5 5 32 31 32 rfl rfl rfl (by omega) h0 h1]) (by rw [fE_eq 16 5 65536 31 32 rfl rfl rfl (by omega) h0 h1]) (by rw [fE_eq 10 5 1024 31 32 rfl rfl rfl (by omega) h0 h1]) rfl rfl
  | 15, _, _ => by
    show (⟨_, _, _, _, _, _, _⟩ : I7) = ⟨_, _, _, _, _, _, _⟩
    exact I7.ext rfl (by rw [fE_eq 0 5 1 31 32 rfl rfl rfl (by omega) h0 h1, Int.ediv_one]) (by rw [fE_eq 5 5 32 31 32 rfl rfl rfl (by omega) h0 h1]) (by rw [fE_eq 16 5 65536 31 32 rfl rfl rfl (by omega) h0 h1]) rfl rfl rfl
  | 16, _, _ => by
    show (⟨_, _, _, _, _, _, _⟩ : I7) = ⟨_, _, _, _, _, _, _⟩
    exact I7.ext rfl (by rw [fE_eq 0 5 1 31 32 rfl rfl rfl (by omega) h0 h1, Int.ediv_one]) (by rw [fE_eq 5 5 32 31 32 rfl rfl rfl (by omega) h0 h1]) (by rw [fE_eq 16 5 65536 31 32 rfl rfl rfl (by omega) h0 h1]) rfl rfl rfl
  | 17, _, _ => by
    show (⟨_, _, _, _, _, _, _⟩ : I7) = ⟨_, _, _, _, _, _, _⟩
    exact I7.ext rfl (by rw [fE_eq 0 5 1 31 32 rfl rfl rfl (by omega) h0 h1, Int.ediv_one]) (by rw [fE_eq 5 5 32 31 32 rfl rfl rfl (by omega) h0 h1]) (by rw [fE_eq 16 5 65536 31 32 rfl rfl rfl (by omega) h0 h1]) rfl rfl rfl
  | 18, _, _ => by
    show (⟨_, _, _, _, _, _, _⟩ : I7) = ⟨_, _, _, _, _, _, _⟩
    exact I7.ext rfl (by rw [fE_eq 0 5 1 31 32 rfl rfl rfl (by omega) h0 h1, Int.ediv_one]) (by rw [fE_eq 5 5 32 31 32 rfl rfl rfl (by omega) h0 h1]) (by rw [fE_eq 16 5 65536 31 32 rfl rfl rfl (by omega) h0 h1]) rfl rfl rfl
  | 19, _, _ => by
    show (⟨_, _, _, _, _, _, _⟩ : I7) = ⟨_, _, _, _, _, _, _⟩
    exact I7.ext rfl (by rw [fE_eq 0 5 1 31 32 rfl rfl rfl (by omega) h0 h1, Int.ediv_one]) (by rw [fE_eq 5 5 32 31 32 rfl rfl rfl (by omega) h0 h1]) (by rw [fE_eq 16 5 65536 31 32 rfl rfl rfl (by omega) h0 h1]) rfl (by rw [fE_eq 12 4 4096 15 16 rfl rfl rfl (by omega) h0 h1]) rfl
  | 20, _, _ => by
    show (⟨_, _, _, _, _, _, _⟩ : I7) = ⟨_, _, _, _, _, _, _⟩
    exact I7.ext rfl rfl rfl rfl rfl rfl (by rw [farE_eq 0 26 1 67108863 67108864 274877906944 rfl rfl rfl (by omega) (by omega) h0 h1, Int.ediv_one])
  | 21, _, _ => by
    show (⟨_, _, _, _, _, _, _⟩ : I7) = ⟨_, _, _, _, _, _, _⟩
    exact I7.ext rfl rfl rfl rfl rfl (by rw [fE_eq 0 4 1 15 16 rfl rfl rfl (by omega) h0 h1, Int.ediv_one]) (by rw [farE_eq 5 19 32 524287 524288 35184372088832 rfl rfl rfl (by omega) (by omega) h0 h1])
  | 22, _, _ => by
    show (⟨_, _, _, _, _, _, _⟩ : I7) = ⟨_, _, _, _, _, _, _⟩
    exact I7.ext rfl (by rw [fE_eq 0 5 1 31 32 rfl rfl rfl (by omega) h0 h1, Int.ediv_one]) rfl rfl rfl rfl (by rw [farE_eq 5 19 32 524287 524288 35184372088832 rfl rfl rfl (by omega) (by omega) h0 h1])
  | 23, _, _ => by
    show (⟨_, _, _, _, _, _, _⟩ : I7) = ⟨_, _, _, _, _, _, _⟩
    exact I7.ext rfl (by rw [fE_eq 0 5 1 31 32 rfl rfl rfl (by omega) h0 h1, Int.ediv_one]) rfl rfl rfl rfl (by rw [farE_eq 5 19 32 524287 524288 35184372088832 rfl rfl rfl (by omega) (by omega) h0 h1])
  | 24, _, _ => by
    show (⟨_, _, _, _, _, _, _⟩ : I7) = ⟨_, _, _, _, _, _, _⟩
    exact I7.ext rfl rfl rfl rfl rfl rfl (by rw [farE_eq 0 26 1 67108863 67108864 274877906944 rfl rfl rfl (by omega) (by omega) h0 h1, Int.ediv_one])
  | 25, _, _ => by
    show (⟨_, _, _, _, _, _, _⟩ : I7) = ⟨_, _, _, _, _, _, _⟩
    exact I7.ext rfl rfl (by rw [fE_eq 5 5 32 31 32 rfl rfl rfl (by omega) h0 h1]) rfl rfl rfl rfl
  | 26, _, _ => by
    show (⟨_, _, _, _, _, _, _⟩ : I7) = ⟨_, _, _, _, _, _, _⟩
    exact I7.ext rfl rfl (by rw [fE_eq 5 5 32 31 32 rfl rfl rfl (by omega) h0 h1]) rfl rfl rfl rfl
  | 27, _, _ => by
    show (⟨_, _, _, _, _, _, _⟩ : I7) = ⟨_, _, _, _, _, _, _⟩
    exact I7.ext rfl rfl (by rw [fE_eq 5 5 32 31 32 rfl rfl rfl (by omega) h0 h1]) rfl rfl rfl rfl
  | 28, _, _ => by
    show (⟨_, _, _, _, _, _, _⟩ : I7) = ⟨_, _, _, _, _, _, _⟩
    exact I7.ext rfl (by rw [fE_eq 0 5 1 31 32 rfl rfl rfl (by omega) h0 h1, Int.ediv_one]) (by rw [fE_eq 5 5 32 31 32 rfl rfl rfl (by omega) h0 h1]) rfl rfl rfl (by rw [fE_eq 10 12 1024 4095 4096 rfl rfl rfl (by omega) h0 h1, wrap_i64_in (n := 8 * (w / 1024 % 4096)) (by omega) (by omega)])
  | 29, _, _ => by
    show (⟨_, _, _, _, _, _, _⟩ : I7) = ⟨_, _, _, _, _, _, _⟩
    exact I7.ext rfl (by rw [fE_eq 0 5 1 31 32 rfl rfl rfl (by omega) h0 h1, Int.ediv_one]) (by rw [fE_eq 5 5 32 31 32 rfl rfl rfl (by omega) h0 h1]) rfl rfl rfl (by rw [fE_eq 10 12 1024 4095 4096 rfl rfl rfl (by omega) h0 h1, wrap_i64_in (n := 8 * (w / 1024 % 4096)) (by omega) (by omega)])
  | 30, _, _ => by
    show (⟨_, _, _, _, _, _, _⟩ : I7) = ⟨_, _, _, _, _, _, _⟩
    exact I7.ext rfl (by rw [fE_eq 0 5 1 31 32 rfl rfl rfl (by omega) h0 h1, Int.ediv_one]) (by rw [fE_eq 5 5 32 31 32 rfl rfl rfl (by omega) h0 h1]) rfl rfl rfl (by rw [fE_eq 10 12 1024 4095 4096 rfl rfl rfl (by omega) h0 h1])
  | 31, _, _ => by
    show (⟨_, _, _, _, _, _, _⟩ : I7) = ⟨_, _, _, _, _, _, _⟩
    exact I7.ext rfl (by rw [fE_eq 0 5 1 31 32 rfl rfl rfl (by omega) h0 h1, Int.ediv_one]) (by rw [fE_eq 5 5 32 31 32 rfl rfl rfl (by omega) h0 h1]) (by rw [fE_eq 16 5 65536 31 32 rfl rfl rfl (by omega) h0 h1]) rfl rfl rfl
  | 32, _, _ => by
    show (⟨_, _, _, _, _, _, _⟩ : I7) = ⟨_, _, _, _, _, _, _⟩
    exact I7.ext rfl (by rw [fE_eq 0 5 1 31 32 rfl rfl rfl (by omega) h0 h1, Int.ediv_one]) (by rw [fE_eq 5 5 32 31 32 rfl rfl rfl (by omega) h0 h1]) (by rw [fE_eq 16 5 65536 31 32 rfl rfl rfl (by omega) h0 h1]) rfl rfl rfl
  | 33, _, _ => by
    show (⟨_, _, _, _, _, _, _⟩ : I7) = ⟨_, _, _, _, _, _, _⟩
    exact I7.ext rfl (by rw [fE_eq 0 5 1 31 32 rfl rfl rfl (by omega) h0 h1, Int.ediv_one]) (by rw [fE_eq 5 5 32 31 32 rfl rfl rfl (by omega) h0 h1]) rfl rfl rfl rfl
  | 34, _, _ => by
    show (⟨_, _, _, _, _, _, _⟩ : I7) = ⟨_, _, _, _, _, _, _⟩
    exact I7.ext rfl (by rw [fE_eq 0 5 1 31 32 rfl rfl rfl (by omega) h0 h1, Int.ediv_one]) (by rw [fE_eq 5 5 32 31 32 rfl rfl rfl (by omega) h0 h1]) rfl rfl rfl rfl
  | 35, _, _ => by
    show (⟨_, _, _, _, _, _, _⟩ : I7) = ⟨_, _, _, _, _, _, _⟩
    exact I7.ext rfl (by rw [fE_eq 0 5 1 31 32 rfl rfl rfl (by omega) h0 h1, Int.ediv_one]) (by rw [fE_eq 5 5 32 31 32 rfl rfl rfl (by omega) h0 h1]) rfl rfl rfl rfl
  | 36, _, _ => by
    show (⟨_, _, _, _, _, _, _⟩ : I7) = ⟨_, _, _, _, _, _, _⟩
    exact I7.ext rfl (by rw [fE_eq 16 5 65536 31 32 rfl rfl rfl (by omega) h0 h1]) (by rw [fE_eq 5 5 32 31 32 rfl rfl rfl (by omega) h0 h1]) (by rw [fE_eq 0 5 1 31 32 rfl rfl rfl (by omega) h0 h1, Int.ediv_one]) rfl rfl rfl
  | 37, _, h => absurd rfl h
  | 38, _, _ => by
    show (⟨_, _, _, _, _, _, _⟩ : I7) = ⟨_, _, _, _, _, _, _⟩
    exact I7.ext rfl rfl rfl rfl rfl rfl rfl
  | 39, _, _ => by
    show (⟨_, _, _, _, _, _, _⟩ : I7) = ⟨_, _, _, _, _, _, _⟩
    exact I7.ext rfl rfl rfl rfl rfl rfl rfl
  | 40, _, _ => by
    show (⟨_, _, _, _, _, _, _⟩ : I7) = ⟨_, _, _, _, _, _, _⟩
    exact I7.ext rfl rfl (by rw [fE_eq 0 5 1 31 32 rfl rfl rfl (by omega) h0 h1, Int.ediv_one]) rfl rfl rfl rfl
  | 41, _, _ => by
    show (⟨_, _, _, _, _, _, _⟩ : I7) = ⟨_, _, _, _, _, _, _⟩
    exact I7.ext rfl rfl (by rw [fE_eq 0 5 1 31 32 rfl rfl rfl (by omega) h0 h1, Int.ediv_one]) rfl rfl rfl rfl
  | 42, _, _ => by
    show (⟨_, _, _, _, _, _, _⟩ : I7) = ⟨_, _, _, _, _, _, _⟩
    exact I7.ext rfl rfl rfl rfl rfl rfl (by rw [fE_eq 5 16 32 65535 65536 rfl rfl rfl (by omega) h0 h1])
  | k + 43, h, _ => absurd h (by omega)
def udfE (w : Int) : V := insV 0 0 0 0 0 0 (IntKind.i64.wrap (Go.bits .and .u32 w 65535))
theorem udfE_eq {w : Int} (h0 : 0 ≤ w) (h1 : w < 4294967296) : udfE w = (udf w).v := by
  have h := fE_eq (w := w) 0 16 1 65535 65536 rfl rfl rfl (by omega) h0 h1
  unfold fE at h
  rw [Int.fdiv_eq_ediv_of_nonneg _ (by omega), Int.ediv_one] at h
  unfold udfE udf I7.v
  rw [h]
def leafM (w : Int) (i : I7) : Option V := Br (chkV i.op i.d i.n i.m i.a i.c i.im == 0) (Br (i.word == w) (some i.v) (some (udfE w))) (some (udfE w))
def leafK (w : Int) (k : Nat) : Option V := match k with
  | 0 => Br (0 == w) (some (udfE w)) (some (udfE w))
  | 37 => none
  | k => leafM w (decE k w)
def kindA : List V → Sto → Option Ans := fun args s => match args with
  | [.raw (.int .u32 w)] => some (chainG Ans.br (fun k => match k with
    | 37 => .no
    | k => .one (.ret (.raw (.int .i64 (k : Nat)))) s) (kindL w))
  | _ => none
set_option maxRecDepth 1000000 in
theorem kind_run (w : Int) : runI Try.prog noE 60 50 [.raw (.int .u32 w)] = chainG Br (fun k => some (.raw (.int .i64 (k : Nat)))) (kindL w) := by kernel_rfl
theorem kind_call (w : Int) : CallOk Try.prog 50 [.raw (.int .u32 w)] [] fun r _ => r = .ret (.raw (.int .i64 (chainX (kindL w) : Nat))) := runI_ok noE_ok names mixed (n := 60) (by rw [kind_run, chain_Br])
theorem kindA_ok {E : Eh} (hE : EOk Try.prog E) : EOk Try.prog (addE 50 kindA E) := by
  refine addE_ok hE fun args s a h hf => ?_
  unfold kindA at h
  split at h
  · rename_i w
    cases h
    have h1 := chain_fine _ _ hf
    refine ((kind_call w).anywhere (s := s) ⟨trivial, trivial⟩ trivial).mono fun r s' ⟨h2, h3⟩ => chain_is _ _ ?_
    subst h2 h3
    generalize chainX (kindL w) = k at h1 ⊢
    split at h1
    · exact h1.elim
    · exact ⟨rfl, rfl⟩
  · cases h
noncomputable def EK : Eh := addE 50 kindA (specE 55 wordG noE)
theorem EK_ok : EOk Try.prog EK := kindA_ok (wordG_ok noE_ok)
set_option maxRecDepth 1000000 in
theorem ins_run (w : Int) : runI Try.prog EK 80 27 [.raw (.int .u32 w)] = chainG Br (leafK w) (kindL w) := by kernel_rfl
noncomputable def EW1 : Eh := specE 55 wordG noE
theorem EW1_ok : EOk Try.prog EW1 := wordG_ok noE_ok
set_option maxRecDepth 1000000 in
theorem bar_run_0 : runI Try.prog EW1 80 27 [.raw (.int .u32 3573756095)] = some (decI 3573756095).v := by kernel_rfl
set_option maxRecDepth 1000000 in
theorem bar_run_1 : runI Try.prog EW1 80 27 [.raw (.int .u32 3573756351)] = some (decI 3573756351).v := by kernel_rfl
set_option maxRecDepth 1000000 in
theorem bar_run_2 : runI Try.prog EW1 80 27 [.raw (.int .u32 3573756607)] = some (decI 3573756607).v := by kernel_rfl
set_option maxRecDepth 1000000 in
theorem bar_run_3 : runI Try.prog EW1 80 27 [.raw (.int .u32 3573756863)] = some (decI 3573756863).v := by kernel_rfl
set_option maxRecDepth 1000000 in
theorem bar_run_4 : runI Try.prog EW1 80 27 [.raw (.int .u32 3573757119)] = some (decI 3573757119).v := by kernel_rfl
set_option maxRecDepth 1000000 in
theorem bar_run_5 : runI Try.prog EW1 80 27 [.raw (.int .u32 3573757375)] = some (decI 3573757375).v := by kernel_rfl
set_option maxRecDepth 1000000 in
theorem bar_run_6 : runI Try.prog EW1 80 27 [.raw (.int .u32 3573757631)] = some (decI 3573757631).v := by kernel_rfl
set_option maxRecDepth 1000000 in
theorem bar_run_7 : runI Try.prog EW1 80 27 [.raw (.int .u32 3573757887)] = some (decI 3573757887).v := by kernel_rfl
set_option maxRecDepth 1000000 in
theorem bar_run_8 : runI Try.prog EW1 80 27 [.raw (.int .u32 3573758143)] = some (decI 3573758143).v := by kernel_rfl
set_option maxRecDepth 1000000 in
theorem bar_run_9 : runI Try.prog EW1 80 27 [.raw (.int .u32 3573758399)] = some (decI 3573758399).v := by kernel_rfl
set_option maxRecDepth 1000000 in
theorem bar_run_10 : runI Try.prog EW1 80 27 [.raw (.int .u32 3573758655)] = some (decI 3573758655).v := by kernel_rfl
set_option maxRecDepth 1000000 in
theorem bar_run_11 : runI Try.prog EW1 80 27 [.raw (.int .u32 3573758911)] = some (decI 3573758911).v := by kernel_rfl
set_option maxRecDepth 1000000 in
theorem bar_run_12 : runI Try.prog EW1 80 27 [.raw (.int .u32 3573759167)] = some (decI 3573759167).v := by kernel_rfl
set_option maxRecDepth 1000000 in
theorem bar_run_13 : runI Try.prog EW1 80 27 [.raw (.int .u32 3573759423)] = some (decI 3573759423).v := by kernel_rfl
set_option maxRecDepth 1000000 in
theorem bar_run_14 : runI Try.prog EW1 80 27 [.raw (.int .u32 3573759679)] = some (decI 3573759679).v := by kernel_rfl
set_option maxRecDepth 1000000 in
theorem bar_run_15 : runI Try.prog EW1 80 27 [.raw (.int .u32 3573759935)] = some (decI 3573759935).v := by kernel_rfl
theorem ite_ne {p : Prop} [Decidable p] {a b : Nat} (ha : a ≠ 37) (hb : b ≠ 37) : (if p then a else b) ≠ 37 := by
  by_cases h : p
  · rw [if_pos h]; exact ha
  · rw [if_neg h]; exact hb
theorem ins_call {w : Int} (h0 : 0 ≤ w) (h1 : w < 4294967296) : CallOk Try.prog 27 [.raw (.int .u32 w)] [] fun r _ => r = .ret (decI w).v := by
  by_cases hk : kindN w = 37
  · have h37 : w / 4096 = 872499 ∧ w % 256 = 191 := Decidable.byContradiction fun hn => absurd hk (by
      unfold kindN
      repeat (refine ite_ne (by omega) ?_)
      rw [if_neg hn]
      repeat (refine ite_ne (by omega) ?_)
      omega)
    rcases (show w = 3573756095 ∨ w = 3573756351 ∨ w = 3573756607 ∨ w = 3573756863 ∨ w = 3573757119 ∨ w = 3573757375 ∨ w = 3573757631 ∨ w = 3573757887 ∨ w = 3573758143 ∨ w = 3573758399 ∨ w = 3573758655 ∨ w = 3573758911 ∨ w = 3573759167 ∨ w = 3573759423 ∨ w = 3573759679 ∨ w = 3573759935 by omega) with rfl | rfl | rfl | rfl | rfl | rfl | rfl | rfl | rfl | rfl | rfl | rfl | rfl | rfl | rfl | rfl
    · exact runI_ok EW1_ok names mixed (n := 80) bar_run_0
    · exact runI_ok EW1_ok names mixed (n := 80) bar_run_1
    · exact runI_ok EW1_ok names mixed (n := 80) bar_run_2
    · exact runI_ok EW1_ok names mixed (n := 80) bar_run_3
    · exact runI_ok EW1_ok names mixed (n := 80) bar_run_4
    · exact runI_ok EW1_ok names mixed (n := 80) bar_run_5
    · exact runI_ok EW1_ok names mixed (n := 80) bar_run_6
    · exact runI_ok EW1_ok names mixed (n := 80) bar_run_7
    · exact runI_ok EW1_ok names mixed (n := 80) bar_run_8
    · exact runI_ok EW1_ok names mixed (n := 80) bar_run_9
    · exact runI_ok EW1_ok names mixed (n := 80) bar_run_10
    · exact runI_ok EW1_ok names mixed (n := 80) bar_run_11
    · exact runI_ok EW1_ok names mixed (n := 80) bar_run_12
    · exact runI_ok EW1_ok names mixed (n := 80) bar_run_13
    · exact runI_ok EW1_ok names mixed (n := 80) bar_run_14
    · exact runI_ok EW1_ok names mixed (n := 80) bar_run_15
  · refine runI_ok EK_ok names mixed (n := 80) ?_
    rw [ins_run, chain_Br, kindL_eq h0 h1]
    have hlt := kind_lt w
    unfold decI
    by_cases h : kindN w = 0
    · rw [if_neg (fun hh => hh.1 h), h]
      show Br (0 == w) (some (udfE w)) (some (udfE w)) = _
      rw [Br_same, udfE_eq h0 h1]
    · have e : leafK w (kindN w) = leafM w (decE (kindN w) w) := by
        generalize kindN w = k at hk h
        match k, hk, h with
        | 0, _, h => exact absurd rfl h
        | 37, h, _ => exact absurd rfl h
        | k + 1, hq, _ =>
          unfold leafK
          split
          · rename_i h3; exact absurd h3 (by omega)
          · rename_i h3; exact absurd h3 hq
          · rfl
      rw [e, decE_eq h0 h1 _ hlt hk]
      unfold leafM
      by_cases c1 : (decF (kindN w) w).ok
      · have c2 : chkV (decF (kindN w) w).op (decF (kindN w) w).d (decF (kindN w) w).n (decF (kindN w) w).m (decF (kindN w) w).a (decF (kindN w) w).c (decF (kindN w) w).im = 0 := if_pos c1
        rw [c2]
        by_cases c3 : (decF (kindN w) w).word = w
        · rw [if_pos ⟨h, c1, c3⟩]
          show Br ((decF (kindN w) w).word == w) _ _ = _
          rw [c3, beq_self_eq_true]; rfl
        · rw [if_neg (fun hh => c3 hh.2.2)]
          show Br ((decF (kindN w) w).word == w) _ _ = _
          rw [beq_dec, Br_if, udfE_eq h0 h1]
          exact if_neg c3
      · have c2 : chkV (decF (kindN w) w).op (decF (kindN w) w).d (decF (kindN w) w).n (decF (kindN w) w).m (decF (kindN w) w).a (decF (kindN w) w).c (decF (kindN w) w).im = 1 := if_neg c1
        rw [c2, if_neg (fun hh => c1 hh.2.1), udfE_eq h0 h1]; rfl
def decA : List V → Sto → Option Ans := fun args s => match args with
  | [.raw (.int .u32 w)] => some (.br (decide (0 ≤ w ∧ w < 4294967296)) (.one (.ret (decI w).v) s) .no)
  | _ => none
theorem decA_ok {E : Eh} (hE : EOk Try.prog E) : EOk Try.prog (addE 27 decA E) := by
  refine addE_ok hE fun args s a h hf => ?_
  unfold decA at h
  split at h
  · rename_i w
    cases h
    rcases hf with ⟨hb, _⟩ | ⟨_, hf⟩
    · have h2 := of_decide_eq_true hb
      exact ((ins_call h2.1 h2.2).anywhere (s := s) ⟨trivial, trivial⟩ (insV_bd ..)).mono fun r s' h3 => .inl ⟨hb, h3⟩
    · exact hf.elim
  · cases h
end Go.Proofs.Ytalgegmcllcnmaa.isa
end
section
/- LabConsts: the walk. -/
set_option linter.unusedVariables false
set_option linter.unusedSimpArgs false
set_option maxRecDepth 1000000
namespace Go.Proofs.Ytalgegmcllcnmaa.labConsts
open Go Go.Proofs Go.Proofs.YtalgegmcllcnmaaRL Go.Proofs.Ytalgegmcllcnmaa.isa
theorem kn_eq (K : V → Prop) : callG Try.prog noE 400 7 [] [] (rK K) = K (bV true) := by kernel_rfl
theorem kn_ok : CallOk Try.prog 7 [] [] fun r _ => r = .ret (bV true) := by
  refine (callG_ok noE_ok names mixed (n := 400) (K := rK fun v => v = bV true) ?_).mono rK_ok
  rw [kn_eq]
def knG : List V → Option V
  | [] => some (bV true)
  | _ => none
theorem knG_ok {E : Eh} (hE : EOk Try.prog E) : EOk Try.prog (specE 7 knG E) := by
  refine specE_ok hE fun args v h => ?_
  unfold knG at h
  split at h
  · cases h; exact ⟨trivial, trivial, kn_ok⟩
  · cases h
noncomputable def EL : Eh := specE 7 knG (specE 55 wordG (addE 27 decA (addE 26 do6A noE)))
noncomputable abbrev cd : Code := codeOf Try.prog 4
noncomputable def p1 : List Nat := pathTo 12 cd
noncomputable def c1 : Code := subAt (p1.dropLast.dropLast.dropLast ++ [0]) cd
noncomputable def p2 : List Nat := pathTo 22 c1
noncomputable def c2 : Code := subAt (p2.dropLast.dropLast.dropLast ++ [0]) c1
abbrev KB (K : V → Prop) : Ex → St → Prop := bodyK False Try.prog (funcOf Try.prog 4) (rK K)
def live : List Nat := [0,1,5,6,8,9,10,11]
structure RF where
  x : Nat → Int
  nf : Bool
  zf : Bool
  cf : Bool
  vf : Bool
def RF.v (r : RF) : V := regs r.x r.nf r.zf r.cf r.vf
abbrev RF.e (r : RF) : Ent := .own (numsV .u64 r.x 32 ++ [.raw (.bool r.nf), .raw (.bool r.zf), .raw (.bool r.cf), .raw (.bool r.vf)]) 57
abbrev wds (b : Nat → Int) (n : Nat) : List Ent := [.no, .arr (.grow 1) [.int .u32 b] n 53]
def SP (reg v : Int) (r : RF) (b : Nat → Int) (n : Nat) (parts k : Int) : St := ⟨85, [(0, .raw (.int .i64 reg)), (1, .raw (.int .u64 v)), (5, .ptr 0 0), (6, bV false), (8, .lse 2 1 1 0 n), (9, .raw (.int .i64 0)), (10, .raw (.int .i64 parts)), (11, .raw (.int .i64 k))], [r.e] ++ wds b n⟩
def SB (reg v : Int) (r : RF) (e : Int) : St := ⟨85, [(0, .raw (.int .i64 reg)), (1, .raw (.int .u64 v)), (5, .ptr 0 0), (6, bV false), (8, .raw (.slice none 0 0)), (9, .raw (.int .i64 e)), (10, .raw (.int .i64 0)), (11, .raw (.int .i64 0))], [r.e]⟩
abbrev ap (f : Nat → Int) (n : Nat) (w : Int) : Nat → Int := fun j => match Nat.blt j n with
  | true => f j
  | false => [w].getD (Nat.sub j n) 0
def ext (f : Nat → Int) (n : Nat) (w : Int) : Nat → Int := match n with
  | 0 => fun j => [w].getD j 0
  | n + 1 => ap f (n + 1) w
def wordsM (reg : Int) (F : (Nat → Int) → Nat → Prop) (B : Int → Prop) : Int → List (Nat × Int) → (Nat → Int) → Nat → Prop
  | _, [], f, n => F f n
  | op, (k, a) :: t, f, n => Br (chkV op reg 0 (k : Int) 0 0 a != 0) (B (chkV op reg 0 (k : Int) 0 0 a)) (wordsM reg F B 3 t (ext f n (wordV op reg 0 (k : Int) 0 0 a)) (n + 1))
def ways (v : Int) (F : List (Nat × Int) → Prop) : Nat → Nat → List (Nat × Int) → Prop
  | 0, _, acc => F acc
  | n + 1, k, acc => Br (part v k != 0) (ways v F n (k + 1) (acc ++ [(k, part v k)])) (ways v F n (k + 1) acc)
def rowsM : List (Nat × Int) → List (Nat × Int)
  | [] => [(0, 0)]
  | l => l
def preM (reg v : Int) (K : V → Prop) (F : (Nat → Int) → Nat → Prop) (B : Int → Prop) : Prop :=
  Br (decide (reg < 0)) (K (bV true)) (Br (decide (reg > 30)) (K (bV true)) (Br (decide (reg < 0)) (B 1) (Br (decide (reg > 30)) (B 1) (ways v (fun rows => wordsM reg F B 2 (rowsM rows) (fun _ => 0) 0) 4 0 []))))
section
variable (reg v : Int) (r m : RF) (b : Nat → Int) (n : Nat)
theorem pre_eq (K : V → Prop) (Z : St → Prop) : evTo Try.prog EL 100 0 (fun st => Z (gcSt 0 live st)) p1 cd ⟨(funcOf Try.prog 4).ntmps, zipArgs 0 [.raw (.int .i64 reg), .raw (.int .u64 v), r.v], []⟩ (KB K) =
    preM reg v K (fun b n => Z (SP reg v r b n 0 0)) (fun e => Z (SB reg v r e)) := by kernel_rfl
end
end Go.Proofs.Ytalgegmcllcnmaa.labConsts
end
section
/- LabJumps: the walk up to Words. Printed by genjw.py. -/
set_option linter.unusedVariables false
set_option linter.unusedSimpArgs false
set_option maxRecDepth 1000000
namespace Go.Proofs.Ytalgegmcllcnmaa.labJumps
open Go Go.Proofs Go.Proofs.YtalgegmcllcnmaaRL Go.Proofs.Ytalgegmcllcnmaa.isa
abbrev F : FuncId := 5
abbrev rK (K : V → Prop) : Res → Sto → Prop := fun r _ => match r with | .ret v => K v | .pan _ => False
abbrev bV (b : Bool) : V := .raw (.bool b)
noncomputable def EW : Eh := specE 7 labConsts.knG (addE 28 fillT (addE 33 layA (specE 29 chkG noE)))
theorem EW_ok : EOk Try.prog EW := labConsts.knG_ok (fillT_ok (layA_ok (chkG_ok noE_ok)))
noncomputable abbrev cj : Code := codeOf Try.prog F
noncomputable def c11 : Code := subAt [0,0,0,0,0,0,0] cj
noncomputable def c12 : Code := subAt [0] c11
noncomputable def c14 : Code := subAt [0] c12
noncomputable def c15 : Code := subAt [0] c14
noncomputable def c17 : Code := subAt [0,0] c15
noncomputable def c18 : Code := subAt [0] c17
noncomputable def c20 : Code := subAt [0] c18
noncomputable def c21 : Code := subAt [0] c20
abbrev KJ (K : V → Prop) : Ex → St → Prop := bodyK False Try.prog (funcOf Try.prog F) (rK K)
def lvJ : List Nat := [0,1,2,3,8,9,10,11]
def SJ (x y : Int) (bk : Bool) (ix : Int) (s : Sto) : St := ⟨125, [(0, .raw (.int .i64 x)), (1, .raw (.int .i64 y)), (2, .raw (.bool bk)), (3, .raw (.int .i64 ix)), (8, .raw (.bool false)), (9, .sl 0 0 5 5), (10, .ptr 1 0)], s⟩
def SK (x y : Int) (bk : Bool) (ix : Int) (fr : Int) (s : Sto) : St := ⟨125, [(0, .raw (.int .i64 x)), (1, .raw (.int .i64 y)), (2, .raw (.bool bk)), (3, .raw (.int .i64 ix)), (8, .raw (.bool false)), (9, .sl 0 0 5 5), (10, .ptr 1 0), (11, .raw (.int .u64 fr))], s⟩
abbrev w64 (v : Int) : Int := IntKind.u64.wrap v
/-- Where the instruction behind q stands. -/
def hx (q : Nat) : Int := w64 (at0 + w64 (4 * w64 (q : Int)))
def opN : Nat → Int
  | 0 => 20
  | 1 => 24
  | 2 => 22
  | 3 => 23
  | _ => 21
abbrev insJ (ix : Nat) : List Int := [opN ix, 0, 0, 0, 0, 0, 0]
def okF (n : Int) (q : Nat) : Bool := decide (0 ≤ n ∧ n ≤ 3000 ∧ q ≤ 40000)
noncomputable abbrev TO (Z : St → Prop) (p : List Nat) (c : Code) (st : St) (K : Ex → St → Prop) : Prop := evTo Try.prog EW 200 0 (fun st => Z (gcSt 0 lvJ st)) p c st K
section
variable (x y A h k fr ix : Int) (bk : Bool) (C : InsC) (q : Nat) (K : Ex → St → Prop) (Z : St → Prop)
theorem t1 : TO Z [0] c11 (SJ x y bk ix (sA M0)) K = Br (okF x 0) (Br (decide (x = 0)) (Z (SJ x y bk ix (sA M0))) (Z (SJ x y bk ix (sB M0 (nopC zC 0) (0 + x.toNat))))) False := by kernel_rfl
theorem t2A_t : TO Z [0] c12 (SJ x y true ix (sA M0)) K = Z (SJ x y true ix (sA (M1 at0))) := by kernel_rfl
theorem t2A_f : TO Z [0] c12 (SJ x y false ix (sA M0)) K = Z (SJ x y false ix (sA M0)) := by kernel_rfl
theorem t2B_t : TO Z [0] c12 (SJ x y true ix (sB M0 C q)) K = Z (SJ x y true ix (sB (M1 (hx q)) C q)) := by kernel_rfl
theorem t2B_f : TO Z [0] c12 (SJ x y false ix (sB M0 C q)) K = Z (SJ x y false ix (sB M0 C q)) := by kernel_rfl
theorem t3A_0 : TO Z [0] c14 (SJ x y bk ix (sA M0)) K = Br (okF y 0) (Br (decide (y = 0)) (Z (SJ x y bk ix (sA M0))) (Z (SJ x y bk ix (sB M0 (nopC zC 0) (0 + y.toNat))))) False := by kernel_rfl
theorem t3B_0 : TO Z [0] c14 (SJ x y bk ix (sB M0 C q)) K = Br (Nat.beq q q && okF y q) (Br (decide (y = 0)) (Z (SJ x y bk ix (sB M0 C q))) (Z (SJ x y bk ix (sB M0 (nopC C q) (q + y.toNat))))) False := by kernel_rfl
theorem t4A_0_0 : TO Z [0,0] c15 (SJ x y bk 0 (sA M0)) K = Z (SK x y bk 0 at0 (sC at0 0 M0 (oneI (insJ 0)) 1)) := by kernel_rfl
theorem t4B_0_0 : TO Z [0,0] c15 (SJ x y bk 0 (sB M0 C q)) K = Br (Nat.beq q q && small q) (Br (((q + 1 : Nat) : Int) == ((q : Nat) : Int)) (Z (SK x y bk 0 (hx q) (sB M0 (apI C q (insJ 0)) (q + 1)))) (Z (SK x y bk 0 (hx q) (sC (hx q) (q : Nat) M0 (apI C q (insJ 0)) (q + 1))))) False := by kernel_rfl
theorem t4A_0_1 : TO Z [0,0] c15 (SJ x y bk 1 (sA M0)) K = Z (SK x y bk 1 at0 (sC at0 0 M0 (oneI (insJ 1)) 1)) := by kernel_rfl
theorem t4B_0_1 : TO Z [0,0] c15 (SJ x y bk 1 (sB M0 C q)) K = Br (Nat.beq q q && small q) (Br (((q + 1 : Nat) : Int) == ((q : Nat) : Int)) (Z (SK x y bk 1 (hx q) (sB M0 (apI C q (insJ 1)) (q + 1)))) (Z (SK x y bk 1 (hx q) (sC (hx q) (q : Nat) M0 (apI C q (insJ 1)) (q + 1))))) False := by kernel_rfl
theorem t4A_0_2 : TO Z [0,0] c15 (SJ x y bk 2 (sA M0)) K = Z (SK x y bk 2 at0 (sC at0 0 M0 (oneI (insJ 2)) 1)) := by kernel_rfl
theorem t4B_0_2 : TO Z [0,0] c15 (SJ x y bk 2 (sB M0 C q)) K = Br (Nat.beq q q && small q) (Br (((q + 1 : Nat) : Int) == ((q : Nat) : Int)) (Z (SK x y bk 2 (hx q) (sB M0 (apI C q (insJ 2)) (q + 1)))) (Z (SK x y bk 2 (hx q) (sC (hx q) (q : Nat) M0 (apI C q (insJ 2)) (q + 1))))) False := by kernel_rfl
theorem t4A_0_3 : TO Z [0,0] c15 (SJ x y bk 3 (sA M0)) K = Z (SK x y bk 3 at0 (sC at0 0 M0 (oneI (insJ 3)) 1)) := by kernel_rfl
theorem t4B_0_3 : TO Z [0,0] c15 (SJ x y bk 3 (sB M0 C q)) K = Br (Nat.beq q q && small q) (Br (((q + 1 : Nat) : Int) == ((q : Nat) : Int)) (Z (SK x y bk 3 (hx q) (sB M0 (apI C q (insJ 3)) (q + 1)))) (Z (SK x y bk 3 (hx q) (sC (hx q) (q : Nat) M0 (apI C q (insJ 3)) (q + 1))))) False := by kernel_rfl
theorem t4A_0_4 : TO Z [0,0] c15 (SJ x y bk 4 (sA M0)) K = Z (SK x y bk 4 at0 (sC at0 0 M0 (oneI (insJ 4)) 1)) := by kernel_rfl
theorem t4B_0_4 : TO Z [0,0] c15 (SJ x y bk 4 (sB M0 C q)) K = Br (Nat.beq q q && small q) (Br (((q + 1 : Nat) : Int) == ((q : Nat) : Int)) (Z (SK x y bk 4 (hx q) (sB M0 (apI C q (insJ 4)) (q + 1)))) (Z (SK x y bk 4 (hx q) (sC (hx q) (q : Nat) M0 (apI C q (insJ 4)) (q + 1))))) False := by kernel_rfl
theorem t5_0 : TO Z [0] c17 (SK x y bk ix fr (sC h k M0 C q)) K = Br ((Nat.beq q q && true) && okF y q) (Br (decide (y = 0)) (Z (SK x y bk ix fr (sC h k M0 C q))) (Z (SK x y bk ix fr (sC h k M0 (nopC C q) (q + y.toNat))))) False := by kernel_rfl
theorem t3A_1 : TO Z [0] c14 (SJ x y bk ix (sA (M1 A))) K = Br (okF y 0) (Br (decide (y = 0)) (Z (SJ x y bk ix (sA (M1 A)))) (Z (SJ x y bk ix (sB (M1 A) (nopC zC 0) (0 + y.toNat))))) False := by kernel_rfl
theorem t3B_1 : TO Z [0] c14 (SJ x y bk ix (sB (M1 A) C q)) K = Br ((Nat.beq q q && true) && okF y q) (Br (decide (y = 0)) (Z (SJ x y bk ix (sB (M1 A) C q))) (Z (SJ x y bk ix (sB (M1 A) (nopC C q) (q + y.toNat))))) False := by kernel_rfl
theorem t4A_1_0 : TO Z [0,0] c15 (SJ x y bk 0 (sA (M1 A))) K = Z (SK x y bk 0 at0 (sC at0 0 (M1 A) (oneI (insJ 0)) 1)) := by kernel_rfl
theorem t4B_1_0 : TO Z [0,0] c15 (SJ x y bk 0 (sB (M1 A) C q)) K = Br (Nat.beq q q && small q) (Br (((q + 1 : Nat) : Int) == ((q : Nat) : Int)) (Z (SK x y bk 0 (hx q) (sB (M1 A) (apI C q (insJ 0)) (q + 1)))) (Z (SK x y bk 0 (hx q) (sC (hx q) (q : Nat) (M1 A) (apI C q (insJ 0)) (q + 1))))) False := by kernel_rfl
theorem t4A_1_1 : TO Z [0,0] c15 (SJ x y bk 1 (sA (M1 A))) K = Z (SK x y bk 1 at0 (sC at0 0 (M1 A) (oneI (insJ 1)) 1)) := by kernel_rfl
theorem t4B_1_1 : TO Z [0,0] c15 (SJ x y bk 1 (sB (M1 A) C q)) K = Br (Nat.beq q q && small q) (Br (((q + 1 : Nat) : Int) == ((q : Nat) : Int)) (Z (SK x y bk 1 (hx q) (sB (M1 A) (apI C q (insJ 1)) (q + 1)))) (Z (SK x y bk 1 (hx q) (sC (hx q) (q : Nat) (M1 A) (apI C q (insJ 1)) (q + 1))))) False := by kernel_rfl
theorem t4A_1_2 : TO Z [0,0] c15 (SJ x y bk 2 (sA (M1 A))) K = Z (SK x y bk 2 at0 (sC at0 0 (M1 A) (oneI (insJ 2)) 1)) := by kernel_rfl
theorem t4B_1_2 : TO Z [0,0] c15 (SJ x y bk 2 (sB (M1 A) C q)) K = Br (Nat.beq q q && small q) (Br (((q + 1 : Nat) : Int) == ((q : Nat) : Int)) (Z (SK x y bk 2 (hx q) (sB (M1 A) (apI C q (insJ 2)) (q + 1)))) (Z (SK x y bk 2 (hx q) (sC (hx q) (q : Nat) (M1 A) (apI C q (insJ 2)) (q + 1))))) False := by kernel_rfl
theorem t4A_1_3 : TO Z [0,0] c15 (SJ x y bk 3 (sA (M1 A))) K = Z (SK x y bk 3 at0 (sC at0 0 (M1 A) (oneI (insJ 3)) 1)) := by kernel_rfl
theorem t4B_1_3 : TO Z [0,0] c15 (SJ x y bk 3 (sB (M1 A) C q)) K = Br (Nat.beq q q && small q) (Br (((q + 1 : Nat) : Int) == ((q : Nat) : Int)) (Z (SK x y bk 3 (hx q) (sB (M1 A) (apI C q (insJ 3)) (q + 1)))) (Z (SK x y bk 3 (hx q) (sC (hx q) (q : Nat) (M1 A) (apI C q (insJ 3)) (q + 1))))) False := by kernel_rfl
theorem t4A_1_4 : TO Z [0,0] c15 (SJ x y bk 4 (sA (M1 A))) K = Z (SK x y bk 4 at0 (sC at0 0 (M1 A) (oneI (insJ 4)) 1)) := by kernel_rfl
theorem t4B_1_4 : TO Z [0,0] c15 (SJ x y bk 4 (sB (M1 A) C q)) K = Br (Nat.beq q q && small q) (Br (((q + 1 : Nat) : Int) == ((q : Nat) : Int)) (Z (SK x y bk 4 (hx q) (sB (M1 A) (apI C q (insJ 4)) (q + 1)))) (Z (SK x y bk 4 (hx q) (sC (hx q) (q : Nat) (M1 A) (apI C q (insJ 4)) (q + 1))))) False := by kernel_rfl
theorem t5_1 : TO Z [0] c17 (SK x y bk ix fr (sC h k (M1 A) C q)) K = Br (((Nat.beq q q && true) && true) && okF y q) (Br (decide (y = 0)) (Z (SK x y bk ix fr (sC h k (M1 A) C q))) (Z (SK x y bk ix fr (sC h k (M1 A) (nopC C q) (q + y.toNat))))) False := by kernel_rfl
theorem t6_f : TO Z [0] c18 (SK x y false ix fr (sC h k M0 C q)) K = Z (SK x y false ix fr (sC h k (M1 (hx q)) C q)) := by kernel_rfl
theorem t6_t : TO Z [0] c18 (SK x y true ix fr (sC h k (M1 A) C q)) K = Z (SK x y true ix fr (sC h k (M1 A) C q)) := by kernel_rfl
theorem t7 : TO Z [0] c20 (SK x y bk ix fr (sC h k (M1 A) C q)) K = Br (Nat.beq q q && small q) (Z (SK x y bk ix fr (sC h k (M1 A) (apI C q nopL) (q + 1)))) False := by kernel_rfl
end
end Go.Proofs.Ytalgegmcllcnmaa.labJumps
end
