/- Parts of the proof, one behind the other. -/
import Derived.Test.YtalgegmcllcnmaazLabConstsIDecP
import Derived.Test.YtalgegmcllcnmaazLabConstsIWord
import Derived.Test.YtalgegmcllcnmaazLabConstsIWordL
section
/- decI: it undoes words; what it tells is right. Printed by gendec.py. -/
namespace Go.Proofs.Ytalgegmcllcnmaa.isa
open Go Go.Proofs Go.Proofs.YtalgegmcllcnmaaRL
set_option linter.unusedVariables false
set_option linter.unusedSimpArgs false
theorem kind_of {d n m a c imm : Int} : ∀ k : Nat, 0 < k → k < 43 → okP k d n m a c imm → kindN (wordP k d n m a c imm) = k
  | 0, h, _, _ => absurd h (by omega)
  | 1, _, _, h => kind_1 h rfl
  | 2, _, _, h => kind_2 h rfl
  | 3, _, _, h => kind_3 h rfl
  | 4, _, _, h => kind_4 h rfl
  | 5, _, _, h => kind_5 h rfl
  | 6, _, _, h => kind_6 h rfl
  | 7, _, _, h => kind_7 h rfl
  | 8, _, _, h => kind_8 h rfl
  | 9, _, _, h => kind_9 h rfl
  | 10, _, _, h => kind_10 h rfl
  | 11, _, _, h => kind_11 h rfl
  | 12, _, _, h => kind_12 h rfl
  | 13, _, _, h => kind_13 h rfl
  | 14, _, _, h => kind_14 h rfl
  | 15, _, _, h => kind_15 h rfl
  | 16, _, _, h => kind_16 h rfl
  | 17, _, _, h => kind_17 h rfl
  | 18, _, _, h => kind_18 h rfl
  | 19, _, _, h => kind_19 h rfl
  | 20, _, _, h => kind_20 h rfl
  | 21, _, _, h => kind_21 h rfl
  | 22, _, _, h => kind_22 h rfl
  | 23, _, _, h => kind_23 h rfl
  | 24, _, _, h => kind_24 h rfl
  | 25, _, _, h => kind_25 h rfl
  | 26, _, _, h => kind_26 h rfl
  | 27, _, _, h => kind_27 h rfl
  | 28, _, _, h => kind_28 h rfl
  | 29, _, _, h => kind_29 h rfl
  | 30, _, _, h => kind_30 h rfl
  | 31, _, _, h => kind_31 h rfl
  | 32, _, _, h => kind_32 h rfl
  | 33, _, _, h => kind_33 h rfl
  | 34, _, _, h => kind_34 h rfl
  | 35, _, _, h => kind_35 h rfl
  | 36, _, _, h => kind_36 h rfl
  | 37, _, _, h => kind_37 h rfl
  | 38, _, _, h => kind_38 h rfl
  | 39, _, _, h => kind_39 h rfl
  | 40, _, _, h => kind_40 h rfl
  | 41, _, _, h => kind_41 h rfl
  | 42, _, _, h => kind_42 h rfl
  | k + 43, _, h, _ => absurd h (by omega)
theorem dec_of {d n m a c imm : Int} : ∀ k : Nat, 0 < k → k < 43 → okP k d n m a c imm → decF k (wordP k d n m a c imm) = ⟨(k : Nat), d, n, m, a, c, imm⟩
  | 0, h, _, _ => absurd h (by omega)
  | 1, _, _, h => dec_1 h rfl
  | 2, _, _, h => dec_2 h rfl
  | 3, _, _, h => dec_3 h rfl
  | 4, _, _, h => dec_4 h rfl
  | 5, _, _, h => dec_5 h rfl
  | 6, _, _, h => dec_6 h rfl
  | 7, _, _, h => dec_7 h rfl
  | 8, _, _, h => dec_8 h rfl
  | 9, _, _, h => dec_9 h rfl
  | 10, _, _, h => dec_10 h rfl
  | 11, _, _, h => dec_11 h rfl
  | 12, _, _, h => dec_12 h rfl
  | 13, _, _, h => dec_13 h rfl
  | 14, _, _, h => dec_14 h rfl
  | 15, _, _, h => dec_15 h rfl
  | 16, _, _, h => dec_16 h rfl
  | 17, _, _, h => dec_17 h rfl
  | 18, _, _, h => dec_18 h rfl
  | 19, _, _, h => dec_19 h rfl
  | 20, _, _, h => dec_20 h rfl
  | 21, _, _, h => dec_21 h rfl
  | 22, _, _, h => dec_22 h rfl
  | 23, _, _, h => dec_23 h rfl
  | 24, _, _, h => dec_24 h rfl
  | 25, _, _, h => dec_25 h rfl
  | 26, _, _, h => dec_26 h rfl
  | 27, _, _, h => dec_27 h rfl
  | 28, _, _, h => dec_28 h rfl
  | 29, _, _, h => dec_29 h rfl
  | 30, _, _, h => dec_30 h rfl
  | 31, _, _, h => dec_31 h rfl
  | 32, _, _, h => dec_32 h rfl
  | 33, _, _, h => dec_33 h rfl
  | 34, _, _, h => dec_34 h rfl
  | 35, _, _, h => dec_35 h rfl
  | 36, _, _, h => dec_36 h rfl
  | 37, _, _, h => dec_37 h rfl
  | 38, _, _, h => dec_38 h rfl
  | 39, _, _, h => dec_39 h rfl
  | 40, _, _, h => dec_40 h rfl
  | 41, _, _, h => dec_41 h rfl
  | 42, _, _, h => dec_42 h rfl
  | k + 43, _, h, _ => absurd h (by omega)
theorem dec_word {i : I7} (h : i.ok) (h0 : i.op ≠ 0) : decI i.word = i := by
  obtain ⟨op, d, n, m, a, c, imm⟩ := i
  obtain ⟨h1, h2⟩ := h
  dsimp only at h0 h1 h2
  obtain ⟨k, rfl⟩ := Int.eq_ofNat_of_zero_le h1.1
  have e1 : (⟨(k : Nat), d, n, m, a, c, imm⟩ : I7).word = wordP k d n m a c imm := if_pos ⟨h1, h2⟩
  have e2 : kindN (wordP k d n m a c imm) = k := kind_of k (by omega) (by omega) h2
  have e3 : decF k (wordP k d n m a c imm) = ⟨(k : Nat), d, n, m, a, c, imm⟩ := dec_of k (by omega) (by omega) h2
  rw [e1]
  unfold decI
  rw [e2, e3]
  exact if_pos ⟨by omega, ⟨h1, h2⟩, e1⟩
theorem ite_lt {p : Prop} [Decidable p] {a b : Nat} (ha : a < 43) (hb : b < 43) : (if p then a else b) < 43 := by
  by_cases h : p
  · rw [if_pos h]; exact ha
  · rw [if_neg h]; exact hb
theorem kind_lt (w : Int) : kindN w < 43 := by
  unfold kindN
  repeat (refine ite_lt (by omega) ?_)
  omega
/-- A UDF's word is one's that is no other instruction's. -/
theorem dec_word0 {i : I7} (h : i.ok) (h0 : i.op = 0) : decI i.word = i := by
  obtain ⟨op, d, n, m, a, c, imm⟩ := i
  dsimp only at h0
  subst h0
  obtain ⟨h1, h2⟩ := h
  dsimp only at h1 h2
  have e1 : (⟨0, d, n, m, a, c, imm⟩ : I7).word = 0 + imm := if_pos ⟨h1, h2⟩
  obtain ⟨hd, hn, hm, ha, hc, hz, hi⟩ : d = 0 ∧ n = 0 ∧ m = 0 ∧ a = 0 ∧ c = 0 ∧ True ∧ (0 ≤ imm ∧ imm < 65536) := h2
  rw [e1]
  have hk : kindN (0 + imm) = 0 := by
    unfold kindN
    rw [if_neg (show ¬ ((0 + imm) / 67108864 = 5) by omega)]
    rw [if_neg (show ¬ ((0 + imm) / 67108864 = 37) by omega)]
    rw [if_neg (show ¬ ((0 + imm) / 16777216 = 84) by omega)]
    rw [if_neg (show ¬ ((0 + imm) / 16777216 = 180) by omega)]
    rw [if_neg (show ¬ ((0 + imm) / 16777216 = 181) by omega)]
    rw [if_neg (show ¬ ((0 + imm) / 8388608 = 421) by omega)]
    rw [if_neg (show ¬ ((0 + imm) / 8388608 = 485) by omega)]
    rw [if_neg (show ¬ ((0 + imm) / 2097152 = 1696) by omega)]
    rw [if_neg (show ¬ ((0 + imm) = 3573751839) by omega)]
    rw [if_neg (show ¬ ((0 + imm) / 4194304 = 580) by omega)]
    rw [if_neg (show ¬ ((0 + imm) / 4194304 = 836) by omega)]
    rw [if_neg (show ¬ ((0 + imm) / 4194304 = 964) by omega)]
    rw [if_neg (show ¬ ((0 + imm) / 2097152 = 1112 ∧ (0 + imm) / 1024 % 64 = 0) by omega)]
    rw [if_neg (show ¬ ((0 + imm) / 2097152 = 1624 ∧ (0 + imm) / 1024 % 64 = 0) by omega)]
    rw [if_neg (show ¬ ((0 + imm) / 2097152 = 1880 ∧ (0 + imm) / 1024 % 64 = 0) by omega)]
    rw [if_neg (show ¬ ((0 + imm) / 2097152 = 1104 ∧ (0 + imm) / 1024 % 64 = 0) by omega)]
    rw [if_neg (show ¬ ((0 + imm) / 2097152 = 1360 ∧ (0 + imm) / 1024 % 64 = 0) by omega)]
    rw [if_neg (show ¬ ((0 + imm) / 2097152 = 1616 ∧ (0 + imm) / 1024 % 64 = 0) by omega)]
    rw [if_neg (show ¬ ((0 + imm) / 2097152 = 1240 ∧ (0 + imm) / 32768 % 2 = 0) by omega)]
    rw [if_neg (show ¬ ((0 + imm) / 2097152 = 1240 ∧ (0 + imm) / 32768 % 2 = 1) by omega)]
    rw [if_neg (show ¬ ((0 + imm) / 2097152 = 1238 ∧ (0 + imm) / 1024 % 64 = 3) by omega)]
    rw [if_neg (show ¬ ((0 + imm) / 2097152 = 1238 ∧ (0 + imm) / 1024 % 64 = 8) by omega)]
    rw [if_neg (show ¬ ((0 + imm) / 2097152 = 1238 ∧ (0 + imm) / 1024 % 64 = 9) by omega)]
    rw [if_neg (show ¬ ((0 + imm) / 2097152 = 1238 ∧ (0 + imm) / 1024 % 64 = 10) by omega)]
    rw [if_neg (show ¬ ((0 + imm) / 2097152 = 1236 ∧ (0 + imm) / 1024 % 4 = 1) by omega)]
    rw [if_neg (show ¬ ((0 + imm) / 1024 = 3508160 ∧ (0 + imm) % 32 = 0) by omega)]
    rw [if_neg (show ¬ ((0 + imm) / 1024 = 3510208 ∧ (0 + imm) % 32 = 0) by omega)]
    rw [if_neg (show ¬ ((0 + imm) / 1024 = 3512256 ∧ (0 + imm) % 32 = 0) by omega)]
    rw [if_neg (show ¬ ((0 + imm) / 4194304 = 997) by omega)]
    rw [if_neg (show ¬ ((0 + imm) / 4194304 = 996) by omega)]
    rw [if_neg (show ¬ ((0 + imm) / 4194304 = 229) by omega)]
    rw [if_neg (show ¬ ((0 + imm) / 2097152 = 1987 ∧ (0 + imm) / 1024 % 64 = 30) by omega)]
    rw [if_neg (show ¬ ((0 + imm) / 2097152 = 1985 ∧ (0 + imm) / 1024 % 64 = 30) by omega)]
    rw [if_neg (show ¬ ((0 + imm) / 1024 = 3291135) by omega)]
    rw [if_neg (show ¬ ((0 + imm) / 1024 = 3287039) by omega)]
    rw [if_neg (show ¬ ((0 + imm) / 1024 = 3282911) by omega)]
    rw [if_neg (show ¬ ((0 + imm) / 2097152 = 1600 ∧ (0 + imm) / 1024 % 64 = 31) by omega)]
    rw [if_neg (show ¬ ((0 + imm) / 4096 = 872499 ∧ (0 + imm) % 256 = 191) by omega)]
    rw [if_neg (show ¬ ((0 + imm) = 3573758879) by omega)]
    rw [if_neg (show ¬ ((0 + imm) = 3573759967) by omega)]
    rw [if_neg (show ¬ ((0 + imm) / 32 = 111696857) by omega)]
    rw [if_neg (show ¬ ((0 + imm) / 32 = 111696809) by omega)]
  unfold decI
  rw [if_neg (fun h => h.1 hk)]
  unfold udf
  subst hd hn hm ha hc
  ext <;> dsimp only <;> omega
theorem dec_word' {i : I7} (h : i.ok) : decI i.word = i := by
  by_cases h0 : i.op = 0
  · exact dec_word0 h h0
  · exact dec_word h h0
end Go.Proofs.Ytalgegmcllcnmaa.isa
end
section
/- dec.kind and dec.Ins as tables' lines. Printed by gendec.py. -/
namespace Go.Proofs.Ytalgegmcllcnmaa.isa
open Go Go.Proofs Go.Proofs.YtalgegmcllcnmaaRL
set_option linter.unusedVariables false
set_option linter.unusedSimpArgs false
/-- Tests one behind the other. -/
def chainG {R : Type} (br : Bool → R → R → R) (K : Nat → R) : List (Bool × Nat) → R
  | [] => K 0
  | (b, k) :: l => br b (K k) (chainG br K l)
def chainX : List (Bool × Nat) → Nat
  | [] => 0
  | (b, k) :: l => match b with
    | true => k
    | false => chainX l
theorem chain_Br {R : Type} (K : Nat → R) : ∀ l : List (Bool × Nat), chainG Br K l = K (chainX l)
  | [] => rfl
  | (true, k) :: l => rfl
  | (false, k) :: l => chain_Br K l
theorem chain_fine (K : Nat → Ans) : ∀ l : List (Bool × Nat), (chainG Ans.br K l).fine → (K (chainX l)).fine
  | [], h => h
  | (true, k) :: l, h => by
    rcases h with ⟨_, h⟩ | ⟨hb, _⟩
    · exact h
    · cases hb
  | (false, k) :: l, h => by
    rcases h with ⟨hb, _⟩ | ⟨_, h⟩
    · cases hb
    · exact chain_fine K l h
theorem chain_is (K : Nat → Ans) {r : Res} {s : Sto} : ∀ l : List (Bool × Nat), (K (chainX l)).is r s → (chainG Ans.br K l).is r s
  | [], h => h
  | (true, k) :: l, h => .inl ⟨rfl, h⟩
  | (false, k) :: l, h => .inr ⟨rfl, chain_is K l h⟩
/-- The tests of dec.kind. -/
def kindL (w : Int) : List (Bool × Nat) := [(w.fdiv 67108864 == 5, 20), (w.fdiv 67108864 == 37, 24), (w.fdiv 16777216 == 84, 21), (w.fdiv 16777216 == 180, 22), (w.fdiv 16777216 == 181, 23), (w.fdiv 8388608 == 421, 2), (w.fdiv 8388608 == 485, 3), (w.fdiv 2097152 == 1696, 42), (Go.bits .and .u32 w 4294967295 == 3573751839, 1), (Go.bits .and .u32 w 4290772992 == 2432696320, 4), (Go.bits .and .u32 w 4290772992 == 3506438144, 5), (Go.bits .and .u32 w 4290772992 == 4043309056, 6), (Go.bits .and .u32 w 4292934656 == 2332033024, 7), (Go.bits .and .u32 w 4292934656 == 3405774848, 8), (Go.bits .and .u32 w 4292934656 == 3942645760, 9), (Go.bits .and .u32 w 4292934656 == 2315255808, 10), (Go.bits .and .u32 w 4292934656 == 2852126720, 11), (Go.bits .and .u32 w 4292934656 == 3388997632, 12), (Go.bits .and .u32 w 4292902912 == 2600468480, 13), (Go.bits .and .u32 w 4292902912 == 2600501248, 14), (Go.bits .and .u32 w 4292934656 == 2596277248, 15), (Go.bits .and .u32 w 4292934656 == 2596282368, 16), (Go.bits .and .u32 w 4292934656 == 2596283392, 17), (Go.bits .and .u32 w 4292934656 == 2596284416, 18), (Go.bits .and .u32 w 4292873216 == 2592080896, 19), (Go.bits .and .u32 w 4294966303 == 3592355840, 25), (Go.bits .and .u32 w 4294966303 == 3594452992, 26), (Go.bits .and .u32 w 4294966303 == 3596550144, 27), (Go.bits .and .u32 w 4290772992 == 4181721088, 28), (Go.bits .and .u32 w 4290772992 == 4177526784, 29), (Go.bits .and .u32 w 4290772992 == 960495616, 30), (Go.bits .and .u32 w 4292934656 == 4167071744, 31), (Go.bits .and .u32 w 4292934656 == 4162877440, 32), (Go.bits .and .u32 w 4294966272 == 3370122240, 33), (Go.bits .and .u32 w 4294966272 == 3365927936, 34), (Go.bits .and .u32 w 4294966272 == 3361700864, 35), (Go.bits .and .u32 w 4292934656 == 3355474944, 36), (Go.bits .and .u32 w 4294963455 == 3573756095, 37), (Go.bits .and .u32 w 4294967295 == 3573758879, 38), (Go.bits .and .u32 w 4294967295 == 3573759967, 39), (Go.bits .and .u32 w 4294967264 == 3574299424, 40), (Go.bits .and .u32 w 4294967264 == 3574297888, 41)]
theorem and_1 {w : Int} (lo n : Nat) (m : Int) (hm : m = (((2 ^ n - 1) * 2 ^ lo : Nat) : Int)) (hl : n + lo ≤ 32) (h0 : 0 ≤ w) (h1 : w < 4294967296) : Go.bits .and .u32 w m = w / ((2 ^ lo : Nat) : Int) % ((2 ^ n : Nat) : Int) * ((2 ^ lo : Nat) : Int) := by
  subst hm
  obtain ⟨a, rfl⟩ := Int.eq_ofNat_of_zero_le h0
  have hmm : (2 ^ n - 1) * 2 ^ lo < 2 ^ 32 := by
    have h1 : (2 ^ n - 1) * 2 ^ lo < 2 ^ n * 2 ^ lo := Nat.mul_lt_mul_of_pos_right (by have := Nat.two_pow_pos n; omega) (Nat.two_pow_pos lo)
    rw [← Nat.pow_add] at h1
    exact Nat.lt_of_lt_of_le h1 (Nat.pow_le_pow_right (by omega) hl)
  rw [nat_and .u32 a _ rfl (by show a < 2 ^ 32; omega) hmm, and_mask, Int.natCast_mul, Int.natCast_emod, Int.natCast_ediv]
theorem and_2 {w : Int} (lo1 n1 lo2 n2 : Nat) (m : Int) (hm : m = (((2 ^ n1 - 1) * 2 ^ lo1 + (2 ^ n2 - 1) * 2 ^ lo2 : Nat) : Int)) (hl : n1 + lo1 ≤ 32) (hl2 : n2 + lo2 ≤ lo1) (h0 : 0 ≤ w) (h1 : w < 4294967296) :
    Go.bits .and .u32 w m = w / ((2 ^ lo1 : Nat) : Int) % ((2 ^ n1 : Nat) : Int) * ((2 ^ lo1 : Nat) : Int) + w / ((2 ^ lo2 : Nat) : Int) % ((2 ^ n2 : Nat) : Int) * ((2 ^ lo2 : Nat) : Int) := by
  subst hm
  obtain ⟨a, rfl⟩ := Int.eq_ofNat_of_zero_le h0
  have p2 : 2 ^ n2 * 2 ^ lo2 ≤ 2 ^ lo1 := by rw [← Nat.pow_add]; exact Nat.pow_le_pow_right (by omega) hl2
  have q2 : ∀ x, x < 2 ^ n2 → x * 2 ^ lo2 < 2 ^ lo1 := fun x hx => Nat.lt_of_lt_of_le (Nat.mul_lt_mul_of_pos_right hx (Nat.two_pow_pos lo2)) p2
  have p1 : 2 ^ n1 * 2 ^ lo1 ≤ 2 ^ 32 := by rw [← Nat.pow_add]; exact Nat.pow_le_pow_right (by omega) hl
  have q1 : ∀ x, x < 2 ^ n1 → x * 2 ^ lo1 + 2 ^ lo1 ≤ 2 ^ 32 := fun x hx => by
    have : (x + 1) * 2 ^ lo1 ≤ 2 ^ n1 * 2 ^ lo1 := Nat.mul_le_mul_right _ hx
    rw [Nat.add_mul, Nat.one_mul] at this
    omega
  have e1 : (2 ^ n1 - 1) * 2 ^ lo1 + (2 ^ n2 - 1) * 2 ^ lo2 = (2 ^ n1 - 1) * 2 ^ lo1 ||| (2 ^ n2 - 1) * 2 ^ lo2 := by
    rw [Nat.mul_comm (2 ^ n1 - 1)]
    exact Nat.two_pow_add_eq_or_of_lt (q2 _ (by have := Nat.two_pow_pos n2; omega)) _
  have hmm : (2 ^ n1 - 1) * 2 ^ lo1 + (2 ^ n2 - 1) * 2 ^ lo2 < 2 ^ 32 := by
    have h1 := q1 (2 ^ n1 - 1) (by have := Nat.two_pow_pos n1; omega)
    have h2 := q2 (2 ^ n2 - 1) (by have := Nat.two_pow_pos n2; omega)
    omega
  rw [nat_and .u32 a _ rfl (by show a < 2 ^ 32; omega) hmm, e1, Nat.and_or_distrib_left, and_mask, and_mask]
  have e2 : a / 2 ^ lo1 % 2 ^ n1 * 2 ^ lo1 ||| a / 2 ^ lo2 % 2 ^ n2 * 2 ^ lo2 = a / 2 ^ lo1 % 2 ^ n1 * 2 ^ lo1 + a / 2 ^ lo2 % 2 ^ n2 * 2 ^ lo2 := by
    rw [Nat.mul_comm (a / 2 ^ lo1 % 2 ^ n1)]
    exact (Nat.two_pow_add_eq_or_of_lt (q2 _ (Nat.mod_lt _ (Nat.two_pow_pos n2))) _).symm
  rw [e2, Int.natCast_add, Int.natCast_mul, Int.natCast_mul, Int.natCast_emod, Int.natCast_ediv, Int.natCast_emod, Int.natCast_ediv]
theorem chain_step {b : Bool} {p : Prop} [Decidable p] {k x : Nat} {l : List (Bool × Nat)} (h : b = decide p) (hx : chainX l = x) : chainX ((b, k) :: l) = if p then k else x := by
  subst h hx
  by_cases hp : p
  · rw [decide_eq_true hp, if_pos hp]; rfl
  · rw [decide_eq_false hp, if_neg hp]; rfl
theorem kindL_eq {w : Int} (h0 : 0 ≤ w) (h1 : w < 4294967296) : chainX (kindL w) = kindN w := by
  unfold kindL kindN
  refine chain_step (by rw [beq_dec, Int.fdiv_eq_ediv_of_nonneg _ (by omega)]) ?_
  refine chain_step (by rw [beq_dec, Int.fdiv_eq_ediv_of_nonneg _ (by omega)]) ?_
  refine chain_step (by rw [beq_dec, Int.fdiv_eq_ediv_of_nonneg _ (by omega)]) ?_
  refine chain_step (by rw [beq_dec, Int.fdiv_eq_ediv_of_nonneg _ (by omega)]) ?_
  refine chain_step (by rw [beq_dec, Int.fdiv_eq_ediv_of_nonneg _ (by omega)]) ?_
  refine chain_step (by rw [beq_dec, Int.fdiv_eq_ediv_of_nonneg _ (by omega)]) ?_
  refine chain_step (by rw [beq_dec, Int.fdiv_eq_ediv_of_nonneg _ (by omega)]) ?_
  refine chain_step (by rw [beq_dec, Int.fdiv_eq_ediv_of_nonneg _ (by omega)]) ?_
  refine chain_step (by rw [beq_dec, and_1 0 32 4294967295 rfl (by omega) h0 h1]; exact decide_eq_decide.2 ⟨fun h => by (try simp only [Nat.reducePow] at h); omega, fun h => by (try simp only [Nat.reducePow]); omega⟩) ?_
  refine chain_step (by rw [beq_dec, and_1 22 10 4290772992 rfl (by omega) h0 h1]; exact decide_eq_decide.2 ⟨fun h => by (try simp only [Nat.reducePow] at h); omega, fun h => by (try simp only [Nat.reducePow]); omega⟩) ?_
  refine chain_step (by rw [beq_dec, and_1 22 10 4290772992 rfl (by omega) h0 h1]; exact decide_eq_decide.2 ⟨fun h => by (try simp only [Nat.reducePow] at h); omega, fun h => by (try simp only [Nat.reducePow]); omega⟩) ?_
  refine chain_step (by rw [beq_dec, and_1 22 10 4290772992 rfl (by omega) h0 h1]; exact decide_eq_decide.2 ⟨fun h => by (try simp only [Nat.reducePow] at h); omega, fun h => by (try simp only [Nat.reducePow]); omega⟩) ?_
  refine chain_step (by rw [beq_dec, and_2 21 11 10 6 4292934656 rfl (by omega) (by omega) h0 h1]; exact decide_eq_decide.2 ⟨fun h => by (try simp only [Nat.reducePow] at h); omega, fun h => by (try simp only [Nat.reducePow]); omega⟩) ?_
  refine chain_step (by rw [beq_dec, and_2 21 11 10 6 4292934656 rfl (by omega) (by omega) h0 h1]; exact decide_eq_decide.2 ⟨fun h => by (try simp only [Nat.reducePow] at h); omega, fun h => by (try simp only [Nat.reducePow]); omega⟩) ?_
  refine chain_step (by rw [beq_dec, and_2 21 11 10 6 4292934656 rfl (by omega) (by omega) h0 h1]; exact decide_eq_decide.2 ⟨fun h => by (try simp only [Nat.reducePow] at h); omega, fun h => by (try simp only [Nat.reducePow]); omega⟩) ?_
  refine chain_step (by rw [beq_dec, and_2 21 11 10 6 4292934656 rfl (by omega) (by omega) h0 h1]; exact decide_eq_decide.2 ⟨fun h => by (try simp only [Nat.reducePow] at h); omega, fun h => by (try simp only [Nat.reducePow]); omega⟩) ?_
  refine chain_step (by rw [beq_dec, and_2 21 11 10 6 4292934656 rfl (by omega) (by omega) h0 h1]; exact decide_eq_decide.2 ⟨fun h => by (try simp only [Nat.reducePow] at h); omega, fun h => by (try simp only [Nat.reducePow]); omega⟩) ?_
  refine chain_step (by rw [beq_dec, and_2 21 11 10 6 4292934656 rfl (by omega) (by omega) h0 h1]; exact decide_eq_decide.2 ⟨fun h => by (try simp only [Nat.reducePow] at h); omega, fun h => by (try simp only [Nat.reducePow]); omega⟩) ?_
  refine chain_step (by rw [beq_dec, and_2 21 11 15 1 4292902912 rfl (by omega) (by omega) h0 h1]; exact decide_eq_decide.2 ⟨fun h => by (try simp only [Nat.reducePow] at h); omega, fun h => by (try simp only [Nat.reducePow]); omega⟩) ?_
  refine chain_step (by rw [beq_dec, and_2 21 11 15 1 4292902912 rfl (by omega) (by omega) h0 h1]; exact decide_eq_decide.2 ⟨fun h => by (try simp only [Nat.reducePow] at h); omega, fun h => by (try simp only [Nat.reducePow]); omega⟩) ?_
  refine chain_step (by rw [beq_dec, and_2 21 11 10 6 4292934656 rfl (by omega) (by omega) h0 h1]; exact decide_eq_decide.2 ⟨fun h => by (try simp only [Nat.reducePow] at h); omega, fun h => by (try simp only [Nat.reducePow]); omega⟩) ?_
  refine chain_step (by rw [beq_dec, and_2 21 11 10 6 4292934656 rfl (by omega) (by omega) h0 h1]; exact decide_eq_decide.2 ⟨fun h => by (try simp only [Nat.reducePow] at h); omega, fun h => by (try simp only [Nat.reducePow]); omega⟩) ?_
  refine chain_step (by rw [beq_dec, and_2 21 11 10 6 4292934656 rfl (by omega) (by omega) h0 h1]; exact decide_eq_decide.2 ⟨fun h => by (try simp only [Nat.reducePow] at h); omega, fun h => by (try simp only [Nat.reducePow]); omega⟩) ?_
  refine chain_step (by rw [beq_dec, and_2 21 11 10 6 4292934656 rfl (by omega) (by omega) h0 h1]; exact decide_eq_decide.2 ⟨fun h => by (try simp only [Nat.reducePow] at h); omega, fun h => by (try simp only [Nat.reducePow]); omega⟩) ?_
  refine chain_step (by rw [beq_dec, and_2 21 11 10 2 4292873216 rfl (by omega) (by omega) h0 h1]; exact decide_eq_decide.2 ⟨fun h => by (try simp only [Nat.reducePow] at h); omega, fun h => by (try simp only [Nat.reducePow]); omega⟩) ?_
  refine chain_step (by rw [beq_dec, and_2 10 22 0 5 4294966303 rfl (by omega) (by omega) h0 h1]; exact decide_eq_decide.2 ⟨fun h => by (try simp only [Nat.reducePow] at h); omega, fun h => by (try simp only [Nat.reducePow]); omega⟩) ?_
  refine chain_step (by rw [beq_dec, and_2 10 22 0 5 4294966303 rfl (by omega) (by omega) h0 h1]; exact decide_eq_decide.2 ⟨fun h => by (try simp only [Nat.reducePow] at h); omega, fun h => by (try simp only [Nat.reducePow]); omega⟩) ?_
  refine chain_step (by rw [beq_dec, and_2 10 22 0 5 4294966303 rfl (by omega) (by omega) h0 h1]; exact decide_eq_decide.2 ⟨fun h => by (try simp only [Nat.reducePow] at h); omega, fun h => by (try simp only [Nat.reducePow]); omega⟩) ?_
  refine chain_step (by rw [beq_dec, and_1 22 10 4290772992 rfl (by omega) h0 h1]; exact decide_eq_decide.2 ⟨fun h => by (try simp only [Nat.reducePow] at h); omega, fun h => by (try simp only [Nat.reducePow]); omega⟩) ?_
  refine chain_step (by rw [beq_dec, and_1 22 10 4290772992 rfl (by omega) h0 h1]; exact decide_eq_decide.2 ⟨fun h => by (try simp only [Nat.reducePow] at h); omega, fun h => by (try simp only [Nat.reducePow]); omega⟩) ?_
  refine chain_step (by rw [beq_dec, and_1 22 10 4290772992 rfl (by omega) h0 h1]; exact decide_eq_decide.2 ⟨fun h => by (try simp only [Nat.reducePow] at h); omega, fun h => by (try simp only [Nat.reducePow]); omega⟩) ?_
  refine chain_step (by rw [beq_dec, and_2 21 11 10 6 4292934656 rfl (by omega) (by omega) h0 h1]; exact decide_eq_decide.2 ⟨fun h => by (try simp only [Nat.reducePow] at h); omega, fun h => by (try simp only [Nat.reducePow]); omega⟩) ?_
  refine chain_step (by rw [beq_dec, and_2 21 11 10 6 4292934656 rfl (by omega) (by omega) h0 h1]; exact decide_eq_decide.2 ⟨fun h => by (try simp only [Nat.reducePow] at h); omega, fun h => by (try simp only [Nat.reducePow]); omega⟩) ?_
  refine chain_step (by rw [beq_dec, and_1 10 22 4294966272 rfl (by omega) h0 h1]; exact decide_eq_decide.2 ⟨fun h => by (try simp only [Nat.reducePow] at h); omega, fun h => by (try simp only [Nat.reducePow]); omega⟩) ?_
  refine chain_step (by rw [beq_dec, and_1 10 22 4294966272 rfl (by omega) h0 h1]; exact decide_eq_decide.2 ⟨fun h => by (try simp only [Nat.reducePow] at h); omega, fun h => by (try simp only [Nat.reducePow]); omega⟩) ?_
  refine chain_step (by rw [beq_dec, and_1 10 22 4294966272 rfl (by omega) h0 h1]; exact decide_eq_decide.2 ⟨fun h => by (try simp only [Nat.reducePow] at h); omega, fun h => by (try simp only [Nat.reducePow]); omega⟩) ?_
  refine chain_step (by rw [beq_dec, and_2 21 11 10 6 4292934656 rfl (by omega) (by omega) h0 h1]; exact decide_eq_decide.2 ⟨fun h => by (try simp only [Nat.reducePow] at h); omega, fun h => by (try simp only [Nat.reducePow]); omega⟩) ?_
  refine chain_step (by rw [beq_dec, and_2 12 20 0 8 4294963455 rfl (by omega) (by omega) h0 h1]; exact decide_eq_decide.2 ⟨fun h => by (try simp only [Nat.reducePow] at h); omega, fun h => by (try simp only [Nat.reducePow]); omega⟩) ?_
  refine chain_step (by rw [beq_dec, and_1 0 32 4294967295 rfl (by omega) h0 h1]; exact decide_eq_decide.2 ⟨fun h => by (try simp only [Nat.reducePow] at h); omega, fun h => by (try simp only [Nat.reducePow]); omega⟩) ?_
  refine chain_step (by rw [beq_dec, and_1 0 32 4294967295 rfl (by omega) h0 h1]; exact decide_eq_decide.2 ⟨fun h => by (try simp only [Nat.reducePow] at h); omega, fun h => by (try simp only [Nat.reducePow]); omega⟩) ?_
  refine chain_step (by rw [beq_dec, and_1 5 27 4294967264 rfl (by omega) h0 h1]; exact decide_eq_decide.2 ⟨fun h => by (try simp only [Nat.reducePow] at h); omega, fun h => by (try simp only [Nat.reducePow]); omega⟩) ?_
  refine chain_step (by rw [beq_dec, and_1 5 27 4294967264 rfl (by omega) h0 h1]; exact decide_eq_decide.2 ⟨fun h => by (try simp only [Nat.reducePow] at h); omega, fun h => by (try simp only [Nat.reducePow]); omega⟩) ?_
  rfl
def fE (w p m : Int) : Int := IntKind.i64.wrap (Go.bits .and .u32 (w.fdiv p) m)
def farE (w p m q : Int) : Int := IntKind.i64.wrap (4 * (IntKind.i64.wrap (IntKind.i64.wrap (IntKind.u64.wrap (Go.bits .and .u32 (w.fdiv p) m)) * q)).fdiv q)
theorem fE_eq {w : Int} (lo n : Nat) (p m M : Int) (hp : p = ((2 ^ lo : Nat) : Int)) (hm : m = ((2 ^ n - 1 : Nat) : Int)) (hM : M = ((2 ^ n : Nat) : Int)) (hn : n ≤ 32) (h0 : 0 ≤ w) (h1 : w < 4294967296) : fE w p m = w / p % M := by
  have hp0 : 0 < p := by subst hp; exact Int.natCast_pos.2 (Nat.two_pow_pos lo)
  have hM0 : 0 < M := by subst hM; exact Int.natCast_pos.2 (Nat.two_pow_pos n)
  have hM1 : M ≤ 4294967296 := by
    subst hM
    have : 2 ^ n ≤ 2 ^ 32 := Nat.pow_le_pow_right (by omega) hn
    omega
  have h2 : 0 ≤ w / p := Int.ediv_nonneg h0 (by omega)
  have h3 : w / p ≤ w := Int.ediv_le_self _ h0
  have h4 := Int.emod_nonneg (w / p) (show M ≠ 0 by omega)
  have h5 := Int.emod_lt_of_pos (w / p) hM0
  unfold fE
  subst hm
  rw [Int.fdiv_eq_ediv_of_nonneg _ (by omega), and_u32 n h2 (by omega) hn]
  subst hM
  rw [wrap_i64_in (by omega) (by omega)]
theorem farE_eq {w : Int} (lo n : Nat) (p m M q : Int) (hp : p = ((2 ^ lo : Nat) : Int)) (hm : m = ((2 ^ n - 1 : Nat) : Int)) (hM : M = ((2 ^ n : Nat) : Int)) (hn : n ≤ 32) (hq : (M = 67108864 ∧ q = 274877906944) ∨ (M = 524288 ∧ q = 35184372088832)) (h0 : 0 ≤ w) (h1 : w < 4294967296) : farE w p m q = 4 * sx M (w / p % M) := by
  have hp0 : 0 < p := by subst hp; exact Int.natCast_pos.2 (Nat.two_pow_pos lo)
  have h2 : 0 ≤ w / p := Int.ediv_nonneg h0 (by omega)
  have h3 : w / p ≤ w := Int.ediv_le_self _ h0
  unfold farE
  subst hm
  rw [Int.fdiv_eq_ediv_of_nonneg (b := p) _ (by omega), and_u32 n h2 (by omega) hn, ← hM]
  rcases hq with ⟨rfl, rfl⟩ | ⟨rfl, rfl⟩
  · have h5 := Int.emod_lt_of_pos (w / p) (show (0 : Int) < 67108864 by omega)
    have h6 := Int.emod_nonneg (w / p) (show (67108864 : Int) ≠ 0 by omega)
    generalize w / p % 67108864 = x at h5 h6
    rw [IntWalk.u64_in x (by omega), wrap_i64_in (n := x) (by omega) (by omega), Int.fdiv_eq_ediv_of_nonneg _ (by omega), wrap_i64 (x * _)]
    unfold sx
    have h7 : ((x * 274877906944 + 9223372036854775808) % 18446744073709551616 - 9223372036854775808) / 274877906944 = if x ≥ 67108864 / 2 then x - 67108864 else x := by split <;> omega
    rw [h7, wrap_i64_in (by split <;> omega) (by split <;> omega)]
  · have h5 := Int.emod_lt_of_pos (w / p) (show (0 : Int) < 524288 by omega)
    have h6 := Int.emod_nonneg (w / p) (show (524288 : Int) ≠ 0 by omega)
    generalize w / p % 524288 = x at h5 h6
    rw [IntWalk.u64_in x (by omega), wrap_i64_in (n := x) (by omega) (by omega), Int.fdiv_eq_ediv_of_nonneg _ (by omega), wrap_i64 (x * _)]
    unfold sx
    have h7 : ((x * 35184372088832 + 9223372036854775808) % 18446744073709551616 - 9223372036854775808) / 35184372088832 = if x ≥ 524288 / 2 then x - 524288 else x := by split <;> omega
    rw [h7, wrap_i64_in (by split <;> omega) (by split <;> omega)]
/-- The fields as the code takes them. -/
def decE (k : Nat) (w : Int) : I7 := match k with
  | 0 => ⟨0, 0, 0, 0, 0, 0, 0⟩
  | 1 => ⟨1, 0, 0, 0, 0, 0, 0⟩
  | 2 => ⟨2, fE w 1 31, 0, fE w 2097152 3, 0, 0, fE w 32 65535⟩
  | 3 => ⟨3, fE w 1 31, 0, fE w 2097152 3, 0, 0, fE w 32 65535⟩
  | 4 => ⟨4, fE w 1 31, fE w 32 31, 0, 0, 0, fE w 1024 4095⟩
  | 5 => ⟨5, fE w 1 31, fE w 32 31, 0, 0, 0, fE w 1024 4095⟩
  | 6 => ⟨6, fE w 1 31, fE w 32 31, 0, 0, 0, fE w 1024 4095⟩
  | 7 => ⟨7, fE w 1 31, fE w 32 31, fE w 65536 31, 0, 0, 0⟩
  | 8 => ⟨8, fE w 1 31, fE w 32 31, fE w 65536 31, 0, 0, 0⟩
  | 9 => ⟨9, fE w 1 31, fE w 32 31, fE w 65536 31, 0, 0, 0⟩
  | 10 => ⟨10, fE w 1 31, fE w 32 31, fE w 65536 31, 0, 0, 0⟩
  | 11 => ⟨11, fE w 1 31, fE w 32 31, fE w 65536 31, 0, 0, 0⟩
  | 12 => ⟨12, fE w 1 31, fE w 32 31, fE w 65536 31, 0, 0, 0⟩
  | 13 => ⟨13, fE w 1 31, fE w 32 31, fE w 65536 31, fE w 1024 31, 0, 0⟩
  | 14 => ⟨14, fE w 1 31, fE w 32 31, fE w 65536 31, fE w 1024 31, 0, 0⟩
  | 15 => ⟨15, fE w 1 31, fE w 32 31, fE w 65536 31, 0, 0, 0⟩
  | 16 => ⟨16, fE w 1 31, fE w 32 31, fE w 65536 31, 0, 0, 0⟩
  | 17 => ⟨17, fE w 1 31, fE w 32 31, fE w 65536 31, 0, 0, 0⟩
  | 18 => ⟨18, fE w 1 31, fE w 32 31, fE w 65536 31, 0, 0, 0⟩
  | 19 => ⟨19, fE w 1 31, fE w 32 31, fE w 65536 31, 0, fE w 4096 15, 0⟩
  | 20 => ⟨20, 0, 0, 0, 0, 0, farE w 1 67108863 274877906944⟩
  | 21 => ⟨21, 0, 0, 0, 0, fE w 1 15, farE w 32 524287 35184372088832⟩
  | 22 => ⟨22, fE w 1 31, 0, 0, 0, 0, farE w 32 524287 35184372088832⟩
  | 23 => ⟨23, fE w 1 31, 0, 0, 0, 0, farE w 32 524287 35184372088832⟩
  | 24 => ⟨24, 0, 0, 0, 0, 0, farE w 1 67108863 274877906944⟩
  | 25 => ⟨25, 0, fE w 32 31, 0, 0, 0, 0⟩
  | 26 => ⟨26, 0, fE w 32 31, 0, 0, 0, 0⟩
  | 27 => ⟨27, 0, fE w 32 31, 0, 0, 0, 0⟩
  | 28 => ⟨28, fE w 1 31, fE w 32 31, 0, 0, 0, IntKind.i64.wrap (8 * fE w 1024 4095)⟩
  | 29 => ⟨29, fE w 1 31, fE w 32 31, 0, 0, 0, IntKind.i64.wrap (8 * fE w 1024 4095)⟩
  | 30 => ⟨30, fE w 1 31, fE w 32 31, 0, 0, 0, fE w 1024 4095⟩
  | 31 => ⟨31, fE w 1 31, fE w 32 31, fE w 65536 31, 0, 0, 0⟩
  | 32 => ⟨32, fE w 1 31, fE w 32 31, fE w 65536 31, 0, 0, 0⟩
  | 33 => ⟨33, fE w 1 31, fE w 32 31, 0, 0, 0, 0⟩
  | 34 => ⟨34, fE w 1 31, fE w 32 31, 0, 0, 0, 0⟩
  | 35 => ⟨35, fE w 1 31, fE w 32 31, 0, 0, 0, 0⟩
  | 36 => ⟨36, fE w 65536 31, fE w 32 31, fE w 1 31, 0, 0, 0⟩
  | 37 => ⟨37, 0, 0, 0, 0, 0, 0⟩
  | 38 => ⟨38, 0, 0, 0, 0, 0, 0⟩
  | 39 => ⟨39, 0, 0, 0, 0, 0, 0⟩
  | 40 => ⟨40, 0, fE w 1 31, 0, 0, 0, 0⟩
  | 41 => ⟨41, 0, fE w 1 31, 0, 0, 0, 0⟩
  | 42 => ⟨42, 0, 0, 0, 0, 0, fE w 32 65535⟩
  | _ => ⟨0, 0, 0, 0, 0, 0, 0⟩
theorem decE_eq {w : Int} (h0 : 0 ≤ w) (h1 : w < 4294967296) : ∀ k : Nat, k < 43 → k ≠ 37 → decE k w = decF k w
  | 0, _, _ => by
    show (⟨_, _, _, _, _, _, _⟩ : I7) = ⟨_, _, _, _, _, _, _⟩
    exact I7.ext rfl rfl rfl rfl rfl rfl rfl
  | 1, _, _ => by
    show (⟨_, _, _, _, _, _, _⟩ : I7) = ⟨_, _, _, _, _, _, _⟩
    exact I7.ext rfl rfl rfl rfl rfl rfl rfl
  | 2, _, _ => by
    show (⟨_, _, _, _, _, _, _⟩ : I7) = ⟨_, _, _, _, _, _, _⟩
    exact I7.ext rfl (by rw [fE_eq 0 5 1 31 32 rfl rfl rfl (by omega) h0 h1, Int.ediv_one]) rfl (by rw [fE_eq 21 2 2097152 3 4 rfl rfl rfl (by omega) h0 h1]) rfl rfl (by rw [fE_eq 5 16 32 65535 65536 rfl rfl rfl (by omega) h0 h1])
  | 3, _, _ => by
    show (⟨_, _, _, _, _, _, _⟩ : I7) = ⟨_, _, _, _, _, _, _⟩
    exact I7.ext rfl (by rw [fE_eq 0 5 1 31 32 rfl rfl rfl (by omega) h0 h1, Int.ediv_one]) rfl (by rw [fE_eq 21 2 2097152 3 4 rfl rfl rfl (by omega) h0 h1]) rfl rfl (by rw [fE_eq 5 16 32 65535 65536 rfl rfl rfl (by omega) h0 h1])
  | 4, _, _ => by
    show (⟨_, _, _, _, _, _, _⟩ : I7) = ⟨_, _, _, _, _, _, _⟩
    exact I7.ext rfl (by rw [fE_eq 0 5 1 31 32 rfl rfl rfl (by omega) h0 h1, Int.ediv_one]) (by rw [fE_eq 5 5 32 31 32 rfl rfl rfl (by omega) h0 h1]) rfl rfl rfl (by rw [fE_eq 10 12 1024 4095 4096 rfl rfl rfl (by omega) h0 h1])
  | 5, _, _ => by
    show (⟨_, _, _, _, _, _, _⟩ : I7) = ⟨_, _, _, _, _, _, _⟩
    exact I7.ext rfl (by rw [fE_eq 0 5 1 31 32 rfl rfl rfl (by omega) h0 h1, Int.ediv_one]) (by rw [fE_eq 5 5 32 31 32 rfl rfl rfl (by omega) h0 h1]) rfl rfl rfl (by rw [fE_eq 10 12 1024 4095 4096 rfl rfl rfl (by omega) h0 h1])
  | 6, _, _ => by
    show (⟨_, _, _, _, _, _, _⟩ : I7) = ⟨_, _, _, _, _, _, _⟩
    exact I7.ext rfl (by rw [fE_eq 0 5 1 31 32 rfl rfl rfl (by omega) h0 h1, Int.ediv_one]) (by rw [fE_eq 5 5 32 31 32 rfl rfl rfl (by omega) h0 h1]) rfl rfl rfl (by rw [fE_eq 10 12 1024 4095 4096 rfl rfl rfl (by omega) h0 h1])
  | 7, _, _ => by
    show (⟨_, _, _, _, _, _, _⟩ : I7) = ⟨_, _, _, _, _, _, _⟩
    exact I7.ext rfl (by rw [fE_eq 0 5 1 31 32 rfl rfl rfl (by omega) h0 h1, Int.ediv_one]) (by rw [fE_eq 5 5 32 31 32 rfl rfl rfl (by omega) h0 h1]) (by rw [fE_eq 16 5 65536 31 32 rfl rfl rfl (by omega) h0 h1]) rfl rfl rfl
  | 8, _, _ => by
    show (⟨_, _, _, _, _, _, _⟩ : I7) = ⟨_, _, _, _, _, _, _⟩
    exact I7.ext rfl (by rw [fE_eq 0 5 1 31 32 rfl rfl rfl (by omega) h0 h1, Int.ediv_one]) (by rw [fE_eq 5 5 32 31 32 rfl rfl rfl (by omega) h0 h1]) (by rw [fE_eq 16 5 65536 31 32 rfl rfl rfl (by omega) h0 h1]) rfl rfl rfl
  | 9, _, _ => by
    show (⟨_, _, _, _, _, _, _⟩ : I7) = ⟨_, _, _, _, _, _, _⟩
    exact I7.ext rfl (by rw [fE_eq 0 5 1 31 32 rfl rfl rfl (by omega) h0 h1, Int.ediv_one]) (by rw [fE_eq 5 5 32 31 32 rfl rfl rfl (by omega) h0 h1]) (by rw [fE_eq 16 5 65536 31 32 rfl rfl rfl (by omega) h0 h1]) rfl rfl rfl
  | 10, _, _ => by
    show (⟨_, _, _, _, _, _, _⟩ : I7) = ⟨_, _, _, _, _, _, _⟩
    exact I7.ext rfl (by rw [fE_eq 0 5 1 31 32 rfl rfl rfl (by omega) h0 h1, Int.ediv_one]) (by rw [fE_eq 5 5 32 31 32 rfl rfl rfl (by omega) h0 h1]) (by rw [fE_eq 16 5 65536 31 32 rfl rfl rfl (by omega) h0 h1]) rfl rfl rfl
  | 11, _, _ => by
    show (⟨_, _, _, _, _, _, _⟩ : I7) = ⟨_, _, _, _, _, _, _⟩
    exact I7.ext rfl (by rw [fE_eq 0 5 1 31 32 rfl rfl rfl (by omega) h0 h1, Int.ediv_one]) (by rw [fE_eq 5 5 32 31 32 rfl rfl rfl (by omega) h0 h1]) (by rw [fE_eq 16 5 65536 31 32 rfl rfl rfl (by omega) h0 h1]) rfl rfl rfl
  | 12, _, _ => by
    show (⟨_, _, _, _, _, _, _⟩ : I7) = ⟨_, _, _, _, _, _, _⟩
    exact I7.ext rfl (by rw [fE_eq 0 5 1 31 32 rfl rfl rfl (by omega) h0 h1, Int.ediv_one]) (by rw [fE_eq 5 5 32 31 32 rfl rfl rfl (by omega) h0 h1]) (by rw [fE_eq 16 5 65536 31 32 rfl rfl rfl (by omega) h0 h1]) rfl rfl rfl
  | 13, _, _ => by
    show (⟨_, _, _, _, _, _, _⟩ : I7) = ⟨_, _, _, _, _, _, _⟩
    exact I7.ext rfl (by rw [fE_eq 0 5 1 31 32 rfl rfl rfl (by omega) h0 h1, Int.ediv_one]) (by rw [fE_eq 5 5 32 31 32 rfl rfl rfl (by omega) h0 h1]) (by rw [fE_eq 16 5 65536 31 32 rfl rfl rfl (by omega) h0 h1]) (by rw [fE_eq 10 5 1024 31 32 rfl rfl rfl (by omega) h0 h1]) rfl rfl
  | 14, _, _ => by
    show (⟨_, _, _, _, _, _, _⟩ : I7) = ⟨_, _, _, _, _, _, _⟩
    exact I7.ext rfl (by rw [fE_eq 0 5 1 31 32 rfl rfl rfl (by omega) h0 h1, Int.ediv_one]) (by rw [fE_eq 5 5 32 31 32 rfl rfl rfl (by omega) h0 h1]) (by rw [fE_eq 16 5 65536 31 32 rfl rfl rfl (by omega) h0 h1]) (by rw [fE_eq 10 5 1024 31 32 rfl rfl rfl (by omega) h0 h1]) rfl rfl
  | 15, _, _ => by
    show (⟨_, _, _, _, _, _, _⟩ : I7) = ⟨_, _, _, _, _, _, _⟩
    exact I7.ext rfl (by rw [fE_eq 0 5 1 31 32 rfl rfl rfl (by omega) h0 h1, Int.ediv_one]) (by rw [fE_eq 5 5 32 31 32 rfl rfl rfl (by omega) h0 h1]) (by rw [fE_eq 16 5 65536 31 32 rfl rfl rfl (by omega) h0 h1]) rfl rfl rfl
  | 16, _, _ => by
    show (⟨_, _, _, _, _, _, _⟩ : I7) = ⟨_, _, _, _, _, _, _⟩
    exact I7.ext rfl (by rw [fE_eq 0 5 1 31 32 rfl rfl rfl (by omega) h0 h1, Int.ediv_one]) (by rw [fE_eq 5 5 32 31 32 rfl rfl rfl (by omega) h0 h1]) (by rw [fE_eq 16 5 65536 31 32 rfl rfl rfl (by omega) h0 h1]) rfl rfl rfl
  | 17, _, _ => by
    show (⟨_, _, _, _, _, _, _⟩ : I7) = ⟨_, _, _, _, _, _, _⟩
    exact I7.ext rfl (by rw [fE_eq 0 5 1 31 32 rfl rfl rfl (by omega) h0 h1, Int.ediv_one]) (by rw [fE_eq 5 5 32 31 32 rfl rfl rfl (by omega) h0 h1]) (by rw [fE_eq 16 5 65536 31 32 rfl rfl rfl (by omega) h0 h1]) rfl rfl rfl
  | 18, _, _ => by
    show (⟨_, _, _, _, _, _, _⟩ : I7) = ⟨_, _, _, _, _, _, _⟩
    exact I7.ext rfl (by rw [fE_eq 0 5 1 31 32 rfl rfl rfl (by omega) h0 h1, Int.ediv_one]) (by rw [fE_eq 5 5 32 31 32 rfl rfl rfl (by omega) h0 h1]) (by rw [fE_eq 16 5 65536 31 32 rfl rfl rfl (by omega) h0 h1]) rfl rfl rfl
  | 19, _, _ => by
    show (⟨_, _, _, _, _, _, _⟩ : I7) = ⟨_, _, _, _, _, _, _⟩
    exact I7.ext rfl (by rw [fE_eq 0 5 1 31 32 rfl rfl rfl (by omega) h0 h1, Int.ediv_one]) (by rw [fE_eq 5 5 32 31 32 rfl rfl rfl (by omega) h0 h1]) (by rw [fE_eq 16 5 65536 31 32 rfl rfl rfl (by omega) h0 h1]) rfl (by rw [fE_eq 12 4 4096 15 16 rfl rfl rfl (by omega) h0 h1]) rfl
  | 20, _, _ => by
    show (⟨_, _, _, _, _, _, _⟩ : I7) = ⟨_, _, _, _, _, _, _⟩
    exact I7.ext rfl rfl rfl rfl rfl rfl (by rw [farE_eq 0 26 1 67108863 67108864 274877906944 rfl rfl rfl (by omega) (by omega) h0 h1, Int.ediv_one])
  | 21, _, _ => by
    show (⟨_, _, _, _, _, _, _⟩ : I7) = ⟨_, _, _, _, _, _, _⟩
    exact I7.ext rfl rfl rfl rfl rfl (by rw [fE_eq 0 4 1 15 16 rfl rfl rfl (by omega) h0 h1, Int.ediv_one]) (by rw [farE_eq 5 19 32 524287 524288 35184372088832 rfl rfl rfl (by omega) (by omega) h0 h1])
  | 22, _, _ => by
    show (⟨_, _, _, _, _, _, _⟩ : I7) = ⟨_, _, _, _, _, _, _⟩
    exact I7.ext rfl (by rw [fE_eq 0 5 1 31 32 rfl rfl rfl (by omega) h0 h1, Int.ediv_one]) rfl rfl rfl rfl (by rw [farE_eq 5 19 32 524287 524288 35184372088832 rfl rfl rfl (by omega) (by omega) h0 h1])
  | 23, _, _ => by
    show (⟨_, _, _, _, _, _, _⟩ : I7) = ⟨_, _, _, _, _, _, _⟩
    exact I7.ext rfl (by rw [fE_eq 0 5 1 31 32 rfl rfl rfl (by omega) h0 h1, Int.ediv_one]) rfl rfl rfl rfl (by rw [farE_eq 5 19 32 524287 524288 35184372088832 rfl rfl rfl (by omega) (by omega) h0 h1])
  | 24, _, _ => by
    show (⟨_, _, _, _, _, _, _⟩ : I7) = ⟨_, _, _, _, _, _, _⟩
    exact I7.ext rfl rfl rfl rfl rfl rfl (by rw [farE_eq 0 26 1 67108863 67108864 274877906944 rfl rfl rfl (by omega) (by omega) h0 h1, Int.ediv_one])
  | 25, _, _ => by
    show (⟨_, _, _, _, _, _, _⟩ : I7) = ⟨_, _, _, _, _, _, _⟩
    exact I7.ext rfl rfl (by rw [fE_eq 5 5 32 31 32 rfl rfl rfl (by omega) h0 h1]) rfl rfl rfl rfl
  | 26, _, _ => by
    show (⟨_, _, _, _, _, _, _⟩ : I7) = ⟨_, _, _, _, _, _, _⟩
    exact I7.ext rfl rfl (by rw [fE_eq 5 5 32 31 32 rfl rfl rfl (by omega) h0 h1]) rfl rfl rfl rfl
  | 27, _, _ => by
    show (⟨_, _, _, _, _, _, _⟩ : I7) = ⟨_, _, _, _, _, _, _⟩
    exact I7.ext rfl rfl (by rw [fE_eq 5 5 32 31 32 rfl rfl rfl (by omega) h0 h1]) rfl rfl rfl rfl
  | 28, _, _ => by
    show (⟨_, _, _, _, _, _, _⟩ : I7) = ⟨_, _, _, _, _, _, _⟩
    exact I7.ext rfl (by rw [fE_eq 0 5 1 31 32 rfl rfl rfl (by omega) h0 h1, Int.ediv_one]) (by rw [fE_eq 5 5 32 31 32 rfl rfl rfl (by omega) h0 h1]) rfl rfl rfl (by rw [fE_eq 10 12 1024 4095 4096 rfl rfl rfl (by omega) h0 h1, wrap_i64_in (n := 8 * (w / 1024 % 4096)) (by omega) (by omega)])
  | 29, _, _ => by
    show (⟨_, _, _, _, _, _, _⟩ : I7) = ⟨_, _, _, _, _, _, _⟩
    exact I7.ext rfl (by rw [fE_eq 0 5 1 31 32 rfl rfl rfl (by omega) h0 h1, Int.ediv_one]) (by rw [fE_eq 5 5 32 31 32 rfl rfl rfl (by omega) h0 h1]) rfl rfl rfl (by rw [fE_eq 10 12 1024 4095 4096 rfl rfl rfl (by omega) h0 h1, wrap_i64_in (n := 8 * (w / 1024 % 4096)) (by omega) (by omega)])
  | 30, _, _ => by
    show (⟨_, _, _, _, _, _, _⟩ : I7) = ⟨_, _, _, _, _, _, _⟩
    exact I7.ext rfl (by rw [fE_eq 0 5 1 31 32 rfl rfl rfl (by omega) h0 h1, Int.ediv_one]) (by rw [fE_eq 5 5 32 31 32 rfl rfl rfl (by omega) h0 h1]) rfl rfl rfl (by rw [fE_eq 10 12 1024 4095 4096 rfl rfl rfl (by omega) h0 h1])
  | 31, _, _ => by
    show (⟨_, _, _, _, _, _, _⟩ : I7) = ⟨_, _, _, _, _, _, _⟩
    exact I7.ext rfl (by rw [fE_eq 0 5 1 31 32 rfl rfl rfl (by omega) h0 h1, Int.ediv_one]) (by rw [fE_eq 5 5 32 31 32 rfl rfl rfl (by omega) h0 h1]) (by rw [fE_eq 16 5 65536 31 32 rfl rfl rfl (by omega) h0 h1]) rfl rfl rfl
  | 32, _, _ => by
    show (⟨_, _, _, _, _, _, _⟩ : I7) = ⟨_, _, _, _, _, _, _⟩
    exact I7.ext rfl (by rw [fE_eq 0 5 1 31 32 rfl rfl rfl (by omega) h0 h1, Int.ediv_one]) (by rw [fE_eq 5 5 32 31 32 rfl rfl rfl (by omega) h0 h1]) (by rw [fE_eq 16 5 65536 31 32 rfl rfl rfl (by omega) h0 h1]) rfl rfl rfl
  | 33, _, _ => by
    show (⟨_, _, _, _, _, _, _⟩ : I7) = ⟨_, _, _, _, _, _, _⟩
    exact I7.ext rfl (by rw [fE_eq 0 5 1 31 32 rfl rfl rfl (by omega) h0 h1, Int.ediv_one]) (by rw [fE_eq 5 5 32 31 32 rfl rfl rfl (by omega) h0 h1]) rfl rfl rfl rfl
  | 34, _, _ => by
    show (⟨_, _, _, _, _, _, _⟩ : I7) = ⟨_, _, _, _, _, _, _⟩
    exact I7.ext rfl (by rw [fE_eq 0 5 1 31 32 rfl rfl rfl (by omega) h0 h1, Int.ediv_one]) (by rw [fE_eq 5 5 32 31 32 rfl rfl rfl (by omega) h0 h1]) rfl rfl rfl rfl
  | 35, _, _ => by
    show (⟨_, _, _, _, _, _, _⟩ : I7) = ⟨_, _, _, _, _, _, _⟩
    exact I7.ext rfl (by rw [fE_eq 0 5 1 31 32 rfl rfl rfl (by omega) h0 h1, Int.ediv_one]) (by rw [fE_eq 5 5 32 31 32 rfl rfl rfl (by omega) h0 h1]) rfl rfl rfl rfl
  | 36, _, _ => by
    show (⟨_, _, _, _, _, _, _⟩ : I7) = ⟨_, _, _, _, _, _, _⟩
    exact I7.ext rfl (by rw [fE_eq 16 5 65536 31 32 rfl rfl rfl (by omega) h0 h1]) (by rw [fE_eq 5 5 32 31 32 rfl rfl rfl (by omega) h0 h1]) (by rw [fE_eq 0 5 1 31 32 rfl rfl rfl (by omega) h0 h1, Int.ediv_one]) rfl rfl rfl
  | 37, _, h => absurd rfl h
  | 38, _, _ => by
    show (⟨_, _, _, _, _, _, _⟩ : I7) = ⟨_, _, _, _, _, _, _⟩
    exact I7.ext rfl rfl rfl rfl rfl rfl rfl
  | 39, _, _ => by
    show (⟨_, _, _, _, _, _, _⟩ : I7) = ⟨_, _, _, _, _, _, _⟩
    exact I7.ext rfl rfl rfl rfl rfl rfl rfl
  | 40, _, _ => by
    show (⟨_, _, _, _, _, _, _⟩ : I7) = ⟨_, _, _, _, _, _, _⟩
    exact I7.ext rfl rfl (by rw [fE_eq 0 5 1 31 32 rfl rfl rfl (by omega) h0 h1, Int.ediv_one]) rfl rfl rfl rfl
  | 41, _, _ => by
    show (⟨_, _, _, _, _, _, _⟩ : I7) = ⟨_, _, _, _, _, _, _⟩
    exact I7.ext rfl rfl (by rw [fE_eq 0 5 1 31 32 rfl rfl rfl (by omega) h0 h1, Int.ediv_one]) rfl rfl rfl rfl
  | 42, _, _ => by
    show (⟨_, _, _, _, _, _, _⟩ : I7) = ⟨_, _, _, _, _, _, _⟩
    exact I7.ext rfl rfl rfl rfl rfl rfl (by rw [fE_eq 5 16 32 65535 65536 rfl rfl rfl (by omega) h0 h1])
  | k + 43, h, _ => absurd h (by omega)
def udfE (w : Int) : V := insV 0 0 0 0 0 0 (IntKind.i64.wrap (Go.bits .and .u32 w 65535))
theorem udfE_eq {w : Int} (h0 : 0 ≤ w) (h1 : w < 4294967296) : udfE w = (udf w).v := by
  have h := fE_eq (w := w) 0 16 1 65535 65536 rfl rfl rfl (by omega) h0 h1
  unfold fE at h
  rw [Int.fdiv_eq_ediv_of_nonneg _ (by omega), Int.ediv_one] at h
  unfold udfE udf I7.v
  rw [h]
def leafM (w : Int) (i : I7) : Option V := Br (chkV i.op i.d i.n i.m i.a i.c i.im == 0) (Br (i.word == w) (some i.v) (some (udfE w))) (some (udfE w))
def leafK (w : Int) (k : Nat) : Option V := match k with
  | 0 => Br (0 == w) (some (udfE w)) (some (udfE w))
  | 37 => none
  | k => leafM w (decE k w)
def kindA : List V → Sto → Option Ans := fun args s => match args with
  | [.raw (.int .u32 w)] => some (chainG Ans.br (fun k => match k with
    | 37 => .no
    | k => .one (.ret (.raw (.int .i64 (k : Nat)))) s) (kindL w))
  | _ => none
set_option maxRecDepth 1000000 in
theorem kind_run (w : Int) : runI Try.prog noE 60 50 [.raw (.int .u32 w)] = chainG Br (fun k => some (.raw (.int .i64 (k : Nat)))) (kindL w) := by kernel_rfl
theorem kind_call (w : Int) : CallOk Try.prog 50 [.raw (.int .u32 w)] [] fun r _ => r = .ret (.raw (.int .i64 (chainX (kindL w) : Nat))) := runI_ok noE_ok names mixed (n := 60) (by rw [kind_run, chain_Br])
theorem kindA_ok {E : Eh} (hE : EOk Try.prog E) : EOk Try.prog (addE 50 kindA E) := by
  refine addE_ok hE fun args s a h hf => ?_
  unfold kindA at h
  split at h
  · rename_i w
    cases h
    have h1 := chain_fine _ _ hf
    refine ((kind_call w).anywhere (s := s) ⟨trivial, trivial⟩ trivial).mono fun r s' ⟨h2, h3⟩ => chain_is _ _ ?_
    subst h2 h3
    generalize chainX (kindL w) = k at h1 ⊢
    split at h1
    · exact h1.elim
    · exact ⟨rfl, rfl⟩
  · cases h
noncomputable def EK : Eh := addE 50 kindA (specE 55 wordG noE)
theorem EK_ok : EOk Try.prog EK := kindA_ok (wordG_ok noE_ok)
set_option maxRecDepth 1000000 in
theorem ins_run (w : Int) : runI Try.prog EK 80 27 [.raw (.int .u32 w)] = chainG Br (leafK w) (kindL w) := by kernel_rfl
noncomputable def EW1 : Eh := specE 55 wordG noE
theorem EW1_ok : EOk Try.prog EW1 := wordG_ok noE_ok
set_option maxRecDepth 1000000 in
theorem bar_run_0 : runI Try.prog EW1 80 27 [.raw (.int .u32 3573756095)] = some (decI 3573756095).v := by kernel_rfl
set_option maxRecDepth 1000000 in
theorem bar_run_1 : runI Try.prog EW1 80 27 [.raw (.int .u32 3573756351)] = some (decI 3573756351).v := by kernel_rfl
set_option maxRecDepth 1000000 in
theorem bar_run_2 : runI Try.prog EW1 80 27 [.raw (.int .u32 3573756607)] = some (decI 3573756607).v := by kernel_rfl
set_option maxRecDepth 1000000 in
theorem bar_run_3 : runI Try.prog EW1 80 27 [.raw (.int .u32 3573756863)] = some (decI 3573756863).v := by kernel_rfl
set_option maxRecDepth 1000000 in
theorem bar_run_4 : runI Try.prog EW1 80 27 [.raw (.int .u32 3573757119)] = some (decI 3573757119).v := by kernel_rfl
set_option maxRecDepth 1000000 in
theorem bar_run_5 : runI Try.prog EW1 80 27 [.raw (.int .u32 3573757375)] = some (decI 3573757375).v := by kernel_rfl
set_option maxRecDepth 1000000 in
theorem bar_run_6 : runI Try.prog EW1 80 27 [.raw (.int .u32 3573757631)] = some (decI 3573757631).v := by kernel_rfl
set_option maxRecDepth 1000000 in
theorem bar_run_7 : runI Try.prog EW1 80 27 [.raw (.int .u32 3573757887)] = some (decI 3573757887).v := by kernel_rfl
set_option maxRecDepth 1000000 in
theorem bar_run_8 : runI Try.prog EW1 80 27 [.raw (.int .u32 3573758143)] = some (decI 3573758143).v := by kernel_rfl
set_option maxRecDepth 1000000 in
theorem bar_run_9 : runI Try.prog EW1 80 27 [.raw (.int .u32 3573758399)] = some (decI 3573758399).v := by kernel_rfl
set_option maxRecDepth 1000000 in
theorem bar_run_10 : runI Try.prog EW1 80 27 [.raw (.int .u32 3573758655)] = some (decI 3573758655).v := by kernel_rfl
set_option maxRecDepth 1000000 in
theorem bar_run_11 : runI Try.prog EW1 80 27 [.raw (.int .u32 3573758911)] = some (decI 3573758911).v := by kernel_rfl
set_option maxRecDepth 1000000 in
theorem bar_run_12 : runI Try.prog EW1 80 27 [.raw (.int .u32 3573759167)] = some (decI 3573759167).v := by kernel_rfl
set_option maxRecDepth 1000000 in
theorem bar_run_13 : runI Try.prog EW1 80 27 [.raw (.int .u32 3573759423)] = some (decI 3573759423).v := by kernel_rfl
set_option maxRecDepth 1000000 in
theorem bar_run_14 : runI Try.prog EW1 80 27 [.raw (.int .u32 3573759679)] = some (decI 3573759679).v := by kernel_rfl
set_option maxRecDepth 1000000 in
theorem bar_run_15 : runI Try.prog EW1 80 27 [.raw (.int .u32 3573759935)] = some (decI 3573759935).v := by kernel_rfl
theorem ite_ne {p : Prop} [Decidable p] {a b : Nat} (ha : a ≠ 37) (hb : b ≠ 37) : (if p then a else b) ≠ 37 := by
  by_cases h : p
  · rw [if_pos h]; exact ha
  · rw [if_neg h]; exact hb
theorem ins_call {w : Int} (h0 : 0 ≤ w) (h1 : w < 4294967296) : CallOk Try.prog 27 [.raw (.int .u32 w)] [] fun r _ => r = .ret (decI w).v := by
  by_cases hk : kindN w = 37
  · have h37 : w / 4096 = 872499 ∧ w % 256 = 191 := Decidable.byContradiction fun hn => absurd hk (by
      unfold kindN
      repeat (refine ite_ne (by omega) ?_)
      rw [if_neg hn]
      repeat (refine ite_ne (by omega) ?_)
      omega)
    rcases (show w = 3573756095 ∨ w = 3573756351 ∨ w = 3573756607 ∨ w = 3573756863 ∨ w = 3573757119 ∨ w = 3573757375 ∨ w = 3573757631 ∨ w = 3573757887 ∨ w = 3573758143 ∨ w = 3573758399 ∨ w = 3573758655 ∨ w = 3573758911 ∨ w = 3573759167 ∨ w = 3573759423 ∨ w = 3573759679 ∨ w = 3573759935 by omega) with rfl | rfl | rfl | rfl | rfl | rfl | rfl | rfl | rfl | rfl | rfl | rfl | rfl | rfl | rfl | rfl
    · exact runI_ok EW1_ok names mixed (n := 80) bar_run_0
    · exact runI_ok EW1_ok names mixed (n := 80) bar_run_1
    · exact runI_ok EW1_ok names mixed (n := 80) bar_run_2
    · exact runI_ok EW1_ok names mixed (n := 80) bar_run_3
    · exact runI_ok EW1_ok names mixed (n := 80) bar_run_4
    · exact runI_ok EW1_ok names mixed (n := 80) bar_run_5
    · exact runI_ok EW1_ok names mixed (n := 80) bar_run_6
    · exact runI_ok EW1_ok names mixed (n := 80) bar_run_7
    · exact runI_ok EW1_ok names mixed (n := 80) bar_run_8
    · exact runI_ok EW1_ok names mixed (n := 80) bar_run_9
    · exact runI_ok EW1_ok names mixed (n := 80) bar_run_10
    · exact runI_ok EW1_ok names mixed (n := 80) bar_run_11
    · exact runI_ok EW1_ok names mixed (n := 80) bar_run_12
    · exact runI_ok EW1_ok names mixed (n := 80) bar_run_13
    · exact runI_ok EW1_ok names mixed (n := 80) bar_run_14
    · exact runI_ok EW1_ok names mixed (n := 80) bar_run_15
  · refine runI_ok EK_ok names mixed (n := 80) ?_
    rw [ins_run, chain_Br, kindL_eq h0 h1]
    have hlt := kind_lt w
    unfold decI
    by_cases h : kindN w = 0
    · rw [if_neg (fun hh => hh.1 h), h]
      show Br (0 == w) (some (udfE w)) (some (udfE w)) = _
      rw [Br_same, udfE_eq h0 h1]
    · have e : leafK w (kindN w) = leafM w (decE (kindN w) w) := by
        generalize kindN w = k at hk h
        match k, hk, h with
        | 0, _, h => exact absurd rfl h
        | 37, h, _ => exact absurd rfl h
        | k + 1, hq, _ =>
          unfold leafK
          split
          · rename_i h3; exact absurd h3 (by omega)
          · rename_i h3; exact absurd h3 hq
          · rfl
      rw [e, decE_eq h0 h1 _ hlt hk]
      unfold leafM
      by_cases c1 : (decF (kindN w) w).ok
      · have c2 : chkV (decF (kindN w) w).op (decF (kindN w) w).d (decF (kindN w) w).n (decF (kindN w) w).m (decF (kindN w) w).a (decF (kindN w) w).c (decF (kindN w) w).im = 0 := if_pos c1
        rw [c2]
        by_cases c3 : (decF (kindN w) w).word = w
        · rw [if_pos ⟨h, c1, c3⟩]
          show Br ((decF (kindN w) w).word == w) _ _ = _
          rw [c3, beq_self_eq_true]; rfl
        · rw [if_neg (fun hh => c3 hh.2.2)]
          show Br ((decF (kindN w) w).word == w) _ _ = _
          rw [beq_dec, Br_if, udfE_eq h0 h1]
          exact if_neg c3
      · have c2 : chkV (decF (kindN w) w).op (decF (kindN w) w).d (decF (kindN w) w).n (decF (kindN w) w).m (decF (kindN w) w).a (decF (kindN w) w).c (decF (kindN w) w).im = 1 := if_neg c1
        rw [c2, if_neg (fun hh => c1 hh.2.1), udfE_eq h0 h1]; rfl
def decA : List V → Sto → Option Ans := fun args s => match args with
  | [.raw (.int .u32 w)] => some (.br (decide (0 ≤ w ∧ w < 4294967296)) (.one (.ret (decI w).v) s) .no)
  | _ => none
theorem decA_ok {E : Eh} (hE : EOk Try.prog E) : EOk Try.prog (addE 27 decA E) := by
  refine addE_ok hE fun args s a h hf => ?_
  unfold decA at h
  split at h
  · rename_i w
    cases h
    rcases hf with ⟨hb, _⟩ | ⟨_, hf⟩
    · have h2 := of_decide_eq_true hb
      exact ((ins_call h2.1 h2.2).anywhere (s := s) ⟨trivial, trivial⟩ (insV_bd ..)).mono fun r s' h3 => .inl ⟨hb, h3⟩
    · exact hf.elim
  · cases h
end Go.Proofs.Ytalgegmcllcnmaa.isa
end
section
/- LabConsts: the walk. -/
set_option linter.unusedVariables false
set_option linter.unusedSimpArgs false
set_option maxRecDepth 1000000
namespace Go.Proofs.Ytalgegmcllcnmaa.labConsts
open Go Go.Proofs Go.Proofs.YtalgegmcllcnmaaRL Go.Proofs.Ytalgegmcllcnmaa.isa
theorem kn_eq (K : V → Prop) : callG Try.prog noE 400 7 [] [] (rK K) = K (bV true) := by kernel_rfl
theorem kn_ok : CallOk Try.prog 7 [] [] fun r _ => r = .ret (bV true) := by
  refine (callG_ok noE_ok names mixed (n := 400) (K := rK fun v => v = bV true) ?_).mono rK_ok
  rw [kn_eq]
def knG : List V → Option V
  | [] => some (bV true)
  | _ => none
theorem knG_ok {E : Eh} (hE : EOk Try.prog E) : EOk Try.prog (specE 7 knG E) := by
  refine specE_ok hE fun args v h => ?_
  unfold knG at h
  split at h
  · cases h; exact ⟨trivial, trivial, kn_ok⟩
  · cases h
noncomputable def EL : Eh := specE 7 knG (specE 55 wordG (addE 27 decA (addE 26 do6A noE)))
theorem EL_ok : EOk Try.prog EL := knG_ok (wordG_ok (decA_ok (do6A_ok noE_ok)))
noncomputable abbrev cd : Code := codeOf Try.prog 4
noncomputable def p1 : List Nat := pathTo 12 cd
noncomputable def c1 : Code := subAt (p1.dropLast.dropLast.dropLast ++ [0]) cd
noncomputable def p2 : List Nat := pathTo 22 c1
noncomputable def c2 : Code := subAt (p2.dropLast.dropLast.dropLast ++ [0]) c1
abbrev KB (K : V → Prop) : Ex → St → Prop := bodyK False Try.prog (funcOf Try.prog 4) (rK K)
def live : List Nat := [0,1,5,6,8,9,10,11]
def live2 : List Nat := [0,1,5,6,8,12,13]
structure RF where
  x : Nat → Int
  nf : Bool
  zf : Bool
  cf : Bool
  vf : Bool
def RF.v (r : RF) : V := regs r.x r.nf r.zf r.cf r.vf
abbrev RF.e (r : RF) : Ent := .own (numsV .u64 r.x 32 ++ [.raw (.bool r.nf), .raw (.bool r.zf), .raw (.bool r.cf), .raw (.bool r.vf)]) 57
abbrev wds (b : Nat → Int) (n : Nat) : List Ent := [.no, .arr (.grow 1) [.int .u32 b] n 53]
def SP (reg v : Int) (r : RF) (b : Nat → Int) (n : Nat) (parts k : Int) : St := ⟨85, [(0, .raw (.int .i64 reg)), (1, .raw (.int .u64 v)), (5, .ptr 0 0), (6, bV false), (8, .lse 2 1 1 0 n), (9, .raw (.int .i64 0)), (10, .raw (.int .i64 parts)), (11, .raw (.int .i64 k))], [r.e] ++ wds b n⟩
def SB (reg v : Int) (r : RF) (e : Int) : St := ⟨85, [(0, .raw (.int .i64 reg)), (1, .raw (.int .u64 v)), (5, .ptr 0 0), (6, bV false), (8, .raw (.slice none 0 0)), (9, .raw (.int .i64 e)), (10, .raw (.int .i64 0)), (11, .raw (.int .i64 0))], [r.e]⟩
def SW (reg v : Int) (r m : RF) (b : Nat → Int) (n : Nat) (i : Int) : St := ⟨85, [(0, .raw (.int .i64 reg)), (1, .raw (.int .u64 v)), (5, .ptr 0 0), (6, bV false), (8, .lse 2 1 1 0 n), (12, .ptr 3 0), (13, .raw (.int .i64 i))], [m.e] ++ wds b n ++ [r.e]⟩
abbrev ap (f : Nat → Int) (n : Nat) (w : Int) : Nat → Int := fun j => match Nat.blt j n with
  | true => f j
  | false => [w].getD (Nat.sub j n) 0
def ext (f : Nat → Int) (n : Nat) (w : Int) : Nat → Int := match n with
  | 0 => fun j => [w].getD j 0
  | n + 1 => ap f (n + 1) w
def wordsM (reg : Int) (F : (Nat → Int) → Nat → Prop) (B : Int → Prop) : Int → List (Nat × Int) → (Nat → Int) → Nat → Prop
  | _, [], f, n => F f n
  | op, (k, a) :: t, f, n => Br (chkV op reg 0 (k : Int) 0 0 a != 0) (B (chkV op reg 0 (k : Int) 0 0 a)) (wordsM reg F B 3 t (ext f n (wordV op reg 0 (k : Int) 0 0 a)) (n + 1))
def ways (v : Int) (F : List (Nat × Int) → Prop) : Nat → Nat → List (Nat × Int) → Prop
  | 0, _, acc => F acc
  | n + 1, k, acc => Br (part v k != 0) (ways v F n (k + 1) (acc ++ [(k, part v k)])) (ways v F n (k + 1) acc)
def rowsM : List (Nat × Int) → List (Nat × Int)
  | [] => [(0, 0)]
  | l => l
def preM (reg v : Int) (K : V → Prop) (F : (Nat → Int) → Nat → Prop) (B : Int → Prop) : Prop :=
  Br (decide (reg < 0)) (K (bV true)) (Br (decide (reg > 30)) (K (bV true)) (Br (decide (reg < 0)) (B 1) (Br (decide (reg > 30)) (B 1) (ways v (fun rows => wordsM reg F B 2 (rowsM rows) (fun _ => 0) 0) 4 0 []))))
section
variable (reg v : Int) (r m : RF) (b : Nat → Int) (n : Nat)
theorem pre_eq (K : V → Prop) (Z : St → Prop) : evTo Try.prog EL 100 0 (fun st => Z (gcSt 0 live st)) p1 cd ⟨(funcOf Try.prog 4).ntmps, zipArgs 0 [.raw (.int .i64 reg), .raw (.int .u64 v), r.v], []⟩ (KB K) =
    preM reg v K (fun b n => Z (SP reg v r b n 0 0)) (fun e => Z (SB reg v r e)) := by kernel_rfl
def r1M (v k : Int) (P Q X : Prop) : Prop := Br (decide (k < 4)) (Br (decide (0 ≤ w64 (IntKind.i64.wrap (16 * k)))) (Br (Go.bits .and .u64 (v.fdiv (sh6 k)) 65535 != 0) P Q) False) X
theorem r1_eq (parts k : Int) (K : Ex → St → Prop) : evG Try.prog EL 100 (lft (subAt p1 cd)) (SP reg v r b n parts k) (fun e st => K e (gcSt 0 live st)) =
    r1M v k (K .normal (SP reg v r b n (IntKind.i64.wrap (parts + 1)) (IntKind.i64.wrap (k + 1)))) (K .normal (SP reg v r b n parts (IntKind.i64.wrap (k + 1)))) (K (.exit 0) (SP reg v r b n parts k)) := by kernel_rfl
theorem aft1 (K : Ex → St → Prop) (st : St) : ctxK Try.prog 0 p1 cd K (.exit 0) st = CodeB Try.prog 0 c1 st K := by kernel_rfl
def midM (n : Nat) (parts : Int) (K : V → Prop) (Z : Prop) : Prop := Br (parts == 0) (Br ((n : Int) != 1) (K (bV false)) Z) (Br ((n : Int) != parts) (K (bV false)) Z)
theorem mid_eq (parts k : Int) (K : V → Prop) (Z : St → Prop) : evTo Try.prog EL 100 0 (fun st => Z (gcSt 0 live2 st)) p2 c1 (SP reg v r b n parts k) (KB K) = midM n parts K (Z (SW reg v r r b n 0)) := by kernel_rfl
def IX (k : Int) (n : Nat) (P : Prop) : Prop := Br (decide (0 ≤ k)) (Br (decide (k < n)) (Br (Nat.blt (k.toNat + 0) n) P False) False) False
def do6R (i : I7) (m : RF) : RF := ⟨x6 i.op i.d i.m i.im (norm m.x), m.nf, m.zf, m.cf, m.vf⟩
def r2M (b : Nat → Int) (n : Nat) (i : Int) (m : RF) (P : RF → Prop) (X : Prop) : Prop := Br (decide (i < (n : Nat))) (IX i n (Br (decide (0 ≤ b (i.toNat + 0) ∧ b (i.toNat + 0) < 4294967296)) (Br (decide (is6 (decI (b (i.toNat + 0))).op (decI (b (i.toNat + 0))).d (decI (b (i.toNat + 0))).n (decI (b (i.toNat + 0))).m (decI (b (i.toNat + 0))).a (decI (b (i.toNat + 0))).c (decI (b (i.toNat + 0))).im)) (P (do6R (decI (b (i.toNat + 0))) m)) False) False)) X
theorem r2_eq (i : Int) (K : Ex → St → Prop) : evG Try.prog EL 100 (lft (subAt p2 c1)) (SW reg v r m b n i) (fun e st => K e (gcSt 0 live2 st)) =
    r2M b n i m (fun q => K .normal (SW reg v r q b n (IntKind.i64.wrap (i + 1)))) (K (.exit 2) (SW reg v r m b n i)) := by kernel_rfl
theorem aft2 (K : Ex → St → Prop) (st : St) : ctxK Try.prog 0 p2 c1 K (.exit 2) st = CodeB Try.prog 0 c2 st K := by kernel_rfl
def upN (x : Nat → Int) (k : Nat) (v : Int) (i : Nat) : Int := match Nat.beq i k with
  | true => v
  | false => x i
def in31 (d : Int) (P : Nat → Prop) : Prop := Br (decide (0 ≤ d)) (Br (decide (d < 31)) (splI d P 30 0) False) False
def postM (reg v : Int) (m r : RF) (K : V → Prop) : Prop := in31 reg fun k => Br (m.x k != v) (K (bV false)) (in31 reg fun k => K (bV (eqR m.x (upN r.x k v) m.nf m.zf m.cf m.vf r.nf r.zf r.cf r.vf)))
theorem post_eq (i : Int) (K : V → Prop) : evG Try.prog EL 100 c2 (SW reg v r m b n i) (KB K) = postM reg v m r K := by kernel_rfl
end
end Go.Proofs.Ytalgegmcllcnmaa.labConsts
end
section
/- LabConsts: the law's function tells true. -/
set_option linter.unusedVariables false
set_option linter.unusedSimpArgs false
set_option maxRecDepth 100000
namespace Go.Proofs.Ytalgegmcllcnmaa.labConsts
open Go Go.Proofs Go.Proofs.YtalgegmcllcnmaaRL Go.Proofs.Ytalgegmcllcnmaa.isa
def rw7 (reg op : Int) (q : Nat × Int) : I7 := ⟨op, reg, 0, (q.1 : Int), 0, 0, q.2⟩
def mkL (reg : Int) : Int → List (Nat × Int) → List I7
  | _, [] => []
  | op, q :: t => rw7 reg op q :: mkL reg 3 t
abbrev I0 : I7 := ⟨0, 0, 0, 0, 0, 0, 0⟩
theorem mkL_len {reg : Int} : ∀ (t : List (Nat × Int)) (op : Int), (mkL reg op t).length = t.length
  | [], _ => rfl
  | q :: t, op => by show (mkL reg 3 t).length + 1 = t.length + 1; rw [mkL_len t 3]
def okQ (q : Nat × Int) : Prop := q.1 < 4 ∧ 0 ≤ q.2 ∧ q.2 < 65536
theorem ext_lt {f : Nat → Int} {n j : Nat} {w : Int} (h : j < n) : ext f n w j = f j := by
  cases n with
  | zero => omega
  | succ n =>
    show (match Nat.blt j (n + 1) with | true => f j | false => _) = _
    rw [show Nat.blt j (n + 1) = true from by rw [Nat.blt_eq]; omega]
theorem ext_eq {f : Nat → Int} {n : Nat} {w : Int} : ext f n w n = w := by
  cases n with
  | zero => rfl
  | succ n =>
    show (match Nat.blt (n + 1) (n + 1) with | true => f (n + 1) | false => [w].getD (Nat.sub (n + 1) (n + 1)) 0) = _
    have h : Nat.blt (n + 1) (n + 1) = false := by
      cases h : Nat.blt (n + 1) (n + 1) with
      | true => rw [Nat.blt_eq] at h; omega
      | false => rfl
    rw [h]
    show [w].getD (n + 1 - (n + 1)) 0 = w
    rw [Nat.sub_self]; rfl
theorem wordsM_ok {reg : Int} (d0 : 0 ≤ reg) (d1 : reg ≤ 30) {F : (Nat → Int) → Nat → Prop} {B : Int → Prop} : ∀ (t : List (Nat × Int)) (op : Int) (f : Nat → Int) (n : Nat), (op = 2 ∨ op = 3) → (∀ q ∈ t, okQ q) →
    (∀ g : Nat → Int, (∀ j, j < n → g j = f j) → (∀ j, j < t.length → g (n + j) = ((mkL reg op t).getD j I0).word) → F g (n + t.length)) → wordsM reg F B op t f n
  | [], op, f, n, ho, hq, h => h f (fun j _ => rfl) (fun j hj => absurd hj (Nat.not_lt_zero j))
  | (k, a) :: t, op, f, n, ho, hq, h => by
    have hk := hq (k, a) (List.mem_cons_self ..)
    have hc : chkV op reg 0 (k : Int) 0 0 a = 0 := ok_chk ho d0 d1 hk.1 hk.2.1 hk.2.2
    unfold wordsM
    rw [hc]
    show wordsM reg F B 3 t (ext f n (wordV op reg 0 (k : Int) 0 0 a)) (n + 1)
    refine wordsM_ok d0 d1 t 3 _ (n + 1) (.inr rfl) (fun q hm => hq q (List.mem_cons_of_mem _ hm)) fun g h1 h2 => ?_
    have := h g (fun j hj => by rw [h1 j (by omega), ext_lt hj]) (fun j hj => ?_)
    · rw [show n + 1 + t.length = n + ((k, a) :: t).length by simp only [List.length_cons]; omega]; exact this
    · cases j with
      | zero =>
        show g n = _
        rw [h1 n (by omega), ext_eq]; rfl
      | succ j =>
        rw [show n + (j + 1) = n + 1 + j by omega, h2 j (by simp only [List.length_cons] at hj; omega)]
        rfl
def valR (rows : List (Nat × Int)) (y : Int) : Int := rows.foldl (fun y q => lay y q.1 q.2) y
def cnt (v : Int) : Nat → Nat
  | 0 => 0
  | k + 1 => cnt v k + (if part v k = 0 then 0 else 1)
structure Inv (v : Int) (k : Nat) (rows : List (Nat × Int)) : Prop where
  val : valR rows 0 = v % ((2 ^ (16 * k) : Nat) : Int)
  len : rows.length = cnt v k
  ok : ∀ q ∈ rows, okQ q
theorem step_val {v : Int} (v0 : 0 ≤ v) (v1 : v < 18446744073709551616) {k : Nat} (hk : k < 4) : lay (v % ((2 ^ (16 * k) : Nat) : Int)) k (part v k) = v % ((2 ^ (16 * (k + 1)) : Nat) : Int) := by
  rw [part_at v k hk v0 v1]
  match k, hk with
  | 0, _ => simp only [lay, Nat.reduceMul, Nat.reducePow, Int.cast_ofNat_Int, Nat.reduceAdd]; omega
  | 1, _ => simp only [lay, Nat.reduceMul, Nat.reducePow, Int.cast_ofNat_Int, Nat.reduceAdd]; omega
  | 2, _ => simp only [lay, Nat.reduceMul, Nat.reducePow, Int.cast_ofNat_Int, Nat.reduceAdd]; omega
  | 3, _ => simp only [lay, Nat.reduceMul, Nat.reducePow, Int.cast_ofNat_Int, Nat.reduceAdd]; omega
  | k + 4, h => omega
theorem step_zero {v : Int} (v0 : 0 ≤ v) (v1 : v < 18446744073709551616) {k : Nat} (hk : k < 4) (h : part v k = 0) : v % ((2 ^ (16 * k) : Nat) : Int) = v % ((2 ^ (16 * (k + 1)) : Nat) : Int) := by
  rw [part_at v k hk v0 v1] at h
  rcases (show k = 0 ∨ k = 1 ∨ k = 2 ∨ k = 3 by omega) with rfl | rfl | rfl | rfl
  all_goals
    simp only [Nat.reduceMul, Nat.reducePow, Int.cast_ofNat_Int, Nat.reduceAdd] at h ⊢
    omega
theorem ways_ok {v : Int} (v0 : 0 ≤ v) (v1 : v < 18446744073709551616) {F : List (Nat × Int) → Prop} (h : ∀ rows, Inv v 4 rows → F rows) : ∀ (n k : Nat) (rows : List (Nat × Int)), k + n = 4 → Inv v k rows → ways v F n k rows
  | 0, k, rows, hk, hi => h rows (by rw [show k = 4 by omega] at hi; exact hi)
  | n + 1, k, rows, hk, hi => by
    unfold ways
    by_cases hp : part v k = 0
    · rw [show (part v k != 0) = false from by rw [hp]; rfl]
      refine ways_ok v0 v1 h n (k + 1) rows (by omega) ⟨?_, ?_, hi.ok⟩
      · rw [hi.val, step_zero v0 v1 (by omega) hp]
      · unfold cnt; rw [if_pos hp, hi.len]; rfl
    · rw [show (part v k != 0) = true from by rw [bne_iff_ne]; exact hp]
      obtain ⟨q0, q1⟩ := part_in v k (by omega) v0 v1
      refine ways_ok v0 v1 h n (k + 1) _ (by omega) ⟨?_, ?_, fun q hq => ?_⟩
      · unfold valR
        rw [List.foldl_append]
        show lay (valR rows 0) k (part v k) = _
        rw [hi.val, step_val v0 v1 (by omega)]
      · unfold cnt; rw [if_neg hp, List.length_append, hi.len]; rfl
      · rcases List.mem_append.1 hq with hq | hq
        · exact hi.ok q hq
        · rw [List.mem_singleton] at hq; subst hq
          exact ⟨by show k < 4; omega, q0, q1⟩
def run : List I7 → RF → RF
  | [], m => m
  | i :: t, m => run t (do6R i m)
/-- Registers r, with y in register reg. -/
structure RI (reg y : Int) (r m : RF) : Prop where
  at_ : ∀ i : Nat, i < 32 → m.x i = if (i : Int) = reg then y else r.x i
  n : m.nf = r.nf
  z : m.zf = r.zf
  c : m.cf = r.cf
  v : m.vf = r.vf
theorem norm_at {x : Nat → Int} {i : Nat} (h : i < 32) : norm x i = x i := by
  unfold norm
  rw [List.getD_eq_getElem?_getD, List.getElem?_map, List.getElem?_range h]
  rfl
theorem ri2 {reg y : Int} {r m : RF} {q : Nat × Int} (d0 : 0 ≤ reg) (d1 : reg ≤ 30) (hq : okQ q) (h : RI reg y r m) : RI reg (lay 0 q.1 q.2) r (do6R (rw7 reg 2 q) m) := by
  refine ⟨fun i hi => ?_, h.n, h.z, h.c, h.v⟩
  show setX (norm m.x) reg (w64 (w64 q.2 * sh6 (q.1 : Int))) i = _
  rw [setX_at d0 d1, movz_ok q.1 hq.1 q.2 hq.2.1 hq.2.2, norm_at hi, h.at_ i hi]
  split <;> rfl
theorem ri3 {reg y : Int} {r m : RF} {q : Nat × Int} (d0 : 0 ≤ reg) (d1 : reg ≤ 30) (y0 : 0 ≤ y) (y1 : y < 18446744073709551616) (hq : okQ q) (h : RI reg y r m) : RI reg (lay y q.1 q.2) r (do6R (rw7 reg 3 q) m) := by
  have hg : getX (norm m.x) reg = y := by
    unfold getX
    rw [decide_eq_true (show 0 ≤ reg ∧ reg < 31 by omega)]
    show norm m.x reg.toNat = y
    rw [norm_at (by omega), h.at_ _ (by omega), if_pos (by omega)]
  refine ⟨fun i hi => ?_, h.n, h.z, h.c, h.v⟩
  show setX (norm m.x) reg (Go.bits .or .u64 (Go.bits .andNot .u64 (getX (norm m.x) reg) (w64 (65535 * sh6 (q.1 : Int)))) (w64 (w64 q.2 * sh6 (q.1 : Int)))) i = _
  rw [setX_at d0 d1, hg, movk_ok q.1 hq.1 y q.2 y0 y1 hq.2.1 hq.2.2, norm_at hi, h.at_ i hi]
  split <;> rfl
theorem run3 {reg : Int} {r : RF} (d0 : 0 ≤ reg) (d1 : reg ≤ 30) : ∀ (t : List (Nat × Int)) (y : Int) (m : RF), 0 ≤ y → y < 18446744073709551616 → (∀ q ∈ t, okQ q) → RI reg y r m → RI reg (valR t y) r (run (mkL reg 3 t) m)
  | [], y, m, y0, y1, hq, h => h
  | q :: t, y, m, y0, y1, hq, h => by
    have hk := hq q (List.mem_cons_self ..)
    obtain ⟨l0, l1⟩ := lay_in y0 y1 hk.1 hk.2.1 hk.2.2
    exact run3 d0 d1 t (lay y q.1 q.2) _ l0 l1 (fun q hm => hq q (List.mem_cons_of_mem _ hm)) (ri3 d0 d1 y0 y1 hk h)
theorem run2 {reg : Int} {r : RF} (d0 : 0 ≤ reg) (d1 : reg ≤ 30) {rows : List (Nat × Int)} (hq : ∀ q ∈ rows, okQ q) : RI reg (valR rows 0) r (run (mkL reg 2 (rowsM rows)) r) := by
  have h0 : RI reg (r.x reg.toNat) r r := ⟨fun i hi => by
    by_cases h : (i : Int) = reg
    · rw [if_pos h, show reg.toNat = i by omega]
    · rw [if_neg h], rfl, rfl, rfl, rfl⟩
  cases rows with
  | nil => exact ri2 (q := (0, 0)) d0 d1 ⟨by decide, by decide, by decide⟩ h0
  | cons q t =>
    have hk := hq q (List.mem_cons_self ..)
    obtain ⟨l0, l1⟩ := lay_in (y := 0) (by omega) (by omega) hk.1 hk.2.1 hk.2.2
    exact run3 d0 d1 t _ _ l0 l1 (fun q hm => hq q (List.mem_cons_of_mem _ hm)) (ri2 d0 d1 hk h0)
theorem okM {rows : List (Nat × Int)} (hq : ∀ q ∈ rows, okQ q) : ∀ q ∈ rowsM rows, okQ q := by
  cases rows with
  | nil => intro q h; rw [show rowsM [] = [(0, 0)] from rfl, List.mem_singleton] at h; subst h; exact ⟨by decide, by decide, by decide⟩
  | cons q t => exact hq
theorem mkL_ok {reg : Int} (d0 : 0 ≤ reg) (d1 : reg ≤ 30) : ∀ (t : List (Nat × Int)) (op : Int), (op = 2 ∨ op = 3) → (∀ q ∈ t, okQ q) → ∀ j, j < t.length → is6 ((mkL reg op t).getD j I0).op ((mkL reg op t).getD j I0).d ((mkL reg op t).getD j I0).n ((mkL reg op t).getD j I0).m ((mkL reg op t).getD j I0).a ((mkL reg op t).getD j I0).c ((mkL reg op t).getD j I0).im
  | [], _, _, _, j, hj => absurd hj (Nat.not_lt_zero j)
  | q :: t, op, ho, hq, j, hj => by
    cases j with
    | zero =>
      have hk := hq q (List.mem_cons_self ..)
      exact ⟨ho, ok_chk ho d0 d1 hk.1 hk.2.1 hk.2.2⟩
    | succ j => exact mkL_ok d0 d1 t 3 (.inr rfl) (fun q hm => hq q (List.mem_cons_of_mem _ hm)) j (by simp only [List.length_cons] at hj; omega)
theorem ok_of {op d n m a c im : Int} (h : chkV op d n m a c im = 0) : okI op d n m a c im := by
  unfold chkV at h
  by_cases h2 : okI op d n m a c im
  · exact h2
  · rw [if_neg h2] at h; omega
theorem splI_in {i : Int} {K : Nat → Prop} : ∀ {n k : Nat}, (k : Int) ≤ i → i ≤ ((k + n : Nat) : Int) → K i.toNat → splI i K n k := by
  intro n
  induction n with
  | zero => intro k h0 h1 h; rw [show i.toNat = k by omega] at h; exact h
  | succ n ih =>
    intro k h0 h1 h
    unfold splI
    by_cases hk : i = (k : Int)
    · rw [decide_eq_true hk]
      rw [show i.toNat = k by omega] at h; exact h
    · rw [decide_eq_false hk]
      exact ih (by omega) (by omega) h
theorem in31_ok {d : Int} {P : Nat → Prop} (d0 : 0 ≤ d) (d1 : d ≤ 30) (h : P d.toNat) : in31 d P := by
  unfold in31
  rw [decide_eq_true d0, decide_eq_true (show d < 31 by omega)]
  exact splI_in (by omega) (by omega) h
theorem and_low {q : Int} (q0 : 0 ≤ q) (q1 : q < 18446744073709551616) : Go.bits .and .u64 q 65535 = q % 65536 := by
  obtain ⟨n, rfl⟩ := Int.eq_ofNat_of_zero_le q0
  have e : Go.bits .and .u64 (n : Int) 65535 = ((n &&& ((2 ^ 16 - 1) * 2 ^ 0) : Nat) : Int) := nat_and .u64 n _ rfl (by show n < 18446744073709551616; omega) (by decide)
  rw [e, and_mask n 0 16]
  show ((n / 1 % 65536 * 1 : Nat) : Int) = _
  omega
theorem part_low {v : Int} (v0 : 0 ≤ v) (v1 : v < 18446744073709551616) {k : Nat} (hk : k < 4) : Go.bits .and .u64 (v.fdiv (sh6 (k : Int))) 65535 = part v k := by
  have hf : v.fdiv (sh6 (k : Int)) = v / ((2 ^ (16 * k) : Nat) : Int) := by
    rw [sh_at k hk, Int.fdiv_eq_ediv_of_nonneg _ (Int.natCast_nonneg _)]
  have h0 : 0 ≤ v / ((2 ^ (16 * k) : Nat) : Int) := Int.ediv_nonneg v0 (Int.natCast_nonneg _)
  have h1 : v / ((2 ^ (16 * k) : Nat) : Int) ≤ v := Int.ediv_le_self _ v0
  rw [hf, and_low h0 (by omega), part_at v k hk v0 v1]
theorem cnt_le (v : Int) : ∀ k, cnt v k ≤ k
  | 0 => Nat.le_refl 0
  | k + 1 => by have := cnt_le v k; unfold cnt; split <;> omega
abbrev isT : V → Prop := fun v => v = bV true
abbrev KO1 : Ex → St → Prop := ctxK Try.prog 0 p1 cd (KB isT)
abbrev KO2 : Ex → St → Prop := ctxK Try.prog 0 p2 c1 (KB isT)
theorem blt_lt {k n : Nat} (h : k < n) : Nat.blt (k + 0) n = true := by rw [Nat.blt_eq]; omega
theorem IX_ok {k n : Nat} {P : Prop} (h : k < n) (hp : P) : IX (k : Int) n P := by
  unfold IX
  rw [decide_eq_true (show (0 : Int) ≤ (k : Int) by omega), decide_eq_true (show (k : Int) < (n : Int) by omega), show (k : Int).toNat + 0 = k + 0 from rfl, blt_lt h]
  exact hp
theorem drop_at {l : List I7} {k : Nat} (h : k < l.length) : l.drop k = l.getD k I0 :: l.drop (k + 1) := by
  rw [List.drop_eq_getElem_cons h, List.getD_eq_getElem?_getD, List.getElem?_eq_getElem h]; rfl
/-- What stands where the parts are counted. -/
structure FB (reg v : Int) (b : Nat → Int) (n : Nat) (rows : List (Nat × Int)) : Prop where
  d0 : 0 ≤ reg
  d1 : reg ≤ 30
  v0 : 0 ≤ v
  v1 : v < 18446744073709551616
  inv : Inv v 4 rows
  len : n = (rowsM rows).length
  bs : ∀ j, j < n → b j = ((mkL reg 2 (rowsM rows)).getD j I0).word
section
variable {reg v : Int} {r : RF} {b : Nat → Int} {n : Nat} {rows : List (Nat × Int)}
theorem last_ok (h : FB reg v b n rows) (i : Int) : CodeB Try.prog 0 c2 (SW reg v r (run (mkL reg 2 (rowsM rows)) r) b n i) (KB isT) := by
  refine CodeB.of (evG_ok EL_ok names mixed (n := 100) ?_)
  rw [post_eq]
  have hr := run2 (r := r) h.d0 h.d1 h.inv.ok
  have hv : valR rows 0 = v := by
    rw [h.inv.val, show ((2 ^ (16 * 4) : Nat) : Int) = 18446744073709551616 from rfl]
    exact Int.emod_eq_of_lt h.v0 h.v1
  rw [hv] at hr
  have d0 := h.d0
  have d1 := h.d1
  refine in31_ok h.d0 h.d1 ?_
  rw [hr.at_ _ (by omega), if_pos (show ((reg.toNat : Nat) : Int) = reg by omega), show (v != v) = false from by simp]
  refine in31_ok h.d0 h.d1 ?_
  refine congrArg bV ?_
  rw [hr.n, hr.z, hr.c, hr.v]
  have hx : ∀ i : Nat, i < 32 → (run (mkL reg 2 (rowsM rows)) r).x i = upN r.x reg.toNat v i := fun i hi => by
    rw [hr.at_ i hi]
    unfold upN
    by_cases hid : (i : Int) = reg
    · rw [if_pos hid, show Nat.beq i reg.toNat = true by rw [show reg.toNat = i by omega]; exact Nat.beq_refl i]
    · rw [if_neg hid]
      cases hb : Nat.beq i reg.toNat with
      | true => have := Nat.eq_of_beq_eq_true hb; omega
      | false => rfl
  unfold eqR
  rw [eqN_same 31 0 fun j _ hj => hx j (by omega), hx 31 (by omega)]
  simp
theorem second (h : FB reg v b n rows) (st : St) (hz : gcSt 0 live2 st = SW reg v r r b n ((0 : Nat) : Int)) : CodeB Try.prog 0 (subAt p2 c1) st KO2 := by
  refine CodeB.lop (by kernel_rfl) (LoopB.byE EL_ok names mixed (N := 100) (fun x : RF × Nat => SW reg v r x.1 b n (x.2 : Int)) (fun x => x.2 ≤ n ∧ run ((mkL reg 2 (rowsM rows)).drop x.2) x.1 = run (mkL reg 2 (rowsM rows)) r) (fun x => n - x.2) live2 (fun x hI => ?_) st (r, 0) (by have h := gc_tells 0 live2 st; rw [hz] at h; exact h) ⟨Nat.zero_le _, rfl⟩)
  obtain ⟨m, k⟩ := x
  obtain ⟨h1, h2⟩ := hI
  have h1 : k ≤ n := h1
  have h2 : run ((mkL reg 2 (rowsM rows)).drop k) m = run (mkL reg 2 (rowsM rows)) r := h2
  have hl : (mkL reg 2 (rowsM rows)).length = n := by rw [mkL_len, h.len]
  have hn : n ≤ 5 := by
    have h3 := cnt_le v 4
    have h4 := h.inv.len
    rw [h.len]
    cases rows with
    | nil => decide
    | cons q t => show (q :: t).length ≤ 5; omega
  show evG Try.prog EL 100 (lft (subAt p2 c1)) (SW reg v r m b n (k : Int)) (fun e st => RK 0 (fun x : RF × Nat => SW reg v r x.1 b n (x.2 : Int)) (fun x => x.2 ≤ n ∧ run ((mkL reg 2 (rowsM rows)).drop x.2) x.1 = run (mkL reg 2 (rowsM rows)) r) (fun x => n - x.2) (m, k) KO2 e (gcSt 0 live2 st))
  rw [r2_eq]
  unfold r2M
  by_cases hlt : k < n
  · have c5 : IntKind.i64.wrap ((k : Int) + 1) = ((k + 1 : Nat) : Int) := by rw [wrap_i64_in (by omega) (by omega)]; omega
    have hs := mkL_ok h.d0 h.d1 (rowsM rows) 2 (.inl rfl) (okM h.inv.ok) k (by rw [← h.len]; exact hlt)
    have ho : ((mkL reg 2 (rowsM rows)).getD k I0).ok := ok_of hs.2
    have hw : 0 ≤ ((mkL reg 2 (rowsM rows)).getD k I0).word ∧ ((mkL reg 2 (rowsM rows)).getD k I0).word < 4294967296 := wordV_lt ((mkL reg 2 (rowsM rows)).getD k I0).op ((mkL reg 2 (rowsM rows)).getD k I0).d ((mkL reg 2 (rowsM rows)).getD k I0).n ((mkL reg 2 (rowsM rows)).getD k I0).m ((mkL reg 2 (rowsM rows)).getD k I0).a ((mkL reg 2 (rowsM rows)).getD k I0).c ((mkL reg 2 (rowsM rows)).getD k I0).im
    rw [show (k : Int).toNat + 0 = k from rfl, h.bs k hlt, dec_word' ho, decide_eq_true hs, decide_eq_true hw, decide_eq_true (show (k : Int) < (n : Int) by omega), c5]
    refine IX_ok hlt ?_
    rw [drop_at (by omega)] at h2
    exact RK.go (K := fun _ _ => True) (y := (do6R ((mkL reg 2 (rowsM rows)).getD k I0) m, k + 1)) rfl ⟨hlt, h2⟩ (show n - (k + 1) < n - k by omega)
  · obtain rfl : k = n := by omega
    rw [← hl, List.drop_length] at h2
    have h2 : m = run (mkL reg 2 (rowsM rows)) r := h2
    rw [decide_eq_false (Int.lt_irrefl _)]
    show KO2 (.exit 2) (SW reg v r m b k (k : Nat))
    unfold KO2
    rw [aft2, h2]
    exact last_ok h _
theorem mid_ok (h : FB reg v b n rows) : CodeB Try.prog 0 c1 (SP reg v r b n ((cnt v 4 : Nat) : Int) ((4 : Nat) : Int)) (KB isT) := by
  refine evTo_ok EL_ok names mixed (n := 100) (b := 0) (Z := fun st => gcSt 0 live2 st = SW reg v r r b n ((0 : Nat) : Int)) p2 _ _ _ (fun st hz => second h st hz) ?_
  rw [mid_eq reg v r b n _ _ isT fun st => st = SW reg v r r b n ((0 : Nat) : Int)]
  unfold midM
  have hl := h.inv.len
  have hn := h.len
  by_cases hc : cnt v 4 = 0
  · have hr : rows = [] := List.length_eq_zero_iff.1 (by rw [hl, hc])
    subst hr
    have hn : n = 1 := hn
    subst hn
    rw [hc]
    exact rfl
  · have hr : rowsM rows = rows := by
      cases rows with
      | nil => exact absurd hl.symm hc
      | cons q t => rfl
    rw [hr, hl] at hn
    have e1 : (((cnt v 4 : Nat) : Int) == 0) = false := by rw [beq_eq_false_iff_ne]; omega
    have e2 : ((n : Int) != ((cnt v 4 : Nat) : Int)) = false := by rw [hn]; simp
    rw [e1, e2]
    exact rfl
theorem first (h : FB reg v b n rows) (st : St) (hz : gcSt 0 live st = SP reg v r b n ((0 : Nat) : Int) ((0 : Nat) : Int)) : CodeB Try.prog 0 (subAt p1 cd) st KO1 := by
  refine CodeB.lop (by kernel_rfl) (LoopB.byE EL_ok names mixed (N := 100) (fun j : Nat => SP reg v r b n ((cnt v j : Nat) : Int) (j : Int)) (fun j => j ≤ 4) (fun j => 4 - j) live (fun j hj => ?_) st 0 (by have h := gc_tells 0 live st; rw [hz] at h; exact h) (by omega))
  rw [r1_eq]
  unfold r1M
  by_cases hlt : j < 4
  · have c5 : IntKind.i64.wrap ((j : Int) + 1) = ((j + 1 : Nat) : Int) := by rw [wrap_i64_in (by omega) (by omega)]; omega
    have hcl := cnt_le v j
    have c6 : IntKind.i64.wrap (((cnt v j : Nat) : Int) + 1) = ((cnt v j + 1 : Nat) : Int) := by rw [wrap_i64_in (by omega) (by omega)]; omega
    have h0 : 0 ≤ w64 (IntKind.i64.wrap (16 * (j : Int))) := by unfold w64; rw [wrap_u64]; exact Int.emod_nonneg _ (by decide)
    rw [decide_eq_true (show (j : Int) < 4 by omega), decide_eq_true h0, part_low h.v0 h.v1 hlt, c5, c6]
    by_cases hp : part v j = 0
    · rw [hp]
      refine RK.go (K := fun _ _ => True) (y := j + 1) ?_ (show j + 1 ≤ 4 by omega) (show 4 - (j + 1) < 4 - j by omega)
      rw [show cnt v (j + 1) = cnt v j from by show cnt v j + _ = _; rw [if_pos hp]; rfl]
    · rw [show (part v j != 0) = true from by rw [bne_iff_ne]; exact hp]
      refine RK.go (K := fun _ _ => True) (y := j + 1) ?_ (show j + 1 ≤ 4 by omega) (show 4 - (j + 1) < 4 - j by omega)
      rw [show cnt v (j + 1) = cnt v j + 1 from by show cnt v j + _ = _; rw [if_neg hp]]
  · obtain rfl : j = 4 := by have : j ≤ 4 := hj; omega
    rw [decide_eq_false (show ¬ ((4 : Nat) : Int) < 4 by omega)]
    show KO1 (.exit 0) (SP reg v r b n ((cnt v 4 : Nat) : Int) ((4 : Nat) : Int))
    unfold KO1
    rw [aft1]
    exact mid_ok h
end
theorem wf_u64 {x : Int} (h : (Lit.int .u64 x).wf = true) : 0 ≤ x ∧ x < 18446744073709551616 := by
  have h1 : IntKind.u64.min = 0 := by decide
  have max_u64 : IntKind.u64.max = 18446744073709551615 := by decide
  simp only [Lit.wf, Bool.and_eq_true, decide_eq_true_eq, h1, max_u64] at h
  omega
theorem law_ok (reg v : Int) (r : RF) (v0 : 0 ≤ v) (v1 : v < 18446744073709551616) : CallOk Try.prog 4 [.raw (.int .i64 reg), .raw (.int .u64 v), r.v] [] fun q _ => q = .ret (bV true) := by
  refine CallOk.mono (K := rK isT) (CallOk.fnB names (by kernel_rfl) ?_) rK_ok
  refine evTo_ok EL_ok names mixed (n := 100) (b := 0) (Z := fun st => ∃ b n rows, FB reg v b n rows ∧ gcSt 0 live st = SP reg v r b n 0 0) p1 _ _ _ (fun st ⟨b, n, rows, h, hz⟩ => first h st hz) ?_
  rw [pre_eq reg v r isT fun st => ∃ b n rows, FB reg v b n rows ∧ st = SP reg v r b n 0 0]
  unfold preM
  by_cases h0 : reg < 0
  · rw [decide_eq_true h0]; exact rfl
  · by_cases h1 : reg > 30
    · rw [decide_eq_false h0, decide_eq_true h1]; exact rfl
    · rw [decide_eq_false h0, decide_eq_false h1]
      have d0 : 0 ≤ reg := by omega
      have d1 : reg ≤ 30 := by omega
      refine ways_ok v0 v1 (fun rows hi => ?_) 4 0 [] rfl ⟨?_, rfl, fun q hq => absurd hq (List.not_mem_nil)⟩
      · refine wordsM_ok d0 d1 (rowsM rows) 2 _ 0 (.inl rfl) (okM hi.ok) fun g _ h2 => ?_
        refine ⟨g, 0 + (rowsM rows).length, rows, ⟨d0, d1, v0, v1, hi, by omega, fun j hj => ?_⟩, rfl⟩
        have h3 := h2 j (by omega)
        rw [Nat.zero_add] at h3
        exact h3
      · show (0 : Int) = v % 1
        omega
def aks : List AK := [.one (.int .i64), .one (.int .u64), .agg (List.replicate 32 (.int .u64) ++ [.bool, .bool, .bool, .bool])]
theorem law_call (args : List V) (h : argsOk aks args) : CallOk Try.prog 4 args [] fun r _ => r = .ret (.raw (.bool true)) := by
  obtain ⟨reg, r1, rfl, _, h1⟩ := argsOk_int h
  obtain ⟨v, r2, rfl, hv, h2⟩ := argsOk_int h1
  obtain ⟨us, r3, rfl, hr, h3⟩ := argsOk_agg h2
  cases argsOk_nil h3
  obtain ⟨x, nf, zf, cf, vf, _, e1⟩ := rawsOk_regs hr
  rw [e1]
  obtain ⟨v0, v1⟩ := wf_u64 hv
  exact law_ok reg v ⟨x, nf, zf, cf, vf⟩ v0 v1
end Go.Proofs.Ytalgegmcllcnmaa.labConsts
end
