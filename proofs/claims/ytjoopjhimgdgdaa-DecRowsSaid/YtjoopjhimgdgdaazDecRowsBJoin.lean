/- Parts of the proof, one behind the other. -/
import Derived.Test.YtjoopjhimgdgdaazDecRowsIDecP
import Derived.Test.YtjoopjhimgdgdaazDecRowsIIns
import Derived.Test.YtjoopjhimgdgdaazDecRowsINum
section
/- decI: it undoes words; what it tells is right. Printed by gendec.py. -/
namespace Go.Proofs.Ytjoopjhimgdgdaa.isa
open Go Go.Proofs Go.Proofs.YtjoopjhimgdgdaaRL
set_option linter.unusedVariables false
set_option linter.unusedSimpArgs false
theorem kind_of {d n m a c imm : Int} : ∀ k : Nat, 0 < k → k < 43 → okP k d n m a c imm → kindN (wordP k d n m a c imm) = k
  | 0, h, _, _ => absurd h (by omega)
  | 1, _, _, h => kind_1 h rfl
  | 2, _, _, h => kind_2 h rfl
  | 3, _, _, h => kind_3 h rfl
  | 4, _, _, h => kind_4 h rfl
  | 5, _, _, h => kind_5 h rfl
  | 6, _, _, h => kind_6 h rfl
  | 7, _, _, h => kind_7 h rfl
  | 8, _, _, h => kind_8 h rfl
  | 9, _, _, h => kind_9 h rfl
  | 10, _, _, h => kind_10 h rfl
  | 11, _, _, h => kind_11 h rfl
  | 12, _, _, h => kind_12 h rfl
  | 13, _, _, h => kind_13 h rfl
  | 14, _, _, h => kind_14 h rfl
  | 15, _, _, h => kind_15 h rfl
  | 16, _, _, h => kind_16 h rfl
  | 17, _, _, h => kind_17 h rfl
  | 18, _, _, h => kind_18 h rfl
  | 19, _, _, h => kind_19 h rfl
  | 20, _, _, h => kind_20 h rfl
  | 21, _, _, h => kind_21 h rfl
  | 22, _, _, h => kind_22 h rfl
  | 23, _, _, h => kind_23 h rfl
  | 24, _, _, h => kind_24 h rfl
  | 25, _, _, h => kind_25 h rfl
  | 26, _, _, h => kind_26 h rfl
  | 27, _, _, h => kind_27 h rfl
  | 28, _, _, h => kind_28 h rfl
  | 29, _, _, h => kind_29 h rfl
  | 30, _, _, h => kind_30 h rfl
  | 31, _, _, h => kind_31 h rfl
  | 32, _, _, h => kind_32 h rfl
  | 33, _, _, h => kind_33 h rfl
  | 34, _, _, h => kind_34 h rfl
  | 35, _, _, h => kind_35 h rfl
  | 36, _, _, h => kind_36 h rfl
  | 37, _, _, h => kind_37 h rfl
  | 38, _, _, h => kind_38 h rfl
  | 39, _, _, h => kind_39 h rfl
  | 40, _, _, h => kind_40 h rfl
  | 41, _, _, h => kind_41 h rfl
  | 42, _, _, h => kind_42 h rfl
  | k + 43, _, h, _ => absurd h (by omega)
theorem dec_of {d n m a c imm : Int} : ∀ k : Nat, 0 < k → k < 43 → okP k d n m a c imm → decF k (wordP k d n m a c imm) = ⟨(k : Nat), d, n, m, a, c, imm⟩
  | 0, h, _, _ => absurd h (by omega)
  | 1, _, _, h => dec_1 h rfl
  | 2, _, _, h => dec_2 h rfl
  | 3, _, _, h => dec_3 h rfl
  | 4, _, _, h => dec_4 h rfl
  | 5, _, _, h => dec_5 h rfl
  | 6, _, _, h => dec_6 h rfl
  | 7, _, _, h => dec_7 h rfl
  | 8, _, _, h => dec_8 h rfl
  | 9, _, _, h => dec_9 h rfl
  | 10, _, _, h => dec_10 h rfl
  | 11, _, _, h => dec_11 h rfl
  | 12, _, _, h => dec_12 h rfl
  | 13, _, _, h => dec_13 h rfl
  | 14, _, _, h => dec_14 h rfl
  | 15, _, _, h => dec_15 h rfl
  | 16, _, _, h => dec_16 h rfl
  | 17, _, _, h => dec_17 h rfl
  | 18, _, _, h => dec_18 h rfl
  | 19, _, _, h => dec_19 h rfl
  | 20, _, _, h => dec_20 h rfl
  | 21, _, _, h => dec_21 h rfl
  | 22, _, _, h => dec_22 h rfl
  | 23, _, _, h => dec_23 h rfl
  | 24, _, _, h => dec_24 h rfl
  | 25, _, _, h => dec_25 h rfl
  | 26, _, _, h => dec_26 h rfl
  | 27, _, _, h => dec_27 h rfl
  | 28, _, _, h => dec_28 h rfl
  | 29, _, _, h => dec_29 h rfl
  | 30, _, _, h => dec_30 h rfl
  | 31, _, _, h => dec_31 h rfl
  | 32, _, _, h => dec_32 h rfl
  | 33, _, _, h => dec_33 h rfl
  | 34, _, _, h => dec_34 h rfl
  | 35, _, _, h => dec_35 h rfl
  | 36, _, _, h => dec_36 h rfl
  | 37, _, _, h => dec_37 h rfl
  | 38, _, _, h => dec_38 h rfl
  | 39, _, _, h => dec_39 h rfl
  | 40, _, _, h => dec_40 h rfl
  | 41, _, _, h => dec_41 h rfl
  | 42, _, _, h => dec_42 h rfl
  | k + 43, _, h, _ => absurd h (by omega)
theorem dec_word {i : I7} (h : i.ok) (h0 : i.op ≠ 0) : decI i.word = i := by
  obtain ⟨op, d, n, m, a, c, imm⟩ := i
  obtain ⟨h1, h2⟩ := h
  dsimp only at h0 h1 h2
  obtain ⟨k, rfl⟩ := Int.eq_ofNat_of_zero_le h1.1
  have e1 : (⟨(k : Nat), d, n, m, a, c, imm⟩ : I7).word = wordP k d n m a c imm := if_pos ⟨h1, h2⟩
  have e2 : kindN (wordP k d n m a c imm) = k := kind_of k (by omega) (by omega) h2
  have e3 : decF k (wordP k d n m a c imm) = ⟨(k : Nat), d, n, m, a, c, imm⟩ := dec_of k (by omega) (by omega) h2
  rw [e1]
  unfold decI
  rw [e2, e3]
  exact if_pos ⟨by omega, ⟨h1, h2⟩, e1⟩
theorem decF_op : ∀ (k : Nat) (w : Int), k < 43 → (decF k w).op = (k : Nat)
  | 0, _, _ => rfl
  | 1, _, _ => rfl
  | 2, _, _ => rfl
  | 3, _, _ => rfl
  | 4, _, _ => rfl
  | 5, _, _ => rfl
  | 6, _, _ => rfl
  | 7, _, _ => rfl
  | 8, _, _ => rfl
  | 9, _, _ => rfl
  | 10, _, _ => rfl
  | 11, _, _ => rfl
  | 12, _, _ => rfl
  | 13, _, _ => rfl
  | 14, _, _ => rfl
  | 15, _, _ => rfl
  | 16, _, _ => rfl
  | 17, _, _ => rfl
  | 18, _, _ => rfl
  | 19, _, _ => rfl
  | 20, _, _ => rfl
  | 21, _, _ => rfl
  | 22, _, _ => rfl
  | 23, _, _ => rfl
  | 24, _, _ => rfl
  | 25, _, _ => rfl
  | 26, _, _ => rfl
  | 27, _, _ => rfl
  | 28, _, _ => rfl
  | 29, _, _ => rfl
  | 30, _, _ => rfl
  | 31, _, _ => rfl
  | 32, _, _ => rfl
  | 33, _, _ => rfl
  | 34, _, _ => rfl
  | 35, _, _ => rfl
  | 36, _, _ => rfl
  | 37, _, _ => rfl
  | 38, _, _ => rfl
  | 39, _, _ => rfl
  | 40, _, _ => rfl
  | 41, _, _ => rfl
  | 42, _, _ => rfl
  | k + 43, _, h => absurd h (by omega)
theorem ite_lt {p : Prop} [Decidable p] {a b : Nat} (ha : a < 43) (hb : b < 43) : (if p then a else b) < 43 := by
  by_cases h : p
  · rw [if_pos h]; exact ha
  · rw [if_neg h]; exact hb
theorem kind_lt (w : Int) : kindN w < 43 := by
  unfold kindN
  repeat (refine ite_lt (by omega) ?_)
  omega
end Go.Proofs.Ytjoopjhimgdgdaa.isa
end
section
/- dec.kind and dec.Ins as tables' lines. Printed by gendec.py. -/
namespace Go.Proofs.Ytjoopjhimgdgdaa.isa
open Go Go.Proofs Go.Proofs.YtjoopjhimgdgdaaRL
set_option linter.unusedVariables false
set_option linter.unusedSimpArgs false
/-- Tests one behind the other. -/
def chainG {R : Type} (br : Bool → R → R → R) (K : Nat → R) : List (Bool × Nat) → R
  | [] => K 0
  | (b, k) :: l => br b (K k) (chainG br K l)
def chainX : List (Bool × Nat) → Nat
  | [] => 0
  | (b, k) :: l => match b with
    | true => k
    | false => chainX l
theorem chain_Br {R : Type} (K : Nat → R) : ∀ l : List (Bool × Nat), chainG Br K l = K (chainX l)
  | [] => rfl
  | (true, k) :: l => rfl
  | (false, k) :: l => chain_Br K l
theorem chain_fine (K : Nat → Ans) : ∀ l : List (Bool × Nat), (chainG Ans.br K l).fine → (K (chainX l)).fine
  | [], h => h
  | (true, k) :: l, h => by
    rcases h with ⟨_, h⟩ | ⟨hb, _⟩
    · exact h
    · cases hb
  | (false, k) :: l, h => by
    rcases h with ⟨hb, _⟩ | ⟨_, h⟩
    · cases hb
    · exact chain_fine K l h
theorem chain_is (K : Nat → Ans) {r : Res} {s : Sto} : ∀ l : List (Bool × Nat), (K (chainX l)).is r s → (chainG Ans.br K l).is r s
  | [], h => h
  | (true, k) :: l, h => .inl ⟨rfl, h⟩
  | (false, k) :: l, h => .inr ⟨rfl, chain_is K l h⟩
/-- The tests of dec.kind. -/
def kindL (w : Int) : List (Bool × Nat) := [(w.fdiv 67108864 == 5, 20), (w.fdiv 67108864 == 37, 24), (w.fdiv 16777216 == 84, 21), (w.fdiv 16777216 == 180, 22), (w.fdiv 16777216 == 181, 23), (w.fdiv 8388608 == 421, 2), (w.fdiv 8388608 == 485, 3), (w.fdiv 2097152 == 1696, 42), (Go.bits .and .u32 w 4294967295 == 3573751839, 1), (Go.bits .and .u32 w 4290772992 == 2432696320, 4), (Go.bits .and .u32 w 4290772992 == 3506438144, 5), (Go.bits .and .u32 w 4290772992 == 4043309056, 6), (Go.bits .and .u32 w 4292934656 == 2332033024, 7), (Go.bits .and .u32 w 4292934656 == 3405774848, 8), (Go.bits .and .u32 w 4292934656 == 3942645760, 9), (Go.bits .and .u32 w 4292934656 == 2315255808, 10), (Go.bits .and .u32 w 4292934656 == 2852126720, 11), (Go.bits .and .u32 w 4292934656 == 3388997632, 12), (Go.bits .and .u32 w 4292902912 == 2600468480, 13), (Go.bits .and .u32 w 4292902912 == 2600501248, 14), (Go.bits .and .u32 w 4292934656 == 2596277248, 15), (Go.bits .and .u32 w 4292934656 == 2596282368, 16), (Go.bits .and .u32 w 4292934656 == 2596283392, 17), (Go.bits .and .u32 w 4292934656 == 2596284416, 18), (Go.bits .and .u32 w 4292873216 == 2592080896, 19), (Go.bits .and .u32 w 4294966303 == 3592355840, 25), (Go.bits .and .u32 w 4294966303 == 3594452992, 26), (Go.bits .and .u32 w 4294966303 == 3596550144, 27), (Go.bits .and .u32 w 4290772992 == 4181721088, 28), (Go.bits .and .u32 w 4290772992 == 4177526784, 29), (Go.bits .and .u32 w 4290772992 == 960495616, 30), (Go.bits .and .u32 w 4292934656 == 4167071744, 31), (Go.bits .and .u32 w 4292934656 == 4162877440, 32), (Go.bits .and .u32 w 4294966272 == 3370122240, 33), (Go.bits .and .u32 w 4294966272 == 3365927936, 34), (Go.bits .and .u32 w 4294966272 == 3361700864, 35), (Go.bits .and .u32 w 4292934656 == 3355474944, 36), (Go.bits .and .u32 w 4294963455 == 3573756095, 37), (Go.bits .and .u32 w 4294967295 == 3573758879, 38), (Go.bits .and .u32 w 4294967295 == 3573759967, 39), (Go.bits .and .u32 w 4294967264 == 3574299424, 40), (Go.bits .and .u32 w 4294967264 == 3574297888, 41)]
theorem and_1 {w : Int} (lo n : Nat) (m : Int) (hm : m = (((2 ^ n - 1) * 2 ^ lo : Nat) : Int)) (hl : n + lo ≤ 32) (h0 : 0 ≤ w) (h1 : w < 4294967296) : Go.bits .and .u32 w m = w / ((2 ^ lo : Nat) : Int) % ((2 ^ n : Nat) : Int) * ((2 ^ lo : Nat) : Int) := by
  subst hm
  obtain ⟨a, rfl⟩ := Int.eq_ofNat_of_zero_le h0
  have hmm : (2 ^ n - 1) * 2 ^ lo < 2 ^ 32 := by
    have h1 : (2 ^ n - 1) * 2 ^ lo < 2 ^ n * 2 ^ lo := Nat.mul_lt_mul_of_pos_right (by have := Nat.two_pow_pos n; omega) (Nat.two_pow_pos lo)
    rw [← Nat.pow_add] at h1
    exact Nat.lt_of_lt_of_le h1 (Nat.pow_le_pow_right (by omega) hl)
  rw [nat_and .u32 a _ rfl (by show a < 2 ^ 32; omega) hmm, and_mask, Int.natCast_mul, Int.natCast_emod, Int.natCast_ediv]
theorem and_2 {w : Int} (lo1 n1 lo2 n2 : Nat) (m : Int) (hm : m = (((2 ^ n1 - 1) * 2 ^ lo1 + (2 ^ n2 - 1) * 2 ^ lo2 : Nat) : Int)) (hl : n1 + lo1 ≤ 32) (hl2 : n2 + lo2 ≤ lo1) (h0 : 0 ≤ w) (h1 : w < 4294967296) :
    Go.bits .and .u32 w m = w / ((2 ^ lo1 : Nat) : Int) % ((2 ^ n1 : Nat) : Int) * ((2 ^ lo1 : Nat) : Int) + w / ((2 ^ lo2 : Nat) : Int) % ((2 ^ n2 : Nat) : Int) * ((2 ^ lo2 : Nat) : Int) := by
  subst hm
  obtain ⟨a, rfl⟩ := Int.eq_ofNat_of_zero_le h0
  have p2 : 2 ^ n2 * 2 ^ lo2 ≤ 2 ^ lo1 := by rw [← Nat.pow_add]; exact Nat.pow_le_pow_right (by omega) hl2
  have q2 : ∀ x, x < 2 ^ n2 → x * 2 ^ lo2 < 2 ^ lo1 := fun x hx => Nat.lt_of_lt_of_le (Nat.mul_lt_mul_of_pos_right hx (Nat.two_pow_pos lo2)) p2
  have p1 : 2 ^ n1 * 2 ^ lo1 ≤ 2 ^ 32 := by rw [← Nat.pow_add]; exact Nat.pow_le_pow_right (by omega) hl
  have q1 : ∀ x, x < 2 ^ n1 → x * 2 ^ lo1 + 2 ^ lo1 ≤ 2 ^ 32 := fun x hx => by
    have : (x + 1) * 2 ^ lo1 ≤ 2 ^ n1 * 2 ^ lo1 := Nat.mul_le_mul_right _ hx
    rw [Nat.add_mul, Nat.one_mul] at this
    omega
  have e1 : (2 ^ n1 - 1) * 2 ^ lo1 + (2 ^ n2 - 1) * 2 ^ lo2 = (2 ^ n1 - 1) * 2 ^ lo1 ||| (2 ^ n2 - 1) * 2 ^ lo2 := by
    rw [Nat.mul_comm (2 ^ n1 - 1)]
    exact Nat.two_pow_add_eq_or_of_lt (q2 _ (by have := Nat.two_pow_pos n2; omega)) _
  have hmm : (2 ^ n1 - 1) * 2 ^ lo1 + (2 ^ n2 - 1) * 2 ^ lo2 < 2 ^ 32 := by
    have h1 := q1 (2 ^ n1 - 1) (by have := Nat.two_pow_pos n1; omega)
    have h2 := q2 (2 ^ n2 - 1) (by have := Nat.two_pow_pos n2; omega)
    omega
  rw [nat_and .u32 a _ rfl (by show a < 2 ^ 32; omega) hmm, e1, Nat.and_or_distrib_left, and_mask, and_mask]
  have e2 : a / 2 ^ lo1 % 2 ^ n1 * 2 ^ lo1 ||| a / 2 ^ lo2 % 2 ^ n2 * 2 ^ lo2 = a / 2 ^ lo1 % 2 ^ n1 * 2 ^ lo1 + a / 2 ^ lo2 % 2 ^ n2 * 2 ^ lo2 := by
    rw [Nat.mul_comm (a / 2 ^ lo1 % 2 ^ n1)]
    exact (Nat.two_pow_add_eq_or_of_lt (q2 _ (Nat.mod_lt _ (Nat.two_pow_pos n2))) _).symm
  rw [e2, Int.natCast_add, Int.natCast_mul, Int.natCast_mul, Int.natCast_emod, Int.natCast_ediv, Int.natCast_emod, Int.natCast_ediv]
theorem chain_step {b : Bool} {p : Prop} [Decidable p] {k x : Nat} {l : List (Bool × Nat)} (h : b = decide p) (hx : chainX l = x) : chainX ((b, k) :: l) = if p then k else x := by
  subst h hx
  by_cases hp : p
  · rw [decide_eq_true hp, if_pos hp]; rfl
  · rw [decide_eq_false hp, if_neg hp]; rfl
theorem kindL_eq {w : Int} (h0 : 0 ≤ w) (h1 : w < 4294967296) : chainX (kindL w) = kindN w := by
  unfold kindL kindN
  refine chain_step (by rw [beq_dec, Int.fdiv_eq_ediv_of_nonneg _ (by omega)]) ?_
  refine chain_step (by rw [beq_dec, Int.fdiv_eq_ediv_of_nonneg _ (by omega)]) ?_
  refine chain_step (by rw [beq_dec, Int.fdiv_eq_ediv_of_nonneg _ (by omega)]) ?_
  refine chain_step (by rw [beq_dec, Int.fdiv_eq_ediv_of_nonneg _ (by omega)]) ?_
  refine chain_step (by rw [beq_dec, Int.fdiv_eq_ediv_of_nonneg _ (by omega)]) ?_
  refine chain_step (by rw [beq_dec, Int.fdiv_eq_ediv_of_nonneg _ (by omega)]) ?_
  refine chain_step (by rw [beq_dec, Int.fdiv_eq_ediv_of_nonneg _ (by omega)]) ?_
  refine chain_step (by rw [beq_dec, Int.fdiv_eq_ediv_of_nonneg _ (by omega)]) ?_
  refine chain_step (by rw [beq_dec, and_1 0 32 4294967295 rfl (by omega) h0 h1]; exact decide_eq_decide.2 ⟨fun h => by (try simp only [Nat.reducePow] at h); omega, fun h => by (try simp only [Nat.reducePow]); omega⟩) ?_
  refine chain_step (by rw [beq_dec, and_1 22 10 4290772992 rfl (by omega) h0 h1]; exact decide_eq_decide.2 ⟨fun h => by (try simp only [Nat.reducePow] at h); omega, fun h => by (try simp only [Nat.reducePow]); omega⟩) ?_
  refine chain_step (by rw [beq_dec, and_1 22 10 4290772992 rfl (by omega) h0 h1]; exact decide_eq_decide.2 ⟨fun h => by (try simp only [Nat.reducePow] at h); omega, fun h => by (try simp only [Nat.reducePow]); omega⟩) ?_
  refine chain_step (by rw [beq_dec, and_1 22 10 4290772992 rfl (by omega) h0 h1]; exact decide_eq_decide.2 ⟨fun h => by (try simp only [Nat.reducePow] at h); omega, fun h => by (try simp only [Nat.reducePow]); omega⟩) ?_
  refine chain_step (by rw [beq_dec, and_2 21 11 10 6 4292934656 rfl (by omega) (by omega) h0 h1]; exact decide_eq_decide.2 ⟨fun h => by (try simp only [Nat.reducePow] at h); omega, fun h => by (try simp only [Nat.reducePow]); omega⟩) ?_
  refine chain_step (by rw [beq_dec, and_2 21 11 10 6 4292934656 rfl (by omega) (by omega) h0 h1]; exact decide_eq_decide.2 ⟨fun h => by (try simp only [Nat.reducePow] at h); omega, fun h => by (try simp only [Nat.reducePow]); omega⟩) ?_
  refine chain_step (by rw [beq_dec, and_2 21 11 10 6 4292934656 rfl (by omega) (by omega) h0 h1]; exact decide_eq_decide.2 ⟨fun h => by (try simp only [Nat.reducePow] at h); omega, fun h => by (try simp only [Nat.reducePow]); omega⟩) ?_
  refine chain_step (by rw [beq_dec, and_2 21 11 10 6 4292934656 rfl (by omega) (by omega) h0 h1]; exact decide_eq_decide.2 ⟨fun h => by (try simp only [Nat.reducePow] at h); omega, fun h => by (try simp only [Nat.reducePow]); omega⟩) ?_
  refine chain_step (by rw [beq_dec, and_2 21 11 10 6 4292934656 rfl (by omega) (by omega) h0 h1]; exact decide_eq_decide.2 ⟨fun h => by (try simp only [Nat.reducePow] at h); omega, fun h => by (try simp only [Nat.reducePow]); omega⟩) ?_
  refine chain_step (by rw [beq_dec, and_2 21 11 10 6 4292934656 rfl (by omega) (by omega) h0 h1]; exact decide_eq_decide.2 ⟨fun h => by (try simp only [Nat.reducePow] at h); omega, fun h => by (try simp only [Nat.reducePow]); omega⟩) ?_
  refine chain_step (by rw [beq_dec, and_2 21 11 15 1 4292902912 rfl (by omega) (by omega) h0 h1]; exact decide_eq_decide.2 ⟨fun h => by (try simp only [Nat.reducePow] at h); omega, fun h => by (try simp only [Nat.reducePow]); omega⟩) ?_
  refine chain_step (by rw [beq_dec, and_2 21 11 15 1 4292902912 rfl (by omega) (by omega) h0 h1]; exact decide_eq_decide.2 ⟨fun h => by (try simp only [Nat.reducePow] at h); omega, fun h => by (try simp only [Nat.reducePow]); omega⟩) ?_
  refine chain_step (by rw [beq_dec, and_2 21 11 10 6 4292934656 rfl (by omega) (by omega) h0 h1]; exact decide_eq_decide.2 ⟨fun h => by (try simp only [Nat.reducePow] at h); omega, fun h => by (try simp only [Nat.reducePow]); omega⟩) ?_
  refine chain_step (by rw [beq_dec, and_2 21 11 10 6 4292934656 rfl (by omega) (by omega) h0 h1]; exact decide_eq_decide.2 ⟨fun h => by (try simp only [Nat.reducePow] at h); omega, fun h => by (try simp only [Nat.reducePow]); omega⟩) ?_
  refine chain_step (by rw [beq_dec, and_2 21 11 10 6 4292934656 rfl (by omega) (by omega) h0 h1]; exact decide_eq_decide.2 ⟨fun h => by (try simp only [Nat.reducePow] at h); omega, fun h => by (try simp only [Nat.reducePow]); omega⟩) ?_
  refine chain_step (by rw [beq_dec, and_2 21 11 10 6 4292934656 rfl (by omega) (by omega) h0 h1]; exact decide_eq_decide.2 ⟨fun h => by (try simp only [Nat.reducePow] at h); omega, fun h => by (try simp only [Nat.reducePow]); omega⟩) ?_
  refine chain_step (by rw [beq_dec, and_2 21 11 10 2 4292873216 rfl (by omega) (by omega) h0 h1]; exact decide_eq_decide.2 ⟨fun h => by (try simp only [Nat.reducePow] at h); omega, fun h => by (try simp only [Nat.reducePow]); omega⟩) ?_
  refine chain_step (by rw [beq_dec, and_2 10 22 0 5 4294966303 rfl (by omega) (by omega) h0 h1]; exact decide_eq_decide.2 ⟨fun h => by (try simp only [Nat.reducePow] at h); omega, fun h => by (try simp only [Nat.reducePow]); omega⟩) ?_
  refine chain_step (by rw [beq_dec, and_2 10 22 0 5 4294966303 rfl (by omega) (by omega) h0 h1]; exact decide_eq_decide.2 ⟨fun h => by (try simp only [Nat.reducePow] at h); omega, fun h => by (try simp only [Nat.reducePow]); omega⟩) ?_
  refine chain_step (by rw [beq_dec, and_2 10 22 0 5 4294966303 rfl (by omega) (by omega) h0 h1]; exact decide_eq_decide.2 ⟨fun h => by (try simp only [Nat.reducePow] at h); omega, fun h => by (try simp only [Nat.reducePow]); omega⟩) ?_
  refine chain_step (by rw [beq_dec, and_1 22 10 4290772992 rfl (by omega) h0 h1]; exact decide_eq_decide.2 ⟨fun h => by (try simp only [Nat.reducePow] at h); omega, fun h => by (try simp only [Nat.reducePow]); omega⟩) ?_
  refine chain_step (by rw [beq_dec, and_1 22 10 4290772992 rfl (by omega) h0 h1]; exact decide_eq_decide.2 ⟨fun h => by (try simp only [Nat.reducePow] at h); omega, fun h => by (try simp only [Nat.reducePow]); omega⟩) ?_
  refine chain_step (by rw [beq_dec, and_1 22 10 4290772992 rfl (by omega) h0 h1]; exact decide_eq_decide.2 ⟨fun h => by (try simp only [Nat.reducePow] at h); omega, fun h => by (try simp only [Nat.reducePow]); omega⟩) ?_
  refine chain_step (by rw [beq_dec, and_2 21 11 10 6 4292934656 rfl (by omega) (by omega) h0 h1]; exact decide_eq_decide.2 ⟨fun h => by (try simp only [Nat.reducePow] at h); omega, fun h => by (try simp only [Nat.reducePow]); omega⟩) ?_
  refine chain_step (by rw [beq_dec, and_2 21 11 10 6 4292934656 rfl (by omega) (by omega) h0 h1]; exact decide_eq_decide.2 ⟨fun h => by (try simp only [Nat.reducePow] at h); omega, fun h => by (try simp only [Nat.reducePow]); omega⟩) ?_
  refine chain_step (by rw [beq_dec, and_1 10 22 4294966272 rfl (by omega) h0 h1]; exact decide_eq_decide.2 ⟨fun h => by (try simp only [Nat.reducePow] at h); omega, fun h => by (try simp only [Nat.reducePow]); omega⟩) ?_
  refine chain_step (by rw [beq_dec, and_1 10 22 4294966272 rfl (by omega) h0 h1]; exact decide_eq_decide.2 ⟨fun h => by (try simp only [Nat.reducePow] at h); omega, fun h => by (try simp only [Nat.reducePow]); omega⟩) ?_
  refine chain_step (by rw [beq_dec, and_1 10 22 4294966272 rfl (by omega) h0 h1]; exact decide_eq_decide.2 ⟨fun h => by (try simp only [Nat.reducePow] at h); omega, fun h => by (try simp only [Nat.reducePow]); omega⟩) ?_
  refine chain_step (by rw [beq_dec, and_2 21 11 10 6 4292934656 rfl (by omega) (by omega) h0 h1]; exact decide_eq_decide.2 ⟨fun h => by (try simp only [Nat.reducePow] at h); omega, fun h => by (try simp only [Nat.reducePow]); omega⟩) ?_
  refine chain_step (by rw [beq_dec, and_2 12 20 0 8 4294963455 rfl (by omega) (by omega) h0 h1]; exact decide_eq_decide.2 ⟨fun h => by (try simp only [Nat.reducePow] at h); omega, fun h => by (try simp only [Nat.reducePow]); omega⟩) ?_
  refine chain_step (by rw [beq_dec, and_1 0 32 4294967295 rfl (by omega) h0 h1]; exact decide_eq_decide.2 ⟨fun h => by (try simp only [Nat.reducePow] at h); omega, fun h => by (try simp only [Nat.reducePow]); omega⟩) ?_
  refine chain_step (by rw [beq_dec, and_1 0 32 4294967295 rfl (by omega) h0 h1]; exact decide_eq_decide.2 ⟨fun h => by (try simp only [Nat.reducePow] at h); omega, fun h => by (try simp only [Nat.reducePow]); omega⟩) ?_
  refine chain_step (by rw [beq_dec, and_1 5 27 4294967264 rfl (by omega) h0 h1]; exact decide_eq_decide.2 ⟨fun h => by (try simp only [Nat.reducePow] at h); omega, fun h => by (try simp only [Nat.reducePow]); omega⟩) ?_
  refine chain_step (by rw [beq_dec, and_1 5 27 4294967264 rfl (by omega) h0 h1]; exact decide_eq_decide.2 ⟨fun h => by (try simp only [Nat.reducePow] at h); omega, fun h => by (try simp only [Nat.reducePow]); omega⟩) ?_
  rfl
def fE (w p m : Int) : Int := IntKind.i64.wrap (Go.bits .and .u32 (w.fdiv p) m)
def farE (w p m q : Int) : Int := IntKind.i64.wrap (4 * (IntKind.i64.wrap (IntKind.i64.wrap (IntKind.u64.wrap (Go.bits .and .u32 (w.fdiv p) m)) * q)).fdiv q)
theorem fE_eq {w : Int} (lo n : Nat) (p m M : Int) (hp : p = ((2 ^ lo : Nat) : Int)) (hm : m = ((2 ^ n - 1 : Nat) : Int)) (hM : M = ((2 ^ n : Nat) : Int)) (hn : n ≤ 32) (h0 : 0 ≤ w) (h1 : w < 4294967296) : fE w p m = w / p % M := by
  have hp0 : 0 < p := by subst hp; exact Int.natCast_pos.2 (Nat.two_pow_pos lo)
  have hM0 : 0 < M := by subst hM; exact Int.natCast_pos.2 (Nat.two_pow_pos n)
  have hM1 : M ≤ 4294967296 := by
    subst hM
    have : 2 ^ n ≤ 2 ^ 32 := Nat.pow_le_pow_right (by omega) hn
    omega
  have h2 : 0 ≤ w / p := Int.ediv_nonneg h0 (by omega)
  have h3 : w / p ≤ w := Int.ediv_le_self _ h0
  have h4 := Int.emod_nonneg (w / p) (show M ≠ 0 by omega)
  have h5 := Int.emod_lt_of_pos (w / p) hM0
  unfold fE
  subst hm
  rw [Int.fdiv_eq_ediv_of_nonneg _ (by omega), and_u32 n h2 (by omega) hn]
  subst hM
  rw [wrap_i64_in (by omega) (by omega)]
theorem farE_eq {w : Int} (lo n : Nat) (p m M q : Int) (hp : p = ((2 ^ lo : Nat) : Int)) (hm : m = ((2 ^ n - 1 : Nat) : Int)) (hM : M = ((2 ^ n : Nat) : Int)) (hn : n ≤ 32) (hq : (M = 67108864 ∧ q = 274877906944) ∨ (M = 524288 ∧ q = 35184372088832)) (h0 : 0 ≤ w) (h1 : w < 4294967296) : farE w p m q = 4 * sx M (w / p % M) := by
  have hp0 : 0 < p := by subst hp; exact Int.natCast_pos.2 (Nat.two_pow_pos lo)
  have h2 : 0 ≤ w / p := Int.ediv_nonneg h0 (by omega)
  have h3 : w / p ≤ w := Int.ediv_le_self _ h0
  unfold farE
  subst hm
  rw [Int.fdiv_eq_ediv_of_nonneg (b := p) _ (by omega), and_u32 n h2 (by omega) hn, ← hM]
  rcases hq with ⟨rfl, rfl⟩ | ⟨rfl, rfl⟩
  · have h5 := Int.emod_lt_of_pos (w / p) (show (0 : Int) < 67108864 by omega)
    have h6 := Int.emod_nonneg (w / p) (show (67108864 : Int) ≠ 0 by omega)
    generalize w / p % 67108864 = x at h5 h6
    rw [IntWalk.u64_in x (by omega), wrap_i64_in (n := x) (by omega) (by omega), Int.fdiv_eq_ediv_of_nonneg _ (by omega), wrap_i64 (x * _)]
    unfold sx
    have h7 : ((x * 274877906944 + 9223372036854775808) % 18446744073709551616 - 9223372036854775808) / 274877906944 = if x ≥ 67108864 / 2 then x - 67108864 else x := by split <;> omega
    rw [h7, wrap_i64_in (by split <;> omega) (by split <;> omega)]
  · have h5 := Int.emod_lt_of_pos (w / p) (show (0 : Int) < 524288 by omega)
    have h6 := Int.emod_nonneg (w / p) (show (524288 : Int) ≠ 0 by omega)
    generalize w / p % 524288 = x at h5 h6
    rw [IntWalk.u64_in x (by omega), wrap_i64_in (n := x) (by omega) (by omega), Int.fdiv_eq_ediv_of_nonneg _ (by omega), wrap_i64 (x * _)]
    unfold sx
    have h7 : ((x * 35184372088832 + 9223372036854775808) % 18446744073709551616 - 9223372036854775808) / 35184372088832 = if x ≥ 524288 / 2 then x - 524288 else x := by split <;> omega
    rw [h7, wrap_i64_in (by split <;> omega) (by split <;> omega)]
/-- The fields as the code takes them. -/
def decE (k : Nat) (w : Int) : I7 := match k with
  | 0 => ⟨0, 0, 0, 0, 0, 0, 0⟩
  | 1 => ⟨1, 0, 0, 0, 0, 0, 0⟩
  | 2 => ⟨2, fE w 1 31, 0, fE w 2097152 3, 0, 0, fE w 32 65535⟩
  | 3 => ⟨3, fE w 1 31, 0, fE w 2097152 3, 0, 0, fE w 32 65535⟩
  | 4 => ⟨4, fE w 1 31, fE w 32 31, 0, 0, 0, fE w 1024 4095⟩
  | 5 => ⟨5, fE w 1 31, fE w 32 31, 0, 0, 0, fE w 1024 4095⟩
  | 6 => ⟨6, fE w 1 31, fE w 32 31, 0, 0, 0, fE w 1024 4095⟩
  | 7 => ⟨7, fE w 1 31, fE w 32 31, fE w 65536 31, 0, 0, 0⟩
  | 8 => ⟨8, fE w 1 31, fE w 32 31, fE w 65536 31, 0, 0, 0⟩
  | 9 => ⟨9, fE w 1 31, fE w 32 31, fE w 65536 31, 0, 0, 0⟩
  | 10 => ⟨10, fE w 1 31, fE w 32 31, fE w 65536 31, 0, 0, 0⟩
  | 11 => ⟨11, fE w 1 31, fE w 32 31, fE w 65536 31, 0, 0, 0⟩
  | 12 => ⟨12, fE w 1 31, fE w 32 31, fE w 65536 31, 0, 0, 0⟩
  | 13 => ⟨13, fE w 1 31, fE w 32 31, fE w 65536 31, fE w 1024 31, 0, 0⟩
  | 14 => ⟨14, fE w 1 31, fE w 32 31, fE w 65536 31, fE w 1024 31, 0, 0⟩
  | 15 => ⟨15, fE w 1 31, fE w 32 31, fE w 65536 31, 0, 0, 0⟩
  | 16 => ⟨16, fE w 1 31, fE w 32 31, fE w 65536 31, 0, 0, 0⟩
  | 17 => ⟨17, fE w 1 31, fE w 32 31, fE w 65536 31, 0, 0, 0⟩
  | 18 => ⟨18, fE w 1 31, fE w 32 31, fE w 65536 31, 0, 0, 0⟩
  | 19 => ⟨19, fE w 1 31, fE w 32 31, fE w 65536 31, 0, fE w 4096 15, 0⟩
  | 20 => ⟨20, 0, 0, 0, 0, 0, farE w 1 67108863 274877906944⟩
  | 21 => ⟨21, 0, 0, 0, 0, fE w 1 15, farE w 32 524287 35184372088832⟩
  | 22 => ⟨22, fE w 1 31, 0, 0, 0, 0, farE w 32 524287 35184372088832⟩
  | 23 => ⟨23, fE w 1 31, 0, 0, 0, 0, farE w 32 524287 35184372088832⟩
  | 24 => ⟨24, 0, 0, 0, 0, 0, farE w 1 67108863 274877906944⟩
  | 25 => ⟨25, 0, fE w 32 31, 0, 0, 0, 0⟩
  | 26 => ⟨26, 0, fE w 32 31, 0, 0, 0, 0⟩
  | 27 => ⟨27, 0, fE w 32 31, 0, 0, 0, 0⟩
  | 28 => ⟨28, fE w 1 31, fE w 32 31, 0, 0, 0, IntKind.i64.wrap (8 * fE w 1024 4095)⟩
  | 29 => ⟨29, fE w 1 31, fE w 32 31, 0, 0, 0, IntKind.i64.wrap (8 * fE w 1024 4095)⟩
  | 30 => ⟨30, fE w 1 31, fE w 32 31, 0, 0, 0, fE w 1024 4095⟩
  | 31 => ⟨31, fE w 1 31, fE w 32 31, fE w 65536 31, 0, 0, 0⟩
  | 32 => ⟨32, fE w 1 31, fE w 32 31, fE w 65536 31, 0, 0, 0⟩
  | 33 => ⟨33, fE w 1 31, fE w 32 31, 0, 0, 0, 0⟩
  | 34 => ⟨34, fE w 1 31, fE w 32 31, 0, 0, 0, 0⟩
  | 35 => ⟨35, fE w 1 31, fE w 32 31, 0, 0, 0, 0⟩
  | 36 => ⟨36, fE w 65536 31, fE w 32 31, fE w 1 31, 0, 0, 0⟩
  | 37 => ⟨37, 0, 0, 0, 0, 0, 0⟩
  | 38 => ⟨38, 0, 0, 0, 0, 0, 0⟩
  | 39 => ⟨39, 0, 0, 0, 0, 0, 0⟩
  | 40 => ⟨40, 0, fE w 1 31, 0, 0, 0, 0⟩
  | 41 => ⟨41, 0, fE w 1 31, 0, 0, 0, 0⟩
  | 42 => ⟨42, 0, 0, 0, 0, 0, fE w 32 65535⟩
  | _ => ⟨0, 0, 0, 0, 0, 0, 0⟩
theorem decE_eq {w : Int} (h0 : 0 ≤ w) (h1 : w < 4294967296) : ∀ k : Nat, k < 43 → k ≠ 37 → decE k w = decF k w
  | 0, _, _ => by
    show (⟨_, _, _, _, _, _, _⟩ : I7) = ⟨_, _, _, _, _, _, _⟩
    exact I7.ext rfl rfl rfl rfl rfl rfl rfl
  | 1, _, _ => by
    show (⟨_, _, _, _, _, _, _⟩ : I7) = ⟨_, _, _, _, _, _, _⟩
    exact I7.ext rfl rfl rfl rfl rfl rfl rfl
  | 2, _, _ => by
    show (⟨_, _, _, _, _, _, _⟩ : I7) = ⟨_, _, _, _, _, _, _⟩
    exact I7.ext rfl (by rw [fE_eq 0 5 1 31 32 rfl rfl rfl (by omega) h0 h1, Int.ediv_one]) rfl (by rw [fE_eq 21 2 2097152 3 4 rfl rfl rfl (by omega) h0 h1]) rfl rfl (by rw [fE_eq 5 16 32 65535 65536 rfl rfl rfl (by omega) h0 h1])
  | 3, _, _ => by
    show (⟨_, _, _, _, _, _, _⟩ : I7) = ⟨_, _, _, _, _, _, _⟩
    exact I7.ext rfl (by rw [fE_eq 0 5 1 31 32 rfl rfl rfl (by omega) h0 h1, Int.ediv_one]) rfl (by rw [fE_eq 21 2 2097152 3 4 rfl rfl rfl (by omega) h0 h1]) rfl rfl (by rw [fE_eq 5 16 32 65535 65536 rfl rfl rfl (by omega) h0 h1])
  | 4, _, _ => by
    show (⟨_, _, _, _, _, _, _⟩ : I7) = ⟨_, _, _, _, _, _, _⟩
    exact I7.ext rfl (by rw [fE_eq 0 5 1 31 32 rfl rfl rfl (by omega) h0 h1, Int.ediv_one]) (by rw [fE_eq 5 5 32 31 32 rfl rfl rfl (by omega) h0 h1]) rfl rfl rfl (by rw [fE_eq 10 12 1024 4095 4096 rfl rfl rfl (by omega) h0 h1])
  | 5, _, _ => by
    show (⟨_, _, _, _, _, _, _⟩ : I7) = ⟨_, _, _, _, _, _, _⟩
    exact I7.ext rfl (by rw [fE_eq 0 5 1 31 32 rfl rfl rfl (by omega) h0 h1, Int.ediv_one]) (by rw [fE_eq 5 5 32 31 32 rfl rfl rfl (by omega) h0 h1]) rfl rfl rfl (by rw [fE_eq 10 12 1024 4095 4096 rfl rfl rfl (by omega) h0 h1])
  | 6, _, _ => by
    show (⟨_, _, _, _, _, _, _⟩ : I7) = ⟨_, _, _, _, _, _, _⟩
    exact I7.ext rfl (by rw [fE_eq 0 5 1 31 32 rfl rfl rfl (by omega) h0 h1, Int.ediv_one]) (by rw [fE_eq 5 5 32 31 32 rfl rfl rfl (by omega) h0 h1]) rfl rfl rfl (by rw [fE_eq 10 12 1024 4095 4096 rfl rfl rfl (by omega) h0 h1])
  | 7, _, _ => by
    show (⟨_, _, _, _, _, _, _⟩ : I7) = ⟨_, _, _, _, _, _, _⟩
    exact I7.ext rfl (by rw [fE_eq 0 5 1 31 32 rfl rfl rfl (by omega) h0 h1, Int.ediv_one]) (by rw [fE_eq 5 5 32 31 32 rfl rfl rfl (by omega) h0 h1]) (by rw [fE_eq 16 5 65536 31 32 rfl rfl rfl (by omega) h0 h1]) rfl rfl rfl
  | 8, _, _ => by
    show (⟨_, _, _, _, _, _, _⟩ : I7) = ⟨_, _, _, _, _, _, _⟩
    exact I7.ext rfl (by rw [fE_eq 0 5 1 31 32 rfl rfl rfl (by omega) h0 h1, Int.ediv_one]) (by rw [fE_eq 5 5 32 31 32 rfl rfl rfl (by omega) h0 h1]) (by rw [fE_eq 16 5 65536 31 32 rfl rfl rfl (by omega) h0 h1]) rfl rfl rfl
  | 9, _, _ => by
    show (⟨_, _, _, _, _, _, _⟩ : I7) = ⟨_, _, _, _, _, _, _⟩
    exact I7.ext rfl (by rw [fE_eq 0 5 1 31 32 rfl rfl rfl (by omega) h0 h1, Int.ediv_one]) (by rw [fE_eq 5 5 32 31 32 rfl rfl rfl (by omega) h0 h1]) (by rw [fE_eq 16 5 65536 31 32 rfl rfl rfl (by omega) h0 h1]) rfl rfl rfl
  | 10, _, _ => by
    show (⟨_, _, _, _, _, _, _⟩ : I7) = ⟨_, _, _, _, _, _, _⟩
    exact I7.ext rfl (by rw [fE_eq 0 5 1 31 32 rfl rfl rfl (by omega) h0 h1, Int.ediv_one]) (by rw [fE_eq 5 5 32 31 32 rfl rfl rfl (by omega) h0 h1]) (by rw [fE_eq 16 5 65536 31 32 rfl rfl rfl (by omega) h0 h1]) rfl rfl rfl
  | 11, _, _ => by
    show (⟨_, _, _, _, _, _, _⟩ : I7) = ⟨_, _, _, _, _, _, _⟩
    exact I7.ext rfl (by rw [fE_eq 0 5 1 31 32 rfl rfl rfl (by omega) h0 h1, Int.ediv_one]) (by rw [fE_eq 5 5 32 31 32 rfl rfl rfl (by omega) h0 h1]) (by rw [fE_eq 16 5 65536 31 32 rfl rfl rfl (by omega) h0 h1]) rfl rfl rfl
  | 12, _, _ => by
    show (⟨_, _, _, _, _, _, _⟩ : I7) = ⟨_, _, _, _, _, _, _⟩
    exact I7.ext rfl (by rw [fE_eq 0 5 1 31 32 rfl rfl rfl (by omega) h0 h1, Int.ediv_one]) (by rw [fE_eq 5 5 32 31 32 rfl rfl rfl (by omega) h0 h1]) (by rw [fE_eq 16 5 65536 31 32 rfl rfl rfl (by omega) h0 h1]) rfl rfl rfl
  | 13, _, _ => by
    show (⟨_, _, _, _, _, _, _⟩ : I7) = ⟨_, _, _, _, _, _, _⟩
    exact I7.ext rfl (by rw [fE_eq 0 5 1 31 32 rfl rfl rfl (by omega) h0 h1, Int.ediv_one]) (by rw [fE_eq 5 5 32 31 32 rfl rfl rfl (by omega) h0 h1]) (by rw [fE_eq 16 5 65536 31 32 rfl rfl rfl (by omega) h0 h1]) (by rw [fE_eq 10 5 1024 31 32 rfl rfl rfl (by omega) h0 h1]) rfl rfl
  | 14, _, _ => by
    show (⟨_, _, _, _, _, _, _⟩ : I7) = ⟨_, _, _, _, _, _, _⟩
    exact I7.ext rfl (by rw [fE_eq 0 5 1 31 32 rfl rfl rfl (by omega) h0 h1, Int.ediv_one]) (by rw [fE_eq 5 5 32 31 32 rfl rfl rfl (by omega) h0 h1]) (by rw [fE_eq 16 5 65536 31 32 rfl rfl rfl (by omega) h0 h1]) (by rw [fE_eq 10 5 1024 31 32 rfl rfl rfl (by omega) h0 h1]) rfl rfl
  | 15, _, _ => by
    show (⟨_, _, _, _, _, _, _⟩ : I7) = ⟨_, _, _, _, _, _, _⟩
    exact I7.ext rfl (by rw [fE_eq 0 5 1 31 32 rfl rfl rfl (by omega) h0 h1, Int.ediv_one]) (by rw [fE_eq 5 5 32 31 32 rfl rfl rfl (by omega) h0 h1]) (by rw [fE_eq 16 5 65536 31 32 rfl rfl rfl (by omega) h0 h1]) rfl rfl rfl
  | 16, _, _ => by
    show (⟨_, _, _, _, _, _, _⟩ : I7) = ⟨_, _, _, _, _, _, _⟩
    exact I7.ext rfl (by rw [fE_eq 0 5 1 31 32 rfl rfl rfl (by omega) h0 h1, Int.ediv_one]) (by rw [fE_eq 5 5 32 31 32 rfl rfl rfl (by omega) h0 h1]) (by rw [fE_eq 16 5 65536 31 32 rfl rfl rfl (by omega) h0 h1]) rfl rfl rfl
  | 17, _, _ => by
    show (⟨_, _, _, _, _, _, _⟩ : I7) = ⟨_, _, _, _, _, _, _⟩
    exact I7.ext rfl (by rw [fE_eq 0 5 1 31 32 rfl rfl rfl (by omega) h0 h1, Int.ediv_one]) (by rw [fE_eq 5 5 32 31 32 rfl rfl rfl (by omega) h0 h1]) (by rw [fE_eq 16 5 65536 31 32 rfl rfl rfl (by omega) h0 h1]) rfl rfl rfl
  | 18, _, _ => by
    show (⟨_, _, _, _, _, _, _⟩ : I7) = ⟨_, _, _, _, _, _, _⟩
    exact I7.ext rfl (by rw [fE_eq 0 5 1 31 32 rfl rfl rfl (by omega) h0 h1, Int.ediv_one]) (by rw [fE_eq 5 5 32 31 32 rfl rfl rfl (by omega) h0 h1]) (by rw [fE_eq 16 5 65536 31 32 rfl rfl rfl (by omega) h0 h1]) rfl rfl rfl
  | 19, _, _ => by
    show (⟨_, _, _, _, _, _, _⟩ : I7) = ⟨_, _, _, _, _, _, _⟩
    exact I7.ext rfl (by rw [fE_eq 0 5 1 31 32 rfl rfl rfl (by omega) h0 h1, Int.ediv_one]) (by rw [fE_eq 5 5 32 31 32 rfl rfl rfl (by omega) h0 h1]) (by rw [fE_eq 16 5 65536 31 32 rfl rfl rfl (by omega) h0 h1]) rfl (by rw [fE_eq 12 4 4096 15 16 rfl rfl rfl (by omega) h0 h1]) rfl
  | 20, _, _ => by
    show (⟨_, _, _, _, _, _, _⟩ : I7) = ⟨_, _, _, _, _, _, _⟩
    exact I7.ext rfl rfl rfl rfl rfl rfl (by rw [farE_eq 0 26 1 67108863 67108864 274877906944 rfl rfl rfl (by omega) (by omega) h0 h1, Int.ediv_one])
  | 21, _, _ => by
    show (⟨_, _, _, _, _, _, _⟩ : I7) = ⟨_, _, _, _, _, _, _⟩
    exact I7.ext rfl rfl rfl rfl rfl (by rw [fE_eq 0 4 1 15 16 rfl rfl rfl (by omega) h0 h1, Int.ediv_one]) (by rw [farE_eq 5 19 32 524287 524288 35184372088832 rfl rfl rfl (by omega) (by omega) h0 h1])
  | 22, _, _ => by
    show (⟨_, _, _, _, _, _, _⟩ : I7) = ⟨_, _, _, _, _, _, _⟩
    exact I7.ext rfl (by rw [fE_eq 0 5 1 31 32 rfl rfl rfl (by omega) h0 h1, Int.ediv_one]) rfl rfl rfl rfl (by rw [farE_eq 5 19 32 524287 524288 35184372088832 rfl rfl rfl (by omega) (by omega) h0 h1])
  | 23, _, _ => by
    show (⟨_, _, _, _, _, _, _⟩ : I7) = ⟨_, _, _, _, _, _, _⟩
    exact I7.ext rfl (by rw [fE_eq 0 5 1 31 32 rfl rfl rfl (by omega) h0 h1, Int.ediv_one]) rfl rfl rfl rfl (by rw [farE_eq 5 19 32 524287 524288 35184372088832 rfl rfl rfl (by omega) (by omega) h0 h1])
  | 24, _, _ => by
    show (⟨_, _, _, _, _, _, _⟩ : I7) = ⟨_, _, _, _, _, _, _⟩
    exact I7.ext rfl rfl rfl rfl rfl rfl (by rw [farE_eq 0 26 1 67108863 67108864 274877906944 rfl rfl rfl (by omega) (by omega) h0 h1, Int.ediv_one])
  | 25, _, _ => by
    show (⟨_, _, _, _, _, _, _⟩ : I7) = ⟨_, _, _, _, _, _, _⟩
    exact I7.ext rfl rfl (by rw [fE_eq 5 5 32 31 32 rfl rfl rfl (by omega) h0 h1]) rfl rfl rfl rfl
  | 26, _, _ => by
    show (⟨_, _, _, _, _, _, _⟩ : I7) = ⟨_, _, _, _, _, _, _⟩
    exact I7.ext rfl rfl (by rw [fE_eq 5 5 32 31 32 rfl rfl rfl (by omega) h0 h1]) rfl rfl rfl rfl
  | 27, _, _ => by
    show (⟨_, _, _, _, _, _, _⟩ : I7) = ⟨_, _, _, _, _, _, _⟩
    exact I7.ext rfl rfl (by rw [fE_eq 5 5 32 31 32 rfl rfl rfl (by omega) h0 h1]) rfl rfl rfl rfl
  | 28, _, _ => by
    show (⟨_, _, _, _, _, _, _⟩ : I7) = ⟨_, _, _, _, _, _, _⟩
    exact I7.ext rfl (by rw [fE_eq 0 5 1 31 32 rfl rfl rfl (by omega) h0 h1, Int.ediv_one]) (by rw [fE_eq 5 5 32 31 32 rfl rfl rfl (by omega) h0 h1]) rfl rfl rfl (by rw [fE_eq 10 12 1024 4095 4096 rfl rfl rfl (by omega) h0 h1, wrap_i64_in (n := 8 * (w / 1024 % 4096)) (by omega) (by omega)])
  | 29, _, _ => by
    show (⟨_, _, _, _, _, _, _⟩ : I7) = ⟨_, _, _, _, _, _, _⟩
    exact I7.ext rfl (by rw [fE_eq 0 5 1 31 32 rfl rfl rfl (by omega) h0 h1, Int.ediv_one]) (by rw [fE_eq 5 5 32 31 32 rfl rfl rfl (by omega) h0 h1]) rfl rfl rfl (by rw [fE_eq 10 12 1024 4095 4096 rfl rfl rfl (by omega) h0 h1, wrap_i64_in (n := 8 * (w / 1024 % 4096)) (by omega) (by omega)])
  | 30, _, _ => by
    show (⟨_, _, _, _, _, _, _⟩ : I7) = ⟨_, _, _, _, _, _, _⟩
    exact I7.ext rfl (by rw [fE_eq 0 5 1 31 32 rfl rfl rfl (by omega) h0 h1, Int.ediv_one]) (by rw [fE_eq 5 5 32 31 32 rfl rfl rfl (by omega) h0 h1]) rfl rfl rfl (by rw [fE_eq 10 12 1024 4095 4096 rfl rfl rfl (by omega) h0 h1])
  | 31, _, _ => by
    show (⟨_, _, _, _, _, _, _⟩ : I7) = ⟨_, _, _, _, _, _, _⟩
    exact I7.ext rfl (by rw [fE_eq 0 5 1 31 32 rfl rfl rfl (by omega) h0 h1, Int.ediv_one]) (by rw [fE_eq 5 5 32 31 32 rfl rfl rfl (by omega) h0 h1]) (by rw [fE_eq 16 5 65536 31 32 rfl rfl rfl (by omega) h0 h1]) rfl rfl rfl
  | 32, _, _ => by
    show (⟨_, _, _, _, _, _, _⟩ : I7) = ⟨_, _, _, _, _, _, _⟩
    exact I7.ext rfl (by rw [fE_eq 0 5 1 31 32 rfl rfl rfl (by omega) h0 h1, Int.ediv_one]) (by rw [fE_eq 5 5 32 31 32 rfl rfl rfl (by omega) h0 h1]) (by rw [fE_eq 16 5 65536 31 32 rfl rfl rfl (by omega) h0 h1]) rfl rfl rfl
  | 33, _, _ => by
    show (⟨_, _, _, _, _, _, _⟩ : I7) = ⟨_, _, _, _, _, _, _⟩
    exact I7.ext rfl (by rw [fE_eq 0 5 1 31 32 rfl rfl rfl (by omega) h0 h1, Int.ediv_one]) (by rw [fE_eq 5 5 32 31 32 rfl rfl rfl (by omega) h0 h1]) rfl rfl rfl rfl
  | 34, _, _ => by
    show (⟨_, _, _, _, _, _, _⟩ : I7) = ⟨_, _, _, _, _, _, _⟩
    exact I7.ext rfl (by rw [fE_eq 0 5 1 31 32 rfl rfl rfl (by omega) h0 h1, Int.ediv_one]) (by rw [fE_eq 5 5 32 31 32 rfl rfl rfl (by omega) h0 h1]) rfl rfl rfl rfl
  | 35, _, _ => by
    show (⟨_, _, _, _, _, _, _⟩ : I7) = ⟨_, _, _, _, _, _, _⟩
    exact I7.ext rfl (by rw [fE_eq 0 5 1 31 32 rfl rfl rfl (by omega) h0 h1, Int.ediv_one]) (by rw [fE_eq 5 5 32 31 32 rfl rfl rfl (by omega) h0 h1]) rfl rfl rfl rfl
  | 36, _, _ => by
    show (⟨_, _, _, _, _, _, _⟩ : I7) = ⟨_, _, _, _, _, _, _⟩
    exact I7.ext rfl (by rw [fE_eq 16 5 65536 31 32 rfl rfl rfl (by omega) h0 h1]) (by rw [fE_eq 5 5 32 31 32 rfl rfl rfl (by omega) h0 h1]) (by rw [fE_eq 0 5 1 31 32 rfl rfl rfl (by omega) h0 h1, Int.ediv_one]) rfl rfl rfl
  | 37, _, h => absurd rfl h
  | 38, _, _ => by
    show (⟨_, _, _, _, _, _, _⟩ : I7) = ⟨_, _, _, _, _, _, _⟩
    exact I7.ext rfl rfl rfl rfl rfl rfl rfl
  | 39, _, _ => by
    show (⟨_, _, _, _, _, _, _⟩ : I7) = ⟨_, _, _, _, _, _, _⟩
    exact I7.ext rfl rfl rfl rfl rfl rfl rfl
  | 40, _, _ => by
    show (⟨_, _, _, _, _, _, _⟩ : I7) = ⟨_, _, _, _, _, _, _⟩
    exact I7.ext rfl rfl (by rw [fE_eq 0 5 1 31 32 rfl rfl rfl (by omega) h0 h1, Int.ediv_one]) rfl rfl rfl rfl
  | 41, _, _ => by
    show (⟨_, _, _, _, _, _, _⟩ : I7) = ⟨_, _, _, _, _, _, _⟩
    exact I7.ext rfl rfl (by rw [fE_eq 0 5 1 31 32 rfl rfl rfl (by omega) h0 h1, Int.ediv_one]) rfl rfl rfl rfl
  | 42, _, _ => by
    show (⟨_, _, _, _, _, _, _⟩ : I7) = ⟨_, _, _, _, _, _, _⟩
    exact I7.ext rfl rfl rfl rfl rfl rfl (by rw [fE_eq 5 16 32 65535 65536 rfl rfl rfl (by omega) h0 h1])
  | k + 43, h, _ => absurd h (by omega)
def udfE (w : Int) : V := insV 0 0 0 0 0 0 (IntKind.i64.wrap (Go.bits .and .u32 w 65535))
theorem udfE_eq {w : Int} (h0 : 0 ≤ w) (h1 : w < 4294967296) : udfE w = (udf w).v := by
  have h := fE_eq (w := w) 0 16 1 65535 65536 rfl rfl rfl (by omega) h0 h1
  unfold fE at h
  rw [Int.fdiv_eq_ediv_of_nonneg _ (by omega), Int.ediv_one] at h
  unfold udfE udf I7.v
  rw [h]
def leafM (w : Int) (i : I7) : Option V := Br (chkV i.op i.d i.n i.m i.a i.c i.im == 0) (Br (i.word == w) (some i.v) (some (udfE w))) (some (udfE w))
def leafK (w : Int) (k : Nat) : Option V := match k with
  | 0 => Br (0 == w) (some (udfE w)) (some (udfE w))
  | 37 => none
  | k => leafM w (decE k w)
def kindA : List V → Sto → Option Ans := fun args s => match args with
  | [.raw (.int .u32 w)] => some (chainG Ans.br (fun k => match k with
    | 37 => .no
    | k => .one (.ret (.raw (.int .i64 (k : Nat)))) s) (kindL w))
  | _ => none
set_option maxRecDepth 1000000 in
theorem kind_run (w : Int) : runI Try.prog noE 60 15 [.raw (.int .u32 w)] = chainG Br (fun k => some (.raw (.int .i64 (k : Nat)))) (kindL w) := by kernel_rfl
theorem kind_call (w : Int) : CallOk Try.prog 15 [.raw (.int .u32 w)] [] fun r _ => r = .ret (.raw (.int .i64 (chainX (kindL w) : Nat))) := runI_ok noE_ok names mixed (n := 60) (by rw [kind_run, chain_Br])
theorem kindA_ok {E : Eh} (hE : EOk Try.prog E) : EOk Try.prog (addE 15 kindA E) := by
  refine addE_ok hE fun args s a h hf => ?_
  unfold kindA at h
  split at h
  · rename_i w
    cases h
    have h1 := chain_fine _ _ hf
    refine ((kind_call w).anywhere (s := s) ⟨trivial, trivial⟩ trivial).mono fun r s' ⟨h2, h3⟩ => chain_is _ _ ?_
    subst h2 h3
    generalize chainX (kindL w) = k at h1 ⊢
    split at h1
    · exact h1.elim
    · exact ⟨rfl, rfl⟩
  · cases h
noncomputable def EK : Eh := addE 15 kindA (specE 12 wordG noE)
theorem EK_ok : EOk Try.prog EK := kindA_ok (wordG_ok noE_ok)
set_option maxRecDepth 1000000 in
theorem ins_run (w : Int) : runI Try.prog EK 80 7 [.raw (.int .u32 w)] = chainG Br (leafK w) (kindL w) := by kernel_rfl
noncomputable def EW1 : Eh := specE 12 wordG noE
theorem EW1_ok : EOk Try.prog EW1 := wordG_ok noE_ok
set_option maxRecDepth 1000000 in
theorem bar_run_0 : runI Try.prog EW1 80 7 [.raw (.int .u32 3573756095)] = some (decI 3573756095).v := by kernel_rfl
set_option maxRecDepth 1000000 in
theorem bar_run_1 : runI Try.prog EW1 80 7 [.raw (.int .u32 3573756351)] = some (decI 3573756351).v := by kernel_rfl
set_option maxRecDepth 1000000 in
theorem bar_run_2 : runI Try.prog EW1 80 7 [.raw (.int .u32 3573756607)] = some (decI 3573756607).v := by kernel_rfl
set_option maxRecDepth 1000000 in
theorem bar_run_3 : runI Try.prog EW1 80 7 [.raw (.int .u32 3573756863)] = some (decI 3573756863).v := by kernel_rfl
set_option maxRecDepth 1000000 in
theorem bar_run_4 : runI Try.prog EW1 80 7 [.raw (.int .u32 3573757119)] = some (decI 3573757119).v := by kernel_rfl
set_option maxRecDepth 1000000 in
theorem bar_run_5 : runI Try.prog EW1 80 7 [.raw (.int .u32 3573757375)] = some (decI 3573757375).v := by kernel_rfl
set_option maxRecDepth 1000000 in
theorem bar_run_6 : runI Try.prog EW1 80 7 [.raw (.int .u32 3573757631)] = some (decI 3573757631).v := by kernel_rfl
set_option maxRecDepth 1000000 in
theorem bar_run_7 : runI Try.prog EW1 80 7 [.raw (.int .u32 3573757887)] = some (decI 3573757887).v := by kernel_rfl
set_option maxRecDepth 1000000 in
theorem bar_run_8 : runI Try.prog EW1 80 7 [.raw (.int .u32 3573758143)] = some (decI 3573758143).v := by kernel_rfl
set_option maxRecDepth 1000000 in
theorem bar_run_9 : runI Try.prog EW1 80 7 [.raw (.int .u32 3573758399)] = some (decI 3573758399).v := by kernel_rfl
set_option maxRecDepth 1000000 in
theorem bar_run_10 : runI Try.prog EW1 80 7 [.raw (.int .u32 3573758655)] = some (decI 3573758655).v := by kernel_rfl
set_option maxRecDepth 1000000 in
theorem bar_run_11 : runI Try.prog EW1 80 7 [.raw (.int .u32 3573758911)] = some (decI 3573758911).v := by kernel_rfl
set_option maxRecDepth 1000000 in
theorem bar_run_12 : runI Try.prog EW1 80 7 [.raw (.int .u32 3573759167)] = some (decI 3573759167).v := by kernel_rfl
set_option maxRecDepth 1000000 in
theorem bar_run_13 : runI Try.prog EW1 80 7 [.raw (.int .u32 3573759423)] = some (decI 3573759423).v := by kernel_rfl
set_option maxRecDepth 1000000 in
theorem bar_run_14 : runI Try.prog EW1 80 7 [.raw (.int .u32 3573759679)] = some (decI 3573759679).v := by kernel_rfl
set_option maxRecDepth 1000000 in
theorem bar_run_15 : runI Try.prog EW1 80 7 [.raw (.int .u32 3573759935)] = some (decI 3573759935).v := by kernel_rfl
theorem ite_ne {p : Prop} [Decidable p] {a b : Nat} (ha : a ≠ 37) (hb : b ≠ 37) : (if p then a else b) ≠ 37 := by
  by_cases h : p
  · rw [if_pos h]; exact ha
  · rw [if_neg h]; exact hb
theorem ins_call {w : Int} (h0 : 0 ≤ w) (h1 : w < 4294967296) : CallOk Try.prog 7 [.raw (.int .u32 w)] [] fun r _ => r = .ret (decI w).v := by
  by_cases hk : kindN w = 37
  · have h37 : w / 4096 = 872499 ∧ w % 256 = 191 := Decidable.byContradiction fun hn => absurd hk (by
      unfold kindN
      repeat (refine ite_ne (by omega) ?_)
      rw [if_neg hn]
      repeat (refine ite_ne (by omega) ?_)
      omega)
    rcases (show w = 3573756095 ∨ w = 3573756351 ∨ w = 3573756607 ∨ w = 3573756863 ∨ w = 3573757119 ∨ w = 3573757375 ∨ w = 3573757631 ∨ w = 3573757887 ∨ w = 3573758143 ∨ w = 3573758399 ∨ w = 3573758655 ∨ w = 3573758911 ∨ w = 3573759167 ∨ w = 3573759423 ∨ w = 3573759679 ∨ w = 3573759935 by omega) with rfl | rfl | rfl | rfl | rfl | rfl | rfl | rfl | rfl | rfl | rfl | rfl | rfl | rfl | rfl | rfl
    · exact runI_ok EW1_ok names mixed (n := 80) bar_run_0
    · exact runI_ok EW1_ok names mixed (n := 80) bar_run_1
    · exact runI_ok EW1_ok names mixed (n := 80) bar_run_2
    · exact runI_ok EW1_ok names mixed (n := 80) bar_run_3
    · exact runI_ok EW1_ok names mixed (n := 80) bar_run_4
    · exact runI_ok EW1_ok names mixed (n := 80) bar_run_5
    · exact runI_ok EW1_ok names mixed (n := 80) bar_run_6
    · exact runI_ok EW1_ok names mixed (n := 80) bar_run_7
    · exact runI_ok EW1_ok names mixed (n := 80) bar_run_8
    · exact runI_ok EW1_ok names mixed (n := 80) bar_run_9
    · exact runI_ok EW1_ok names mixed (n := 80) bar_run_10
    · exact runI_ok EW1_ok names mixed (n := 80) bar_run_11
    · exact runI_ok EW1_ok names mixed (n := 80) bar_run_12
    · exact runI_ok EW1_ok names mixed (n := 80) bar_run_13
    · exact runI_ok EW1_ok names mixed (n := 80) bar_run_14
    · exact runI_ok EW1_ok names mixed (n := 80) bar_run_15
  · refine runI_ok EK_ok names mixed (n := 80) ?_
    rw [ins_run, chain_Br, kindL_eq h0 h1]
    have hlt := kind_lt w
    unfold decI
    by_cases h : kindN w = 0
    · rw [if_neg (fun hh => hh.1 h), h]
      show Br (0 == w) (some (udfE w)) (some (udfE w)) = _
      rw [Br_same, udfE_eq h0 h1]
    · have e : leafK w (kindN w) = leafM w (decE (kindN w) w) := by
        generalize kindN w = k at hk h
        match k, hk, h with
        | 0, _, h => exact absurd rfl h
        | 37, h, _ => exact absurd rfl h
        | k + 1, hq, _ =>
          unfold leafK
          split
          · rename_i h3; exact absurd h3 (by omega)
          · rename_i h3; exact absurd h3 hq
          · rfl
      rw [e, decE_eq h0 h1 _ hlt hk]
      unfold leafM
      by_cases c1 : (decF (kindN w) w).ok
      · have c2 : chkV (decF (kindN w) w).op (decF (kindN w) w).d (decF (kindN w) w).n (decF (kindN w) w).m (decF (kindN w) w).a (decF (kindN w) w).c (decF (kindN w) w).im = 0 := if_pos c1
        rw [c2]
        by_cases c3 : (decF (kindN w) w).word = w
        · rw [if_pos ⟨h, c1, c3⟩]
          show Br ((decF (kindN w) w).word == w) _ _ = _
          rw [c3, beq_self_eq_true]; rfl
        · rw [if_neg (fun hh => c3 hh.2.2)]
          show Br ((decF (kindN w) w).word == w) _ _ = _
          rw [beq_dec, Br_if, udfE_eq h0 h1]
          exact if_neg c3
      · have c2 : chkV (decF (kindN w) w).op (decF (kindN w) w).d (decF (kindN w) w).n (decF (kindN w) w).m (decF (kindN w) w).a (decF (kindN w) w).c (decF (kindN w) w).im = 1 := if_neg c1
        rw [c2, if_neg (fun hh => c1 hh.2.1), udfE_eq h0 h1]; rfl
def decA : List V → Sto → Option Ans := fun args s => match args with
  | [.raw (.int .u32 w)] => some (.br (decide (0 ≤ w ∧ w < 4294967296)) (.one (.ret (decI w).v) s) .no)
  | _ => none
theorem decA_ok {E : Eh} (hE : EOk Try.prog E) : EOk Try.prog (addE 7 decA E) := by
  refine addE_ok hE fun args s a h hf => ?_
  unfold decA at h
  split at h
  · rename_i w
    cases h
    rcases hf with ⟨hb, _⟩ | ⟨_, hf⟩
    · have h2 := of_decide_eq_true hb
      exact ((ins_call h2.1 h2.2).anywhere (s := s) ⟨trivial, trivial⟩ (insV_bd ..)).mono fun r s' h3 => .inl ⟨hb, h3⟩
    · exact hf.elim
  · cases h
end Go.Proofs.Ytjoopjhimgdgdaa.isa
end
section
/- Ranges over functions, by what is known of the function. -/
set_option linter.unusedVariables false
set_option linter.unusedSimpArgs false
namespace Go.Proofs.Ytjoopjhimgdgdaa.decRows
open Go Go.Proofs Go.Proofs.YtjoopjhimgdgdaaRL
theorem rng_ok {P : Program} {b : Nat} {g : Operand} {ps : Array Tmp} {asg body : Code} {n : Nat} {e : List (Nat × V)} {s : Sto} {K : Ex → St → Prop} {v : V} {f : FuncId} {first cap : List V} (hg : getT e g = some v) (hv : v.nf = .fn (.func f) first cap) (hf : Nat.blt f P.funcs.size = true)
    (h : CallOk P f (first ++ [.yld s.length] ++ cap) (s ++ [.lp e n ps asg body none]) fun r s2 => (∃ vr, r = .ret vr) ∧ ∃ e' n' ps' a' b' pend, s2[s.length]? = some (.lp e' n' ps' a' b' pend) ∧ ((pend = none ∧ K .normal ⟨n, e, s2.set s.length .no⟩) ∨ (pend = some .ret ∧ K .ret ⟨n, e, s2.set s.length .no⟩))) :
    CodeB P b (.rangeFunc g ps asg body) ⟨n, e, s⟩ K := by
  refine CodeB.of (range_sound (R := Prop) (no := False) (T := fun p => p) (fun h => h) (C := fun f args s K => CallOk P f args s K) (fun f args s K h => CallOk.tg h) ?_)
  unfold rfL
  refine Wi.mk (a := v) hg ?_
  simp only [hv, hf, flA_eq]
  refine h.mono fun r s2 => ?_
  rintro ⟨⟨vr, rfl⟩, e', n', ps', a', b', pend, h1, h2⟩
  simp only [h1]
  rcases h2 with ⟨rfl, h2⟩ | ⟨rfl, h2⟩
  · exact h2
  · exact h2
/-- A state with these temporaries alone; the store as it is. -/
def keepE (e : List (Nat × V)) : List Nat → List (Nat × V)
  | [] => []
  | t :: ts => match find e t with
    | some v => (t, v) :: keepE e ts
    | none => keepE e ts
def keepS (live : List Nat) (st : St) : St := ⟨st.n, keepE st.t live, st.s⟩
theorem find_keep {e : List (Nat × V)} : ∀ {l : List Nat} {t : Nat} {v : V}, find (keepE e l) t = some v → find e t = some v := by
  intro l
  induction l with
  | nil => intro t v h; cases h
  | cons x l ih =>
    intro t v h
    unfold keepE at h
    split at h
    · rename_i u hu
      simp only [find] at h
      split at h
      · rename_i hb
        cases h
        rw [← Nat.eq_of_beq_eq_true hb]; exact hu
      · exact ih h
    · exact ih h
theorem keep_tells (b : Nat) (live : List Nat) (st : St) : Tells b st (keepS live st) :=
  Tells.conv rfl rfl rfl (fun ρ w _ t v' h => ⟨v', find_keep h, rfl, fun h => h⟩) fun ρ w h1 h2 => ⟨h1, h2⟩
section
variable {P : Program} {b : Nat} {c : Code} {K : Ex → St → Prop}
/-- A loop by rounds that are computed, the store told as it is. -/
theorem byKeep {D : Eh} (hD : EOk P D) (hn : namesOk P = true) (hm : P.follows .mixedOrders = true) {N : Nat} {α : Type} (S : α → St) (I : α → Prop) (μ : α → Nat) (live : List Nat)
    (round : ∀ x, I x → evG P D N c (S x) fun e st => RK b S I μ x K e (keepS live st)) (st0 : St) (x0 : α) (ht : Tells b st0 (S x0)) (hi : I x0) : LoopB P b c st0 K := by
  refine LoopB.byG S I μ (fun x hx => ?_) st0 ⟨x0, ht, hi⟩
  refine (CodeB.of (evG_ok hD hn hm (round x hx))).mono fun e s he => ?_
  cases e
  · obtain ⟨y, h1, h2⟩ := he
    exact ⟨y, (keep_tells b live s).trans h1, h2⟩
  · exact ⟨_, keep_tells b live s, he⟩
  · exact ⟨_, keep_tells b live s, he⟩
  · exact ⟨_, keep_tells b live s, he⟩
  · exact he.elim
end
end Go.Proofs.Ytjoopjhimgdgdaa.decRows
end
section
/- dec.Bytes: the walk. -/
set_option linter.unusedVariables false
set_option linter.unusedSimpArgs false
set_option maxRecDepth 1000000
namespace Go.Proofs.Ytjoopjhimgdgdaa.decRows
open Go Go.Proofs Go.Proofs.YtjoopjhimgdgdaaRL Go.Proofs.Ytjoopjhimgdgdaa.isa
abbrev bV (b : Bool) : V := .raw (.bool b)
abbrev nilV : V := .raw (.slice none 0 0)
abbrev rK (K : V → Prop) : Res → Sto → Prop := fun r _ => match r with | .ret v => K v | .pan _ => False
theorem rK_ok {u : V} : ∀ (r : Res) (s : Sto), rK (fun v => v = u) r s → r = .ret u
  | .ret v, s, h => congrArg Res.ret h
  | .pan v, s, h => h.elim
def rp : Code → Array Tmp
  | .rangeFunc _ ps _ _ => ps
  | _ => #[]
def ra : Code → Code
  | .rangeFunc _ _ a _ => a
  | c => c
def rbd : Code → Code
  | .rangeFunc _ _ _ b => b
  | c => c
abbrev ap (f : Nat → Int) (n : Nat) (w : Int) : Nat → Int := fun j => match Nat.blt j n with
  | true => f j
  | false => [w].getD (Nat.sub j n) 0
def IX (k : Int) (n N : Nat) (P : Prop) : Prop := Br (decide (0 ≤ k)) (Br (decide (k < n)) (Br (Nat.blt (k.toNat + 0) N) P False) False) False
namespace byt
noncomputable def EB : Eh := addE 7 decA noE
theorem EB_ok : EOk Try.prog EB := decA_ok noE_ok
noncomputable abbrev cd : Code := codeOf Try.prog 14
noncomputable abbrev cu : Code := codeOf Try.prog 29
noncomputable def p1 : List Nat := pathTo 5 cd
noncomputable def c1 : Code := subAt (p1.dropLast.dropLast.dropLast ++ [0]) cd
def pr : List Nat := [0,1,0,2]
noncomputable abbrev rc : Code := subAt pr c1
noncomputable def q1 : List Nat := pathTo 1 cu
def live : List Nat := [0,4,5]
def liveR : List Nat := [6,52]
def liveU : List Nat := [0,5,6,7]
abbrev byE (g : Nat → Int) (N : Nat) (t : TypeId) : Ent := .arr .ro [.int .u8 g] N t
def S0 (g : Nat → Int) (m N cap : Nat) (t : TypeId) (i : Int) : St := ⟨60, [(0, .sle 0 1 0 m cap), (4, nilV), (5, .raw (.int .i64 i))], [byE g N t]⟩
def S1 (g : Nat → Int) (m N cap : Nat) (t : TypeId) (h : Nat → Int) (q : Nat) (i : Int) : St := ⟨60, [(0, .sle 0 1 0 m cap), (4, .lse 2 1 1 0 q), (5, .raw (.int .i64 i))], [byE g N t, .no, .arr (.grow 1) [.int .u32 h] q 22]⟩
def tm : List (Nat × V) := [(6, .ptr 3 0), (52, .fn (.func 29) [] [.ptr 4 0])]
def sR (g : Nat → Int) (N : Nat) (t : TypeId) (h : Nat → Int) (q : Nat) (out : V) (ex : Sto) : Sto := [byE g N t, .no, .arr (.grow 1) [.int .u32 h] q 22, .own [out] 38, .own [.lse 2 1 1 0 q] 33] ++ ex
noncomputable def LP (pend : Option Code) : Ent := .lp tm 60 (rp rc) (ra rc) (rbd rc) pend
noncomputable def oA (g : Nat → Int) (N : Nat) (t : TypeId) (h : Nat → Int) (q : Nat) : Sto := sR g N t h q nilV [LP none]
noncomputable def oB (g : Nat → Int) (N : Nat) (t : TypeId) (h : Nat → Int) (q : Nat) (C : InsC) (k : Nat) : Sto := sR g N t h q (.lse 7 6 7 0 k) [LP none, .no, .arr (.grow 6) C.cols k 25]
def SU (s : Sto) (q : Nat) (k : Int) : St := ⟨19, [(0, .yld 5), (5, .lse 2 1 1 0 q), (6, .raw (.int .i64 q)), (7, .raw (.int .i64 k))], s⟩
def apC (C : InsC) (k : Nat) (i : I7) : InsC := ⟨ap C.op k i.op, ap C.d k i.d, ap C.n k i.n, ap C.m k i.m, ap C.a k i.a, ap C.c k i.c, ap C.im k i.im⟩
def oneC (i : I7) : InsC := ⟨fun j => [i.op].getD j 0, fun j => [i.d].getD j 0, fun j => [i.n].getD j 0, fun j => [i.m].getD j 0, fun j => [i.a].getD j 0, fun j => [i.c].getD j 0, fun j => [i.im].getD j 0⟩
abbrev w1 (i : Int) : Int := IntKind.i64.wrap i
def or4 (a b c d : Int) : Int := Go.bits .or .u32 (Go.bits .or .u32 (Go.bits .or .u32 (IntKind.u32.wrap a) (IntKind.u32.wrap (IntKind.u32.wrap b * 256))) (IntKind.u32.wrap (IntKind.u32.wrap c * 65536))) (IntKind.u32.wrap (IntKind.u32.wrap d * 16777216))
def wdM (g : Nat → Int) (i : Int) : Int := or4 (g (i.toNat + 0)) (g ((w1 (i + 1)).toNat + 0)) (g ((w1 (i + 2)).toNat + 0)) (g ((w1 (i + 3)).toNat + 0))
abbrev KB (K : Res → Sto → Prop) : Ex → St → Prop := bodyK False Try.prog (funcOf Try.prog 14) K
section
variable (g : Nat → Int) (m N cap : Nat) (t : TypeId) (h : Nat → Int) (q : Nat) (i : Int)
theorem pre_eq (K : Res → Sto → Prop) (Z : St → Prop) : evTo Try.prog EB 100 1 (fun st => Z (gcSt 1 live st)) p1 cd ⟨(funcOf Try.prog 14).ntmps, zipArgs 0 [.sle 0 1 0 m cap], [byE g N t]⟩ (KB K) =
    Br ((m : Int).tmod 4 != 0) (K (.ret (.tup [nilV, .raw (.int .i64 6)])) [byE g N t]) (Z (S0 g m N cap t 0)) := by kernel_rfl
def rM (P X : Prop) : Prop := Br (decide (i < (m : Nat))) (IX i m N (IX (w1 (i + 1)) m N (IX (w1 (i + 2)) m N (IX (w1 (i + 3)) m N P)))) X
theorem r_0 (K : Ex → St → Prop) : evG Try.prog EB 100 (lft (subAt p1 cd)) (S0 g m N cap t i) (fun e st => K e (gcSt 1 live st)) =
    rM m N i (K .normal (S1 g m N cap t (fun j => [wdM g i].getD j 0) 1 (w1 (i + 4)))) (K (.exit 0) (S0 g m N cap t i)) := by kernel_rfl
theorem r_1 (K : Ex → St → Prop) : evG Try.prog EB 100 (lft (subAt p1 cd)) (S1 g m N cap t h q i) (fun e st => K e (gcSt 1 live st)) =
    rM m N i (Br (Nat.ble q q) (Br (growOk (q + 1) 4) (K .normal (S1 g m N cap t (ap h q (wdM g i)) (q + 1) (w1 (i + 4)))) False) False) (K (.exit 0) (S1 g m N cap t h q i)) := by kernel_rfl
theorem aft1 (K : Ex → St → Prop) (st : St) : ctxK Try.prog 1 p1 cd K (.exit 0) st = CodeB Try.prog 1 c1 st K := by kernel_rfl
theorem to_rng (K : Ex → St → Prop) (Z : St → Prop) : evTo Try.prog EB 100 1 (fun st => Z (keepS liveR st)) pr c1 (S1 g m N cap t h q i) K = Z ⟨60, tm, sR g N t h q nilV []⟩ := by kernel_rfl
theorem rc_eq : rc = .rangeFunc (.tmp 52) (rp rc) (ra rc) (rbd rc) := by kernel_rfl
theorem u_pre (K : Ex → St → Prop) (Z : St → Prop) : evTo Try.prog EB 40 6 (fun st => Z (keepS liveU st)) q1 cu ⟨(funcOf Try.prog 29).ntmps, zipArgs 0 [.yld 5, .ptr 4 0], oA g N t h q⟩ K = Z (SU (oA g N t h q) q 0) := by kernel_rfl
def uM (h : Nat → Int) (q : Nat) (k : Int) (P : Int → Prop) (X : Prop) : Prop := Br (decide (k < (q : Nat))) (IX k q q (Br (decide (0 ≤ h (k.toNat + 0) ∧ h (k.toNat + 0) < 4294967296)) (P (h (k.toNat + 0))) False)) X
theorem u_0 (k : Int) (K : Ex → St → Prop) : evG Try.prog EB 40 (lft (subAt q1 cu)) (SU (oA g N t h q) q k) (fun e st => K e (gcSt 6 liveU st)) =
    uM h q k (fun w => K .normal (SU (oB g N t h q (oneC (decI w)) 1) q (w1 (k + 1)))) (K (.exit 0) (SU (oA g N t h q) q k)) := by kernel_rfl
theorem u_1 (C : InsC) (n : Nat) (k : Int) (K : Ex → St → Prop) : evG Try.prog EB 40 (lft (subAt q1 cu)) (SU (oB g N t h q C n) q k) (fun e st => K e (gcSt 6 liveU st)) =
    uM h q k (fun w => Br (Nat.ble n n) (Br (growOk (n + 1) 56) (K .normal (SU (oB g N t h q (apC C n (decI w)) (n + 1)) q (w1 (k + 1)))) False) False) (K (.exit 0) (SU (oB g N t h q C n) q k)) := by kernel_rfl
theorem u_aft (K : Ex → St → Prop) (st : St) : ctxK Try.prog 6 q1 cu K (.exit 0) st = K .normal st := by kernel_rfl
theorem u_end (s : Sto) (k : Int) (K : Res → Sto → Prop) : bodyK False Try.prog (funcOf Try.prog 29) K .normal (SU s q k) = K (.ret (.tup [])) s := by kernel_rfl
theorem fin (C : InsC) (n : Nat) (K : Res → Sto → Prop) : ctxK Try.prog 1 pr c1 (KB K) .normal ⟨60, tm, (oB g N t h q C n).set 5 .no⟩ = CodeB Try.prog 1 (rgt (rgt c1)) ⟨60, tm, (oB g N t h q C n).set 5 .no⟩ (KB K) := by kernel_rfl
theorem fin2 (C : InsC) (n : Nat) (K : Res → Sto → Prop) : evG Try.prog EB 40 (rgt (rgt c1)) ⟨60, tm, (oB g N t h q C n).set 5 .no⟩ (KB K) = K (.ret (.tup [.lse 7 6 7 0 n, .raw (.int .i64 0)])) ((oB g N t h q C n).set 5 .no) := by kernel_rfl
end
end byt
end Go.Proofs.Ytjoopjhimgdgdaa.decRows
end
section
/- dec.Bytes: what it computes. -/
set_option linter.unusedVariables false
set_option linter.unusedSimpArgs false
set_option maxRecDepth 100000
namespace Go.Proofs.Ytjoopjhimgdgdaa.decRows
open Go Go.Proofs Go.Proofs.YtjoopjhimgdgdaaRL Go.Proofs.Ytjoopjhimgdgdaa.isa
theorem blt_lt {k n : Nat} (h : k < n) : Nat.blt (k + 0) n = true := by rw [Nat.blt_eq]; omega
theorem blt_no {k n : Nat} (h : ¬ k < n) : Nat.blt k n = false := by
  cases hb : Nat.blt k n with
  | true => rw [Nat.blt_eq] at hb; omega
  | false => rfl
theorem IX_ok {k n N : Nat} {P : Prop} (h : k < n) (hN : n ≤ N) (hp : P) : IX (k : Int) n N P := by
  unfold IX
  rw [decide_eq_true (show (0 : Int) ≤ (k : Int) by omega), decide_eq_true (show (k : Int) < (n : Int) by omega), show (k : Int).toNat + 0 = k + 0 from rfl, blt_lt (show k < N by omega)]
  exact hp
theorem ap_lt {f : Nat → Int} {n j : Nat} {w : Int} (h : j < n) : ap f n w j = f j := by
  show (match Nat.blt j n with | true => f j | false => _) = _
  rw [show Nat.blt j n = true from blt_lt (k := j) h]
theorem ap_eq {f : Nat → Int} {n : Nat} {w : Int} : ap f n w n = w := by
  show (match Nat.blt n n with | true => f n | false => [w].getD (Nat.sub n n) 0) = _
  rw [blt_no (Nat.lt_irrefl n)]
  show [w].getD (n - n) 0 = w
  rw [Nat.sub_self]; rfl
namespace byt
/-- The word of four bytes. -/
def wd (g : Nat → Int) (j : Nat) : Int := or4 (g (4 * j)) (g (4 * j + 1)) (g (4 * j + 2)) (g (4 * j + 3))
theorem wdM_eq {g : Nat → Int} {j : Nat} (h : j ≤ 1000000) : wdM g ((4 * j : Nat) : Int) = wd g j := by
  unfold wdM wd w1
  have e (q : Int) (k : Nat) (hq : q = k) (hk : k ≤ 5000000) : (IntKind.i64.wrap q).toNat + 0 = k := by
    subst hq; rw [wrap_i64_in (by omega) (by omega)]; rfl
  rw [e (((4 * j : Nat) : Int) + 1) (4 * j + 1) (by omega) (by omega), e (((4 * j : Nat) : Int) + 2) (4 * j + 2) (by omega) (by omega), e (((4 * j : Nat) : Int) + 3) (4 * j + 3) (by omega) (by omega)]
  rfl
section
variable (g : Nat → Int) (m N cap : Nat) (t : TypeId)
/-- The row of instructions is the words'. -/
def rowI (C : InsC) (w : Nat → Int) (k : Nat) : Prop := ∀ j, j < k → C.op j = (decI (w j)).op ∧ C.d j = (decI (w j)).d ∧ C.n j = (decI (w j)).n ∧ C.m j = (decI (w j)).m ∧ C.a j = (decI (w j)).a ∧ C.c j = (decI (w j)).c ∧ C.im j = (decI (w j)).im
theorem rowI_one {w : Nat → Int} : rowI (oneC (decI (w 0))) w 1 := fun j hj => by
  obtain rfl : j = 0 := by omega
  exact ⟨rfl, rfl, rfl, rfl, rfl, rfl, rfl⟩
theorem rowI_ap {C : InsC} {w : Nat → Int} {k : Nat} (h : rowI C w k) : rowI (apC C k (decI (w k))) w (k + 1) := fun j hj => by
  by_cases hjk : j < k
  · obtain ⟨h1, h2, h3, h4, h5, h6, h7⟩ := h j hjk
    exact ⟨(ap_lt hjk).trans h1, (ap_lt hjk).trans h2, (ap_lt hjk).trans h3, (ap_lt hjk).trans h4, (ap_lt hjk).trans h5, (ap_lt hjk).trans h6, (ap_lt hjk).trans h7⟩
  · obtain rfl : j = k := by omega
    exact ⟨ap_eq, ap_eq, ap_eq, ap_eq, ap_eq, ap_eq, ap_eq⟩
/-- What dec.Bytes leaves. -/
def KY (s : Sto) (r : Res) (s' : Sto) : Prop :=
  ((m : Int).tmod 4 ≠ 0 → r = .ret (.tup [nilV, .raw (.int .i64 6)]) ∧ s' = s) ∧
  ((m : Int).tmod 4 = 0 → ∃ h C, rowI C (wd g) (m / 4) ∧ r = .ret (.tup [.lse 7 6 7 0 (m / 4), .raw (.int .i64 0)]) ∧ s' = (oB g N t h (m / 4) C (m / 4)).set 5 .no)
abbrev KBY : Ex → St → Prop := KB (KY g m N t [byE g N t])
abbrev KIT (h : Nat → Int) (q : Nat) : Ex → St → Prop := ctxK Try.prog 6 q1 cu (bodyK False Try.prog (funcOf Try.prog 29) fun r s2 => r = .ret (.tup []) ∧ ∃ C, rowI C h q ∧ s2 = oB g N t h q C q)
/-- The iterator with the round that appends. -/
theorem it_ok {h : Nat → Int} {q : Nat} (hq0 : 0 < q) (hq : q ≤ 1000000) (hw : ∀ j, j < q → 0 ≤ h j ∧ h j < 4294967296) : CallOk Try.prog 29 [.yld 5, .ptr 4 0] (oA g N t h q) fun r s2 => r = .ret (.tup []) ∧ ∃ C, rowI C h q ∧ s2 = oB g N t h q C q := by
  refine CallOk.fnB names (by kernel_rfl) ?_
  refine evTo_ok EB_ok names mixed (n := 40) (b := 6) (Z := fun st => keepS liveU st = SU (oA g N t h q) q ((0 : Nat) : Int)) q1 _ _ _ (fun st hz => ?_) ?_
  · refine CodeB.lop (by kernel_rfl) (LoopB.byE EB_ok names mixed (N := 40) (fun x : Option InsC × Nat => match x.1 with | none => SU (oA g N t h q) q (x.2 : Int) | some C => SU (oB g N t h q C x.2) q (x.2 : Int)) (fun x => x.2 ≤ q ∧ match x.1 with | none => x.2 = 0 | some C => rowI C h x.2) (fun x => q - x.2) liveU (fun x hx => ?_) st (none, 0) (by have h := keep_tells 6 liveU st; rw [hz] at h; exact h) ⟨Nat.zero_le _, rfl⟩)
    obtain ⟨o, k⟩ := x
    cases o with
    | none =>
      obtain ⟨_, rfl⟩ : k ≤ q ∧ k = 0 := hx
      have hp := u_0 g N t h q ((0 : Nat) : Int) (RK 6 (fun x : Option InsC × Nat => match x.1 with | none => SU (oA g N t h q) q (x.2 : Int) | some C => SU (oB g N t h q C x.2) q (x.2 : Int)) (fun x => x.2 ≤ q ∧ match x.1 with | none => x.2 = 0 | some C => rowI C h x.2) (fun x => q - x.2) (none, 0) (KIT g N t h q))
      refine hp.mpr ?_
      unfold uM
      rw [decide_eq_true (show ((0 : Nat) : Int) < (q : Nat) by omega)]
      refine IX_ok hq0 (Nat.le_refl q) ?_
      rw [show ((0 : Nat) : Int).toNat + 0 = 0 from rfl, decide_eq_true (hw 0 hq0)]
      exact RK.go (K := fun _ _ => True) (y := (some (oneC (decI (h 0))), 1)) rfl ⟨hq0, rowI_one⟩ (show q - 1 < q - 0 by omega)
    | some C =>
      obtain ⟨hk, hC⟩ : k ≤ q ∧ rowI C h k := hx
      have hp := u_1 g N t h q C k (k : Int) (RK 6 (fun x : Option InsC × Nat => match x.1 with | none => SU (oA g N t h q) q (x.2 : Int) | some C => SU (oB g N t h q C x.2) q (x.2 : Int)) (fun x => x.2 ≤ q ∧ match x.1 with | none => x.2 = 0 | some C => rowI C h x.2) (fun x => q - x.2) (some C, k) (KIT g N t h q))
      refine hp.mpr ?_
      unfold uM
      by_cases hlt : k < q
      · have c5 : w1 ((k : Int) + 1) = ((k + 1 : Nat) : Int) := by unfold w1; rw [wrap_i64_in (by omega) (by omega)]; omega
        rw [decide_eq_true (show (k : Int) < (q : Nat) by omega)]
        refine IX_ok hlt (Nat.le_refl q) ?_
        rw [show (k : Int).toNat + 0 = k from rfl, decide_eq_true (hw k hlt), ble_self, grow_ok (show k + 1 ≤ 1000000 by omega) (by decide), c5]
        exact RK.go (K := fun _ _ => True) (y := (some (apC C k (decI (h k))), k + 1)) rfl ⟨hlt, rowI_ap hC⟩ (show q - (k + 1) < q - k by omega)
      · obtain rfl : k = q := by omega
        rw [decide_eq_false (Int.lt_irrefl _)]
        show KIT g N t h k (.exit 0) (SU (oB g N t h k C k) k (k : Nat))
        unfold KIT
        rw [u_aft]
        exact (u_end k _ _ _).mpr ⟨rfl, C, hC, rfl⟩
  · have hp := u_pre g N t h q (bodyK False Try.prog (funcOf Try.prog 29) fun r s2 => r = .ret (.tup []) ∧ ∃ C, rowI C h q ∧ s2 = oB g N t h q C q) fun st => st = SU (oA g N t h q) q ((0 : Nat) : Int)
    exact hp.mpr rfl
end
theorem bits32_lt (o : BinOp) (a b : Int) : 0 ≤ Go.bits o .u32 a b ∧ Go.bits o .u32 a b < 4294967296 := by
  unfold Go.bits
  constructor <;> (try split) <;> first | (rw [wrap_u32]; omega) | omega
theorem wd_in (g : Nat → Int) (j : Nat) : 0 ≤ wd g j ∧ wd g j < 4294967296 := by
  unfold wd or4
  exact bits32_lt _ _ _
section
variable (g : Nat → Int) (m N cap : Nat) (t : TypeId)
abbrev KO : Ex → St → Prop := ctxK Try.prog 1 p1 cd (KBY g m N t)
def SS : Option (Nat → Int) × Nat → St
  | (none, k) => S0 g m N cap t ((4 * k : Nat) : Int)
  | (some h, k) => S1 g m N cap t h k ((4 * k : Nat) : Int)
def II : Option (Nat → Int) × Nat → Prop
  | (none, k) => k = 0
  | (some h, k) => 0 < k ∧ 4 * k ≤ m ∧ ∀ j, j < k → h j = wd g j
theorem w4 {k : Nat} (h : k ≤ 1000000) : w1 (((4 * k : Nat) : Int) + 4) = ((4 * (k + 1) : Nat) : Int) := by
  unfold w1; rw [wrap_i64_in (by omega) (by omega)]; omega
theorem rM_ok {k : Nat} {P X : Prop} (hN : m ≤ N) (hm : m ≤ 1000000) (h : 4 * k + 4 ≤ m) (hp : P) : rM m N ((4 * k : Nat) : Int) P X := by
  have e (q : Int) (a : Nat) (hq : q = a) (ha : a ≤ 5000000) : w1 q = (a : Nat) := by unfold w1; subst hq; rw [wrap_i64_in (by omega) (by omega)]
  unfold rM
  rw [decide_eq_true (show ((4 * k : Nat) : Int) < (m : Nat) by omega), e (((4 * k : Nat) : Int) + 1) (4 * k + 1) (by omega) (by omega), e (((4 * k : Nat) : Int) + 2) (4 * k + 2) (by omega) (by omega), e (((4 * k : Nat) : Int) + 3) (4 * k + 3) (by omega) (by omega)]
  exact IX_ok (by omega) hN (IX_ok (by omega) hN (IX_ok (by omega) hN (IX_ok (by omega) hN hp)))
theorem rest_ok (h4 : (m : Int).tmod 4 = 0) {h : Nat → Int} {q : Nat} (hq0 : 0 < q) (hq : q ≤ 1000000) (hm : 4 * q = m) (hh : ∀ j, j < q → h j = wd g j) (i : Int) : CodeB Try.prog 1 c1 (S1 g m N cap t h q i) (KBY g m N t) := by
  refine evTo_ok EB_ok names mixed (n := 100) (b := 1) (Z := fun st => keepS liveR st = ⟨60, tm, sR g N t h q nilV []⟩) pr _ _ _ (fun st hz => ?_) ?_
  · have ht := keep_tells 1 liveR st
    rw [hz] at ht
    refine CodeB.tell ht ?_
    show CodeB Try.prog 1 rc ⟨60, tm, sR g N t h q nilV []⟩ _
    rw [rc_eq]
    refine rng_ok (f := 29) (first := []) (cap := [.ptr 4 0]) (v := .fn (.func 29) [] [.ptr 4 0]) rfl rfl (by kernel_rfl) ?_
    refine (it_ok g N t (h := h) (q := q) hq0 hq fun j hj => by rw [hh j hj]; exact wd_in g j).mono fun r s2 hr => ?_
    obtain ⟨rfl, C, hC, rfl⟩ := hr
    refine ⟨⟨_, rfl⟩, _, _, _, _, _, none, rfl, .inl ⟨rfl, ?_⟩⟩
    show ctxK Try.prog 1 pr c1 (KBY g m N t) .normal ⟨60, tm, (oB g N t h q C q).set 5 .no⟩
    rw [fin]
    refine CodeB.of (evG_ok EB_ok names mixed (n := 40) ?_)
    have hp := fin2 g N t h q C q (KY g m N t [byE g N t])
    refine hp.mpr ?_
    have e : m / 4 = q := by omega
    refine ⟨fun h => absurd h4 h, fun _ => ⟨h, C, fun j hj => ?_, ?_, ?_⟩⟩
    · rw [e] at hj
      have := hC j hj
      rw [hh j hj] at this
      exact this
    · rw [e]
    · rw [e]
  · have hp := to_rng g m N cap t h q i (KBY g m N t) fun st => st = ⟨60, tm, sR g N t h q nilV []⟩
    exact hp.mpr rfl
theorem bytes_call (hN : m ≤ N) (hm : m ≤ 1000000) (h0 : 0 < m) : CallOk Try.prog 14 [.sle 0 1 0 m cap] [byE g N t] (KY g m N t [byE g N t]) := by
  refine CallOk.fnB names (by kernel_rfl) ?_
  refine evTo_ok EB_ok names mixed (n := 100) (b := 1) (Z := fun st => (m : Int).tmod 4 = 0 ∧ gcSt 1 live st = S0 g m N cap t ((4 * 0 : Nat) : Int)) p1 _ _ _ (fun st hz => ?_) ?_
  · obtain ⟨h4, hz⟩ := hz
    refine CodeB.lop (by kernel_rfl) (LoopB.byE EB_ok names mixed (N := 100) (SS g m N cap t) (II g m) (fun x => m - 4 * x.2) live (fun x hx => ?_) st (none, 0) (by have h := gc_tells 1 live st; rw [hz] at h; exact h) rfl)
    obtain ⟨o, k⟩ := x
    have h4' : m % 4 = 0 := by
      have := Int.tmod_eq_emod_of_nonneg (b := 4) (show (0 : Int) ≤ (m : Int) by omega)
      omega
    cases o with
    | none =>
      obtain rfl : k = 0 := hx
      have hp := r_0 g m N cap t ((4 * 0 : Nat) : Int) (RK 1 (SS g m N cap t) (II g m) (fun x => m - 4 * x.2) (none, 0) (KO g m N t))
      refine hp.mpr (rM_ok m N hN hm (k := 0) (by omega) ?_)
      rw [w4 (by omega)]
      refine RK.go (K := fun _ _ => True) (y := (some fun j => [wdM g ((4 * 0 : Nat) : Int)].getD j 0, 1)) rfl ⟨by omega, by omega, fun j hj => ?_⟩ (show m - 4 * 1 < m - 4 * 0 by omega)
      obtain rfl : j = 0 := by omega
      exact wdM_eq (by omega)
    | some h =>
      obtain ⟨hk0, hk, hh⟩ : 0 < k ∧ 4 * k ≤ m ∧ ∀ j, j < k → h j = wd g j := hx
      have hp := r_1 g m N cap t h k ((4 * k : Nat) : Int) (RK 1 (SS g m N cap t) (II g m) (fun x => m - 4 * x.2) (some h, k) (KO g m N t))
      refine hp.mpr ?_
      by_cases hlt : 4 * k + 4 ≤ m
      · refine rM_ok m N hN hm hlt ?_
        rw [ble_self, grow_ok (show k + 1 ≤ 1000000 by omega) (by decide), w4 (by omega)]
        refine RK.go (K := fun _ _ => True) (y := (some (ap h k (wdM g ((4 * k : Nat) : Int))), k + 1)) rfl ⟨by omega, by omega, fun j hj => ?_⟩ (show m - 4 * (k + 1) < m - 4 * k by omega)
        by_cases hjk : j < k
        · exact (ap_lt hjk).trans (hh j hjk)
        · obtain rfl : j = k := by omega
          exact ap_eq.trans (wdM_eq (by omega))
      · unfold rM
        rw [decide_eq_false (show ¬ ((4 * k : Nat) : Int) < (m : Nat) by omega)]
        show KO g m N t (.exit 0) (S1 g m N cap t h k ((4 * k : Nat) : Int))
        unfold KO
        rw [aft1]
        exact rest_ok g m N cap t h4 hk0 (by omega) (by omega) hh _
  · have hp := pre_eq g m N cap t (KY g m N t [byE g N t]) fun st => (m : Int).tmod 4 = 0 ∧ st = S0 g m N cap t ((4 * 0 : Nat) : Int)
    refine hp.mpr ?_
    by_cases h4 : (m : Int).tmod 4 = 0
    · rw [show ((m : Int).tmod 4 != 0) = false from by rw [h4]; rfl]
      exact ⟨h4, rfl⟩
    · rw [show ((m : Int).tmod 4 != 0) = true from by rw [bne_iff_ne]; exact h4]
      exact ⟨fun _ => ⟨rfl, rfl⟩, fun h => absurd h h4⟩
end
end byt
end Go.Proofs.Ytjoopjhimgdgdaa.decRows
end
