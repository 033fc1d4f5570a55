/- dec.kind and dec.Ins as tables' lines. Printed by gendec.py. -/
import Derived.Test.YtjoopjhimgdgdaazDecBackIDecQ
import Derived.Test.YtjoopjhimgdgdaazDecBackIWord
namespace Go.Proofs.Ytjoopjhimgdgdaa.isa
open Go Go.Proofs Go.Proofs.YtjoopjhimgdgdaaRL
set_option linter.unusedVariables false
set_option linter.unusedSimpArgs false
/-- Tests one behind the other. -/
def chainG {R : Type} (br : Bool → R → R → R) (K : Nat → R) : List (Bool × Nat) → R
  | [] => K 0
  | (b, k) :: l => br b (K k) (chainG br K l)
def chainX : List (Bool × Nat) → Nat
  | [] => 0
  | (b, k) :: l => match b with
    | true => k
    | false => chainX l
theorem chain_Br {R : Type} (K : Nat → R) : ∀ l : List (Bool × Nat), chainG Br K l = K (chainX l)
  | [] => rfl
  | (true, k) :: l => rfl
  | (false, k) :: l => chain_Br K l
theorem chain_fine (K : Nat → Ans) : ∀ l : List (Bool × Nat), (chainG Ans.br K l).fine → (K (chainX l)).fine
  | [], h => h
  | (true, k) :: l, h => by
    rcases h with ⟨_, h⟩ | ⟨hb, _⟩
    · exact h
    · cases hb
  | (false, k) :: l, h => by
    rcases h with ⟨hb, _⟩ | ⟨_, h⟩
    · cases hb
    · exact chain_fine K l h
theorem chain_is (K : Nat → Ans) {r : Res} {s : Sto} : ∀ l : List (Bool × Nat), (K (chainX l)).is r s → (chainG Ans.br K l).is r s
  | [], h => h
  | (true, k) :: l, h => .inl ⟨rfl, h⟩
  | (false, k) :: l, h => .inr ⟨rfl, chain_is K l h⟩
/-- The tests of dec.kind. -/
def kindL (w : Int) : List (Bool × Nat) := [(w.fdiv 67108864 == 5, 20), (w.fdiv 67108864 == 37, 24), (w.fdiv 16777216 == 84, 21), (w.fdiv 16777216 == 180, 22), (w.fdiv 16777216 == 181, 23), (w.fdiv 8388608 == 421, 2), (w.fdiv 8388608 == 485, 3), (w.fdiv 2097152 == 1696, 42), (Go.bits .and .u32 w 4294967295 == 3573751839, 1), (Go.bits .and .u32 w 4290772992 == 2432696320, 4), (Go.bits .and .u32 w 4290772992 == 3506438144, 5), (Go.bits .and .u32 w 4290772992 == 4043309056, 6), (Go.bits .and .u32 w 4292934656 == 2332033024, 7), (Go.bits .and .u32 w 4292934656 == 3405774848, 8), (Go.bits .and .u32 w 4292934656 == 3942645760, 9), (Go.bits .and .u32 w 4292934656 == 2315255808, 10), (Go.bits .and .u32 w 4292934656 == 2852126720, 11), (Go.bits .and .u32 w 4292934656 == 3388997632, 12), (Go.bits .and .u32 w 4292902912 == 2600468480, 13), (Go.bits .and .u32 w 4292902912 == 2600501248, 14), (Go.bits .and .u32 w 4292934656 == 2596277248, 15), (Go.bits .and .u32 w 4292934656 == 2596282368, 16), (Go.bits .and .u32 w 4292934656 == 2596283392, 17), (Go.bits .and .u32 w 4292934656 == 2596284416, 18), (Go.bits .and .u32 w 4292873216 == 2592080896, 19), (Go.bits .and .u32 w 4294966303 == 3592355840, 25), (Go.bits .and .u32 w 4294966303 == 3594452992, 26), (Go.bits .and .u32 w 4294966303 == 3596550144, 27), (Go.bits .and .u32 w 4290772992 == 4181721088, 28), (Go.bits .and .u32 w 4290772992 == 4177526784, 29), (Go.bits .and .u32 w 4290772992 == 960495616, 30), (Go.bits .and .u32 w 4292934656 == 4167071744, 31), (Go.bits .and .u32 w 4292934656 == 4162877440, 32), (Go.bits .and .u32 w 4294966272 == 3370122240, 33), (Go.bits .and .u32 w 4294966272 == 3365927936, 34), (Go.bits .and .u32 w 4294966272 == 3361700864, 35), (Go.bits .and .u32 w 4292934656 == 3355474944, 36), (Go.bits .and .u32 w 4294963455 == 3573756095, 37), (Go.bits .and .u32 w 4294967295 == 3573758879, 38), (Go.bits .and .u32 w 4294967295 == 3573759967, 39), (Go.bits .and .u32 w 4294967264 == 3574299424, 40), (Go.bits .and .u32 w 4294967264 == 3574297888, 41)]
theorem and_1 {w : Int} (lo n : Nat) (m : Int) (hm : m = (((2 ^ n - 1) * 2 ^ lo : Nat) : Int)) (hl : n + lo ≤ 32) (h0 : 0 ≤ w) (h1 : w < 4294967296) : Go.bits .and .u32 w m = w / ((2 ^ lo : Nat) : Int) % ((2 ^ n : Nat) : Int) * ((2 ^ lo : Nat) : Int) := by
  subst hm
  obtain ⟨a, rfl⟩ := Int.eq_ofNat_of_zero_le h0
  have hmm : (2 ^ n - 1) * 2 ^ lo < 2 ^ 32 := by
    have h1 : (2 ^ n - 1) * 2 ^ lo < 2 ^ n * 2 ^ lo := Nat.mul_lt_mul_of_pos_right (by have := Nat.two_pow_pos n; omega) (Nat.two_pow_pos lo)
    rw [← Nat.pow_add] at h1
    exact Nat.lt_of_lt_of_le h1 (Nat.pow_le_pow_right (by omega) hl)
  rw [nat_and .u32 a _ rfl (by show a < 2 ^ 32; omega) hmm, and_mask, Int.natCast_mul, Int.natCast_emod, Int.natCast_ediv]
theorem and_2 {w : Int} (lo1 n1 lo2 n2 : Nat) (m : Int) (hm : m = (((2 ^ n1 - 1) * 2 ^ lo1 + (2 ^ n2 - 1) * 2 ^ lo2 : Nat) : Int)) (hl : n1 + lo1 ≤ 32) (hl2 : n2 + lo2 ≤ lo1) (h0 : 0 ≤ w) (h1 : w < 4294967296) :
    Go.bits .and .u32 w m = w / ((2 ^ lo1 : Nat) : Int) % ((2 ^ n1 : Nat) : Int) * ((2 ^ lo1 : Nat) : Int) + w / ((2 ^ lo2 : Nat) : Int) % ((2 ^ n2 : Nat) : Int) * ((2 ^ lo2 : Nat) : Int) := by
  subst hm
  obtain ⟨a, rfl⟩ := Int.eq_ofNat_of_zero_le h0
  have p2 : 2 ^ n2 * 2 ^ lo2 ≤ 2 ^ lo1 := by rw [← Nat.pow_add]; exact Nat.pow_le_pow_right (by omega) hl2
  have q2 : ∀ x, x < 2 ^ n2 → x * 2 ^ lo2 < 2 ^ lo1 := fun x hx => Nat.lt_of_lt_of_le (Nat.mul_lt_mul_of_pos_right hx (Nat.two_pow_pos lo2)) p2
  have p1 : 2 ^ n1 * 2 ^ lo1 ≤ 2 ^ 32 := by rw [← Nat.pow_add]; exact Nat.pow_le_pow_right (by omega) hl
  have q1 : ∀ x, x < 2 ^ n1 → x * 2 ^ lo1 + 2 ^ lo1 ≤ 2 ^ 32 := fun x hx => by
    have : (x + 1) * 2 ^ lo1 ≤ 2 ^ n1 * 2 ^ lo1 := Nat.mul_le_mul_right _ hx
    rw [Nat.add_mul, Nat.one_mul] at this
    omega
  have e1 : (2 ^ n1 - 1) * 2 ^ lo1 + (2 ^ n2 - 1) * 2 ^ lo2 = (2 ^ n1 - 1) * 2 ^ lo1 ||| (2 ^ n2 - 1) * 2 ^ lo2 := by
    rw [Nat.mul_comm (2 ^ n1 - 1)]
    exact Nat.two_pow_add_eq_or_of_lt (q2 _ (by have := Nat.two_pow_pos n2; omega)) _
  have hmm : (2 ^ n1 - 1) * 2 ^ lo1 + (2 ^ n2 - 1) * 2 ^ lo2 < 2 ^ 32 := by
    have h1 := q1 (2 ^ n1 - 1) (by have := Nat.two_pow_pos n1; omega)
    have h2 := q2 (2 ^ n2 - 1) (by have := Nat.two_pow_pos n2; omega)
    omega
  rw [nat_and .u32 a _ rfl (by show a < 2 ^ 32; omega) hmm, e1, Nat.and_or_distrib_left, and_mask, and_mask]
  have e2 : a / 2 ^ lo1 % 2 ^ n1 * 2 ^ lo1 ||| a / 2 ^ lo2 % 2 ^ n2 * 2 ^ lo2 = a / 2 ^ lo1 % 2 ^ n1 * 2 ^ lo1 + a / 2 ^ lo2 % 2 ^ n2 * 2 ^ lo2 := by
    rw [Nat.mul_comm (a / 2 ^ lo1 % 2 ^ n1)]
    exact (Nat.two_pow_add_eq_or_of_lt (q2 _ (Nat.mod_lt _ (Nat.two_pow_pos n2))) _).symm
  rw [e2, Int.natCast_add, Int.natCast_mul, Int.natCast_mul, Int.natCast_emod, Int.natCast_ediv, Int.natCast_emod, Int.natCast_ediv]
theorem chain_step {b : Bool} {p : Prop} [Decidable p] {k x : Nat} {l : List (Bool × Nat)} (h : b = decide p) (hx : chainX l = x) : chainX ((b, k) :: l) = if p then k else x := by
  subst h hx
  by_cases hp : p
  · rw [decide_eq_true hp, if_pos hp]; rfl
  · rw [decide_eq_false hp, if_neg hp]; rfl
theorem kindL_eq {w : Int} (h0 : 0 ≤ w) (h1 : w < 4294967296) : chainX (kindL w) = kindN w := by
  unfold kindL kindN
  refine chain_step (by rw [beq_dec, Int.fdiv_eq_ediv_of_nonneg _ (by omega)]) ?_
  refine chain_step (by rw [beq_dec, Int.fdiv_eq_ediv_of_nonneg _ (by omega)]) ?_
  refine chain_step (by rw [beq_dec, Int.fdiv_eq_ediv_of_nonneg _ (by omega)]) ?_
  refine chain_step (by rw [beq_dec, Int.fdiv_eq_ediv_of_nonneg _ (by omega)]) ?_
  refine chain_step (by rw [beq_dec, Int.fdiv_eq_ediv_of_nonneg _ (by omega)]) ?_
  refine chain_step (by rw [beq_dec, Int.fdiv_eq_ediv_of_nonneg _ (by omega)]) ?_
  refine chain_step (by rw [beq_dec, Int.fdiv_eq_ediv_of_nonneg _ (by omega)]) ?_
  refine chain_step (by rw [beq_dec, Int.fdiv_eq_ediv_of_nonneg _ (by omega)]) ?_
  refine chain_step (by rw [beq_dec, and_1 0 32 4294967295 rfl (by omega) h0 h1]; exact decide_eq_decide.2 ⟨fun h => by (try simp only [Nat.reducePow] at h); omega, fun h => by (try simp only [Nat.reducePow]); omega⟩) ?_
  refine chain_step (by rw [beq_dec, and_1 22 10 4290772992 rfl (by omega) h0 h1]; exact decide_eq_decide.2 ⟨fun h => by (try simp only [Nat.reducePow] at h); omega, fun h => by (try simp only [Nat.reducePow]); omega⟩) ?_
  refine chain_step (by rw [beq_dec, and_1 22 10 4290772992 rfl (by omega) h0 h1]; exact decide_eq_decide.2 ⟨fun h => by (try simp only [Nat.reducePow] at h); omega, fun h => by (try simp only [Nat.reducePow]); omega⟩) ?_
  refine chain_step (by rw [beq_dec, and_1 22 10 4290772992 rfl (by omega) h0 h1]; exact decide_eq_decide.2 ⟨fun h => by (try simp only [Nat.reducePow] at h); omega, fun h => by (try simp only [Nat.reducePow]); omega⟩) ?_
  refine chain_step (by rw [beq_dec, and_2 21 11 10 6 4292934656 rfl (by omega) (by omega) h0 h1]; exact decide_eq_decide.2 ⟨fun h => by (try simp only [Nat.reducePow] at h); omega, fun h => by (try simp only [Nat.reducePow]); omega⟩) ?_
  refine chain_step (by rw [beq_dec, and_2 21 11 10 6 4292934656 rfl (by omega) (by omega) h0 h1]; exact decide_eq_decide.2 ⟨fun h => by (try simp only [Nat.reducePow] at h); omega, fun h => by (try simp only [Nat.reducePow]); omega⟩) ?_
  refine chain_step (by rw [beq_dec, and_2 21 11 10 6 4292934656 rfl (by omega) (by omega) h0 h1]; exact decide_eq_decide.2 ⟨fun h => by (try simp only [Nat.reducePow] at h); omega, fun h => by (try simp only [Nat.reducePow]); omega⟩) ?_
  refine chain_step (by rw [beq_dec, and_2 21 11 10 6 4292934656 rfl (by omega) (by omega) h0 h1]; exact decide_eq_decide.2 ⟨fun h => by (try simp only [Nat.reducePow] at h); omega, fun h => by (try simp only [Nat.reducePow]); omega⟩) ?_
  refine chain_step (by rw [beq_dec, and_2 21 11 10 6 4292934656 rfl (by omega) (by omega) h0 h1]; exact decide_eq_decide.2 ⟨fun h => by (try simp only [Nat.reducePow] at h); omega, fun h => by (try simp only [Nat.reducePow]); omega⟩) ?_
  refine chain_step (by rw [beq_dec, and_2 21 11 10 6 4292934656 rfl (by omega) (by omega) h0 h1]; exact decide_eq_decide.2 ⟨fun h => by (try simp only [Nat.reducePow] at h); omega, fun h => by (try simp only [Nat.reducePow]); omega⟩) ?_
  refine chain_step (by rw [beq_dec, and_2 21 11 15 1 4292902912 rfl (by omega) (by omega) h0 h1]; exact decide_eq_decide.2 ⟨fun h => by (try simp only [Nat.reducePow] at h); omega, fun h => by (try simp only [Nat.reducePow]); omega⟩) ?_
  refine chain_step (by rw [beq_dec, and_2 21 11 15 1 4292902912 rfl (by omega) (by omega) h0 h1]; exact decide_eq_decide.2 ⟨fun h => by (try simp only [Nat.reducePow] at h); omega, fun h => by (try simp only [Nat.reducePow]); omega⟩) ?_
  refine chain_step (by rw [beq_dec, and_2 21 11 10 6 4292934656 rfl (by omega) (by omega) h0 h1]; exact decide_eq_decide.2 ⟨fun h => by (try simp only [Nat.reducePow] at h); omega, fun h => by (try simp only [Nat.reducePow]); omega⟩) ?_
  refine chain_step (by rw [beq_dec, and_2 21 11 10 6 4292934656 rfl (by omega) (by omega) h0 h1]; exact decide_eq_decide.2 ⟨fun h => by (try simp only [Nat.reducePow] at h); omega, fun h => by (try simp only [Nat.reducePow]); omega⟩) ?_
  refine chain_step (by rw [beq_dec, and_2 21 11 10 6 4292934656 rfl (by omega) (by omega) h0 h1]; exact decide_eq_decide.2 ⟨fun h => by (try simp only [Nat.reducePow] at h); omega, fun h => by (try simp only [Nat.reducePow]); omega⟩) ?_
  refine chain_step (by rw [beq_dec, and_2 21 11 10 6 4292934656 rfl (by omega) (by omega) h0 h1]; exact decide_eq_decide.2 ⟨fun h => by (try simp only [Nat.reducePow] at h); omega, fun h => by (try simp only [Nat.reducePow]); omega⟩) ?_
  refine chain_step (by rw [beq_dec, and_2 21 11 10 2 4292873216 rfl (by omega) (by omega) h0 h1]; exact decide_eq_decide.2 ⟨fun h => by (try simp only [Nat.reducePow] at h); omega, fun h => by (try simp only [Nat.reducePow]); omega⟩) ?_
  refine chain_step (by rw [beq_dec, and_2 10 22 0 5 4294966303 rfl (by omega) (by omega) h0 h1]; exact decide_eq_decide.2 ⟨fun h => by (try simp only [Nat.reducePow] at h); omega, fun h => by (try simp only [Nat.reducePow]); omega⟩) ?_
  refine chain_step (by rw [beq_dec, and_2 10 22 0 5 4294966303 rfl (by omega) (by omega) h0 h1]; exact decide_eq_decide.2 ⟨fun h => by (try simp only [Nat.reducePow] at h); omega, fun h => by (try simp only [Nat.reducePow]); omega⟩) ?_
  refine chain_step (by rw [beq_dec, and_2 10 22 0 5 4294966303 rfl (by omega) (by omega) h0 h1]; exact decide_eq_decide.2 ⟨fun h => by (try simp only [Nat.reducePow] at h); omega, fun h => by (try simp only [Nat.reducePow]); omega⟩) ?_
  refine chain_step (by rw [beq_dec, and_1 22 10 4290772992 rfl (by omega) h0 h1]; exact decide_eq_decide.2 ⟨fun h => by (try simp only [Nat.reducePow] at h); omega, fun h => by (try simp only [Nat.reducePow]); omega⟩) ?_
  refine chain_step (by rw [beq_dec, and_1 22 10 4290772992 rfl (by omega) h0 h1]; exact decide_eq_decide.2 ⟨fun h => by (try simp only [Nat.reducePow] at h); omega, fun h => by (try simp only [Nat.reducePow]); omega⟩) ?_
  refine chain_step (by rw [beq_dec, and_1 22 10 4290772992 rfl (by omega) h0 h1]; exact decide_eq_decide.2 ⟨fun h => by (try simp only [Nat.reducePow] at h); omega, fun h => by (try simp only [Nat.reducePow]); omega⟩) ?_
  refine chain_step (by rw [beq_dec, and_2 21 11 10 6 4292934656 rfl (by omega) (by omega) h0 h1]; exact decide_eq_decide.2 ⟨fun h => by (try simp only [Nat.reducePow] at h); omega, fun h => by (try simp only [Nat.reducePow]); omega⟩) ?_
  refine chain_step (by rw [beq_dec, and_2 21 11 10 6 4292934656 rfl (by omega) (by omega) h0 h1]; exact decide_eq_decide.2 ⟨fun h => by (try simp only [Nat.reducePow] at h); omega, fun h => by (try simp only [Nat.reducePow]); omega⟩) ?_
  refine chain_step (by rw [beq_dec, and_1 10 22 4294966272 rfl (by omega) h0 h1]; exact decide_eq_decide.2 ⟨fun h => by (try simp only [Nat.reducePow] at h); omega, fun h => by (try simp only [Nat.reducePow]); omega⟩) ?_
  refine chain_step (by rw [beq_dec, and_1 10 22 4294966272 rfl (by omega) h0 h1]; exact decide_eq_decide.2 ⟨fun h => by (try simp only [Nat.reducePow] at h); omega, fun h => by (try simp only [Nat.reducePow]); omega⟩) ?_
  refine chain_step (by rw [beq_dec, and_1 10 22 4294966272 rfl (by omega) h0 h1]; exact decide_eq_decide.2 ⟨fun h => by (try simp only [Nat.reducePow] at h); omega, fun h => by (try simp only [Nat.reducePow]); omega⟩) ?_
  refine chain_step (by rw [beq_dec, and_2 21 11 10 6 4292934656 rfl (by omega) (by omega) h0 h1]; exact decide_eq_decide.2 ⟨fun h => by (try simp only [Nat.reducePow] at h); omega, fun h => by (try simp only [Nat.reducePow]); omega⟩) ?_
  refine chain_step (by rw [beq_dec, and_2 12 20 0 8 4294963455 rfl (by omega) (by omega) h0 h1]; exact decide_eq_decide.2 ⟨fun h => by (try simp only [Nat.reducePow] at h); omega, fun h => by (try simp only [Nat.reducePow]); omega⟩) ?_
  refine chain_step (by rw [beq_dec, and_1 0 32 4294967295 rfl (by omega) h0 h1]; exact decide_eq_decide.2 ⟨fun h => by (try simp only [Nat.reducePow] at h); omega, fun h => by (try simp only [Nat.reducePow]); omega⟩) ?_
  refine chain_step (by rw [beq_dec, and_1 0 32 4294967295 rfl (by omega) h0 h1]; exact decide_eq_decide.2 ⟨fun h => by (try simp only [Nat.reducePow] at h); omega, fun h => by (try simp only [Nat.reducePow]); omega⟩) ?_
  refine chain_step (by rw [beq_dec, and_1 5 27 4294967264 rfl (by omega) h0 h1]; exact decide_eq_decide.2 ⟨fun h => by (try simp only [Nat.reducePow] at h); omega, fun h => by (try simp only [Nat.reducePow]); omega⟩) ?_
  refine chain_step (by rw [beq_dec, and_1 5 27 4294967264 rfl (by omega) h0 h1]; exact decide_eq_decide.2 ⟨fun h => by (try simp only [Nat.reducePow] at h); omega, fun h => by (try simp only [Nat.reducePow]); omega⟩) ?_
  rfl
def fE (w p m : Int) : Int := IntKind.i64.wrap (Go.bits .and .u32 (w.fdiv p) m)
def farE (w p m q : Int) : Int := IntKind.i64.wrap (4 * (IntKind.i64.wrap (IntKind.i64.wrap (IntKind.u64.wrap (Go.bits .and .u32 (w.fdiv p) m)) * q)).fdiv q)
theorem fE_eq {w : Int} (lo n : Nat) (p m M : Int) (hp : p = ((2 ^ lo : Nat) : Int)) (hm : m = ((2 ^ n - 1 : Nat) : Int)) (hM : M = ((2 ^ n : Nat) : Int)) (hn : n ≤ 32) (h0 : 0 ≤ w) (h1 : w < 4294967296) : fE w p m = w / p % M := by
  have hp0 : 0 < p := by subst hp; exact Int.natCast_pos.2 (Nat.two_pow_pos lo)
  have hM0 : 0 < M := by subst hM; exact Int.natCast_pos.2 (Nat.two_pow_pos n)
  have hM1 : M ≤ 4294967296 := by
    subst hM
    have : 2 ^ n ≤ 2 ^ 32 := Nat.pow_le_pow_right (by omega) hn
    omega
  have h2 : 0 ≤ w / p := Int.ediv_nonneg h0 (by omega)
  have h3 : w / p ≤ w := Int.ediv_le_self _ h0
  have h4 := Int.emod_nonneg (w / p) (show M ≠ 0 by omega)
  have h5 := Int.emod_lt_of_pos (w / p) hM0
  unfold fE
  subst hm
  rw [Int.fdiv_eq_ediv_of_nonneg _ (by omega), and_u32 n h2 (by omega) hn]
  subst hM
  rw [wrap_i64_in (by omega) (by omega)]
theorem farE_eq {w : Int} (lo n : Nat) (p m M q : Int) (hp : p = ((2 ^ lo : Nat) : Int)) (hm : m = ((2 ^ n - 1 : Nat) : Int)) (hM : M = ((2 ^ n : Nat) : Int)) (hn : n ≤ 32) (hq : (M = 67108864 ∧ q = 274877906944) ∨ (M = 524288 ∧ q = 35184372088832)) (h0 : 0 ≤ w) (h1 : w < 4294967296) : farE w p m q = 4 * sx M (w / p % M) := by
  have hp0 : 0 < p := by subst hp; exact Int.natCast_pos.2 (Nat.two_pow_pos lo)
  have h2 : 0 ≤ w / p := Int.ediv_nonneg h0 (by omega)
  have h3 : w / p ≤ w := Int.ediv_le_self _ h0
  unfold farE
  subst hm
  rw [Int.fdiv_eq_ediv_of_nonneg (b := p) _ (by omega), and_u32 n h2 (by omega) hn, ← hM]
  rcases hq with ⟨rfl, rfl⟩ | ⟨rfl, rfl⟩
  · have h5 := Int.emod_lt_of_pos (w / p) (show (0 : Int) < 67108864 by omega)
    have h6 := Int.emod_nonneg (w / p) (show (67108864 : Int) ≠ 0 by omega)
    generalize w / p % 67108864 = x at h5 h6
    rw [IntWalk.u64_in x (by omega), wrap_i64_in (n := x) (by omega) (by omega), Int.fdiv_eq_ediv_of_nonneg _ (by omega), wrap_i64 (x * _)]
    unfold sx
    have h7 : ((x * 274877906944 + 9223372036854775808) % 18446744073709551616 - 9223372036854775808) / 274877906944 = if x ≥ 67108864 / 2 then x - 67108864 else x := by split <;> omega
    rw [h7, wrap_i64_in (by split <;> omega) (by split <;> omega)]
  · have h5 := Int.emod_lt_of_pos (w / p) (show (0 : Int) < 524288 by omega)
    have h6 := Int.emod_nonneg (w / p) (show (524288 : Int) ≠ 0 by omega)
    generalize w / p % 524288 = x at h5 h6
    rw [IntWalk.u64_in x (by omega), wrap_i64_in (n := x) (by omega) (by omega), Int.fdiv_eq_ediv_of_nonneg _ (by omega), wrap_i64 (x * _)]
    unfold sx
    have h7 : ((x * 35184372088832 + 9223372036854775808) % 18446744073709551616 - 9223372036854775808) / 35184372088832 = if x ≥ 524288 / 2 then x - 524288 else x := by split <;> omega
    rw [h7, wrap_i64_in (by split <;> omega) (by split <;> omega)]
/-- The fields as the code takes them. -/
def decE (k : Nat) (w : Int) : I7 := match k with
  | 0 => ⟨0, 0, 0, 0, 0, 0, 0⟩
  | 1 => ⟨1, 0, 0, 0, 0, 0, 0⟩
  | 2 => ⟨2, fE w 1 31, 0, fE w 2097152 3, 0, 0, fE w 32 65535⟩
  | 3 => ⟨3, fE w 1 31, 0, fE w 2097152 3, 0, 0, fE w 32 65535⟩
  | 4 => ⟨4, fE w 1 31, fE w 32 31, 0, 0, 0, fE w 1024 4095⟩
  | 5 => ⟨5, fE w 1 31, fE w 32 31, 0, 0, 0, fE w 1024 4095⟩
  | 6 => ⟨6, fE w 1 31, fE w 32 31, 0, 0, 0, fE w 1024 4095⟩
  | 7 => ⟨7, fE w 1 31, fE w 32 31, fE w 65536 31, 0, 0, 0⟩
  | 8 => ⟨8, fE w 1 31, fE w 32 31, fE w 65536 31, 0, 0, 0⟩
  | 9 => ⟨9, fE w 1 31, fE w 32 31, fE w 65536 31, 0, 0, 0⟩
  | 10 => ⟨10, fE w 1 31, fE w 32 31, fE w 65536 31, 0, 0, 0⟩
  | 11 => ⟨11, fE w 1 31, fE w 32 31, fE w 65536 31, 0, 0, 0⟩
  | 12 => ⟨12, fE w 1 31, fE w 32 31, fE w 65536 31, 0, 0, 0⟩
  | 13 => ⟨13, fE w 1 31, fE w 32 31, fE w 65536 31, fE w 1024 31, 0, 0⟩
  | 14 => ⟨14, fE w 1 31, fE w 32 31, fE w 65536 31, fE w 1024 31, 0, 0⟩
  | 15 => ⟨15, fE w 1 31, fE w 32 31, fE w 65536 31, 0, 0, 0⟩
  | 16 => ⟨16, fE w 1 31, fE w 32 31, fE w 65536 31, 0, 0, 0⟩
  | 17 => ⟨17, fE w 1 31, fE w 32 31, fE w 65536 31, 0, 0, 0⟩
  | 18 => ⟨18, fE w 1 31, fE w 32 31, fE w 65536 31, 0, 0, 0⟩
  | 19 => ⟨19, fE w 1 31, fE w 32 31, fE w 65536 31, 0, fE w 4096 15, 0⟩
  | 20 => ⟨20, 0, 0, 0, 0, 0, farE w 1 67108863 274877906944⟩
  | 21 => ⟨21, 0, 0, 0, 0, fE w 1 15, farE w 32 524287 35184372088832⟩
  | 22 => ⟨22, fE w 1 31, 0, 0, 0, 0, farE w 32 524287 35184372088832⟩
  | 23 => ⟨23, fE w 1 31, 0, 0, 0, 0, farE w 32 524287 35184372088832⟩
  | 24 => ⟨24, 0, 0, 0, 0, 0, farE w 1 67108863 274877906944⟩
  | 25 => ⟨25, 0, fE w 32 31, 0, 0, 0, 0⟩
  | 26 => ⟨26, 0, fE w 32 31, 0, 0, 0, 0⟩
  | 27 => ⟨27, 0, fE w 32 31, 0, 0, 0, 0⟩
  | 28 => ⟨28, fE w 1 31, fE w 32 31, 0, 0, 0, IntKind.i64.wrap (8 * fE w 1024 4095)⟩
  | 29 => ⟨29, fE w 1 31, fE w 32 31, 0, 0, 0, IntKind.i64.wrap (8 * fE w 1024 4095)⟩
  | 30 => ⟨30, fE w 1 31, fE w 32 31, 0, 0, 0, fE w 1024 4095⟩
  | 31 => ⟨31, fE w 1 31, fE w 32 31, fE w 65536 31, 0, 0, 0⟩
  | 32 => ⟨32, fE w 1 31, fE w 32 31, fE w 65536 31, 0, 0, 0⟩
  | 33 => ⟨33, fE w 1 31, fE w 32 31, 0, 0, 0, 0⟩
  | 34 => ⟨34, fE w 1 31, fE w 32 31, 0, 0, 0, 0⟩
  | 35 => ⟨35, fE w 1 31, fE w 32 31, 0, 0, 0, 0⟩
  | 36 => ⟨36, fE w 65536 31, fE w 32 31, fE w 1 31, 0, 0, 0⟩
  | 37 => ⟨37, 0, 0, 0, 0, 0, 0⟩
  | 38 => ⟨38, 0, 0, 0, 0, 0, 0⟩
  | 39 => ⟨39, 0, 0, 0, 0, 0, 0⟩
  | 40 => ⟨40, 0, fE w 1 31, 0, 0, 0, 0⟩
  | 41 => ⟨41, 0, fE w 1 31, 0, 0, 0, 0⟩
  | 42 => ⟨42, 0, 0, 0, 0, 0, fE w 32 65535⟩
  | _ => ⟨0, 0, 0, 0, 0, 0, 0⟩
theorem decE_eq {w : Int} (h0 : 0 ≤ w) (h1 : w < 4294967296) : ∀ k : Nat, k < 43 → k ≠ 37 → decE k w = decF k w
  | 0, _, _ => by
    show (⟨_, _, _, _, _, _, _⟩ : I7) = ⟨_, _, _, _, _, _, _⟩
    exact I7.ext rfl rfl rfl rfl rfl rfl rfl
  | 1, _, _ => by
    show (⟨_, _, _, _, _, _, _⟩ : I7) = ⟨_, _, _, _, _, _, _⟩
    exact I7.ext rfl rfl rfl rfl rfl rfl rfl
  | 2, _, _ => by
    show (⟨_, _, _, _, _, _, _⟩ : I7) = ⟨_, _, _, _, _, _, _⟩
    exact I7.ext rfl (by rw [fE_eq 0 5 1 31 32 rfl rfl rfl (by omega) h0 h1, Int.ediv_one]) rfl (by rw [fE_eq 21 2 2097152 3 4 rfl rfl rfl (by omega) h0 h1]) rfl rfl (by rw [fE_eq 5 16 32 65535 65536 rfl rfl rfl (by omega) h0 h1])
  | 3, _, _ => by
    show (⟨_, _, _, _, _, _, _⟩ : I7) = ⟨_, _, _, _, _, _, _⟩
    exact I7.ext rfl (by rw [fE_eq 0 5 1 31 32 rfl rfl rfl (by omega) h0 h1, Int.ediv_one]) rfl (by rw [fE_eq 21 2 2097152 3 4 rfl rfl rfl (by omega) h0 h1]) rfl rfl (by rw [fE_eq 5 16 32 65535 65536 rfl rfl rfl (by omega) h0 h1])
  | 4, _, _ => by
    show (⟨_, _, _, _, _, _, _⟩ : I7) = ⟨_, _, _, _, _, _, _⟩
    exact I7.ext rfl (by rw [fE_eq 0 5 1 31 32 rfl rfl rfl (by omega) h0 h1, Int.ediv_one]) (by rw [fE_eq 5 5 32 31 32 rfl rfl rfl (by omega) h0 h1]) rfl rfl rfl (by rw [fE_eq 10 12 1024 4095 4096 rfl rfl rfl (by omega) h0 h1])
  | 5, _, _ => by
    show (⟨_, _, _, _, _, _, _⟩ : I7) = ⟨_, _, _, _, _, _, _⟩
    exact I7.ext rfl (by rw [fE_eq 0 5 1 31 32 rfl rfl rfl (by omega) h0 h1, Int.ediv_one]) (by rw [fE_eq 5 5 32 31 32 rfl rfl rfl (by omega) h0 h1]) rfl rfl rfl (by rw [fE_eq 10 12 1024 4095 4096 rfl rfl rfl (by omega) h0 h1])
  | 6, _, _ => by
    show (⟨_, _, _, _, _, _, _⟩ : I7) = ⟨_, _, _, _, _, _, _⟩
    exact I7.ext rfl (by rw [fE_eq 0 5 1 31 32 rfl rfl rfl (by omega) h0 h1, Int.ediv_one]) (by rw [fE_eq 5 5 32 31 32 rfl rfl rfl (by omega) h0 h1]) rfl rfl rfl (by rw [fE_eq 10 12 1024 4095 4096 rfl rfl rfl (by omega) h0 h1])
  | 7, _, _ => by
    show (⟨_, _, _, _, _, _, _⟩ : I7) = ⟨_, _, _, _, _, _, _⟩
    exact I7.ext rfl (by rw [fE_eq 0 5 1 31 32 rfl rfl rfl (by omega) h0 h1, Int.ediv_one]) (by rw [fE_eq 5 5 32 31 32 rfl rfl rfl (by omega) h0 h1]) (by rw [fE_eq 16 5 65536 31 32 rfl rfl rfl (by omega) h0 h1]) rfl rfl rfl
  | 8, _, _ => by
    show (⟨_, _, _, _, _, _, _⟩ : I7) = ⟨_, _, _, _, _, _, _⟩
    exact I7.ext rfl (by rw [fE_eq 0 5 1 31 32 rfl rfl rfl (by omega) h0 h1, Int.ediv_one]) (by rw [fE_eq 5 5 32 31 32 rfl rfl rfl (by omega) h0 h1]) (by rw [fE_eq 16 5 65536 31 32 rfl rfl rfl (by omega) h0 h1]) rfl rfl rfl
  | 9, _, _ => by
    show (⟨_, _, _, _, _, _, _⟩ : I7) = ⟨_, _, _, _, _, _, _⟩
    exact I7.ext rfl (by rw [fE_eq 0 5 1 31 32 rfl rfl rfl (by omega) h0 h1, Int.ediv_one]) (by rw [fE_eq 5 5 32 31 32 rfl rfl rfl (by omega) h0 h1]) (by rw [fE_eq 16 5 65536 31 32 rfl rfl rfl (by omega) h0 h1]) rfl rfl rfl
  | 10, _, _ => by
    show (⟨_, _, _, _, _, _, _⟩ : I7) = ⟨_, _, _, _, _, _, _⟩
    exact I7.ext rfl (by rw [fE_eq 0 5 1 31 32 rfl rfl rfl (by omega) h0 h1, Int.ediv_one]) (by rw [fE_eq 5 5 32 31 32 rfl rfl rfl (by omega) h0 h1]) (by rw [fE_eq 16 5 65536 31 32 rfl rfl rfl (by omega) h0 h1]) rfl rfl rfl
  | 11, _, _ => by
    show (⟨_, _, _, _, _, _, _⟩ : I7) = ⟨_, _, _, _, _, _, _⟩
    exact I7.ext rfl (by rw [fE_eq 0 5 1 31 32 rfl rfl rfl (by omega) h0 h1, Int.ediv_one]) (by rw [fE_eq 5 5 32 31 32 rfl rfl rfl (by omega) h0 h1]) (by rw [fE_eq 16 5 65536 31 32 rfl rfl rfl (by omega) h0 h1]) rfl rfl rfl
  | 12, _, _ => by
    show (⟨_, _, _, _, _, _, _⟩ : I7) = ⟨_, _, _, _, _, _, _⟩
    exact I7.ext rfl (by rw [fE_eq 0 5 1 31 32 rfl rfl rfl (by omega) h0 h1, Int.ediv_one]) (by rw [fE_eq 5 5 32 31 32 rfl rfl rfl (by omega) h0 h1]) (by rw [fE_eq 16 5 65536 31 32 rfl rfl rfl (by omega) h0 h1]) rfl rfl rfl
  | 13, _, _ => by
    show (⟨_, _, _, _, _, _, _⟩ : I7) = ⟨_, _, _, _, _, _, _⟩
    exact I7.ext rfl (by rw [fE_eq 0 5 1 31 32 rfl rfl rfl (by omega) h0 h1, Int.ediv_one]) (by rw [fE_eq 5 5 32 31 32 rfl rfl rfl (by omega) h0 h1]) (by rw [fE_eq 16 5 65536 31 32 rfl rfl rfl (by omega) h0 h1]) (by rw [fE_eq 10 5 1024 31 32 rfl rfl rfl (by omega) h0 h1]) rfl rfl
  | 14, _, _ => by
    show (⟨_, _, _, _, _, _, _⟩ : I7) = ⟨_, _, _, _, _, _, _⟩
    exact I7.ext rfl (by rw [fE_eq 0 5 1 31 32 rfl rfl rfl (by omega) h0 h1, Int.ediv_one]) (by rw [fE_eq 5 5 32 31 32 rfl rfl rfl (by omega) h0 h1]) (by rw [fE_eq 16 5 65536 31 32 rfl rfl rfl (by omega) h0 h1]) (by rw [fE_eq 10 5 1024 31 32 rfl rfl rfl (by omega) h0 h1]) rfl rfl
  | 15, _, _ => by
    show (⟨_, _, _, _, _, _, _⟩ : I7) = ⟨_, _, _, _, _, _, _⟩
    exact I7.ext rfl (by rw [fE_eq 0 5 1 31 32 rfl rfl rfl (by omega) h0 h1, Int.ediv_one]) (by rw [fE_eq 5 5 32 31 32 rfl rfl rfl (by omega) h0 h1]) (by rw [fE_eq 16 5 65536 31 32 rfl rfl rfl (by omega) h0 h1]) rfl rfl rfl
  | 16, _, _ => by
    show (⟨_, _, _, _, _, _, _⟩ : I7) = ⟨_, _, _, _, _, _, _⟩
    exact I7.ext rfl (by rw [fE_eq 0 5 1 31 32 rfl rfl rfl (by omega) h0 h1, Int.ediv_one]) (by rw [fE_eq 5 5 32 31 32 rfl rfl rfl (by omega) h0 h1]) (by rw [fE_eq 16 5 65536 31 32 rfl rfl rfl (by omega) h0 h1]) rfl rfl rfl
  | 17, _, _ => by
    show (⟨_, _, _, _, _, _, _⟩ : I7) = ⟨_, _, _, _, _, _, _⟩
    exact I7.ext rfl (by rw [fE_eq 0 5 1 31 32 rfl rfl rfl (by omega) h0 h1, Int.ediv_one]) (by rw [fE_eq 5 5 32 31 32 rfl rfl rfl (by omega) h0 h1]) (by rw [fE_eq 16 5 65536 31 32 rfl rfl rfl (by omega) h0 h1]) rfl rfl rfl
  | 18, _, _ => by
    show (⟨_, _, _, _, _, _, _⟩ : I7) = ⟨_, _, _, _, _, _, _⟩
    exact I7.ext rfl (by rw [fE_eq 0 5 1 31 32 rfl rfl rfl (by omega) h0 h1, Int.ediv_one]) (by rw [fE_eq 5 5 32 31 32 rfl rfl rfl (by omega) h0 h1]) (by rw [fE_eq 16 5 65536 31 32 rfl rfl rfl (by omega) h0 h1]) rfl rfl rfl
  | 19, _, _ => by
    show (⟨_, _, _, _, _, _, _⟩ : I7) = ⟨_, _, _, _, _, _, _⟩
    exact I7.ext rfl (by rw [fE_eq 0 5 1 31 32 rfl rfl rfl (by omega) h0 h1, Int.ediv_one]) (by rw [fE_eq 5 5 32 31 32 rfl rfl rfl (by omega) h0 h1]) (by rw [fE_eq 16 5 65536 31 32 rfl rfl rfl (by omega) h0 h1]) rfl (by rw [fE_eq 12 4 4096 15 16 rfl rfl rfl (by omega) h0 h1]) rfl
  | 20, _, _ => by
    show (⟨_, _, _, _, _, _, _⟩ : I7) = ⟨_, _, _, _, _, _, _⟩
    exact I7.ext rfl rfl rfl rfl rfl rfl (by rw [farE_eq 0 26 1 67108863 67108864 274877906944 rfl rfl rfl (by omega) (by omega) h0 h1, Int.ediv_one])
  | 21, _, _ => by
    show (⟨_, _, _, _, _, _, _⟩ : I7) = ⟨_, _, _, _, _, _, _⟩
    exact I7.ext rfl rfl rfl rfl rfl (by rw [fE_eq 0 4 1 15 16 rfl rfl rfl (by omega) h0 h1, Int.ediv_one]) (by rw [farE_eq 5 19 32 524287 524288 35184372088832 rfl rfl rfl (by omega) (by omega) h0 h1])
  | 22, _, _ => by
    show (⟨_, _, _, _, _, _, _⟩ : I7) = ⟨_, _, _, _, _, _, _⟩
    exact I7.ext rfl (by rw [fE_eq 0 5 1 31 32 rfl rfl rfl (by omega) h0 h1, Int.ediv_one]) rfl rfl rfl rfl (by rw [farE_eq 5 19 32 524287 524288 35184372088832 rfl rfl rfl (by omega) (by omega) h0 h1])
  | 23, _, _ => by
    show (⟨_, _, _, _, _, _, _⟩ : I7) = ⟨_, _, _, _, _, _, _⟩
    exact I7.ext rfl (by rw [fE_eq 0 5 1 31 32 rfl rfl rfl (by omega) h0 h1, Int.ediv_one]) rfl rfl rfl rfl (by rw [farE_eq 5 19 32 524287 524288 35184372088832 rfl rfl rfl (by omega) (by omega) h0 h1])
  | 24, _, _ => by
    show (⟨_, _, _, _, _, _, _⟩ : I7) = ⟨_, _, _, _, _, _, _⟩
    exact I7.ext rfl rfl rfl rfl rfl rfl (by rw [farE_eq 0 26 1 67108863 67108864 274877906944 rfl rfl rfl (by omega) (by omega) h0 h1, Int.ediv_one])
  | 25, _, _ => by
    show (⟨_, _, _, _, _, _, _⟩ : I7) = ⟨_, _, _, _, _, _, _⟩
    exact I7.ext rfl rfl (by rw [fE_eq 5 5 32 31 32 rfl rfl rfl (by omega) h0 h1]) rfl rfl rfl rfl
  | 26, _, _ => by
    show (⟨_, _, _, _, _, _, _⟩ : I7) = ⟨_, _, _, _, _, _, _⟩
    exact I7.ext rfl rfl (by rw [fE_eq 5 5 32 31 32 rfl rfl rfl (by omega) h0 h1]) rfl rfl rfl rfl
  | 27, _, _ => by
    show (⟨_, _, _, _, _, _, _⟩ : I7) = ⟨_, _, _, _, _, _, _⟩
    exact I7.ext rfl rfl (by rw [fE_eq 5 5 32 31 32 rfl rfl rfl (by omega) h0 h1]) rfl rfl rfl rfl
  | 28, _, _ => by
    show (⟨_, _, _, _, _, _, _⟩ : I7) = ⟨_, _, _, _, _, _, _⟩
    exact I7.ext rfl (by rw [fE_eq 0 5 1 31 32 rfl rfl rfl (by omega) h0 h1, Int.ediv_one]) (by rw [fE_eq 5 5 32 31 32 rfl rfl rfl (by omega) h0 h1]) rfl rfl rfl (by rw [fE_eq 10 12 1024 4095 4096 rfl rfl rfl (by omega) h0 h1, wrap_i64_in (by omega) (by omega)])
  | 29, _, _ => by
    show (⟨_, _, _, _, _, _, _⟩ : I7) = ⟨_, _, _, _, _, _, _⟩
    exact I7.ext rfl (by rw [fE_eq 0 5 1 31 32 rfl rfl rfl (by omega) h0 h1, Int.ediv_one]) (by rw [fE_eq 5 5 32 31 32 rfl rfl rfl (by omega) h0 h1]) rfl rfl rfl (by rw [fE_eq 10 12 1024 4095 4096 rfl rfl rfl (by omega) h0 h1, wrap_i64_in (by omega) (by omega)])
  | 30, _, _ => by
    show (⟨_, _, _, _, _, _, _⟩ : I7) = ⟨_, _, _, _, _, _, _⟩
    exact I7.ext rfl (by rw [fE_eq 0 5 1 31 32 rfl rfl rfl (by omega) h0 h1, Int.ediv_one]) (by rw [fE_eq 5 5 32 31 32 rfl rfl rfl (by omega) h0 h1]) rfl rfl rfl (by rw [fE_eq 10 12 1024 4095 4096 rfl rfl rfl (by omega) h0 h1])
  | 31, _, _ => by
    show (⟨_, _, _, _, _, _, _⟩ : I7) = ⟨_, _, _, _, _, _, _⟩
    exact I7.ext rfl (by rw [fE_eq 0 5 1 31 32 rfl rfl rfl (by omega) h0 h1, Int.ediv_one]) (by rw [fE_eq 5 5 32 31 32 rfl rfl rfl (by omega) h0 h1]) (by rw [fE_eq 16 5 65536 31 32 rfl rfl rfl (by omega) h0 h1]) rfl rfl rfl
  | 32, _, _ => by
    show (⟨_, _, _, _, _, _, _⟩ : I7) = ⟨_, _, _, _, _, _, _⟩
    exact I7.ext rfl (by rw [fE_eq 0 5 1 31 32 rfl rfl rfl (by omega) h0 h1, Int.ediv_one]) (by rw [fE_eq 5 5 32 31 32 rfl rfl rfl (by omega) h0 h1]) (by rw [fE_eq 16 5 65536 31 32 rfl rfl rfl (by omega) h0 h1]) rfl rfl rfl
  | 33, _, _ => by
    show (⟨_, _, _, _, _, _, _⟩ : I7) = ⟨_, _, _, _, _, _, _⟩
    exact I7.ext rfl (by rw [fE_eq 0 5 1 31 32 rfl rfl rfl (by omega) h0 h1, Int.ediv_one]) (by rw [fE_eq 5 5 32 31 32 rfl rfl rfl (by omega) h0 h1]) rfl rfl rfl rfl
  | 34, _, _ => by
    show (⟨_, _, _, _, _, _, _⟩ : I7) = ⟨_, _, _, _, _, _, _⟩
    exact I7.ext rfl (by rw [fE_eq 0 5 1 31 32 rfl rfl rfl (by omega) h0 h1, Int.ediv_one]) (by rw [fE_eq 5 5 32 31 32 rfl rfl rfl (by omega) h0 h1]) rfl rfl rfl rfl
  | 35, _, _ => by
    show (⟨_, _, _, _, _, _, _⟩ : I7) = ⟨_, _, _, _, _, _, _⟩
    exact I7.ext rfl (by rw [fE_eq 0 5 1 31 32 rfl rfl rfl (by omega) h0 h1, Int.ediv_one]) (by rw [fE_eq 5 5 32 31 32 rfl rfl rfl (by omega) h0 h1]) rfl rfl rfl rfl
  | 36, _, _ => by
    show (⟨_, _, _, _, _, _, _⟩ : I7) = ⟨_, _, _, _, _, _, _⟩
    exact I7.ext rfl (by rw [fE_eq 16 5 65536 31 32 rfl rfl rfl (by omega) h0 h1]) (by rw [fE_eq 5 5 32 31 32 rfl rfl rfl (by omega) h0 h1]) (by rw [fE_eq 0 5 1 31 32 rfl rfl rfl (by omega) h0 h1, Int.ediv_one]) rfl rfl rfl
  | 37, _, h => absurd rfl h
  | 38, _, _ => by
    show (⟨_, _, _, _, _, _, _⟩ : I7) = ⟨_, _, _, _, _, _, _⟩
    exact I7.ext rfl rfl rfl rfl rfl rfl rfl
  | 39, _, _ => by
    show (⟨_, _, _, _, _, _, _⟩ : I7) = ⟨_, _, _, _, _, _, _⟩
    exact I7.ext rfl rfl rfl rfl rfl rfl rfl
  | 40, _, _ => by
    show (⟨_, _, _, _, _, _, _⟩ : I7) = ⟨_, _, _, _, _, _, _⟩
    exact I7.ext rfl rfl (by rw [fE_eq 0 5 1 31 32 rfl rfl rfl (by omega) h0 h1, Int.ediv_one]) rfl rfl rfl rfl
  | 41, _, _ => by
    show (⟨_, _, _, _, _, _, _⟩ : I7) = ⟨_, _, _, _, _, _, _⟩
    exact I7.ext rfl rfl (by rw [fE_eq 0 5 1 31 32 rfl rfl rfl (by omega) h0 h1, Int.ediv_one]) rfl rfl rfl rfl
  | 42, _, _ => by
    show (⟨_, _, _, _, _, _, _⟩ : I7) = ⟨_, _, _, _, _, _, _⟩
    exact I7.ext rfl rfl rfl rfl rfl rfl (by rw [fE_eq 5 16 32 65535 65536 rfl rfl rfl (by omega) h0 h1])
  | k + 43, h, _ => absurd h (by omega)
def udfE (w : Int) : V := insV 0 0 0 0 0 0 (IntKind.i64.wrap (Go.bits .and .u32 w 65535))
theorem udfE_eq {w : Int} (h0 : 0 ≤ w) (h1 : w < 4294967296) : udfE w = (udf w).v := by
  have h := fE_eq (w := w) 0 16 1 65535 65536 rfl rfl rfl (by omega) h0 h1
  unfold fE at h
  rw [Int.fdiv_eq_ediv_of_nonneg _ (by omega), Int.ediv_one] at h
  unfold udfE udf I7.v
  rw [h]
def leafM (w : Int) (i : I7) : Option V := Br (chkV i.op i.d i.n i.m i.a i.c i.im == 0) (Br (i.word == w) (some i.v) (some (udfE w))) (some (udfE w))
def leafK (w : Int) (k : Nat) : Option V := match k with
  | 0 => Br (0 == w) (some (udfE w)) (some (udfE w))
  | 37 => none
  | k => leafM w (decE k w)
def kindA : List V → Sto → Option Ans := fun args s => match args with
  | [.raw (.int .u32 w)] => some (chainG Ans.br (fun k => match k with
    | 37 => .no
    | k => .one (.ret (.raw (.int .i64 (k : Nat)))) s) (kindL w))
  | _ => none
set_option maxRecDepth 1000000 in
theorem kind_run (w : Int) : runI Try.prog noE 60 15 [.raw (.int .u32 w)] = chainG Br (fun k => some (.raw (.int .i64 (k : Nat)))) (kindL w) := by kernel_rfl
theorem kind_call (w : Int) : CallOk Try.prog 15 [.raw (.int .u32 w)] [] fun r _ => r = .ret (.raw (.int .i64 (chainX (kindL w) : Nat))) := runI_ok noE_ok names mixed (n := 60) (by rw [kind_run, chain_Br])
theorem kindA_ok {E : Eh} (hE : EOk Try.prog E) : EOk Try.prog (addE 15 kindA E) := by
  refine addE_ok hE fun args s a h hf => ?_
  unfold kindA at h
  split at h
  · rename_i w
    cases h
    have h1 := chain_fine _ _ hf
    refine ((kind_call w).anywhere (s := s) ⟨trivial, trivial⟩ trivial).mono fun r s' ⟨h2, h3⟩ => chain_is _ _ ?_
    subst h2 h3
    generalize chainX (kindL w) = k at h1 ⊢
    split at h1
    · exact h1.elim
    · exact ⟨rfl, rfl⟩
  · cases h
noncomputable def EK : Eh := addE 15 kindA (specE 12 wordG noE)
theorem EK_ok : EOk Try.prog EK := kindA_ok (wordG_ok noE_ok)
set_option maxRecDepth 1000000 in
theorem ins_run (w : Int) : runI Try.prog EK 80 7 [.raw (.int .u32 w)] = chainG Br (leafK w) (kindL w) := by kernel_rfl
noncomputable def EW1 : Eh := specE 12 wordG noE
theorem EW1_ok : EOk Try.prog EW1 := wordG_ok noE_ok
set_option maxRecDepth 1000000 in
theorem bar_run_0 : runI Try.prog EW1 80 7 [.raw (.int .u32 3573756095)] = some (decI 3573756095).v := by kernel_rfl
set_option maxRecDepth 1000000 in
theorem bar_run_1 : runI Try.prog EW1 80 7 [.raw (.int .u32 3573756351)] = some (decI 3573756351).v := by kernel_rfl
set_option maxRecDepth 1000000 in
theorem bar_run_2 : runI Try.prog EW1 80 7 [.raw (.int .u32 3573756607)] = some (decI 3573756607).v := by kernel_rfl
set_option maxRecDepth 1000000 in
theorem bar_run_3 : runI Try.prog EW1 80 7 [.raw (.int .u32 3573756863)] = some (decI 3573756863).v := by kernel_rfl
set_option maxRecDepth 1000000 in
theorem bar_run_4 : runI Try.prog EW1 80 7 [.raw (.int .u32 3573757119)] = some (decI 3573757119).v := by kernel_rfl
set_option maxRecDepth 1000000 in
theorem bar_run_5 : runI Try.prog EW1 80 7 [.raw (.int .u32 3573757375)] = some (decI 3573757375).v := by kernel_rfl
set_option maxRecDepth 1000000 in
theorem bar_run_6 : runI Try.prog EW1 80 7 [.raw (.int .u32 3573757631)] = some (decI 3573757631).v := by kernel_rfl
set_option maxRecDepth 1000000 in
theorem bar_run_7 : runI Try.prog EW1 80 7 [.raw (.int .u32 3573757887)] = some (decI 3573757887).v := by kernel_rfl
set_option maxRecDepth 1000000 in
theorem bar_run_8 : runI Try.prog EW1 80 7 [.raw (.int .u32 3573758143)] = some (decI 3573758143).v := by kernel_rfl
set_option maxRecDepth 1000000 in
theorem bar_run_9 : runI Try.prog EW1 80 7 [.raw (.int .u32 3573758399)] = some (decI 3573758399).v := by kernel_rfl
set_option maxRecDepth 1000000 in
theorem bar_run_10 : runI Try.prog EW1 80 7 [.raw (.int .u32 3573758655)] = some (decI 3573758655).v := by kernel_rfl
set_option maxRecDepth 1000000 in
theorem bar_run_11 : runI Try.prog EW1 80 7 [.raw (.int .u32 3573758911)] = some (decI 3573758911).v := by kernel_rfl
set_option maxRecDepth 1000000 in
theorem bar_run_12 : runI Try.prog EW1 80 7 [.raw (.int .u32 3573759167)] = some (decI 3573759167).v := by kernel_rfl
set_option maxRecDepth 1000000 in
theorem bar_run_13 : runI Try.prog EW1 80 7 [.raw (.int .u32 3573759423)] = some (decI 3573759423).v := by kernel_rfl
set_option maxRecDepth 1000000 in
theorem bar_run_14 : runI Try.prog EW1 80 7 [.raw (.int .u32 3573759679)] = some (decI 3573759679).v := by kernel_rfl
set_option maxRecDepth 1000000 in
theorem bar_run_15 : runI Try.prog EW1 80 7 [.raw (.int .u32 3573759935)] = some (decI 3573759935).v := by kernel_rfl
theorem ite_ne {p : Prop} [Decidable p] {a b : Nat} (ha : a ≠ 37) (hb : b ≠ 37) : (if p then a else b) ≠ 37 := by
  by_cases h : p
  · rw [if_pos h]; exact ha
  · rw [if_neg h]; exact hb
theorem ins_call {w : Int} (h0 : 0 ≤ w) (h1 : w < 4294967296) : CallOk Try.prog 7 [.raw (.int .u32 w)] [] fun r _ => r = .ret (decI w).v := by
  by_cases hk : kindN w = 37
  · have h37 : w / 4096 = 872499 ∧ w % 256 = 191 := Decidable.byContradiction fun hn => absurd hk (by
      unfold kindN
      repeat (refine ite_ne (by omega) ?_)
      rw [if_neg hn]
      repeat (refine ite_ne (by omega) ?_)
      omega)
    rcases (show w = 3573756095 ∨ w = 3573756351 ∨ w = 3573756607 ∨ w = 3573756863 ∨ w = 3573757119 ∨ w = 3573757375 ∨ w = 3573757631 ∨ w = 3573757887 ∨ w = 3573758143 ∨ w = 3573758399 ∨ w = 3573758655 ∨ w = 3573758911 ∨ w = 3573759167 ∨ w = 3573759423 ∨ w = 3573759679 ∨ w = 3573759935 by omega) with rfl | rfl | rfl | rfl | rfl | rfl | rfl | rfl | rfl | rfl | rfl | rfl | rfl | rfl | rfl | rfl
    · exact runI_ok EW1_ok names mixed (n := 80) bar_run_0
    · exact runI_ok EW1_ok names mixed (n := 80) bar_run_1
    · exact runI_ok EW1_ok names mixed (n := 80) bar_run_2
    · exact runI_ok EW1_ok names mixed (n := 80) bar_run_3
    · exact runI_ok EW1_ok names mixed (n := 80) bar_run_4
    · exact runI_ok EW1_ok names mixed (n := 80) bar_run_5
    · exact runI_ok EW1_ok names mixed (n := 80) bar_run_6
    · exact runI_ok EW1_ok names mixed (n := 80) bar_run_7
    · exact runI_ok EW1_ok names mixed (n := 80) bar_run_8
    · exact runI_ok EW1_ok names mixed (n := 80) bar_run_9
    · exact runI_ok EW1_ok names mixed (n := 80) bar_run_10
    · exact runI_ok EW1_ok names mixed (n := 80) bar_run_11
    · exact runI_ok EW1_ok names mixed (n := 80) bar_run_12
    · exact runI_ok EW1_ok names mixed (n := 80) bar_run_13
    · exact runI_ok EW1_ok names mixed (n := 80) bar_run_14
    · exact runI_ok EW1_ok names mixed (n := 80) bar_run_15
  · refine runI_ok EK_ok names mixed (n := 80) ?_
    rw [ins_run, chain_Br, kindL_eq h0 h1]
    have hlt := kind_lt w
    unfold decI
    by_cases h : kindN w = 0
    · rw [if_neg (fun hh => hh.1 h), h]
      show Br (0 == w) (some (udfE w)) (some (udfE w)) = _
      rw [Br_same, udfE_eq h0 h1]
    · have e : leafK w (kindN w) = leafM w (decE (kindN w) w) := by
        generalize kindN w = k at hk h
        match k, hk, h with
        | 0, _, h => exact absurd rfl h
        | 37, h, _ => exact absurd rfl h
        | k + 1, hq, _ =>
          unfold leafK
          split
          · rename_i h3; exact absurd h3 (by omega)
          · rename_i h3; exact absurd h3 hq
          · rfl
      rw [e, decE_eq h0 h1 _ hlt hk]
      unfold leafM
      by_cases c1 : (decF (kindN w) w).ok
      · have c2 : chkV (decF (kindN w) w).op (decF (kindN w) w).d (decF (kindN w) w).n (decF (kindN w) w).m (decF (kindN w) w).a (decF (kindN w) w).c (decF (kindN w) w).im = 0 := if_pos c1
        rw [c2]
        by_cases c3 : (decF (kindN w) w).word = w
        · rw [if_pos ⟨h, c1, c3⟩]
          show Br ((decF (kindN w) w).word == w) _ _ = _
          rw [c3, beq_self_eq_true]; rfl
        · rw [if_neg (fun hh => c3 hh.2.2)]
          show Br ((decF (kindN w) w).word == w) _ _ = _
          rw [beq_dec, Br_if, udfE_eq h0 h1]
          exact if_neg c3
      · have c2 : chkV (decF (kindN w) w).op (decF (kindN w) w).d (decF (kindN w) w).n (decF (kindN w) w).m (decF (kindN w) w).a (decF (kindN w) w).c (decF (kindN w) w).im = 1 := if_neg c1
        rw [c2, if_neg (fun hh => c1 hh.2.1), udfE_eq h0 h1]; rfl
def decA : List V → Sto → Option Ans := fun args s => match args with
  | [.raw (.int .u32 w)] => some (.br (decide (0 ≤ w ∧ w < 4294967296)) (.one (.ret (decI w).v) s) .no)
  | _ => none
theorem decA_ok {E : Eh} (hE : EOk Try.prog E) : EOk Try.prog (addE 7 decA E) := by
  refine addE_ok hE fun args s a h hf => ?_
  unfold decA at h
  split at h
  · rename_i w
    cases h
    rcases hf with ⟨hb, _⟩ | ⟨_, hf⟩
    · have h2 := of_decide_eq_true hb
      exact ((ins_call h2.1 h2.2).anywhere (s := s) ⟨trivial, trivial⟩ (insV_bd ..)).mono fun r s' h3 => .inl ⟨hb, h3⟩
    · exact hf.elim
  · cases h
end Go.Proofs.Ytjoopjhimgdgdaa.isa
