/- decI: it undoes words; what it tells is right. Printed by gendec.py. -/
import Derived.Test.YtjoopjhimgdgdaazDecBackIDecP
namespace Go.Proofs.Ytjoopjhimgdgdaa.isa
open Go Go.Proofs Go.Proofs.YtjoopjhimgdgdaaRL
set_option linter.unusedVariables false
set_option linter.unusedSimpArgs false
theorem kind_of {d n m a c imm : Int} : ∀ k : Nat, 0 < k → k < 43 → okP k d n m a c imm → kindN (wordP k d n m a c imm) = k
  | 0, h, _, _ => absurd h (by omega)
  | 1, _, _, h => kind_1 h rfl
  | 2, _, _, h => kind_2 h rfl
  | 3, _, _, h => kind_3 h rfl
  | 4, _, _, h => kind_4 h rfl
  | 5, _, _, h => kind_5 h rfl
  | 6, _, _, h => kind_6 h rfl
  | 7, _, _, h => kind_7 h rfl
  | 8, _, _, h => kind_8 h rfl
  | 9, _, _, h => kind_9 h rfl
  | 10, _, _, h => kind_10 h rfl
  | 11, _, _, h => kind_11 h rfl
  | 12, _, _, h => kind_12 h rfl
  | 13, _, _, h => kind_13 h rfl
  | 14, _, _, h => kind_14 h rfl
  | 15, _, _, h => kind_15 h rfl
  | 16, _, _, h => kind_16 h rfl
  | 17, _, _, h => kind_17 h rfl
  | 18, _, _, h => kind_18 h rfl
  | 19, _, _, h => kind_19 h rfl
  | 20, _, _, h => kind_20 h rfl
  | 21, _, _, h => kind_21 h rfl
  | 22, _, _, h => kind_22 h rfl
  | 23, _, _, h => kind_23 h rfl
  | 24, _, _, h => kind_24 h rfl
  | 25, _, _, h => kind_25 h rfl
  | 26, _, _, h => kind_26 h rfl
  | 27, _, _, h => kind_27 h rfl
  | 28, _, _, h => kind_28 h rfl
  | 29, _, _, h => kind_29 h rfl
  | 30, _, _, h => kind_30 h rfl
  | 31, _, _, h => kind_31 h rfl
  | 32, _, _, h => kind_32 h rfl
  | 33, _, _, h => kind_33 h rfl
  | 34, _, _, h => kind_34 h rfl
  | 35, _, _, h => kind_35 h rfl
  | 36, _, _, h => kind_36 h rfl
  | 37, _, _, h => kind_37 h rfl
  | 38, _, _, h => kind_38 h rfl
  | 39, _, _, h => kind_39 h rfl
  | 40, _, _, h => kind_40 h rfl
  | 41, _, _, h => kind_41 h rfl
  | 42, _, _, h => kind_42 h rfl
  | k + 43, _, h, _ => absurd h (by omega)
theorem dec_of {d n m a c imm : Int} : ∀ k : Nat, 0 < k → k < 43 → okP k d n m a c imm → decF k (wordP k d n m a c imm) = ⟨(k : Nat), d, n, m, a, c, imm⟩
  | 0, h, _, _ => absurd h (by omega)
  | 1, _, _, h => dec_1 h rfl
  | 2, _, _, h => dec_2 h rfl
  | 3, _, _, h => dec_3 h rfl
  | 4, _, _, h => dec_4 h rfl
  | 5, _, _, h => dec_5 h rfl
  | 6, _, _, h => dec_6 h rfl
  | 7, _, _, h => dec_7 h rfl
  | 8, _, _, h => dec_8 h rfl
  | 9, _, _, h => dec_9 h rfl
  | 10, _, _, h => dec_10 h rfl
  | 11, _, _, h => dec_11 h rfl
  | 12, _, _, h => dec_12 h rfl
  | 13, _, _, h => dec_13 h rfl
  | 14, _, _, h => dec_14 h rfl
  | 15, _, _, h => dec_15 h rfl
  | 16, _, _, h => dec_16 h rfl
  | 17, _, _, h => dec_17 h rfl
  | 18, _, _, h => dec_18 h rfl
  | 19, _, _, h => dec_19 h rfl
  | 20, _, _, h => dec_20 h rfl
  | 21, _, _, h => dec_21 h rfl
  | 22, _, _, h => dec_22 h rfl
  | 23, _, _, h => dec_23 h rfl
  | 24, _, _, h => dec_24 h rfl
  | 25, _, _, h => dec_25 h rfl
  | 26, _, _, h => dec_26 h rfl
  | 27, _, _, h => dec_27 h rfl
  | 28, _, _, h => dec_28 h rfl
  | 29, _, _, h => dec_29 h rfl
  | 30, _, _, h => dec_30 h rfl
  | 31, _, _, h => dec_31 h rfl
  | 32, _, _, h => dec_32 h rfl
  | 33, _, _, h => dec_33 h rfl
  | 34, _, _, h => dec_34 h rfl
  | 35, _, _, h => dec_35 h rfl
  | 36, _, _, h => dec_36 h rfl
  | 37, _, _, h => dec_37 h rfl
  | 38, _, _, h => dec_38 h rfl
  | 39, _, _, h => dec_39 h rfl
  | 40, _, _, h => dec_40 h rfl
  | 41, _, _, h => dec_41 h rfl
  | 42, _, _, h => dec_42 h rfl
  | k + 43, _, h, _ => absurd h (by omega)
theorem dec_word {i : I7} (h : i.ok) (h0 : i.op ≠ 0) : decI i.word = i := by
  obtain ⟨op, d, n, m, a, c, imm⟩ := i
  obtain ⟨h1, h2⟩ := h
  dsimp only at h0 h1 h2
  obtain ⟨k, rfl⟩ := Int.eq_ofNat_of_zero_le h1.1
  have e1 : (⟨(k : Nat), d, n, m, a, c, imm⟩ : I7).word = wordP k d n m a c imm := if_pos ⟨h1, h2⟩
  have e2 : kindN (wordP k d n m a c imm) = k := kind_of k (by omega) (by omega) h2
  have e3 : decF k (wordP k d n m a c imm) = ⟨(k : Nat), d, n, m, a, c, imm⟩ := dec_of k (by omega) (by omega) h2
  rw [e1]
  unfold decI
  rw [e2, e3]
  exact if_pos ⟨by omega, ⟨h1, h2⟩, e1⟩
theorem udf_ok {w : Int} (h0 : 0 ≤ w) : (udf w).ok := by
  refine ⟨by show (0 : Int) ≤ 0 ∧ (0 : Int) ≤ 42; omega, ?_⟩
  have h : (0 : Int) = 0 ∧ (0 : Int) = 0 ∧ (0 : Int) = 0 ∧ (0 : Int) = 0 ∧ (0 : Int) = 0 ∧ True ∧ (0 ≤ w % 65536 ∧ w % 65536 < 65536) := ⟨rfl, rfl, rfl, rfl, rfl, trivial, by omega⟩
  show okP 0 0 0 0 0 0 (w % 65536)
  exact h
theorem dec_ok {w : Int} (h0 : 0 ≤ w) : (decI w).ok := by
  unfold decI
  split
  · rename_i h; exact h.2.1
  · exact udf_ok h0
theorem decF_op : ∀ (k : Nat) (w : Int), k < 43 → (decF k w).op = (k : Nat)
  | 0, _, _ => rfl
  | 1, _, _ => rfl
  | 2, _, _ => rfl
  | 3, _, _ => rfl
  | 4, _, _ => rfl
  | 5, _, _ => rfl
  | 6, _, _ => rfl
  | 7, _, _ => rfl
  | 8, _, _ => rfl
  | 9, _, _ => rfl
  | 10, _, _ => rfl
  | 11, _, _ => rfl
  | 12, _, _ => rfl
  | 13, _, _ => rfl
  | 14, _, _ => rfl
  | 15, _, _ => rfl
  | 16, _, _ => rfl
  | 17, _, _ => rfl
  | 18, _, _ => rfl
  | 19, _, _ => rfl
  | 20, _, _ => rfl
  | 21, _, _ => rfl
  | 22, _, _ => rfl
  | 23, _, _ => rfl
  | 24, _, _ => rfl
  | 25, _, _ => rfl
  | 26, _, _ => rfl
  | 27, _, _ => rfl
  | 28, _, _ => rfl
  | 29, _, _ => rfl
  | 30, _, _ => rfl
  | 31, _, _ => rfl
  | 32, _, _ => rfl
  | 33, _, _ => rfl
  | 34, _, _ => rfl
  | 35, _, _ => rfl
  | 36, _, _ => rfl
  | 37, _, _ => rfl
  | 38, _, _ => rfl
  | 39, _, _ => rfl
  | 40, _, _ => rfl
  | 41, _, _ => rfl
  | 42, _, _ => rfl
  | k + 43, _, h => absurd h (by omega)
theorem ite_lt {p : Prop} [Decidable p] {a b : Nat} (ha : a < 43) (hb : b < 43) : (if p then a else b) < 43 := by
  by_cases h : p
  · rw [if_pos h]; exact ha
  · rw [if_neg h]; exact hb
theorem kind_lt (w : Int) : kindN w < 43 := by
  unfold kindN
  repeat (refine ite_lt (by omega) ?_)
  omega
/-- What it tells has that word, if it is no UDF. -/
theorem dec_back {w : Int} (h : (decI w).op ≠ 0) : (decI w).word = w := by
  unfold decI at h ⊢
  split
  · rename_i h1; exact h1.2.2
  · rename_i h1; rw [if_neg h1] at h; exact absurd rfl h
theorem dec_udf {w : Int} (h : (decI w).op = 0) : decI w = udf w := by
  unfold decI at h ⊢
  split
  · rename_i h1
    rw [if_pos h1, decF_op _ _ (kind_lt w)] at h
    exact absurd (by omega) h1.1
  · rfl
/-- A UDF's word is one's that is no other instruction's. -/
theorem dec_word0 {i : I7} (h : i.ok) (h0 : i.op = 0) : decI i.word = i := by
  obtain ⟨op, d, n, m, a, c, imm⟩ := i
  dsimp only at h0
  subst h0
  obtain ⟨h1, h2⟩ := h
  dsimp only at h1 h2
  have e1 : (⟨0, d, n, m, a, c, imm⟩ : I7).word = 0 + imm := if_pos ⟨h1, h2⟩
  obtain ⟨hd, hn, hm, ha, hc, hz, hi⟩ : d = 0 ∧ n = 0 ∧ m = 0 ∧ a = 0 ∧ c = 0 ∧ True ∧ (0 ≤ imm ∧ imm < 65536) := h2
  rw [e1]
  have hk : kindN (0 + imm) = 0 := by
    unfold kindN
    rw [if_neg (show ¬ ((0 + imm) / 67108864 = 5) by omega)]
    rw [if_neg (show ¬ ((0 + imm) / 67108864 = 37) by omega)]
    rw [if_neg (show ¬ ((0 + imm) / 16777216 = 84) by omega)]
    rw [if_neg (show ¬ ((0 + imm) / 16777216 = 180) by omega)]
    rw [if_neg (show ¬ ((0 + imm) / 16777216 = 181) by omega)]
    rw [if_neg (show ¬ ((0 + imm) / 8388608 = 421) by omega)]
    rw [if_neg (show ¬ ((0 + imm) / 8388608 = 485) by omega)]
    rw [if_neg (show ¬ ((0 + imm) / 2097152 = 1696) by omega)]
    rw [if_neg (show ¬ ((0 + imm) = 3573751839) by omega)]
    rw [if_neg (show ¬ ((0 + imm) / 4194304 = 580) by omega)]
    rw [if_neg (show ¬ ((0 + imm) / 4194304 = 836) by omega)]
    rw [if_neg (show ¬ ((0 + imm) / 4194304 = 964) by omega)]
    rw [if_neg (show ¬ ((0 + imm) / 2097152 = 1112 ∧ (0 + imm) / 1024 % 64 = 0) by omega)]
    rw [if_neg (show ¬ ((0 + imm) / 2097152 = 1624 ∧ (0 + imm) / 1024 % 64 = 0) by omega)]
    rw [if_neg (show ¬ ((0 + imm) / 2097152 = 1880 ∧ (0 + imm) / 1024 % 64 = 0) by omega)]
    rw [if_neg (show ¬ ((0 + imm) / 2097152 = 1104 ∧ (0 + imm) / 1024 % 64 = 0) by omega)]
    rw [if_neg (show ¬ ((0 + imm) / 2097152 = 1360 ∧ (0 + imm) / 1024 % 64 = 0) by omega)]
    rw [if_neg (show ¬ ((0 + imm) / 2097152 = 1616 ∧ (0 + imm) / 1024 % 64 = 0) by omega)]
    rw [if_neg (show ¬ ((0 + imm) / 2097152 = 1240 ∧ (0 + imm) / 32768 % 2 = 0) by omega)]
    rw [if_neg (show ¬ ((0 + imm) / 2097152 = 1240 ∧ (0 + imm) / 32768 % 2 = 1) by omega)]
    rw [if_neg (show ¬ ((0 + imm) / 2097152 = 1238 ∧ (0 + imm) / 1024 % 64 = 3) by omega)]
    rw [if_neg (show ¬ ((0 + imm) / 2097152 = 1238 ∧ (0 + imm) / 1024 % 64 = 8) by omega)]
    rw [if_neg (show ¬ ((0 + imm) / 2097152 = 1238 ∧ (0 + imm) / 1024 % 64 = 9) by omega)]
    rw [if_neg (show ¬ ((0 + imm) / 2097152 = 1238 ∧ (0 + imm) / 1024 % 64 = 10) by omega)]
    rw [if_neg (show ¬ ((0 + imm) / 2097152 = 1236 ∧ (0 + imm) / 1024 % 4 = 1) by omega)]
    rw [if_neg (show ¬ ((0 + imm) / 1024 = 3508160 ∧ (0 + imm) % 32 = 0) by omega)]
    rw [if_neg (show ¬ ((0 + imm) / 1024 = 3510208 ∧ (0 + imm) % 32 = 0) by omega)]
    rw [if_neg (show ¬ ((0 + imm) / 1024 = 3512256 ∧ (0 + imm) % 32 = 0) by omega)]
    rw [if_neg (show ¬ ((0 + imm) / 4194304 = 997) by omega)]
    rw [if_neg (show ¬ ((0 + imm) / 4194304 = 996) by omega)]
    rw [if_neg (show ¬ ((0 + imm) / 4194304 = 229) by omega)]
    rw [if_neg (show ¬ ((0 + imm) / 2097152 = 1987 ∧ (0 + imm) / 1024 % 64 = 30) by omega)]
    rw [if_neg (show ¬ ((0 + imm) / 2097152 = 1985 ∧ (0 + imm) / 1024 % 64 = 30) by omega)]
    rw [if_neg (show ¬ ((0 + imm) / 1024 = 3291135) by omega)]
    rw [if_neg (show ¬ ((0 + imm) / 1024 = 3287039) by omega)]
    rw [if_neg (show ¬ ((0 + imm) / 1024 = 3282911) by omega)]
    rw [if_neg (show ¬ ((0 + imm) / 2097152 = 1600 ∧ (0 + imm) / 1024 % 64 = 31) by omega)]
    rw [if_neg (show ¬ ((0 + imm) / 4096 = 872499 ∧ (0 + imm) % 256 = 191) by omega)]
    rw [if_neg (show ¬ ((0 + imm) = 3573758879) by omega)]
    rw [if_neg (show ¬ ((0 + imm) = 3573759967) by omega)]
    rw [if_neg (show ¬ ((0 + imm) / 32 = 111696857) by omega)]
    rw [if_neg (show ¬ ((0 + imm) / 32 = 111696809) by omega)]
  unfold decI
  rw [if_neg (fun h => h.1 hk)]
  unfold udf
  subst hd hn hm ha hc
  ext <;> dsimp only <;> omega
theorem dec_word' {i : I7} (h : i.ok) : decI i.word = i := by
  by_cases h0 : i.op = 0
  · exact dec_word0 h h0
  · exact dec_word h h0
end Go.Proofs.Ytjoopjhimgdgdaa.isa
