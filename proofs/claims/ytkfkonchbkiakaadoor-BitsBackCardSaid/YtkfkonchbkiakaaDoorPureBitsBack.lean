/- BitsBack: whatever the word, the place, the count, the value and the two numbers: the law returns true and leaves its arguments as they were. No condition. -/
import Derived.Test.YtkfkonchbkiakaaDoorPHex
namespace Go.Proofs.YtkfkonchbkiakaaDoor.Pure
set_option linter.unusedVariables false
set_option linter.unusedSimpArgs false
open Go.RowKit Go.Proofs.YtkfkonchbkiakaaDoor.Q Go.Proofs.YtkfkonchbkiakaaDoorW.PrintWords Go.Proofs.YtkfkonchbkiakaaDoorW.PrintLast Go.Proofs.YtkfkonchbkiakaaDoorW.PrintMore Go.Proofs.YtkfkonchbkiakaaDoor.P1 Go.Proofs.YtkfkonchbkiakaaDoor.X
theorem fld_put (w lo n v : Nat) (hw : w < 4294967296) (h : lo + n ≤ 32) : fld (putv w lo n v) lo n = fld v 0 n := by
  apply Nat.eq_of_testBit_eq
  intro i
  rw [fld_bit, fld_bit, putv_bit w lo n v _ hw h]
  by_cases hi : i < n
  · rw [if_pos (by omega)]
    simp
  · simp [hi]
theorem put_fld (w lo n v : Nat) (hw : w < 4294967296) (h : lo + n ≤ 32) : putv (putv w lo n v) lo n (fld w lo n) = w := by
  apply Nat.eq_of_testBit_eq
  intro i
  rw [putv_bit _ lo n _ _ (putv_lt w lo n v hw h) h, putv_bit w lo n v _ hw h, fld_bit]
  by_cases hi : lo ≤ i ∧ i < lo + n
  · rw [if_pos hi]
    have h1 : i - lo < n := by omega
    have h2 : i - lo + lo = i := by omega
    simp [h1, h2]
  · rw [if_neg hi, if_neg hi]
theorem fld_lt (w lo n : Nat) (hw : w < 4294967296) : fld w lo n < 4294967296 := by
  unfold fld
  have h1 := Nat.mod_le (w / 2 ^ lo) (2 ^ n)
  have h2 := Nat.div_le_self w (2 ^ lo)
  omega
theorem sext_back (a : Int) (a0 : -9223372036854775808 ≤ a) (a1 : a < 9223372036854775808) : sx (IntKind.u64.wrap a) 64 = a := by
  unfold sx
  rw [u64w]
  simp only [show (2 : Int) ^ 64 = 18446744073709551616 from rfl, show (2 : Int) ^ (64 - 1) = 9223372036854775808 from rfl]
  split <;> omega
theorem j3_true (k : Nat) (n a : Int) (hk : 4000 < k) : brazierlaw1_BitsBack.j3 k n a false = some true := by
  obtain ⟨k, rfl⟩ : ∃ m, k = m + 1 := ⟨k - 1, by omega⟩
  have hu : 0 ≤ IntKind.u64.wrap a ∧ IntKind.u64.wrap a < 18446744073709551616 := by rw [u64w]; omega
  obtain ⟨s, h1, h2, h3⟩ := hex_back (IntKind.u64.wrap a) n hu.1 hu.2
  simp only [brazierlaw1_BitsBack.j3, Bool.false_eq_true, if_false]
  rw [h1]
  simp only [Option.bind_some]
  rw [read_eq s (by omega) k (by omega), h3]
  simp
theorem j2_true (k : Nat) (n a b : Int) (a0 : -9223372036854775808 ≤ a) (a1 : a < 9223372036854775808) (b0 : -9223372036854775808 ≤ b) (b1 : b < 9223372036854775808) (hk : 4001 < k) : brazierlaw1_BitsBack.j2 k n a b false = some true := by
  obtain ⟨k, rfl⟩ : ∃ m, k = m + 1 := ⟨k - 1, by omega⟩
  have h3 := j3_true k n a (by omega)
  simp only [brazierlaw1_BitsBack.j2, Bool.false_eq_true, if_false]
  have fin : ∀ q r : Int, bits_Div.f a b = some q → bits_Rem.f a b = some r → wrap64 (wrap64 (q * b) + r) = a → (b ≠ 0 → r ≠ 0 → decide (r < 0) = decide (a < 0)) →
      ((bits_Div.f a b).bind fun t187 => ((bits_Rem.f a b).bind fun t188 => (if (wrap64 ((wrap64 (t187 * b)) + t188)) = a then (if b = 0 then (brazierlaw1_BitsBack.j3 k n a false) else (if t188 = 0 then (brazierlaw1_BitsBack.j3 k n a false) else (brazierlaw1_BitsBack.j3 k n a ((decide (t188 < 0)) != (decide (a < 0)))))) else (brazierlaw1_BitsBack.j3 k n a true)))) = some true := by
    intro q r hq hr he hs
    rw [hq, hr]
    simp only [Option.bind_some]
    rw [if_pos he]
    by_cases c1 : b = 0
    · rw [if_pos c1, h3]
    · rw [if_neg c1]
      by_cases c2 : r = 0
      · rw [if_pos c2, h3]
      · rw [if_neg c2, hs c1 c2, bne_self_eq_false, h3]
  by_cases c1 : b = 0
  · refine fin 0 a (by unfold bits_Div.f; rw [if_pos c1]) ?_ (by rw [Int.zero_mul]; unfold wrap64; omega) (fun h => absurd c1 h)
    unfold bits_Rem.f bits_Div.f
    rw [if_pos c1]
    simp only [Option.bind_some, Int.zero_mul]
    refine congrArg some ?_
    unfold wrap64; omega
  · by_cases c2 : b = -1
    · have hq : bits_Div.f a b = some (wrap64 (-a)) := by unfold bits_Div.f; rw [if_neg c1, if_pos c2]
      have hr : bits_Rem.f a b = some 0 := by
        unfold bits_Rem.f
        rw [hq]
        simp only [Option.bind_some]
        refine congrArg some ?_
        rw [c2]
        unfold wrap64; omega
      refine fin _ _ hq hr ?_ (fun _ h => absurd rfl h)
      rw [c2]
      unfold wrap64; omega
    · have hm := Int.mul_tdiv_add_tmod a b
      have hab : (Int.tmod a b).natAbs ≤ a.natAbs ∧ (0 ≤ a → 0 ≤ Int.tmod a b) ∧ (a ≤ 0 → Int.tmod a b ≤ 0) := by
        refine ⟨?_, ?_, ?_⟩
        · rw [Int.natAbs_tmod]; exact Nat.mod_le _ _
        · intro h; exact Int.tmod_nonneg b h
        · intro h
          have : 0 ≤ Int.tmod (-a) b := Int.tmod_nonneg b (by omega)
          rw [Int.neg_tmod] at this
          omega
      obtain ⟨t1, t2, t3⟩ := hab
      have hdv : (Int.tdiv a b).natAbs ≤ a.natAbs := by rw [Int.natAbs_tdiv]; exact Nat.div_le_self _ _
      have hd2 : Int.tdiv a b ≠ 9223372036854775808 := by
        intro h
        have e1 : (Int.tdiv a b).natAbs = a.natAbs / b.natAbs := Int.natAbs_tdiv a b
        rw [h] at e1
        have hb2 : 2 ≤ b.natAbs ∨ b = 1 := by omega
        rcases hb2 with hb2 | hb2
        · have : a.natAbs / b.natAbs ≤ a.natAbs / 2 := Nat.div_le_div_left hb2 (by omega)
          omega
        · rw [hb2, Int.tdiv_one] at h
          omega
      have hq : bits_Div.f a b = some (Int.tdiv a b) := by
        unfold bits_Div.f
        rw [if_neg c1, if_neg c2]
        refine congrArg some ?_
        unfold wrap64; omega
      have hmul : Int.tdiv a b * b = a - Int.tmod a b := by rw [Int.mul_comm]; omega
      have hr : bits_Rem.f a b = some (Int.tmod a b) := by
        unfold bits_Rem.f
        rw [hq]
        simp only [Option.bind_some]
        refine congrArg some ?_
        rw [hmul]
        unfold wrap64; omega
      refine fin _ _ hq hr ?_ ?_
      · rw [hmul]
        unfold wrap64; omega
      · intro _ h
        by_cases ha : a < 0
        · rw [decide_eq_true ha, decide_eq_true (by omega)]
        · rw [decide_eq_false ha, decide_eq_false (by omega)]
theorem j1_true (k : Nat) (n a b : Int) (n0 : -9223372036854775808 ≤ n) (n1 : n < 9223372036854775808) (a0 : -9223372036854775808 ≤ a) (a1 : a < 9223372036854775808) (b0 : -9223372036854775808 ≤ b) (b1 : b < 9223372036854775808) (hk : 4002 < k) : brazierlaw1_BitsBack.j1 k n a b = some true := by
  obtain ⟨k, rfl⟩ : ∃ m, k = m + 1 := ⟨k - 1, by omega⟩
  have h2 := j2_true k n a b a0 a1 b0 b1 (by omega)
  have hu : 0 ≤ IntKind.u64.wrap a ∧ IntKind.u64.wrap a < 18446744073709551616 := by rw [u64w]; omega
  have hs := sext_eq (IntKind.u64.wrap a) n hu.1 hu.2 n0 n1
  have hf : bits_Fits.f a n = some (decide (1 ≤ n ∧ n ≤ 64 ∧ sx (IntKind.u64.wrap a) n.toNat = a)) := by
    unfold bits_Fits.f
    rw [hs]
    by_cases c1 : n ≥ 1
    · rw [if_pos c1]
      by_cases c2 : n ≤ 64
      · rw [if_pos c2, if_pos ⟨c1, c2⟩]
        simp only [Option.bind_some]
        refine congrArg some ?_
        apply Bool.eq_iff_iff.mpr
        simp only [beq_iff_eq, decide_eq_true_eq]
        exact ⟨fun h => ⟨c1, c2, h⟩, fun h => h.2.2⟩
      · rw [if_neg c2, decide_eq_false (fun h => c2 h.2.1)]
    · rw [if_neg c1, decide_eq_false (fun h => c1 h.1)]
  simp only [brazierlaw1_BitsBack.j1]
  rw [hf, hs]
  simp only [Option.bind_some]
  by_cases c : 1 ≤ n ∧ n ≤ 64 ∧ sx (IntKind.u64.wrap a) n.toNat = a
  · have hin : (if 1 ≤ n ∧ n ≤ 64 then sx (IntKind.u64.wrap a) n.toNat else wrap64 (IntKind.u64.wrap a)) = a := by rw [if_pos ⟨c.1, c.2.1⟩]; exact c.2.2
    rw [if_pos (decide_eq_true c), hin, if_pos rfl, decide_eq_true c]
    split
    · exact h2
    · exact h2
  · rw [if_neg (by simpa using c)]
    by_cases e : n = 64
    · subst e
      exact absurd ⟨by omega, by omega, sext_back a a0 a1⟩ c
    · rw [if_neg e]
      exact h2
theorem BitsBack : brazierlaw1_BitsBack.Pure := by
  intro w lo n v a b hw hlo hn hv ha hb
  refine ⟨5000, ?_⟩
  obtain ⟨w0, w1⟩ := wf_u32 hw
  obtain ⟨v0, v1⟩ := wf_u32 hv
  obtain ⟨lo0, lo1⟩ := wf_i64 hlo
  obtain ⟨n0, n1⟩ := wf_i64 hn
  obtain ⟨a0, a1⟩ := wf_i64 ha
  obtain ⟨b0, b1⟩ := wf_i64 hb
  obtain ⟨w, rfl⟩ := Int.eq_ofNat_of_zero_le w0
  obtain ⟨v, rfl⟩ := Int.eq_ofNat_of_zero_le v0
  have h1 : ∀ k, 4002 < k → brazierlaw1_BitsBack.j1 k n a b = some true := fun k hk => j1_true k n a b n0 n1 a0 a1 b0 b1 hk
  have hj : ∀ c : Bool, (c = true → Ok lo n) → brazierlaw1_BitsBack.j0 5000 w lo n v a b c = some true := by
    intro c hc
    rw [show (5000 : Nat) = 4999 + 1 from rfl]
    simp only [brazierlaw1_BitsBack.j0]
    cases c with
    | false => simp only [Bool.false_eq_true, if_false]; exact h1 4999 (by omega)
    | true =>
      have ok := hc rfl
      obtain ⟨k1, k2, k3, k4⟩ := ok
      have hln : lo.toNat + n.toNat ≤ 32 := by omega
      have ok := hc rfl
      have ok0 : Ok 0 n := ⟨by omega, by omega, k3, by omega⟩
      simp only [if_true]
      rw [put_eq w v lo n (by omega) (by omega) lo0 lo1, if_pos ok]
      simp only [Option.bind_some]
      have hpl := putv_lt w lo.toNat n.toNat v (by omega) hln
      rw [field_eq _ lo n hpl lo0 lo1, field_eq v 0 n (by omega) (by omega) (by omega), if_pos ok, if_pos ok0]
      simp only [Option.bind_some]
      rw [fld_put w lo.toNat n.toNat v (by omega) hln, show Int.toNat 0 = 0 from rfl, if_pos rfl, field_eq w lo n (by omega) lo0 lo1, if_pos ok]
      simp only [Option.bind_some]
      rw [put_eq _ _ lo n hpl (fld_lt _ _ _ (by omega)) lo0 lo1, if_pos ok]
      simp only [Option.bind_some]
      rw [put_fld w lo.toNat n.toNat v (by omega) hln, if_pos rfl]
      exact h1 4999 (by omega)
  unfold brazierlaw1_BitsBack.f
  rw [known_true]
  simp only [Option.bind_some, if_true]
  by_cases c1 : lo ≥ 0
  · rw [if_pos c1]
    by_cases c2 : lo ≤ 31
    · rw [if_pos c2]
      by_cases c3 : n ≥ 1
      · rw [if_pos c3]
        refine hj _ (fun h => ?_)
        have := of_decide_eq_true h
        have hs : wrap64 (32 - lo) = 32 - lo := by unfold wrap64; omega
        exact ⟨c1, c2, c3, by omega⟩
      · rw [if_neg c3]; exact hj false (fun h => by cases h)
    · rw [if_neg c2]; exact hj false (fun h => by cases h)
  · rw [if_neg c1]; exact hj false (fun h => by cases h)
end Go.Proofs.YtkfkonchbkiakaaDoor.Pure
