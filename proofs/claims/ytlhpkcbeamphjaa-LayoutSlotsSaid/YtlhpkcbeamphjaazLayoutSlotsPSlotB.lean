/- LayoutSlots: the slots' places, and the second loop's rounds. -/
import Derived.Test.YtlhpkcbeamphjaazLayoutSlotsPSlotA
namespace Go.Proofs.Ytlhpkcbeamphjaa.layoutSlots
open Go Go.Proofs Go.Proofs.YtlhpkcbeamphjaaRL
set_option linter.unusedVariables false
set_option linter.unusedSimpArgs false
/-- What an object's beginning and the tests on it come to. -/
structure Beg (g : Nat → Int) (n : Nat) (f : Nat → Int) (Q : Nat) : Prop where
  lt : decide ((Q : Int) < ((n + 1 : Nat) : Int)) = true
  blt : Nat.blt ((Q : Int).toNat + 0) (n + 1) = true
  get : f ((Q : Int).toNat + 0) = F g Q
  ge : decide (F g Q < 1) = false
  le : decide (F g Q > 65536) = false
  adr : IntKind.u64.wrap (2097152 + IntKind.u64.wrap (8 * IntKind.u64.wrap (IntKind.i64.wrap (F g Q - 1)))) = 2097152 + 8 * (F g Q - 1)
  bnd : 1 ≤ F g Q ∧ F g Q ≤ 65536
theorem beg {g : Nat → Int} {n : Nat} {f : Nat → Int} {Q : Nat} (hQ : Q ≤ n) (hf : ∀ j, j ≤ n → f j = F g j) (hb : F g n ≤ 65536) : Beg g n f Q := by
  have h1 := F_le g Q
  have h2 := F_mono g hQ
  refine ⟨decide_eq_true (by omega), blt_yes (by simp only [Int.toNat_natCast]; omega), hf Q hQ, decide_eq_false (by omega), decide_eq_false (by omega), ?_, by omega⟩
  rw [w64 (x := F g Q - 1) (by omega) (by omega), u64 (x := F g Q - 1) (by omega) (by omega), u64 (x := 8 * (F g Q - 1)) (by omega) (by omega), u64 (by omega) (by omega)]
theorem slot_eq {x a : Int} (h : 0 ≤ x ∧ x ≤ 9000000) (ha : 0 ≤ a ∧ a ≤ 49) : IntKind.u64.wrap (IntKind.u64.wrap (x + 24) + IntKind.u64.wrap (8 * IntKind.u64.wrap a)) = x + 24 + 8 * a := by
  rw [u64 (x := x + 24) (by omega) (by omega), u64 (x := a) (by omega) (by omega), u64 (x := 8 * a) (by omega) (by omega), u64 (by omega) (by omega)]
theorem midC_ok (g : Nat → Int) (n cap : Nat) (O P : Nat) (a b : Int) (f : Nat → Int) (K : Res → Prop) (Z : St → Prop) (hf : ∀ j, j ≤ n → f j = F g j) (hb : F g n ≤ 65536) (hO : O < n) (h0 : 0 ≤ a) (ha : a < X g O)
    (hz : Z (SE g n cap O a P b (pl g O a) (n + 1) f)) : midC_f g n cap O P a b (n + 1) f K Z := by
  unfold midC_f
  have B := beg (Q := O) (by omega) hf hb
  have hX := X_ge g O
  have hB := B.bnd
  have d0 : (2097152 + 8 * (F g O - 1) == 0) = false := by rw [beq_eq_false_iff_ne]; omega
  have d1 : decide (a < 0) = false := decide_eq_false (by omega)
  have e := slot_eq (x := 2097152 + 8 * (F g O - 1)) (a := a) (by omega) (by omega)
  simp only [B.lt, B.blt, B.get, B.ge, B.le, B.adr, d0, d1, e]
  exact hz
theorem midD_ok (g : Nat → Int) (n cap : Nat) (O P : Nat) (a b x : Int) (f : Nat → Int) (K : Res → Prop) (Z : St → Prop) (hf : ∀ j, j ≤ n → f j = F g j) (hb : F g n ≤ 65536) (hP : P < n) (h0 : 0 ≤ b) (ha : b < X g P)
    (hz : Z (SF g n cap O a P b x (pl g P b) (n + 1) f)) : midD_f g n cap O P a b x (n + 1) f K Z := by
  unfold midD_f
  have B := beg (Q := P) (by omega) hf hb
  have hX := X_ge g P
  have hB := B.bnd
  have d0 : (2097152 + 8 * (F g P - 1) == 0) = false := by rw [beq_eq_false_iff_ne]; omega
  have d1 : decide (b < 0) = false := decide_eq_false (by omega)
  have e := slot_eq (x := 2097152 + 8 * (F g P - 1)) (a := b) (by omega) (by omega)
  simp only [B.lt, B.blt, B.get, B.ge, B.le, B.adr, d0, d1, e]
  exact hz
theorem q1 : (true == true) = true := rfl
theorem q2 : (false == false) = true := rfl
theorem q3 : (true == false) = false := rfl
theorem q4 : (false == true) = false := rfl
/-- Unlike slots have unlike places. -/
theorem pl_inj {g : Nat → Int} {O P : Nat} {a b : Int} (ha : 0 ≤ a ∧ a < X g O) (hb : 0 ≤ b ∧ b < X g P) (h : pl g O a = pl g P b) : O = P ∧ a = b := by
  unfold pl at h
  rcases Nat.lt_trichotomy O P with hlt | rfl | hlt
  · have := F_mono g (i := O + 1) (j := P) hlt
    simp only [F] at this
    omega
  · exact ⟨rfl, by omega⟩
  · have := F_mono g (i := P + 1) (j := O) hlt
    simp only [F] at this
    omega
theorem midE_ok (g : Nat → Int) (n cap : Nat) (O P : Nat) (a b : Int) (f : Nat → Int) (K : Res → Prop) (Z : St → Prop) (hn : n ≤ 200) (hf : ∀ j, j ≤ n → f j = F g j) (hb : F g n ≤ 65536) (hO : O < n) (hP : P < n) (ha : 0 ≤ a ∧ a < X g O) (hb2 : 0 ≤ b ∧ b < X g P)
    (hz : Z (SC g n cap (pl g O a) (n + 1) 0 f)) : midE_f g n cap O P a b (pl g O a) (pl g P b) (n + 1) f K Z := by
  unfold midE_f
  have B := beg (Q := O) (by omega) hf hb
  have B1 := beg (Q := O + 1) (by omega) hf hb
  have hX := X_ge g O
  have hB := B.bnd
  have w1 : IntKind.i64.wrap ((O : Int) + 1) = ((O + 1 : Nat) : Int) := by rw [w64 (by omega) (by omega)]; rfl
  have l0 : decide (0 ≤ ((O + 1 : Nat) : Int)) = true := decide_eq_true (by omega)
  have e1 : IntKind.i64.wrap (IntKind.i64.wrap (F g (O + 1) - F g O) - 3) = X g O := by
    have : F g (O + 1) = F g O + 3 + X g O := rfl
    rw [this, w64 (x := F g O + 3 + X g O - F g O) (by omega) (by omega), w64 (by omega) (by omega)]
    omega
  have e2 : decide (X g O < 0) = false := decide_eq_false (by omega)
  have e3 : IntKind.u64.wrap (2097152 + 8 * (F g O - 1) + 24) = 2097152 + 8 * (F g O - 1) + 24 := u64 (by omega) (by omega)
  have e4 : decide (pl g O a < 2097152 + 8 * (F g O - 1) + 24) = false := decide_eq_false (by unfold pl; omega)
  have e5 : IntKind.u64.wrap (pl g O a + 8) = pl g O a + 8 := u64 (by unfold pl; omega) (by unfold pl; omega)
  have e6 : IntKind.u64.wrap (2097152 + 8 * (F g O - 1) + IntKind.u64.wrap (24 + IntKind.u64.wrap (8 * IntKind.u64.wrap (X g O)))) = 2097152 + 8 * (F g O - 1) + (24 + 8 * X g O) := by
    rw [u64 (x := X g O) (by omega) (by omega), u64 (x := 8 * X g O) (by omega) (by omega), u64 (x := 24 + 8 * X g O) (by omega) (by omega), u64 (by omega) (by omega)]
  have e7 : decide (pl g O a + 8 > 2097152 + 8 * (F g O - 1) + (24 + 8 * X g O)) = false := decide_eq_false (by unfold pl; omega)
  by_cases c : O = P
  · subst c
    have c1 : ((O : Int) == (O : Int)) = true := beq_self_eq_true _
    by_cases d : a = b
    · subst d
      have c2 : (pl g O a == pl g O a) = true := beq_self_eq_true _
      have c3 : (a == a) = true := beq_self_eq_true _
      simp only [c1, c2, c3, w1, l0, B.lt, B.blt, B.get, B.ge, B.le, B.adr, B1.lt, B1.blt, B1.get, e1, e2, e3, e4, e5, e6, e7, Bool.not_true, Bool.not_false, q1, q2, q3, q4]
      exact hz
    · have c2 : (pl g O a == pl g O b) = false := by rw [beq_eq_false_iff_ne]; exact fun h => d (pl_inj ha hb2 h).2
      have c3 : (a == b) = false := by rw [beq_eq_false_iff_ne]; exact d
      simp only [c1, c2, c3, w1, l0, B.lt, B.blt, B.get, B.ge, B.le, B.adr, B1.lt, B1.blt, B1.get, e1, e2, e3, e4, e5, e6, e7, Bool.not_true, Bool.not_false, q1, q2, q3, q4]
      exact hz
  · have c1 : ((O : Int) == (P : Int)) = false := by rw [beq_eq_false_iff_ne]; omega
    have c2 : (pl g O a == pl g P b) = false := by rw [beq_eq_false_iff_ne]; exact fun h => c (pl_inj ha hb2 h).1
    simp only [c1, c2, w1, l0, B.lt, B.blt, B.get, B.ge, B.le, B.adr, B1.lt, B1.blt, B1.get, e1, e2, e3, e4, e5, e6, e7, Bool.not_true, Bool.not_false, q1, q2, q3, q4]
    exact hz
theorem round3 (g : Nat → Int) (n cap : Nat) (O : Nat) (a : Int) (k : Nat) (f : Nat → Int) (K : Ex → St → Prop) (hn : n ≤ 200) (hk : k ≤ n) (hf : ∀ j, j ≤ n → f j = F g j) (hb : F g n ≤ 65536) (hO : O < n) (ha : 0 ≤ a ∧ a < X g O)
    (hx : k = n → K (.exit 2) (SC g n cap (pl g O a) (n + 1) n f)) (hs : k < n → K .normal (SC g n cap (pl g O a) (n + 1) (k + 1) f)) : body3_f g n cap (pl g O a) (n + 1) k f K := by
  unfold body3_f
  by_cases hlt : k < n
  · have h1 : decide ((k : Int) < (n : Int)) = true := decide_eq_true (by omega)
    have B := beg (Q := k) (by omega) hf hb
    have hB := B.bnd
    have wi : IntKind.i64.wrap ((k : Int) + 1) = ((k + 1 : Nat) : Int) := by rw [w64 (by omega) (by omega)]; rfl
    have d0 : (2097152 + 8 * (F g k - 1) == pl g O a) = false := by
      rw [beq_eq_false_iff_ne]
      unfold pl
      rcases Nat.lt_or_ge O k with h | h
      · have := F_mono g (i := O + 1) (j := k) h
        simp only [F] at this
        omega
      · have := F_mono g (i := k) (j := O) h
        omega
    simp only [h1, B.lt, B.blt, B.get, B.ge, B.le, B.adr, d0, wi]
    exact hs hlt
  · obtain rfl : k = n := by omega
    simp only [decide_eq_false (Int.lt_irrefl (k : Int))]
    exact hx rfl
end Go.Proofs.Ytlhpkcbeamphjaa.layoutSlots
