/- LayoutSlots: plain facts, the first loop's rounds. -/
import Derived.Test.YtlhpkcbeamphjaazLayoutSlotsPSlotF
namespace Go.Proofs.Ytlhpkcbeamphjaa.layoutSlots
open Go Go.Proofs Go.Proofs.YtlhpkcbeamphjaaRL
set_option linter.unusedVariables false
set_option linter.unusedSimpArgs false
theorem blt_yes {a b : Nat} (h : a < b) : Nat.blt a b = true := by rw [Nat.blt_eq]; exact h
theorem w64 {x : Int} (h1 : -9223372036854775808 ≤ x) (h2 : x ≤ 9223372036854775807) : IntKind.i64.wrap x = x := IntWalk.i64_in _ (by omega)
theorem u64 {x : Int} (h1 : 0 ≤ x) (h2 : x ≤ 9223372036854775807) : IntKind.u64.wrap x = x := IntWalk.u64_in _ (by omega)
theorem grow_ok {n : Nat} (h : n ≤ 1000) : growOk n 8 = true := by
  unfold growOk
  rw [Nat.ble_eq_true_of_le (by omega), Nat.ble_eq_true_of_le (by omega)]; rfl
/-- An object's slots. -/
def X (g : Nat → Int) (j : Nat) : Int := if (g j).tmod 50 < 0 then 0 - (g j).tmod 50 else (g j).tmod 50
theorem X_ge (g : Nat → Int) (j : Nat) : 0 ≤ X g j ∧ X g j ≤ 49 := by
  have h1 := Int.tmod_lt_of_pos (g j) (b := 50) (by omega)
  have h2 := Int.lt_tmod_of_pos (g j) (b := 50) (by omega)
  unfold X
  split <;> omega
/-- Where an object begins. -/
def F (g : Nat → Int) : Nat → Int
  | 0 => 1
  | j + 1 => F g j + 3 + X g j
theorem F_le (g : Nat → Int) : ∀ j : Nat, 1 ≤ F g j ∧ F g j ≤ 1 + 52 * (j : Int)
  | 0 => by simp [F]
  | j + 1 => by
    have h := F_le g j
    have := X_ge g j
    simp only [F]
    omega
theorem F_mono (g : Nat → Int) {i : Nat} : ∀ {j : Nat}, i ≤ j → F g i ≤ F g j
  | 0, h => by obtain rfl : i = 0 := by omega
               exact Int.le_refl _
  | j + 1, h => by
    rcases Nat.lt_or_ge i (j + 1) with h1 | h1
    · have := F_mono g (i := i) (j := j) (by omega)
      have := X_ge g j
      simp only [F]
      omega
    · obtain rfl : i = j + 1 := by omega
      exact Int.le_refl _
theorem bytes_eq {x : Int} (h : 0 ≤ x ∧ x ≤ 49) : (IntKind.u64.wrap (24 + IntKind.u64.wrap (8 * IntKind.u64.wrap x)) != IntKind.u64.wrap (IntKind.i64.wrap (24 + IntKind.i64.wrap (8 * x)))) = false := by
  rw [u64 (x := x) (by omega) (by omega), u64 (x := 8 * x) (by omega) (by omega), w64 (x := 8 * x) (by omega) (by omega), w64 (x := 24 + 8 * x) (by omega) (by omega)]
  exact bne_self_eq_false _
theorem roundA (g : Nat → Int) (n cap : Nat) (o a p b : Int) (K : Ex → St → Prop) (hn : 0 < n)
    (hs : ∀ f, f 0 = 1 → K .normal (SB g n cap o a p b (F g 1) 1 f)) : bodyA_f g n cap o a p b K := by
  unfold bodyA_f
  have h1 : decide (0 < (n : Int)) = true := decide_eq_true (by omega)
  have h2 : Nat.blt 0 n = true := blt_yes hn
  have hx := X_ge g 0
  by_cases c : (g 0).tmod 50 < 0
  · have hX : X g 0 = 0 - (g 0).tmod 50 := if_pos c
    rw [hX] at hx
    have w1 : IntKind.i64.wrap (0 - (g 0).tmod 50) = 0 - (g 0).tmod 50 := w64 (by omega) (by omega)
    have d2 : decide (0 - (g 0).tmod 50 < 0) = false := decide_eq_false (by omega)
    have w2 : IntKind.i64.wrap (4 + (0 - (g 0).tmod 50)) = F g 1 := by
      rw [w64 (by omega) (by omega)]
      simp only [F, hX]
      omega
    simp only [h1, h2, decide_eq_true c, w1, d2, bytes_eq hx, w2]
    exact hs _ rfl
  · have hX : X g 0 = (g 0).tmod 50 := if_neg c
    rw [hX] at hx
    have w2 : IntKind.i64.wrap (4 + ((g 0).tmod 50)) = F g 1 := by
      rw [w64 (by omega) (by omega)]
      simp only [F, hX]
      omega
    simp only [h1, h2, decide_eq_false c, bytes_eq hx, w2]
    exact hs _ rfl
theorem roundB (g : Nat → Int) (n cap : Nat) (o a p b : Int) (i : Nat) (f : Nat → Int) (K : Ex → St → Prop) (hn : n ≤ 200) (hi : i ≤ n) (hf : ∀ j, j < i → f j = F g j) (hx : i = n → K (.exit 0) (SB g n cap o a p b (F g n) n f))
    (hs : i < n → ∀ f', (∀ j, j < i + 1 → f' j = F g j) → K .normal (SB g n cap o a p b (F g (i + 1)) (i + 1) f')) : bodyB_f g n cap o a p b (F g i) i f K := by
  unfold bodyB_f
  by_cases hlt : i < n
  · have h1 : decide ((i : Int) < (n : Int)) = true := decide_eq_true (by omega)
    have h2 : Nat.blt ((i : Int).toNat + 0) n = true := blt_yes (by simpa using hlt)
    have e1 : g ((i : Int).toNat + 0) = g i := rfl
    have h3 : Nat.ble i i = true := Nat.ble_eq_true_of_le (Nat.le_refl _)
    have h4 := grow_ok (n := i + 1) (by omega)
    have wi : IntKind.i64.wrap ((i : Int) + 1) = ((i + 1 : Nat) : Int) := by rw [w64 (by omega) (by omega)]; rfl
    have hF := F_le g i
    have hx := X_ge g i
    have w3 : IntKind.i64.wrap (F g i + 3) = F g i + 3 := w64 (by omega) (by omega)
    have fin : ∀ j, j < i + 1 → (match Nat.blt j i with | true => f j | false => [F g i].getD (j - i) 0) = F g j := by
      intro j hj
      rcases Nat.lt_or_ge j i with h | h
      · rw [blt_yes h]; exact hf j h
      · obtain rfl : j = i := by omega
        have : Nat.blt j j = false := by rw [← Bool.not_eq_true, Nat.blt_eq]; omega
        rw [this, Nat.sub_self]
        rfl
    by_cases c : (g i).tmod 50 < 0
    · have hX : X g i = 0 - (g i).tmod 50 := if_pos c
      rw [hX] at hx
      have w1 : IntKind.i64.wrap (0 - (g i).tmod 50) = 0 - (g i).tmod 50 := w64 (by omega) (by omega)
      have d2 : decide (0 - (g i).tmod 50 < 0) = false := decide_eq_false (by omega)
      have w2 : IntKind.i64.wrap (F g i + 3 + (0 - (g i).tmod 50)) = F g (i + 1) := by
        rw [w64 (by omega) (by omega)]
        simp only [F, hX]
      simp only [h1, h2, h3, h4, e1, decide_eq_true c, w1, d2, bytes_eq hx, w3, w2, wi]
      exact hs hlt _ fin
    · have hX : X g i = (g i).tmod 50 := if_neg c
      rw [hX] at hx
      have w2 : IntKind.i64.wrap (F g i + 3 + ((g i).tmod 50)) = F g (i + 1) := by
        rw [w64 (by omega) (by omega)]
        simp only [F, hX]
      simp only [h1, h2, h3, h4, e1, decide_eq_false c, bytes_eq hx, w3, w2, wi]
      exact hs hlt _ fin
  · obtain rfl : i = n := by omega
    simp only [decide_eq_false (Int.lt_irrefl (i : Int))]
    exact hx rfl
/-- A slot's place. -/
def pl (g : Nat → Int) (O : Nat) (a : Int) : Int := 2097152 + 8 * (F g O - 1) + 24 + 8 * a
theorem midA_ok (g : Nat → Int) (q cap : Nat) (o a p b : Int) (f : Nat → Int) (K : Res → Prop) (Z : St → Prop) (hn : q + 1 ≤ 200) (hf : ∀ j, j < q + 1 → f j = F g j) (hr : K (.ret (.raw (.bool true))))
    (hz : F g (q + 1) ≤ 65536 → ∀ f', (∀ j, j ≤ q + 1 → f' j = F g j) → Z (SD g (q + 1) cap (o.tmod ((q + 1 : Nat) : Int)) a (p.tmod ((q + 1 : Nat) : Int)) b (q + 1 + 1) f')) : midA_f g q cap o a p b (F g (q + 1)) f K Z := by
  unfold midA_f
  by_cases c : F g (q + 1) > 65536
  · simp only [decide_eq_true c]
    exact hr
  · have h3 : Nat.ble (q + 1) (q + 1) = true := Nat.ble_eq_true_of_le (Nat.le_refl _)
    have h4 := grow_ok (n := q + 1 + 1) (by omega)
    simp only [decide_eq_false c, h3, h4]
    refine hz (by omega) _ fun j hj => ?_
    rcases Nat.lt_or_ge j (q + 1) with h | h
    · rw [blt_yes h]; exact hf j h
    · obtain rfl : j = q + 1 := by omega
      have : Nat.blt (q + 1) (q + 1) = false := by rw [← Bool.not_eq_true, Nat.blt_eq]; omega
      rw [this, Nat.sub_self]
      rfl
theorem midB_ok (g : Nat → Int) (n cap : Nat) (o a p b : Int) (f : Nat → Int) (K : Res → Prop) (Z : St → Prop) (hn : n ≤ 200) (hf : ∀ j, j ≤ n → f j = F g j) (ho : o < (n : Int)) (hp : p < (n : Int)) (hr : K (.ret (.raw (.bool true))))
    (hz : ∀ O P : Nat, O < n → P < n → 0 ≤ a → a < X g O → 0 ≤ b → b < X g P → Z (SD g n cap O a P b (n + 1) f)) : midB_f g n cap o a p b (n + 1) f K Z := by
  unfold midB_f
  by_cases c1 : o < 0
  · simp only [decide_eq_true c1]; exact hr
  by_cases c2 : p < 0
  · simp only [decide_eq_false c1, decide_eq_true c2]; exact hr
  by_cases c3 : a < 0
  · simp only [decide_eq_false c1, decide_eq_false c2, decide_eq_true c3]; exact hr
  by_cases c4 : b < 0
  · simp only [decide_eq_false c1, decide_eq_false c2, decide_eq_false c3, decide_eq_true c4]; exact hr
  obtain ⟨O, rfl⟩ := Int.eq_ofNat_of_zero_le (show 0 ≤ o by omega)
  obtain ⟨P, rfl⟩ := Int.eq_ofNat_of_zero_le (show 0 ≤ p by omega)
  have side : ∀ Q : Nat, (Q : Int) < (n : Int) → decide (0 ≤ (Q : Int)) = true ∧ decide ((Q : Int) < ((n + 1 : Nat) : Int)) = true ∧ Nat.blt ((Q : Int).toNat + 0) (n + 1) = true ∧ IntKind.i64.wrap ((Q : Int) + 1) = ((Q + 1 : Nat) : Int) ∧ IntKind.i64.wrap (IntKind.i64.wrap (f (((Q + 1 : Nat) : Int).toNat + 0) - f ((Q : Int).toNat + 0)) - 3) = X g Q := by
    intro Q hQ
    have hX := X_ge g Q
    refine ⟨decide_eq_true (by omega), decide_eq_true (by omega), blt_yes (by simp only [Int.toNat_natCast]; omega), by rw [w64 (by omega) (by omega)]; rfl, ?_⟩
    have e1 : f (((Q + 1 : Nat) : Int).toNat + 0) = F g Q + 3 + X g Q := hf (Q + 1) (by omega)
    have e2 : f ((Q : Int).toNat + 0) = F g Q := hf Q (by omega)
    rw [e1, e2, w64 (x := F g Q + 3 + X g Q - F g Q) (by omega) (by omega), w64 (by omega) (by omega)]
    omega
  obtain ⟨a1, a2, a3, a4, a5⟩ := side O ho
  obtain ⟨b1, b2, b3, b4, b5⟩ := side P hp
  have up : ∀ Q : Nat, (Q : Int) < (n : Int) → decide (0 ≤ ((Q + 1 : Nat) : Int)) = true ∧ decide (((Q + 1 : Nat) : Int) < ((n + 1 : Nat) : Int)) = true ∧ Nat.blt (((Q + 1 : Nat) : Int).toNat + 0) (n + 1) = true := fun Q hQ =>
    ⟨decide_eq_true (by omega), decide_eq_true (by omega), blt_yes (by simp only [Int.toNat_natCast]; omega)⟩
  obtain ⟨a6, a7, a8⟩ := up O ho
  obtain ⟨b6, b7, b8⟩ := up P hp
  simp only [decide_eq_false c1, decide_eq_false c2, decide_eq_false c3, decide_eq_false c4, a1, a2, a3, a4, a5, a6, a7, a8]
  by_cases c5 : a ≥ X g O
  · simp only [decide_eq_true c5]; exact hr
  simp only [decide_eq_false c5, b1, b2, b3, b4, b5, b6, b7, b8]
  by_cases c6 : b ≥ X g P
  · simp only [decide_eq_true c6]; exact hr
  simp only [decide_eq_false c6]
  exact hz O P (by omega) (by omega) (by omega) (by omega) (by omega) (by omega)
end Go.Proofs.Ytlhpkcbeamphjaa.layoutSlots
