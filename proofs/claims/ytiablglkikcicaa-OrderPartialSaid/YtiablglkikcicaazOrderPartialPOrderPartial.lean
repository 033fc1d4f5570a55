/- OrderPartial: what the law's function computes, and that it is true. -/
import Derived.Test.YtiablglkikcicaazOrderPartialPSpec
namespace Go.Proofs.Ytiablglkikcicaa.orderPartial
open Go Go.Proofs.YtiablglkikcicaaRL Go.Proofs.Ytiablglkikcicaa.sp
set_option linter.unusedVariables false
def aks : List AK := [.agg (List.replicate 4 (.int .i64)), .agg (List.replicate 4 (.int .i64)), .agg (List.replicate 4 (.int .i64))]
def c (p : Bool) (x y : Bool) : Bool := match p with
  | true => x
  | false => y
def last (a b z : Nat → Int) (up : Bool) : Bool := c (!up) true (c (eq4 z (joinX a b)) true (beforeX (joinX a b) z))
def right (a b z : Nat → Int) : Bool := c (eq4 z b) (last a b z true) (last a b z (beforeX b z))
def ups (a b z : Nat → Int) : Bool := c (eq4 z a) (right a b z) (c (beforeX a z) (right a b z) (last a b z false))
def joins (a b z : Nat → Int) : Bool := c (!eq4 (joinX a b) (joinX b a)) false (ups a b z)
def mid (a b z : Nat → Int) : Bool := c (beforeX (joinX a b) a) false (c (beforeX (joinX a b) b) false (c (!eq4 (joinX a b) a) (c (!beforeX a (joinX a b)) false (joins a b z)) (joins a b z)))
def trans (a b z : Nat → Int) : Bool := c (beforeX a b) (c (beforeX b z) (c (!beforeX a z) false (mid a b z)) (mid a b z)) (mid a b z)
set_option maxRecDepth 100000 in
theorem formula (a b z : Nat → Int) : lawI Try.prog D 100 4 [clk a, clk b, clk z] [] =
    c (beforeX a a) false (c (beforeX a b) (c (beforeX b a) false (trans a b z)) (trans a b z)) := by kernel_rfl
theorem before_iff {a b : Nat → Int} : beforeX a b = true ↔ eq4 a b = false ∧ ∀ i, i < 4 → a i ≤ b i := by
  unfold beforeX
  cases h : eq4 a b with
  | true => simp
  | false => simp only [Bool.not_false, true_and]; exact join_up
theorem eq4_self (a : Nat → Int) : eq4 a a = true := eq4_iff.2 fun _ _ => rfl
theorem eq4_comm (a b : Nat → Int) : eq4 a b = eq4 b a := by
  rw [Bool.eq_iff_iff, eq4_iff, eq4_iff]
  exact ⟨fun h i hi => (h i hi).symm, fun h i hi => (h i hi).symm⟩
theorem law_true (a b z : Nat → Int) : c (beforeX a a) false (c (beforeX a b) (c (beforeX b a) false (trans a b z)) (trans a b z)) = true := by
  have irr : beforeX a a = false := by
    cases h : beforeX a a with
    | false => rfl
    | true => rw [before_iff, eq4_self] at h; cases h.1
  have jl : ∀ i, i < 4 → a i ≤ joinX a b i := fun i _ => by unfold joinX; split <;> omega
  have jr : ∀ i, i < 4 → b i ≤ joinX a b i := fun i _ => by unfold joinX; split <;> omega
  have jle : ∀ y : Nat → Int, (∀ i, i < 4 → a i ≤ y i) → (∀ i, i < 4 → b i ≤ y i) → ∀ i, i < 4 → joinX a b i ≤ y i := fun y h1 h2 i hi => by
    have := h1 i hi; have := h2 i hi; unfold joinX; split <;> omega
  have eqOf : ∀ {x y : Nat → Int}, (∀ i, i < 4 → x i ≤ y i) → (∀ i, i < 4 → y i ≤ x i) → eq4 x y = true := fun h1 h2 => eq4_iff.2 fun i hi => by have := h1 i hi; have := h2 i hi; omega
  have noB : ∀ {x y : Nat → Int}, (∀ i, i < 4 → y i ≤ x i) → beforeX x y = false := by
    intro x y h
    cases hb : beforeX x y with
    | false => rfl
    | true =>
      obtain ⟨h1, h2⟩ := before_iff.1 hb
      rw [eqOf h2 h] at h1; cases h1
  have leOf : ∀ {x y : Nat → Int}, beforeX x y = true → ∀ i, i < 4 → x i ≤ y i := fun h => (before_iff.1 h).2
  have bOf : ∀ {x y : Nat → Int}, (∀ i, i < 4 → x i ≤ y i) → eq4 x y = false → beforeX x y = true := fun h1 h2 => before_iff.2 ⟨h2, h1⟩
  have hlast : ∀ up, (up = true → (∀ i, i < 4 → a i ≤ z i) ∧ ∀ i, i < 4 → b i ≤ z i) → last a b z up = true := by
    intro up h
    unfold last c
    cases up with
    | false => rfl
    | true =>
      obtain ⟨h1, h2⟩ := h rfl
      simp only [Bool.not_true]
      cases he : eq4 z (joinX a b) with
      | true => rfl
      | false => exact bOf (jle z h1 h2) (by rw [eq4_comm]; exact he)
  have eqLe : ∀ {x y : Nat → Int}, eq4 x y = true → ∀ i, i < 4 → y i ≤ x i := fun h i hi => by rw [eq4_iff.1 h i hi]; exact Int.le_refl _
  have hright : (∀ i, i < 4 → a i ≤ z i) → right a b z = true := by
    intro h1
    unfold right c
    cases he : eq4 z b with
    | true => exact hlast true fun _ => ⟨h1, eqLe he⟩
    | false => exact hlast _ fun hb => ⟨h1, leOf hb⟩
  have hups : ups a b z = true := by
    unfold ups c
    cases he : eq4 z a with
    | true => exact hright (eqLe he)
    | false =>
      cases hb : beforeX a z with
      | true => exact hright (leOf hb)
      | false => exact hlast false fun h => by cases h
  have hjoins : joins a b z = true := by
    have : eq4 (joinX a b) (joinX b a) = true := eq4_iff.2 fun i _ => by unfold joinX; split <;> split <;> omega
    unfold joins c
    rw [this]
    exact hups
  have hmid : mid a b z = true := by
    unfold mid c
    rw [noB jl, noB jr]
    cases he : eq4 (joinX a b) a with
    | true => exact hjoins
    | false =>
      rw [bOf jl (by rw [eq4_comm]; exact he)]
      exact hjoins
  have htrans : trans a b z = true := by
    unfold trans c
    cases h1 : beforeX a b with
    | false => exact hmid
    | true =>
      cases h2 : beforeX b z with
      | false => exact hmid
      | true =>
        have h3 : ∀ i, i < 4 → a i ≤ z i := fun i hi => Int.le_trans (leOf h1 i hi) (leOf h2 i hi)
        have h4 : eq4 a z = false := by
          cases he : eq4 a z with
          | false => rfl
          | true =>
            have h5 : ∀ i, i < 4 → b i ≤ a i := fun i hi => by rw [eq4_iff.1 he i hi]; exact leOf h2 i hi
            rw [noB h5] at h1; cases h1
        rw [bOf h3 h4]
        exact hmid
  unfold c
  rw [irr]
  cases h1 : beforeX a b with
  | false => exact htrans
  | true => rw [noB (leOf h1)]; exact htrans
theorem law_call (args : List V) (h : argsOk aks args) : CallOk Try.prog 4 args [] fun r _ => r = .ret (.raw (.bool true)) := by
  obtain ⟨ws, r1, rfl, h0, h1⟩ := argsOk_agg h
  obtain ⟨us, r2, rfl, g0, h2⟩ := argsOk_agg h1
  obtain ⟨ts, r3, rfl, k0, h3⟩ := argsOk_agg h2
  cases argsOk_nil h3
  obtain ⟨a, _, e1⟩ := rawsOk_clk h0
  obtain ⟨b, _, e2⟩ := rawsOk_clk g0
  obtain ⟨z, _, e3⟩ := rawsOk_clk k0
  rw [e1, e2, e3]
  exact lawI_sound (D := D) (n := 100) hD names mixed ((formula a b z).trans (law_true a b z))
end Go.Proofs.Ytiablglkikcicaa.orderPartial
