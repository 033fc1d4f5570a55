/- A64Names: the law's function tells true. Printed by genan.py (the rows of ops). -/
import Derived.Test.YtpahclogghdnpaaDoorzA64NamesAKn
set_option linter.unusedVariables false
set_option linter.unusedSimpArgs false
set_option maxRecDepth 1000000
namespace Go.Proofs.YtpahclogghdnpaaDoor.a64Names
open Go Go.Proofs Go.Proofs.YtpahclogghdnpaaDoorRL Go.Proofs.YtpahclogghdnpaaDoor.isa Go.Proofs.YtpahclogghdnpaaDoor.a64
noncomputable def EN : Eh := addE 7 knA (addE 15 nameA noE)
theorem EN_ok : EOk Try.prog EN := knA_ok (nameA_ok noE_ok)
theorem nm_lit (b : Int) (K : V → Prop) : ∀ k : Nat, k < 43 → callG Try.prog EN 400 4 [.raw (.int .i64 (k : Nat)), .raw (.int .i64 b)] [gE] (rK K) = K (bV ((nmS (k : Nat) == nmS b) == (((k : Nat) : Int) == b)))
  | 0, _ => by kernel_rfl
  | 1, _ => by kernel_rfl
  | 2, _ => by kernel_rfl
  | 3, _ => by kernel_rfl
  | 4, _ => by kernel_rfl
  | 5, _ => by kernel_rfl
  | 6, _ => by kernel_rfl
  | 7, _ => by kernel_rfl
  | 8, _ => by kernel_rfl
  | 9, _ => by kernel_rfl
  | 10, _ => by kernel_rfl
  | 11, _ => by kernel_rfl
  | 12, _ => by kernel_rfl
  | 13, _ => by kernel_rfl
  | 14, _ => by kernel_rfl
  | 15, _ => by kernel_rfl
  | 16, _ => by kernel_rfl
  | 17, _ => by kernel_rfl
  | 18, _ => by kernel_rfl
  | 19, _ => by kernel_rfl
  | 20, _ => by kernel_rfl
  | 21, _ => by kernel_rfl
  | 22, _ => by kernel_rfl
  | 23, _ => by kernel_rfl
  | 24, _ => by kernel_rfl
  | 25, _ => by kernel_rfl
  | 26, _ => by kernel_rfl
  | 27, _ => by kernel_rfl
  | 28, _ => by kernel_rfl
  | 29, _ => by kernel_rfl
  | 30, _ => by kernel_rfl
  | 31, _ => by kernel_rfl
  | 32, _ => by kernel_rfl
  | 33, _ => by kernel_rfl
  | 34, _ => by kernel_rfl
  | 35, _ => by kernel_rfl
  | 36, _ => by kernel_rfl
  | 37, _ => by kernel_rfl
  | 38, _ => by kernel_rfl
  | 39, _ => by kernel_rfl
  | 40, _ => by kernel_rfl
  | 41, _ => by kernel_rfl
  | 42, _ => by kernel_rfl
  | k + 43, h => absurd h (by omega)
theorem nm_neg (k : Nat) (b : Int) (K : V → Prop) : callG Try.prog EN 400 4 [.raw (.int .i64 (Int.negSucc k)), .raw (.int .i64 b)] [gE] (rK K) = Br (decide (Int.negSucc k < 0)) (K (bV true)) (K (bV false)) := by kernel_rfl
theorem nm_big (k : Nat) (b : Int) (K : V → Prop) : callG Try.prog EN 400 4 [.raw (.int .i64 (Int.ofNat (k + 43))), .raw (.int .i64 b)] [gE] (rK K) = Br (!((nmS (Int.ofNat (k + 43)) == ⟨#[]⟩) == decide (Int.ofNat (k + 43) > 42))) (K (bV false)) (K (bV true)) := by kernel_rfl
theorem pairs : ((List.range 43).all fun i => (List.range 43).all fun j => eqB (nmL.getD i []) (nmL.getD j []) == (i == j)) = true := by kernel_rfl
theorem full : ((List.range 43).all fun i => !eqB (nmL.getD i []) []) = true := by kernel_rfl
theorem eqB_self : ∀ l : List UInt8, eqB l l = true
  | [] => rfl
  | a :: l => by unfold eqB; rw [Nat.beq_refl]; exact eqB_self l
theorem mk_inj {l m : List UInt8} (h : (⟨l.toArray⟩ : ByteArray) = ⟨m.toArray⟩) : l = m := by
  have h1 := congrArg (fun b : ByteArray => b.data.toList) h
  exact h1
theorem nm_in {k : Nat} (h : k < 43) : nmS (k : Int) = ⟨(nmL.getD k []).toArray⟩ := if_pos (by omega)
theorem ba_eq {a b : ByteArray} (h : (a == b) = true) : a = b := by
  cases a with
  | mk d =>
    cases b with
    | mk e =>
      have h : (d == e) = true := h
      rw [beq_iff_eq.1 h]
theorem ba_self (a : ByteArray) : (a == a) = true := by
  cases a with
  | mk d => exact (show (d == d) = true from beq_self_eq_true d)
theorem ba_ne {a b : ByteArray} (h : a ≠ b) : (a == b) = false := by
  cases hb : a == b with
  | true => exact absurd (ba_eq hb) h
  | false => rfl
theorem nm_same {k : Nat} (hk : k < 43) (b : Int) : (nmS (k : Nat) == nmS b) = (((k : Nat) : Int) == b) := by
  by_cases hb : 0 ≤ b ∧ b < 43
  · obtain ⟨j, rfl⟩ := Int.eq_ofNat_of_zero_le hb.1
    have hj : j < 43 := by omega
    by_cases e : k = j
    · subst e; rw [ba_self, beq_self_eq_true]
    · rw [show (((k : Nat) : Int) == ((j : Nat) : Int)) = false from by rw [beq_eq_false_iff_ne]; omega]
      refine ba_ne fun h => ?_
      rw [nm_in hk, nm_in hj] at h
      have h1 := mk_inj h
      have h2 := List.all_eq_true.1 (List.all_eq_true.1 pairs k (List.mem_range.2 hk)) j (List.mem_range.2 hj)
      rw [h1, eqB_self] at h2
      simp at h2
      exact e h2
  · have e : nmS b = ⟨#[]⟩ := if_neg hb
    rw [show (((k : Nat) : Int) == b) = false from by rw [beq_eq_false_iff_ne]; omega]
    refine ba_ne fun h => ?_
    rw [e, nm_in hk] at h
    have h1 : nmL.getD k [] = [] := mk_inj h
    have h2 := List.all_eq_true.1 full k (List.mem_range.2 hk)
    rw [h1] at h2
    cases h2
theorem law_ok (a b : Int) : CallOk Try.prog 4 [.raw (.int .i64 a), .raw (.int .i64 b)] [gE] fun r _ => r = .ret (bV true) := by
  refine (callG_ok EN_ok names mixed (n := 400) (K := rK fun v => v = bV true) ?_).mono rK_ok
  rcases a with k | k
  · by_cases hk : k < 43
    · rw [show Int.ofNat k = ((k : Nat) : Int) from rfl, nm_lit b _ k hk, nm_same hk]
      simp
    · obtain ⟨j, rfl⟩ : ∃ j, k = j + 43 := ⟨k - 43, by omega⟩
      rw [nm_big, show nmS (Int.ofNat (j + 43)) = ⟨#[]⟩ from if_neg (by show ¬ (0 ≤ ((j + 43 : Nat) : Int) ∧ ((j + 43 : Nat) : Int) < 43); omega), decide_eq_true (show Int.ofNat (j + 43) > 42 by show ((j + 43 : Nat) : Int) > 42; omega), ba_self]
      exact rfl
  · rw [nm_neg, decide_eq_true (Int.negSucc_lt_zero k)]
    exact rfl
def aks : List AK := [.one (.int .i64), .one (.int .i64)]
theorem law_call (args : List V) (h : argsOk aks args) : CallOk Try.prog 4 args [gE] fun r _ => r = .ret (.raw (.bool true)) := by
  obtain ⟨a, r1, rfl, _, h1⟩ := argsOk_int h
  obtain ⟨b, r2, rfl, _, h2⟩ := argsOk_int h1
  cases argsOk_nil h2
  exact law_ok a b
end Go.Proofs.YtpahclogghdnpaaDoor.a64Names
