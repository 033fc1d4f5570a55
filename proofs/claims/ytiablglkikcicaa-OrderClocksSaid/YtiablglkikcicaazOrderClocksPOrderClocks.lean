/- OrderClocks: what the law's function computes, and that it is true. -/
import Derived.Test.YtiablglkikcicaazOrderClocksPSpec
namespace Go.Proofs.Ytiablglkikcicaa.orderClocks
open Go Go.Proofs.YtiablglkikcicaaRL Go.Proofs.Ytiablglkikcicaa.sp
set_option linter.unusedVariables false
def aks : List AK := [.agg (List.replicate 4 (.int .i64)), .agg (List.replicate 4 (.int .i64)), .one (.int .i64)]
def lim (a b : Int) (K : Bool) : Bool := match decide (a > 1099511627776) with
  | true => true
  | false => match decide (b > 1099511627776) with
    | true => true
    | false => K
set_option maxRecDepth 100000 in
theorem formula (a b : Nat → Int) (t : Int) : lawI Try.prog D 100 3 [clk a, clk b, .raw (.int .i64 t)] [] =
    (lim (a 0) (b 0) <| lim (a 1) (b 1) <| lim (a 2) (b 2) <| lim (a 3) (b 3) <|
      match eq4 (joinX a b) (joinX a b) with
      | true => (match eq4 (tickX a t) (tickX a t) with
        | true => (match beforeX a b == beforeX a b with
          | true => compareX a b == compareX a b
          | false => false)
        | false => false)
      | false => false) := by kernel_rfl
theorem lim_true (a b : Int) : lim a b true = true := by unfold lim; cases decide (a > 1099511627776) <;> cases decide (b > 1099511627776) <;> rfl
theorem eq4_self (a : Nat → Int) : eq4 a a = true := eq4_iff.2 fun _ _ => rfl
theorem law_call (args : List V) (h : argsOk aks args) : CallOk Try.prog 3 args [] fun r _ => r = .ret (.raw (.bool true)) := by
  obtain ⟨ws, r1, rfl, h0, h1⟩ := argsOk_agg h
  obtain ⟨us, r2, rfl, g0, h2⟩ := argsOk_agg h1
  obtain ⟨t, r3, rfl, _, h3⟩ := argsOk_int h2
  cases argsOk_nil h3
  obtain ⟨a, _, e1⟩ := rawsOk_clk h0
  obtain ⟨b, _, e2⟩ := rawsOk_clk g0
  rw [e1, e2]
  refine lawI_sound (D := D) (n := 100) hD names mixed ((formula a b t).trans ?_)
  simp only [eq4_self, beq_self_eq_true, lim_true]
end Go.Proofs.Ytiablglkikcicaa.orderClocks
