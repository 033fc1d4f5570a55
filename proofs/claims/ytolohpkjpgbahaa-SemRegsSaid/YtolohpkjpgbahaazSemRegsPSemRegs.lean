/- SemRegs: what the law's function computes, and that it is true. -/
import Derived.Test.YtolohpkjpgbahaazSemRegsPSpec
namespace Go.Proofs.Ytolohpkjpgbahaa.semRegs
open Go Go.Proofs.YtolohpkjpgbahaaRL Go.Proofs.Ytolohpkjpgbahaa.sp
set_option linter.unusedVariables false
noncomputable def D : Dh := specs (runD Try.prog noD 100)
theorem hD : DOk Try.prog D := specs_ok (runD_ok noD_ok names mixed 100)
def aks : List AK := [.agg (List.replicate 32 (.int .u64) ++ List.replicate 4 .bool), .one (.int .i64), .one (.int .u64), .one (.int .i64)]
set_option maxRecDepth 100000 in
theorem formula (x : Nat → Int) (nf zf cf vf : Bool) (n v c : Int) : lawB Try.prog D 100 3 [regs x nf zf cf vf, .raw (.int .i64 n), .raw (.int .u64 v), .raw (.int .i64 c)] [] =
    (match getX (norm x) n == getX (norm x) n with
    | true => (match eqR (setX x n v) (setX x n v) nf zf cf vf nf zf cf vf with
      | true => holdsX c nf zf cf vf == holdsX c nf zf cf vf
      | false => false)
    | false => false) := by kernel_rfl
theorem law_call (args : List V) (h : argsOk aks args) : CallOk Try.prog 3 args [] fun r _ => r = .ret (.raw (.bool true)) := by
  obtain ⟨ws, r1, rfl, h0, h1⟩ := argsOk_agg h
  obtain ⟨n, r2, rfl, _, h2⟩ := argsOk_int h1
  obtain ⟨v, r3, rfl, _, h3⟩ := argsOk_int h2
  obtain ⟨c, r4, rfl, _, h4⟩ := argsOk_int h3
  cases argsOk_nil h4
  obtain ⟨x, nf, zf, cf, vf, hx, e⟩ := rawsOk_regs h0
  rw [e]
  refine lawB_sound (D := D) (n := 100) hD names mixed ?_
  refine Eq.trans (formula x nf zf cf vf n v c) ?_
  rw [eqR_self]
  simp only [beq_self_eq_true]
end Go.Proofs.Ytolohpkjpgbahaa.semRegs
