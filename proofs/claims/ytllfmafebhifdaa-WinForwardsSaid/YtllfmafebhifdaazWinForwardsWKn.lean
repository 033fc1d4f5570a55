/- Parts of the proof, one behind the other. -/
import Derived.Test.YtllfmafebhifdaazWinForwardsWFwd2
section
/- win.meets. -/
set_option linter.unusedVariables false
set_option linter.unusedSimpArgs false
set_option maxRecDepth 1000000
namespace Go.Proofs.Ytllfmafebhifdaa.win
open Go Go.Proofs Go.Proofs.YtllfmafebhifdaaRL Go.Proofs.Ytllfmafebhifdaa.isa
end Go.Proofs.Ytllfmafebhifdaa.win
end
section
/- win.rule. -/
set_option linter.unusedVariables false
set_option linter.unusedSimpArgs false
set_option maxRecDepth 1000000
namespace Go.Proofs.Ytllfmafebhifdaa.win
open Go Go.Proofs Go.Proofs.YtllfmafebhifdaaRL Go.Proofs.Ytllfmafebhifdaa.isa
section
variable {P : Program} {b : Nat} {c : Code} {K : Ex → St → Prop} {st : St}
/-- The first of two pieces of code computed, what is left told by what lives. -/
theorem step_ok {D : Eh} (hD : EOk P D) (hn : namesOk P = true) (hm : P.follows .mixedOrders = true) {N : Nat} {live : List Nat} {Z : St → Prop} (hc : Nat.beq (kd c) 1 = true)
    (h : evG P D N (lft c) st fun e st' => match e with | .normal => Z (gcSt b live st') | .panic _ => False | e => K e (gcSt b live st')) (hz : ∀ st', Z st' → CodeB P b (rgt c) st' K) : CodeB P b c st K := by
  refine CodeB.seq hc (CodeB.tellX ((CodeB.of (evG_ok hD hn hm h)).mono fun e s he => ?_))
  cases e with
  | normal => exact ⟨_, gc_tells b live s, hz _ he⟩
  | panic v => exact he.elim
  | _ => exact ⟨_, gc_tells b live s, he⟩
end
namespace rul
def live : List Nat := [0,1,2,7,8,9,10,11,12]
noncomputable abbrev cd : Code := codeOf Try.prog 16
end rul
open rul
section
variable (W : WinC) (n N cap : Nat) (t : TypeId) (r : RegsF) (i j x y : Int) (me be : Bool)
end
end Go.Proofs.Ytllfmafebhifdaa.win
end
section
/- win.rule as a table's line. -/
set_option linter.unusedVariables false
set_option linter.unusedSimpArgs false
set_option maxRecDepth 100000
namespace Go.Proofs.Ytllfmafebhifdaa.win
open Go Go.Proofs Go.Proofs.YtllfmafebhifdaaRL Go.Proofs.Ytllfmafebhifdaa.isa
open rul
theorem br_cases {b : Bool} {R Q : Prop} (h1 : b = true → R) (h2 : b = false → Q) : Br b R Q := by
  cases b
  · exact h2 rfl
  · exact h1 rfl
end Go.Proofs.Ytllfmafebhifdaa.win
end
section
/- known() of chapter 9. -/
set_option linter.unusedVariables false
set_option maxRecDepth 1000000
namespace Go.Proofs.Ytllfmafebhifdaa.win
open Go Go.Proofs Go.Proofs.YtllfmafebhifdaaRL Go.Proofs.Ytllfmafebhifdaa.isa
noncomputable def EK : Eh := opsE (specE 24 doG (specE 37 letWG (specE 27 getWG (addE 28 inB (addE 26 ouA (addE 25 contA noE))))))
theorem EK_ok : EOk Try.prog EK := opsE_ok (doG_ok (letWG_ok (getWG_ok (inB_ok (ouA_ok (contA_ok noE_ok))))))
theorem kn_eq (K : V → Prop) : callG Try.prog EK 100 6 [] [] (rK K) = K (bV true) := by kernel_rfl
theorem kn_ok : CallOk Try.prog 6 [] [] fun r _ => r = .ret (bV true) := by
  refine (callG_ok EK_ok names mixed (n := 100) (K := rK fun v => v = bV true) ?_).mono rK_ok
  have hp := kn_eq fun v => v = bV true
  rw [hp]
def knG : List V → Option V
  | [] => some (bV true)
  | _ => none
theorem knG_ok {E : Eh} (hE : EOk Try.prog E) : EOk Try.prog (specE 6 knG E) := by
  refine specE_ok hE fun args v h => ?_
  unfold knG at h
  split at h
  · cases h; exact ⟨trivial, trivial, kn_ok⟩
  · cases h
end Go.Proofs.Ytllfmafebhifdaa.win
end
