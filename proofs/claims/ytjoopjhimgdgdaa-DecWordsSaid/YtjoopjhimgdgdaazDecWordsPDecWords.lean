/- DecWords: what the law's function computes, and that it is true. -/
import Derived.Test.YtjoopjhimgdgdaazDecWordsPDecF
import Derived.Test.YtjoopjhimgdgdaazDecWordsRLRow2
set_option linter.unusedVariables false
set_option linter.unusedSimpArgs false
namespace Go.Proofs.Ytjoopjhimgdgdaa.decWords
open Go Go.Proofs Go.Proofs.YtjoopjhimgdgdaaRL Go.Proofs.Ytjoopjhimgdgdaa.isa Go.Proofs.Ytjoopjhimgdgdaa.decLaws
theorem ED_ok : EOk Try.prog ED := decA_ok (rdecA_ok noE_ok)
theorem law_w {w : Int} (h0 : 0 ≤ w) (h1 : w < 4294967296) : CallOk Try.prog 3 [.raw (.int .u32 w)] [] fun r _ => r = .ret (.raw (.bool true)) := by
  refine callG_ok ED_ok names mixed (n := 100) ?_
  have hp := words_eq w fun r => r = .ret (.raw (.bool true))
  refine hp.mpr ?_
  unfold words_f
  simp only [decide_eq_true (show 0 ≤ w ∧ w < 4294967296 from ⟨h0, h1⟩), beq_self_eq_true, Bool.and_self, Bool.and_true]
def aks : List AK := [.one (.int .u32)]
theorem law_call : ∀ args, argsOk aks args → CallOk Try.prog 3 args [] fun r _ => r = .ret (.raw (.bool true)) := by
  intro args h
  match args, h with
  | [.raw _], ⟨⟨w, rfl, hw⟩, _⟩ =>
    have h2 : 0 ≤ w ∧ w ≤ 4294967295 := by simpa [Lit.wf, IntKind.has, IntKind.min, IntKind.max, IntKind.signed, IntKind.bits] using hw
    exact law_w h2.1 (by omega)
end Go.Proofs.Ytjoopjhimgdgdaa.decWords
