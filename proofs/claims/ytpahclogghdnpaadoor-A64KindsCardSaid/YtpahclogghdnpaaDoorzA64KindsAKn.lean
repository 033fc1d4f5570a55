/- A64Names: the law's function tells true. -/
import Derived.Test.YtpahclogghdnpaaDoorzA64KindsAName
import Derived.Test.YtpahclogghdnpaaDoorzA64KindsRLRow2
import Derived.Test.YtpahclogghdnpaaDoorzA64KindsIChk
set_option linter.unusedVariables false
set_option linter.unusedSimpArgs false
set_option maxRecDepth 1000000
namespace Go.Proofs.YtpahclogghdnpaaDoor.a64
open Go Go.Proofs Go.Proofs.YtpahclogghdnpaaDoorRL Go.Proofs.YtpahclogghdnpaaDoor.isa
noncomputable def EKn : Eh := specE 8 chkG (addE 15 nameA noE)
theorem EKn_ok : EOk Try.prog EKn := chkG_ok (nameA_ok noE_ok)
theorem kn_eq (K : V → Prop) : callG Try.prog EKn 400 7 [] [gE] (rK K) = K (bV true) := by kernel_rfl
theorem kn_ok : CallOk Try.prog 7 [] [gE] fun r _ => r = .ret (bV true) := by
  refine (callG_ok EKn_ok names mixed (n := 400) (K := rK fun v => v = bV true) ?_).mono rK_ok
  rw [kn_eq]
/-- known(), as a table's line. -/
def knA : List V → Sto → Option Ans := fun args s => match args with
  | [] => match isG s 0 with
    | true => some (.one (.ret (bV true)) s)
    | false => none
  | _ => none
theorem knA_ok {E : Eh} (hE : EOk Try.prog E) : EOk Try.prog (addE 7 knA E) := by
  refine addE_ok hE fun args s a h hf => ?_
  unfold knA at h
  split at h
  · split at h
    · rename_i hg
      cases h
      refine CallOk.reads (v := bV true) trivial kn_ok.plain fun ρ w hr hs => ⟨fun _ => ρ 0, [], [gE], rfl, ⟨fun j x hx => ?_, fun a b e f ha _ ho => ?_⟩, fun j x hx => ?_, trivial, fun j e he => ?_, kn_ok⟩
      · cases j with
        | zero => simp at hx; subst hx; exact hr.ent 0 _ (isG_eq hg)
        | succ j => simp at hx
      · cases a with
        | zero => simp at ha; subst ha; cases ho
        | succ a => simp at ha
      · cases j with
        | zero => simp at hx; subst hx; trivial
        | succ j => simp at hx
      · cases j with
        | zero => simp at he; subst he; rfl
        | succ j => simp at he
    · cases h
  · cases h
end Go.Proofs.YtpahclogghdnpaaDoor.a64
