/- layout.Check as a table's line: proved. -/
import Derived.Test.YtfammlbhfgagbaazLayoutApartPChk
import Derived.Test.YtfammlbhfgagbaazLayoutApartPChkF
namespace Go.Proofs.Ytfammlbhfgagbaa.la
open Go Go.Proofs Go.Proofs.YtfammlbhfgagbaaRL Go.Proofs.Ytfammlbhfgagbaa.chkF
set_option linter.unusedVariables false
set_option linter.unusedSimpArgs false
theorem chk_f_ok {c h d k q : Int} {K : Res → Prop} (hy : okC c h d k q → K (.ret (.raw (.int .i64 0)))) (hn : ¬ okC c h d k q → K (.ret (.raw (.int .i64 1)))) : chk_f c h d k q K := by
  unfold chk_f
  repeat' split
  all_goals
    simp only [decide_eq_true_eq, decide_eq_false_iff_not, bne_iff_ne, ne_eq, Bool.not_eq_true, bne_eq_false_iff_eq] at *
  all_goals
    first
    | (refine hn ?_
       unfold okC
       intro hh
       first
       | omega
       | (rename_i e9; rw [Int.tmod_eq_emod_of_nonneg (by omega)] at e9; omega))
    | (refine hy ?_
       rename_i e1 e2 e3 e4 e5 e6 e7 e8 e9 e10 e11
       rw [Int.tmod_eq_emod_of_nonneg (by omega)] at e9
       unfold okC
       omega)
theorem ck_ok (c h d k q : Int) : CallOk Try.prog 6 [cfgV c h d k q] [] fun r _ => r = .ret (.raw (.int .i64 (ckV c h d k q))) := by
  refine callG_ok noE_ok names mixed (n := 100) ?_
  have hp := chk_eq c h d k q fun r => r = .ret (.raw (.int .i64 (ckV c h d k q)))
  refine hp.mpr (chk_f_ok (fun h => ?_) fun h => ?_)
  · exact ck_yes h
  · exact ck_not h
theorem ckG_ok {E : Eh} (hE : EOk Try.prog E) : EOk Try.prog (specE 6 ckG E) := by
  refine specE_ok hE fun args v h => ?_
  unfold ckG at h
  split at h
  · split at h
    · rename_i u c hh d k q hr
      cases h
      rw [readCfg_eq hr]
      exact ⟨⟨by unfold cfgV; exact ⟨trivial, trivial, trivial, trivial, trivial, trivial⟩, trivial⟩, trivial, ck_ok ..⟩
    · cases h
  · cases h
noncomputable def EC : Eh := specE 6 ckG noE
theorem EC_ok : EOk Try.prog EC := ckG_ok noE_ok
end Go.Proofs.Ytfammlbhfgagbaa.la
