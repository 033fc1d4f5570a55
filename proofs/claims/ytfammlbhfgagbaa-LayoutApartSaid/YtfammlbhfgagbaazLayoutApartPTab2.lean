/- The tables of chapter 22's law: all together. -/
import Derived.Test.YtfammlbhfgagbaazLayoutApartPTab
namespace Go.Proofs.Ytfammlbhfgagbaa.la
open Go Go.Proofs Go.Proofs.YtfammlbhfgagbaaRL Go.Proofs.Ytfammlbhfgagbaa.tabF
set_option linter.unusedVariables false
set_option linter.unusedSimpArgs false
set_option maxRecDepth 100000
theorem which_ok (c h d k q addr : Int) : CallOk Try.prog 7 [cfgV c h d k q, u64 addr] [] fun r _ => r = .ret (i64 (whichV c h d k q addr)) := by
  refine callG_ok EC_ok names mixed (n := 100) ?_
  generalize hw : whichV c h d k q addr = w
  have hp := which_eq c h d k q addr fun r => r = .ret (i64 w)
  refine hp.mpr ?_
  unfold which_f
  unfold whichV at hw
  by_cases hok : okC c h d k q
  · have e1 : ckV c h d k q = 0 := by unfold ckV; rw [decide_eq_true hok]
    rw [decide_eq_true hok] at hw
    simp only [e1, bne_self_eq_false]
    unfold inV szS szH szC at hw
    repeat' split
    all_goals
      simp only [*, Bool.and_true, Bool.and_false, Bool.true_and, Bool.false_and] at hw
      rw [← hw]
  · have e1 : ckV c h d k q = 1 := by unfold ckV; rw [decide_eq_false hok]
    rw [decide_eq_false hok] at hw
    simp only [e1]
    rw [← hw]
    rfl
def kindG : List V → Option V
  | [.raw (.int .i64 c)] => some (u64 (kindV c))
  | _ => none
def classG : List V → Option V
  | [.raw (.int .u64 c)] => some (i64 (classV c))
  | _ => none
def objG : List V → Option V
  | [.raw (.int .u64 c)] => some (i64 (objV c))
  | _ => none
def addrG : List V → Option V
  | [.raw (.int .i64 c)] => some (u64 (addrV c))
  | _ => none
def whichG : List V → Option V
  | [v, .raw (.int .u64 a)] => match readCfg v with
    | some (c, h, d, k, q) => some (i64 (whichV c h d k q a))
    | none => none
  | _ => none
theorem kindG_ok {E : Eh} (hE : EOk Try.prog E) : EOk Try.prog (specE 12 kindG E) := by
  refine specE_ok hE fun args v h => ?_
  unfold kindG at h
  split at h
  · cases h; exact ⟨⟨trivial, trivial⟩, trivial, kind_ok _⟩
  · cases h
theorem classG_ok {E : Eh} (hE : EOk Try.prog E) : EOk Try.prog (specE 13 classG E) := by
  refine specE_ok hE fun args v h => ?_
  unfold classG at h
  split at h
  · cases h; exact ⟨⟨trivial, trivial⟩, trivial, class_ok _⟩
  · cases h
theorem objG_ok {E : Eh} (hE : EOk Try.prog E) : EOk Try.prog (specE 10 objG E) := by
  refine specE_ok hE fun args v h => ?_
  unfold objG at h
  split at h
  · cases h; exact ⟨⟨trivial, trivial⟩, trivial, obj_ok _⟩
  · cases h
theorem addrG_ok {E : Eh} (hE : EOk Try.prog E) : EOk Try.prog (specE 11 addrG E) := by
  refine specE_ok hE fun args v h => ?_
  unfold addrG at h
  split at h
  · cases h; exact ⟨⟨trivial, trivial⟩, trivial, addr_ok _⟩
  · cases h
theorem whichG_ok {E : Eh} (hE : EOk Try.prog E) : EOk Try.prog (specE 7 whichG E) := by
  refine specE_ok hE fun args v h => ?_
  unfold whichG at h
  split at h
  · split at h
    · rename_i u a c hh d k q hr
      cases h
      rw [readCfg_eq hr]
      exact ⟨⟨by unfold cfgV; exact ⟨trivial, trivial, trivial, trivial, trivial, trivial⟩, trivial, trivial⟩, trivial, which_ok ..⟩
    · cases h
  · cases h
/-- For known(). -/
noncomputable def E0 : Eh := noE
noncomputable def EL : Eh := addE 25 hasA (specE 7 whichG (specE 12 kindG (specE 13 classG (specE 10 objG (specE 11 addrG EC)))))
theorem EL_ok : EOk Try.prog EL := hasA_ok (whichG_ok (kindG_ok (classG_ok (objG_ok (addrG_ok EC_ok)))))
end Go.Proofs.Ytfammlbhfgagbaa.la
