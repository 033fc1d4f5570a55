/- layout.Check as a table's line. -/
import Derived.Test.YtfammlbhfgagbaazLayoutApartRLT
import Derived.Test.YtfammlbhfgagbaazLayoutApartRLNames
namespace Go.Proofs.Ytfammlbhfgagbaa.la
open Go Go.Proofs Go.Proofs.YtfammlbhfgagbaaRL
set_option linter.unusedVariables false
set_option linter.unusedSimpArgs false
def cfgV (c h d k q : Int) : V := .agg [.raw (.int .i64 c), .raw (.int .i64 h), .raw (.int .i64 d), .raw (.int .i64 k), .raw (.int .i64 q)]
def okC (c h d k q : Int) : Prop := ((1 ≤ c ∧ c ≤ 4) ∧ (0 ≤ h ∧ h ≤ 65536) ∧ (1 ≤ d ∧ d ≤ 200)) ∧ (0 ≤ k ∧ k ≤ 65536) ∧ k % 16 = 0 ∧ (0 ≤ q ∧ q ≤ 1048576)
instance (c h d k q : Int) : Decidable (okC c h d k q) := by unfold okC; infer_instance
def readCfg : V → Option (Int × Int × Int × Int × Int)
  | .agg [.raw (.int .i64 c), .raw (.int .i64 h), .raw (.int .i64 d), .raw (.int .i64 k), .raw (.int .i64 q)] => some (c, h, d, k, q)
  | _ => none
theorem readCfg_eq {v : V} {c h d k q : Int} (e : readCfg v = some (c, h, d, k, q)) : v = cfgV c h d k q := by
  unfold readCfg at e
  split at e
  · cases e; rfl
  · cases e
def ckV (c h d k q : Int) : Int := match decide (okC c h d k q) with | true => 0 | false => 1
def ckG : List V → Option V
  | [v] => match readCfg v with
    | some (c, h, d, k, q) => some (.raw (.int .i64 (ckV c h d k q)))
    | none => none
  | _ => none
theorem ck_yes {c h d k q : Int} (hk : okC c h d k q) : Res.ret (V.raw (.int .i64 0)) = Res.ret (.raw (.int .i64 (ckV c h d k q))) := by unfold ckV; rw [decide_eq_true hk]
theorem ck_not {c h d k q : Int} (hk : ¬ okC c h d k q) : Res.ret (V.raw (.int .i64 1)) = Res.ret (.raw (.int .i64 (ckV c h d k q))) := by unfold ckV; rw [decide_eq_false hk]
end Go.Proofs.Ytfammlbhfgagbaa.la
