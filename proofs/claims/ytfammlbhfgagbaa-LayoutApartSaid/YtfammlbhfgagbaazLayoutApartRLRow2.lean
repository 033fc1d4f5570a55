/- RL: rows of laws whose arguments go by value, out of a call that is known; rows of numbers within an argument. -/
import Derived.Test.YtfammlbhfgagbaazLayoutApartRLRow
import Derived.Test.YtfammlbhfgagbaazLayoutApartRL14
namespace Go.Proofs.YtfammlbhfgagbaaRL
open Go Go.ChangeShapes Go.WideShapes Go.ChangeAt Go.RowKit Go.Proofs.YtfammlbhfgagbaaR
set_option linter.unusedVariables false
theorem law_of_call {C : Checked} {os : Os} {f : FuncId} {fn : Func} {s : ChangeSpec} {conds : List PathCond} {rt : TypeId} {H : Type} {enc : TypeId × Value → H} {aks : List AK}
    (own : ownKnob C.prog.godebug = none) (started : os.Started) (noInit : C.prog.inits.idxOf? f = none) (hfn : C.prog.funcs[f]? = some fn)
    (laidOut : laidOutB C.prog = true) (hread : (fn.params.toList.all fun t => C.prog.readableRec t && decide (t < C.prog.types.size)) = true)
    (hres : fn.resultTypes = #[rt]) (hrt : C.prog.underlying rt = some .bool) (hvars : s.vars = [])
    (hspec : ∀ ds : List (DataW H), ds.length = fn.params.size → s.fn H ds = { results := [.lit (.bool true)], args := ds })
    (witness : ∃ (w : World) (tape : Tape) (i : Input), w.os = os ∧ (w.forCall tape i).Shaped C.prog ∧ i.vars = [] ∧ Input.okWide C.prog (w.forCall tape i) .any w.heap.size f i ∧
      s.pre6 enc C.prog fn conds false (w.forCall tape i).memory i.args ∧ ({} : Assume).holds C.prog (lone (Frame.enter C.prog f i.args .normal) [] (w.forCall tape i)))
    (hk : argKinds C.prog fn.params.toList = some aks) (law : ∀ args, argsOk aks args → CallOk C.prog f args [] fun r _ => r = .ret (.raw (.bool true))) :
    ReturnsInHanded {} C os f .any (s.pre6 enc C.prog fn conds false) (s.post enc C.prog fn false true false false) := by
  refine law_lifted own started noInit hfn laidOut hread hres hrt hvars hspec witness ?_
  intro W base args ds p hval hA hsz
  obtain ⟨vs, v1, v2, v3⟩ := open_args (base := base) hk (fun j t v hj hv => hval j t v (by simpa using hj) (by simpa using hv)) hA
  exact (law vs v1).row v3 (v2 _) W
theorem argsOk_int {k : IntKind} {ks : List AK} {args : List V} (h : argsOk (.one (.int k) :: ks) args) : ∃ n rest, args = .raw (.int k n) :: rest ∧ (Lit.int k n).wf = true ∧ argsOk ks rest := by
  match args, h with
  | .raw v :: vs, ⟨hv, h⟩ => obtain ⟨n, rfl, hn⟩ := hv; exact ⟨n, vs, rfl, hn, h⟩
theorem argsOk_agg {cs : List CK} {ks : List AK} {args : List V} (h : argsOk (.agg cs :: ks) args) : ∃ ws rest, args = .agg ws :: rest ∧ rawsOk cs ws ∧ argsOk ks rest := by
  match args, h with
  | .agg ws :: vs, ⟨hv, h⟩ => exact ⟨ws, vs, rfl, hv, h⟩
theorem argsOk_nil {args : List V} (h : argsOk [] args) : args = [] := by
  match args, h with
  | [], _ => rfl
theorem rawsOk_int {k : IntKind} {ks : List CK} {ws : List V} (h : rawsOk (.int k :: ks) ws) : ∃ n rest, ws = .raw (.int k n) :: rest ∧ (Lit.int k n).wf = true ∧ rawsOk ks rest := by
  match ws, h with
  | .raw v :: vs, ⟨hv, h⟩ => obtain ⟨n, rfl, hn⟩ := hv; exact ⟨n, vs, rfl, hn, h⟩
theorem rawsOk_nil {ws : List V} (h : rawsOk [] ws) : ws = [] := by
  match ws, h with
  | [], _ => rfl
end Go.Proofs.YtfammlbhfgagbaaRL
