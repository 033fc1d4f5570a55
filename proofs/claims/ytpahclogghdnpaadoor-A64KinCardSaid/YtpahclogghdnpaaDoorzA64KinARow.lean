/- The rows of laws that read the table of strings.Fields: out of a call that is known at the store of that table. -/
import Derived.Test.YtpahclogghdnpaaDoorzA64KinAName
import Derived.Test.YtpahclogghdnpaaDoorzA64KinRLRow2
import Derived.Test.YtpahclogghdnpaaDoorRows
import Derived.Lib.LaidTab
import Derived.LaidSub
import Derived.MakeChecks
set_option linter.unusedVariables false
namespace Go.Proofs.YtpahclogghdnpaaDoor.a64
open Go Go.Proofs Go.Proofs.YtpahclogghdnpaaDoorRL
open Go.ChangeShapes Go.WideShapes Go.ChangeAt Go.RowKit Go.Proofs.YtpahclogghdnpaaDoorR
theorem rep_tab {W : World} (h : Lib.TabIs Tryd.prog W "strings.asciiSpace" .u8 Lib.asciiSpaceTab) : Rep (fun _ => (0, 0)) [gE] W := by
  unfold Lib.TabIs World.var? at h
  rw [glob0] at h
  have h : (match W.heap[0]? with | some (Obj.cells cs _ _) => some cs | _ => none) = some tab.toArray := h
  refine ⟨fun i e he => ?_, fun i j e f he _ ho => ?_⟩
  · cases i with
    | succ i => simp at he
    | zero =>
      simp at he; subst he
      split at h
      · rename_i cs t x hc
        cases h
        exact ⟨⟨t, x, hc⟩, rfl⟩
      · cases h
  · cases i with
    | zero => simp at he; subst he; cases ho
    | succ i => simp at he
theorem tab_of_laid {d : DataW Unit} {W : World} (h : laidMetH Tryd.prog [("unicode.White_Space", d), ("strings.asciiSpace", Lib.tabData .u8 Lib.asciiSpaceTab)] W) : Lib.TabIs Tryd.prog W "strings.asciiSpace" .u8 Lib.asciiSpaceTab := by
  have h1 := h.filter fun x => x.1 == "strings.asciiSpace"
  have e : ([("unicode.White_Space", d), ("strings.asciiSpace", Lib.tabData .u8 Lib.asciiSpaceTab)] : List (String × DataW Unit)).filter (fun x => x.1 == "strings.asciiSpace") = [("strings.asciiSpace", Lib.tabData .u8 Lib.asciiSpaceTab)] := by
    rw [List.filter_cons_of_neg (by simp), List.filter_cons_of_pos (by simp), List.filter_nil]
  rw [e, Go.MakeChecks.laidMetH_plain _ _ _ (by kernel_rfl)] at h1
  exact Lib.tabIs_of_head (g := 0) (t := 53) (e := 5) (n := 256) glob0 (by kernel_rfl) (by kernel_rfl) (by kernel_rfl) (by kernel_rfl) (by kernel_rfl) h1
theorem law_of_call_glob {os : Os} {f : FuncId} {fn : Func} {S : OpenSpec} {s : ChangeSpec} {F : Stop.Interp} {conds : List PathCond} {d : DataW Unit} {rt : TypeId} {H : Type} {enc : TypeId × Value → H} {aks : List AK}
    (own : ownKnob Tryd.checked.prog.godebug = none) (started : os.Started) (noInit : Tryd.checked.prog.inits.idxOf? f = none) (hfn : Tryd.checked.prog.funcs[f]? = some fn)
    (laidOut : laidOutB Tryd.checked.prog = true) (hread : (fn.params.toList.all fun t => Tryd.checked.prog.readableRec t && decide (t < Tryd.checked.prog.types.size)) = true)
    (hres : fn.resultTypes = #[rt]) (hrt : Tryd.checked.prog.underlying rt = some .bool) (hS : S.at F = s) (hSv : S.vars = []) (hb : S.bare.plain.varTypes Tryd.checked.prog = []) (hvars : s.vars = [])
    (hspec : ∀ ds : List (DataW H), ds.length = fn.params.size → s.fn H ds = { results := [.lit (.bool true)], args := ds })
    (witness : ∃ (w : World) (tape : Tape) (i : Input), w.os = os ∧ (w.forCall tape i).Shaped Tryd.checked.prog ∧ i.vars = [] ∧ Input.okWide Tryd.checked.prog (w.forCall tape i) .any w.heap.size f i ∧
      S.preRow enc Tryd.checked.prog fn conds false [("unicode.White_Space", d), ("strings.asciiSpace", Lib.tabData .u8 Lib.asciiSpaceTab)] (w.forCall tape i).memory i.args ∧ ({} : Assume).holds Tryd.checked.prog (lone (Frame.enter Tryd.checked.prog f i.args .normal) [] (w.forCall tape i)))
    (hk : argKinds Tryd.checked.prog fn.params.toList = some aks) (law : ∀ args, argsOk aks args → CallOk Try.prog f args [gE] fun r _ => r = .ret (.raw (.bool true))) :
    ReturnsInHanded {} Tryd.checked os f .any (S.preRow enc Tryd.checked.prog fn conds false [("unicode.White_Space", d), ("strings.asciiSpace", Lib.tabData .u8 Lib.asciiSpaceTab)]) ((S.at F).post enc Tryd.checked.prog fn false true false false) := by
  refine law_lifted_row own started noInit hfn laidOut hread hres hrt hS hSv hb hvars hspec witness ?_
  intro W base args ds p hval hA hsz _ hL
  obtain ⟨vs, v1, v2, v3⟩ := open_args (base := base) hk (fun j t v hj hv => hval j t v (by simpa using hj) (by simpa using hv)) hA
  have := (law vs v1).below (ρ := fun _ => (0, 0)) (w := W) (r := .raw (.bool true)) (rep_tab (tab_of_laid hL)) (fun i e he => by
    cases i with
    | zero => simp at he; subst he; trivial
    | succ i => simp at he) (bdL_mono (Nat.zero_le _) _ v3) (fun i e he => by
    cases i with
    | zero => simp at he; subst he; rfl
    | succ i => simp at he) trivial
  rw [v2] at this
  exact this
end Go.Proofs.YtpahclogghdnpaaDoor.a64
