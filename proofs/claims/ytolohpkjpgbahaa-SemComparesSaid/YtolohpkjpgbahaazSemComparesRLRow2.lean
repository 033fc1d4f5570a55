/- RL: rows of laws whose arguments go by value, out of a call that is known; rows of numbers within an argument. -/
import Derived.Test.YtolohpkjpgbahaazSemComparesRLRow
import Derived.Test.YtolohpkjpgbahaazSemComparesRL14
namespace Go.Proofs.YtolohpkjpgbahaaRL
open Go Go.ChangeShapes Go.WideShapes Go.ChangeAt Go.RowKit Go.Proofs.YtolohpkjpgbahaaR
set_option linter.unusedVariables false
theorem law_of_call {C : Checked} {os : Os} {f : FuncId} {fn : Func} {s : ChangeSpec} {conds : List PathCond} {rt : TypeId} {H : Type} {enc : TypeId × Value → H} {aks : List AK}
    (own : ownKnob C.prog.godebug = none) (started : os.Started) (noInit : C.prog.inits.idxOf? f = none) (hfn : C.prog.funcs[f]? = some fn)
    (laidOut : laidOutB C.prog = true) (hread : (fn.params.toList.all fun t => C.prog.readableRec t && decide (t < C.prog.types.size)) = true)
    (hres : fn.resultTypes = #[rt]) (hrt : C.prog.underlying rt = some .bool) (hvars : s.vars = [])
    (hspec : ∀ ds : List (DataW H), ds.length = fn.params.size → s.fn H ds = { results := [.lit (.bool true)], args := ds })
    (witness : ∃ (w : World) (tape : Tape) (i : Input), w.os = os ∧ (w.forCall tape i).Shaped C.prog ∧ i.vars = [] ∧ Input.okWide C.prog (w.forCall tape i) .any w.heap.size f i ∧
      s.pre6 enc C.prog fn conds false (w.forCall tape i).memory i.args ∧ ({} : Assume).holds C.prog (lone (Frame.enter C.prog f i.args .normal) [] (w.forCall tape i)))
    (hk : argKinds C.prog fn.params.toList = some aks) (law : ∀ args, argsOk aks args → CallOk C.prog f args [] fun r _ => r = .ret (.raw (.bool true))) :
    ReturnsInHanded {} C os f .any (s.pre6 enc C.prog fn conds false) (s.post enc C.prog fn false true false false) := by
  refine law_lifted own started noInit hfn laidOut hread hres hrt hvars hspec witness ?_
  intro W base args ds p hval hA hsz
  obtain ⟨vs, v1, v2, v3⟩ := open_args (base := base) hk (fun j t v hj hv => hval j t v (by simpa using hj) (by simpa using hv)) hA
  exact (law vs v1).row v3 (v2 _) W
theorem argsOk_int {k : IntKind} {ks : List AK} {args : List V} (h : argsOk (.one (.int k) :: ks) args) : ∃ n rest, args = .raw (.int k n) :: rest ∧ (Lit.int k n).wf = true ∧ argsOk ks rest := by
  match args, h with
  | .raw v :: vs, ⟨hv, h⟩ => obtain ⟨n, rfl, hn⟩ := hv; exact ⟨n, vs, rfl, hn, h⟩
theorem argsOk_nil {args : List V} (h : argsOk [] args) : args = [] := by
  match args, h with
  | [], _ => rfl
/-- A row of numbers of a kind. -/
def numsV (k : IntKind) (x : Nat → Int) (m : Nat) : List V := (List.range m).map fun i => .raw (.int k (x i))
theorem numsV_succ (k : IntKind) (x : Nat → Int) (m : Nat) : numsV k x (m + 1) = .raw (.int k (x 0)) :: numsV k (fun i => x (i + 1)) m := by
  simp [numsV, List.range_succ_eq_map]
def readNums (k : IntKind) (m : Nat) : List V → Option (List Int × List V) :=
  Nat.rec (fun l => some ([], l)) (fun _ rec l => match l with
    | .raw (.int k' n) :: l => match kindEq k' k with
      | true => match rec l with
        | some (xs, r) => some (n :: xs, r)
        | none => none
      | false => none
    | _ => none) m
theorem readNums_succ {k : IntKind} {m : Nat} (cs : List V) : readNums k (m + 1) cs = (match cs with
    | .raw (.int k' n) :: l => match kindEq k' k with
      | true => match readNums k m l with
        | some (xs, r) => some (n :: xs, r)
        | none => none
      | false => none
    | _ => none) := rfl
theorem readNums_eq {k : IntKind} : ∀ {m : Nat} {cs : List V} {xs : List Int} {r : List V}, readNums k m cs = some (xs, r) → cs = numsV k (fun i => xs.getD i 0) m ++ r := by
  intro m
  induction m with
  | zero =>
    intro cs xs r h
    have h : some (([] : List Int), cs) = some (xs, r) := h
    cases h
    simp [numsV]
  | succ m ih =>
    intro cs xs r h
    rw [readNums_succ] at h
    split at h
    · rename_i k' n l
      split at h
      · rename_i hk
        have hk := kindEq_eq hk
        subst hk
        split at h
        · rename_i ys r' hr
          cases h
          rw [numsV_succ, ih hr]; rfl
        · cases h
      · cases h
    · cases h
end Go.Proofs.YtolohpkjpgbahaaRL
