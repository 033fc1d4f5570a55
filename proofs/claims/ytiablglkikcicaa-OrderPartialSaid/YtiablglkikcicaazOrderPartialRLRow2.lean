/- RL: rows of laws whose arguments go by value, out of a call that is known; rows of numbers within an argument. -/
import Derived.Test.YtiablglkikcicaazOrderPartialRLRow
import Derived.Test.YtiablglkikcicaazOrderPartialRL14
namespace Go.Proofs.YtiablglkikcicaaRL
open Go Go.ChangeShapes Go.WideShapes Go.ChangeAt Go.RowKit Go.Proofs.YtiablglkikcicaaR
set_option linter.unusedVariables false
theorem law_of_call {C : Checked} {os : Os} {f : FuncId} {fn : Func} {s : ChangeSpec} {conds : List PathCond} {rt : TypeId} {H : Type} {enc : TypeId × Value → H} {aks : List AK}
    (own : ownKnob C.prog.godebug = none) (started : os.Started) (noInit : C.prog.inits.idxOf? f = none) (hfn : C.prog.funcs[f]? = some fn)
    (laidOut : laidOutB C.prog = true) (hread : (fn.params.toList.all fun t => C.prog.readableRec t && decide (t < C.prog.types.size)) = true)
    (hres : fn.resultTypes = #[rt]) (hrt : C.prog.underlying rt = some .bool) (hvars : s.vars = [])
    (hspec : ∀ ds : List (DataW H), ds.length = fn.params.size → s.fn H ds = { results := [.lit (.bool true)], args := ds })
    (witness : ∃ (w : World) (tape : Tape) (i : Input), w.os = os ∧ (w.forCall tape i).Shaped C.prog ∧ i.vars = [] ∧ Input.okWide C.prog (w.forCall tape i) .any w.heap.size f i ∧
      s.pre6 enc C.prog fn conds false (w.forCall tape i).memory i.args ∧ ({} : Assume).holds C.prog (lone (Frame.enter C.prog f i.args .normal) [] (w.forCall tape i)))
    (hk : argKinds C.prog fn.params.toList = some aks) (law : ∀ args, argsOk aks args → CallOk C.prog f args [] fun r _ => r = .ret (.raw (.bool true))) :
    ReturnsInHanded {} C os f .any (s.pre6 enc C.prog fn conds false) (s.post enc C.prog fn false true false false) := by
  refine law_lifted own started noInit hfn laidOut hread hres hrt hvars hspec witness ?_
  intro W base args ds p hval hA hsz
  obtain ⟨vs, v1, v2, v3⟩ := open_args (base := base) hk (fun j t v hj hv => hval j t v (by simpa using hj) (by simpa using hv)) hA
  exact (law vs v1).row v3 (v2 _) W
theorem argsOk_agg {cs : List CK} {ks : List AK} {args : List V} (h : argsOk (.agg cs :: ks) args) : ∃ ws rest, args = .agg ws :: rest ∧ rawsOk cs ws ∧ argsOk ks rest := by
  match args, h with
  | .agg ws :: vs, ⟨hv, h⟩ => exact ⟨ws, vs, rfl, hv, h⟩
theorem argsOk_nil {args : List V} (h : argsOk [] args) : args = [] := by
  match args, h with
  | [], _ => rfl
theorem rawsOk_nil {ws : List V} (h : rawsOk [] ws) : ws = [] := by
  match ws, h with
  | [], _ => rfl
/-- A row of numbers of a kind. -/
def numsV (k : IntKind) (x : Nat → Int) (m : Nat) : List V := (List.range m).map fun i => .raw (.int k (x i))
theorem numsV_succ (k : IntKind) (x : Nat → Int) (m : Nat) : numsV k x (m + 1) = .raw (.int k (x 0)) :: numsV k (fun i => x (i + 1)) m := by
  simp [numsV, List.range_succ_eq_map]
theorem rawsOk_nums {k : IntKind} {ks : List CK} : ∀ {m : Nat} {ws : List V}, rawsOk (List.replicate m (.int k) ++ ks) ws → ∃ x : Nat → Int, (∀ i, i < m → (Lit.int k (x i)).wf = true) ∧ ∃ ws', rawsOk ks ws' ∧ ws = numsV k x m ++ ws' := by
  intro m
  induction m with
  | zero => intro ws h; exact ⟨fun _ => 0, fun i hi => absurd hi (by omega), ws, by simpa using h, by simp [numsV]⟩
  | succ m ih =>
    intro ws h
    rw [List.replicate_succ, List.cons_append] at h
    match ws, h with
    | .raw v :: ws, ⟨hv, h⟩ =>
      obtain ⟨n, rfl, hn⟩ := hv
      obtain ⟨x, hx, ws', h', e⟩ := ih h
      refine ⟨fun i => match i with | 0 => n | i + 1 => x i, fun i hi => ?_, ws', h', ?_⟩
      · cases i with
        | zero => exact hn
        | succ i => exact hx i (by omega)
      · rw [numsV_succ, e]; rfl
def readNums (k : IntKind) (m : Nat) : List V → Option (List Int × List V) :=
  Nat.rec (fun l => some ([], l)) (fun _ rec l => match l with
    | .raw (.int k' n) :: l => match kindEq k' k with
      | true => match rec l with
        | some (xs, r) => some (n :: xs, r)
        | none => none
      | false => none
    | _ => none) m
theorem readNums_succ {k : IntKind} {m : Nat} (cs : List V) : readNums k (m + 1) cs = (match cs with
    | .raw (.int k' n) :: l => match kindEq k' k with
      | true => match readNums k m l with
        | some (xs, r) => some (n :: xs, r)
        | none => none
      | false => none
    | _ => none) := rfl
theorem readNums_eq {k : IntKind} : ∀ {m : Nat} {cs : List V} {xs : List Int} {r : List V}, readNums k m cs = some (xs, r) → cs = numsV k (fun i => xs.getD i 0) m ++ r := by
  intro m
  induction m with
  | zero =>
    intro cs xs r h
    have h : some (([] : List Int), cs) = some (xs, r) := h
    cases h
    simp [numsV]
  | succ m ih =>
    intro cs xs r h
    rw [readNums_succ] at h
    split at h
    · rename_i k' n l
      split at h
      · rename_i hk
        have hk := kindEq_eq hk
        subst hk
        split at h
        · rename_i ys r' hr
          cases h
          rw [numsV_succ, ih hr]; rfl
        · cases h
      · cases h
    · cases h
end Go.Proofs.YtiablglkikcicaaRL
