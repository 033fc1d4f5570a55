/- RL and the rows of laws: how long a law's slices can be (what is read has a weight). -/
import Derived.Test.YtllfmafebhifdaazWinBarriersRLRow4
namespace Go.Proofs.YtllfmafebhifdaaRL
open Go Go.ChangeShapes Go.WideShapes Go.ChangeAt Go.RowKit Go.Deep Go.Proofs.YtllfmafebhifdaaR
set_option linter.unusedVariables false
set_option linter.unusedSimpArgs false
def smallV : Value → Prop
  | .slice _ n _ => n ≤ reachBytes
  | _ => True
def smallS : List AS → List Value → Prop
  | .sl _ :: ks, v :: vs => smallV v ∧ smallS ks vs
  | .flat _ :: ks, _ :: vs => smallS ks vs
  | _, _ => True
def posT (P : Program) (t : TypeId) : Bool := match P.underlying t with
  | some (.slice e) => Nat.blt 0 (P.bytesOf e)
  | _ => true
section
variable {H : Type} {enc : TypeId × Value → H} {P : Program} {W : World} {base : Nat}
theorem small_of : ∀ {ts : List TypeId} {aks : List AS} {vs : List Value} {ds : List (DataW H)} {p : List MemPlace}, argKindsS P ts = some aks →
    (∀ (j : Nat) t v, ts[j]? = some t → vs[j]? = some v → Value.okWide P W .any base t v) → DataW.TrodAll enc P W 0 (fun _ => true) true ts vs ds p → ts.all (posT P) = true → (DataW.weightsEach P ts ds).all (· ≤ reachBytes) = true → smallS aks vs := by
  intro ts
  induction ts with
  | nil =>
    intro aks vs ds p h hv hA _ _
    simp only [argKindsS, Option.some.injEq] at h
    subst h
    trivial
  | cons t ts ih =>
    intro aks vs ds p h hv hA hpos hsz
    obtain ⟨v, vs', d, ds', p', q', rfl, rfl, rfl, h0, r0⟩ := trodAll_cons hA
    simp only [argKindsS] at h
    split at h
    case h_2 => cases h
    rename_i ak as h1 h2
    simp only [Option.some.injEq] at h
    subst h
    rw [List.all_cons, Bool.and_eq_true] at hpos
    have hw : DataW.weightsEach P (t :: ts) (d :: ds') = d.weights P t ++ DataW.weightsEach P ts ds' := by rw [DataW.weightsEach]
    rw [hw, List.all_append, Bool.and_eq_true] at hsz
    have hi := ih h2 (fun j u x hj hx => hv (j + 1) u x (by simpa using hj) (by simpa using hx)) r0 hpos.2 hsz.2
    have hok := hv 0 t v rfl rfl
    unfold argKindS at h1
    split at h1
    · cases h1
      exact hi
    · split at h1
      case h_2 => cases h1
      rename_i e ht
      split at h1
      case h_2 => cases h1
      split at h1
      case h_2 => cases h1
      cases h1
      refine ⟨?_, hi⟩
      obtain ⟨fuel, hf⟩ := h0
      obtain ⟨a0, len0, cap0, rfl⟩ := okWide_slice ht hok
      have hcs : (Value.slice a0 len0 cap0).cells = #[.slice a0 len0 cap0] := rfl
      rcases open_slice ht hf with ⟨hc, _⟩ | ⟨a, len, cap, m, n, D, Pl, hc, hb, hl, hm, hmm, hx, _⟩
      · have hc : Value.slice a0 len0 cap0 = .slice none 0 0 := by simpa [hcs] using hc
        cases hc
        exact Nat.zero_le _
      · have hc : Value.slice a0 len0 cap0 = .slice (some a) len cap := by simpa [hcs] using hc
        cases hc
        cases hx
        have h3 := hsz.1
        rw [DataW.weights, ht] at h3
        simp only [List.all_cons, Bool.and_eq_true, decide_eq_true_eq, List.length_map, List.length_range] at h3
        have h4 := hpos.1
        unfold posT at h4
        rw [ht] at h4
        have h5 : 0 < P.bytesOf e := by simpa using h4
        show len0 ≤ reachBytes
        exact Nat.le_trans (Nat.le_trans (Nat.le_add_right _ _) (Nat.le_mul_of_pos_right _ h5)) h3.1
theorem callsB {f : FuncId} {ts : List TypeId} {aks : List AS} {xs : Array Value} {ds : List (DataW H)} {p : List MemPlace} (hv : ∀ (j : Nat) t v, ts[j]? = some t → xs.toList[j]? = some v → Value.okWide P W .any base t v) (hA : DataW.TrodAll enc P W 0 (fun _ => true) true ts xs.toList ds p)
    (hk : argKindsS P ts = some aks) (hpos : ts.all (posT P) = true) (hsz : (DataW.weightsEach P ts ds).all (· ≤ reachBytes) = true) (law : ∀ args s, argsOkS 0 aks args s → (∃ ρ, smallS aks (absL ρ args)) → CallOk P f args s fun r _ => r = .ret (.raw (.bool true))) : Calls P f xs W fun e w' => e = .returned (.bool true) ∧ Go.RowKit.Below W.heap.size W w' := by
  obtain ⟨vs, s, pl, o1, o2, o3, o4, o5⟩ := open_argsS (base := base) 0 hk hv hA
  obtain ⟨q1, q2⟩ := o3 (fun i => pl.getD i (0, 0)) (fun i q hq => by
    rw [Nat.zero_add]
    simp [List.getD_eq_getElem?_getD, hq])
  have hown : ∀ (i : Nat) (e : Ent), s[i]? = some e → e.isOwn = false := fun i e he => (o5 e (List.mem_of_getElem? he)).1
  have hr : Rep (fun i => pl.getD i (0, 0)) s W := ⟨fun i e he => by have := q2 i e he; rwa [Nat.zero_add] at this, fun i j e f he hf ho => by rw [hown i e he] at ho; cases ho⟩
  have hs : sbd s := fun i e he => Ent.bd_mono (Nat.zero_le _) (o5 e (List.mem_of_getElem? he)).2
  have := (law vs s o1 ⟨_, by rw [q1]; exact small_of (base := base) hk hv hA hpos hsz⟩).below (r := .raw (.bool true)) hr hs (by rwa [Nat.zero_add] at o4) hown trivial
  rw [q1] at this
  simpa [V.abs] using this
end
theorem law_of_callB {C : Checked} {os : Os} {f : FuncId} {fn : Func} {s : ChangeSpec} {conds : List PathCond} {rt : TypeId} {H : Type} {enc : TypeId × Value → H} {aks : List AS}
    (own : ownKnob C.prog.godebug = none) (started : os.Started) (noInit : C.prog.inits.idxOf? f = none) (hfn : C.prog.funcs[f]? = some fn)
    (laidOut : laidOutB C.prog = true) (hread : (fn.params.toList.all fun t => C.prog.readableRec t && decide (t < C.prog.types.size)) = true)
    (hres : fn.resultTypes = #[rt]) (hrt : C.prog.underlying rt = some .bool) (hvars : s.vars = [])
    (hspec : ∀ ds : List (DataW H), ds.length = fn.params.size → s.fn H ds = { results := [.lit (.bool true)], args := ds })
    (witness : ∃ (w : World) (tape : Tape) (i : Input), w.os = os ∧ (w.forCall tape i).Shaped C.prog ∧ i.vars = [] ∧ Input.okWide C.prog (w.forCall tape i) .any w.heap.size f i ∧
      s.pre6 enc C.prog fn conds false (w.forCall tape i).memory i.args ∧ ({} : Assume).holds C.prog (lone (Frame.enter C.prog f i.args .normal) [] (w.forCall tape i)))
    (hk : argKindsS C.prog fn.params.toList = some aks) (hpos : fn.params.toList.all (posT C.prog) = true) (law : ∀ args s, argsOkS 0 aks args s → (∃ ρ, smallS aks (absL ρ args)) → CallOk C.prog f args s fun r _ => r = .ret (.raw (.bool true))) :
    ReturnsInHanded {} C os f .any (s.pre6 enc C.prog fn conds false) (s.post enc C.prog fn false true false false) := by
  refine law_lifted own started noInit hfn laidOut hread hres hrt hvars hspec witness ?_
  intro W base args ds p hval hA hsz
  exact callsB (fun j t v hj hv => hval j t v (by simpa using hj) (by simpa using hv)) hA hk hpos hsz law
/-- A law's call, its slices told by columns, none of them too long. -/
theorem law_viaB {P : Program} {f : FuncId} {aks : List AS} {K : Res → Sto → Prop} (h : ∀ args s, argsOkA 0 aks args s → (∃ ρ, smallS aks (absL ρ args)) → CallOk P f args s K) (args : List V) (s : Sto) (ha : argsOkS 0 aks args s) (hsm : ∃ ρ, smallS aks (absL ρ args)) : CallOk P f args s K := by
  obtain ⟨args', s', h1, h2, h3, h4, h5, h6, h7⟩ := argsA_of ha
  refine (h args' s' h1 (by obtain ⟨ρ, hρ⟩ := hsm; exact ⟨ρ, by rw [h4 ρ]; exact hρ⟩)).conv h2 (fun ρ w hr hs hb => ⟨⟨fun i e he => ?_, fun i j e f he hf ho => ?_⟩, fun i e he => ?_, ?_, h4 ρ⟩) h3
  · have := h6 ρ w 0 (fun j e he => by rw [Nat.zero_add]; exact hr.ent j e he) i e he
    rwa [Nat.zero_add] at this
  · rw [(h7 e (List.mem_of_getElem? he)).1] at ho; cases ho
  · exact Ent.bd_mono (Nat.zero_le _) (h7 e (List.mem_of_getElem? he)).2
  · rw [h2]; exact h5 _ hb
theorem small_sle {cs : List CK} {ks : List AS} {b z n cap : Nat} {vs : List V} {ρ : Rho} (h : smallS (.sl cs :: ks) (absL ρ (.sle b z 0 n cap :: vs))) : n ≤ reachBytes ∧ smallS ks (absL ρ vs) := h
theorem small_raw {cs : List CK} {ks : List AS} {p : Option Addr} {cap : Nat} {vs : List V} {ρ : Rho} (h : smallS (.sl cs :: ks) (absL ρ (.raw (.slice p 0 cap) :: vs))) : smallS ks (absL ρ vs) := h.2
theorem small_flat {a : AK} {ks : List AS} {v : V} {vs : List V} {ρ : Rho} (h : smallS (.flat a :: ks) (absL ρ (v :: vs))) : smallS ks (absL ρ vs) := h
end Go.Proofs.YtllfmafebhifdaaRL
