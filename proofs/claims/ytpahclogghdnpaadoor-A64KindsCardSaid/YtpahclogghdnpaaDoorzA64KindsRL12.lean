/- RL, twelfth text: code run whole; calls met by what is known of functions. -/
import Derived.Test.YtpahclogghdnpaaDoorzA64KindsRLQ
namespace Go.Proofs.YtpahclogghdnpaaDoorRL
open Go
set_option linter.unusedVariables false
set_option linter.unusedSimpArgs false
abbrev RO := Option (Res × Sto)
def namesOk (P : Program) : Bool := P.funcs.all fun fn => !(fn.name == "runtime.NumGoroutine")
theorem names_at {P : Program} (h : namesOk P = true) {f : FuncId} {fn : Func} (hf : P.funcs[f]? = some fn) : (fn.name == "runtime.NumGoroutine") = false := by
  have := (Array.all_eq_true_iff_forall_mem.1 h) fn (Array.mem_of_getElem? hf)
  simpa using this
/-- By hand: calls met by what is known, or one by one. -/
def Cu (P : Program) (D : Dh) : Ch Prop := fun f args s K => match D f args s with
  | some (r, s') => K r s'
  | none => TgOk P f args s K
def Lv (P : Program) (D : Dh) : Lh Prop := fun c st K =>
  match c with
  | .loop b => LoopOk P b st K
  | .region id ops true => match st with
    | ⟨n, e, s⟩ => drwDT False P (Cu P D) (topC False D) ops.toList K n e s
  | c => CodeOk P c st K
theorem Cu.sound {P : Program} {D : Dh} (hD : DOk P D) {f : FuncId} {args : List V} {s : Sto} {K : Res → Sto → Prop} (h : Cu P D f args s K) : TgOk P f args s K := by
  unfold Cu at h
  split at h
  · rename_i r s' hd
    exact ((hD _ _ _ _ _ hd).mono fun r2 s2 h2 => by obtain ⟨rfl, rfl⟩ := h2; exact h).tg
  · exact h
theorem Lv.sound {P : Program} {D : Dh} (hD : DOk P D) (hm : P.follows .mixedOrders = true) {c : Code} {st : St} {K : Ex → St → Prop} (h : Lv P D c st K) : CodeOk P c st K := by
  unfold Lv at h
  split at h
  · exact LoopOk.code h
  · obtain ⟨sn, se, ss⟩ := st
    exact drwD_sound (T := fun p : Prop => p) (st := ⟨sn, se, ss⟩) (fun h => h) (fun _ _ _ _ h => Cu.sound hD h) (topC_pickD (fun h => h)) hD hm h
  · exact h
abbrev EvD (P : Program) (D : Dh) := Ev False P (Cu P D) (Lv P D)
theorem EvD.sound {P : Program} {D : Dh} (hD : DOk P D) (hm : P.follows .mixedOrders = true) {c : Code} {st : St} {K : Ex → St → Prop} (h : EvD P D c st K) : CodeOk P c st K :=
  Ev.sound (T := fun p : Prop => p) (fun h => h) (fun _ _ _ _ h => Cu.sound hD h) (fun _ _ _ h => Lv.sound hD hm h) c st K h
end Go.Proofs.YtpahclogghdnpaaDoorRL
