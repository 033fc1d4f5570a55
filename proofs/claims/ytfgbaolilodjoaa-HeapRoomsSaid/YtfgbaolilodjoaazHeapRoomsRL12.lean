/- RL, twelfth text: code run whole; calls met by what is known of functions. -/
import Derived.Test.YtfgbaolilodjoaazHeapRoomsRLR
namespace Go.Proofs.YtfgbaolilodjoaaRL
open Go
set_option linter.unusedVariables false
set_option linter.unusedSimpArgs false
abbrev RO := Option (Res × Sto)
def onlyF (P : Program) (D : Dh) : Dh := fun f args s => match Nat.blt f P.funcs.size with
  | true => D f args s
  | false => none
/-- Calls and loops, run whole, as deep as n. -/
def cloStep (P : Program) (D : Dh) (p : Ch RO × Lh RO) : Ch RO × Lh RO :=
  (fun f args s K => match D f args s with
    | some (r, s') => K r s'
    | none => match P.funcs[f]? with
      | some fn => match fn.body with
        | some c => match Nat.ble args.length fn.ntmps with
          | true => Ev none P p.1 p.2 c ⟨fn.ntmps, zipArgs 0 args, s⟩ (bodyK none P fn K)
          | false => none
        | none => none
      | none => rnd none P p.1 p.2 (Nat.sub (Nat.sub f P.funcs.size) 1) args s K,
  fun c st K => match c with
    | .loop b => Ev none P p.1 p.2 b st fun e st' => match e with
      | .normal => p.2 (.loop b) st' K
      | e => K e st'
    | .region _ ops true => match st with
      | ⟨n, e, s⟩ => drwDT none P p.1 (onlyF P fun f args s => p.1 f args s fun r s' => some (r, s')) ops.toList K n e s
    | .rangeFunc g ps asg body => match st with
      | ⟨n, e, s⟩ => rfL none P p.1 g ps asg body n e s K
    | _ => none)
def clo (P : Program) (D : Dh) (n : Nat) : Ch RO × Lh RO :=
  Nat.rec (fun _ _ _ _ => none, fun _ _ _ => none) (fun _ p => cloStep P D p) n
def runD (P : Program) (D : Dh) (n : Nat) : Dh := onlyF P fun f args s => (clo P D n).1 f args s fun r s' => some (r, s')
def namesOk (P : Program) : Bool := P.funcs.all fun fn => !(fn.name == "runtime.NumGoroutine")
theorem names_at {P : Program} (h : namesOk P = true) {f : FuncId} {fn : Func} (hf : P.funcs[f]? = some fn) : (fn.name == "runtime.NumGoroutine") = false := by
  have := (Array.all_eq_true_iff_forall_mem.1 h) fn (Array.mem_of_getElem? hf)
  simpa using this
theorem clo_sound {P : Program} {D : Dh} (hD : DOk P D) (hn : namesOk P = true) (hm : P.follows .mixedOrders = true) : ∀ n,
    (∀ x0 f args s K, (clo P D n).1 f args s K = some x0 → TgOk P f args s fun r s => K r s = some x0) ∧ (∀ x0 c st K, (clo P D n).2 c st K = some x0 → Lu P c st fun e s => K e s = some x0) := by
  intro n
  induction n with
  | zero => exact ⟨fun x0 f args s K h => (by cases h), fun x0 c st K h => (by cases h)⟩
  | succ n ih =>
    obtain ⟨ihC, ihL⟩ := ih
    have hev : ∀ x0 c st K, Ev none P (clo P D n).1 (clo P D n).2 c st K = some x0 → CodeOk P c st fun e s => K e s = some x0 := fun x0 c st K h =>
      Ev.sound (T := fun x => x = some x0) (by simp) (fun f args s K h => ihC x0 f args s K h) (fun c st K h => Lu.sound c st _ (ihL x0 c st K h)) c st K h
    have hq : DOk P (onlyF P fun f args s => (clo P D n).1 f args s fun r s' => some (r, s')) := by
      intro f args s r s' h
      unfold onlyF at h
      split at h
      · rename_i hlt
        exact ((ihC _ _ _ _ _ h).call (by simpa using hlt)).mono fun r2 s2 h2 => by
          simp only [Option.some.injEq, Prod.mk.injEq] at h2
          exact h2
      · cases h
    refine ⟨fun x0 f args s K h => ?_, fun x0 c st K h => ?_⟩
    · have h : (cloStep P D (clo P D n)).1 f args s K = some x0 := h
      simp only [cloStep] at h
      split at h
      · rename_i r s' hd
        exact ((hD _ _ _ _ _ hd).mono fun r2 s2 h2 => by obtain ⟨rfl, rfl⟩ := h2; exact h).tg
      · split at h
        · rename_i fn hf
          split at h
          · rename_i c hc
            split at h
            · rename_i hl
              exact (CallOk.of_code (T := fun x => x = some x0) (by simp) hf (names_at hn hf) hc hl (hev x0 _ _ _ h)).tg
            · cases h
          · cases h
        · rename_i hf
          have hge : P.funcs.size ≤ f := Array.getElem?_eq_none_iff.1 hf
          exact ⟨fun hlt => absurd hlt (Nat.not_lt.2 hge), fun _ => rnd_sound (T := fun x => x = some x0) (by simp) (hev x0) h⟩
    · have h : (cloStep P D (clo P D n)).2 c st K = some x0 := h
      simp only [cloStep] at h
      split at h
      · rename_i b _
        refine LoopOk.next ?_
        have := hev x0 _ _ _ h
        refine ⟨fun r B Δ ρ a w hs hf => wpIn_mono (this.run r B Δ ρ a w hs hf) ?_⟩
        rintro e a' w' ⟨x, st', ρ', Δ', h1, h2, h3, h4, h5⟩
        refine ⟨x, st', ρ', Δ', h1, ?_, h3, h4, h5⟩
        cases x
        · have h3 : (clo P D n).2 (.loop b) st' K = some x0 := h2
          have h4 : LoopOk P b st' fun e s => K e s = some x0 := ihL x0 (.loop b) st' K h3
          exact h4
        all_goals exact h2
      · rename_i id ops
        obtain ⟨sn, se, ss⟩ := st
        exact drwD_sound (T := fun x => x = some x0) (st := ⟨sn, se, ss⟩) (by simp) (fun f args s K h => ihC x0 f args s K h) hq hm h
      · obtain ⟨sn, se, ss⟩ := st
        exact range_sound (T := fun x => x = some x0) (by simp) (fun f args s K h => ihC x0 f args s K h) h
      · cases h
/-- What is run whole is known. -/
theorem runD_ok {P : Program} {D : Dh} (hD : DOk P D) (hn : namesOk P = true) (hm : P.follows .mixedOrders = true) (n : Nat) : DOk P (runD P D n) := by
  intro f args s r s' h
  unfold runD onlyF at h
  split at h
  · rename_i hlt
    exact (((clo_sound hD hn hm n).1 _ _ _ _ _ h).call (by simpa using hlt)).mono fun r2 s2 h2 => by
      simp only [Option.some.injEq, Prod.mk.injEq] at h2
      exact h2
  · cases h
/-- By hand: calls met by what is known, or one by one. -/
def Cu (P : Program) (D : Dh) : Ch Prop := fun f args s K => match D f args s with
  | some (r, s') => K r s'
  | none => TgOk P f args s K
def Lv (P : Program) (D : Dh) : Lh Prop := fun c st K =>
  match c with
  | .loop b => LoopOk P b st K
  | .region id ops true => match st with
    | ⟨n, e, s⟩ => drwDT False P (Cu P D) D ops.toList K n e s
  | c => CodeOk P c st K
theorem Cu.sound {P : Program} {D : Dh} (hD : DOk P D) {f : FuncId} {args : List V} {s : Sto} {K : Res → Sto → Prop} (h : Cu P D f args s K) : TgOk P f args s K := by
  unfold Cu at h
  split at h
  · rename_i r s' hd
    exact ((hD _ _ _ _ _ hd).mono fun r2 s2 h2 => by obtain ⟨rfl, rfl⟩ := h2; exact h).tg
  · exact h
theorem Lv.sound {P : Program} {D : Dh} (hD : DOk P D) (hm : P.follows .mixedOrders = true) {c : Code} {st : St} {K : Ex → St → Prop} (h : Lv P D c st K) : CodeOk P c st K := by
  unfold Lv at h
  split at h
  · exact LoopOk.code h
  · obtain ⟨sn, se, ss⟩ := st
    exact drwD_sound (T := fun p : Prop => p) (st := ⟨sn, se, ss⟩) (fun h => h) (fun _ _ _ _ h => Cu.sound hD h) hD hm h
  · exact h
abbrev EvD (P : Program) (D : Dh) := Ev False P (Cu P D) (Lv P D)
theorem EvD.sound {P : Program} {D : Dh} (hD : DOk P D) (hm : P.follows .mixedOrders = true) {c : Code} {st : St} {K : Ex → St → Prop} (h : EvD P D c st K) : CodeOk P c st K :=
  Ev.sound (T := fun p : Prop => p) (fun h => h) (fun _ _ _ _ h => Cu.sound hD h) (fun _ _ _ h => Lv.sound hD hm h) c st K h
def noD : Dh := fun _ _ _ => none
theorem noD_ok {P : Program} : DOk P noD := fun f args s r s' h => by cases h
end Go.Proofs.YtfgbaolilodjoaaRL
