/- RL, fifteenth text: a law's function, with the bodies of what it calls, and no table's line, taken in. -/
import Derived.Test.YtiablglkikcicaazOrderPartialRL14
namespace Go.Proofs.YtiablglkikcicaaRL
open Go
set_option linter.unusedVariables false
set_option linter.unusedSimpArgs false
def gStep {R : Type} (no : R) (P : Program) (D : Dh) (Q : Dh) (p : Ch R × Lh R) : Ch R × Lh R :=
  (fun f args s K => match D f args s with
    | some (r, s') => K r s'
    | none => match P.funcs[f]? with
      | some fn => match fn.body with
        | some c => match Nat.ble args.length fn.ntmps with
          | true => Ev no P p.1 p.2 c ⟨fn.ntmps, zipArgs 0 args, s⟩ (bodyK no P fn K)
          | false => no
        | none => no
      | none => no,
  fun c st K => match c with
    | .loop b => Ev no P p.1 p.2 b st fun e st' => match e with
      | .normal => p.2 (.loop b) st' K
      | e => K e st'
    | .region _ ops true => match st with
      | ⟨n, e, s⟩ => drwDT no P p.1 Q ops.toList K n e s
    | _ => no)
def gClo {R : Type} (no : R) (P : Program) (D : Dh) (Q : Dh) (n : Nat) : Ch R × Lh R :=
  Nat.rec (fun _ _ _ _ => no, fun _ _ _ => no) (fun _ p => gStep no P D Q p) n
theorem gClo_sound {P : Program} {D : Dh} {Q : Dh} (hD : DOk P D) (hQ : DOk P Q) (hn : namesOk P = true) (hm : P.follows .mixedOrders = true) {R : Type} {no : R} {T : R → Prop} (hno : ¬ T no) : ∀ n,
    (∀ f args s K, T ((gClo no P D Q n).1 f args s K) → CallOk P f args s fun r s => T (K r s)) ∧ (∀ c st K, T ((gClo no P D Q n).2 c st K) → Lu P c st fun e s => T (K e s)) := by
  intro n
  induction n with
  | zero => exact ⟨fun f args s K h => (hno h).elim, fun c st K h => (hno h).elim⟩
  | succ n ih =>
    obtain ⟨ihC, ihL⟩ := ih
    have hev : ∀ c st K, T (Ev no P (gClo no P D Q n).1 (gClo no P D Q n).2 c st K) → CodeOk P c st fun e s => T (K e s) := fun c st K h =>
      Ev.sound hno (fun _ _ _ _ h => ihC _ _ _ _ h) (fun c st K h => Lu.sound c st _ (ihL c st K h)) c st K h
    refine ⟨fun f args s K h => ?_, fun c st K h => ?_⟩
    · have h : T (match D f args s with
        | some (r, s') => K r s'
        | none => match P.funcs[f]? with
          | some fn => match fn.body with
            | some c => match Nat.ble args.length fn.ntmps with
              | true => Ev no P (gClo no P D Q n).1 (gClo no P D Q n).2 c ⟨fn.ntmps, zipArgs 0 args, s⟩ (bodyK no P fn K)
              | false => no
            | none => no
          | none => no) := h
      split at h
      · rename_i r s' hd
        exact (hD _ _ _ _ _ hd).mono fun r2 s2 h2 => by obtain ⟨rfl, rfl⟩ := h2; exact h
      · split at h
        · rename_i fn hf
          split at h
          · rename_i c hc
            split at h
            · rename_i hl
              exact CallOk.of_code hno hf (names_at hn hf) hc hl (hev _ _ _ h)
            · exact (hno h).elim
          · exact (hno h).elim
        · exact (hno h).elim
    · cases c with
      | loop b =>
        refine LoopOk.next ?_
        have := hev _ _ _ (show T (Ev no P (gClo no P D Q n).1 (gClo no P D Q n).2 b st fun e st' => match e with | .normal => (gClo no P D Q n).2 (.loop b) st' K | e => K e st') from h)
        refine ⟨fun ρ a w hs => wp_mono (this.run ρ a w hs) ?_⟩
        rintro e a' w' ⟨x, st', ρ', h1, h2, h3, h4⟩
        refine ⟨x, st', ρ', h1, ?_, h3, h4⟩
        cases x
        · have h4 : LoopOk P b st' fun e s => T (K e s) := ihL (.loop b) st' K h2
          exact h4
        all_goals exact h2
      | region id ops draw =>
        cases draw with
        | false => exact (hno h).elim
        | true =>
          obtain ⟨sn, se, ss⟩ := st
          exact drwD_sound hno (st := ⟨sn, se, ss⟩) (fun _ _ _ _ h => ihC _ _ _ _ h) hQ hm h
      | _ => exact (hno h).elim
/-- A law's function tells true; what it calls is taken in. -/
def lawI (P : Program) (D : Dh) (n : Nat) (f : FuncId) (args : List V) (s : Sto) : Bool := (gClo false P D (runD P D n) n).1 f args s resB
theorem lawI_sound {P : Program} {D : Dh} (hD : DOk P D) (hn : namesOk P = true) (hm : P.follows .mixedOrders = true) {n : Nat} {f : FuncId} {args : List V} {s : Sto} (h : lawI P D n f args s = true) : CallOk P f args s fun r _ => r = .ret (.raw (.bool true)) :=
  ((gClo_sound (T := fun b : Bool => b = true) hD (runD_ok hD hn hm n) hn hm (by simp) n).1 _ _ _ _ h).mono fun r s h => by
    unfold resB at h
    split at h
    · subst h; rfl
    · cases h
/-- A run at no store, branching allowed. -/
def runI (P : Program) (D : Dh) (n : Nat) (f : FuncId) (args : List V) : Option V := (gClo none P D (runD P D n) n).1 f args [] fun r _ => match r with
  | .ret v => some v
  | _ => none
theorem runI_ok {P : Program} {D : Dh} (hD : DOk P D) (hn : namesOk P = true) (hm : P.follows .mixedOrders = true) {n : Nat} {f : FuncId} {args : List V} {v : V} (h : runI P D n f args = some v) : CallOk P f args [] fun r _ => r = .ret v :=
  ((gClo_sound (T := fun x => x = some v) hD (runD_ok hD hn hm n) hn hm (by simp) n).1 _ _ _ _ h).mono fun r s h => by
    cases r with
    | ret u => exact congrArg Res.ret (Option.some.inj h)
    | pan u => cases h
end Go.Proofs.YtiablglkikcicaaRL
