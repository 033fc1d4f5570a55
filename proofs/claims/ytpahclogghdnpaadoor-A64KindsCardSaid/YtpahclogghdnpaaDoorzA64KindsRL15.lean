/- RL, fifteenth text: a law's function, with the bodies of what it calls, and no table's line, taken in. -/
import Derived.Test.YtpahclogghdnpaaDoorzA64KindsRL14
namespace Go.Proofs.YtpahclogghdnpaaDoorRL
open Go
set_option linter.unusedVariables false
set_option linter.unusedSimpArgs false
/-- What a call comes to: one answer, or one of two by a test. -/
inductive Ans where
  | one (r : Res) (s : Sto)
  | br (b : Bool) (x y : Ans)
  | no
def Ans.go {R : Type} (no : R) (K : Res → Sto → R) : Ans → R
  | .one r s => K r s
  | .br b x y => Br b (x.go no K) (y.go no K)
  | .no => no
def Ans.is : Ans → Res → Sto → Prop
  | .one r s, r', s' => r' = r ∧ s' = s
  | .br b x y, r', s' => (b = true ∧ x.is r' s') ∨ (b = false ∧ y.is r' s')
  | .no, _, _ => False
/-- Its tests lead to an answer. -/
def Ans.fine : Ans → Prop
  | .one _ _ => True
  | .br b x y => (b = true ∧ x.fine) ∨ (b = false ∧ y.fine)
  | .no => False
theorem Ans.out {R : Type} {no : R} {T : R → Prop} (hno : ¬ T no) {K : Res → Sto → R} : ∀ {a : Ans}, T (a.go no K) → a.fine ∧ ∀ {r s}, a.is r s → T (K r s)
  | .one r s, h => ⟨trivial, fun ⟨h1, h2⟩ => by subst h1 h2; exact h⟩
  | .br b x y, h => by
    rcases Br.out (T := T) h with ⟨hb, h⟩ | ⟨hb, h⟩
    · obtain ⟨h1, h2⟩ := Ans.out hno h
      refine ⟨.inl ⟨hb, h1⟩, fun hi => ?_⟩
      rcases hi with ⟨kb, hi⟩ | ⟨kb, hi⟩
      · exact h2 hi
      · rw [hb] at kb; cases kb
    · obtain ⟨h1, h2⟩ := Ans.out hno h
      refine ⟨.inr ⟨hb, h1⟩, fun hi => ?_⟩
      rcases hi with ⟨kb, hi⟩ | ⟨kb, hi⟩
      · rw [hb] at kb; cases kb
      · exact h2 hi
  | .no, h => (hno h).elim
theorem Ans.pick {R : Type} {no : R} {T : R → Prop} (hno : ¬ T no) {α : Type} {K : Res → Sto → R} : ∀ {a : Ans}, T (a.go no K) → ∃ r s, T (K r s) ∧ ∀ K0 : Res → Sto → Option α, a.go none K0 = K0 r s
  | .one r s, h => ⟨r, s, h, fun _ => rfl⟩
  | .br b x y, h => by
    cases b with
    | true => exact Ans.pick hno (a := x) h
    | false => exact Ans.pick hno (a := y) h
  | .no, h => (hno h).elim
/-- What is known of functions, tests among it. -/
abbrev Eh := FuncId → List V → Sto → Option Ans
def EOk (P : Program) (E : Eh) : Prop := ∀ f args s a, E f args s = some a → a.fine → CallOk P f args s fun r s' => a.is r s'
def noE : Eh := fun _ _ _ => none
theorem noE_ok {P : Program} : EOk P noE := fun _ _ _ _ h _ => by cases h
/-- More is known. -/
def addE (f0 : FuncId) (g : List V → Sto → Option Ans) (E : Eh) : Eh := fun f args s => match Nat.beq f f0 with
  | true => g args s
  | false => E f args s
theorem addE_ok {P : Program} {f0 : FuncId} {g : List V → Sto → Option Ans} {E : Eh} (hE : EOk P E) (hg : ∀ args s a, g args s = some a → a.fine → CallOk P f0 args s fun r s' => a.is r s') : EOk P (addE f0 g E) := by
  intro f args s a h hfi
  unfold addE at h
  split at h
  · rename_i hf
    obtain rfl : f = f0 := Nat.eq_of_beq_eq_true hf
    exact hg _ _ _ h hfi
  · exact hE _ _ _ _ h hfi
/-- A function of flat arguments and a flat result, told by g. -/
def specE (f0 : FuncId) (g : List V → Option V) (E : Eh) : Eh := addE f0 (fun args s => match g args with
  | some v => some (.one (.ret v) s)
  | none => none) E
theorem specE_ok {P : Program} {f0 : FuncId} {g : List V → Option V} {E : Eh} (hE : EOk P E) (hg : ∀ args v, g args = some v → bdL 0 args ∧ v.bd 0 ∧ CallOk P f0 args [] fun r _ => r = .ret v) : EOk P (specE f0 g E) := by
  refine addE_ok hE fun args s a h _ => ?_
  split at h
  · rename_i v hv
    cases h
    obtain ⟨h1, h2, h3⟩ := hg args v hv
    exact h3.anywhere h1 h2
  · cases h
def gStep {R : Type} (no : R) (P : Program) (D : Eh) (p : Ch R × Lh R) : Ch R × Lh R :=
  (fun f args s K => match D f args s with
    | some a => a.go no K
    | none => match P.funcs[f]? with
      | some fn => match fn.body with
        | some c => match Nat.ble args.length fn.ntmps with
          | true => Ev no P p.1 p.2 c ⟨fn.ntmps, zipArgs 0 args, s⟩ (bodyK no P fn K)
          | false => no
        | none => no
      | none => rnd no P p.1 p.2 (Nat.sub (Nat.sub f P.funcs.size) 1) args s K,
  fun c st K => match c with
    | .loop b => Ev no P p.1 p.2 b st fun e st' => match e with
      | .normal => p.2 (.loop b) st' K
      | e => K e st'
    | .region _ ops true => match st with
      | ⟨n, e, s⟩ => drwDT no P p.1 (onlyC no P p.1) ops.toList K n e s
    | .rangeFunc g ps asg body => match st with
      | ⟨n, e, s⟩ => rfL no P p.1 g ps asg body n e s K
    | _ => no)
def gClo {R : Type} (no : R) (P : Program) (D : Eh) (n : Nat) : Ch R × Lh R :=
  Nat.rec (fun _ _ _ _ => no, fun _ _ _ => no) (fun _ p => gStep no P D p) n
theorem gStep_pick {P : Program} {D : Eh} {R : Type} {no : R} {T : R → Prop} {α : Type} (hno : ¬ T no) {p : Ch R × Lh R} {p0 : Ch (Option α) × Lh (Option α)} (hC : PickC T p.1 p0.1) (hL : PickL T p.2 p0.2) : PickC T (gStep no P D p).1 (gStep none P D p0).1 ∧ PickL T (gStep no P D p).2 (gStep none P D p0).2 := by
  refine ⟨fun f args s K h => ?_, fun c st K h => ?_⟩
  · simp only [gStep] at h ⊢
    cases hd : D f args s with
    | some x =>
      rw [hd] at h
      exact Ans.pick hno h
    | none =>
      rw [hd] at h
      simp only at h ⊢
      cases hf : P.funcs[f]? with
      | none =>
        rw [hf] at h
        exact rnd_pick hno hC hL h
      | some fn =>
        rw [hf] at h
        simp only at h ⊢
        cases hc : fn.body with
        | none => rw [hc] at h; exact (hno h).elim
        | some c =>
          rw [hc] at h
          simp only at h ⊢
          cases hl : Nat.ble args.length fn.ntmps with
          | false => rw [hl] at h; exact (hno h).elim
          | true =>
            rw [hl] at h
            obtain ⟨x, st', h1, h2⟩ := Ev_pick hno hC hL h
            obtain ⟨r, s', h3, h4⟩ := bodyK_pick (α := α) hno h1
            exact ⟨r, s', h3, fun K0 => by simp only [h2]; exact h4 K0⟩
  · simp only [gStep] at h ⊢
    cases c with
    | loop b =>
      obtain ⟨x, st', h1, h2⟩ := Ev_pick hno hC hL h
      cases x
      · obtain ⟨x, st'', h3, h4⟩ := hL _ _ _ h1
        exact ⟨x, st'', h3, fun K0 => by simp only [h2]; exact h4 K0⟩
      all_goals exact ⟨_, _, h1, fun K0 => by simp only [h2]⟩
    | region id ops draw =>
      cases draw with
      | false => exact (hno h).elim
      | true =>
        obtain ⟨n, e, s⟩ := st
        exact drwDT_pick hno hC (onlyC_pick hno hC) h
    | rangeFunc g ps asg body =>
      obtain ⟨n, e, s⟩ := st
      exact rfL_pick (L := p.2) (L0 := p0.2) hno hC h
    | _ => exact (hno h).elim
theorem gClo_pick {P : Program} {D : Eh} {R : Type} {no : R} {T : R → Prop} {α : Type} (hno : ¬ T no) : ∀ n, PickC T (gClo no P D n).1 (gClo (none : Option α) P D n).1 ∧ PickL T (gClo no P D n).2 (gClo (none : Option α) P D n).2 := by
  intro n
  induction n with
  | zero => exact ⟨fun f args s K h => (hno h).elim, fun c st K h => (hno h).elim⟩
  | succ n ih => exact gStep_pick hno ih.1 ih.2
/-- What the functions come to, as a table. -/
def gTab (P : Program) (D : Eh) (n : Nat) : Dh := fun f args s => onlyC none P (gClo (none : RO) P D n).1 f args s fun r s' => some (r, s')
theorem gTab_pick {P : Program} {D : Eh} {R : Type} {no : R} {T : R → Prop} (hno : ¬ T no) (n : Nat) : PickD T (onlyC no P (gClo no P D n).1) (gTab P D n) := by
  intro f args s K h
  obtain ⟨r, s', h1, h2⟩ := onlyC_pick hno (gClo_pick (α := Res × Sto) hno n).1 f args s K h
  exact ⟨r, s', h1, h2 _⟩
theorem gClo_sound {P : Program} {D : Eh} (hD : EOk P D) (hn : namesOk P = true) (hm : P.follows .mixedOrders = true) : ∀ n {R : Type} {no : R} {T : R → Prop} (hno : ¬ T no),
    (∀ f args s K, T ((gClo no P D n).1 f args s K) → TgOk P f args s fun r s => T (K r s)) ∧ (∀ c st K, T ((gClo no P D n).2 c st K) → Lu P c st fun e s => T (K e s)) := by
  intro n
  induction n with
  | zero => intro R no T hno; exact ⟨fun f args s K h => (hno h).elim, fun c st K h => (hno h).elim⟩
  | succ n ih =>
    intro R no T hno
    have hQ : DOk P (gTab P D n) := by
      intro f args s r s' h
      unfold gTab onlyC at h
      split at h
      · rename_i hlt
        exact (((ih (T := fun x => x = some (r, s')) (no := none) (by simp)).1 _ _ _ _ h).call (by simpa using hlt)).mono fun r2 s2 h2 => by
          simp only [Option.some.injEq, Prod.mk.injEq] at h2
          exact h2
      · cases h
    obtain ⟨ihC, ihL⟩ := ih hno
    have hev : ∀ c st K, T (Ev no P (gClo no P D n).1 (gClo no P D n).2 c st K) → CodeOk P c st fun e s => T (K e s) := fun c st K h =>
      Ev.sound hno (fun _ _ _ _ h => ihC _ _ _ _ h) (fun c st K h => Lu.sound c st _ (ihL c st K h)) c st K h
    refine ⟨fun f args s K h => ?_, fun c st K h => ?_⟩
    · have h : T (match D f args s with
        | some a => a.go no K
        | none => match P.funcs[f]? with
          | some fn => match fn.body with
            | some c => match Nat.ble args.length fn.ntmps with
              | true => Ev no P (gClo no P D n).1 (gClo no P D n).2 c ⟨fn.ntmps, zipArgs 0 args, s⟩ (bodyK no P fn K)
              | false => no
            | none => no
          | none => rnd no P (gClo no P D n).1 (gClo no P D n).2 (Nat.sub (Nat.sub f P.funcs.size) 1) args s K) := h
      split at h
      · rename_i a hd
        obtain ⟨h1, h2⟩ := Ans.out hno h
        exact ((hD _ _ _ _ hd h1).mono fun r2 s2 h3 => h2 h3).tg
      · split at h
        · rename_i fn hf
          split at h
          · rename_i c hc
            split at h
            · rename_i hl
              exact (CallOk.of_code hno hf (names_at hn hf) hc hl (hev _ _ _ h)).tg
            · exact (hno h).elim
          · exact (hno h).elim
        · rename_i hf
          have hge : P.funcs.size ≤ f := Array.getElem?_eq_none_iff.1 hf
          exact ⟨fun hlt => absurd hlt (Nat.not_lt.2 hge), fun _ => rnd_sound hno hev h⟩
    · cases c with
      | loop b =>
        refine LoopOk.next ?_
        have := hev _ _ _ (show T (Ev no P (gClo no P D n).1 (gClo no P D n).2 b st fun e st' => match e with | .normal => (gClo no P D n).2 (.loop b) st' K | e => K e st') from h)
        refine ⟨fun r B Δ ρ a w hs hf => wpIn_mono (this.run r B Δ ρ a w hs hf) ?_⟩
        rintro e a' w' ⟨x, st', ρ', Δ', h1, h2, h3, h4, h5⟩
        refine ⟨x, st', ρ', Δ', h1, ?_, h3, h4, h5⟩
        cases x
        · have h4 : LoopOk P b st' fun e s => T (K e s) := ihL (.loop b) st' K h2
          exact h4
        all_goals exact h2
      | region id ops draw =>
        cases draw with
        | false => exact (hno h).elim
        | true =>
          obtain ⟨sn, se, ss⟩ := st
          exact drwD_sound hno (st := ⟨sn, se, ss⟩) (fun _ _ _ _ h => ihC _ _ _ _ h) (gTab_pick hno n) hQ hm h
      | rangeFunc g ps asg body =>
        obtain ⟨sn, se, ss⟩ := st
        exact range_sound hno (fun _ _ _ _ h => ihC _ _ _ _ h) h
      | _ => exact (hno h).elim
/-- A run at no store, branching allowed. -/
def runI (P : Program) (D : Eh) (n : Nat) (f : FuncId) (args : List V) : Option V := match Nat.blt f P.funcs.size with
  | true => (gClo none P D n).1 f args [] fun r _ => match r with
    | .ret v => some v
    | _ => none
  | false => none
theorem runI_ok {P : Program} {D : Eh} (hD : EOk P D) (hn : namesOk P = true) (hm : P.follows .mixedOrders = true) {n : Nat} {f : FuncId} {args : List V} {v : V} (h : runI P D n f args = some v) : CallOk P f args [] fun r _ => r = .ret v := by
  unfold runI at h
  split at h
  case h_2 => cases h
  rename_i hlt
  exact (((gClo_sound hD hn hm n (T := fun x => x = some v) (by simp)).1 _ _ _ _ h).call (by simpa using hlt)).mono fun r s h => by
    cases r with
    | ret u => exact congrArg Res.ret (Option.some.inj h)
    | pan u => cases h
/-- Arguments that stand for the same values. -/
theorem CallOk.same {P : Program} {f : FuncId} {args args' : List V} {K : Res → Sto → Prop} (ha : ∀ ρ, absL ρ args = absL ρ args') (hb : bdL 0 args') (h : CallOk P f args' [] K) : CallOk P f args [] K :=
  ⟨h.plain, fun ρ w h1 h2 h3 => by rw [ha ρ]; exact h.run ρ w h1 h2 hb⟩
end Go.Proofs.YtpahclogghdnpaaDoorRL
