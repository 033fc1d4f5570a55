/- Parts of the proof, one behind the other. -/
import Derived.Test.YtalgegmcllcnmaazLabJumpsRL14
section
/- RL, fifteenth text: a law's function, with the bodies of what it calls, and no table's line, taken in. -/
namespace Go.Proofs.YtalgegmcllcnmaaRL
open Go
set_option linter.unusedVariables false
set_option linter.unusedSimpArgs false
/-- What a call comes to: one answer, or one of two by a test. -/
inductive Ans where
  | one (r : Res) (s : Sto)
  | br (b : Bool) (x y : Ans)
  | no
def Ans.go {R : Type} (no : R) (K : Res → Sto → R) : Ans → R
  | .one r s => K r s
  | .br b x y => Br b (x.go no K) (y.go no K)
  | .no => no
def Ans.is : Ans → Res → Sto → Prop
  | .one r s, r', s' => r' = r ∧ s' = s
  | .br b x y, r', s' => (b = true ∧ x.is r' s') ∨ (b = false ∧ y.is r' s')
  | .no, _, _ => False
/-- Its tests lead to an answer. -/
def Ans.fine : Ans → Prop
  | .one _ _ => True
  | .br b x y => (b = true ∧ x.fine) ∨ (b = false ∧ y.fine)
  | .no => False
theorem Ans.out {R : Type} {no : R} {T : R → Prop} (hno : ¬ T no) {K : Res → Sto → R} : ∀ {a : Ans}, T (a.go no K) → a.fine ∧ ∀ {r s}, a.is r s → T (K r s)
  | .one r s, h => ⟨trivial, fun ⟨h1, h2⟩ => by subst h1 h2; exact h⟩
  | .br b x y, h => by
    rcases Br.out (T := T) h with ⟨hb, h⟩ | ⟨hb, h⟩
    · obtain ⟨h1, h2⟩ := Ans.out hno h
      refine ⟨.inl ⟨hb, h1⟩, fun hi => ?_⟩
      rcases hi with ⟨kb, hi⟩ | ⟨kb, hi⟩
      · exact h2 hi
      · rw [hb] at kb; cases kb
    · obtain ⟨h1, h2⟩ := Ans.out hno h
      refine ⟨.inr ⟨hb, h1⟩, fun hi => ?_⟩
      rcases hi with ⟨kb, hi⟩ | ⟨kb, hi⟩
      · rw [hb] at kb; cases kb
      · exact h2 hi
  | .no, h => (hno h).elim
theorem Ans.pick {R : Type} {no : R} {T : R → Prop} (hno : ¬ T no) {α : Type} {K : Res → Sto → R} : ∀ {a : Ans}, T (a.go no K) → ∃ r s, T (K r s) ∧ ∀ K0 : Res → Sto → Option α, a.go none K0 = K0 r s
  | .one r s, h => ⟨r, s, h, fun _ => rfl⟩
  | .br b x y, h => by
    cases b with
    | true => exact Ans.pick hno (a := x) h
    | false => exact Ans.pick hno (a := y) h
  | .no, h => (hno h).elim
/-- What is known of functions, tests among it. -/
abbrev Eh := FuncId → List V → Sto → Option Ans
def EOk (P : Program) (E : Eh) : Prop := ∀ f args s a, E f args s = some a → a.fine → CallOk P f args s fun r s' => a.is r s'
def noE : Eh := fun _ _ _ => none
theorem noE_ok {P : Program} : EOk P noE := fun _ _ _ _ h _ => by cases h
/-- More is known. -/
def addE (f0 : FuncId) (g : List V → Sto → Option Ans) (E : Eh) : Eh := fun f args s => match Nat.beq f f0 with
  | true => g args s
  | false => E f args s
theorem addE_ok {P : Program} {f0 : FuncId} {g : List V → Sto → Option Ans} {E : Eh} (hE : EOk P E) (hg : ∀ args s a, g args s = some a → a.fine → CallOk P f0 args s fun r s' => a.is r s') : EOk P (addE f0 g E) := by
  intro f args s a h hfi
  unfold addE at h
  split at h
  · rename_i hf
    obtain rfl : f = f0 := Nat.eq_of_beq_eq_true hf
    exact hg _ _ _ h hfi
  · exact hE _ _ _ _ h hfi
/-- A function of flat arguments and a flat result, told by g. -/
def specE (f0 : FuncId) (g : List V → Option V) (E : Eh) : Eh := addE f0 (fun args s => match g args with
  | some v => some (.one (.ret v) s)
  | none => none) E
theorem specE_ok {P : Program} {f0 : FuncId} {g : List V → Option V} {E : Eh} (hE : EOk P E) (hg : ∀ args v, g args = some v → bdL 0 args ∧ v.bd 0 ∧ CallOk P f0 args [] fun r _ => r = .ret v) : EOk P (specE f0 g E) := by
  refine addE_ok hE fun args s a h _ => ?_
  split at h
  · rename_i v hv
    cases h
    obtain ⟨h1, h2, h3⟩ := hg args v hv
    exact h3.anywhere h1 h2
  · cases h
def gStep {R : Type} (no : R) (P : Program) (D : Eh) (p : Ch R × Lh R) : Ch R × Lh R :=
  (fun f args s K => match D f args s with
    | some a => a.go no K
    | none => match P.funcs[f]? with
      | some fn => match fn.body with
        | some c => match Nat.ble args.length fn.ntmps with
          | true => Ev no P p.1 p.2 c ⟨fn.ntmps, zipArgs 0 args, s⟩ (bodyK no P fn K)
          | false => no
        | none => no
      | none => rnd no P p.1 p.2 (Nat.sub (Nat.sub f P.funcs.size) 1) args s K,
  fun c st K => match c with
    | .loop b => Ev no P p.1 p.2 b st fun e st' => match e with
      | .normal => p.2 (.loop b) st' K
      | e => K e st'
    | .region _ ops true => match st with
      | ⟨n, e, s⟩ => drwDT no P p.1 (onlyC no P p.1) ops.toList K n e s
    | .rangeFunc g ps asg body => match st with
      | ⟨n, e, s⟩ => rfL no P p.1 g ps asg body n e s K
    | _ => no)
def gClo {R : Type} (no : R) (P : Program) (D : Eh) (n : Nat) : Ch R × Lh R :=
  Nat.rec (fun _ _ _ _ => no, fun _ _ _ => no) (fun _ p => gStep no P D p) n
theorem gStep_pick {P : Program} {D : Eh} {R : Type} {no : R} {T : R → Prop} {α : Type} (hno : ¬ T no) {p : Ch R × Lh R} {p0 : Ch (Option α) × Lh (Option α)} (hC : PickC T p.1 p0.1) (hL : PickL T p.2 p0.2) : PickC T (gStep no P D p).1 (gStep none P D p0).1 ∧ PickL T (gStep no P D p).2 (gStep none P D p0).2 := by
  refine ⟨fun f args s K h => ?_, fun c st K h => ?_⟩
  · simp only [gStep] at h ⊢
    cases hd : D f args s with
    | some x =>
      rw [hd] at h
      exact Ans.pick hno h
    | none =>
      rw [hd] at h
      simp only at h ⊢
      cases hf : P.funcs[f]? with
      | none =>
        rw [hf] at h
        exact rnd_pick hno hC hL h
      | some fn =>
        rw [hf] at h
        simp only at h ⊢
        cases hc : fn.body with
        | none => rw [hc] at h; exact (hno h).elim
        | some c =>
          rw [hc] at h
          simp only at h ⊢
          cases hl : Nat.ble args.length fn.ntmps with
          | false => rw [hl] at h; exact (hno h).elim
          | true =>
            rw [hl] at h
            obtain ⟨x, st', h1, h2⟩ := Ev_pick hno hC hL h
            obtain ⟨r, s', h3, h4⟩ := bodyK_pick (α := α) hno h1
            exact ⟨r, s', h3, fun K0 => by simp only [h2]; exact h4 K0⟩
  · simp only [gStep] at h ⊢
    cases c with
    | loop b =>
      obtain ⟨x, st', h1, h2⟩ := Ev_pick hno hC hL h
      cases x
      · obtain ⟨x, st'', h3, h4⟩ := hL _ _ _ h1
        exact ⟨x, st'', h3, fun K0 => by simp only [h2]; exact h4 K0⟩
      all_goals exact ⟨_, _, h1, fun K0 => by simp only [h2]⟩
    | region id ops draw =>
      cases draw with
      | false => exact (hno h).elim
      | true =>
        obtain ⟨n, e, s⟩ := st
        exact drwDT_pick hno hC (onlyC_pick hno hC) h
    | rangeFunc g ps asg body =>
      obtain ⟨n, e, s⟩ := st
      exact rfL_pick (L := p.2) (L0 := p0.2) hno hC h
    | _ => exact (hno h).elim
theorem gClo_pick {P : Program} {D : Eh} {R : Type} {no : R} {T : R → Prop} {α : Type} (hno : ¬ T no) : ∀ n, PickC T (gClo no P D n).1 (gClo (none : Option α) P D n).1 ∧ PickL T (gClo no P D n).2 (gClo (none : Option α) P D n).2 := by
  intro n
  induction n with
  | zero => exact ⟨fun f args s K h => (hno h).elim, fun c st K h => (hno h).elim⟩
  | succ n ih => exact gStep_pick hno ih.1 ih.2
/-- What the functions come to, as a table. -/
def gTab (P : Program) (D : Eh) (n : Nat) : Dh := fun f args s => onlyC none P (gClo (none : RO) P D n).1 f args s fun r s' => some (r, s')
theorem gTab_pick {P : Program} {D : Eh} {R : Type} {no : R} {T : R → Prop} (hno : ¬ T no) (n : Nat) : PickD T (onlyC no P (gClo no P D n).1) (gTab P D n) := by
  intro f args s K h
  obtain ⟨r, s', h1, h2⟩ := onlyC_pick hno (gClo_pick (α := Res × Sto) hno n).1 f args s K h
  exact ⟨r, s', h1, h2 _⟩
theorem gClo_sound {P : Program} {D : Eh} (hD : EOk P D) (hn : namesOk P = true) (hm : P.follows .mixedOrders = true) : ∀ n {R : Type} {no : R} {T : R → Prop} (hno : ¬ T no),
    (∀ f args s K, T ((gClo no P D n).1 f args s K) → TgOk P f args s fun r s => T (K r s)) ∧ (∀ c st K, T ((gClo no P D n).2 c st K) → Lu P c st fun e s => T (K e s)) := by
  intro n
  induction n with
  | zero => intro R no T hno; exact ⟨fun f args s K h => (hno h).elim, fun c st K h => (hno h).elim⟩
  | succ n ih =>
    intro R no T hno
    have hQ : DOk P (gTab P D n) := by
      intro f args s r s' h
      unfold gTab onlyC at h
      split at h
      · rename_i hlt
        exact (((ih (T := fun x => x = some (r, s')) (no := none) (by simp)).1 _ _ _ _ h).call (by simpa using hlt)).mono fun r2 s2 h2 => by
          simp only [Option.some.injEq, Prod.mk.injEq] at h2
          exact h2
      · cases h
    obtain ⟨ihC, ihL⟩ := ih hno
    have hev : ∀ c st K, T (Ev no P (gClo no P D n).1 (gClo no P D n).2 c st K) → CodeOk P c st fun e s => T (K e s) := fun c st K h =>
      Ev.sound hno (fun _ _ _ _ h => ihC _ _ _ _ h) (fun c st K h => Lu.sound c st _ (ihL c st K h)) c st K h
    refine ⟨fun f args s K h => ?_, fun c st K h => ?_⟩
    · have h : T (match D f args s with
        | some a => a.go no K
        | none => match P.funcs[f]? with
          | some fn => match fn.body with
            | some c => match Nat.ble args.length fn.ntmps with
              | true => Ev no P (gClo no P D n).1 (gClo no P D n).2 c ⟨fn.ntmps, zipArgs 0 args, s⟩ (bodyK no P fn K)
              | false => no
            | none => no
          | none => rnd no P (gClo no P D n).1 (gClo no P D n).2 (Nat.sub (Nat.sub f P.funcs.size) 1) args s K) := h
      split at h
      · rename_i a hd
        obtain ⟨h1, h2⟩ := Ans.out hno h
        exact ((hD _ _ _ _ hd h1).mono fun r2 s2 h3 => h2 h3).tg
      · split at h
        · rename_i fn hf
          split at h
          · rename_i c hc
            split at h
            · rename_i hl
              exact (CallOk.of_code hno hf (names_at hn hf) hc hl (hev _ _ _ h)).tg
            · exact (hno h).elim
          · exact (hno h).elim
        · rename_i hf
          have hge : P.funcs.size ≤ f := Array.getElem?_eq_none_iff.1 hf
          exact ⟨fun hlt => absurd hlt (Nat.not_lt.2 hge), fun _ => rnd_sound hno hev h⟩
    · cases c with
      | loop b =>
        refine LoopOk.next ?_
        have := hev _ _ _ (show T (Ev no P (gClo no P D n).1 (gClo no P D n).2 b st fun e st' => match e with | .normal => (gClo no P D n).2 (.loop b) st' K | e => K e st') from h)
        refine ⟨fun r B Δ ρ a w hs hf => wpIn_mono (this.run r B Δ ρ a w hs hf) ?_⟩
        rintro e a' w' ⟨x, st', ρ', Δ', h1, h2, h3, h4, h5⟩
        refine ⟨x, st', ρ', Δ', h1, ?_, h3, h4, h5⟩
        cases x
        · have h4 : LoopOk P b st' fun e s => T (K e s) := ihL (.loop b) st' K h2
          exact h4
        all_goals exact h2
      | region id ops draw =>
        cases draw with
        | false => exact (hno h).elim
        | true =>
          obtain ⟨sn, se, ss⟩ := st
          exact drwD_sound hno (st := ⟨sn, se, ss⟩) (fun _ _ _ _ h => ihC _ _ _ _ h) (gTab_pick hno n) hQ hm h
      | rangeFunc g ps asg body =>
        obtain ⟨sn, se, ss⟩ := st
        exact range_sound hno (fun _ _ _ _ h => ihC _ _ _ _ h) h
      | _ => exact (hno h).elim
/-- A run at no store, branching allowed. -/
def runI (P : Program) (D : Eh) (n : Nat) (f : FuncId) (args : List V) : Option V := match Nat.blt f P.funcs.size with
  | true => (gClo none P D n).1 f args [] fun r _ => match r with
    | .ret v => some v
    | _ => none
  | false => none
theorem runI_ok {P : Program} {D : Eh} (hD : EOk P D) (hn : namesOk P = true) (hm : P.follows .mixedOrders = true) {n : Nat} {f : FuncId} {args : List V} {v : V} (h : runI P D n f args = some v) : CallOk P f args [] fun r _ => r = .ret v := by
  unfold runI at h
  split at h
  case h_2 => cases h
  rename_i hlt
  exact (((gClo_sound hD hn hm n (T := fun x => x = some v) (by simp)).1 _ _ _ _ h).call (by simpa using hlt)).mono fun r s h => by
    cases r with
    | ret u => exact congrArg Res.ret (Option.some.inj h)
    | pan u => cases h
/-- Arguments that stand for the same values. -/
theorem CallOk.same {P : Program} {f : FuncId} {args args' : List V} {K : Res → Sto → Prop} (ha : ∀ ρ, absL ρ args = absL ρ args') (hb : bdL 0 args') (h : CallOk P f args' [] K) : CallOk P f args [] K :=
  ⟨h.plain, fun ρ w h1 h2 h3 => by rw [ha ρ]; exact h.run ρ w h1 h2 hb⟩
end Go.Proofs.YtalgegmcllcnmaaRL
end
section
/- RL: states told anew with fewer blocks, or others' numbers; loops that carry blocks; code taken piece by piece. -/
namespace Go.Proofs.YtalgegmcllcnmaaRL
open Go
set_option linter.unusedVariables false
set_option linter.unusedSimpArgs false
variable {Δ : List Deferred}
mutual
def V.map? (f : Nat → Option Nat) : V → Option V
  | .raw v => some (.raw v)
  | .md k m l => some (.md k m l)
  | .ptr i o => match f i with
    | some j => some (.ptr j o)
    | none => none
  | .sl i o n c => match f i with
    | some j => some (.sl j o n c)
    | none => none
  | .mp i => match f i with
    | some j => some (.mp j)
    | none => none
  | .yld i => match f i with
    | some j => some (.yld j)
    | none => none
  | .lst i k o e n => match f i, f k with
    | some j, some q => some (.lst j q o e n)
    | _, _ => none
  | .el i z k o => match f i with
    | some j => some (.el j z k o)
    | none => none
  | .sle i z k n c => match f i with
    | some j => some (.sle j z k n c)
    | none => none
  | .lse i k z e n => match f i, f k with
    | some j, some q => some (.lse j q z e n)
    | _, _ => none
  | .lend i k o e l z => match f i, f k with
    | some j, some q => some (.lend j q o e l z)
    | _, _ => none
  | .fn g a b => match mapL? f a, mapL? f b with
    | some a, some b => some (.fn g a b)
    | _, _ => none
  | .ifc t v => match v.map? f with
    | some v => some (.ifc t v)
    | none => none
  | .agg cs => match mapL? f cs with
    | some cs => some (.agg cs)
    | none => none
  | .tup vs => match mapL? f vs with
    | some vs => some (.tup vs)
    | none => none
def mapL? (f : Nat → Option Nat) : List V → Option (List V)
  | [] => some []
  | v :: vs => match v.map? f, mapL? f vs with
    | some v, some vs => some (v :: vs)
    | _, _ => none
end
mutual
theorem V.map_ok {f : Nat → Option Nat} {π : Nat → Nat} {n : Nat} (hf : ∀ i j, f i = some j → π j = i ∧ j < n) : ∀ (v v' : V), v.map? f = some v' → v'.ren π = v ∧ v'.bd n
  | .raw v, v', h => by simp only [V.map?, Option.some.injEq] at h; subst h; exact ⟨by simp [V.ren], trivial⟩
  | .md k m l, v', h => by simp only [V.map?, Option.some.injEq] at h; subst h; exact ⟨by simp [V.ren], trivial⟩
  | .ptr i o, v', h => by
    simp only [V.map?] at h; split at h
    · rename_i j hj; cases h; obtain ⟨a, b⟩ := hf _ _ hj; exact ⟨by simp [V.ren, a], b⟩
    · cases h
  | .sl i o _ c, v', h => by
    simp only [V.map?] at h; split at h
    · rename_i j hj; cases h; obtain ⟨a, b⟩ := hf _ _ hj; exact ⟨by simp [V.ren, a], b⟩
    · cases h
  | .mp i, v', h => by
    simp only [V.map?] at h; split at h
    · rename_i j hj; cases h; obtain ⟨a, b⟩ := hf _ _ hj; exact ⟨by simp [V.ren, a], b⟩
    · cases h
  | .yld i, v', h => by
    simp only [V.map?] at h; split at h
    · rename_i j hj; cases h; obtain ⟨a, b⟩ := hf _ _ hj; exact ⟨by simp [V.ren, a], b⟩
    · cases h
  | .el i z k o, v', h => by
    simp only [V.map?] at h; split at h
    · rename_i j hj; cases h; obtain ⟨a, b⟩ := hf _ _ hj; exact ⟨by simp [V.ren, a], b⟩
    · cases h
  | .sle i z k _ c, v', h => by
    simp only [V.map?] at h; split at h
    · rename_i j hj; cases h; obtain ⟨a, b⟩ := hf _ _ hj; exact ⟨by simp [V.ren, a], b⟩
    · cases h
  | .lst i k o e _, v', h => by
    simp only [V.map?] at h; split at h
    · rename_i j q hj hq; cases h; obtain ⟨a, b⟩ := hf _ _ hj; obtain ⟨c, d⟩ := hf _ _ hq; exact ⟨by simp [V.ren, a, c], b, d⟩
    · cases h
  | .lse i k z e _, v', h => by
    simp only [V.map?] at h; split at h
    · rename_i j q hj hq; cases h; obtain ⟨a, b⟩ := hf _ _ hj; obtain ⟨c, d⟩ := hf _ _ hq; exact ⟨by simp [V.ren, a, c], b, d⟩
    · cases h
  | .lend i k o e l z, v', h => by
    simp only [V.map?] at h; split at h
    · rename_i j q hj hq; cases h; obtain ⟨a, b⟩ := hf _ _ hj; obtain ⟨c, d⟩ := hf _ _ hq; exact ⟨by simp [V.ren, a, c], b, d⟩
    · cases h
  | .fn g x y, v', h => by
    simp only [V.map?] at h; split at h
    · rename_i a b ha hb; cases h; obtain ⟨a1, a2⟩ := mapL_ok hf x _ ha; obtain ⟨b1, b2⟩ := mapL_ok hf y _ hb; exact ⟨by simp [V.ren, a1, b1], a2, b2⟩
    · cases h
  | .ifc t v, v', h => by
    simp only [V.map?] at h; split at h
    · rename_i a ha; cases h; obtain ⟨a1, a2⟩ := V.map_ok hf v _ ha; exact ⟨by simp [V.ren, a1], a2⟩
    · cases h
  | .agg cs, v', h => by
    simp only [V.map?] at h; split at h
    · rename_i a ha; cases h; obtain ⟨a1, a2⟩ := mapL_ok hf cs _ ha; exact ⟨by simp [V.ren, a1], a2⟩
    · cases h
  | .tup vs, v', h => by
    simp only [V.map?] at h; split at h
    · rename_i a ha; cases h; obtain ⟨a1, a2⟩ := mapL_ok hf vs _ ha; exact ⟨by simp [V.ren, a1], a2⟩
    · cases h
theorem mapL_ok {f : Nat → Option Nat} {π : Nat → Nat} {n : Nat} (hf : ∀ i j, f i = some j → π j = i ∧ j < n) : ∀ (l l' : List V), mapL? f l = some l' → renL π l' = l ∧ bdL n l'
  | [], l', h => by simp only [mapL?, Option.some.injEq] at h; subst h; exact ⟨by simp [renL], trivial⟩
  | v :: vs, l', h => by
    simp only [mapL?] at h; split at h
    · rename_i a b ha hb; cases h; obtain ⟨a1, a2⟩ := V.map_ok hf v _ ha; obtain ⟨b1, b2⟩ := mapL_ok hf vs _ hb; exact ⟨by simp [renL, a1, b1], a2, b2⟩
    · cases h
end
def mapEs? (f : Nat → Option Nat) : List (V × V × Nat) → Option (List (V × V × Nat))
  | [] => some []
  | e :: es => match e.1.map? f, e.2.1.map? f, mapEs? f es with
    | some a, some b, some es => some ((a, b, e.2.2) :: es)
    | _, _, _ => none
def Ent.map? (f : Nat → Option Nat) : Ent → Option Ent
  | .own cs t => match mapL? f cs with
    | some cs => some (.own cs t)
    | none => none
  | .ro cs => match mapL? f cs with
    | some cs => some (.ro cs)
    | none => none
  | .map es c => match mapEs? f es with
    | some es => some (.map es c)
    | none => none
  | .lst cs t k z => match mapL? f cs, f k with
    | some cs, some k => some (.lst cs t k z)
    | _, _ => none
  | .lp _ _ _ _ _ _ => none
  | .arr m cols n t => match m with
    | .ro => some (.arr .ro cols n t)
    | .own => some (.arr .own cols n t)
    | .grow k => match f k with
      | some k => some (.arr (.grow k) cols n t)
      | none => none
  | .no => some .no
theorem Ent.map_ok {f : Nat → Option Nat} {π : Nat → Nat} {n : Nat} (hf : ∀ i j, f i = some j → π j = i ∧ j < n) {e e' : Ent} (h : e.map? f = some e') : e'.ren π = e ∧ e'.bd n := by
  cases e with
  | own cs t =>
    simp only [Ent.map?] at h; split at h
    · rename_i a ha; cases h; obtain ⟨a1, a2⟩ := mapL_ok hf cs _ ha; exact ⟨by simp [Ent.ren, a1], a2⟩
    · cases h
  | ro cs =>
    simp only [Ent.map?] at h; split at h
    · rename_i a ha; cases h; obtain ⟨a1, a2⟩ := mapL_ok hf cs _ ha; exact ⟨by simp [Ent.ren, a1], a2⟩
    · cases h
  | map es c =>
    simp only [Ent.map?] at h; split at h
    · rename_i a ha
      cases h
      have key : ∀ (es es' : List (V × V × Nat)), mapEs? f es = some es' → es'.map (fun e => (e.1.ren π, e.2.1.ren π, e.2.2)) = es ∧ ∀ e ∈ es', e.1.bd n ∧ e.2.1.bd n := by
        intro es
        induction es with
        | nil => intro es' h; simp only [mapEs?, Option.some.injEq] at h; subst h; exact ⟨rfl, fun e he => by cases he⟩
        | cons e es ih =>
          intro es' h
          simp only [mapEs?] at h
          split at h
          · rename_i a b es2 ha hb hes
            cases h
            obtain ⟨i1, i2⟩ := ih _ hes
            obtain ⟨a1, a2⟩ := V.map_ok hf _ _ ha
            obtain ⟨b1, b2⟩ := V.map_ok hf _ _ hb
            refine ⟨by simp [a1, b1, i1], fun x hx => ?_⟩
            rcases List.mem_cons.1 hx with rfl | hx
            · exact ⟨a2, b2⟩
            · exact i2 x hx
          · cases h
      obtain ⟨k1, k2⟩ := key es _ ha
      exact ⟨by simp [Ent.ren, k1], k2⟩
    · cases h
  | lst cs t k z =>
    simp only [Ent.map?] at h; split at h
    · rename_i a q ha hq; cases h; obtain ⟨a1, a2⟩ := mapL_ok hf cs _ ha; obtain ⟨c, d⟩ := hf _ _ hq; exact ⟨by simp [Ent.ren, a1, c], a2, d⟩
    · cases h
  | lp => cases h
  | arr m cols q t =>
    cases m with
    | ro => cases h; exact ⟨rfl, trivial⟩
    | own => cases h; exact ⟨rfl, trivial⟩
    | grow k =>
      simp only [Ent.map?] at h; split at h
      · rename_i j hj; cases h; obtain ⟨a, b⟩ := hf _ _ hj; exact ⟨by simp [Ent.ren, a], b⟩
      · cases h
  | no => cases h; exact ⟨rfl, trivial⟩
def idxN (j : Nat) : List Nat → Nat → Option Nat
  | [], _ => none
  | x :: xs, q => match Nat.beq x j with
    | true => some q
    | false => idxN j xs (q + 1)
theorem idxN_some {j : Nat} : ∀ {l : List Nat} {q0 q : Nat}, idxN j l q0 = some q → q0 ≤ q ∧ l[q - q0]? = some j := by
  intro l
  induction l with
  | nil => intro q0 q h; cases h
  | cons x xs ih =>
    intro q0 q h
    simp only [idxN] at h
    split at h
    · rename_i hb
      cases h
      exact ⟨Nat.le_refl _, by simp [Nat.eq_of_beq_eq_true hb]⟩
    · obtain ⟨h1, h2⟩ := ih h
      refine ⟨by omega, ?_⟩
      rw [show q - q0 = (q - (q0 + 1)) + 1 by omega, List.getElem?_cons_succ]
      exact h2
/-- Where a block's number goes: those of l behind the first n. -/
def toN (n : Nat) (l : List Nat) (j : Nat) : Option Nat :=
  match idxN j l n with
  | some q => some q
  | none => match Nat.blt j n with
    | true => some j
    | false => none
def fromN (n : Nat) (l : List Nat) (i : Nat) : Nat := if i < n then i else l.getD (i - n) i
theorem toN_ok {n : Nat} {l : List Nat} {i j : Nat} (h : toN n l i = some j) : fromN n l j = i ∧ j < n + l.length := by
  unfold toN at h
  split at h
  · rename_i q hq
    cases h
    obtain ⟨h1, h2⟩ := idxN_some hq
    have hlt := (List.getElem?_eq_some_iff.1 h2).1
    refine ⟨?_, by omega⟩
    unfold fromN
    rw [if_neg (by omega), List.getD_eq_getElem?_getD, h2]; rfl
  · split at h
    · rename_i hb
      cases h
      rw [Nat.blt_eq] at hb
      exact ⟨by unfold fromN; rw [if_pos hb], by omega⟩
    · cases h
def selB (f : Nat → Option Nat) (l : List Nat) : Nat → Nat → Sto → Sto
  | 0, _, _ => []
  | m + 1, i, s => match s with
    | [] => .no :: selB f l m (i + 1) []
    | e :: s => (match hasN l i with
      | true => .no
      | false => match e.map? f with
        | some e => e
        | none => .no) :: selB f l m (i + 1) s
def selM (f : Nat → Option Nat) (s : Sto) : List Nat → Sto
  | [] => []
  | j :: l => (match s[j]? with
    | some e => match e.map? f with
      | some e => e
      | none => .no
    | none => .no) :: selM f s l
def selE (f : Nat → Option Nat) (e : List (Nat × V)) : List Nat → List (Nat × V)
  | [] => []
  | t :: ts => match find e t with
    | some v => match v.map? f with
      | some v => (t, v) :: selE f e ts
      | none => selE f e ts
    | none => selE f e ts
def appB : Sto → Sto → Sto
  | [], t => t
  | e :: s, t => e :: appB s t
theorem appB_eq : ∀ (s t : Sto), appB s t = s ++ t
  | [], t => rfl
  | e :: s, t => by simp [appB, appB_eq s t]
def selS (n : Nat) (l : List Nat) (s : Sto) : Sto := appB (selB (toN n l) l n 0 s) (selM (toN n l) s l)
/-- Of a state the first n blocks, but those of l, which go behind; and these temporaries. -/
def selSt (n : Nat) (l live : List Nat) (st : St) : St := ⟨st.n, selE (toN n l) st.t live, selS n l st.s⟩
theorem selB_length (f : Nat → Option Nat) (l : List Nat) : ∀ (m i : Nat) (s : Sto), (selB f l m i s).length = m
  | 0, _, _ => rfl
  | m + 1, i, [] => by simp [selB, selB_length f l m]
  | m + 1, i, e :: s => by simp [selB, selB_length f l m]
theorem selM_length (f : Nat → Option Nat) (s : Sto) : ∀ (l : List Nat), (selM f s l).length = l.length
  | [] => rfl
  | j :: l => by simp [selM, selM_length f s l]
theorem selB_at {f : Nat → Option Nat} {l : List Nat} : ∀ {m i : Nat} {s : Sto} {k : Nat} {e : Ent}, (selB f l m i s)[k]? = some e → e = .no ∨ (hasN l (i + k) = false ∧ ∃ e0, s[k]? = some e0 ∧ e0.map? f = some e) := by
  intro m
  induction m with
  | zero => intro i s k e h; simp [selB] at h
  | succ m ih =>
    intro i s k e h
    cases s with
    | nil =>
      simp only [selB] at h
      cases k with
      | zero => simp at h; exact .inl h.symm
      | succ k =>
        rcases ih (by simpa using h) with h | ⟨_, e0, h1, _⟩
        · exact .inl h
        · simp at h1
    | cons e1 s =>
      simp only [selB] at h
      cases k with
      | zero =>
        simp only [List.getElem?_cons_zero, Option.some.injEq] at h
        split at h
        · exact .inl h.symm
        · rename_i hn
          split at h
          · rename_i e2 he; subst h; exact .inr ⟨hn, e1, rfl, he⟩
          · exact .inl h.symm
      | succ k =>
        rcases ih (by simpa using h) with h | ⟨h0, e0, h1, h2⟩
        · exact .inl h
        · exact .inr ⟨by rw [show i + (k + 1) = i + 1 + k by omega]; exact h0, e0, by simpa using h1, h2⟩
theorem selM_at {f : Nat → Option Nat} {s : Sto} : ∀ {l : List Nat} {k : Nat} {e : Ent}, (selM f s l)[k]? = some e → e = .no ∨ ∃ j e0, l[k]? = some j ∧ s[j]? = some e0 ∧ e0.map? f = some e := by
  intro l
  induction l with
  | nil => intro k e h; simp [selM] at h
  | cons j l ih =>
    intro k e h
    simp only [selM] at h
    cases k with
    | zero =>
      simp only [List.getElem?_cons_zero, Option.some.injEq] at h
      split at h
      · rename_i e0 h0
        split at h
        · rename_i e1 h1; subst h; exact .inr ⟨j, e0, rfl, h0, h1⟩
        · exact .inl h.symm
      · exact .inl h.symm
    | succ k => simpa using ih (by simpa using h)
theorem selS_length (n : Nat) (l : List Nat) (s : Sto) : (selS n l s).length = n + l.length := by
  simp [selS, appB_eq, selB_length, selM_length]
theorem selS_at {n : Nat} {l : List Nat} {s : Sto} {i : Nat} {e : Ent} (h : (selS n l s)[i]? = some e) : e = .no ∨ ((i < n → hasN l i = false) ∧ ∃ e0, s[fromN n l i]? = some e0 ∧ e0.map? (toN n l) = some e) := by
  unfold selS at h
  rw [appB_eq] at h
  by_cases hi : i < n
  · rw [List.getElem?_append_left (by rw [selB_length]; exact hi)] at h
    rcases selB_at h with h | ⟨h0, e0, h1, h2⟩
    · exact .inl h
    · rw [Nat.zero_add] at h0
      exact .inr ⟨fun _ => h0, e0, by unfold fromN; rw [if_pos hi]; exact h1, h2⟩
  · rw [List.getElem?_append_right (by rw [selB_length]; omega), selB_length] at h
    rcases selM_at h with h | ⟨j, e0, h1, h2, h3⟩
    · exact .inl h
    · exact .inr ⟨fun h => absurd h hi, e0, by unfold fromN; rw [if_neg hi, List.getD_eq_getElem?_getD, h1]; exact h2, h3⟩
theorem selE_find {f : Nat → Option Nat} {e : List (Nat × V)} : ∀ {l : List Nat} {t : Nat} {v : V}, find (selE f e l) t = some v → ∃ v0, find e t = some v0 ∧ v0.map? f = some v := by
  intro l
  induction l with
  | nil => intro t v h; cases h
  | cons x l ih =>
    intro t v h
    simp only [selE] at h
    split at h
    · rename_i v0 h0
      split at h
      · rename_i v1 h1
        simp only [find] at h
        split at h
        · rename_i hb
          have := Nat.eq_of_beq_eq_true hb
          subst this
          cases h
          exact ⟨v0, h0, h1⟩
        · exact ih h
      · exact ih h
    · exact ih h
def nodupN : List Nat → Bool
  | [] => true
  | x :: xs => !(hasN xs x) && nodupN xs
theorem hasN_mem {l : List Nat} {q : Nat} : hasN l q = true ↔ q ∈ l := by
  simp only [hasN, List.any_eq_true]
  constructor
  · rintro ⟨x, h1, h2⟩; rw [← Nat.eq_of_beq_eq_true h2]; exact h1
  · intro h; exact ⟨q, h, Nat.beq_refl q⟩
theorem nodupN_ne {l : List Nat} (h : nodupN l = true) : ∀ {i j x : Nat}, l[i]? = some x → l[j]? = some x → i = j := by
  induction l with
  | nil => intro i j x hi; simp at hi
  | cons y l ih =>
    simp only [nodupN, Bool.and_eq_true, Bool.not_eq_true'] at h
    intro i j x hi hj
    have hy : ∀ {k : Nat}, l[k]? = some y → False := fun hk => by
      have := hasN_mem.2 (List.mem_of_getElem? hk)
      rw [h.1] at this; cases this
    cases i with
    | zero =>
      simp at hi; subst hi
      cases j with
      | zero => rfl
      | succ j => exact (hy (by simpa using hj)).elim
    | succ i =>
      cases j with
      | zero => simp at hj; subst hj; exact (hy (by simpa using hi)).elim
      | succ j => exact congrArg (· + 1) (ih h.2 (i := i) (j := j) (x := x) (by simpa using hi) (by simpa using hj))
theorem selSt_weak {n : Nat} {l live : List Nat} (hl : nodupN l = true) (st : St) : Weak n st (selSt n l live st) (fromN n l) where
  num := rfl
  le := by show n ≤ (selS n l st.s).length; rw [selS_length]; omega
  id i hi := by unfold fromN; rw [if_pos hi]
  env t v hv := by
    obtain ⟨v0, h1, h2⟩ := selE_find hv
    obtain ⟨h3, h4⟩ := V.map_ok (fun i j h => toN_ok h) _ _ h2
    rw [h3]
    refine ⟨h1, ?_⟩
    show v.bd (selS n l st.s).length
    rw [selS_length]; exact h4
  ent i e hi := by
    rcases selS_at hi with h | ⟨_, e0, h1, h2⟩
    · exact .inl h
    · obtain ⟨h3, h4⟩ := Ent.map_ok (fun i j h => toN_ok h) h2
      refine .inr ⟨by rw [h3]; exact h1, ?_⟩
      show e.bd (selS n l st.s).length
      rw [selS_length]; exact h4
  inj i j e f hi hj ho hlv hij := by
    rcases selS_at hi with rfl | ⟨hi0, e0, h1, _⟩
    · cases ho
    rcases selS_at hj with rfl | ⟨hj0, f0, k1, _⟩
    · cases hlv
    have hil := (List.getElem?_eq_some_iff.1 hi).1
    have hjl := (List.getElem?_eq_some_iff.1 hj).1
    change i < (selS n l st.s).length at hil
    change j < (selS n l st.s).length at hjl
    rw [selS_length] at hil hjl
    have mem : ∀ q, n ≤ q → q < n + l.length → ∃ x, l[q - n]? = some x ∧ fromN n l q = x := fun q h1 h2 => by
      have hq : q - n < l.length := by omega
      refine ⟨l[q - n], List.getElem?_eq_getElem hq, ?_⟩
      unfold fromN
      rw [if_neg (by omega), List.getD_eq_getElem?_getD, List.getElem?_eq_getElem hq]; rfl
    by_cases hin : i < n
    · by_cases hjn : j < n
      · unfold fromN; rw [if_pos hin, if_pos hjn]; exact hij
      · obtain ⟨x, hx, hx2⟩ := mem j (by omega) hjl
        rw [hx2]
        unfold fromN; rw [if_pos hin]
        intro he
        subst he
        have := hasN_mem.2 (List.mem_of_getElem? hx)
        rw [hi0 hin] at this; cases this
    · obtain ⟨x, hx, hx2⟩ := mem i (by omega) hil
      by_cases hjn : j < n
      · rw [hx2]
        unfold fromN; rw [if_pos hjn]
        intro he
        subst he
        have := hasN_mem.2 (List.mem_of_getElem? hx)
        rw [hj0 hjn] at this; cases this
      · obtain ⟨y, hy, hy2⟩ := mem j (by omega) hjl
        rw [hx2, hy2]
        intro he
        subst he
        have := nodupN_ne hl hx hy
        omega
def catN : List Nat → List Nat → List Nat
  | [], r => r
  | x :: xs, r => x :: catN xs r
mutual
/-- The blocks that a value names. -/
def refsV : V → List Nat
  | .raw _ => []
  | .md _ _ _ => []
  | .ptr i _ => [i]
  | .sl i _ _ _ => [i]
  | .mp i => [i]
  | .yld i => [i]
  | .lst i k _ _ _ => [k, i]
  | .el i _ _ _ => [i]
  | .sle i _ _ _ _ => [i]
  | .lse i k _ _ _ => [k, i]
  | .lend i k _ _ _ _ => [k, i]
  | .fn _ a b => refsL a (refsL b [])
  | .ifc _ v => refsV v
  | .agg cs => refsL cs []
  | .tup vs => refsL vs []
def refsL : List V → List Nat → List Nat
  | [], r => r
  | v :: vs, r => catN (refsV v) (refsL vs r)
end
def refsM : List (V × V × Nat) → List Nat
  | [] => []
  | e :: es => catN (refsV e.1) (catN (refsV e.2.1) (refsM es))
def refsE : Ent → List Nat
  | .own cs _ | .ro cs => refsL cs []
  | .lst cs _ k _ => k :: refsL cs []
  | .map es _ => refsM es
  | .lp _ _ _ _ _ _ => []
  | .arr m _ _ _ => match m with
    | .grow k => [k]
    | _ => []
  | .no => []
def reachG (n : Nat) (s : Sto) : Nat → List Nat → List Nat → List Nat
  | 0, _, seen => seen
  | f + 1, w, seen => match w with
    | [] => seen
    | i :: w => match Nat.blt i n || hasN seen i with
      | true => reachG n s f w seen
      | false => match s[i]? with
        | some e => reachG n s f (catN (refsE e) w) (catN seen [i])
        | none => reachG n s f w (catN seen [i])
def rootsE (e : List (Nat × V)) : List Nat → List Nat
  | [] => []
  | t :: ts => match find e t with
    | some v => catN (refsV v) (rootsE e ts)
    | none => rootsE e ts
def rootsB : Nat → Sto → List Nat
  | 0, _ => []
  | _, [] => []
  | m + 1, e :: s => catN (refsE e) (rootsB m s)
/-- Behind the first n blocks, those that are reached. -/
def reachN (n : Nat) (live : List Nat) (st : St) : List Nat := reachG n st.s 1000 (catN (rootsE st.t live) (rootsB n st.s)) []
def ckN (l : List Nat) : List Nat := match nodupN l with
  | true => l
  | false => []
/-- Of a state what these temporaries reach. -/
def gcSt (n : Nat) (live : List Nat) (st : St) : St := selSt n (ckN (reachN n live st)) live st
theorem ckN_ok (l : List Nat) : nodupN (ckN l) = true := by
  unfold ckN
  split
  · assumption
  · rfl
theorem gcSt_weak (n : Nat) (live : List Nat) (st : St) : ∃ π, Weak n st (gcSt n live st) π := ⟨_, selSt_weak (ckN_ok _) st⟩
theorem CodeOk.mono {P : Program} {c : Code} {st : St} {K K' : Ex → St → Prop} (h : CodeOk P c st K) (hk : ∀ e s, K e s → K' e s) : CodeOk P c st K' := by
  refine ⟨fun r B Δ ρ a w hs hf => wpIn_mono (h.run r B Δ ρ a w hs hf) ?_⟩
  rintro e a' w' ⟨x, st', ρ', Δ', h1, h2, h3⟩
  exact ⟨x, st', ρ', Δ', h1, hk _ _ h2, h3⟩
def Ex.map? (f : Nat → Option Nat) : Ex → Option Ex
  | .panic v => match v.map? f with
    | some v => some (.panic v)
    | none => none
  | e => some e
def Res.map? (f : Nat → Option Nat) : Res → Option Res
  | .ret v => match v.map? f with
    | some v => some (.ret v)
    | none => none
  | .pan v => match v.map? f with
    | some v => some (.pan v)
    | none => none
/-- Code, piece by piece. -/
def lft : Code → Code
  | .seq a _ | .cond _ a _ => a
  | .block _ c | .loop c | .scope c => c
  | c => c
def rgt : Code → Code
  | .seq _ b | .cond _ _ b => b
  | c => c
def kd : Code → Nat
  | .seq _ _ => 1
  | .block _ _ => 2
  | .loop _ => 3
  | .scope _ => 4
  | .cond _ _ _ => 5
  | .region _ _ _ => 6
  | .rangeFunc _ _ _ _ => 7
  | .skip => 8
  | .ret => 9
  | .exit _ => 10
  | _ => 0
def bid : Code → Nat
  | .block i _ => i
  | _ => 0
theorem CodeOk.seq {P : Program} {c : Code} {st : St} {K : Ex → St → Prop} (hc : Nat.beq (kd c) 1 = true) (h : CodeOk P (lft c) st fun e st' => match e with | .normal => CodeOk P (rgt c) st' K | e => K e st') : CodeOk P c st K := by
  cases c <;> simp [kd] at hc
  rename_i a b
  refine ⟨fun r B Δ ρ a w h' hf => wpIn_seq (wpIn_mono (h.run r B Δ ρ a w h' hf) ?_)⟩
  rintro e a' w' ⟨x', st', ρ', Δ', h1, h2, h3, h4, h5⟩
  cases x' <;> cases e <;> simp only [Ex.rel] at h1 <;> try exact h1.elim
  · exact wpIn_mono (CodeOk.run h2 r B Δ' ρ' a' w' h3 h5) fun e a w hl => lift_mono h4 hl
  all_goals exact ⟨_, st', ρ', Δ', by exact h1, h2, h3, h4, h5⟩
theorem CodeOk.blk {P : Program} {c : Code} {st : St} {K : Ex → St → Prop} (hc : Nat.beq (kd c) 2 = true) (h : CodeOk P (lft c) st fun e st' => match e with | .exit i => (match Nat.beq i (bid c) with | true => K .normal st' | false => K (.exit i) st') | e => K e st') : CodeOk P c st K := by
  cases c <;> simp [kd] at hc
  rename_i id b
  refine ⟨fun r B Δ ρ a w h' hf => wpIn_block (wpIn_mono (h.run r B Δ ρ a w h' hf) ?_)⟩
  rintro e a' w' ⟨x', st', ρ', Δ', h1, h2, h3, h4, h5⟩
  cases x' <;> cases e <;> simp only [Ex.rel] at h1 <;> try exact h1.elim
  · exact ⟨.normal, st', ρ', Δ', trivial, h2, h3, h4, h5⟩
  · rename_i i j
    subst h1
    simp only [bid] at h2
    split at h2
    · rename_i hb
      have := Nat.eq_of_beq_eq_true hb
      subst this
      simp only [Exit.inBlock, if_true]
      exact ⟨.normal, st', ρ', Δ', trivial, h2, h3, h4, h5⟩
    · rename_i hb
      simp only [Exit.inBlock]
      rw [if_neg (fun e => by subst e; simp at hb)]
      exact ⟨.exit i, st', ρ', Δ', rfl, h2, h3, h4, h5⟩
  · exact ⟨_, st', ρ', Δ', by exact h1, h2, h3, h4, h5⟩
  · exact ⟨_, st', ρ', Δ', by exact h1, h2, h3, h4, h5⟩
  · exact ⟨_, st', ρ', Δ', by exact h1, h2, h3, h4, h5⟩
theorem CodeOk.lop {P : Program} {c : Code} {st : St} {K : Ex → St → Prop} (hc : Nat.beq (kd c) 3 = true) (h : LoopOk P (lft c) st K) : CodeOk P c st K := by
  cases c <;> simp [kd] at hc
  exact LoopOk.code h
/-- Code computed, with the bodies of what it calls; what it comes to is told to K. -/
def evG (P : Program) (D : Eh) (n : Nat) (c : Code) (st : St) (K : Ex → St → Prop) : Prop := Ev False P (gClo False P D n).1 (gClo False P D n).2 c st K
theorem evG_ok {P : Program} {D : Eh} (hD : EOk P D) (hn : namesOk P = true) (hm : P.follows .mixedOrders = true) {n : Nat} {c : Code} {st : St} {K : Ex → St → Prop} (h : evG P D n c st K) : CodeOk P c st K := by
  have hq := gClo_sound hD hn hm n (T := fun p : Prop => p) (no := False) (fun h => h)
  exact Ev.sound (T := fun p : Prop => p) (fun h => h) (fun f args s K h => hq.1 f args s K h) (fun c st K h => Lu.sound c st _ (hq.2 c st K h)) c st K h
def callG (P : Program) (D : Eh) (n : Nat) (f : FuncId) (args : List V) (s : Sto) (K : Res → Sto → Prop) : Prop := match Nat.blt f P.funcs.size with
  | true => (gClo False P D n).1 f args s K
  | false => False
theorem callG_ok {P : Program} {D : Eh} (hD : EOk P D) (hn : namesOk P = true) (hm : P.follows .mixedOrders = true) {n : Nat} {f : FuncId} {args : List V} {s : Sto} {K : Res → Sto → Prop} (h : callG P D n f args s K) : CallOk P f args s K := by
  unfold callG at h
  split at h
  · rename_i hlt
    exact ((gClo_sound hD hn hm n (T := fun p : Prop => p) (no := False) (fun h => h)).1 f args s K h).call (by simpa using hlt)
  · exact h.elim
def codeOf (P : Program) (f : FuncId) : Code := match P.funcs[f]? with
  | some fn => match fn.body with
    | some c => c
    | none => .skip
  | none => .skip
def funcOf (P : Program) (f : FuncId) : Func := P.funcs.getD f default
def funOk (P : Program) (f : FuncId) (n : Nat) : Bool := match P.funcs[f]? with
  | some fn => match fn.body with
    | some _ => Nat.ble n fn.ntmps
    | none => false
  | none => false
/-- A function entered. -/
theorem CallOk.fn {P : Program} (hn : namesOk P = true) {f : FuncId} {args : List V} {s : Sto} {K : Res → Sto → Prop} (hf : funOk P f args.length = true) (h : CodeOk P (codeOf P f) ⟨(funcOf P f).ntmps, zipArgs 0 args, s⟩ (bodyK False P (funcOf P f) K)) : CallOk P f args s K := by
  unfold funOk at hf
  split at hf
  · rename_i fn hfn
    split at hf
    · rename_i c hc
      have e1 : codeOf P f = c := by simp [codeOf, hfn, hc]
      have e2 : funcOf P f = fn := by
        have := (Array.getElem?_eq_some_iff.1 hfn)
        simp [funcOf, Array.getD, this.1, this.2]
      rw [e1, e2] at h
      exact CallOk.of_code (T := fun p : Prop => p) (fun h => h) hfn (names_at hn hfn) hc hf h
    · cases hf
  · cases hf
end Go.Proofs.YtalgegmcllcnmaaRL
end
section
/- RL: code from a base on: of what came ahead the first b blocks alone are kept; the way to a place in a function's code, computed. -/
namespace Go.Proofs.YtalgegmcllcnmaaRL
open Go
set_option linter.unusedVariables false
set_option linter.unusedSimpArgs false
def liftB (r : Option Nat) (B : Nat) (s0 : Sto) (ρ0 : Rho) (w0 : World) (K : Ex → St → Prop) : Exit → Act → World → Prop :=
  fun e a' w' => ∃ x st' ρ' Δ', x.rel ρ' st'.s.length e ∧ K x st' ∧ Sim Δ' ρ' st' a' w' ∧ Ext s0 ρ0 w0 st'.s ρ' w' ∧ Fo r B Δ' ρ' st'.s w'
structure CodeB (P : Program) (b : Nat) (c : Code) (st : St) (K : Ex → St → Prop) : Prop where
  run : ∀ (r : Option Nat) (B : Nat) (Δ : List Deferred) (s0 : Sto) (ρ0 : Rho) (w0 : World) (ρ : Rho) (a : Act) (w : World), s0.length = b → Ext s0 ρ0 w0 st.s ρ w → Sim Δ ρ st a w → Fo r B Δ ρ st.s w → c.wpIn (Fr r) 0 P (liftB r B s0 ρ0 w0 K) a w
theorem own_tr {a b : Sto} (h : a.map Ent.isOwn = b.map Ent.isOwn) {i : Nat} {e : Ent} (he : a[i]? = some e) : ∃ f, b[i]? = some f ∧ f.isOwn = e.isOwn := by
  have := congrArg (fun l => l[i]?) h
  simp only [List.getElem?_map, he, Option.map_some] at this
  obtain ⟨f, hf, hfo⟩ := Option.map_eq_some_iff.1 this.symm
  exact ⟨f, hf, hfo⟩
structure LoopB (P : Program) (b : Nat) (c : Code) (st : St) (K : Ex → St → Prop) : Prop where
  run : ∀ (r : Option Nat) (B : Nat) (Δ : List Deferred) (s0 : Sto) (ρ0 : Rho) (w0 : World) (ρ : Rho) (a : Act) (w : World), s0.length = b → Ext s0 ρ0 w0 st.s ρ w → Sim Δ ρ st a w → Fo r B Δ ρ st.s w → ∀ (fb : Frame) (k : List Item) (cs : List Frame), fb.roundOf = r →
    ∃ e a' w', liftB r B s0 ρ0 w0 K e a' w' ∧ ArrivesIn (Machine.fenced P (Fr r)) P (lone (fb.atR a (.code c :: .inLoop c :: k)) cs w) fb k cs e a' w'
section
variable {P : Program} {b : Nat} {c : Code} {st : St} {K K' : Ex → St → Prop}
theorem CodeB.of (h : CodeOk P c st K) : CodeB P b c st K := by
  refine ⟨fun r B Δ s0 ρ0 w0 ρ a w hn he hs hf => wpIn_mono (h.run r B Δ ρ a w hs hf) ?_⟩
  rintro e a' w' ⟨x, st', ρ', Δ', h1, h2, h3, h4, h5⟩
  exact ⟨x, st', ρ', Δ', h1, h2, h3, he.trans h4, h5⟩
theorem CodeB.ok (h : CodeB P st.s.length c st K) : CodeOk P c st K := ⟨fun r B Δ ρ a w hs hf => h.run r B Δ st.s ρ w ρ a w rfl (Ext.refl _ _ _) hs hf⟩
theorem CodeB.mono (h : CodeB P b c st K) (hk : ∀ e s, K e s → K' e s) : CodeB P b c st K' := by
  refine ⟨fun r B Δ s0 ρ0 w0 ρ a w hn he hs hf => wpIn_mono (h.run r B Δ s0 ρ0 w0 ρ a w hn he hs hf) ?_⟩
  rintro e a' w' ⟨x, st', ρ', Δ', h1, h2, h3⟩
  exact ⟨x, st', ρ', Δ', h1, hk _ _ h2, h3⟩
theorem CodeB.seq (hc : Nat.beq (kd c) 1 = true) (h : CodeB P b (lft c) st fun e st' => match e with | .normal => CodeB P b (rgt c) st' K | e => K e st') : CodeB P b c st K := by
  cases c <;> simp [kd] at hc
  refine ⟨fun r B Δ s0 ρ0 w0 ρ a w hn he hs hf => wpIn_seq (wpIn_mono (h.run r B Δ s0 ρ0 w0 ρ a w hn he hs hf) ?_)⟩
  rintro e a' w' ⟨x', st', ρ', Δ', h1, h2, h3, h4, h5⟩
  cases x' <;> cases e <;> simp only [Ex.rel] at h1 <;> try exact h1.elim
  · exact CodeB.run h2 r B Δ' s0 ρ0 w0 ρ' a' w' hn h4 h3 h5
  all_goals exact ⟨_, st', ρ', Δ', by exact h1, h2, h3, h4, h5⟩
theorem CodeB.blk (hc : Nat.beq (kd c) 2 = true) (h : CodeB P b (lft c) st fun e st' => match e with | .exit i => (match Nat.beq i (bid c) with | true => K .normal st' | false => K (.exit i) st') | e => K e st') : CodeB P b c st K := by
  cases c <;> simp [kd] at hc
  refine ⟨fun r B Δ s0 ρ0 w0 ρ a w hn he hs hf => wpIn_block (wpIn_mono (h.run r B Δ s0 ρ0 w0 ρ a w hn he hs hf) ?_)⟩
  rintro e a' w' ⟨x', st', ρ', Δ', h1, h2, h3, h4, h5⟩
  cases x' <;> cases e <;> simp only [Ex.rel] at h1 <;> try exact h1.elim
  · exact ⟨.normal, st', ρ', Δ', trivial, h2, h3, h4, h5⟩
  · rename_i i j
    subst h1
    simp only [bid] at h2
    split at h2
    · rename_i hb
      have := Nat.eq_of_beq_eq_true hb
      subst this
      simp only [Exit.inBlock, if_true]
      exact ⟨.normal, st', ρ', Δ', trivial, h2, h3, h4, h5⟩
    · rename_i hb
      simp only [Exit.inBlock]
      rw [if_neg (fun e => by subst e; simp at hb)]
      exact ⟨.exit i, st', ρ', Δ', rfl, h2, h3, h4, h5⟩
  · exact ⟨_, st', ρ', Δ', by exact h1, h2, h3, h4, h5⟩
  · exact ⟨_, st', ρ', Δ', by exact h1, h2, h3, h4, h5⟩
  · exact ⟨_, st', ρ', Δ', by exact h1, h2, h3, h4, h5⟩
theorem LoopB.code (h : LoopB P b c st K) : CodeB P b (.loop c) st K := by
  refine ⟨fun r B Δ s0 ρ0 w0 ρ a w hn he hs hf fb k cs hro _ _ => ?_⟩
  obtain ⟨e, a', w', hq, harr⟩ := h.run r B Δ s0 ρ0 w0 ρ a w hn he hs hf fb k cs hro
  exact ⟨e, a', w', hq, .of_steps (.one (fr_fenced _ _ _) stepR_loop) harr⟩
theorem CodeB.scp (hc : Nat.beq (kd c) 4 = true) (h : CodeB P b (lft c) st fun e st' => match e with | .goto _ => False | e => K e st') : CodeB P b c st K := by
  cases c <;> simp [kd] at hc
  refine ⟨fun r B Δ s0 ρ0 w0 ρ a w hn he hs hf => wpIn_scope (wpIn_mono (h.run r B Δ s0 ρ0 w0 ρ a w hn he hs hf) ?_)⟩
  rintro e a' w' ⟨x', st', ρ', Δ', h1, h2, h3, h4, h5⟩
  cases x' <;> cases e <;> simp only [Ex.rel] at h1 <;> try exact h1.elim
  all_goals first | exact h2.elim | exact ⟨_, st', ρ', Δ', by exact h1, h2, h3, h4, h5⟩
theorem CodeB.lop (hc : Nat.beq (kd c) 3 = true) (h : LoopB P b (lft c) st K) : CodeB P b c st K := by
  cases c <;> simp [kd] at hc
  exact LoopB.code h
/-- A loop by rounds; between them a state is told by what it has. -/
theorem LoopB.by (l0 live0 l live : List Nat) (h0 : nodupN l0 = true) (hl : nodupN l = true) (I : St → Prop) (μ : St → Nat)
    (round : ∀ st, I st → CodeB P b c st fun e st' => match e with | .normal => I (selSt b l live st') ∧ μ (selSt b l live st') < μ st | e => K e st') (st0 : St) (hi : I (selSt b l0 live0 st0)) : LoopB P b c st0 K := by
  have key : ∀ m st, μ st = m → I st → LoopB P b c st K := by
    intro m
    induction m using Nat.strongRecOn with
    | _ m ih =>
      intro st hm hi
      refine ⟨fun r B Δ s0 ρ0 w0 ρ a w hn he hs hf fb k cs hro => ?_⟩
      obtain ⟨e, a₁, w₁, ⟨x, st', ρ', Δ', h1, h2, h3, h4, h5⟩, harr⟩ := (round st hi).run r B Δ s0 ρ0 w0 ρ a w hn he hs hf fb (.inLoop c :: k) cs hro trivial (fr_room _ _)
      cases x <;> cases e <;> simp only [Ex.rel] at h1 <;> try exact h1.elim
      · have hw := selSt_weak (n := b) (live := live) hl st'
        obtain ⟨e₂, a₂, w₂, hq₂, harr₂⟩ := (ih _ (by have := h2.2; omega) (selSt b l live st') rfl h2.1).run r B Δ' s0 ρ0 w0 _ a₁ w₁ hn (hw.ext hn h4) (hw.sim h3) (hw.fo h5) fb k cs hro
        exact ⟨e₂, a₂, w₂, hq₂, .of_steps (StepsIn.trans harr (.one (fr_fenced _ _ _) stepR_inLoop)) harr₂⟩
      · exact ⟨.exit _, a₁, w₁, ⟨.exit _, st', ρ', Δ', h1, h2, h3, h4, h5⟩, .pass (x := .inLoop c) rfl (fun _ _ => .inl (by simp)) harr⟩
      · exact ⟨.goto _, a₁, w₁, ⟨.goto _, st', ρ', Δ', h1, h2, h3, h4, h5⟩, .pass (x := .inLoop c) rfl (fun _ _ => .inl (by simp)) harr⟩
      · exact ⟨.ret, a₁, w₁, ⟨.ret, st', ρ', Δ', trivial, h2, h3, h4, h5⟩, .pass (x := .inLoop c) rfl (fun _ _ => .inl (by simp)) harr⟩
      · exact ⟨.panic _, a₁, w₁, ⟨.panic _, st', ρ', Δ', h1, h2, h3, h4, h5⟩, .pass (x := .inLoop c) rfl (fun _ _ => .inl (by simp)) harr⟩
  have h := key _ (selSt b l0 live0 st0) rfl hi
  have hw := selSt_weak (n := b) (live := live0) h0 st0
  exact ⟨fun r B Δ s0 ρ0 w0 ρ a w hn he hs hf fb k cs hro => h.run r B Δ s0 ρ0 w0 _ a w hn (hw.ext hn he) (hw.sim hs) (hw.fo hf) fb k cs hro⟩
end
/-- What a state tells, another one tells, of the same memory, from base b on. -/
def Tells (b : Nat) (st st' : St) : Prop := ∀ (r : Option Nat) (B : Nat) (Δ : List Deferred) (s0 : Sto) (ρ0 : Rho) (w0 : World) (ρ : Rho) (a : Act) (w : World), s0.length = b → Ext s0 ρ0 w0 st.s ρ w → Sim Δ ρ st a w → Fo r B Δ ρ st.s w → ∃ ρ', Ext s0 ρ0 w0 st'.s ρ' w ∧ Sim Δ ρ' st' a w ∧ Fo r B Δ ρ' st'.s w
theorem Tells.refl (b : Nat) (st : St) : Tells b st st := fun r B Δ s0 ρ0 w0 ρ a w _ he hs hf => ⟨ρ, he, hs, hf⟩
theorem Tells.trans {b : Nat} {st st' st'' : St} (h : Tells b st st') (k : Tells b st' st'') : Tells b st st'' := fun r B Δ s0 ρ0 w0 ρ a w hb he hs hf =>
  let ⟨ρ', h1, h2, h3⟩ := h r B Δ s0 ρ0 w0 ρ a w hb he hs hf
  k r B Δ s0 ρ0 w0 ρ' a w hb h1 h2 h3
theorem Weak.tells {b : Nat} {st st' : St} {π : Nat → Nat} (hw : Weak b st st' π) : Tells b st st' := fun r B Δ s0 ρ0 w0 ρ a w hb he hs hf => ⟨_, hw.ext hb he, hw.sim hs, hw.fo hf⟩
theorem gc_tells (b : Nat) (live : List Nat) (st : St) : Tells b st (gcSt b live st) := let ⟨_, hw⟩ := gcSt_weak b live st; hw.tells
theorem Tells.conv {b : Nat} {st st' : St} (hn : st'.n = st.n) (hl : st'.s.length = st.s.length) (ho : st'.s.map Ent.isOwn = st.s.map Ent.isOwn)
    (ht : ∀ ρ w, Rep ρ st.s w → ∀ t v', find st'.t t = some v' → ∃ v, find st.t t = some v ∧ v'.abs ρ = v.abs ρ ∧ (v.bd st.s.length → v'.bd st.s.length)) (hr : ∀ ρ w, Rep ρ st.s w → sbd st.s → Rep ρ st'.s w ∧ sbd st'.s) : Tells b st st' := by
  intro r B Δ s0 ρ0 w0 ρ a w hb he hs hf
  refine ⟨ρ, he.conv rfl ho, ⟨hs.defers, by rw [hn]; exact hs.size, fun t v hv => ?_, fun t v hv => ?_, (hr ρ w hs.rep hs.sb).1, (hr ρ w hs.rep hs.sb).2⟩, ⟨hf.le, ?_, fun l hl => ?_⟩⟩
  · obtain ⟨v0, h1, h2, _⟩ := ht ρ w hs.rep t v hv
    rw [h2]; exact hs.tmps t v0 h1
  · obtain ⟨v0, h1, _, h3⟩ := ht ρ w hs.rep t v hv
    rw [hl]; exact h3 (hs.bd t v0 h1)
  · obtain ⟨ms, h1, h2, h3⟩ := hf.marks
    refine ⟨ms, h1, h2, fun m hm => ⟨(h3 m hm).1, (h3 m hm).2.1, fun i e hi hio => ?_⟩⟩
    obtain ⟨f, hfi, hfo⟩ := own_tr ho hi
    exact (h3 m hm).2.2 i f hfi (by rw [hfo]; exact hio)
  · obtain ⟨rc, h1, h2⟩ := hf.round l hl
    refine ⟨rc, h1, fun i e hi hio => ?_⟩
    obtain ⟨f, hfi, hfo⟩ := own_tr ho hi
    exact h2 i f hfi (by rw [hfo]; exact hio)
section
variable {P : Program} {b : Nat} {c : Code} {st st' : St} {K K' : Ex → St → Prop}
theorem CodeB.tell (ht : Tells b st st') (h : CodeB P b c st' K) : CodeB P b c st K :=
  ⟨fun r B Δ s0 ρ0 w0 ρ a w hn he hs hf => let ⟨ρ', h1, h2, h3⟩ := ht r B Δ s0 ρ0 w0 ρ a w hn he hs hf; h.run r B Δ s0 ρ0 w0 ρ' a w hn h1 h2 h3⟩
end
/-- A way into code: 0: behind the first of two; 1: into the first of two; 2: into a block. -/
def subAt : List Nat → Code → Code
  | [], c => c
  | d :: ds, c => match d with
    | 0 => subAt ds (rgt c)
    | _ => subAt ds (lft c)
/-- What stands behind a place. -/
def ctxK (P : Program) (b : Nat) : List Nat → Code → (Ex → St → Prop) → Ex → St → Prop
  | [], _, K => K
  | d :: ds, c, K => match d with
    | 0 => ctxK P b ds (rgt c) K
    | 1 => ctxK P b ds (lft c) fun e st' => match e with
      | .normal => CodeB P b (rgt c) st' K
      | e => K e st'
    | 3 => ctxK P b ds (lft c) fun e st' => match e with
      | .goto _ => False
      | e => K e st'
    | _ => ctxK P b ds (lft c) fun e st' => match e with
      | .exit i => (match Nat.beq i (bid c) with
        | true => K .normal st'
        | false => K (.exit i) st')
      | e => K e st'
/-- Code computed up to a place, where Z is asked. -/
def evTo (P : Program) (D : Eh) (n b : Nat) (Z : St → Prop) : List Nat → Code → St → (Ex → St → Prop) → Prop
  | [], _, st, _ => Z st
  | d :: ds, c, st, K => match d with
    | 0 => match Nat.beq (kd c) 1 with
      | true => evG P D n (lft c) st fun e st' => match e with
        | .normal => evTo P D n b Z ds (rgt c) st' K
        | e => K e st'
      | false => False
    | 1 => match Nat.beq (kd c) 1 with
      | true => evTo P D n b Z ds (lft c) st fun e st' => match e with
        | .normal => CodeB P b (rgt c) st' K
        | e => K e st'
      | false => False
    | 3 => match Nat.beq (kd c) 4 with
      | true => evTo P D n b Z ds (lft c) st fun e st' => match e with
        | .goto _ => False
        | e => K e st'
      | false => False
    | _ => match Nat.beq (kd c) 2 with
      | true => evTo P D n b Z ds (lft c) st fun e st' => match e with
        | .exit i => (match Nat.beq i (bid c) with
          | true => K .normal st'
          | false => K (.exit i) st')
        | e => K e st'
      | false => False
theorem evTo_ok {P : Program} {D : Eh} (hD : EOk P D) (hn : namesOk P = true) (hm : P.follows .mixedOrders = true) {n b : Nat} {Z : St → Prop} : ∀ (ds : List Nat) (c : Code) (st : St) (K : Ex → St → Prop), (∀ st, Z st → CodeB P b (subAt ds c) st (ctxK P b ds c K)) → evTo P D n b Z ds c st K → CodeB P b c st K := by
  intro ds
  induction ds with
  | nil => intro c st K hz h; exact hz st h
  | cons d ds ih =>
    intro c st K hz h
    match d, hz, h with
    | 2, hz, h =>
      simp only [evTo] at h
      split at h
      · rename_i hk
        exact CodeB.blk hk (ih (lft c) st _ hz h)
      · exact h.elim
    | 3, hz, h =>
      simp only [evTo] at h
      split at h
      · rename_i hk
        exact CodeB.scp hk (ih (lft c) st _ hz h)
      · exact h.elim
    | 0, hz, h =>
      simp only [evTo] at h
      split at h
      · rename_i hk
        refine CodeB.seq hk ((CodeB.of (evG_ok hD hn hm h)).mono fun e s he => ?_)
        cases e
        · exact ih (rgt c) s K hz he
        all_goals exact he
      · exact h.elim
    | 1, hz, h =>
      simp only [evTo] at h
      split at h
      · rename_i hk
        exact CodeB.seq hk (ih (lft c) st _ hz h)
      · exact h.elim
    | d + 4, hz, h =>
      simp only [evTo] at h
      split at h
      · rename_i hk
        exact CodeB.blk hk (ih (lft c) st _ hz h)
      · exact h.elim
/-- The first region of code, by number, more by one. -/
def firstR : Code → Nat
  | .region id _ _ => id + 1
  | .seq a b => match firstR a with
    | 0 => firstR b
    | n => n
  | .block _ c | .loop c | .scope c => firstR c
  | .cond _ a b => match firstR a with
    | 0 => firstR b
    | n => n
  | _ => 0
/-- Is the loop there that begins at region r? -/
def hasR (r : Nat) : Code → Bool
  | .seq a b => hasR r a || hasR r b
  | .block _ c | .scope c => hasR r c
  | .loop c => Nat.beq (firstR c) (r + 1)
  | _ => false
/-- The way to the loop that begins at region r. -/
def pathTo (r : Nat) : Code → List Nat
  | .seq a b => match hasR r a with
    | true => 1 :: pathTo r a
    | false => 0 :: pathTo r b
  | .block _ c => 2 :: pathTo r c
  | .scope c => 3 :: pathTo r c
  | _ => []
/-- A function entered. -/
theorem CallOk.fnB {P : Program} (hn : namesOk P = true) {f : FuncId} {args : List V} {s : Sto} {K : Res → Sto → Prop} (hf : funOk P f args.length = true) (h : CodeB P s.length (codeOf P f) ⟨(funcOf P f).ntmps, zipArgs 0 args, s⟩ (bodyK False P (funcOf P f) K)) : CallOk P f args s K :=
  CallOk.fn hn hf (CodeB.ok h)
end Go.Proofs.YtalgegmcllcnmaaRL
end
section
/- RL: loops by rounds that are told by what changes from one to the next. -/
namespace Go.Proofs.YtalgegmcllcnmaaRL
open Go
set_option linter.unusedVariables false
set_option linter.unusedSimpArgs false
section
variable {P : Program} {b : Nat} {c : Code} {K : Ex → St → Prop}
theorem LoopB.byG {α : Type} (S : α → St) (I : α → Prop) (μ : α → Nat)
    (round : ∀ x, I x → CodeB P b c (S x) fun e st' => match e with | .normal => ∃ y, Tells b st' (S y) ∧ I y ∧ μ y < μ x | .panic _ => False | e => ∃ st'', Tells b st' st'' ∧ K e st'') (st0 : St) (hi : ∃ x, Tells b st0 (S x) ∧ I x) : LoopB P b c st0 K := by
  have key : ∀ m x, μ x = m → I x → LoopB P b c (S x) K := by
    intro m
    induction m using Nat.strongRecOn with
    | _ m ih =>
      intro x hm hi
      refine ⟨fun r B Δ s0 ρ0 w0 ρ a w hn he hs hfo fb k cs hro => ?_⟩
      obtain ⟨e, a₁, w₁, ⟨x', st', ρ', Δ', h1, h2, h3, h4, h5⟩, harr⟩ := (round x hi).run r B Δ s0 ρ0 w0 ρ a w hn he hs hfo fb (.inLoop c :: k) cs hro trivial (fr_room _ _)
      have out : ∀ y : Ex, (∃ st'', Tells b st' st'' ∧ K y st'') → (∀ v, y ≠ .panic v) → y.rel ρ' st'.s.length e → liftB r B s0 ρ0 w0 K e a₁ w₁ := by
        rintro y ⟨st'', g1, g2⟩ hy hrel
        obtain ⟨ρ'', k1, k2, k3⟩ := g1 r B Δ' s0 ρ0 w0 ρ' a₁ w₁ hn h4 h3 h5
        refine ⟨y, st'', ρ'', Δ', ?_, g2, k2, k1, k3⟩
        cases y <;> cases e <;> simp only [Ex.rel] at hrel ⊢ <;> first | exact hrel.elim | exact hrel | exact absurd rfl (hy _)
      cases x' <;> cases e <;> simp only [Ex.rel] at h1 <;> try exact h1.elim
      · obtain ⟨y, g1, g2, g3⟩ := h2
        obtain ⟨ρ'', k1, k2, k3⟩ := g1 r B Δ' s0 ρ0 w0 ρ' a₁ w₁ hn h4 h3 h5
        obtain ⟨e₂, a₂, w₂, hq₂, harr₂⟩ := (ih _ (by omega) y rfl g2).run r B Δ' s0 ρ0 w0 ρ'' a₁ w₁ hn k1 k2 k3 fb k cs hro
        exact ⟨e₂, a₂, w₂, hq₂, .of_steps (StepsIn.trans harr (.one (fr_fenced _ _ _) stepR_inLoop)) harr₂⟩
      · exact ⟨.exit _, a₁, w₁, out (.exit _) h2 (fun v h => by cases h) h1, .pass (x := .inLoop c) rfl (fun _ _ => .inl (by simp)) harr⟩
      · exact ⟨.goto _, a₁, w₁, out (.goto _) h2 (fun v h => by cases h) h1, .pass (x := .inLoop c) rfl (fun _ _ => .inl (by simp)) harr⟩
      · exact ⟨.ret, a₁, w₁, out .ret h2 (fun v h => by cases h) trivial, .pass (x := .inLoop c) rfl (fun _ _ => .inl (by simp)) harr⟩
      · exact h2.elim
  obtain ⟨x, g1, g2⟩ := hi
  have h := key _ x rfl g2
  exact ⟨fun r B Δ s0 ρ0 w0 ρ a w hn he hs hfo fb k cs hro => let ⟨ρ', h1, h2, h3⟩ := g1 r B Δ s0 ρ0 w0 ρ a w hn he hs hfo; h.run r B Δ s0 ρ0 w0 ρ' a w hn h1 h2 h3 fb k cs hro⟩
/-- What a round may come to. -/
def RK {α : Type} (b : Nat) (S : α → St) (I : α → Prop) (μ : α → Nat) (x : α) (K : Ex → St → Prop) : Ex → St → Prop := fun e st => match e with
  | .normal => ∃ y, Tells b st (S y) ∧ I y ∧ μ y < μ x
  | .panic _ => False
  | e => K e st
/-- A loop by rounds that are computed. -/
theorem LoopB.byE {D : Eh} (hD : EOk P D) (hn : namesOk P = true) (hm : P.follows .mixedOrders = true) {N : Nat} {α : Type} (S : α → St) (I : α → Prop) (μ : α → Nat) (live : List Nat)
    (round : ∀ x, I x → evG P D N c (S x) fun e st => RK b S I μ x K e (gcSt b live st)) (st0 : St) (x0 : α) (ht : Tells b st0 (S x0)) (hi : I x0) : LoopB P b c st0 K := by
  refine LoopB.byG S I μ (fun x hx => ?_) st0 ⟨x0, ht, hi⟩
  refine (CodeB.of (evG_ok hD hn hm (round x hx))).mono fun e s he => ?_
  cases e
  · obtain ⟨y, h1, h2⟩ := he
    exact ⟨y, (gc_tells b live s).trans h1, h2⟩
  · exact ⟨_, gc_tells b live s, he⟩
  · exact ⟨_, gc_tells b live s, he⟩
  · exact ⟨_, gc_tells b live s, he⟩
  · exact he.elim
theorem RK.go {α : Type} {S : α → St} {I : α → Prop} {μ : α → Nat} {x y : α} {K : Ex → St → Prop} {st : St} (he : st = S y) (hi : I y) (hm : μ y < μ x) : RK b S I μ x K .normal st := ⟨y, by subst he; exact Tells.refl _ _, hi, hm⟩
end
end Go.Proofs.YtalgegmcllcnmaaRL
end
