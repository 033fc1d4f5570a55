/- RL, eighth text: functions entered, loops, and what a law's row wants. -/
import Derived.Test.YtpahclogghdnpaaDoorzA64KindsRL7
namespace Go.Proofs.YtpahclogghdnpaaDoorRL
open Go
set_option linter.unusedVariables false
set_option linter.unusedSimpArgs false
variable {Δ : List Deferred}
def zipArgs (k : Nat) : List V → List (Nat × V)
  | [] => []
  | v :: vs => (k, v) :: zipArgs (k + 1) vs
def vResult (P : Program) (st : St) : ResultVar → Option V
  | .tmp t => find st.t t
  | .cell a t => match find st.t a with
    | some (.ptr i o) => vLoad P t st.s i o
    | _ => none
def vResL (P : Program) (st : St) : List ResultVar → Option (List V)
  | [] => some []
  | r :: rs => match vResult P st r, vResL P st rs with
    | some v, some vs => some (v :: vs)
    | _, _ => none
def one1 : List V → V
  | [v] => v
  | vs => .tup vs
def bodyK {R : Type} (no : R) (P : Program) (fn : Func) (K : Res → Sto → R) : Ex → St → R
  | .normal, st => Wi no (vResL P st fn.results.toList) fun vs => K (.ret (one1 vs)) st.s
  | .ret, st => Wi no (vResL P st fn.results.toList) fun vs => K (.ret (one1 vs)) st.s
  | .panic v, st => K (.pan v) st.s
  | _, _ => no
def resF (a : Act) : ResultVar → Sem Value
  | .tmp t => pure (a.tmps.getD t undef)
  | .cell x t => do loadVar t (← asAddr (a.tmps.getD x undef))
theorem results_eq (fn : Func) (a : Act) : results fn a.tmps = (do let vs ← fn.results.mapM (resF a); pure (if h : vs.size = 1 then vs[0] else .tuple vs)) := by
  unfold results
  congr 1
section
variable {P : Program} {ρ : Rho} {w : World} {st : St} {a : Act}
theorem find_zip {t : Nat} {v : V} : ∀ {args : List V} {k : Nat}, find (zipArgs k args) t = some v → k ≤ t ∧ args[t - k]? = some v := by
  intro args
  induction args with
  | nil => intro k h; simp [zipArgs, find] at h
  | cons u args ih =>
    intro k h
    simp only [zipArgs, find] at h
    split at h
    · rename_i hb
      have := Nat.eq_of_beq_eq_true hb
      subst this
      exact ⟨Nat.le_refl _, by simpa using h⟩
    · rename_i hb
      have hne : k ≠ t := fun e => by subst e; simp at hb
      obtain ⟨h1, h2⟩ := ih h
      refine ⟨by omega, ?_⟩
      rw [show t - k = (t - (k + 1)) + 1 by omega]
      simpa using h2
theorem resL_sound (h : Sim Δ ρ st a w) : ∀ {rs : List ResultVar} {vs : List V}, vResL P st rs = some vs →
    ((rs.mapM (resF a) : Sem (List Value))).run P w = .ok (absL ρ vs) w ∧ bdL st.s.length vs := by
  intro rs
  induction rs with
  | nil => intro vs hv; simp only [vResL, Option.some.injEq] at hv; subst hv; simp [absL, bdL]
  | cons r rs ih =>
    intro vs hv
    simp only [vResL] at hv
    split at hv
    · rename_i v vs' h1 h2
      simp only [Option.some.injEq] at hv
      subst hv
      obtain ⟨i1, i2⟩ := ih h2
      have hr : (resF a r).run P w = .ok (v.abs ρ) w ∧ v.bd st.s.length := by
        cases r with
        | tmp t =>
          simp only [vResult] at h1
          exact ⟨by simp [resF, Array.getD_eq_getD_getElem?, h.tmps t v h1], h.bd t v h1⟩
        | cell x t =>
          simp only [vResult] at h1
          split at h1
          · rename_i i o hx
            have hc := h.tmps x _ hx
            refine ⟨?_, bd_load h.sb h1⟩
            simp [resF, Array.getD_eq_getD_getElem?, hc, V.abs, asAddr, run_load' h.rep h1]
          · cases h1
      refine ⟨?_, hr.2, i2⟩
      rw [List.mapM_cons]
      simp only [Sem.run_bind, hr.1, Result.andThen_ok, i1, Sem.run_pure, absL]
    · cases hv
theorem results_run (h : Sim Δ ρ st a w) {fn : Func} {vs : List V} (hv : vResL P st fn.results.toList = some vs) : (results fn a.tmps).run P w = .ok ((one1 vs).abs ρ) w ∧ (one1 vs).bd st.s.length := by
  obtain ⟨h1, h2⟩ := resL_sound (P := P) h hv
  have hm : ((fn.results.mapM (resF a) : Sem (Array Value))).run P w = .ok (absL ρ vs).toArray w := by
    rw [← Array.toArray_toList (xs := fn.results), List.mapM_toArray]
    simp only [Sem.run_map, h1, Result.andThen_ok]
  refine ⟨?_, ?_⟩
  · simp only [results_eq, Sem.run_bind, hm, Result.andThen_ok, Sem.run_pure]
    match vs with
    | [] => simp [one1, absL, V.abs]
    | [v] => simp [one1, absL]
    | u :: v :: vs => simp [one1, absL, V.abs]
  · match vs, h2 with
    | [], _ => simp [one1, V.bd, bdL]
    | [v], h2 => exact h2.1
    | u :: v :: vs, h2 => exact h2
/-- Blocks for deferred calls are shut. -/
structure Shut (ms : List Nat) (w w' : World) : Prop where
  os : w'.os = w.os
  tape : w'.tape = w.tape
  output : w'.output = w.output
  size : w'.heap.size = w.heap.size
  block : ∀ b, b ∉ ms → w'.heap[b]? = w.heap[b]?
theorem Shut.rep {ms : List Nat} {s : Sto} {w w' : World} (hs : Shut ms w w') (h : Rep ρ s w) (hm : ∀ b ∈ ms, w.heap[b]? = some (.deferred (some [])) ∧ ∀ (i : Nat) (e : Ent), s[i]? = some e → e.isOwn = true → (ρ i).1 ≠ b) : Rep ρ s w' := by
  refine ⟨fun i e he => ?_, h.sep⟩
  have h0 := h.ent i e he
  have own : e.isOwn = true → w'.heap[(ρ i).1]? = w.heap[(ρ i).1]? := fun ho => hs.block _ fun hb => (hm _ hb).2 i e he ho rfl
  cases e with
  | own cs t => exact ⟨by rw [own rfl]; exact h0.1, h0.2⟩
  | ro cs =>
    obtain ⟨⟨a, t, x, hc⟩, h0⟩ := h0
    have hb : (ρ i).1 ∉ ms := fun hb => by
      have := (hm _ hb).1
      rw [hc] at this; cases this
    refine ⟨⟨a, t, x, by rw [hs.block _ hb]; exact hc⟩, fun j v hv => ?_⟩
    have h1 := h0 j v hv
    simp only [World.cell?, hs.block _ hb]
    simpa only [World.cell?] using h1
  | map es c => simp only [RepE] at h0 ⊢; rw [own rfl]; exact h0
  | lst cs t k z =>
    obtain ⟨rest, h1, h2, h3⟩ := h0
    exact ⟨rest, by rw [own rfl]; exact h1, h2, h3⟩
  | lp e m ps asg body pend =>
    obtain ⟨r, h1, h2⟩ := h0
    exact ⟨r, by rw [own rfl]; exact h1, h2⟩
  | arr m cols n t =>
    obtain ⟨cs, a1, a2, a3, h0⟩ := h0
    refine ⟨cs, a1, a2, a3, ?_⟩
    cases m with
    | ro =>
      obtain ⟨⟨a, t, x, hc⟩, h0⟩ := h0
      have hb : (ρ i).1 ∉ ms := fun hb => by
        have := (hm _ hb).1
        rw [hc] at this; cases this
      refine ⟨⟨a, t, x, by rw [hs.block _ hb]; exact hc⟩, fun j v hv => ?_⟩
      have h1 := h0 j v hv
      simp only [World.cell?, hs.block _ hb]
      simpa only [World.cell?] using h1
    | own => exact ⟨by rw [own rfl]; exact h0.1, h0.2⟩
    | grow k =>
      obtain ⟨rest, h1, h2, h3⟩ := h0
      exact ⟨rest, by rw [own rfl]; exact h1, h2, h3⟩
  | glob g cs =>
    obtain ⟨⟨t, x, hc⟩, h5⟩ := h0
    have hb : (ρ i).1 ∉ ms := fun hb => by
      have := (hm _ hb).1
      rw [hc] at this; cases this
    exact ⟨⟨t, x, by rw [hs.block _ hb]; exact hc⟩, h5⟩
  | no => trivial
def putO (w : World) (b : Nat) (o : Obj) : World := { w with heap := w.heap.setIfInBounds b o }
theorem run_obj {b : Nat} {w : World} {o : Obj} (hc : ∀ c e f, o ≠ .cells c e f) (h : w.heap[b]? = some o) : (getObj b).run P w = .ok o w := by
  cases o <;> first | exact absurd rfl (hc _ _ _) | simp [getObj, Sem.run, h]
theorem run_setO {b : Nat} {w : World} {o o' : Obj} (hc : ∀ c e f, o ≠ .cells c e f) (h : w.heap[b]? = some o) : (setObj b o').run P w = .ok () (putO w b o') := by
  cases o <;> first | exact absurd rfl (hc _ _ _) | simp [setObj, Sem.run, h, putO]
theorem run_take {b : Nat} {w : World} (h : w.heap[b]? = some (.deferred (some []))) : ∃ w', (Instr.takeDeferred b).run P w = .ok [] w' ∧ Shut [b] w w' := by
  have hlt : b < w.heap.size := (Array.getElem?_eq_some_iff.1 h).1
  refine ⟨putO w b (.deferred none), ?_, ⟨rfl, rfl, rfl, by simp [putO], fun c hc => ?_⟩⟩
  · simp only [Instr.takeDeferred, Sem.run_bind, run_obj (by simp) h, Result.andThen_ok, run_setO (by simp) h, Sem.run_pure]
  · have hne : b ≠ c := fun e => hc (by simp [e])
    simp [putO, Array.getElem?_setIfInBounds_ne hne]
theorem leaves_marks {fn : Func} {tmps : Array Value} {R : Ending → World → Prop} {u : FrameMode} (hu : u ≠ .run) : ∀ {ms : List Nat} {w : World}, ms.Nodup → (∀ b ∈ ms, w.heap[b]? = some (.deferred (some []))) → (∀ w'', Shut ms w w'' → LeavesIn (Fr none) 0 P fn tmps R [] u w'') → LeavesInM (Fr none) 0 P fn tmps R (ms.map markD) u w := by
  intro ms
  induction ms with
  | nil => intro w _ _ h; exact h w ⟨rfl, rfl, rfl, rfl, fun _ _ => rfl⟩
  | cons b ms ih =>
    intro w hnd hb h
    obtain ⟨w1, h1, h2⟩ := run_take (P := P) (hb b (by simp))
    have hnd' := List.nodup_cons.1 hnd
    refine ⟨hu, .inl ⟨b, w1, rfl, h1, ih hnd'.2 (fun c hc => ?_) fun w'' hs => h w'' ⟨hs.os.trans h2.os, hs.tape.trans h2.tape, hs.output.trans h2.output, hs.size.trans h2.size, fun c hc => ?_⟩⟩⟩
    · rw [h2.block c (by simpa using fun e : c = b => hnd'.1 (e ▸ hc))]
      exact hb c (by simp [hc])
    · rw [hs.block c fun hm => hc (by simp [hm]), h2.block c fun hm => hc (by simp at hm; simp [hm])]
/-- A function is entered. -/
theorem CallOk.of_code {R : Type} {no : R} {T : R → Prop} (hno : ¬ T no) {f : FuncId} {fn : Func} {c : Code} {args : List V} {s : Sto} {K : Res → Sto → R} (hf : P.funcs[f]? = some fn) (hn : (fn.name == "runtime.NumGoroutine") = false) (hb : fn.body = some c) (hl : Nat.ble args.length fn.ntmps = true)
    (h : CodeOk P c ⟨fn.ntmps, zipArgs 0 args, s⟩ fun e st => T (bodyK no P fn K e st)) : CallOk P f args s fun r s => T (K r s) := by
  refine ⟨fun xs w => ?_, fun ρ w hr hs hbd => ?_⟩
  · simp only [callFunc, Sem.run_bind, run_program, Result.andThen_ok, hf]
    rw [if_neg (by simp [hn]), if_neg (by simp [hb])]
    rfl
  · have hle : args.length ≤ fn.ntmps := Nat.le_of_ble_eq_true hl
    have sim : Sim [] ρ ⟨fn.ntmps, zipArgs 0 args, s⟩ { tmps := (absL ρ args).toArray ++ Array.replicate (fn.ntmps - (absL ρ args).toArray.size) undef, defers := [] } w := by
      refine ⟨rfl, ?_, fun t v hv => ?_, fun t v hv => ?_, hr, hs⟩
      · simp [absL_length]; omega
      · have h2 := (find_zip hv).2
        simp only [Nat.sub_zero] at h2
        have hlt : t < args.length := (List.getElem?_eq_some_iff.1 h2).1
        rw [Array.getElem?_append_left (by simpa [absL_length] using hlt)]
        simp [absL_get, h2]
      · have h2 := (find_zip hv).2
        exact bdL_get hbd (by simpa using h2)
    have fo : Fo none w.heap.size [] ρ s w := ⟨Nat.le_refl _, ⟨[], rfl, List.nodup_nil, fun b hb => by cases hb⟩, fun l hl => by cases hl⟩
    refine callsIn_wide.1 (callsIn_of_wp_marks (F := Fr none) (n := 0) hf hb trivial (wpIn_mono (h.run none w.heap.size [] ρ _ w sim fo) ?_))
    rintro e a' w' ⟨x, st', ρ', Δ', h1, h2, h3, h4, h5⟩
    obtain ⟨ms, rfl, hnd, hms⟩ := h5.marks
    have hms' : ∀ b ∈ ms, w'.heap[b]? = some (.deferred (some [])) := fun b hb => (hms b hb).2.1
    have fin : ∀ w'', Shut ms w' w'' → Rep ρ' st'.s w'' ∧ Ext s ρ w st'.s ρ' w'' := fun w'' hs => by
      have r2 := hs.rep h3.rep fun b hb => ⟨(hms b hb).2.1, (hms b hb).2.2⟩
      refine ⟨r2, ⟨h4.len, h4.same, h4.own, hs.os.trans h4.os, hs.tape.trans h4.tape, hs.output.trans h4.output, by rw [hs.size]; exact h4.size, fun b hb hn => ?_⟩⟩
      rw [hs.block b fun hm => by have := (hms b hm).1; omega]
      exact h4.block b hb hn
    cases x <;> cases e <;> simp only [Ex.rel] at h1 <;> try exact h1.elim
    · obtain ⟨vs, hv, hk⟩ := Wi.out hno h2
      simp only [bodyPostM]
      rw [h3.defers]
      refine leaves_marks (by simp) hnd hms' fun w'' hs => ?_
      obtain ⟨q1, q2⟩ := fin w'' hs
      have h3' : Sim _ ρ' st' a' w'' := ⟨h3.defers, h3.size, h3.tmps, h3.bd, q1, h3.sb⟩
      obtain ⟨r1, r2⟩ := results_run (P := P) h3' hv
      exact ⟨_, r1, .ret (one1 vs), st'.s, ρ', rfl, hk, q1, q2, h3.sb, r2⟩
    · exact (hno h2).elim
    · exact (hno h2).elim
    · obtain ⟨vs, hv, hk⟩ := Wi.out hno h2
      simp only [bodyPostM]
      rw [h3.defers]
      refine leaves_marks (by simp) hnd hms' fun w'' hs => ?_
      obtain ⟨q1, q2⟩ := fin w'' hs
      have h3' : Sim _ ρ' st' a' w'' := ⟨h3.defers, h3.size, h3.tmps, h3.bd, q1, h3.sb⟩
      obtain ⟨r1, r2⟩ := results_run (P := P) h3' hv
      exact ⟨_, r1, .ret (one1 vs), st'.s, ρ', rfl, hk, q1, q2, h3.sb, r2⟩
    · rename_i v chain
      simp only [bodyPostM]
      rw [h3.defers]
      refine leaves_marks (by simp) hnd hms' fun w'' hs => ?_
      obtain ⟨q1, q2⟩ := fin w'' hs
      exact ⟨.pan v, st'.s, ρ', by simp [Res.ending, h1.1], h2, q1, q2, h3.sb, h1.2⟩
end

/-- A loop, from the head of a round on. -/
structure LoopOk (P : Program) (c : Code) (st : St) (K : Ex → St → Prop) : Prop where
  run : ∀ (r : Option Nat) (B : Nat) (Δ : List Deferred) (ρ : Rho) (a : Act) (w : World), Sim Δ ρ st a w → Fo r B Δ ρ st.s w → ∀ (b : Frame) (k : List Item) (cs : List Frame), b.roundOf = r →
    ∃ e a' w', lift r B st ρ w K e a' w' ∧ ArrivesIn (Machine.fenced P (Fr r)) P (lone (b.atR a (.code c :: .inLoop c :: k)) cs w) b k cs e a' w'
theorem LoopOk.code {P : Program} {c : Code} {st : St} {K : Ex → St → Prop} (h : LoopOk P c st K) : CodeOk P (.loop c) st K :=
  ⟨fun r B Δ ρ a w hs hf b k cs hro _ _ => let ⟨e, a', w', hq, harr⟩ := h.run r B Δ ρ a w hs hf b k cs hro; ⟨e, a', w', hq, .of_steps (.one (fr_fenced _ _ _) stepR_loop) harr⟩⟩
/-- One more round. -/
theorem LoopOk.next {P : Program} {c : Code} {st : St} {K : Ex → St → Prop} (h : CodeOk P c st fun e st' => match e with | .normal => LoopOk P c st' K | e => K e st') : LoopOk P c st K := by
  refine ⟨fun r B Δ ρ a w hs hf b k cs hro => ?_⟩
  obtain ⟨e, a₁, w₁, ⟨x, st', ρ', Δ', h1, h2, h3, h4, h5⟩, harr⟩ := h.run r B Δ ρ a w hs hf b (.inLoop c :: k) cs hro trivial (fr_room _ _)
  cases x <;> cases e <;> simp only [Ex.rel] at h1 <;> try exact h1.elim
  · obtain ⟨e₂, a₂, w₂, hq₂, harr₂⟩ := h2.run r B Δ' ρ' a₁ w₁ h3 h5 b k cs hro
    exact ⟨e₂, a₂, w₂, lift_mono h4 hq₂, .of_steps (StepsIn.trans harr (.one (fr_fenced _ _ _) stepR_inLoop)) harr₂⟩
  · exact ⟨.exit _, a₁, w₁, ⟨.exit _, st', ρ', Δ', h1, h2, h3, h4, h5⟩, .pass (x := .inLoop c) rfl (fun _ _ => .inl (by simp)) harr⟩
  · exact ⟨.goto _, a₁, w₁, ⟨.goto _, st', ρ', Δ', h1, h2, h3, h4, h5⟩, .pass (x := .inLoop c) rfl (fun _ _ => .inl (by simp)) harr⟩
  · exact ⟨.ret, a₁, w₁, ⟨.ret, st', ρ', Δ', trivial, h2, h3, h4, h5⟩, .pass (x := .inLoop c) rfl (fun _ _ => .inl (by simp)) harr⟩
  · exact ⟨.panic _, a₁, w₁, ⟨.panic _, st', ρ', Δ', h1, h2, h3, h4, h5⟩, .pass (x := .inLoop c) rfl (fun _ _ => .inl (by simp)) harr⟩
mutual
def V.ren (π : Nat → Nat) : V → V
  | .raw v => .raw v
  | .md k m l => .md k m l
  | .ptr i o => .ptr (π i) o
  | .sl i o n c => .sl (π i) o n c
  | .mp i => .mp (π i)
  | .yld i => .yld (π i)
  | .lst i k o e n => .lst (π i) (π k) o e n
  | .el i z k f => .el (π i) z k f
  | .sle i z k n c => .sle (π i) z k n c
  | .lse i k z e n => .lse (π i) (π k) z e n
  | .lend i k o e l z => .lend (π i) (π k) o e l z
  | .fn f a b => .fn f (renL π a) (renL π b)
  | .ifc t v => .ifc t (v.ren π)
  | .agg cs => .agg (renL π cs)
  | .tup vs => .tup (renL π vs)
def renL (π : Nat → Nat) : List V → List V
  | [] => []
  | v :: vs => v.ren π :: renL π vs
end
mutual
theorem V.abs_ren (ρ : Rho) (π : Nat → Nat) : ∀ (v : V), (v.ren π).abs ρ = v.abs (fun i => ρ (π i))
  | .raw v => rfl
  | .md k m l => rfl
  | .ptr i o => rfl
  | .sl i o n c => rfl
  | .mp i => rfl
  | .yld i => rfl
  | .lst i k o e n => rfl
  | .el i z k f => rfl
  | .sle i z k n c => rfl
  | .lse i k z e n => rfl
  | .lend i k o e l z => rfl
  | .fn f a b => by simp only [V.ren, V.abs, absL_ren ρ π a, absL_ren ρ π b]
  | .ifc t v => by simp only [V.ren, V.abs, V.abs_ren ρ π v]
  | .agg cs => by simp only [V.ren, V.abs, absL_ren ρ π cs]
  | .tup vs => by simp only [V.ren, V.abs, absL_ren ρ π vs]
theorem absL_ren (ρ : Rho) (π : Nat → Nat) : ∀ (l : List V), absL ρ (renL π l) = absL (fun i => ρ (π i)) l
  | [] => rfl
  | v :: l => by simp only [renL, absL, V.abs_ren ρ π v, absL_ren ρ π l]
end
theorem renL_map (π : Nat → Nat) (l : List V) : renL π l = l.map (V.ren π) := by
  induction l with
  | nil => rfl
  | cons v l ih => simp [renL, ih]
def renE (π : Nat → Nat) : List (Nat × V) → List (Nat × V)
  | [] => []
  | p :: l => (p.1, p.2.ren π) :: renE π l
theorem find_renE (π : Nat → Nat) (t : Nat) : ∀ (e : List (Nat × V)), find (renE π e) t = (find e t).map (V.ren π) := by
  intro e
  induction e with
  | nil => rfl
  | cons p e ih =>
    obtain ⟨k, v⟩ := p
    simp only [renE, find]
    cases Nat.beq k t
    · exact ih
    · rfl
def Ent.ren (π : Nat → Nat) : Ent → Ent
  | .own cs t => .own (renL π cs) t
  | .ro cs => .ro (renL π cs)
  | .map es c => .map (es.map fun e => (e.1.ren π, e.2.1.ren π, e.2.2)) c
  | .lst cs t k z => .lst (renL π cs) t (π k) z
  | .arr m cols n t => .arr (match m with | .ro => .ro | .own => .own | .grow k => .grow (π k)) cols n t
  | .lp e n ps asg body pend => .lp (renE π e) n ps asg body pend
  | .glob g cs => .glob g cs
  | .no => .no
theorem RepE.ren {ρ : Rho} {π : Nat → Nat} {w : World} {i : Nat} {e : Ent} (h : RepE ρ w (π i) (e.ren π)) : RepE (fun i => ρ (π i)) w i e := by
  cases e with
  | own cs t => simpa [RepE, Ent.ren, absL_ren] using h
  | ro cs =>
    refine ⟨h.1, fun j v hv => ?_⟩
    have := h.2 j (v.ren π) (by simp [renL_map, hv])
    rw [V.abs_ren] at this
    exact this
  | map es c =>
    simp only [RepE, Ent.ren] at h ⊢
    rw [h]
    simp only [List.map_map]
    congr 3
    refine List.map_congr_left fun e he => ?_
    simp [absE, V.abs_ren]
  | lst cs t k z =>
    obtain ⟨rest, h1, h2, h3⟩ := h
    rw [absL_ren] at h1
    exact ⟨rest, h1, h2, by simpa [renL_map] using h3⟩
  | lp e m ps asg body pend =>
    obtain ⟨r, h1, h2, h3, h4, h5, h6, h7, h8⟩ := h
    refine ⟨r, h1, h2, h3, h4, h5, h6, h7, fun t v hv => ?_⟩
    have := h8 t (v.ren π) (by rw [find_renE, hv]; rfl)
    rw [V.abs_ren] at this
    exact this
  | arr m cols n t =>
    obtain ⟨cs, a1, a2, a3, h0⟩ := h
    refine ⟨cs, a1, a2, a3, ?_⟩
    cases m with
    | ro => exact h0
    | own => exact h0
    | grow k => exact h0
  | glob g cs => exact h
  | no => trivial
/-- A state in which less is known, or in which blocks that are new since the first n have other numbers. -/
structure Weak (n : Nat) (st st' : St) (π : Nat → Nat) : Prop where
  num : st'.n = st.n
  le : n ≤ st'.s.length
  id : ∀ i, i < n → π i = i
  env : ∀ t v, find st'.t t = some v → find st.t t = some (v.ren π) ∧ v.bd st'.s.length
  ent : ∀ (i : Nat) e, st'.s[i]? = some e → e = .no ∨ (st.s[π i]? = some (e.ren π) ∧ e.bd st'.s.length)
  inj : ∀ (i j : Nat) e f, st'.s[i]? = some e → st'.s[j]? = some f → e.isOwn = true → f.live = true → i ≠ j → π i ≠ π j
theorem Ent.ren_own {π : Nat → Nat} {e : Ent} : (e.ren π).isOwn = e.isOwn := by
  cases e with
  | arr m cols n t => cases m <;> rfl
  | _ => rfl
theorem Ent.ren_live {π : Nat → Nat} {e : Ent} : (e.ren π).live = e.live := by cases e <;> rfl
theorem Weak.sim {n : Nat} {st st' : St} {π : Nat → Nat} (h : Weak n st st' π) {ρ : Rho} {a : Act} {w : World} (hs : Sim Δ ρ st a w) : Sim Δ (fun i => ρ (π i)) st' a w where
  defers := hs.defers
  size := by rw [h.num]; exact hs.size
  tmps t v hv := by rw [← V.abs_ren]; exact hs.tmps t _ (h.env t v hv).1
  bd t v hv := (h.env t v hv).2
  rep := by
    refine ⟨fun i e he => ?_, fun i j e f he hf ho hl hij => ?_⟩
    · rcases h.ent i e he with rfl | ⟨h1, h2⟩
      · trivial
      · exact RepE.ren (hs.rep.ent _ _ h1)
    · rcases h.ent i e he with rfl | ⟨h1, h2⟩
      · cases ho
      rcases h.ent j f hf with rfl | ⟨k1, k2⟩
      · cases hl
      exact hs.rep.sep (π i) (π j) _ _ h1 k1 (by rw [Ent.ren_own]; exact ho) (by rw [Ent.ren_live]; exact hl) (h.inj i j e f he hf ho hl hij)
  sb := by
    intro i e he
    rcases h.ent i e he with rfl | ⟨h1, h2⟩
    · trivial
    · exact h2
theorem Weak.fo {n : Nat} {st st' : St} {π : Nat → Nat} (h : Weak n st st' π) {r : Option Nat} {B : Nat} {ρ : Rho} {w : World} (hf : Fo r B Δ ρ st.s w) : Fo r B Δ (fun i => ρ (π i)) st'.s w := by
  have own : ∀ b, (∀ (i : Nat) (e : Ent), st.s[i]? = some e → e.isOwn = true → (ρ i).1 ≠ b) → ∀ (i : Nat) (e : Ent), st'.s[i]? = some e → e.isOwn = true → (ρ (π i)).1 ≠ b := fun b hb i e he ho => by
    rcases h.ent i e he with rfl | ⟨h1, h2⟩
    · cases ho
    · exact hb _ _ h1 (by rw [Ent.ren_own]; exact ho)
  refine ⟨hf.le, ?_, fun l hl => ?_⟩
  · obtain ⟨ms, h1, h2, h3⟩ := hf.marks
    exact ⟨ms, h1, h2, fun b hb => ⟨(h3 b hb).1, (h3 b hb).2.1, own b (h3 b hb).2.2⟩⟩
  · obtain ⟨rc, h1, h2⟩ := hf.round l hl
    exact ⟨rc, h1, own l h2⟩
theorem Weak.ext {n : Nat} {st st' : St} {π : Nat → Nat} (h : Weak n st st' π) {s0 : Sto} {ρ0 ρ : Rho} {w0 w : World} (hn : s0.length = n) (he : Ext s0 ρ0 w0 st.s ρ w) : Ext s0 ρ0 w0 st'.s (fun i => ρ (π i)) w where
  len := by rw [hn]; exact h.le
  same i hi := by rw [h.id i (by omega)]; exact he.same i hi
  own i e' hi ho := by
    rcases h.ent i e' hi with rfl | ⟨h1, h2⟩
    · cases ho
    rcases he.own (π i) _ h1 (by rw [Ent.ren_own]; exact ho) with ⟨j, e, h3, h4, h5⟩ | h3
    · exact .inl ⟨j, e, h3, h4, h5⟩
    · exact .inr h3
  os := he.os
  tape := he.tape
  output := he.output
  size := he.size
  block := he.block
/-- Loops and the like, met one by one. -/
def Lu (P : Program) : Lh Prop := fun c st K =>
  match c with
  | .loop b => LoopOk P b st K
  | c => CodeOk P c st K
theorem Lu.sound {P : Program} (c : Code) (st : St) (K : Ex → St → Prop) (h : Lu P c st K) : CodeOk P c st K := by
  cases c <;> first | exact LoopOk.code h | exact h
abbrev EvU (P : Program) := Ev False P (TgOk P) (Lu P)
theorem EvU.sound {P : Program} {c : Code} {st : St} {K : Ex → St → Prop} (h : EvU P c st K) : CodeOk P c st K := Ev.sound (T := fun p : Prop => p) (fun h => h) (fun _ _ _ _ h => h) (fun c st K h => Lu.sound c st K h) c st K h
/-- A function is entered, its code computed. -/
theorem CallOk.enter {P : Program} {f : FuncId} {fn : Func} {c : Code} {args : List V} {s : Sto} {K : Res → Sto → Prop} (hf : P.funcs[f]? = some fn) (hn : (fn.name == "runtime.NumGoroutine") = false) (hb : fn.body = some c) (hl : Nat.ble args.length fn.ntmps = true)
    (h : EvU P c ⟨fn.ntmps, zipArgs 0 args, s⟩ (bodyK False P fn K)) : CallOk P f args s K := CallOk.of_code (T := fun p : Prop => p) (fun h => h) hf hn hb hl (EvU.sound h)
/-- Less is asked of the store behind a call: what was there ahead of it. -/
theorem CallOk.take {P : Program} {f : FuncId} {args : List V} {s : Sto} {K : Res → Sto → Prop} (h : CallOk P f args s fun r s' => K r (s'.take s.length) ∧ r.val.bd s.length ∧ sbd (s'.take s.length)) : CallOk P f args s K := by
  refine ⟨h.plain, fun ρ w h1 h2 h3 => (h.run ρ w h1 h2 h3).mono ?_⟩
  rintro e w' ⟨r, s', ρ', rfl, ⟨k1, k2, k3⟩, r1, r2, r3, r4⟩
  have hlen : (s'.take s.length).length = s.length := by rw [List.length_take]; have := r2.len; omega
  have get : ∀ (i : Nat) e, (s'.take s.length)[i]? = some e → i < s.length ∧ s'[i]? = some e := by
    intro i e he
    have hi : i < s.length := by have := (List.getElem?_eq_some_iff.1 he).1; omega
    rw [List.getElem?_take, if_pos hi] at he
    exact ⟨hi, he⟩
  refine ⟨r, s'.take s.length, ρ', rfl, k1, ⟨fun i e he => r1.ent i e (get i e he).2, fun i j e f he hf => r1.sep i j e f (get i e he).2 (get j f hf).2⟩, ?_, k3, by rw [hlen]; exact k2⟩
  exact ⟨by omega, r2.same, fun i e' he ho => r2.own i e' (get i e' he).2 ho, r2.os, r2.tape, r2.output, r2.size, r2.block⟩
/-- What a law's row wants. -/
theorem CallOk.below {P : Program} {f : FuncId} {args : List V} {s : Sto} {r : V} {ρ : Rho} {w : World} (h : CallOk P f args s fun x _ => x = .ret r) (hr : Rep ρ s w) (hs : sbd s) (ha : bdL s.length args) (hro : ∀ (i : Nat) e, s[i]? = some e → e.isOwn = false) (hv : r.bd 0) :
    Calls P f (absL ρ args).toArray w fun e w' => e = .returned (r.abs ρ) ∧ Go.RowKit.Below w.heap.size w w' := by
  refine (h.run ρ w hr hs ha).mono ?_
  rintro e w' ⟨_, s', ρ', rfl, rfl, r1, r2, r3, r4⟩
  refine ⟨?_, r2.os, r2.tape, r2.output, r2.size, fun k hk => r2.block k hk fun i e he ho => ?_⟩
  · simp only [Res.ending]
    rw [V.abs_congr (n := 0) (fun i hi => absurd hi (by omega)) r hv]
  · rw [hro i e he] at ho; cases ho
end Go.Proofs.YtpahclogghdnpaaDoorRL
