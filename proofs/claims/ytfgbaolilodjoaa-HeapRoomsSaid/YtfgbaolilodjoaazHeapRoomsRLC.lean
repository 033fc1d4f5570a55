/- RL: code from a base on: of what came ahead the first b blocks alone are kept; the way to a place in a function's code, computed. -/
import Derived.Test.YtfgbaolilodjoaazHeapRoomsRLW
namespace Go.Proofs.YtfgbaolilodjoaaRL
open Go
set_option linter.unusedVariables false
set_option linter.unusedSimpArgs false
def liftB (r : Option Nat) (B : Nat) (s0 : Sto) (ρ0 : Rho) (w0 : World) (K : Ex → St → Prop) : Exit → Act → World → Prop :=
  fun e a' w' => ∃ x st' ρ' Δ', x.rel ρ' st'.s.length e ∧ K x st' ∧ Sim Δ' ρ' st' a' w' ∧ Ext s0 ρ0 w0 st'.s ρ' w' ∧ Fo r B Δ' ρ' st'.s w'
structure CodeB (P : Program) (b : Nat) (c : Code) (st : St) (K : Ex → St → Prop) : Prop where
  run : ∀ (r : Option Nat) (B : Nat) (Δ : List Deferred) (s0 : Sto) (ρ0 : Rho) (w0 : World) (ρ : Rho) (a : Act) (w : World), s0.length = b → Ext s0 ρ0 w0 st.s ρ w → Sim Δ ρ st a w → Fo r B Δ ρ st.s w → c.wpIn (Fr r) 0 P (liftB r B s0 ρ0 w0 K) a w
theorem own_tr {a b : Sto} (h : a.map Ent.isOwn = b.map Ent.isOwn) {i : Nat} {e : Ent} (he : a[i]? = some e) : ∃ f, b[i]? = some f ∧ f.isOwn = e.isOwn := by
  have := congrArg (fun l => l[i]?) h
  simp only [List.getElem?_map, he, Option.map_some] at this
  obtain ⟨f, hf, hfo⟩ := Option.map_eq_some_iff.1 this.symm
  exact ⟨f, hf, hfo⟩
structure LoopB (P : Program) (b : Nat) (c : Code) (st : St) (K : Ex → St → Prop) : Prop where
  run : ∀ (r : Option Nat) (B : Nat) (Δ : List Deferred) (s0 : Sto) (ρ0 : Rho) (w0 : World) (ρ : Rho) (a : Act) (w : World), s0.length = b → Ext s0 ρ0 w0 st.s ρ w → Sim Δ ρ st a w → Fo r B Δ ρ st.s w → ∀ (fb : Frame) (k : List Item) (cs : List Frame), fb.roundOf = r →
    ∃ e a' w', liftB r B s0 ρ0 w0 K e a' w' ∧ ArrivesIn (Machine.fenced P (Fr r)) P (lone (fb.atR a (.code c :: .inLoop c :: k)) cs w) fb k cs e a' w'
section
variable {P : Program} {b : Nat} {c : Code} {st : St} {K K' : Ex → St → Prop}
theorem CodeB.of (h : CodeOk P c st K) : CodeB P b c st K := by
  refine ⟨fun r B Δ s0 ρ0 w0 ρ a w hn he hs hf => wpIn_mono (h.run r B Δ ρ a w hs hf) ?_⟩
  rintro e a' w' ⟨x, st', ρ', Δ', h1, h2, h3, h4, h5⟩
  exact ⟨x, st', ρ', Δ', h1, h2, h3, he.trans h4, h5⟩
theorem CodeB.ok (h : CodeB P st.s.length c st K) : CodeOk P c st K := ⟨fun r B Δ ρ a w hs hf => h.run r B Δ st.s ρ w ρ a w rfl (Ext.refl _ _ _) hs hf⟩
theorem CodeB.mono (h : CodeB P b c st K) (hk : ∀ e s, K e s → K' e s) : CodeB P b c st K' := by
  refine ⟨fun r B Δ s0 ρ0 w0 ρ a w hn he hs hf => wpIn_mono (h.run r B Δ s0 ρ0 w0 ρ a w hn he hs hf) ?_⟩
  rintro e a' w' ⟨x, st', ρ', Δ', h1, h2, h3⟩
  exact ⟨x, st', ρ', Δ', h1, hk _ _ h2, h3⟩
/-- What is left of a state behind. -/
theorem CodeB.selX (l live : List Nat) (hl : nodupN l = true) (h : CodeB P b c st fun e st' => match e with | .panic _ => False | e => K e (selSt b l live st')) : CodeB P b c st K := by
  refine ⟨fun r B Δ s0 ρ0 w0 ρ a w hn he hs hf => wpIn_mono (h.run r B Δ s0 ρ0 w0 ρ a w hn he hs hf) ?_⟩
  rintro e a' w' ⟨x, st', ρ', Δ', h1, h2, h3, h4, h5⟩
  have hw := selSt_weak (n := b) (live := live) hl st'
  refine ⟨x, selSt b l live st', _, Δ', ?_, ?_, hw.sim h3, hw.ext hn h4, hw.fo h5⟩
  · cases x <;> cases e <;> simp only [Ex.rel] at h1 ⊢ <;> first | exact h1.elim | exact h1 | exact h2.elim
  · cases x <;> first | exact h2 | exact h2.elim
theorem CodeB.seq (hc : Nat.beq (kd c) 1 = true) (h : CodeB P b (lft c) st fun e st' => match e with | .normal => CodeB P b (rgt c) st' K | e => K e st') : CodeB P b c st K := by
  cases c <;> simp [kd] at hc
  refine ⟨fun r B Δ s0 ρ0 w0 ρ a w hn he hs hf => wpIn_seq (wpIn_mono (h.run r B Δ s0 ρ0 w0 ρ a w hn he hs hf) ?_)⟩
  rintro e a' w' ⟨x', st', ρ', Δ', h1, h2, h3, h4, h5⟩
  cases x' <;> cases e <;> simp only [Ex.rel] at h1 <;> try exact h1.elim
  · exact CodeB.run h2 r B Δ' s0 ρ0 w0 ρ' a' w' hn h4 h3 h5
  all_goals exact ⟨_, st', ρ', Δ', by exact h1, h2, h3, h4, h5⟩
theorem CodeB.blk (hc : Nat.beq (kd c) 2 = true) (h : CodeB P b (lft c) st fun e st' => match e with | .exit i => (match Nat.beq i (bid c) with | true => K .normal st' | false => K (.exit i) st') | e => K e st') : CodeB P b c st K := by
  cases c <;> simp [kd] at hc
  refine ⟨fun r B Δ s0 ρ0 w0 ρ a w hn he hs hf => wpIn_block (wpIn_mono (h.run r B Δ s0 ρ0 w0 ρ a w hn he hs hf) ?_)⟩
  rintro e a' w' ⟨x', st', ρ', Δ', h1, h2, h3, h4, h5⟩
  cases x' <;> cases e <;> simp only [Ex.rel] at h1 <;> try exact h1.elim
  · exact ⟨.normal, st', ρ', Δ', trivial, h2, h3, h4, h5⟩
  · rename_i i j
    subst h1
    simp only [bid] at h2
    split at h2
    · rename_i hb
      have := Nat.eq_of_beq_eq_true hb
      subst this
      simp only [Exit.inBlock, if_true]
      exact ⟨.normal, st', ρ', Δ', trivial, h2, h3, h4, h5⟩
    · rename_i hb
      simp only [Exit.inBlock]
      rw [if_neg (fun e => by subst e; simp at hb)]
      exact ⟨.exit i, st', ρ', Δ', rfl, h2, h3, h4, h5⟩
  · exact ⟨_, st', ρ', Δ', by exact h1, h2, h3, h4, h5⟩
  · exact ⟨_, st', ρ', Δ', by exact h1, h2, h3, h4, h5⟩
  · exact ⟨_, st', ρ', Δ', by exact h1, h2, h3, h4, h5⟩
theorem LoopB.code (h : LoopB P b c st K) : CodeB P b (.loop c) st K := by
  refine ⟨fun r B Δ s0 ρ0 w0 ρ a w hn he hs hf fb k cs hro _ _ => ?_⟩
  obtain ⟨e, a', w', hq, harr⟩ := h.run r B Δ s0 ρ0 w0 ρ a w hn he hs hf fb k cs hro
  exact ⟨e, a', w', hq, .of_steps (.one (fr_fenced _ _ _) stepR_loop) harr⟩
theorem CodeB.lop (hc : Nat.beq (kd c) 3 = true) (h : LoopB P b (lft c) st K) : CodeB P b c st K := by
  cases c <;> simp [kd] at hc
  exact LoopB.code h
/-- A loop by rounds; between them a state is told by what it has. -/
theorem LoopB.by (l0 live0 l live : List Nat) (h0 : nodupN l0 = true) (hl : nodupN l = true) (I : St → Prop) (μ : St → Nat)
    (round : ∀ st, I st → CodeB P b c st fun e st' => match e with | .normal => I (selSt b l live st') ∧ μ (selSt b l live st') < μ st | e => K e st') (st0 : St) (hi : I (selSt b l0 live0 st0)) : LoopB P b c st0 K := by
  have key : ∀ m st, μ st = m → I st → LoopB P b c st K := by
    intro m
    induction m using Nat.strongRecOn with
    | _ m ih =>
      intro st hm hi
      refine ⟨fun r B Δ s0 ρ0 w0 ρ a w hn he hs hf fb k cs hro => ?_⟩
      obtain ⟨e, a₁, w₁, ⟨x, st', ρ', Δ', h1, h2, h3, h4, h5⟩, harr⟩ := (round st hi).run r B Δ s0 ρ0 w0 ρ a w hn he hs hf fb (.inLoop c :: k) cs hro trivial (fr_room _ _)
      cases x <;> cases e <;> simp only [Ex.rel] at h1 <;> try exact h1.elim
      · have hw := selSt_weak (n := b) (live := live) hl st'
        obtain ⟨e₂, a₂, w₂, hq₂, harr₂⟩ := (ih _ (by have := h2.2; omega) (selSt b l live st') rfl h2.1).run r B Δ' s0 ρ0 w0 _ a₁ w₁ hn (hw.ext hn h4) (hw.sim h3) (hw.fo h5) fb k cs hro
        exact ⟨e₂, a₂, w₂, hq₂, .of_steps (StepsIn.trans harr (.one (fr_fenced _ _ _) stepR_inLoop)) harr₂⟩
      · exact ⟨.exit _, a₁, w₁, ⟨.exit _, st', ρ', Δ', h1, h2, h3, h4, h5⟩, .pass (x := .inLoop c) rfl (fun _ _ => .inl (by simp)) harr⟩
      · exact ⟨.goto _, a₁, w₁, ⟨.goto _, st', ρ', Δ', h1, h2, h3, h4, h5⟩, .pass (x := .inLoop c) rfl (fun _ _ => .inl (by simp)) harr⟩
      · exact ⟨.ret, a₁, w₁, ⟨.ret, st', ρ', Δ', trivial, h2, h3, h4, h5⟩, .pass (x := .inLoop c) rfl (fun _ _ => .inl (by simp)) harr⟩
      · exact ⟨.panic _, a₁, w₁, ⟨.panic _, st', ρ', Δ', h1, h2, h3, h4, h5⟩, .pass (x := .inLoop c) rfl (fun _ _ => .inl (by simp)) harr⟩
  have h := key _ (selSt b l0 live0 st0) rfl hi
  have hw := selSt_weak (n := b) (live := live0) h0 st0
  exact ⟨fun r B Δ s0 ρ0 w0 ρ a w hn he hs hf fb k cs hro => h.run r B Δ s0 ρ0 w0 _ a w hn (hw.ext hn he) (hw.sim hs) (hw.fo hf) fb k cs hro⟩
theorem LoopB.selX (l live : List Nat) (hl : nodupN l = true) (h : LoopB P b c st fun e st' => match e with | .panic _ => False | e => K e (selSt b l live st')) : LoopB P b c st K := by
  refine ⟨fun r B Δ s0 ρ0 w0 ρ a w hn he hs hf fb k cs hro => ?_⟩
  obtain ⟨e, a', w', ⟨x, st', ρ', Δ', h1, h2, h3, h4, h5⟩, harr⟩ := h.run r B Δ s0 ρ0 w0 ρ a w hn he hs hf fb k cs hro
  have hw := selSt_weak (n := b) (live := live) hl st'
  refine ⟨e, a', w', ⟨x, selSt b l live st', _, Δ', ?_, ?_, hw.sim h3, hw.ext hn h4, hw.fo h5⟩, harr⟩
  · cases x <;> cases e <;> simp only [Ex.rel] at h1 ⊢ <;> first | exact h1.elim | exact h1 | exact h2.elim
  · cases x <;> first | exact h2 | exact h2.elim
/-- A loop by rounds; behind each, and behind the last one, a state is told by what it has. -/
theorem LoopB.byX (l0 live0 l live : List Nat) (h0 : nodupN l0 = true) (hl : nodupN l = true) (I : St → Prop) (μ : St → Nat)
    (round : ∀ st, I st → CodeB P b c st fun e st' => match e with | .normal => I (selSt b l live st') ∧ μ (selSt b l live st') < μ st | .panic _ => False | e => K e (selSt b l live st')) (st0 : St) (hi : I (selSt b l0 live0 st0)) : LoopB P b c st0 K :=
  LoopB.selX l live hl (LoopB.by l0 live0 l live h0 hl I μ (fun st hs => (round st hs).mono fun e s he => by cases e <;> exact he) st0 hi)
end
/-- What a state tells, another one tells, of the same memory, from base b on. -/
def Tells (b : Nat) (st st' : St) : Prop := ∀ (r : Option Nat) (B : Nat) (Δ : List Deferred) (s0 : Sto) (ρ0 : Rho) (w0 : World) (ρ : Rho) (a : Act) (w : World), s0.length = b → Ext s0 ρ0 w0 st.s ρ w → Sim Δ ρ st a w → Fo r B Δ ρ st.s w → ∃ ρ', Ext s0 ρ0 w0 st'.s ρ' w ∧ Sim Δ ρ' st' a w ∧ Fo r B Δ ρ' st'.s w
theorem Tells.refl (b : Nat) (st : St) : Tells b st st := fun r B Δ s0 ρ0 w0 ρ a w _ he hs hf => ⟨ρ, he, hs, hf⟩
theorem Tells.trans {b : Nat} {st st' st'' : St} (h : Tells b st st') (k : Tells b st' st'') : Tells b st st'' := fun r B Δ s0 ρ0 w0 ρ a w hb he hs hf =>
  let ⟨ρ', h1, h2, h3⟩ := h r B Δ s0 ρ0 w0 ρ a w hb he hs hf
  k r B Δ s0 ρ0 w0 ρ' a w hb h1 h2 h3
theorem Weak.tells {b : Nat} {st st' : St} {π : Nat → Nat} (hw : Weak b st st' π) : Tells b st st' := fun r B Δ s0 ρ0 w0 ρ a w hb he hs hf => ⟨_, hw.ext hb he, hw.sim hs, hw.fo hf⟩
theorem gc_tells (b : Nat) (live : List Nat) (st : St) : Tells b st (gcSt b live st) := let ⟨_, hw⟩ := gcSt_weak b live st; hw.tells
theorem Tells.conv {b : Nat} {st st' : St} (hn : st'.n = st.n) (hl : st'.s.length = st.s.length) (ho : st'.s.map Ent.isOwn = st.s.map Ent.isOwn)
    (ht : ∀ ρ w, Rep ρ st.s w → ∀ t v', find st'.t t = some v' → ∃ v, find st.t t = some v ∧ v'.abs ρ = v.abs ρ ∧ (v.bd st.s.length → v'.bd st.s.length)) (hr : ∀ ρ w, Rep ρ st.s w → sbd st.s → Rep ρ st'.s w ∧ sbd st'.s) : Tells b st st' := by
  intro r B Δ s0 ρ0 w0 ρ a w hb he hs hf
  refine ⟨ρ, he.conv rfl ho, ⟨hs.defers, by rw [hn]; exact hs.size, fun t v hv => ?_, fun t v hv => ?_, (hr ρ w hs.rep hs.sb).1, (hr ρ w hs.rep hs.sb).2⟩, ⟨hf.le, ?_, fun l hl => ?_⟩⟩
  · obtain ⟨v0, h1, h2, _⟩ := ht ρ w hs.rep t v hv
    rw [h2]; exact hs.tmps t v0 h1
  · obtain ⟨v0, h1, _, h3⟩ := ht ρ w hs.rep t v hv
    rw [hl]; exact h3 (hs.bd t v0 h1)
  · obtain ⟨ms, h1, h2, h3⟩ := hf.marks
    refine ⟨ms, h1, h2, fun m hm => ⟨(h3 m hm).1, (h3 m hm).2.1, fun i e hi hio => ?_⟩⟩
    obtain ⟨f, hfi, hfo⟩ := own_tr ho hi
    exact (h3 m hm).2.2 i f hfi (by rw [hfo]; exact hio)
  · obtain ⟨rc, h1, h2⟩ := hf.round l hl
    refine ⟨rc, h1, fun i e hi hio => ?_⟩
    obtain ⟨f, hfi, hfo⟩ := own_tr ho hi
    exact h2 i f hfi (by rw [hfo]; exact hio)
section
variable {P : Program} {b : Nat} {c : Code} {st st' : St} {K K' : Ex → St → Prop}
/-- A loop by rounds. -/
theorem LoopB.byT (I : St → Prop) (μ : St → Nat)
    (round : ∀ st, I st → CodeB P b c st fun e st' => match e with | .normal => ∃ st'', Tells b st' st'' ∧ I st'' ∧ μ st'' < μ st | .panic _ => False | e => ∃ st'', Tells b st' st'' ∧ K e st'') (st0 : St) (hi : ∃ st, Tells b st0 st ∧ I st) : LoopB P b c st0 K := by
  have key : ∀ m st, μ st = m → I st → LoopB P b c st K := by
    intro m
    induction m using Nat.strongRecOn with
    | _ m ih =>
      intro st hm hi
      refine ⟨fun r B Δ s0 ρ0 w0 ρ a w hn he hs hfo fb k cs hro => ?_⟩
      obtain ⟨e, a₁, w₁, ⟨x, st', ρ', Δ', h1, h2, h3, h4, h5⟩, harr⟩ := (round st hi).run r B Δ s0 ρ0 w0 ρ a w hn he hs hfo fb (.inLoop c :: k) cs hro trivial (fr_room _ _)
      have out : ∀ y : Ex, (∃ st'', Tells b st' st'' ∧ K y st'') → (∀ v, y ≠ .panic v) → y.rel ρ' st'.s.length e → liftB r B s0 ρ0 w0 K e a₁ w₁ := by
        rintro y ⟨st'', g1, g2⟩ hy hrel
        obtain ⟨ρ'', k1, k2, k3⟩ := g1 r B Δ' s0 ρ0 w0 ρ' a₁ w₁ hn h4 h3 h5
        refine ⟨y, st'', ρ'', Δ', ?_, g2, k2, k1, k3⟩
        cases y <;> cases e <;> simp only [Ex.rel] at hrel ⊢ <;> first | exact hrel.elim | exact hrel | exact absurd rfl (hy _)
      cases x <;> cases e <;> simp only [Ex.rel] at h1 <;> try exact h1.elim
      · obtain ⟨st'', g1, g2, g3⟩ := h2
        obtain ⟨ρ'', k1, k2, k3⟩ := g1 r B Δ' s0 ρ0 w0 ρ' a₁ w₁ hn h4 h3 h5
        obtain ⟨e₂, a₂, w₂, hq₂, harr₂⟩ := (ih _ (by omega) st'' rfl g2).run r B Δ' s0 ρ0 w0 ρ'' a₁ w₁ hn k1 k2 k3 fb k cs hro
        exact ⟨e₂, a₂, w₂, hq₂, .of_steps (StepsIn.trans harr (.one (fr_fenced _ _ _) stepR_inLoop)) harr₂⟩
      · exact ⟨.exit _, a₁, w₁, out (.exit _) h2 (fun v h => by cases h) h1, .pass (x := .inLoop c) rfl (fun _ _ => .inl (by simp)) harr⟩
      · exact ⟨.goto _, a₁, w₁, out (.goto _) h2 (fun v h => by cases h) h1, .pass (x := .inLoop c) rfl (fun _ _ => .inl (by simp)) harr⟩
      · exact ⟨.ret, a₁, w₁, out .ret h2 (fun v h => by cases h) trivial, .pass (x := .inLoop c) rfl (fun _ _ => .inl (by simp)) harr⟩
      · exact h2.elim
  obtain ⟨st, g1, g2⟩ := hi
  have h := key _ st rfl g2
  exact ⟨fun r B Δ s0 ρ0 w0 ρ a w hn he hs hfo fb k cs hro => let ⟨ρ', h1, h2, h3⟩ := g1 r B Δ s0 ρ0 w0 ρ a w hn he hs hfo; h.run r B Δ s0 ρ0 w0 ρ' a w hn h1 h2 h3 fb k cs hro⟩
end
/-- A list of literal cells, told by columns. -/
def toLse (i z : Nat) : V → V
  | .lst j k o e n => match Nat.beq j i with
    | true => match o, e with
      | 0, 0 => .lse j k z 0 n
      | _, _ => .lst j k o e n
    | false => .lst j k o e n
  | v => v
theorem toLse_abs (ρ : Rho) (i z : Nat) (v : V) : (toLse i z v).abs ρ = v.abs ρ := by
  unfold toLse
  split
  · split
    · split
      · simp [V.abs]
      · rfl
    · rfl
  · rfl
theorem toLse_bd {n i z : Nat} {v : V} (h : v.bd n) : (toLse i z v).bd n := by
  unfold toLse
  split
  · split
    · split
      · exact h
      · exact h
    · exact h
  · exact h
def toLseL (i z : Nat) : List V → List V
  | [] => []
  | v :: vs => toLse i z v :: toLseL i z vs
def toLseE (i z : Nat) : List (Nat × V) → List (Nat × V)
  | [] => []
  | p :: ps => (p.1, toLse i z p.2) :: toLseE i z ps
def toLseS (i z : Nat) : Sto → Sto
  | [] => []
  | e :: s => (match e with
    | .own cs t => .own (toLseL i z cs) t
    | e => e) :: toLseS i z s
theorem toLseL_abs (ρ : Rho) (i z : Nat) : ∀ (l : List V), absL ρ (toLseL i z l) = absL ρ l
  | [] => rfl
  | v :: l => by simp only [toLseL, absL, toLse_abs, toLseL_abs ρ i z l]
theorem toLseL_bd {n i z : Nat} : ∀ {l : List V}, bdL n l → bdL n (toLseL i z l)
  | [], _ => trivial
  | v :: l, h => ⟨toLse_bd h.1, toLseL_bd h.2⟩
theorem toLseE_find {i z : Nat} : ∀ {e : List (Nat × V)} {t : Nat} {v : V}, find (toLseE i z e) t = some v → ∃ v0, find e t = some v0 ∧ v = toLse i z v0
  | [], t, v, h => by cases h
  | p :: e, t, v, h => by
    simp only [toLseE, find] at h ⊢
    split at h
    · rename_i hb; cases h; exact ⟨p.2, rfl, rfl⟩
    · exact toLseE_find h
theorem toLseS_at {i z : Nat} : ∀ {s : Sto} {j : Nat}, (toLseS i z s)[j]? = (s[j]?).map fun e => match e with
    | .own cs t => .own (toLseL i z cs) t
    | e => e
  | [], j => by simp [toLseS]
  | e :: s, j => by
    cases j with
    | zero => simp [toLseS]
    | succ j => simpa [toLseS] using toLseS_at (s := s) (j := j)
theorem toLseS_own (i z : Nat) : ∀ (s : Sto), (toLseS i z s).map Ent.isOwn = s.map Ent.isOwn
  | [] => rfl
  | e :: s => by simp only [toLseS, List.map_cons, toLseS_own i z s]; cases e <;> rfl
/-- The list that is block i's, of n elements of z cells, told by the columns cols; and wherever it is named. -/
theorem toArr_tells {b : Nat} {st : St} {i k z n : Nat} {cs : List V} {t : TypeId} {cols zs : List Col} (hi : st.s[i]? = some (.lst cs t k z)) (hc : litColsG z n cs zs 0 = some cols) (hz : zs.length = z) (hl : cs.length = n * z) (ho : cs.all V.one = true) :
    Tells b st ⟨st.n, toLseE i z st.t, toLseS i z (st.s.set i (.arr (.grow k) cols n t))⟩ := by
  have hown : (st.s.set i (.arr (.grow k) cols n t)).map Ent.isOwn = st.s.map Ent.isOwn := map_set_own hi rfl
  refine Tells.conv rfl (by simpa using congrArg List.length ((toLseS_own i z _).trans hown)) ((toLseS_own i z _).trans hown) (fun ρ w _ t v' hv => ?_) (fun ρ w hr hs => ?_)
  · obtain ⟨v0, h1, rfl⟩ := toLseE_find hv
    exact ⟨v0, h1, toLse_abs ρ i z v0, toLse_bd⟩
  · obtain ⟨g1, g2⟩ := litCols_holds (ρ := ρ) hc hz hl
    have hent := hr.ent i _ hi
    have hbd := hs i _ hi
    have r1 := hr.swap (e' := .arr (.grow k) cols n t) hi rfl rfl (repE_arr.2 ⟨absL ρ cs, by rw [absL_length, g1]; exact hl, one_cells ho, g2, by
      rw [g1]
      obtain ⟨rest, q1, q2, q3⟩ := hent
      exact ⟨rest, by rw [absL_raws]; exact q1, q2, by rw [List.length_map, absL_length]; exact q3⟩⟩)
    have hlen : (st.s.set i (.arr (.grow k) cols n t)).length = st.s.length := by simp
    have hlen2 : (toLseS i z (st.s.set i (.arr (.grow k) cols n t))).length = st.s.length := by simpa using congrArg List.length ((toLseS_own i z _).trans hown)
    have s1 : sbd (st.s.set i (.arr (.grow k) cols n t)) := by
      intro j e hj
      rw [hlen]
      by_cases hji : j = i
      · subst hji
        rw [List.getElem?_set_self (List.getElem?_eq_some_iff.1 hi).1] at hj
        cases hj
        exact hbd.2
      · rw [List.getElem?_set_ne (by omega)] at hj
        exact hs j e hj
    refine ⟨⟨fun j e hj => ?_, fun j q e f hj hq heo hfl hjq => ?_⟩, fun j e hj => ?_⟩
    · rw [toLseS_at] at hj
      obtain ⟨e0, he0, rfl⟩ := Option.map_eq_some_iff.1 hj
      have := r1.ent j e0 he0
      cases e0 with
      | own cs t => exact ⟨by rw [toLseL_abs]; exact this.1, this.2⟩
      | _ => exact this
    · rw [toLseS_at] at hj hq
      obtain ⟨e0, he0, rfl⟩ := Option.map_eq_some_iff.1 hj
      obtain ⟨f0, hf0, rfl⟩ := Option.map_eq_some_iff.1 hq
      exact r1.sep j q e0 f0 he0 hf0 (by cases e0 <;> exact heo) (by cases f0 <;> exact hfl) hjq
    · rw [hlen2]
      rw [toLseS_at] at hj
      obtain ⟨e0, he0, rfl⟩ := Option.map_eq_some_iff.1 hj
      have := s1 j e0 he0
      rw [hlen] at this
      cases e0 with
      | own cs t => exact toLseL_bd this
      | _ => exact this
/-- A way into code: 0: behind the first of two; 1: into the first of two; 2: into a block. -/
def subAt : List Nat → Code → Code
  | [], c => c
  | d :: ds, c => match d with
    | 0 => subAt ds (rgt c)
    | _ => subAt ds (lft c)
/-- What stands behind a place. -/
def ctxK (P : Program) (b : Nat) : List Nat → Code → (Ex → St → Prop) → Ex → St → Prop
  | [], _, K => K
  | d :: ds, c, K => match d with
    | 0 => ctxK P b ds (rgt c) K
    | 1 => ctxK P b ds (lft c) fun e st' => match e with
      | .normal => CodeB P b (rgt c) st' K
      | e => K e st'
    | _ => ctxK P b ds (lft c) fun e st' => match e with
      | .exit i => (match Nat.beq i (bid c) with
        | true => K .normal st'
        | false => K (.exit i) st')
      | e => K e st'
/-- Code computed up to a place, where Z is asked. -/
def evTo (P : Program) (D : Dh) (n b : Nat) (Z : St → Prop) : List Nat → Code → St → (Ex → St → Prop) → Prop
  | [], _, st, _ => Z st
  | d :: ds, c, st, K => match d with
    | 0 => match Nat.beq (kd c) 1 with
      | true => evG P D n (lft c) st fun e st' => match e with
        | .normal => evTo P D n b Z ds (rgt c) st' K
        | e => K e st'
      | false => False
    | 1 => match Nat.beq (kd c) 1 with
      | true => evTo P D n b Z ds (lft c) st fun e st' => match e with
        | .normal => CodeB P b (rgt c) st' K
        | e => K e st'
      | false => False
    | _ => match Nat.beq (kd c) 2 with
      | true => evTo P D n b Z ds (lft c) st fun e st' => match e with
        | .exit i => (match Nat.beq i (bid c) with
          | true => K .normal st'
          | false => K (.exit i) st')
        | e => K e st'
      | false => False
theorem evTo_ok {P : Program} {D : Dh} (hD : DOk P D) (hn : namesOk P = true) (hm : P.follows .mixedOrders = true) {n b : Nat} {Z : St → Prop} : ∀ (ds : List Nat) (c : Code) (st : St) (K : Ex → St → Prop), (∀ st, Z st → CodeB P b (subAt ds c) st (ctxK P b ds c K)) → evTo P D n b Z ds c st K → CodeB P b c st K := by
  intro ds
  induction ds with
  | nil => intro c st K hz h; exact hz st h
  | cons d ds ih =>
    intro c st K hz h
    match d, hz, h with
    | 0, hz, h =>
      simp only [evTo] at h
      split at h
      · rename_i hk
        refine CodeB.seq hk ((CodeB.of (evG_ok hD hn hm h)).mono fun e s he => ?_)
        cases e
        · exact ih (rgt c) s K hz he
        all_goals exact he
      · exact h.elim
    | 1, hz, h =>
      simp only [evTo] at h
      split at h
      · rename_i hk
        exact CodeB.seq hk (ih (lft c) st _ hz h)
      · exact h.elim
    | d + 2, hz, h =>
      simp only [evTo] at h
      split at h
      · rename_i hk
        exact CodeB.blk hk (ih (lft c) st _ hz h)
      · exact h.elim
/-- The first region of code, by number, more by one. -/
def firstR : Code → Nat
  | .region id _ _ => id + 1
  | .seq a b => match firstR a with
    | 0 => firstR b
    | n => n
  | .block _ c | .loop c | .scope c => firstR c
  | .cond _ a b => match firstR a with
    | 0 => firstR b
    | n => n
  | _ => 0
/-- Is the loop there that begins at region r? -/
def hasR (r : Nat) : Code → Bool
  | .seq a b => hasR r a || hasR r b
  | .block _ c => hasR r c
  | .loop c => Nat.beq (firstR c) (r + 1)
  | _ => false
/-- The way to the loop that begins at region r. -/
def pathTo (r : Nat) : Code → List Nat
  | .seq a b => match hasR r a with
    | true => 1 :: pathTo r a
    | false => 0 :: pathTo r b
  | .block _ c => 2 :: pathTo r c
  | _ => []
/-- A function entered. -/
theorem CallOk.fnB {P : Program} (hn : namesOk P = true) {f : FuncId} {args : List V} {s : Sto} {K : Res → Sto → Prop} (hf : funOk P f args.length = true) (h : CodeB P s.length (codeOf P f) ⟨(funcOf P f).ntmps, zipArgs 0 args, s⟩ (bodyK False P (funcOf P f) K)) : CallOk P f args s K :=
  CallOk.fn hn hf (CodeB.ok h)
end Go.Proofs.YtfgbaolilodjoaaRL
