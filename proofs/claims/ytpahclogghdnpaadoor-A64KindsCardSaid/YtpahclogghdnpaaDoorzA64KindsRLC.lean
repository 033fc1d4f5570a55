/- RL: code from a base on: of what came ahead the first b blocks alone are kept; the way to a place in a function's code, computed. -/
import Derived.Test.YtpahclogghdnpaaDoorzA64KindsRLW
namespace Go.Proofs.YtpahclogghdnpaaDoorRL
open Go
set_option linter.unusedVariables false
set_option linter.unusedSimpArgs false
def liftB (r : Option Nat) (B : Nat) (s0 : Sto) (ρ0 : Rho) (w0 : World) (K : Ex → St → Prop) : Exit → Act → World → Prop :=
  fun e a' w' => ∃ x st' ρ' Δ', x.rel ρ' st'.s.length e ∧ K x st' ∧ Sim Δ' ρ' st' a' w' ∧ Ext s0 ρ0 w0 st'.s ρ' w' ∧ Fo r B Δ' ρ' st'.s w'
structure CodeB (P : Program) (b : Nat) (c : Code) (st : St) (K : Ex → St → Prop) : Prop where
  run : ∀ (r : Option Nat) (B : Nat) (Δ : List Deferred) (s0 : Sto) (ρ0 : Rho) (w0 : World) (ρ : Rho) (a : Act) (w : World), s0.length = b → Ext s0 ρ0 w0 st.s ρ w → Sim Δ ρ st a w → Fo r B Δ ρ st.s w → c.wpIn (Fr r) 0 P (liftB r B s0 ρ0 w0 K) a w
theorem own_tr {a b : Sto} (h : a.map Ent.isOwn = b.map Ent.isOwn) {i : Nat} {e : Ent} (he : a[i]? = some e) : ∃ f, b[i]? = some f ∧ f.isOwn = e.isOwn := by
  have := congrArg (fun l => l[i]?) h
  simp only [List.getElem?_map, he, Option.map_some] at this
  obtain ⟨f, hf, hfo⟩ := Option.map_eq_some_iff.1 this.symm
  exact ⟨f, hf, hfo⟩
structure LoopB (P : Program) (b : Nat) (c : Code) (st : St) (K : Ex → St → Prop) : Prop where
  run : ∀ (r : Option Nat) (B : Nat) (Δ : List Deferred) (s0 : Sto) (ρ0 : Rho) (w0 : World) (ρ : Rho) (a : Act) (w : World), s0.length = b → Ext s0 ρ0 w0 st.s ρ w → Sim Δ ρ st a w → Fo r B Δ ρ st.s w → ∀ (fb : Frame) (k : List Item) (cs : List Frame), fb.roundOf = r →
    ∃ e a' w', liftB r B s0 ρ0 w0 K e a' w' ∧ ArrivesIn (Machine.fenced P (Fr r)) P (lone (fb.atR a (.code c :: .inLoop c :: k)) cs w) fb k cs e a' w'
section
variable {P : Program} {b : Nat} {c : Code} {st : St} {K K' : Ex → St → Prop}
theorem CodeB.of (h : CodeOk P c st K) : CodeB P b c st K := by
  refine ⟨fun r B Δ s0 ρ0 w0 ρ a w hn he hs hf => wpIn_mono (h.run r B Δ ρ a w hs hf) ?_⟩
  rintro e a' w' ⟨x, st', ρ', Δ', h1, h2, h3, h4, h5⟩
  exact ⟨x, st', ρ', Δ', h1, h2, h3, he.trans h4, h5⟩
theorem CodeB.ok (h : CodeB P st.s.length c st K) : CodeOk P c st K := ⟨fun r B Δ ρ a w hs hf => h.run r B Δ st.s ρ w ρ a w rfl (Ext.refl _ _ _) hs hf⟩
theorem CodeB.mono (h : CodeB P b c st K) (hk : ∀ e s, K e s → K' e s) : CodeB P b c st K' := by
  refine ⟨fun r B Δ s0 ρ0 w0 ρ a w hn he hs hf => wpIn_mono (h.run r B Δ s0 ρ0 w0 ρ a w hn he hs hf) ?_⟩
  rintro e a' w' ⟨x, st', ρ', Δ', h1, h2, h3⟩
  exact ⟨x, st', ρ', Δ', h1, hk _ _ h2, h3⟩
theorem CodeB.seq (hc : Nat.beq (kd c) 1 = true) (h : CodeB P b (lft c) st fun e st' => match e with | .normal => CodeB P b (rgt c) st' K | e => K e st') : CodeB P b c st K := by
  cases c <;> simp [kd] at hc
  refine ⟨fun r B Δ s0 ρ0 w0 ρ a w hn he hs hf => wpIn_seq (wpIn_mono (h.run r B Δ s0 ρ0 w0 ρ a w hn he hs hf) ?_)⟩
  rintro e a' w' ⟨x', st', ρ', Δ', h1, h2, h3, h4, h5⟩
  cases x' <;> cases e <;> simp only [Ex.rel] at h1 <;> try exact h1.elim
  · exact CodeB.run h2 r B Δ' s0 ρ0 w0 ρ' a' w' hn h4 h3 h5
  all_goals exact ⟨_, st', ρ', Δ', by exact h1, h2, h3, h4, h5⟩
theorem CodeB.blk (hc : Nat.beq (kd c) 2 = true) (h : CodeB P b (lft c) st fun e st' => match e with | .exit i => (match Nat.beq i (bid c) with | true => K .normal st' | false => K (.exit i) st') | e => K e st') : CodeB P b c st K := by
  cases c <;> simp [kd] at hc
  refine ⟨fun r B Δ s0 ρ0 w0 ρ a w hn he hs hf => wpIn_block (wpIn_mono (h.run r B Δ s0 ρ0 w0 ρ a w hn he hs hf) ?_)⟩
  rintro e a' w' ⟨x', st', ρ', Δ', h1, h2, h3, h4, h5⟩
  cases x' <;> cases e <;> simp only [Ex.rel] at h1 <;> try exact h1.elim
  · exact ⟨.normal, st', ρ', Δ', trivial, h2, h3, h4, h5⟩
  · rename_i i j
    subst h1
    simp only [bid] at h2
    split at h2
    · rename_i hb
      have := Nat.eq_of_beq_eq_true hb
      subst this
      simp only [Exit.inBlock, if_true]
      exact ⟨.normal, st', ρ', Δ', trivial, h2, h3, h4, h5⟩
    · rename_i hb
      simp only [Exit.inBlock]
      rw [if_neg (fun e => by subst e; simp at hb)]
      exact ⟨.exit i, st', ρ', Δ', rfl, h2, h3, h4, h5⟩
  · exact ⟨_, st', ρ', Δ', by exact h1, h2, h3, h4, h5⟩
  · exact ⟨_, st', ρ', Δ', by exact h1, h2, h3, h4, h5⟩
  · exact ⟨_, st', ρ', Δ', by exact h1, h2, h3, h4, h5⟩
theorem LoopB.code (h : LoopB P b c st K) : CodeB P b (.loop c) st K := by
  refine ⟨fun r B Δ s0 ρ0 w0 ρ a w hn he hs hf fb k cs hro _ _ => ?_⟩
  obtain ⟨e, a', w', hq, harr⟩ := h.run r B Δ s0 ρ0 w0 ρ a w hn he hs hf fb k cs hro
  exact ⟨e, a', w', hq, .of_steps (.one (fr_fenced _ _ _) stepR_loop) harr⟩
theorem CodeB.scp (hc : Nat.beq (kd c) 4 = true) (h : CodeB P b (lft c) st fun e st' => match e with | .goto _ => False | e => K e st') : CodeB P b c st K := by
  cases c <;> simp [kd] at hc
  refine ⟨fun r B Δ s0 ρ0 w0 ρ a w hn he hs hf => wpIn_scope (wpIn_mono (h.run r B Δ s0 ρ0 w0 ρ a w hn he hs hf) ?_)⟩
  rintro e a' w' ⟨x', st', ρ', Δ', h1, h2, h3, h4, h5⟩
  cases x' <;> cases e <;> simp only [Ex.rel] at h1 <;> try exact h1.elim
  all_goals first | exact h2.elim | exact ⟨_, st', ρ', Δ', by exact h1, h2, h3, h4, h5⟩
/-- A loop by rounds; between them a state is told by what it has. -/
theorem LoopB.by (l0 live0 l live : List Nat) (h0 : nodupN l0 = true) (hl : nodupN l = true) (I : St → Prop) (μ : St → Nat)
    (round : ∀ st, I st → CodeB P b c st fun e st' => match e with | .normal => I (selSt b l live st') ∧ μ (selSt b l live st') < μ st | e => K e st') (st0 : St) (hi : I (selSt b l0 live0 st0)) : LoopB P b c st0 K := by
  have key : ∀ m st, μ st = m → I st → LoopB P b c st K := by
    intro m
    induction m using Nat.strongRecOn with
    | _ m ih =>
      intro st hm hi
      refine ⟨fun r B Δ s0 ρ0 w0 ρ a w hn he hs hf fb k cs hro => ?_⟩
      obtain ⟨e, a₁, w₁, ⟨x, st', ρ', Δ', h1, h2, h3, h4, h5⟩, harr⟩ := (round st hi).run r B Δ s0 ρ0 w0 ρ a w hn he hs hf fb (.inLoop c :: k) cs hro trivial (fr_room _ _)
      cases x <;> cases e <;> simp only [Ex.rel] at h1 <;> try exact h1.elim
      · have hw := selSt_weak (n := b) (live := live) hl st'
        obtain ⟨e₂, a₂, w₂, hq₂, harr₂⟩ := (ih _ (by have := h2.2; omega) (selSt b l live st') rfl h2.1).run r B Δ' s0 ρ0 w0 _ a₁ w₁ hn (hw.ext hn h4) (hw.sim h3) (hw.fo h5) fb k cs hro
        exact ⟨e₂, a₂, w₂, hq₂, .of_steps (StepsIn.trans harr (.one (fr_fenced _ _ _) stepR_inLoop)) harr₂⟩
      · exact ⟨.exit _, a₁, w₁, ⟨.exit _, st', ρ', Δ', h1, h2, h3, h4, h5⟩, .pass (x := .inLoop c) rfl (fun _ _ => .inl (by simp)) harr⟩
      · exact ⟨.goto _, a₁, w₁, ⟨.goto _, st', ρ', Δ', h1, h2, h3, h4, h5⟩, .pass (x := .inLoop c) rfl (fun _ _ => .inl (by simp)) harr⟩
      · exact ⟨.ret, a₁, w₁, ⟨.ret, st', ρ', Δ', trivial, h2, h3, h4, h5⟩, .pass (x := .inLoop c) rfl (fun _ _ => .inl (by simp)) harr⟩
      · exact ⟨.panic _, a₁, w₁, ⟨.panic _, st', ρ', Δ', h1, h2, h3, h4, h5⟩, .pass (x := .inLoop c) rfl (fun _ _ => .inl (by simp)) harr⟩
  have h := key _ (selSt b l0 live0 st0) rfl hi
  have hw := selSt_weak (n := b) (live := live0) h0 st0
  exact ⟨fun r B Δ s0 ρ0 w0 ρ a w hn he hs hf fb k cs hro => h.run r B Δ s0 ρ0 w0 _ a w hn (hw.ext hn he) (hw.sim hs) (hw.fo hf) fb k cs hro⟩
end
/-- What a state tells, another one tells, of the same memory, from base b on. -/
def Tells (b : Nat) (st st' : St) : Prop := ∀ (r : Option Nat) (B : Nat) (Δ : List Deferred) (s0 : Sto) (ρ0 : Rho) (w0 : World) (ρ : Rho) (a : Act) (w : World), s0.length = b → Ext s0 ρ0 w0 st.s ρ w → Sim Δ ρ st a w → Fo r B Δ ρ st.s w → ∃ ρ', Ext s0 ρ0 w0 st'.s ρ' w ∧ Sim Δ ρ' st' a w ∧ Fo r B Δ ρ' st'.s w
theorem Tells.refl (b : Nat) (st : St) : Tells b st st := fun r B Δ s0 ρ0 w0 ρ a w _ he hs hf => ⟨ρ, he, hs, hf⟩
theorem Tells.trans {b : Nat} {st st' st'' : St} (h : Tells b st st') (k : Tells b st' st'') : Tells b st st'' := fun r B Δ s0 ρ0 w0 ρ a w hb he hs hf =>
  let ⟨ρ', h1, h2, h3⟩ := h r B Δ s0 ρ0 w0 ρ a w hb he hs hf
  k r B Δ s0 ρ0 w0 ρ' a w hb h1 h2 h3
theorem Weak.tells {b : Nat} {st st' : St} {π : Nat → Nat} (hw : Weak b st st' π) : Tells b st st' := fun r B Δ s0 ρ0 w0 ρ a w hb he hs hf => ⟨_, hw.ext hb he, hw.sim hs, hw.fo hf⟩
theorem gc_tells (b : Nat) (live : List Nat) (st : St) : Tells b st (gcSt b live st) := let ⟨_, hw⟩ := gcSt_weak b live st; hw.tells
theorem Tells.conv {b : Nat} {st st' : St} (hn : st'.n = st.n) (hl : st'.s.length = st.s.length) (ho : st'.s.map Ent.isOwn = st.s.map Ent.isOwn)
    (ht : ∀ ρ w, Rep ρ st.s w → ∀ t v', find st'.t t = some v' → ∃ v, find st.t t = some v ∧ v'.abs ρ = v.abs ρ ∧ (v.bd st.s.length → v'.bd st.s.length)) (hr : ∀ ρ w, Rep ρ st.s w → sbd st.s → Rep ρ st'.s w ∧ sbd st'.s) : Tells b st st' := by
  intro r B Δ s0 ρ0 w0 ρ a w hb he hs hf
  refine ⟨ρ, he.conv rfl ho, ⟨hs.defers, by rw [hn]; exact hs.size, fun t v hv => ?_, fun t v hv => ?_, (hr ρ w hs.rep hs.sb).1, (hr ρ w hs.rep hs.sb).2⟩, ⟨hf.le, ?_, fun l hl => ?_⟩⟩
  · obtain ⟨v0, h1, h2, _⟩ := ht ρ w hs.rep t v hv
    rw [h2]; exact hs.tmps t v0 h1
  · obtain ⟨v0, h1, _, h3⟩ := ht ρ w hs.rep t v hv
    rw [hl]; exact h3 (hs.bd t v0 h1)
  · obtain ⟨ms, h1, h2, h3⟩ := hf.marks
    refine ⟨ms, h1, h2, fun m hm => ⟨(h3 m hm).1, (h3 m hm).2.1, fun i e hi hio => ?_⟩⟩
    obtain ⟨f, hfi, hfo⟩ := own_tr ho hi
    exact (h3 m hm).2.2 i f hfi (by rw [hfo]; exact hio)
  · obtain ⟨rc, h1, h2⟩ := hf.round l hl
    refine ⟨rc, h1, fun i e hi hio => ?_⟩
    obtain ⟨f, hfi, hfo⟩ := own_tr ho hi
    exact h2 i f hfi (by rw [hfo]; exact hio)
section
variable {P : Program} {b : Nat} {c : Code} {st st' : St} {K K' : Ex → St → Prop}
theorem CodeB.tell (ht : Tells b st st') (h : CodeB P b c st' K) : CodeB P b c st K :=
  ⟨fun r B Δ s0 ρ0 w0 ρ a w hn he hs hf => let ⟨ρ', h1, h2, h3⟩ := ht r B Δ s0 ρ0 w0 ρ a w hn he hs hf; h.run r B Δ s0 ρ0 w0 ρ' a w hn h1 h2 h3⟩
end
/-- A way into code: 0: behind the first of two; 1: into the first of two; 2: into a block. -/
def subAt : List Nat → Code → Code
  | [], c => c
  | d :: ds, c => match d with
    | 0 => subAt ds (rgt c)
    | _ => subAt ds (lft c)
/-- What stands behind a place. -/
def ctxK (P : Program) (b : Nat) : List Nat → Code → (Ex → St → Prop) → Ex → St → Prop
  | [], _, K => K
  | d :: ds, c, K => match d with
    | 0 => ctxK P b ds (rgt c) K
    | 1 => ctxK P b ds (lft c) fun e st' => match e with
      | .normal => CodeB P b (rgt c) st' K
      | e => K e st'
    | 3 => ctxK P b ds (lft c) fun e st' => match e with
      | .goto _ => False
      | e => K e st'
    | _ => ctxK P b ds (lft c) fun e st' => match e with
      | .exit i => (match Nat.beq i (bid c) with
        | true => K .normal st'
        | false => K (.exit i) st')
      | e => K e st'
/-- Code computed up to a place, where Z is asked. -/
def evTo (P : Program) (D : Eh) (n b : Nat) (Z : St → Prop) : List Nat → Code → St → (Ex → St → Prop) → Prop
  | [], _, st, _ => Z st
  | d :: ds, c, st, K => match d with
    | 0 => match Nat.beq (kd c) 1 with
      | true => evG P D n (lft c) st fun e st' => match e with
        | .normal => evTo P D n b Z ds (rgt c) st' K
        | e => K e st'
      | false => False
    | 1 => match Nat.beq (kd c) 1 with
      | true => evTo P D n b Z ds (lft c) st fun e st' => match e with
        | .normal => CodeB P b (rgt c) st' K
        | e => K e st'
      | false => False
    | 3 => match Nat.beq (kd c) 4 with
      | true => evTo P D n b Z ds (lft c) st fun e st' => match e with
        | .goto _ => False
        | e => K e st'
      | false => False
    | _ => match Nat.beq (kd c) 2 with
      | true => evTo P D n b Z ds (lft c) st fun e st' => match e with
        | .exit i => (match Nat.beq i (bid c) with
          | true => K .normal st'
          | false => K (.exit i) st')
        | e => K e st'
      | false => False
theorem evTo_ok {P : Program} {D : Eh} (hD : EOk P D) (hn : namesOk P = true) (hm : P.follows .mixedOrders = true) {n b : Nat} {Z : St → Prop} : ∀ (ds : List Nat) (c : Code) (st : St) (K : Ex → St → Prop), (∀ st, Z st → CodeB P b (subAt ds c) st (ctxK P b ds c K)) → evTo P D n b Z ds c st K → CodeB P b c st K := by
  intro ds
  induction ds with
  | nil => intro c st K hz h; exact hz st h
  | cons d ds ih =>
    intro c st K hz h
    match d, hz, h with
    | 2, hz, h =>
      simp only [evTo] at h
      split at h
      · rename_i hk
        exact CodeB.blk hk (ih (lft c) st _ hz h)
      · exact h.elim
    | 3, hz, h =>
      simp only [evTo] at h
      split at h
      · rename_i hk
        exact CodeB.scp hk (ih (lft c) st _ hz h)
      · exact h.elim
    | 0, hz, h =>
      simp only [evTo] at h
      split at h
      · rename_i hk
        refine CodeB.seq hk ((CodeB.of (evG_ok hD hn hm h)).mono fun e s he => ?_)
        cases e
        · exact ih (rgt c) s K hz he
        all_goals exact he
      · exact h.elim
    | 1, hz, h =>
      simp only [evTo] at h
      split at h
      · rename_i hk
        exact CodeB.seq hk (ih (lft c) st _ hz h)
      · exact h.elim
    | d + 4, hz, h =>
      simp only [evTo] at h
      split at h
      · rename_i hk
        exact CodeB.blk hk (ih (lft c) st _ hz h)
      · exact h.elim
/-- A function entered. -/
theorem CallOk.fnB {P : Program} (hn : namesOk P = true) {f : FuncId} {args : List V} {s : Sto} {K : Res → Sto → Prop} (hf : funOk P f args.length = true) (h : CodeB P s.length (codeOf P f) ⟨(funcOf P f).ntmps, zipArgs 0 args, s⟩ (bodyK False P (funcOf P f) K)) : CallOk P f args s K :=
  CallOk.fn hn hf (CodeB.ok h)
end Go.Proofs.YtpahclogghdnpaaDoorRL
