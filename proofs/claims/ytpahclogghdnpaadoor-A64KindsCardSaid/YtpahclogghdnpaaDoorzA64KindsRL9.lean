/- RL, ninth text: regions that draw their order: operations that change nothing, in whatever order, and one behind them all. -/
import Derived.Test.YtpahclogghdnpaaDoorzA64KindsRL8
namespace Go.Proofs.YtpahclogghdnpaaDoorRL
open Go
set_option linter.unusedVariables false
set_option linter.unusedSimpArgs false
variable {Δ : List Deferred}
def Ent.toRo : Ent → Ent
  | .own cs _ => .ro cs
  | .ro cs => .ro cs
  | .lst cs _ _ _ => .ro cs
  | .arr _ cols n t => .arr .ro cols n t
  | .glob g cs => .glob g cs
  | _ => .no
def roS (s : Sto) : Sto := s.map Ent.toRo
theorem toRo_length (s : Sto) : (roS s).length = s.length := by simp [roS]
theorem toRo_own (s : Sto) (i : Nat) (e : Ent) (h : (roS s)[i]? = some e) : e.isOwn = false := by
  simp only [roS, List.getElem?_map] at h
  obtain ⟨f, _, rfl⟩ := Option.map_eq_some_iff.1 h
  cases f <;> rfl
theorem Rep.toRo {ρ : Rho} {s : Sto} {w : World} (h : Rep ρ s w) : Rep ρ (roS s) w := by
  refine ⟨fun i e he => ?_, fun i j e f he hf ho => ?_⟩
  · simp only [roS, List.getElem?_map] at he
    obtain ⟨f, hf, rfl⟩ := Option.map_eq_some_iff.1 he
    have := h.ent i f hf
    cases f with
    | own cs t =>
      refine ⟨⟨_, _, _, this.1⟩, fun j v hj => ?_⟩
      simp [World.cell?, this.1, this.2, absL_get, hj]
    | ro cs => exact this
    | lst cs t k z =>
      obtain ⟨rest, h1, h2, _⟩ := this
      refine ⟨⟨_, _, _, h1⟩, fun j v hj => ?_⟩
      have hlt : j < (absL ρ cs).length := by rw [absL_length]; exact (List.getElem?_eq_some_iff.1 hj).1
      simp [World.cell?, h1, h2, List.getElem?_append_left hlt, absL_get, hj]
    | arr m cols n t =>
      obtain ⟨cs, a1, a2, a3, h0⟩ := this
      refine ⟨cs, a1, a2, a3, ?_⟩
      cases m with
      | ro => exact h0
      | own =>
        refine ⟨⟨_, _, _, h0.1⟩, fun j v hj => ?_⟩
        simp [World.cell?, h0.1, h0.2, hj]
      | grow k =>
        obtain ⟨rest, h1, h2, h3⟩ := h0
        refine ⟨⟨_, _, _, h1⟩, fun j v hj => ?_⟩
        have hlt : j < cs.length := (List.getElem?_eq_some_iff.1 hj).1
        simp [World.cell?, h1, h2, List.getElem?_append_left hlt, hj]
    | map => trivial
    | lp => trivial
    | glob g cs => exact this
    | no => trivial
  · rw [toRo_own s i e he] at ho; cases ho
theorem sbd.toRo {s : Sto} (h : sbd s) : sbd (roS s) := by
  intro i e he
  rw [toRo_length]
  simp only [roS, List.getElem?_map] at he
  obtain ⟨f, hf, rfl⟩ := Option.map_eq_some_iff.1 he
  have := h i f hf
  cases f <;> first | exact this | exact this.1 | trivial
/-- Behind what only read, the store stands as it stood. -/
theorem quiet_ext {ρ ρ' : Rho} {s s' : Sto} {w w' : World} (hr : Rep ρ s w) (hs : sbd s) (he : Ext (roS s) ρ w s' ρ' w') : Rep ρ s w' ∧ Ext s ρ w s ρ w' := by
  have hblk : ∀ b, b < w.heap.size → w'.heap[b]? = w.heap[b]? := fun b hb => he.block b hb fun i e hi ho => by rw [toRo_own s i e hi] at ho; cases ho
  refine ⟨⟨fun i e hi => ?_, hr.sep⟩, ⟨Nat.le_refl _, fun _ _ => rfl, fun i e h ho => .inl ⟨i, e, h, ho, rfl⟩, he.os, he.tape, he.output, he.size, fun b hb _ => hblk b hb⟩⟩
  have h := hr.ent i e hi
  cases hl : e.live with
  | true => exact RepE.congr (n := s.length) (fun _ _ => rfl) (List.getElem?_eq_some_iff.1 hi).1 (hs i e hi) (hblk _ (h.lt hl)) he.size h
  | false => cases e <;> simp_all [Ent.live, RepE]
mutual
def V.bdb (n : Nat) : V → Bool
  | .raw _ => true
  | .md _ _ _ => true
  | .ptr i _ => Nat.blt i n
  | .sl i _ _ _ => Nat.blt i n
  | .mp i => Nat.blt i n
  | .yld i => Nat.blt i n
  | .lst i k _ _ _ => Nat.blt i n && Nat.blt k n
  | .el i _ _ _ => Nat.blt i n
  | .sle i _ _ _ _ => Nat.blt i n
  | .lse i k _ _ _ => Nat.blt i n && Nat.blt k n
  | .lend i k _ _ _ _ => Nat.blt i n && Nat.blt k n
  | .fn _ a b => bdbL n a && bdbL n b
  | .ifc _ v => v.bdb n
  | .agg cs => bdbL n cs
  | .tup vs => bdbL n vs
def bdbL (n : Nat) : List V → Bool
  | [] => true
  | v :: vs => v.bdb n && bdbL n vs
end
mutual
theorem V.bd_of {n : Nat} : ∀ (v : V), v.bdb n = true → v.bd n
  | .raw _, _ => trivial
  | .md _ _ _, _ => trivial
  | .ptr i o, h => by simp only [V.bdb, Nat.blt_eq] at h; exact h
  | .sl i o m c, h => by simp only [V.bdb, Nat.blt_eq] at h; exact h
  | .mp i, h => by simp only [V.bdb, Nat.blt_eq] at h; exact h
  | .yld i, h => by simp only [V.bdb, Nat.blt_eq] at h; exact h
  | .lst i k o e m, h => by simp only [V.bdb, Bool.and_eq_true, Nat.blt_eq] at h; exact h
  | .el i z k f, h => by simp only [V.bdb, Nat.blt_eq] at h; exact h
  | .sle i z k m c, h => by simp only [V.bdb, Nat.blt_eq] at h; exact h
  | .lse i k z e m, h => by simp only [V.bdb, Bool.and_eq_true, Nat.blt_eq] at h; exact h
  | .lend i k o e l z, h => by simp only [V.bdb, Bool.and_eq_true, Nat.blt_eq] at h; exact h
  | .fn f a b, h => by simp only [V.bdb, Bool.and_eq_true] at h; exact ⟨bdL_of a h.1, bdL_of b h.2⟩
  | .ifc t v, h => by simp only [V.bdb] at h; exact V.bd_of v h
  | .agg cs, h => by simp only [V.bdb] at h; exact bdL_of cs h
  | .tup vs, h => by simp only [V.bdb] at h; exact bdL_of vs h
theorem bdL_of {n : Nat} : ∀ (l : List V), bdbL n l = true → bdL n l
  | [], _ => trivial
  | v :: vs, h => by simp only [bdbL, Bool.and_eq_true] at h; exact ⟨V.bd_of v h.1, bdL_of vs h.2⟩
end
/-- A call that only reads: what it hands back. -/
abbrev Qh := FuncId → List V → Sto → Option V
def quietVal (P : Program) (Q : Qh) (op : Op) (e : List (Nat × V)) (s : Sto) : Option V :=
  match op with
  | .call c => match c.callee with
    | .builtin b => Wi none (getTL e c.args.toList) fun args => vBuiltin none P b c.argTypes.toList args s fun v _ => some v
    | _ => none
  | op => match stillOp op with
    | true => valOpT none P op e s fun v _ => some v
    | false => none
/-- A call that only reads does: whatever is its own in the store, it leaves. -/
def QOk (P : Program) (Q : Qh) : Prop := ∀ f args s v, Q f args s = some v → CallOk P f args (roS s) (fun r _ => r = .ret v) ∧ v.bd s.length
/-- What a step that only makes new blocks leaves. -/
structure Same (w w' : World) : Prop where
  os : w'.os = w.os
  tape : w'.tape = w.tape
  output : w'.output = w.output
  size : w.heap.size ≤ w'.heap.size
  block : ∀ b, b < w.heap.size → w'.heap[b]? = w.heap[b]?
theorem Same.refl (w : World) : Same w w := ⟨rfl, rfl, rfl, Nat.le_refl _, fun _ _ => rfl⟩
theorem Ext.same_ro {s s' : Sto} {ρ ρ' : Rho} {w w' : World} (he : Ext (roS s) ρ w s' ρ' w') : Same w w' :=
  ⟨he.os, he.tape, he.output, he.size, fun b hb => he.block b hb fun i e hi ho => by rw [toRo_own s i e hi] at ho; cases ho⟩
/-- Does an operation hand on a value, whatever the world? -/
def Gives (P : Program) (s : Sto) (o : Oper) (a : Act) (ρ : Rho) (v : V) : Prop :=
  ∀ (w : World), Rep ρ s w → ∀ (K : Act → World → Prop) (X : Exit → Act → World → Prop), (∀ w', Rep ρ s w' → Ext s ρ w s ρ w' → Same w w' → K (a.put o.dst (v.abs ρ)) w') → o.wp P a w K X
theorem quietVal_sound {P : Program} {Q : Qh} (hQ : QOk P Q) {ρ : Rho} {st : St} {a : Act} {w0 : World} (h : Sim Δ ρ st a w0) {o : Oper} {v : V} (hv : quietVal P Q o.op st.t st.s = some v) : Gives P st.s o a ρ v ∧ v.bd st.s.length := by
  have hno : ¬ ((none : Option V) = some v) := by simp
  have hsim : ∀ w, Rep ρ st.s w → Sim Δ ρ st a w := fun w hr => ⟨h.defers, h.size, h.tmps, h.bd, hr, h.sb⟩
  unfold quietVal at hv
  split at hv
  · rename_i c hc
    split at hv
    · rename_i b hb
      obtain ⟨args, ha, hv⟩ := Wi.out (T := fun x => x = some v) hno hv
      obtain ⟨f1, f2⟩ := h.evalL ha
      have hex : execOp a.eval o = (do let d ← resolve a.eval c o.type; invoke d.target d.args) := by unfold execOp; rw [hc]
      have key : ∀ cs w, Rep ρ st.s w → (builtin b c.argTypes o.type cs (absL ρ args).toArray).run P w = .ok (.value (v.abs ρ)) w ∧ v.bd st.s.length := by
        intro cs w hr
        obtain ⟨u, u1, u2, u3⟩ := builtin_sound (T := fun x => x = some v) hno (P := P) (ty := o.type) (cs := cs) hr f2 hv
        obtain rfl := Option.some.inj u2
        exact ⟨u1, u3⟩
      refine ⟨fun w hr K X hK => ?_, (key #[] w0 h.rep).2⟩
      unfold Oper.wp
      rw [hex]
      simp only [resolve, hb, toArray_eval f1, pure_bind, invoke]
      rw [(key _ w hr).1, Oper.upon_value]
      exact hK w hr (Ext.refl _ _ _) (Same.refl _)
    · cases hv
  · rename_i hnc
    split at hv
    · rename_i hs
      have key : ∀ w, Rep ρ st.s w → (execOp a.eval o).run P w = .ok (.value (v.abs ρ)) w ∧ v.bd st.s.length := by
        intro w hr
        obtain ⟨n, u, s', ρ', w', r1, r2, r3, r4, r5, r6, r7, r8⟩ := valOp_sound (T := fun x => x = some v) hno (hsim w hr) (o := o) (K := fun v _ => some v) hv
        obtain ⟨rfl, rfl, rfl, rfl⟩ := r8 hs
        obtain rfl := Option.some.inj r3
        exact ⟨r1, r7⟩
      refine ⟨fun w hr K X hK => ?_, (key w0 h.rep).2⟩
      unfold Oper.wp
      rw [(key w hr).1, Oper.upon_value]
      exact hK w hr (Ext.refl _ _ _) (Same.refl _)
    · cases hv
end Go.Proofs.YtpahclogghdnpaaDoorRL
