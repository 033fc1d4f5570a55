/- Parts of the proof, one behind the other. -/
import Derived.Test.YtalgegmcllcnmaazLabJumpsRL9
import Derived.Orders
section
/- RL, tenth text: regions that draw their order, in whatever order. -/
namespace Go.Proofs.YtalgegmcllcnmaaRL
open Go
set_option linter.unusedVariables false
set_option linter.unusedSimpArgs false
variable {Δ : List Deferred}
theorem put_eq {a b : Act} {d : Option Tmp} {u v : Value} (h : a.put d u = a.put d v) (hs : b.tmps.size = a.tmps.size) : b.put d u = b.put d v := by
  cases d with
  | none => rfl
  | some d =>
    simp only [Act.put] at h ⊢
    by_cases hd : d < a.tmps.size
    · have := congrArg (fun x : Act => x.tmps[d]?) h
      simp [hd] at this
      rw [this]
    · have hle : b.tmps.toList.length ≤ d := by rw [Array.length_toList, hs]; exact Nat.le_of_not_lt hd
      have e1 : ∀ x, b.tmps.setIfInBounds d x = b.tmps := by
        intro x
        apply Array.ext'
        rw [Array.toList_setIfInBounds, List.set_eq_of_length_le hle]
      rw [e1, e1]
def preds (o : Oper) : List Nat := (o.after.toList.filter (Region.binds .any)).map (·.on)
theorem mem_preds {o : Oper} {i : Nat} : i ∈ preds o ↔ ∃ e ∈ o.after, Region.binds .any e = true ∧ e.on = i := by
  simp only [preds, List.mem_map, List.mem_filter]
  constructor
  · rintro ⟨e, ⟨h1, h2⟩, h3⟩; exact ⟨e, by simpa using h1, h2, h3⟩
  · rintro ⟨e, h1, h2, h3⟩; exact ⟨e, ⟨by simpa using h1, h2⟩, h3⟩
/-- What an operation looks at is written by none of the region, or by one that it waits for; its edges go back. -/
def opOk (ops : List Oper) (j : Nat) (o : Oper) : Bool :=
  (preds o).all (fun i => Nat.blt i j) && (o.looksAt ops.toArray).all (fun t => ops.zipIdx.all fun p => !(p.1.dst == some t) || (preds o).contains p.2 || (preds p.1).contains j) && (match o.op with | .select _ _ => false | _ => true)
def opsOk (ops : List Oper) : List Oper → Nat → Bool
  | [], _ => true
  | o :: os, j => opOk ops j o && os.all (fun p => !(p.dst == o.dst && o.dst.isSome)) && opsOk ops os (j + 1)
theorem opsOk_at {ops : List Oper} : ∀ {l : List Oper} {k j : Nat} {o : Oper}, opsOk ops l k = true → l[j]? = some o → opOk ops (k + j) o = true ∧ ∀ i p, j < i → l[i]? = some p → ∀ t, o.dst = some t → p.dst ≠ some t := by
  intro l
  induction l with
  | nil => intro k j o _ h; simp at h
  | cons x xs ih =>
    intro k j o h hj
    simp only [opsOk, Bool.and_eq_true] at h
    obtain ⟨⟨h1, h2⟩, h3⟩ := h
    cases j with
    | zero =>
      simp only [List.getElem?_cons_zero, Option.some.injEq] at hj
      subst hj
      refine ⟨h1, fun i p hi hp t ht hpt => ?_⟩
      obtain ⟨i, rfl⟩ : ∃ m, i = m + 1 := ⟨i - 1, by omega⟩
      have hm : p ∈ xs := List.mem_of_getElem? (by simpa using hp)
      have := List.all_eq_true.1 h2 p hm
      simp [ht, hpt] at this
    | succ j =>
      obtain ⟨g1, g2⟩ := ih h3 (by simpa using hj)
      refine ⟨by rw [show k + (j + 1) = k + 1 + j by omega]; exact g1, fun i p hi hp => ?_⟩
      obtain ⟨i, rfl⟩ : ∃ m, i = m + 1 := ⟨i - 1, by omega⟩
      exact g2 i p (by omega) (by simpa using hp)
/-- The frame behind the first operations, in the text's order. -/
def actT (ρ : Rho) (a : Act) : List Oper → List V → Act
  | o :: os, v :: vs => actT ρ (a.put o.dst (v.abs ρ)) os vs
  | _, _ => a
section
variable {P : Program} {ρ : Rho} {w : World} {st : St} {a : Act}
theorem looks_same {ops : Array Oper} {o : Oper} {a b : Act} (hsel : ∀ cs x, o.op ≠ .select cs x) (h : ∀ t ∈ o.looksAt ops, b.tmps[t]? = a.tmps[t]?) : execOp b.eval o = execOp a.eval o ∧ Region.wanted o (yielded ops b.tmps) = Region.wanted o (yielded ops a.tmps) := by
  constructor
  · refine execOp_congr o hsel fun x hx => ?_
    cases x with
    | tmp t =>
      have := h t (List.mem_append_left _ (List.mem_filterMap.2 ⟨.tmp t, by simpa using hx, rfl⟩))
      simp [Act.eval, Array.getD_eq_getD_getElem?, this]
    | _ => rfl
  · unfold Region.wanted
    cases hg : o.guard with
    | none => rfl
    | some gw =>
      obtain ⟨g, want⟩ := gw
      have : yielded ops b.tmps g = yielded ops a.tmps g := by
        unfold yielded
        cases ht : (ops[g]?).bind (·.dst) with
        | none => rfl
        | some t =>
          have := h t (List.mem_append_right _ (by simp [hg, ht]))
          simp [this]
      simp only [this]
end
section
variable {P : Program} {ρ : Rho} {w : World} {st : St} {a : Act}
theorem actT_size : ∀ (l : List Oper) (vs : List V) (a : Act), (actT ρ a l vs).tmps.size = a.tmps.size ∧ (actT ρ a l vs).defers = a.defers := by
  intro l
  induction l with
  | nil => intro vs a; exact ⟨rfl, rfl⟩
  | cons o l ih =>
    intro vs a
    cases vs with
    | nil => exact ⟨rfl, rfl⟩
    | cons v vs =>
      simp only [actT]
      obtain ⟨h1, h2⟩ := ih vs (a.put o.dst (v.abs ρ))
      rw [h1, h2]
      cases o.dst <;> simp [Act.put]
/-- What the frame holds behind the first operations: of each its value; else what it held. -/
theorem actT_at : ∀ (l : List Oper) (vs : List V) (a : Act) (k : Nat) (ops : List Oper), opsOk ops l k = true → vs.length = l.length → ∀ t,
    (∀ (j : Nat) o v, l[j]? = some o → vs[j]? = some v → o.dst = some t → t < a.tmps.size → (actT ρ a l vs).tmps[t]? = some (v.abs ρ)) ∧ ((∀ (j : Nat) o, l[j]? = some o → o.dst ≠ some t) → (actT ρ a l vs).tmps[t]? = a.tmps[t]?) := by
  intro l
  induction l with
  | nil => intro vs a k ops _ _ t; exact ⟨fun j o v hj => by simp at hj, fun _ => by cases vs <;> rfl⟩
  | cons o l ih =>
    intro vs a k ops hok hlen t
    cases vs with
    | nil => simp at hlen
    | cons v vs =>
      simp only [actT]
      have hok2 : opsOk ops l (k + 1) = true := by simp only [opsOk, Bool.and_eq_true] at hok; exact hok.2
      have hsz : (a.put o.dst (v.abs ρ)).tmps.size = a.tmps.size := by cases o.dst <;> simp [Act.put]
      obtain ⟨i1, i2⟩ := ih vs (a.put o.dst (v.abs ρ)) (k + 1) ops hok2 (by simpa using hlen) t
      refine ⟨fun j p u hj hu hd ht => ?_, fun hn => ?_⟩
      · cases j with
        | zero =>
          simp only [List.getElem?_cons_zero, Option.some.injEq] at hj hu
          subst hj hu
          rw [i2 (fun i p hp hpd => (opsOk_at hok (j := 0) (o := o) rfl).2 (i + 1) p (by omega) (by simpa using hp) t hd hpd)]
          simp [Act.put, hd, ht]
        | succ j => exact i1 j p u (by simpa using hj) (by simpa using hu) hd (by rw [hsz]; exact ht)
      · rw [i2 (fun j p hj => hn (j + 1) p (by simpa using hj))]
        have hne := hn 0 o rfl
        cases hd : o.dst with
        | none => rfl
        | some d => simp [Act.put, Array.getElem?_setIfInBounds_ne (fun e : d = t => hne (by rw [hd, e]))]
end
end Go.Proofs.YtalgegmcllcnmaaRL
end
section
/- RL, eleventh text: regions that draw, computed; calls computed whole. -/
namespace Go.Proofs.YtalgegmcllcnmaaRL
open Go
set_option linter.unusedVariables false
set_option linter.unusedSimpArgs false
variable {Δ : List Deferred}
theorem getD_replicate_false (m j : Nat) : (Array.replicate m false).getD j false = false := by
  rcases Nat.lt_or_ge j m with h | h
  · simp [h]
  · simp [h]
section
variable {P : Program} {ρ : Rho} {st : St}
theorem Sim.same {a b : Act} {w w' : World} (h : Sim Δ ρ st a w) (ht : ∀ t : Nat, b.tmps[t]? = a.tmps[t]?) (hd : b.defers = Δ) (hs : b.tmps.size = a.tmps.size) (hr : Rep ρ st.s w') : Sim Δ ρ st b w' :=
  ⟨hd, by rw [hs]; exact h.size, fun t v hv => by rw [ht]; exact h.tmps t v hv, h.bd, hr, h.sb⟩
theorem ready_nil {ops : Array Oper} {listed : Array Bool} (hs : listed.size = ops.size) (h : ∀ j, j < ops.size → listed.getD j false = true) : Region.ready .any ops listed = [] := by
  cases hr : Region.ready .any ops listed with
  | nil => rfl
  | cons x xs =>
    have hm : x ∈ Region.ready .any ops listed := by rw [hr]; simp
    obtain ⟨h1, o, h2, _⟩ := mem_ready.1 hm
    have hlt : x < ops.size := (Array.getElem?_eq_some_iff.1 h2).1
    have := h x hlt
    simp [hs, hlt] at h1 this
    rw [h1] at this; cases this
end
end Go.Proofs.YtalgegmcllcnmaaRL
end
section
/- RL: what an operation comes to is one value and one store, whatever is made of them. -/
namespace Go.Proofs.YtalgegmcllcnmaaRL
open Go
set_option linter.unusedVariables false
set_option linter.unusedSimpArgs false
section
variable {P : Program} {R : Type} {no : R} {T : R → Prop} {α : Type}
theorem Wi.pick (hno : ¬ T no) {β : Type} {x : Option β} {A : β → R} (h : T (Wi no x A)) : ∃ a, x = some a ∧ T (A a) := Wi.out hno h
theorem vBin_pick (hno : ¬ T no) {op : BinOp} {t : TypeId} {x y : V} {K : V → R} (h : T (vBin no P op t x y K)) : ∃ v, T (K v) ∧ ∀ K0 : V → Option α, vBin none P op t x y K0 = K0 v := by
  unfold vBin at h ⊢
  repeat' (first
    | exact (hno h).elim
    | exact ⟨_, h, fun _ => rfl⟩
    | split at h
    | (replace h := Br.out h; rcases h with ⟨hb, h⟩ | ⟨hb, h⟩ <;> simp only [hb, Br])
    | (replace h := Wi.pick hno h; obtain ⟨z, hz, h⟩ := h; simp only [hz, Wi]))
theorem vOpt_pick (hno : ¬ T no) {t : List (Nat × V)} {x : Option Operand} {K : Option V → R} (h : T (vOpt no t x K)) : ∃ v, T (K v) ∧ ∀ K0 : Option V → Option α, vOpt none t x K0 = K0 v := by
  unfold vOpt at h ⊢
  repeat' (first
    | exact ⟨_, h, fun _ => rfl⟩
    | split at h
    | (replace h := Wi.pick hno h; obtain ⟨z, hz, h⟩ := h; simp only [hz, Wi]))
theorem vBoundsO_pick (hno : ¬ T no) {x : Option V} {d y : Nat} {K : Nat → R} (h : T (vBoundsO no x d y K)) : ∃ n, T (K n) ∧ ∀ K0 : Nat → Option α, vBoundsO none x d y K0 = K0 n := by
  unfold vBoundsO at h ⊢
  split at h
  · exact ⟨_, h, fun _ => rfl⟩
  · unfold vBounds at h ⊢
    rcases Br.out h with ⟨hb, h⟩ | ⟨hb, h⟩
    · rcases Br.out h with ⟨hb2, h⟩ | ⟨hb2, h⟩
      · exact ⟨_, h, fun _ => by simp only [hb, hb2, Br]⟩
      · exact (hno h).elim
    · exact (hno h).elim
  · exact (hno h).elim
theorem splI_pick {i : Int} {K : Nat → R} : ∀ {n k : Nat}, T (splI i K n k) → ∃ m, T (K m) ∧ ∀ K0 : Nat → Option α, splI i K0 n k = K0 m := by
  intro n
  induction n with
  | zero => intro k h; exact ⟨k, h, fun _ => rfl⟩
  | succ n ih =>
    intro k h
    simp only [splI] at h ⊢
    rcases Br.out h with ⟨hb, h⟩ | ⟨hb, h⟩
    · exact ⟨k, h, fun _ => by simp only [hb, Br]⟩
    · obtain ⟨m, h1, h2⟩ := ih h
      exact ⟨m, h1, fun K0 => by simp only [hb, Br]; exact h2 K0⟩
theorem vLoadE_pick (hno : ¬ T no) {t : TypeId} {s : Sto} {i z k f : Nat} {K : V → R} (h : T (vLoadE no P t s i z k f K)) : ∃ v, T (K v) ∧ ∀ K0 : V → Option α, vLoadE none P t s i z k f K0 = K0 v := by
  unfold vLoadE at h
  split at h
  case h_2 => exact (hno h).elim
  rename_i m cols n e hi
  split at h
  case h_2 => exact (hno h).elim
  rename_i hz
  rcases Br.out h with ⟨hk, h⟩ | ⟨_, h⟩
  case inr => exact (hno h).elim
  obtain ⟨d, hd, h⟩ := Wi.out hno h
  cases hag : aggD d with
  | true =>
    rw [hag] at h
    obtain ⟨inf, hinf, h⟩ := Wi.out hno h
    split at h
    case h_2 => exact (hno h).elim
    rename_i hle
    obtain ⟨vs, hvs, h⟩ := Wi.out hno h
    exact ⟨_, h, fun K0 => by simp only [vLoadE, hi, hz, hk, hd, hag, hinf, hle, hvs, Br, Wi]⟩
  | false =>
    rw [hag] at h
    replace h : T (match Nat.blt f z with | true => Wi no (rdC cols k f) K | false => no) := h
    split at h
    case h_2 => exact (hno h).elim
    rename_i hf
    obtain ⟨v, hv, h⟩ := Wi.out hno h
    exact ⟨_, h, fun K0 => by simp only [vLoadE, hi, hz, hk, hd, hag, hf, hv, Br, Wi]⟩
theorem vStoreE_pick (hno : ¬ T no) {t : TypeId} {s : Sto} {i z k f : Nat} {v : V} {K : Sto → R} (h : T (vStoreE no P t s i z k f v K)) : ∃ s', T (K s') ∧ ∀ K0 : Sto → Option α, vStoreE none P t s i z k f v K0 = K0 s' := by
  unfold vStoreE at h
  split at h
  case h_2 => exact (hno h).elim
  rename_i m cols n e hi
  split at h
  case h_2 => exact (hno h).elim
  rename_i hz
  rcases Br.out h with ⟨hk, h⟩ | ⟨_, h⟩
  case inr => exact (hno h).elim
  obtain ⟨inf, hinf, h⟩ := Wi.out hno h
  split at h
  case h_2 => exact (hno h).elim
  rename_i hb
  obtain ⟨cols', hc, h⟩ := Wi.out hno h
  rw [flA_eq] at h
  exact ⟨_, h, fun K0 => by simp only [vStoreE, hi, hz, hk, hinf, hb, hc, Br, Wi, flA_eq]⟩
theorem sleCut_pick (hno : ¬ T no) {i z k0 len cap : Nat} {lo hi mx : Option V} {K : V → R} (h : T (sleCut no i z k0 len cap lo hi mx K)) : ∃ v, T (K v) ∧ ∀ K0 : V → Option α, sleCut none i z k0 len cap lo hi mx K0 = K0 v := by
  have key : T (vBoundsO no mx cap cap fun m => vBoundsO no hi len (mxCap mx m cap) fun h => vBoundsO no lo 0 h fun l =>
      Br (Nat.beq l 0) (K (.sle i z k0 h m)) (Br (Nat.beq m l) (K (.sle i z k0 (h - l) (m - l))) (K (.sle i z (l + k0) (h - l) (m - l))))) → ∃ v, T (K v) ∧ ∀ K0 : V → Option α, (vBoundsO none mx cap cap fun m => vBoundsO none hi len (mxCap mx m cap) fun h => vBoundsO none lo 0 h fun l =>
      Br (Nat.beq l 0) (K0 (.sle i z k0 h m)) (Br (Nat.beq m l) (K0 (.sle i z k0 (h - l) (m - l))) (K0 (.sle i z (l + k0) (h - l) (m - l))))) = K0 v := by
    intro h
    obtain ⟨m, h, e1⟩ := vBoundsO_pick (α := α) hno h
    obtain ⟨hh, h, e2⟩ := vBoundsO_pick (α := α) hno h
    obtain ⟨l, h, e3⟩ := vBoundsO_pick (α := α) hno h
    rcases Br.out h with ⟨hb, h⟩ | ⟨hb, h⟩
    · exact ⟨_, h, fun K0 => by simp only [e1, e2, e3, hb, Br]⟩
    · rcases Br.out h with ⟨hb2, h⟩ | ⟨hb2, h⟩
      · exact ⟨_, h, fun K0 => by simp only [e1, e2, e3, hb, hb2, Br]⟩
      · exact ⟨_, h, fun K0 => by simp only [e1, e2, e3, hb, hb2, Br]⟩
  unfold sleCut at h ⊢
  cases mx <;> cases hi <;> first | exact (hno h).elim | exact key h
theorem lseCut_pick (hno : ¬ T no) {i k z e len : Nat} {lo hi : Option V} {K : V → R} (h : T (lseCut no i k z e len lo hi K)) : ∃ v, T (K v) ∧ ∀ K0 : V → Option α, lseCut none i k z e len lo hi K0 = K0 v := by
  unfold lseCut at h ⊢
  obtain ⟨hh, h, e2⟩ := vBoundsO_pick (α := α) hno h
  obtain ⟨l, h, e3⟩ := vBoundsO_pick (α := α) hno h
  rcases Br.out h with ⟨hb, h⟩ | ⟨hb, h⟩
  · exact ⟨_, h, fun K0 => by simp only [e2, e3, hb, Br]⟩
  · rcases Br.out h with ⟨hb2, h⟩ | ⟨hb2, h⟩
    · exact ⟨_, h, fun K0 => by simp only [e2, e3, hb, hb2, Br]⟩
    · exact ⟨_, h, fun K0 => by simp only [e2, e3, hb, hb2, Br]⟩
theorem lseFits_pick (hno : ¬ T no) {s : Sto} {i k z n : Nat} {K : R} (h : T (lseFits no s i k z n K)) : T K ∧ ∀ K0 : Option α, lseFits none s i k z n K0 = K0 := by
  unfold lseFits at h
  split at h
  · rename_i k' cols N e hi
    split at h
    · rename_i hb
      rcases Br.out h with ⟨h4, h⟩ | ⟨_, h⟩
      · exact ⟨h, fun K0 => by simp only [lseFits, hi, hb, h4, Br]⟩
      · exact (hno h).elim
    · exact (hno h).elim
  · exact (hno h).elim
theorem vFindK_pick (hno : ¬ T no) {d : TypeDesc} {kt : TypeId} {k : V} {found : Nat → V × V × Nat → R} {nn : R} : ∀ {es : List (V × V × Nat)} {i : Nat}, T (vFindK no P d kt k found nn es i) →
    (∃ j en, T (found j en) ∧ ∀ (f0 : Nat → V × V × Nat → Option α) n0, vFindK none P d kt k f0 n0 es i = f0 j en) ∨ (T nn ∧ ∀ (f0 : Nat → V × V × Nat → Option α) n0, vFindK none P d kt k f0 n0 es i = n0) := by
  intro es
  induction es with
  | nil => intro i h; exact .inr ⟨h, fun _ _ => rfl⟩
  | cons e es ih =>
    intro i h
    simp only [vFindK] at h
    obtain ⟨b, hb, h⟩ := Wi.out hno h
    rcases Br.out h with ⟨rfl, h⟩ | ⟨rfl, h⟩
    · exact .inl ⟨i, e, h, fun f0 n0 => by simp only [vFindK, hb, Wi, Br]⟩
    · rcases ih h with ⟨j, en, h1, h2⟩ | ⟨h1, h2⟩
      · exact .inl ⟨j, en, h1, fun f0 n0 => by simp only [vFindK, hb, Wi, Br]; exact h2 f0 n0⟩
      · exact .inr ⟨h1, fun f0 n0 => by simp only [vFindK, hb, Wi, Br]; exact h2 f0 n0⟩
set_option maxHeartbeats 4000000 in
theorem valOpT_pick (hno : ¬ T no) {op : Op} {e : List (Nat × V)} {s : Sto} {K : Kt R} (h : T (valOpT no P op e s K)) : ∃ v s', T (K v s') ∧ ∀ K0 : Kt (Option α), valOpT none P op e s K0 = K0 v s' := by
  cases op
  all_goals simp only [valOpT] at h ⊢
  all_goals first
    | exact (hno h).elim
    | (repeat' (first
        | exact (hno h).elim
        | exact ⟨_, _, h, fun _ => rfl⟩
        | (replace h := Br.out h; rcases h with ⟨hb, h⟩ | ⟨hb, h⟩ <;> simp only [hb, Br])
        | (replace h := Wi.pick hno h; obtain ⟨z, hz, h⟩ := h; simp only [hz, Wi])
        | (replace h := vBin_pick (α := α) hno h; obtain ⟨z, h, hz⟩ := h; simp only [hz])
        | (replace h := vOpt_pick (α := α) hno h; obtain ⟨z, h, hz⟩ := h; simp only [hz])
        | (replace h := vBoundsO_pick (α := α) hno h; obtain ⟨z, h, hz⟩ := h; simp only [hz])
        | (replace h := splI_pick (α := α) h; obtain ⟨z, h, hz⟩ := h; simp only [hz])
        | (replace h := vLoadE_pick (α := α) hno h; obtain ⟨z, h, hz⟩ := h; simp only [hz])
        | (replace h := vStoreE_pick (α := α) hno h; obtain ⟨z, h, hz⟩ := h; simp only [hz])
        | (replace h := sleCut_pick (α := α) hno h; obtain ⟨z, h, hz⟩ := h; simp only [hz])
        | (replace h := lseCut_pick (α := α) hno h; obtain ⟨z, h, hz⟩ := h; simp only [hz])
        | (replace h := lseFits_pick (α := α) hno h; obtain ⟨h, hz⟩ := h; simp only [hz])
        | (replace h := vFindK_pick (α := α) hno h; rcases h with ⟨z1, z2, h, hz⟩ | ⟨h, hz⟩ <;> simp only [hz])
        | split at h))
theorem vAppendTo_pick (hno : ¬ T no) {s : Sto} {elem : TypeId} {z bytes n : Nat} {sv : V} {new : List V} {K : Kt R} (h : T (vAppendTo no s elem z bytes sv n new K)) : ∃ v s', T (K v s') ∧ ∀ K0 : Kt (Option α), vAppendTo none s elem z bytes sv n new K0 = K0 v s' := by
  unfold vAppendTo at h ⊢
  repeat' (first
    | exact (hno h).elim
    | exact ⟨_, _, h, fun _ => rfl⟩
    | (replace h := Wi.pick hno h; obtain ⟨z, hz, h⟩ := h; simp only [hz, Wi])
    | split at h)
theorem vSrcE_pick (hno : ¬ T no) {s : Sto} {d : TypeDesc} {zs : List Col} {z : Nat} {x : V} {K : Nat → List Col → R} {Kl : Nat → List V → Option (List Col) → R} (h : T (vSrcE no s d zs z x K Kl)) :
    (∃ n c, T (K n c) ∧ ∀ (K0 : Nat → List Col → Option α) (Kl0 : Nat → List V → Option (List Col) → Option α), vSrcE none s d zs z x K0 Kl0 = K0 n c) ∨ ∃ n l c, T (Kl n l c) ∧ ∀ (K0 : Nat → List Col → Option α) (Kl0 : Nat → List V → Option (List Col) → Option α), vSrcE none s d zs z x K0 Kl0 = Kl0 n l c := by
  unfold vSrcE at h ⊢
  repeat' (first
    | exact (hno h).elim
    | exact .inl ⟨_, _, h, fun _ _ => rfl⟩
    | exact .inr ⟨_, _, _, h, fun _ _ => rfl⟩
    | (replace h := Br.out h; rcases h with ⟨hb, h⟩ | ⟨hb, h⟩ <;> simp only [hb, Br])
    | (replace h := Wi.pick hno h; obtain ⟨z, hz, h⟩ := h; simp only [hz, Wi])
    | split at h)
theorem vAppE_pick (hno : ¬ T no) {s : Sto} {elem : TypeId} {z bytes n : Nat} {zs cols : List Col} {sv : V} {lit : Option (List V)} {K : Kt R} (h : T (vAppE no s elem z bytes zs sv n cols lit K)) : ∃ v s', T (K v s') ∧ ∀ K0 : Kt (Option α), vAppE none s elem z bytes zs sv n cols lit K0 = K0 v s' := by
  unfold vAppE at h ⊢
  repeat' (first
    | exact (hno h).elim
    | exact ⟨_, _, h, fun _ => rfl⟩
    | (replace h := Br.out h; rcases h with ⟨hb, h⟩ | ⟨hb, h⟩ <;> simp only [hb, Br])
    | (replace h := Wi.pick hno h; obtain ⟨z, hz, h⟩ := h; simp only [hz, Wi])
    | exact vAppendTo_pick hno h
    | split at h)
theorem vAppendE_pick (hno : ¬ T no) {ts : List TypeId} {args : List V} {s : Sto} {K : Kt R} (h : T (vAppendE no P ts args s K)) : ∃ v s', T (K v s') ∧ ∀ K0 : Kt (Option α), vAppendE none P ts args s K0 = K0 v s' := by
  unfold vAppendE at h ⊢
  repeat' (first
    | exact (hno h).elim
    | exact ⟨_, _, h, fun _ => rfl⟩
    | exact vAppendTo_pick hno h
    | exact vAppE_pick hno h
    | (replace h := Wi.pick hno h; obtain ⟨z, hz, h⟩ := h; simp only [hz, Wi])
    | (replace h := vSrcE_pick (α := α) hno h; rcases h with ⟨z1, z2, h, hz⟩ | ⟨z1, z2, z3, h, hz⟩ <;> simp only [hz])
    | split at h)
theorem vClear_pick (hno : ¬ T no) {ts : List TypeId} {args : List V} {s : Sto} {K : Kt R} (h : T (vClear no P ts args s K)) : ∃ v s', T (K v s') ∧ ∀ K0 : Kt (Option α), vClear none P ts args s K0 = K0 v s' := by
  unfold vClear at h ⊢
  repeat' (first
    | exact (hno h).elim
    | exact ⟨_, _, h, fun _ => rfl⟩
    | (rw [flA_eq] at h; simp only [flA_eq])
    | (replace h := Br.out h; rcases h with ⟨hb, h⟩ | ⟨hb, h⟩ <;> simp only [hb, Br])
    | (replace h := Wi.pick hno h; obtain ⟨z, hz, h⟩ := h; simp only [hz, Wi])
    | split at h)
theorem cpyFin_pick (hno : ¬ T no) {s : Sto} {i k0 len N n : Nat} {m : AM} {tc cols : List Col} {e : TypeId} {K : Kt R} (h : T (cpyFin no s i k0 len m tc N e K n cols)) : ∃ v s', T (K v s') ∧ ∀ K0 : Kt (Option α), cpyFin none s i k0 len m tc N e K0 n cols = K0 v s' := by
  unfold cpyFin at h ⊢
  repeat' (first
    | exact (hno h).elim
    | exact ⟨_, _, h, fun _ => rfl⟩
    | (replace h := Br.out h; rcases h with ⟨hb, h⟩ | ⟨hb, h⟩ <;> simp only [hb, Br])
    | (replace h := Wi.pick hno h; obtain ⟨z, hz, h⟩ := h; simp only [hz, Wi]))
theorem vCopy_pick (hno : ¬ T no) {ts : List TypeId} {args : List V} {s : Sto} {K : Kt R} (h : T (vCopy no P ts args s K)) : ∃ v s', T (K v s') ∧ ∀ K0 : Kt (Option α), vCopy none P ts args s K0 = K0 v s' := by
  unfold vCopy at h ⊢
  repeat' (first
    | exact (hno h).elim
    | exact cpyFin_pick hno h
    | exact ⟨_, _, h, fun _ => rfl⟩
    | (rw [flA_eq] at h; simp only [flA_eq])
    | (replace h := Wi.pick hno h; obtain ⟨z, hz, h⟩ := h; simp only [hz, Wi])
    | (replace h := vSrcE_pick (α := α) hno h; rcases h with ⟨z1, z2, h, hz⟩ | ⟨z1, z2, z3, h, hz⟩ <;> simp only [hz])
    | split at h)
theorem vBuiltinE_pick (hno : ¬ T no) {b : Builtin} {ts : List TypeId} {args : List V} {s : Sto} {K : Kt R} (h : T (vBuiltinE no P b ts args s K)) : ∃ v s', T (K v s') ∧ ∀ K0 : Kt (Option α), vBuiltinE none P b ts args s K0 = K0 v s' := by
  unfold vBuiltinE at h ⊢
  split at h
  · exact vAppendE_pick hno h
  · exact vClear_pick hno h
  · exact vCopy_pick hno h
  · unfold vBuiltin at h ⊢
    repeat' (first
      | exact (hno h).elim
      | exact ⟨_, _, h, fun _ => rfl⟩
      | (replace h := Wi.pick hno h; obtain ⟨z, hz, h⟩ := h; simp only [hz, Wi])
      | split at h)
/-- What a call comes to is one answer, whatever is made of it. -/
def PickC (T : R → Prop) (C : Ch R) (C0 : Ch (Option α)) : Prop := ∀ f args s K, T (C f args s K) → ∃ r s', T (K r s') ∧ ∀ K0 : Res → Sto → Option α, C0 f args s K0 = K0 r s'
def PickL (T : R → Prop) (L : Lh R) (L0 : Lh (Option α)) : Prop := ∀ c st K, T (L c st K) → ∃ x st', T (K x st') ∧ ∀ K0 : Ex → St → Option α, L0 c st K0 = K0 x st'
theorem callxT_pick (hno : ¬ T no) {C : Ch R} {C0 : Ch (Option α)} (hC : PickC T C C0) {c : Call} {e : List (Nat × V)} {s : Sto} {K Kp : Kt R} (h : T (callxT no P C c e s K Kp)) : ∃ r s', T (resK K Kp r s') ∧ ∀ K0 Kp0 : Kt (Option α), callxT none P C0 c e s K0 Kp0 = resK K0 Kp0 r s' := by
  unfold callxT at h ⊢
  split at h
  · rename_i f hf
    obtain ⟨fv, e1, h⟩ := Wi.out hno h
    obtain ⟨args, e2, h⟩ := Wi.out hno h
    split at h
    · rename_i g first cap hg
      split at h
      · rename_i hlt
        obtain ⟨r, s', h1, h2⟩ := hC _ _ _ _ h
        exact ⟨r, s', h1, fun K0 Kp0 => by simp only [e1, e2, hg, hlt, Wi]; exact h2 _⟩
      · exact (hno h).elim
    · rename_i i hg
      obtain ⟨r, s', h1, h2⟩ := hC _ _ _ _ h
      exact ⟨r, s', h1, fun K0 Kp0 => by simp only [e1, e2, hg, Wi]; exact h2 _⟩
    · exact (hno h).elim
  · rename_i recv name hf
    obtain ⟨fv, e1, h⟩ := Wi.out hno h
    obtain ⟨args, e2, h⟩ := Wi.out hno h
    split at h
    · rename_i t v hg
      obtain ⟨m, e3, h⟩ := Wi.out hno h
      split at h
      · rename_i hlt
        obtain ⟨r, s', h1, h2⟩ := hC _ _ _ _ h
        exact ⟨r, s', h1, fun K0 Kp0 => by simp only [e1, e2, hg, e3, hlt, Wi]; exact h2 _⟩
      · exact (hno h).elim
    · exact (hno h).elim
  · rename_i b hf
    obtain ⟨args, e2, h⟩ := Wi.out hno h
    obtain ⟨v, s', h1, h2⟩ := vBuiltinE_pick (α := α) hno h
    exact ⟨.ret v, s', h1, fun K0 Kp0 => by simp only [e2, Wi]; exact h2 _⟩
theorem opxT_pick (hno : ¬ T no) {C : Ch R} {C0 : Ch (Option α)} (hC : PickC T C C0) {op : Op} {e : List (Nat × V)} {s : Sto} {K Kp : Kt R} (h : T (opxT no P C op e s K Kp)) : ∃ r s', T (resK K Kp r s') ∧ ∀ K0 Kp0 : Kt (Option α), opxT none P C0 op e s K0 Kp0 = resK K0 Kp0 r s' := by
  unfold opxT at h ⊢
  split at h
  · exact callxT_pick hno hC h
  · obtain ⟨v, e1, h⟩ := Wi.out hno h
    split at h
    · rename_i t u hu
      exact ⟨.pan (.ifc t u), s, h, fun K0 Kp0 => by simp only [e1, hu, Wi, resK]⟩
    · exact (hno h).elim
  · obtain ⟨v, s', h1, h2⟩ := valOpT_pick (α := α) hno h
    refine ⟨.ret v, s', h1, fun K0 Kp0 => ?_⟩
    exact h2 _
theorem vWantedT_pick (hno : ¬ T no) {ops : List Oper} {o : Oper} {e : List (Nat × V)} {A B : List (Nat × V) → R} (h : T (vWantedT no ops o e A B)) :
    (∃ e', T (A e') ∧ ∀ A0 B0 : List (Nat × V) → Option α, vWantedT none ops o e A0 B0 = A0 e') ∨ ∃ e', T (B e') ∧ ∀ A0 B0 : List (Nat × V) → Option α, vWantedT none ops o e A0 B0 = B0 e' := by
  unfold vWantedT at h ⊢
  split at h
  · exact .inl ⟨_, h, fun _ _ => rfl⟩
  · rename_i j want hgd
    split at h
    · rename_i oj hoj
      split at h
      · rename_i t ht
        obtain ⟨v, e1, h⟩ := Wi.out hno h
        split at h
        · rename_i b
          split at h
          · rcases Br.out h with ⟨hb, h⟩ | ⟨hb, h⟩
            · exact .inl ⟨_, h, fun _ _ => by simp only [e1, hb, Wi, Br]⟩
            · exact .inr ⟨_, h, fun _ _ => by simp only [e1, hb, Wi, Br]⟩
          · rcases Br.out h with ⟨hb, h⟩ | ⟨hb, h⟩
            · exact .inr ⟨_, h, fun _ _ => by simp only [e1, hb, Wi, Br]⟩
            · exact .inl ⟨_, h, fun _ _ => by simp only [e1, hb, Wi, Br]⟩
        · exact .inr ⟨_, h, fun _ _ => by simp only [e1, Wi]⟩
        · exact (hno h).elim
      · exact .inr ⟨_, h, fun _ _ => rfl⟩
    · exact .inr ⟨_, h, fun _ _ => rfl⟩
theorem evOpsT_pick (hno : ¬ T no) {C : Ch R} {C0 : Ch (Option α)} (hC : PickC T C C0) {ops : List Oper} {K : Ex → St → R} {n : Nat} : ∀ {os : List Oper} {e : List (Nat × V)} {s : Sto}, T (evOpsT no P C ops K n os e s) → ∃ x st', T (K x st') ∧ ∀ K0 : Ex → St → Option α, evOpsT none P C0 ops K0 n os e s = K0 x st' := by
  intro os
  induction os with
  | nil => intro e s h; exact ⟨_, _, h, fun _ => rfl⟩
  | cons o os ih =>
    intro e s h
    simp only [evOpsT] at h
    rcases vWantedT_pick (α := α) hno h with ⟨e', h, hw⟩ | ⟨e', h, hw⟩
    · obtain ⟨r, s', h1, h2⟩ := opxT_pick hno hC h
      cases r with
      | ret v =>
        simp only [resK, fl_eq] at h1
        obtain ⟨x, st', h3, h4⟩ := ih h1
        exact ⟨x, st', h3, fun K0 => by simp only [evOpsT, hw, h2, resK, fl_eq]; exact h4 K0⟩
      | pan v => exact ⟨_, _, h1, fun K0 => by simp only [evOpsT, hw, h2, resK]⟩
    · simp only [fl_eq] at h
      obtain ⟨x, st', h3, h4⟩ := ih h
      exact ⟨x, st', h3, fun K0 => by simp only [evOpsT, hw, fl_eq]; exact h4 K0⟩
theorem Ev_pick (hno : ¬ T no) {C : Ch R} {C0 : Ch (Option α)} (hC : PickC T C C0) {L : Lh R} {L0 : Lh (Option α)} (hL : PickL T L L0) : ∀ {c : Code} {st : St} {K : Ex → St → R}, T (Ev no P C L c st K) → ∃ x st', T (K x st') ∧ ∀ K0 : Ex → St → Option α, Ev none P C0 L0 c st K0 = K0 x st' := by
  intro c
  induction c with
  | skip => intro st K h; exact ⟨_, _, h, fun _ => rfl⟩
  | label l => intro st K h; exact ⟨_, _, h, fun _ => rfl⟩
  | seq a b iha ihb =>
    intro st K h
    simp only [Ev] at h
    obtain ⟨x, st', h1, h2⟩ := iha h
    cases x
    · obtain ⟨x, st'', h3, h4⟩ := ihb h1
      exact ⟨x, st'', h3, fun K0 => by simp only [Ev, h2]; exact h4 K0⟩
    all_goals exact ⟨_, _, h1, fun K0 => by simp only [Ev, h2]⟩
  | cond c a b iha ihb =>
    intro st K h
    simp only [Ev] at h
    obtain ⟨v, e1, h⟩ := Wi.out hno h
    split at h
    · rename_i t
      obtain ⟨n, e, s⟩ := st
      rcases Br.out h with ⟨hb, h⟩ | ⟨hb, h⟩
      · obtain ⟨x, st'', h3, h4⟩ := iha h
        exact ⟨x, st'', h3, fun K0 => by simp only [Ev, e1, Wi, hb, Br]; exact h4 K0⟩
      · obtain ⟨x, st'', h3, h4⟩ := ihb h
        exact ⟨x, st'', h3, fun K0 => by simp only [Ev, e1, Wi, hb, Br]; exact h4 K0⟩
    · exact (hno h).elim
  | block id c ih =>
    intro st K h
    simp only [Ev] at h
    obtain ⟨x, st', h1, h2⟩ := ih h
    cases x
    case exit i =>
      simp only at h1
      split at h1
      · rename_i hb
        exact ⟨_, _, h1, fun K0 => by simp only [Ev, h2, hb]⟩
      · rename_i hb
        exact ⟨_, _, h1, fun K0 => by simp only [Ev, h2, hb]⟩
    all_goals exact ⟨_, _, h1, fun K0 => by simp only [Ev, h2]⟩
  | scope c ih =>
    intro st K h
    simp only [Ev] at h
    obtain ⟨x, st', h1, h2⟩ := ih h
    cases x
    case goto i => exact (hno h1).elim
    all_goals exact ⟨_, _, h1, fun K0 => by simp only [Ev, h2]⟩
  | exit id => intro st K h; exact ⟨_, _, h, fun _ => rfl⟩
  | goto l => intro st K h; exact ⟨_, _, h, fun _ => rfl⟩
  | ret => intro st K h; exact ⟨_, _, h, fun _ => rfl⟩
  | region id ops draw =>
    intro st K h
    cases draw with
    | true => exact hL _ _ _ h
    | false =>
      obtain ⟨n, e, s⟩ := st
      exact evOpsT_pick hno hC h
  | loop c => intro st K h; exact hL _ _ _ h
  | rangeFunc f ps x y => intro st K h; exact hL _ _ _ h
  | refuse => intro st K h; exact (hno h).elim
theorem bodyK_pick (hno : ¬ T no) {fn : Func} {K : Res → Sto → R} {x : Ex} {st : St} (h : T (bodyK no P fn K x st)) : ∃ r s', T (K r s') ∧ ∀ K0 : Res → Sto → Option α, bodyK none P fn K0 x st = K0 r s' := by
  cases x <;> simp only [bodyK] at h ⊢
  · obtain ⟨v, e1, h⟩ := Wi.out hno h
    exact ⟨_, _, h, fun _ => by simp only [e1, Wi]⟩
  · exact (hno h).elim
  · exact (hno h).elim
  · obtain ⟨v, e1, h⟩ := Wi.out hno h
    exact ⟨_, _, h, fun _ => by simp only [e1, Wi]⟩
  · exact ⟨_, _, h, fun _ => rfl⟩
end
end Go.Proofs.YtalgegmcllcnmaaRL
end
section
/- RL: regions that draw their order, new blocks among what is done in whatever order. -/
namespace Go.Proofs.YtalgegmcllcnmaaRL
open Go
set_option linter.unusedVariables false
set_option linter.unusedSimpArgs false
variable {Δ : List Deferred}
mutual
/-- All places of a value are fine by f. -/
def V.ok (f : Nat → Bool) : V → Bool
  | .raw _ => true
  | .md _ _ _ => true
  | .ptr i _ => f i
  | .sl i _ _ _ => f i
  | .mp i => f i
  | .yld i => f i
  | .lst i k _ _ _ => f i && f k
  | .el i _ _ _ => f i
  | .sle i _ _ _ _ => f i
  | .lse i k _ _ _ => f i && f k
  | .lend i k _ _ _ _ => f i && f k
  | .fn _ a b => okL f a && okL f b
  | .ifc _ v => v.ok f
  | .agg cs => okL f cs
  | .tup vs => okL f vs
def okL (f : Nat → Bool) : List V → Bool
  | [] => true
  | v :: vs => v.ok f && okL f vs
end
theorem okL_iff {f : Nat → Bool} {l : List V} : okL f l = true ↔ ∀ v ∈ l, v.ok f = true := by
  induction l with
  | nil => simp [okL]
  | cons v l ih => simp [okL, ih]
mutual
theorem V.abs_ok {f : Nat → Bool} {ρ ρ' : Rho} (h : ∀ i, f i = true → ρ' i = ρ i) : ∀ (v : V), v.ok f = true → v.abs ρ' = v.abs ρ
  | .raw v, _ => by simp [V.abs]
  | .md k m l, _ => by simp [V.abs]
  | .ptr i o, hb => by simp only [V.abs]; rw [h i (by simpa [V.ok] using hb)]
  | .sl i o n c, hb => by simp only [V.abs]; rw [h i (by simpa [V.ok] using hb)]
  | .mp i, hb => by simp only [V.abs]; rw [h i (by simpa [V.ok] using hb)]
  | .yld i, hb => by simp only [V.abs]; rw [h i (by simpa [V.ok] using hb)]
  | .lst i k o e m, hb => by simp only [V.ok, Bool.and_eq_true] at hb; simp only [V.abs]; rw [h i hb.1, h k hb.2]
  | .el i z k f, hb => by simp only [V.abs]; rw [h i (by simpa [V.ok] using hb)]
  | .sle i z k n c, hb => by simp only [V.abs]; rw [h i (by simpa [V.ok] using hb)]
  | .lse i k z e m, hb => by simp only [V.ok, Bool.and_eq_true] at hb; simp only [V.abs]; rw [h i hb.1, h k hb.2]
  | .lend i k o e l z, hb => by simp only [V.ok, Bool.and_eq_true] at hb; simp only [V.abs]; rw [h i hb.1, h k hb.2]
  | .fn g a b, hb => by simp only [V.ok, Bool.and_eq_true] at hb; simp only [V.abs]; rw [absL_ok h a hb.1, absL_ok h b hb.2]
  | .ifc t v, hb => by simp only [V.ok] at hb; simp only [V.abs]; rw [V.abs_ok h v hb]
  | .agg cs, hb => by simp only [V.ok] at hb; simp only [V.abs]; rw [absL_ok h cs hb]
  | .tup vs, hb => by simp only [V.ok] at hb; simp only [V.abs]; rw [absL_ok h vs hb]
theorem absL_ok {f : Nat → Bool} {ρ ρ' : Rho} (h : ∀ i, f i = true → ρ' i = ρ i) : ∀ (l : List V), okL f l = true → absL ρ' l = absL ρ l
  | [], _ => by simp [absL]
  | v :: l, hb => by simp only [okL, Bool.and_eq_true] at hb; simp only [absL]; rw [V.abs_ok h v hb.1, absL_ok h l hb.2]
end
mutual
theorem V.bd_ok {f : Nat → Bool} {n : Nat} (h : ∀ i, f i = true → i < n) : ∀ (v : V), v.ok f = true → v.bd n
  | .raw v, _ => trivial
  | .md k m l, _ => trivial
  | .ptr i o, hb => h i hb
  | .sl i o _ c, hb => h i hb
  | .mp i, hb => h i hb
  | .yld i, hb => h i hb
  | .lst i k o e m, hb => by simp only [V.ok, Bool.and_eq_true] at hb; exact ⟨h i hb.1, h k hb.2⟩
  | .el i z k f, hb => by simp only [V.ok] at hb; exact h i hb
  | .sle i z k n c, hb => by simp only [V.ok] at hb; exact h i hb
  | .lse i k z e m, hb => by simp only [V.ok, Bool.and_eq_true] at hb; exact ⟨h i hb.1, h k hb.2⟩
  | .lend i k o e l z, hb => by simp only [V.ok, Bool.and_eq_true] at hb; exact ⟨h i hb.1, h k hb.2⟩
  | .fn g a b, hb => by simp only [V.ok, Bool.and_eq_true] at hb; exact ⟨bdL_ok h a hb.1, bdL_ok h b hb.2⟩
  | .ifc t v, hb => by simp only [V.ok] at hb; exact V.bd_ok h v hb
  | .agg cs, hb => by simp only [V.ok] at hb; exact bdL_ok h cs hb
  | .tup vs, hb => by simp only [V.ok] at hb; exact bdL_ok h vs hb
theorem bdL_ok {f : Nat → Bool} {n : Nat} (h : ∀ i, f i = true → i < n) : ∀ (l : List V), okL f l = true → bdL n l
  | [], _ => trivial
  | v :: l, hb => by simp only [okL, Bool.and_eq_true] at hb; exact ⟨V.bd_ok h v hb.1, bdL_ok h l hb.2⟩
end
def Ent.ok (f : Nat → Bool) : Ent → Bool
  | .own cs _ | .ro cs => okL f cs
  | .map es _ => es.all fun e => e.1.ok f && e.2.1.ok f
  | .lst cs _ k _ => okL f cs && f k
  | .arr m _ _ _ => match m with
    | .grow k => f k
    | _ => true
  | .lp _ _ _ _ _ _ => false
  | .no => true
theorem Ent.bd_ok {f : Nat → Bool} {n : Nat} (h : ∀ i, f i = true → i < n) {e : Ent} (he : e.ok f = true) : e.bd n := by
  cases e with
  | own cs t => exact bdL_ok h cs he
  | ro cs => exact bdL_ok h cs he
  | map es c =>
    intro x hx
    have := List.all_eq_true.1 he x hx
    simp only [Bool.and_eq_true] at this
    exact ⟨V.bd_ok h _ this.1, V.bd_ok h _ this.2⟩
  | lst cs t k z => simp only [Ent.ok, Bool.and_eq_true] at he; exact ⟨bdL_ok h cs he.1, h k he.2⟩
  | arr m cols q t =>
    cases m with
    | grow k => exact h k he
    | _ => trivial
  | lp => cases he
  | no => trivial
/-- Fine by f, or of the blocks below b, which are. -/
def Ent.okd (f : Nat → Bool) (b : Nat) (e : Ent) : Prop := e.ok f = true ∨ (e.bd b ∧ ∀ i, i < b → f i = true)
theorem RepE.ok {f : Nat → Bool} {ρ ρ' : Rho} {w w' : World} {i : Nat} {e : Ent} (hρ : ∀ j, f j = true → ρ' j = ρ j) (hi : ρ' i = ρ i) (hb : e.ok f = true) (hblk : w'.heap[(ρ i).1]? = w.heap[(ρ i).1]?) (hsz : w.heap.size ≤ w'.heap.size) (h : RepE ρ w i e) : RepE ρ' w' i e := by
  cases e with
  | own cs t =>
    have hlt := (Array.getElem?_eq_some_iff.1 h.1).1
    refine ⟨?_, by rw [hi]; exact h.2⟩
    rw [hi, hblk, absL_ok hρ cs hb]
    exact h.1
  | ro cs =>
    refine ⟨by rw [hi, hblk]; exact h.1, fun j v hv => ?_⟩
    have hvb : v.ok f = true := okL_iff.1 hb v (List.mem_of_getElem? hv)
    rw [V.abs_ok hρ v hvb, hi, ← h.2 j v hv]
    simp only [World.cell?, hblk]
  | map es c =>
    have hlt := (Array.getElem?_eq_some_iff.1 h).1
    simp only [RepE] at h ⊢
    rw [hi, hblk, h]
    congr 3
    refine List.map_congr_left fun e he => ?_
    have := List.all_eq_true.1 hb e he
    simp only [Bool.and_eq_true] at this
    simp only [absE, V.abs_ok hρ _ this.1, V.abs_ok hρ _ this.2]
  | lst cs t k z =>
    simp only [Ent.ok, Bool.and_eq_true] at hb
    obtain ⟨rest, h1, h2, h3⟩ := h
    have hlt := (Array.getElem?_eq_some_iff.1 h1).1
    refine ⟨rest, ?_, by rw [hi]; exact h2, by rw [hρ k hb.2]; exact h3⟩
    rw [hi, hblk, absL_ok hρ cs hb.1]
    exact h1
  | arr m cols q t =>
    obtain ⟨cs, a1, a2, a3, h0⟩ := h
    refine ⟨cs, a1, a2, a3, ?_⟩
    cases m with
    | ro =>
      refine ⟨by rw [hi, hblk]; exact h0.1, fun j v hv => ?_⟩
      rw [hi, ← h0.2 j v hv]
      simp only [World.cell?, hblk]
    | own => exact ⟨by rw [hi, hblk]; exact h0.1, by rw [hi]; exact h0.2⟩
    | grow k =>
      obtain ⟨rest, h1, h2, h3⟩ := h0
      exact ⟨rest, by rw [hi, hblk]; exact h1, by rw [hi]; exact h2, by rw [hρ k hb]; exact h3⟩
  | lp => cases hb
  | no => trivial
theorem RepE.okd {f : Nat → Bool} {b : Nat} {ρ ρ' : Rho} {w w' : World} {i : Nat} {e : Ent} (hρ : ∀ j, f j = true → ρ' j = ρ j) (hi : ρ' i = ρ i) (hb : e.okd f b) (hblk : w'.heap[(ρ i).1]? = w.heap[(ρ i).1]?) (hsz : w.heap.size ≤ w'.heap.size) (h : RepE ρ w i e) : RepE ρ' w' i e := by
  rcases hb with hb | ⟨h1, h2⟩
  · exact RepE.ok hρ hi hb hblk hsz h
  · exact RepE.congr2 (fun j hj => hρ j (h2 j hj)) hi h1 hblk hsz h
/-- Of new blocks, those that are made. -/
def maskN (f : Nat → Bool) (N : List (Nat × Ent)) : List Ent := N.map fun p => match f p.1 with
  | true => p.2
  | false => .no
def okAt (b : Nat) (N : List (Nat × Ent)) (f : Nat → Bool) (i : Nat) : Bool :=
  match Nat.blt i b with
  | true => true
  | false => match N[i - b]? with
    | some p => f p.1
    | none => false
def hasN (l : List Nat) (q : Nat) : Bool := l.any fun x => Nat.beq x q
/-- What is known of functions: how a call ends, and the store behind it. -/
abbrev Dh := FuncId → List V → Sto → Option (Res × Sto)
def DOk (P : Program) (D : Dh) : Prop := ∀ f args s r s', D f args s = some (r, s') → CallOk P f args s fun r2 s2 => r2 = r ∧ s2 = s'
/-- A value, and what new blocks stand behind it, if it speaks of them. -/
def trimN (s : Sto) : Option (V × Sto) → Option (V × List Ent)
  | some (v, s') => match v.bdb s.length with
    | true => some (v, [])
    | false => match (s'.drop s.length).all (fun e => e.isOwn || !e.live) with
      | true => some (v, s'.drop s.length)
      | false => none
  | none => none
def retD (D : Dh) : Ch (Option (V × Sto)) := fun f args s K => match D f args s with
  | some (.ret v, s') => K (.ret v) s'
  | _ => none
/-- Entry i as it is, all others to be read alone. -/
def roBut : Nat → Sto → Sto
  | _, [] => []
  | 0, e :: s => e :: roS s
  | i + 1, e :: s => e.toRo :: roBut i s
def noIf (b : Bool) (e : Ent) : Ent := match b with
  | true => .no
  | false => e
def hideS (h : Nat → Bool) : Nat → Sto → Sto
  | _, [] => []
  | k, e :: s => noIf (h k) e :: hideS h (k + 1) s
/-- Changes of those operations that are done. -/
def setC (L : Nat → Bool) : List (Nat × Nat × Ent) → Sto → Sto
  | [], S => S
  | c :: cs, S => setC L cs (match L c.1 with | true => S.set c.2.1 c.2.2 | false => S)
def stoAt (s : Sto) (N : List (Nat × Ent)) (Cs : List (Nat × Nat × Ent)) (L : Nat → Bool) : Sto := setC L Cs (s ++ maskN L N)
def bitN (m q : Nat) : Bool := Nat.beq (Nat.land (Nat.shiftRight m q) 1) 1
def tcAt (TC : List Nat) (j : Nat) : Nat → Bool := bitN (TC.getD j 0)
def hid (TC : List Nat) (ch : List (Nat × Nat)) (j i : Nat) : Bool := ch.any fun p => Nat.beq p.2 i && !(Nat.beq p.1 j) && !(tcAt TC j p.1) && !(tcAt TC p.1 j)
def viewAt (TC : List Nat) (ch : List (Nat × Nat)) (s : Sto) (N : List (Nat × Ent)) (Cs : List (Nat × Nat × Ent)) (j : Nat) : Sto := hideS (hid TC ch j) 0 (stoAt s N Cs (tcAt TC j))
/-- The same, soon reckoned where nothing is new. -/
def viewQ (TC : List Nat) (ch : List (Nat × Nat)) (s : Sto) (N : List (Nat × Ent)) (Cs : List (Nat × Nat × Ent)) (j : Nat) : Sto := match ch, N, Cs with
  | [], [], [] => s
  | _, _, _ => viewAt TC ch s N Cs j
def tgt (op : Op) (e : List (Nat × V)) : Option Nat := match op with
  | .store _ a _ => match getT e a with
    | some (.ptr i _) => some i
    | some (.el i _ _ _) => some i
    | _ => none
  | .mapUpdate _ m _ _ => match getT e m with
    | some (.mp i) => some i
    | _ => none
  | _ => none
/-- A change of one block. -/
def chgVal (s : Sto) (i : Nat) (x : Option (V × Sto)) : Option (V × List Ent × Option (Nat × Ent)) :=
  match s[i]? with
  | some e0 => match x with
    | some (v, s') => match s'[i]? with
      | some e' => match e0.isOwn && Nat.beq s'.length s.length && e'.isOwn && v.bdb s.length with
        | true => some (v, [], some (i, e'))
        | false => none
      | none => none
    | none => none
  | none => none
/-- The block whose end an append may write. -/
def tgtA : List V → Option Nat
  | .sl i _ _ _ :: _ => some i
  | .lst i _ _ _ _ :: _ => some i
  | .sle i _ _ _ _ :: _ => some i
  | .lse i _ _ _ _ :: _ => some i
  | _ => none
/-- An append: new blocks alone; or in place; or what stood there is not known any more. -/
def newVal : Option (V × List Ent) → Option (V × List Ent × Option (Nat × Ent))
  | some (v, es) => some (v, es, none)
  | none => none
def app2f (s : Sto) (i : Nat) (x : Option (V × Sto)) : Option (V × List Ent × Option (Nat × Ent)) :=
  match x with
  | some (v, s') => match (s'.drop s.length).all (fun e => e.isOwn || !e.live) with
    | true => match s'.drop s.length with
      | [] => match s'[i]? with
        | some e' => match e'.isOwn && v.bdb s.length with
          | true => some (v, [], some (i, e'))
          | false => none
        | none => none
      | e1 :: es => some (v, e1 :: es, some (i, .no))
    | false => none
  | none => none
def app1 (P : Program) (ts : List TypeId) (args : List V) (s : Sto) : Option (V × List Ent × Option (Nat × Ent)) := newVal (trimN s (vBuiltinE none P .append ts args (roS s) fun v s' => some (v, s')))
def ownAt (s : Sto) (i : Nat) : Bool := match s[i]? with
  | some e => e.isOwn
  | none => false
def app2 (P : Program) (ts : List TypeId) (args : List V) (s : Sto) : Option (V × List Ent × Option (Nat × Ent)) :=
  match tgtA args with
  | some i => match ownAt s i with
    | true => app2f s i (vBuiltinE none P .append ts args (roBut i s) fun v s' => some (v, s'))
    | false => none
  | none => none
def appKind (args : List V) (s : Sto) : Nat :=
  match args with
  | .raw _ :: _ => 1
  | .lse _ _ _ _ _ :: _ => 2
  | .sle i _ _ _ _ :: _ => match ownAt s i with
    | true => 2
    | false => 1
  | _ => 0
/-- What is appended to may be changed (2), or is nothing of its own (1), or it is seen (0). -/
def appVal (P : Program) (ts : List TypeId) (args : List V) (s : Sto) : Option (V × List Ent × Option (Nat × Ent)) :=
  match appKind args s with
  | 0 => match app1 P ts args s with
    | some r => some r
    | none => app2 P ts args s
  | 1 => app1 P ts args s
  | _ => app2 P ts args s
def noDh : Dh := fun _ _ _ => none
def noQ : Qh := fun _ _ _ => none
theorem noQ_ok {P : Program} : QOk P noQ := fun f args s v h => by cases h
/-- A value's operation, what it hands on, the blocks that it makes, the block that it changes. -/
def opVal (P : Program) (D : Dh) (op : Op) (e : List (Nat × V)) (s : Sto) : Option (V × List Ent × Option (Nat × Ent)) :=
  match op with
  | .alloc _ | .box _ _ | .buildSlice _ _ _ | .makeSlice _ _ _ | .makeMap _ _ => newVal (trimN s (valOpT none P op e (roS s) fun v s' => some (v, s')))
  | .store _ _ _ | .mapUpdate _ _ _ _ => match tgt op e with
    | some i => chgVal s i (valOpT none P op e (roBut i s) fun v s' => some (v, s'))
    | none => none
  | .call c => match c.callee with
    | .builtin b => match b with
      | .append => match getTL e c.args.toList with
        | some args => appVal P c.argTypes.toList args s
        | none => none
      | _ => match quietVal P noQ (.call c) e s with
        | some v => some (v, [], none)
        | none => none
    | _ => newVal (trimN s (callxT none P (retD D) c e (roS s) (fun v s' => some (v, s')) (fun _ _ => none)))
  | op => match quietVal P noQ op e s with
    | some v => some (v, [], none)
    | none => none
/-- The same, on the way to what is made of it; calls by Q. -/
def opValC {R : Type} (no : R) (P : Program) (Q : Ch R) (op : Op) (e : List (Nat × V)) (s : Sto) (K : V × List Ent × Option (Nat × Ent) → R) : R :=
  match op with
  | .alloc _ | .box _ _ | .buildSlice _ _ _ | .makeSlice _ _ _ | .makeMap _ _ => valOpT no P op e (roS s) fun v s' => Wi no (newVal (trimN s (some (v, s')))) K
  | .store _ _ _ | .mapUpdate _ _ _ _ => match tgt op e with
    | some i => valOpT no P op e (roBut i s) fun v s' => Wi no (chgVal s i (some (v, s'))) K
    | none => no
  | .call c => match c.callee with
    | .builtin b => match b with
      | .append => match getTL e c.args.toList with
        | some args => match appKind args s with
          | 0 => Wi no (appVal P c.argTypes.toList args s) K
          | 1 => vAppendE no P c.argTypes.toList args (roS s) fun v s' => Wi no (newVal (trimN s (some (v, s')))) K
          | _ => match tgtA args with
            | some i => match ownAt s i with
              | true => vAppendE no P c.argTypes.toList args (roBut i s) fun v s' => Wi no (app2f s i (some (v, s'))) K
              | false => no
            | none => no
        | none => no
      | _ => Wi no (opVal P noDh op e s) K
    | _ => callxT no P Q c e (roS s) (fun v s' => Wi no (newVal (trimN s (some (v, s')))) K) (fun _ _ => no)
  | op => match stillOp op with
    | true => valOpT no P op e s fun v _ => K (v, [], none)
    | false => no
/-- What Q's calls come to, D knows. -/
def PickD {R : Type} (T : R → Prop) (Q : Ch R) (D : Dh) : Prop := ∀ f args s K, T (Q f args s K) → ∃ r s', T (K r s') ∧ D f args s = some (r, s')
theorem callxT_pickD {P : Program} {R : Type} {no : R} {T : R → Prop} (hno : ¬ T no) {Q : Ch R} {D : Dh} (hQ : PickD T Q D) {c : Call} {e : List (Nat × V)} {s : Sto} {K : Kt R} (hb : ∀ b, c.callee ≠ .builtin b) (h : T (callxT no P Q c e s K (fun _ _ => no))) : ∃ v s', T (K v s') ∧ callxT none P (retD D) c e s (fun v s' => some (v, s')) (fun _ _ => none) = some (v, s') := by
  have hp : PickC T Q (fun f args s K0 => match D f args s with
      | some (r, s') => K0 r s'
      | none => none : Ch (Option (V × Sto))) := by
    intro f args s K h
    obtain ⟨r, s', h1, h2⟩ := hQ _ _ _ _ h
    exact ⟨r, s', h1, fun K0 => by simp only [h2]⟩
  obtain ⟨r, s', h1, h2⟩ := callxT_pick hno hp h
  cases r with
  | pan v => exact (hno h1).elim
  | ret v =>
    refine ⟨v, s', h1, ?_⟩
    have h3 := h2 (fun v s' => some (v, s')) (fun _ _ => none)
    simp only [resK] at h3
    rw [← h3]
    unfold callxT
    have key : ∀ f args s, retD D f args s (resK (fun v s' => some (v, s')) fun _ _ => none) = match D f args s with
        | some (r, s') => resK (fun v s' => some (v, s')) (fun _ _ => none) r s'
        | none => none := by
      intro f args s
      unfold retD
      cases D f args s with
      | none => rfl
      | some x => cases x with | mk r s' => cases r <;> rfl
    simp only [key]
theorem opValC_pick {P : Program} {R : Type} {no : R} {T : R → Prop} (hno : ¬ T no) {Q : Ch R} {D : Dh} (hQ : PickD T Q D) {op : Op} {e : List (Nat × V)} {s : Sto} {K : V × List Ent × Option (Nat × Ent) → R} (h : T (opValC no P Q op e s K)) : ∃ r, opVal P D op e s = some r ∧ T (K r) := by
  have mk : ∀ {op : Op} {s0 : Sto} {f : Option (V × Sto) → Option (V × List Ent × Option (Nat × Ent))}, T (valOpT no P op e s0 fun v s' => Wi no (f (some (v, s'))) K) → ∃ r, f (valOpT none P op e s0 fun v s' => some (v, s')) = some r ∧ T (K r) := by
    intro op s0 f h
    obtain ⟨v, s', h1, h2⟩ := valOpT_pick (α := V × Sto) hno h
    obtain ⟨r, h3, h4⟩ := Wi.out hno h1
    exact ⟨r, by rw [h2]; exact h3, h4⟩
  have ma : ∀ {ts : List TypeId} {args : List V} {s0 : Sto} {f : Option (V × Sto) → Option (V × List Ent × Option (Nat × Ent))}, T (vAppendE no P ts args s0 fun v s' => Wi no (f (some (v, s'))) K) → ∃ r, f (vBuiltinE none P .append ts args s0 fun v s' => some (v, s')) = some r ∧ T (K r) := by
    intro ts args s0 f h
    obtain ⟨v, s', h1, h2⟩ := vAppendE_pick (α := V × Sto) hno h
    obtain ⟨r, h3, h4⟩ := Wi.out hno h1
    refine ⟨r, ?_, h4⟩
    show f (vAppendE none P ts args s0 fun v s' => some (v, s')) = some r
    rw [h2]; exact h3
  have mq : ∀ {op : Op}, (∀ c, op ≠ .call c) → T (match stillOp op with | true => valOpT no P op e s fun v _ => K (v, [], none) | false => no) → ∃ r, (match quietVal P noQ op e s with | some v => some (v, [], none) | none => none) = some r ∧ T (K r) := by
    intro op hc h
    split at h
    · rename_i hs
      obtain ⟨v, s', h1, h2⟩ := valOpT_pick (α := V) hno h
      refine ⟨(v, [], none), ?_, h1⟩
      have : quietVal P noQ op e s = some v := by
        unfold quietVal
        split
        · rename_i c; exact (hc c rfl).elim
        · rw [hs]; exact h2 _
      rw [this]
    · exact (hno h).elim
  have gen : (∀ c, op ≠ .call c) → (opValC no P Q op e s K = match stillOp op with | true => valOpT no P op e s fun v _ => K (v, [], none) | false => no) → (opVal P D op e s = match quietVal P noQ op e s with | some v => some (v, [], none) | none => none) → ∃ r, opVal P D op e s = some r ∧ T (K r) := by
    intro hc h1 h2
    rw [h1] at h
    rw [h2]
    exact mq hc h
  cases op
  case call c =>
    simp only [opValC] at h
    split at h
    · rename_i b hb
      split at h
      · split at h
        · rename_i args ha
          have e0 : opVal P D (.call c) e s = appVal P c.argTypes.toList args s := by unfold opVal; simp only [hb, ha]
          rw [e0]
          split at h
          · exact Wi.out hno h
          · rename_i hk
            unfold appVal
            rw [hk]
            exact ma (f := fun x => newVal (trimN s x)) h
          · rename_i k hk0 hk1
            unfold appVal
            split
            · rename_i hk; exact absurd hk hk0
            · rename_i hk; exact absurd hk hk1
            · unfold app2
              split at h
              · rename_i i hi
                split at h
                · rename_i ho
                  try simp only [hi, ho]
                  exact ma (f := app2f s i) h
                · exact (hno h).elim
              · exact (hno h).elim
        · exact (hno h).elim
      · obtain ⟨r, h1, h2⟩ := Wi.out hno h
        refine ⟨r, ?_, h2⟩
        rw [← h1]
        unfold opVal
        simp only [hb]
    · rename_i hb
      obtain ⟨v, s', h1, h2⟩ := callxT_pickD hno hQ (fun b hb' => hb b hb') h
      obtain ⟨r, h3, h4⟩ := Wi.out hno h1
      refine ⟨r, ?_, h4⟩
      have e0 : opVal P D (.call c) e s = newVal (trimN s (callxT none P (retD D) c e (roS s) (fun v s' => some (v, s')) (fun _ _ => none))) := by
        cases hc : c.callee with
        | builtin b => exact (hb b hc).elim
        | _ => simp only [opVal, hc]
      rw [e0, h2]
      exact h3
  case store t a x =>
    simp only [opValC] at h
    split at h
    · rename_i i hi
      unfold opVal
      simp only [hi]
      exact mk (f := chgVal s i) h
    · exact (hno h).elim
  case mapUpdate t a x y =>
    simp only [opValC] at h
    split at h
    · rename_i i hi
      unfold opVal
      simp only [hi]
      exact mk (f := chgVal s i) h
    · exact (hno h).elim
  case alloc => exact mk (f := fun x => newVal (trimN s x)) h
  case box => exact mk (f := fun x => newVal (trimN s x)) h
  case buildSlice => exact mk (f := fun x => newVal (trimN s x)) h
  case makeSlice => exact mk (f := fun x => newVal (trimN s x)) h
  case makeMap => exact mk (f := fun x => newVal (trimN s x)) h
  all_goals exact gen (fun c hc => by cases hc) rfl rfl
def nexts (N : List (Nat × Ent)) (j : Nat) (es : List Ent) : List (Nat × Ent) := N ++ es.map fun e => (j, e)
def nextC (Cs : List (Nat × Nat × Ent)) (j : Nat) : Option (Nat × Ent) → List (Nat × Nat × Ent)
  | none => Cs
  | some x => Cs ++ [(j, x.1, x.2)]
def okF (TC : List Nat) (b : Nat) (N : List (Nat × Ent)) (j : Nat) : Nat → Bool := okAt b N fun q => Nat.beq q j || tcAt TC j q
def okR (TC : List Nat) (b : Nat) (N N2 : List (Nat × Ent)) (j : Nat) (r : V × List Ent × Option (Nat × Ent)) : Bool :=
  r.1.ok (okF TC b N2 j) && r.2.1.all (fun ent => ent.ok (okF TC b N2 j)) && match r.2.2 with
    | some x => x.2.ok (okF TC b N2 j) && okAt b N (tcAt TC j) x.1
    | none => true
def dqrun {R : Type} (no : R) (P : Program) (D : Ch R) (n : Nat) (ops : List Oper) (TC : List Nat) (ch : List (Nat × Nat)) (s : Sto) (K : List (Nat × V) → List (Nat × Ent) → List (Nat × Nat × Ent) → R) : List Oper → Nat → List (Nat × V) → List (Nat × Ent) → List (Nat × Nat × Ent) → R
  | [], _, e, N, Cs => K e N Cs
  | o :: os, j, e, N, Cs =>
    vWantedT no ops o e
      (fun e => opValC no P D o.op e (viewQ TC ch s N Cs j) fun r => match okR TC s.length N (nexts N j r.2.1) j r with
        | true => fl (putT n e o.dst r.1) fun e => fl (nexts N j r.2.1) fun N => fl (nextC Cs j r.2.2) fun Cs => dqrun no P D n ops TC ch s K os (j + 1) e N Cs
        | false => no)
      (fun e => fl (putT n e o.dst (.raw undef)) fun e => dqrun no P D n ops TC ch s K os (j + 1) e N Cs)
/-- What an operation that makes new blocks leaves. -/
structure News (ρ ρ' : Rho) (w w' : World) (b : Nat) (es : List Ent) : Prop where
  same : Same w w'
  old : ∀ i, i < b ∨ b + es.length ≤ i → ρ' i = ρ i
  ent : ∀ (m : Nat) e, es[m]? = some e → e.live = true → RepE ρ' w' (b + m) e ∧ w.heap.size ≤ (ρ' (b + m)).1
  sep : ∀ (m m' : Nat) e e', es[m]? = some e → es[m']? = some e' → e.isOwn = true → e'.live = true → m ≠ m' → (ρ' (b + m)).1 ≠ (ρ' (b + m')).1
/-- What an operation leaves that makes new blocks or changes one. -/
structure Acts (ρ ρ' : Rho) (w w' : World) (S : Sto) (es : List Ent) (c : Option (Nat × Ent)) : Prop where
  os : w'.os = w.os
  tape : w'.tape = w.tape
  output : w'.output = w.output
  size : w.heap.size ≤ w'.heap.size
  block : ∀ b, b < w.heap.size → (∀ i e, c = some (i, e) → (ρ i).1 ≠ b) → w'.heap[b]? = w.heap[b]?
  old : ∀ i, i < S.length ∨ S.length + es.length ≤ i → ρ' i = ρ i
  ent : ∀ (m : Nat) e, es[m]? = some e → e.live = true → RepE ρ' w' (S.length + m) e ∧ (w.heap.size ≤ (ρ' (S.length + m)).1 ∨ ∃ i, c = some (i, .no) ∧ (ρ' (S.length + m)).1 = (ρ i).1)
  sep : ∀ (m m' : Nat) e e', es[m]? = some e → es[m']? = some e' → e.isOwn = true → e'.live = true → m ≠ m' → (ρ' (S.length + m)).1 ≠ (ρ' (S.length + m')).1
  chg : ∀ i e, c = some (i, e) → (∃ e0, S[i]? = some e0 ∧ e0.isOwn = true) ∧ ((RepE ρ' w' i e ∧ e.isOwn = true ∧ es = []) ∨ e = .no)
theorem News.acts {ρ ρ' : Rho} {w w' : World} {S : Sto} {es : List Ent} (h : News ρ ρ' w w' S.length es) : Acts ρ ρ' w w' S es none :=
  ⟨h.same.os, h.same.tape, h.same.output, h.same.size, fun b hb _ => h.same.block b hb, h.old, fun m e hm hl => ⟨(h.ent m e hm hl).1, .inl (h.ent m e hm hl).2⟩, h.sep, fun i e h => by cases h⟩
theorem News.none {ρ : Rho} {w w' : World} {b : Nat} (h : Same w w') : News ρ ρ w w' b [] := ⟨h, fun _ _ => rfl, fun m e h => by simp at h, fun m m' e e' h => by simp at h⟩
section
variable {P : Program}
theorem trim_sound {ρ ρ1 : Rho} {s s' : Sto} {w w1 : World} {v v2 : V} {es : List Ent} (hr : Rep ρ1 s' w1) (he : Ext (roS s) ρ w s' ρ1 w1) (hs : sbd s') (hv : v.bd s'.length) (ht : trimN s (some (v, s')) = some (v2, es)) :
    ∃ ρ', News ρ ρ' w w1 s.length es ∧ v.abs ρ1 = v2.abs ρ' := by
  have hro : (roS s).length = s.length := toRo_length s
  have hle : s.length ≤ s'.length := by have := he.len; rwa [hro] at this
  unfold trimN at ht
  dsimp only at ht
  split at ht
  · rename_i hb
    cases ht
    exact ⟨ρ, News.none (Ext.same_ro he), V.abs_congr (fun i hi => he.same i (by rw [hro]; exact hi)) v (V.bd_of _ hb)⟩
  · split at ht
    · rename_i hall
      cases ht
      have hlen : (s'.drop s.length).length = s'.length - s.length := List.length_drop
      have hget : ∀ (m : Nat) (e : Ent), (s'.drop s.length)[m]? = some e → s'[s.length + m]? = some e := fun m e h => by rwa [List.getElem?_drop] at h
      have hown : ∀ (m : Nat) (e : Ent), (s'.drop s.length)[m]? = some e → e.live = true → e.isOwn = true := fun m e h hl => by
        have := List.all_eq_true.1 hall e (List.mem_of_getElem? h)
        simpa [hl] using this
      obtain ⟨ρ', hρ2, hρ3⟩ : ∃ ρ' : Rho, (∀ i, i < s'.length → ρ' i = ρ1 i) ∧ ∀ i, i < s.length ∨ s'.length ≤ i → ρ' i = ρ i := by
        refine ⟨fun i => if s.length ≤ i ∧ i < s'.length then ρ1 i else ρ i, fun i hi => ?_, fun i hi => ?_⟩
        · simp only
          split
          · rfl
          · rename_i hn
            exact (he.same i (by rw [hro]; omega)).symm
        · exact if_neg (by omega)
      refine ⟨ρ', ⟨Ext.same_ro he, fun i hi => hρ3 i (by rw [hlen] at hi; omega), fun m e hm hl => ?_, fun m m' e e' hm hm' ho hl hne => ?_⟩, (V.abs_congr hρ2 v hv).symm⟩
      · have hsm := hget m e hm
        have hlt : s.length + m < s'.length := (List.getElem?_eq_some_iff.1 hsm).1
        refine ⟨RepE.congr (n := s'.length) hρ2 hlt (hs _ _ hsm) rfl (Nat.le_refl _) (hr.ent _ _ hsm), ?_⟩
        rw [hρ2 _ hlt]
        rcases he.own _ _ hsm (hown m e hm hl) with ⟨j, e2, h1, h2, _⟩ | h1
        · rw [toRo_own _ _ _ h1] at h2; cases h2
        · exact h1
      · have hsm := hget m e hm
        have hsm' := hget m' e' hm'
        have hlt : s.length + m < s'.length := (List.getElem?_eq_some_iff.1 hsm).1
        have hlt' : s.length + m' < s'.length := (List.getElem?_eq_some_iff.1 hsm').1
        rw [hρ2 _ hlt, hρ2 _ hlt']
        exact hr.sep _ _ e e' hsm hsm' ho hl (by omega)
    · cases ht
theorem roBut_length : ∀ (i : Nat) (s : Sto), (roBut i s).length = s.length
  | 0, [] => rfl
  | i + 1, [] => rfl
  | 0, e :: s => by simp [roBut, roS]
  | i + 1, e :: s => by simp [roBut, roBut_length i s]
theorem roBut_get : ∀ (i : Nat) (s : Sto) (j : Nat), (roBut i s)[j]? = if j = i then s[j]? else (roS s)[j]?
  | i, [], j => by simp [roBut, roS]
  | 0, e :: s, 0 => by simp [roBut]
  | 0, e :: s, j + 1 => by simp [roBut, roS]
  | i + 1, e :: s, 0 => by simp [roBut, roS]
  | i + 1, e :: s, j + 1 => by
    have := roBut_get i s j
    simp only [roBut, List.getElem?_cons_succ, this]
    by_cases h : j = i
    · simp [h]
    · simp [h, roS]
theorem toRo_live {e : Ent} (h : e.toRo.live = true) : e.live = true := by cases e <;> simp_all [Ent.toRo, Ent.live]
theorem Rep.roBut {ρ : Rho} {s : Sto} {w : World} (h : Rep ρ s w) (i : Nat) : Rep ρ (roBut i s) w := by
  refine ⟨fun j e he => ?_, fun j k e f he hf ho hl hjk => ?_⟩
  · rw [roBut_get] at he
    split at he
    · exact h.ent j e he
    · exact h.toRo.ent j e he
  · rw [roBut_get] at he hf
    split at he
    · rename_i hj
      split at hf
      · rename_i hk; exact absurd (hj.trans hk.symm) hjk
      · simp only [roS, List.getElem?_map] at hf
        obtain ⟨g, hg, rfl⟩ := Option.map_eq_some_iff.1 hf
        exact h.sep j k e g he hg ho (toRo_live hl) hjk
    · rw [toRo_own s j e he] at ho; cases ho
theorem sbd.roBut {s : Sto} (h : sbd s) (i : Nat) : sbd (roBut i s) := by
  intro j e he
  rw [roBut_length]
  rw [roBut_get] at he
  split at he
  · exact h j e he
  · have := h.toRo j e he
    rwa [toRo_length] at this
theorem app1_sound {ts : List TypeId} {ty : TypeId} {cs : Array Bool} {ρ : Rho} {s : Sto} {w : World} {args : List V} {v : V} {es : List Ent} {c : Option (Nat × Ent)} (hr : Rep ρ s w) (hs : sbd s) (hb : bdL s.length args) (h : app1 P ts args s = some (v, es, c)) :
    ∃ ρ' w', (builtin .append ts.toArray ty cs (absL ρ args).toArray).run P w = .ok (.value (v.abs ρ')) w' ∧ Acts ρ ρ' w w' s es c := by
  unfold app1 newVal at h
  split at h
  · rename_i v2 es2 ht
    simp only [Option.some.injEq, Prod.mk.injEq] at h
    obtain ⟨rfl, rfl, rfl⟩ := h
    generalize hx : (vBuiltinE none P .append ts args (roS s) fun v s' => some (v, s')) = x at ht
    cases x with
    | none => cases ht
    | some vs =>
      obtain ⟨v', s'⟩ := vs
      obtain ⟨u, s1, ρ1, w1, k1, k2, k3, k4, k5, k6⟩ := builtinE_sound (no := none) (T := fun x => x = some (v', s')) (by simp) (st := ⟨0, [], roS s⟩) (K := fun v s' => some (v, s')) (ty := ty) (cs := cs) (ts := ts.toArray) hr.toRo hs.toRo (by show bdL (roS s).length args; rw [toRo_length]; exact hb) hx
      simp only [Option.some.injEq, Prod.mk.injEq] at k2
      obtain ⟨rfl, rfl⟩ := k2
      obtain ⟨ρ', n1, n2⟩ := trim_sound k3 k4 k5 k6 ht
      exact ⟨ρ', w1, by rw [← n2]; exact k1, n1.acts⟩
  · cases h
theorem app2_sound {ts : List TypeId} {ty : TypeId} {cs : Array Bool} {ρ : Rho} {s : Sto} {w : World} {args : List V} {v : V} {es : List Ent} {c : Option (Nat × Ent)} (hr : Rep ρ s w) (hs : sbd s) (hb : bdL s.length args) (h : app2 P ts args s = some (v, es, c)) :
    ∃ ρ' w', (builtin .append ts.toArray ty cs (absL ρ args).toArray).run P w = .ok (.value (v.abs ρ')) w' ∧ Acts ρ ρ' w w' s es c := by
  unfold app2 at h
  split at h
  case h_2 => cases h
  rename_i i hi
  split at h
  case h_2 => cases h
  rename_i ho0'
  obtain ⟨e0, he0, ho0⟩ : ∃ e0, s[i]? = some e0 ∧ e0.isOwn = true := by
    unfold ownAt at ho0'
    split at ho0'
    · exact ⟨_, ‹_›, ho0'⟩
    · cases ho0'
  unfold app2f at h
  split at h
  case h_2 => cases h
  rename_i v2 s' hx
  split at h
  case h_2 => cases h
  rename_i hall
  have hlb := roBut_length i s
  obtain ⟨u, s1, ρ1, w1, k1, k2, k3, k4, k5, k6⟩ := builtinE_sound (no := none) (T := fun x => x = some (v2, s')) (by simp) (st := ⟨0, [], roBut i s⟩) (K := fun v s' => some (v, s')) (ty := ty) (cs := cs) (ts := ts.toArray) (hr.roBut i) (hs.roBut i) (by show bdL (roBut i s).length args; rw [hlb]; exact hb) hx
  simp only [Option.some.injEq, Prod.mk.injEq] at k2
  obtain ⟨rfl, rfl⟩ := k2
  have hle : s.length ≤ s1.length := by have := k4.len; rwa [hlb] at this
  have hil : i < s.length := (List.getElem?_eq_some_iff.1 he0).1
  have hold : ∀ (j : Nat) (e : Ent), (roBut i s)[j]? = some e → e.isOwn = true → j = i := by
    intro j e hj ho
    rw [roBut_get] at hj
    split at hj
    · assumption
    · rw [toRo_own s j e hj] at ho; cases ho
  have hblk : ∀ b, b < w.heap.size → (ρ i).1 ≠ b → w1.heap[b]? = w.heap[b]? := fun b hb hne => k4.block b hb fun j e hj ho => by rw [hold j e hj ho]; exact hne
  obtain ⟨ρ', hρ2, hρ3⟩ : ∃ ρ' : Rho, (∀ i, i < s1.length → ρ' i = ρ1 i) ∧ ∀ i, i < s.length ∨ s1.length ≤ i → ρ' i = ρ i := by
    refine ⟨fun i => if s.length ≤ i ∧ i < s1.length then ρ1 i else ρ i, fun i hi => ?_, fun i hi => ?_⟩
    · simp only
      split
      · rfl
      · rename_i hn
        exact (k4.same i (by rw [hlb]; omega)).symm
    · exact if_neg (by omega)
  have hlen : (s1.drop s.length).length = s1.length - s.length := List.length_drop
  have hget : ∀ (m : Nat) (e : Ent), (s1.drop s.length)[m]? = some e → s1[s.length + m]? = some e := fun m e h => by rwa [List.getElem?_drop] at h
  have hown : ∀ (m : Nat) (e : Ent), (s1.drop s.length)[m]? = some e → e.live = true → e.isOwn = true := fun m e h hl => by
    have := List.all_eq_true.1 hall e (List.mem_of_getElem? h)
    simpa [hl] using this
  have hrep : ∀ (j : Nat) (e : Ent), s1[j]? = some e → RepE ρ' w1 j e := fun j e hj => RepE.congr (n := s1.length) hρ2 (List.getElem?_eq_some_iff.1 hj).1 (k5 _ _ hj) rfl (Nat.le_refl _) (k3.ent _ _ hj)
  have habs : u.abs ρ' = u.abs ρ1 := V.abs_congr hρ2 u k6
  split at h
  · rename_i hdrop
    split at h
    case h_2 => cases h
    rename_i e' he'
    split at h
    case h_2 => cases h
    rename_i hck
    simp only [Option.some.injEq, Prod.mk.injEq] at h
    obtain ⟨rfl, rfl, rfl⟩ := h
    simp only [Bool.and_eq_true] at hck
    refine ⟨ρ', w1, by rw [habs]; exact k1, ⟨k4.os, k4.tape, k4.output, k4.size, fun b hb hne => hblk b hb (hne _ _ rfl), fun j hj => hρ3 j ?_, fun m e h => by simp at h, fun m m' e e' h => by simp at h, fun j e hj => ?_⟩⟩
    · rw [hdrop] at hlen
      simp only [List.length_nil] at hlen hj
      omega
    · simp only [Option.some.injEq, Prod.mk.injEq] at hj
      obtain ⟨rfl, rfl⟩ := hj
      exact ⟨⟨e0, he0, ho0⟩, .inl ⟨hrep _ _ he', hck.1, rfl⟩⟩
  · rename_i e1 es1 hdrop
    simp only [Option.some.injEq, Prod.mk.injEq] at h
    obtain ⟨rfl, rfl, rfl⟩ := h
    rw [← hdrop]
    refine ⟨ρ', w1, by rw [habs]; exact k1, ⟨k4.os, k4.tape, k4.output, k4.size, fun b hb hne => hblk b hb (hne _ _ rfl), fun j hj => hρ3 j (by rw [hlen] at hj; omega), fun m e hm hl => ?_, fun m m' e e' hm hm' ho hl hne => ?_, fun j e hj => ?_⟩⟩
    · have hsm := hget m e hm
      refine ⟨hrep _ _ hsm, ?_⟩
      rw [hρ2 _ (List.getElem?_eq_some_iff.1 hsm).1]
      rcases k4.own _ _ hsm (hown m e hm hl) with ⟨j, e2, h1, h2, h3⟩ | h1
      · rw [hold j e2 h1 h2] at h3
        exact .inr ⟨i, rfl, h3.symm⟩
      · exact .inl h1
    · have hsm := hget m e hm
      have hsm' := hget m' e' hm'
      rw [hρ2 _ (List.getElem?_eq_some_iff.1 hsm).1, hρ2 _ (List.getElem?_eq_some_iff.1 hsm').1]
      exact k3.sep _ _ e e' hsm hsm' ho hl (by omega)
    · simp only [Option.some.injEq, Prod.mk.injEq] at hj
      obtain ⟨rfl, rfl⟩ := hj
      exact ⟨⟨e0, he0, ho0⟩, .inr rfl⟩
/-- What an append leaves. -/
theorem appVal_sound {ts : List TypeId} {ty : TypeId} {cs : Array Bool} {ρ : Rho} {s : Sto} {w : World} {args : List V} {v : V} {es : List Ent} {c : Option (Nat × Ent)} (hr : Rep ρ s w) (hs : sbd s) (hb : bdL s.length args) (h : appVal P ts args s = some (v, es, c)) :
    ∃ ρ' w', (builtin .append ts.toArray ty cs (absL ρ args).toArray).run P w = .ok (.value (v.abs ρ')) w' ∧ Acts ρ ρ' w w' s es c := by
  unfold appVal at h
  split at h
  · split at h
    · rename_i r hr1
      cases h
      exact app1_sound hr hs hb hr1
    · exact app2_sound hr hs hb h
  · exact app1_sound hr hs hb h
  · exact app2_sound hr hs hb h
theorem opVal_sound {r : Option Nat} {D : Dh} (hD : DOk P D) {ρ : Rho} {st : St} {a : Act} {w : World} (h : Sim Δ ρ st a w) {o : Oper} {v : V} {es : List Ent} {c : Option (Nat × Ent)} (hv : opVal P D o.op st.t st.s = some (v, es, c)) {K : Act → World → Prop} {X : Exit → Act → World → Prop}
    (hK : ∀ ρ' w', Acts ρ ρ' w w' st.s es c → K (a.put o.dst (v.abs ρ')) w') : o.wpIn (Fr r) 0 P a w K X := by
  have hnd : ∀ c, o.op ≠ .defer c := fun c hc => by rw [hc] at hv; simp [opVal, quietVal, stillOp] at hv
  have hro : (roS st.s).length = st.s.length := toRo_length st.s
  have sim' : Sim Δ ρ ⟨st.n, st.t, roS st.s⟩ a w := ⟨h.defers, h.size, h.tmps, fun t u hu => by rw [toRo_length]; exact h.bd t u hu, h.rep.toRo, h.sb.toRo⟩
  have newV : ∀ x, newVal x = some (v, es, c) → x = some (v, es) ∧ c = none := by
    intro x hx
    unfold newVal at hx
    split at hx
    · cases hx; exact ⟨rfl, rfl⟩
    · cases hx
  have alloc : newVal (trimN st.s (valOpT none P o.op st.t (roS st.s) fun v s' => some (v, s'))) = some (v, es, c) → o.wp P a w K X := by
    intro hval
    obtain ⟨hv2, rfl⟩ := newV _ hval
    clear hval
    generalize hx : (valOpT none P o.op st.t (roS st.s) fun v s' => some (v, s')) = x at hv2
    cases x with
    | none => cases hv2
    | some vs =>
      obtain ⟨v', s'⟩ := vs
      obtain ⟨n, u, s1, ρ1, w1, r1, r2, r3, r4, r5, r6, r7, r8⟩ := valOp_sound (T := fun x => x = some (v', s')) (by simp) sim' (o := o) (K := fun v s' => some (v, s')) hx
      simp only [Option.some.injEq, Prod.mk.injEq] at r3
      obtain ⟨rfl, rfl⟩ := r3
      obtain ⟨ρ', n1, n2⟩ := trim_sound r4 r5 r6 r7 hv2
      have hfin := hK ρ' w1 n1.acts
      rw [← n2] at hfin
      unfold Oper.wp
      rw [r1]
      rcases r2 with rfl | ⟨rfl, rfl⟩
      · rw [Oper.upon_value]; exact hfin
      · rw [Oper.upon_skip]; exact hfin
  have change : ∀ i, chgVal st.s i (valOpT none P o.op st.t (roBut i st.s) fun v s' => some (v, s')) = some (v, es, c) → o.wp P a w K X := by
    intro i hval
    have sim2 : Sim Δ ρ ⟨st.n, st.t, roBut i st.s⟩ a w := ⟨h.defers, h.size, h.tmps, fun t u hu => by rw [roBut_length]; exact h.bd t u hu, h.rep.roBut i, h.sb.roBut i⟩
    unfold chgVal at hval
    split at hval
    · rename_i e0 he0
      split at hval
      · rename_i v' s' hx
        split at hval
        · rename_i e' he'
          split at hval
          · rename_i hck
            simp only [Option.some.injEq, Prod.mk.injEq] at hval
            obtain ⟨rfl, rfl, rfl⟩ := hval
            simp only [Bool.and_eq_true] at hck
            obtain ⟨⟨⟨ho0, hlen⟩, ho'⟩, hbd⟩ := hck
            have hlen := Nat.eq_of_beq_eq_true hlen
            obtain ⟨n, u, s1, ρ1, w1, r1, r2, r3, r4, r5, r6, r7, r8⟩ := valOp_sound (T := fun x => x = some (v', s')) (by simp) sim2 (o := o) (K := fun v s' => some (v, s')) hx
            simp only [Option.some.injEq, Prod.mk.injEq] at r3
            obtain ⟨rfl, rfl⟩ := r3
            have hρ : ∀ k, k < st.s.length → ρ k = ρ1 k := fun k hk => (r5.same k (by rw [roBut_length]; exact hk)).symm
            have hi : i < st.s.length := (List.getElem?_eq_some_iff.1 he0).1
            have hb' : e'.bd st.s.length := by have := r6 i e' he'; rwa [hlen] at this
            have hfin := hK ρ w1 ⟨r5.os, r5.tape, r5.output, r5.size, fun b hb hne => r5.block b hb fun k e hk ho => ?_, fun _ _ => rfl, fun m e h => by simp at h, fun m m' e e' h => by simp at h, fun k e hk => ?_⟩
            · rw [← V.abs_congr (fun k hk => (hρ k hk).symm) u (V.bd_of _ hbd)] at hfin
              unfold Oper.wp
              rw [r1]
              rcases r2 with rfl | ⟨rfl, rfl⟩
              · rw [Oper.upon_value]; exact hfin
              · rw [Oper.upon_skip]; exact hfin
            · rw [roBut_get] at hk
              split at hk
              · rename_i hki
                subst hki
                exact hne _ _ rfl
              · rw [toRo_own _ _ _ hk] at ho; cases ho
            · simp only [Option.some.injEq, Prod.mk.injEq] at hk
              obtain ⟨rfl, rfl⟩ := hk
              exact ⟨⟨e0, he0, ho0⟩, .inl ⟨RepE.congr (n := st.s.length) hρ hi hb' rfl (Nat.le_refl _) (r4.ent _ _ he'), ho', rfl⟩⟩
          · cases hval
        · cases hval
      · cases hval
    · cases hval
  have quiet : ∀ u, quietVal P noQ o.op st.t st.s = some u → u = v → es = [] → c = none → o.wp P a w K X := by
    rintro u hq rfl rfl rfl
    exact (quietVal_sound noQ_ok h hq).1 w h.rep K X fun w' h1 h2 h3 => hK ρ w' (News.none h3).acts
  have changes : (match tgt o.op st.t with | some i => chgVal st.s i (valOpT none P o.op st.t (roBut i st.s) fun v s' => some (v, s')) | none => none) = some (v, es, c) → o.wp P a w K X := by
    intro hx
    split at hx
    · exact change _ hx
    · cases hx
  unfold opVal at hv
  split at hv
  case h_8 =>
    rename_i cl hc
    split at hv
    · rename_i b hb
      split at hv
      · split at hv
        · rename_i args ha
          obtain ⟨f1, f2⟩ := h.evalL ha
          refine wpIn_fr hnd ?_
          have hex : execOp a.eval o = (do let d ← resolve a.eval cl o.type; invoke d.target d.args) := by unfold execOp; rw [hc]
          unfold Oper.wp
          rw [hex]
          simp only [resolve, hb, toArray_eval f1, pure_bind, invoke]
          obtain ⟨ρ', w', k1, k2⟩ := appVal_sound (ty := o.type) (cs := _) h.rep h.sb f2 hv
          rw [show cl.argTypes = cl.argTypes.toList.toArray by simp, k1, Oper.upon_value]
          exact hK ρ' w' k2
        · cases hv
      · split at hv
        · rename_i u hq
          cases hv
          exact wpIn_fr hnd (quiet _ (by rw [hc]; exact hq) rfl rfl rfl)
        · cases hv
    · rename_i hnb
      obtain ⟨hv2, rfl⟩ := newV _ hv
      clear hv
      generalize hx : (callxT none P (retD D) cl st.t (roS st.s) (fun v s' => some (v, s')) (fun _ _ => none) : Option (V × Sto)) = x at hv2
      cases x with
      | none => cases hv2
      | some vs =>
        obtain ⟨v', s'⟩ := vs
        refine callx_sound (no := none) (T := fun x => x = some (v', s')) (by simp) (fun f args hk => ?_) sim' ⟨fun u s1 ρ1 w1 k1 k2 k3 k4 k5 => ?_, fun u s1 ρ1 w1 k1 k2 k3 k4 k5 => ?_⟩ hc hx
        · unfold retD at hk
          split at hk
          · rename_i u s2 hd
            exact ((hD _ _ _ _ _ hd).mono fun r s hr => by obtain ⟨rfl, rfl⟩ := hr; exact hk).tg
          · cases hk
        · simp only [Option.some.injEq, Prod.mk.injEq] at k1
          obtain ⟨rfl, rfl⟩ := k1
          obtain ⟨ρ', n1, n2⟩ := trim_sound k2 k3 k4 k5 hv2
          rw [n2]
          exact hK ρ' w1 n1.acts
        · cases k1
  case h_9 =>
    split at hv
    · rename_i u hq
      cases hv
      exact wpIn_fr hnd (quiet _ hq rfl rfl rfl)
    · cases hv
  all_goals first | exact wpIn_fr hnd (alloc hv) | exact wpIn_fr hnd (changes hv)
end
end Go.Proofs.YtalgegmcllcnmaaRL
end
