/- RL: what an operation comes to is one value and one store, whatever is made of them. -/
import Derived.Test.YtpahclogghdnpaaDoorzA64KindsRL9
namespace Go.Proofs.YtpahclogghdnpaaDoorRL
open Go
set_option linter.unusedVariables false
set_option linter.unusedSimpArgs false
section
variable {P : Program} {R : Type} {no : R} {T : R → Prop} {α : Type}
theorem Wi.pick (hno : ¬ T no) {β : Type} {x : Option β} {A : β → R} (h : T (Wi no x A)) : ∃ a, x = some a ∧ T (A a) := Wi.out hno h
theorem vBin_pick (hno : ¬ T no) {op : BinOp} {t : TypeId} {x y : V} {K : V → R} (h : T (vBin no P op t x y K)) : ∃ v, T (K v) ∧ ∀ K0 : V → Option α, vBin none P op t x y K0 = K0 v := by
  unfold vBin at h ⊢
  repeat' (first
    | exact (hno h).elim
    | exact ⟨_, h, fun _ => rfl⟩
    | split at h
    | (replace h := Br.out h; rcases h with ⟨hb, h⟩ | ⟨hb, h⟩ <;> simp only [hb, Br])
    | (replace h := Wi.pick hno h; obtain ⟨z, hz, h⟩ := h; simp only [hz, Wi]))
theorem vOpt_pick (hno : ¬ T no) {t : List (Nat × V)} {x : Option Operand} {K : Option V → R} (h : T (vOpt no t x K)) : ∃ v, T (K v) ∧ ∀ K0 : Option V → Option α, vOpt none t x K0 = K0 v := by
  unfold vOpt at h ⊢
  repeat' (first
    | exact ⟨_, h, fun _ => rfl⟩
    | split at h
    | (replace h := Wi.pick hno h; obtain ⟨z, hz, h⟩ := h; simp only [hz, Wi]))
theorem vBoundsO_pick (hno : ¬ T no) {x : Option V} {d y : Nat} {K : Nat → R} (h : T (vBoundsO no x d y K)) : ∃ n, T (K n) ∧ ∀ K0 : Nat → Option α, vBoundsO none x d y K0 = K0 n := by
  unfold vBoundsO at h ⊢
  split at h
  · exact ⟨_, h, fun _ => rfl⟩
  · unfold vBounds at h ⊢
    rcases Br.out h with ⟨hb, h⟩ | ⟨hb, h⟩
    · rcases Br.out h with ⟨hb2, h⟩ | ⟨hb2, h⟩
      · exact ⟨_, h, fun _ => by simp only [hb, hb2, Br]⟩
      · exact (hno h).elim
    · exact (hno h).elim
  · exact (hno h).elim
theorem splI_pick {i : Int} {K : Nat → R} : ∀ {n k : Nat}, T (splI i K n k) → ∃ m, T (K m) ∧ ∀ K0 : Nat → Option α, splI i K0 n k = K0 m := by
  intro n
  induction n with
  | zero => intro k h; exact ⟨k, h, fun _ => rfl⟩
  | succ n ih =>
    intro k h
    simp only [splI] at h ⊢
    rcases Br.out h with ⟨hb, h⟩ | ⟨hb, h⟩
    · exact ⟨k, h, fun _ => by simp only [hb, Br]⟩
    · obtain ⟨m, h1, h2⟩ := ih h
      exact ⟨m, h1, fun K0 => by simp only [hb, Br]; exact h2 K0⟩
theorem vLoadE_pick (hno : ¬ T no) {t : TypeId} {s : Sto} {i z k f : Nat} {K : V → R} (h : T (vLoadE no P t s i z k f K)) : ∃ v, T (K v) ∧ ∀ K0 : V → Option α, vLoadE none P t s i z k f K0 = K0 v := by
  unfold vLoadE at h
  split at h
  case h_2 => exact (hno h).elim
  rename_i m cols n e hi
  split at h
  case h_2 => exact (hno h).elim
  rename_i hz
  rcases Br.out h with ⟨hk, h⟩ | ⟨_, h⟩
  case inr => exact (hno h).elim
  obtain ⟨d, hd, h⟩ := Wi.out hno h
  cases hag : aggD d with
  | true =>
    rw [hag] at h
    obtain ⟨inf, hinf, h⟩ := Wi.out hno h
    split at h
    case h_2 => exact (hno h).elim
    rename_i hle
    obtain ⟨vs, hvs, h⟩ := Wi.out hno h
    exact ⟨_, h, fun K0 => by simp only [vLoadE, hi, hz, hk, hd, hag, hinf, hle, hvs, Br, Wi]⟩
  | false =>
    rw [hag] at h
    replace h : T (match Nat.blt f z with | true => Wi no (rdC cols k f) K | false => no) := h
    split at h
    case h_2 => exact (hno h).elim
    rename_i hf
    obtain ⟨v, hv, h⟩ := Wi.out hno h
    exact ⟨_, h, fun K0 => by simp only [vLoadE, hi, hz, hk, hd, hag, hf, hv, Br, Wi]⟩
theorem vStoreE_pick (hno : ¬ T no) {t : TypeId} {s : Sto} {i z k f : Nat} {v : V} {K : Sto → R} (h : T (vStoreE no P t s i z k f v K)) : ∃ s', T (K s') ∧ ∀ K0 : Sto → Option α, vStoreE none P t s i z k f v K0 = K0 s' := by
  unfold vStoreE at h
  split at h
  case h_2 => exact (hno h).elim
  rename_i m cols n e hi
  split at h
  case h_2 => exact (hno h).elim
  rename_i hz
  rcases Br.out h with ⟨hk, h⟩ | ⟨_, h⟩
  case inr => exact (hno h).elim
  obtain ⟨inf, hinf, h⟩ := Wi.out hno h
  split at h
  case h_2 => exact (hno h).elim
  rename_i hb
  obtain ⟨cols', hc, h⟩ := Wi.out hno h
  rw [flA_eq] at h
  exact ⟨_, h, fun K0 => by simp only [vStoreE, hi, hz, hk, hinf, hb, hc, Br, Wi, flA_eq]⟩
theorem sleCut_pick (hno : ¬ T no) {i z k0 len cap : Nat} {lo hi mx : Option V} {K : V → R} (h : T (sleCut no i z k0 len cap lo hi mx K)) : ∃ v, T (K v) ∧ ∀ K0 : V → Option α, sleCut none i z k0 len cap lo hi mx K0 = K0 v := by
  have key : T (vBoundsO no mx cap cap fun m => vBoundsO no hi len (mxCap mx m cap) fun h => vBoundsO no lo 0 h fun l =>
      Br (Nat.beq l 0) (K (.sle i z k0 h m)) (Br (Nat.beq m l) (K (.sle i z k0 (h - l) (m - l))) (K (.sle i z (l + k0) (h - l) (m - l))))) → ∃ v, T (K v) ∧ ∀ K0 : V → Option α, (vBoundsO none mx cap cap fun m => vBoundsO none hi len (mxCap mx m cap) fun h => vBoundsO none lo 0 h fun l =>
      Br (Nat.beq l 0) (K0 (.sle i z k0 h m)) (Br (Nat.beq m l) (K0 (.sle i z k0 (h - l) (m - l))) (K0 (.sle i z (l + k0) (h - l) (m - l))))) = K0 v := by
    intro h
    obtain ⟨m, h, e1⟩ := vBoundsO_pick (α := α) hno h
    obtain ⟨hh, h, e2⟩ := vBoundsO_pick (α := α) hno h
    obtain ⟨l, h, e3⟩ := vBoundsO_pick (α := α) hno h
    rcases Br.out h with ⟨hb, h⟩ | ⟨hb, h⟩
    · exact ⟨_, h, fun K0 => by simp only [e1, e2, e3, hb, Br]⟩
    · rcases Br.out h with ⟨hb2, h⟩ | ⟨hb2, h⟩
      · exact ⟨_, h, fun K0 => by simp only [e1, e2, e3, hb, hb2, Br]⟩
      · exact ⟨_, h, fun K0 => by simp only [e1, e2, e3, hb, hb2, Br]⟩
  unfold sleCut at h ⊢
  cases mx <;> cases hi <;> first | exact (hno h).elim | exact key h
theorem lseCut_pick (hno : ¬ T no) {i k z e len : Nat} {lo hi : Option V} {K : V → R} (h : T (lseCut no i k z e len lo hi K)) : ∃ v, T (K v) ∧ ∀ K0 : V → Option α, lseCut none i k z e len lo hi K0 = K0 v := by
  unfold lseCut at h ⊢
  obtain ⟨hh, h, e2⟩ := vBoundsO_pick (α := α) hno h
  obtain ⟨l, h, e3⟩ := vBoundsO_pick (α := α) hno h
  rcases Br.out h with ⟨hb, h⟩ | ⟨hb, h⟩
  · exact ⟨_, h, fun K0 => by simp only [e2, e3, hb, Br]⟩
  · rcases Br.out h with ⟨hb2, h⟩ | ⟨hb2, h⟩
    · exact ⟨_, h, fun K0 => by simp only [e2, e3, hb, hb2, Br]⟩
    · exact ⟨_, h, fun K0 => by simp only [e2, e3, hb, hb2, Br]⟩
theorem lseFits_pick (hno : ¬ T no) {s : Sto} {i k z n : Nat} {K : R} (h : T (lseFits no s i k z n K)) : T K ∧ ∀ K0 : Option α, lseFits none s i k z n K0 = K0 := by
  unfold lseFits at h
  split at h
  · rename_i k' cols N e hi
    split at h
    · rename_i hb
      rcases Br.out h with ⟨h4, h⟩ | ⟨_, h⟩
      · exact ⟨h, fun K0 => by simp only [lseFits, hi, hb, h4, Br]⟩
      · exact (hno h).elim
    · exact (hno h).elim
  · exact (hno h).elim
theorem vFindK_pick (hno : ¬ T no) {d : TypeDesc} {kt : TypeId} {k : V} {found : Nat → V × V × Nat → R} {nn : R} : ∀ {es : List (V × V × Nat)} {i : Nat}, T (vFindK no P d kt k found nn es i) →
    (∃ j en, T (found j en) ∧ ∀ (f0 : Nat → V × V × Nat → Option α) n0, vFindK none P d kt k f0 n0 es i = f0 j en) ∨ (T nn ∧ ∀ (f0 : Nat → V × V × Nat → Option α) n0, vFindK none P d kt k f0 n0 es i = n0) := by
  intro es
  induction es with
  | nil => intro i h; exact .inr ⟨h, fun _ _ => rfl⟩
  | cons e es ih =>
    intro i h
    simp only [vFindK] at h
    obtain ⟨b, hb, h⟩ := Wi.out hno h
    rcases Br.out h with ⟨rfl, h⟩ | ⟨rfl, h⟩
    · exact .inl ⟨i, e, h, fun f0 n0 => by simp only [vFindK, hb, Wi, Br]⟩
    · rcases ih h with ⟨j, en, h1, h2⟩ | ⟨h1, h2⟩
      · exact .inl ⟨j, en, h1, fun f0 n0 => by simp only [vFindK, hb, Wi, Br]; exact h2 f0 n0⟩
      · exact .inr ⟨h1, fun f0 n0 => by simp only [vFindK, hb, Wi, Br]; exact h2 f0 n0⟩
set_option maxHeartbeats 4000000 in
theorem valOpT_pick (hno : ¬ T no) {op : Op} {e : List (Nat × V)} {s : Sto} {K : Kt R} (h : T (valOpT no P op e s K)) : ∃ v s', T (K v s') ∧ ∀ K0 : Kt (Option α), valOpT none P op e s K0 = K0 v s' := by
  cases op
  all_goals simp only [valOpT] at h ⊢
  all_goals first
    | exact (hno h).elim
    | (repeat' (first
        | exact (hno h).elim
        | exact ⟨_, _, h, fun _ => rfl⟩
        | (replace h := Br.out h; rcases h with ⟨hb, h⟩ | ⟨hb, h⟩ <;> simp only [hb, Br])
        | (replace h := Wi.pick hno h; obtain ⟨z, hz, h⟩ := h; simp only [hz, Wi])
        | (replace h := vBin_pick (α := α) hno h; obtain ⟨z, h, hz⟩ := h; simp only [hz])
        | (replace h := vOpt_pick (α := α) hno h; obtain ⟨z, h, hz⟩ := h; simp only [hz])
        | (replace h := vBoundsO_pick (α := α) hno h; obtain ⟨z, h, hz⟩ := h; simp only [hz])
        | (replace h := splI_pick (α := α) h; obtain ⟨z, h, hz⟩ := h; simp only [hz])
        | (replace h := vLoadE_pick (α := α) hno h; obtain ⟨z, h, hz⟩ := h; simp only [hz])
        | (replace h := vStoreE_pick (α := α) hno h; obtain ⟨z, h, hz⟩ := h; simp only [hz])
        | (replace h := sleCut_pick (α := α) hno h; obtain ⟨z, h, hz⟩ := h; simp only [hz])
        | (replace h := lseCut_pick (α := α) hno h; obtain ⟨z, h, hz⟩ := h; simp only [hz])
        | (replace h := lseFits_pick (α := α) hno h; obtain ⟨h, hz⟩ := h; simp only [hz])
        | (replace h := vFindK_pick (α := α) hno h; rcases h with ⟨z1, z2, h, hz⟩ | ⟨h, hz⟩ <;> simp only [hz])
        | split at h))
theorem vAppendTo_pick (hno : ¬ T no) {s : Sto} {elem : TypeId} {z bytes n : Nat} {sv : V} {new : List V} {K : Kt R} (h : T (vAppendTo no s elem z bytes sv n new K)) : ∃ v s', T (K v s') ∧ ∀ K0 : Kt (Option α), vAppendTo none s elem z bytes sv n new K0 = K0 v s' := by
  unfold vAppendTo at h ⊢
  repeat' (first
    | exact (hno h).elim
    | exact ⟨_, _, h, fun _ => rfl⟩
    | (replace h := Wi.pick hno h; obtain ⟨z, hz, h⟩ := h; simp only [hz, Wi])
    | split at h)
theorem vSrcE_pick (hno : ¬ T no) {s : Sto} {d : TypeDesc} {zs : List Col} {z : Nat} {x : V} {K : Nat → List Col → R} {Kl : Nat → List V → Option (List Col) → R} (h : T (vSrcE no s d zs z x K Kl)) :
    (∃ n c, T (K n c) ∧ ∀ (K0 : Nat → List Col → Option α) (Kl0 : Nat → List V → Option (List Col) → Option α), vSrcE none s d zs z x K0 Kl0 = K0 n c) ∨ ∃ n l c, T (Kl n l c) ∧ ∀ (K0 : Nat → List Col → Option α) (Kl0 : Nat → List V → Option (List Col) → Option α), vSrcE none s d zs z x K0 Kl0 = Kl0 n l c := by
  unfold vSrcE at h ⊢
  repeat' (first
    | exact (hno h).elim
    | exact .inl ⟨_, _, h, fun _ _ => rfl⟩
    | exact .inr ⟨_, _, _, h, fun _ _ => rfl⟩
    | (replace h := Br.out h; rcases h with ⟨hb, h⟩ | ⟨hb, h⟩ <;> simp only [hb, Br])
    | (replace h := Wi.pick hno h; obtain ⟨z, hz, h⟩ := h; simp only [hz, Wi])
    | split at h)
theorem vAppE_pick (hno : ¬ T no) {s : Sto} {elem : TypeId} {z bytes n : Nat} {zs cols : List Col} {sv : V} {lit : Option (List V)} {K : Kt R} (h : T (vAppE no s elem z bytes zs sv n cols lit K)) : ∃ v s', T (K v s') ∧ ∀ K0 : Kt (Option α), vAppE none s elem z bytes zs sv n cols lit K0 = K0 v s' := by
  unfold vAppE at h ⊢
  repeat' (first
    | exact (hno h).elim
    | exact ⟨_, _, h, fun _ => rfl⟩
    | (replace h := Br.out h; rcases h with ⟨hb, h⟩ | ⟨hb, h⟩ <;> simp only [hb, Br])
    | (replace h := Wi.pick hno h; obtain ⟨z, hz, h⟩ := h; simp only [hz, Wi])
    | exact vAppendTo_pick hno h
    | split at h)
theorem vAppendE_pick (hno : ¬ T no) {ts : List TypeId} {args : List V} {s : Sto} {K : Kt R} (h : T (vAppendE no P ts args s K)) : ∃ v s', T (K v s') ∧ ∀ K0 : Kt (Option α), vAppendE none P ts args s K0 = K0 v s' := by
  unfold vAppendE at h ⊢
  repeat' (first
    | exact (hno h).elim
    | exact ⟨_, _, h, fun _ => rfl⟩
    | exact vAppendTo_pick hno h
    | exact vAppE_pick hno h
    | (replace h := Wi.pick hno h; obtain ⟨z, hz, h⟩ := h; simp only [hz, Wi])
    | (replace h := vSrcE_pick (α := α) hno h; rcases h with ⟨z1, z2, h, hz⟩ | ⟨z1, z2, z3, h, hz⟩ <;> simp only [hz])
    | split at h)
theorem vClear_pick (hno : ¬ T no) {ts : List TypeId} {args : List V} {s : Sto} {K : Kt R} (h : T (vClear no P ts args s K)) : ∃ v s', T (K v s') ∧ ∀ K0 : Kt (Option α), vClear none P ts args s K0 = K0 v s' := by
  unfold vClear at h ⊢
  repeat' (first
    | exact (hno h).elim
    | exact ⟨_, _, h, fun _ => rfl⟩
    | (rw [flA_eq] at h; simp only [flA_eq])
    | (replace h := Br.out h; rcases h with ⟨hb, h⟩ | ⟨hb, h⟩ <;> simp only [hb, Br])
    | (replace h := Wi.pick hno h; obtain ⟨z, hz, h⟩ := h; simp only [hz, Wi])
    | split at h)
theorem cpyFin_pick (hno : ¬ T no) {s : Sto} {i k0 len N n : Nat} {m : AM} {tc cols : List Col} {e : TypeId} {K : Kt R} (h : T (cpyFin no s i k0 len m tc N e K n cols)) : ∃ v s', T (K v s') ∧ ∀ K0 : Kt (Option α), cpyFin none s i k0 len m tc N e K0 n cols = K0 v s' := by
  unfold cpyFin at h ⊢
  repeat' (first
    | exact (hno h).elim
    | exact ⟨_, _, h, fun _ => rfl⟩
    | (replace h := Br.out h; rcases h with ⟨hb, h⟩ | ⟨hb, h⟩ <;> simp only [hb, Br])
    | (replace h := Wi.pick hno h; obtain ⟨z, hz, h⟩ := h; simp only [hz, Wi]))
theorem vCopy_pick (hno : ¬ T no) {ts : List TypeId} {args : List V} {s : Sto} {K : Kt R} (h : T (vCopy no P ts args s K)) : ∃ v s', T (K v s') ∧ ∀ K0 : Kt (Option α), vCopy none P ts args s K0 = K0 v s' := by
  unfold vCopy at h ⊢
  repeat' (first
    | exact (hno h).elim
    | exact cpyFin_pick hno h
    | exact ⟨_, _, h, fun _ => rfl⟩
    | (rw [flA_eq] at h; simp only [flA_eq])
    | (replace h := Wi.pick hno h; obtain ⟨z, hz, h⟩ := h; simp only [hz, Wi])
    | (replace h := vSrcE_pick (α := α) hno h; rcases h with ⟨z1, z2, h, hz⟩ | ⟨z1, z2, z3, h, hz⟩ <;> simp only [hz])
    | split at h)
theorem vBuiltinE_pick (hno : ¬ T no) {b : Builtin} {ts : List TypeId} {args : List V} {s : Sto} {K : Kt R} (h : T (vBuiltinE no P b ts args s K)) : ∃ v s', T (K v s') ∧ ∀ K0 : Kt (Option α), vBuiltinE none P b ts args s K0 = K0 v s' := by
  unfold vBuiltinE at h ⊢
  split at h
  · exact vAppendE_pick hno h
  · exact vClear_pick hno h
  · exact vCopy_pick hno h
  · unfold vBuiltin at h ⊢
    repeat' (first
      | exact (hno h).elim
      | exact ⟨_, _, h, fun _ => rfl⟩
      | (replace h := Wi.pick hno h; obtain ⟨z, hz, h⟩ := h; simp only [hz, Wi])
      | split at h)
/-- What a call comes to is one answer, whatever is made of it. -/
def PickC (T : R → Prop) (C : Ch R) (C0 : Ch (Option α)) : Prop := ∀ f args s K, T (C f args s K) → ∃ r s', T (K r s') ∧ ∀ K0 : Res → Sto → Option α, C0 f args s K0 = K0 r s'
def PickL (T : R → Prop) (L : Lh R) (L0 : Lh (Option α)) : Prop := ∀ c st K, T (L c st K) → ∃ x st', T (K x st') ∧ ∀ K0 : Ex → St → Option α, L0 c st K0 = K0 x st'
theorem callxT_pick (hno : ¬ T no) {C : Ch R} {C0 : Ch (Option α)} (hC : PickC T C C0) {c : Call} {e : List (Nat × V)} {s : Sto} {K Kp : Kt R} (h : T (callxT no P C c e s K Kp)) : ∃ r s', T (resK K Kp r s') ∧ ∀ K0 Kp0 : Kt (Option α), callxT none P C0 c e s K0 Kp0 = resK K0 Kp0 r s' := by
  unfold callxT at h ⊢
  split at h
  · rename_i f hf
    obtain ⟨fv, e1, h⟩ := Wi.out hno h
    obtain ⟨args, e2, h⟩ := Wi.out hno h
    split at h
    · rename_i g first cap hg
      split at h
      · rename_i hlt
        obtain ⟨r, s', h1, h2⟩ := hC _ _ _ _ h
        exact ⟨r, s', h1, fun K0 Kp0 => by simp only [e1, e2, hg, hlt, Wi]; exact h2 _⟩
      · exact (hno h).elim
    · rename_i i hg
      obtain ⟨r, s', h1, h2⟩ := hC _ _ _ _ h
      exact ⟨r, s', h1, fun K0 Kp0 => by simp only [e1, e2, hg, Wi]; exact h2 _⟩
    · exact (hno h).elim
  · rename_i recv name hf
    obtain ⟨fv, e1, h⟩ := Wi.out hno h
    obtain ⟨args, e2, h⟩ := Wi.out hno h
    split at h
    · rename_i t v hg
      obtain ⟨m, e3, h⟩ := Wi.out hno h
      split at h
      · rename_i hlt
        obtain ⟨r, s', h1, h2⟩ := hC _ _ _ _ h
        exact ⟨r, s', h1, fun K0 Kp0 => by simp only [e1, e2, hg, e3, hlt, Wi]; exact h2 _⟩
      · exact (hno h).elim
    · exact (hno h).elim
  · rename_i b hf
    obtain ⟨args, e2, h⟩ := Wi.out hno h
    obtain ⟨v, s', h1, h2⟩ := vBuiltinE_pick (α := α) hno h
    exact ⟨.ret v, s', h1, fun K0 Kp0 => by simp only [e2, Wi]; exact h2 _⟩
theorem opxT_pick (hno : ¬ T no) {C : Ch R} {C0 : Ch (Option α)} (hC : PickC T C C0) {op : Op} {e : List (Nat × V)} {s : Sto} {K Kp : Kt R} (h : T (opxT no P C op e s K Kp)) : ∃ r s', T (resK K Kp r s') ∧ ∀ K0 Kp0 : Kt (Option α), opxT none P C0 op e s K0 Kp0 = resK K0 Kp0 r s' := by
  unfold opxT at h ⊢
  split at h
  · exact callxT_pick hno hC h
  · obtain ⟨v, e1, h⟩ := Wi.out hno h
    split at h
    · rename_i t u hu
      exact ⟨.pan (.ifc t u), s, h, fun K0 Kp0 => by simp only [e1, hu, Wi, resK]⟩
    · exact (hno h).elim
  · obtain ⟨v, s', h1, h2⟩ := valOpT_pick (α := α) hno h
    refine ⟨.ret v, s', h1, fun K0 Kp0 => ?_⟩
    exact h2 _
theorem vWantedT_pick (hno : ¬ T no) {ops : List Oper} {o : Oper} {e : List (Nat × V)} {A B : List (Nat × V) → R} (h : T (vWantedT no ops o e A B)) :
    (∃ e', T (A e') ∧ ∀ A0 B0 : List (Nat × V) → Option α, vWantedT none ops o e A0 B0 = A0 e') ∨ ∃ e', T (B e') ∧ ∀ A0 B0 : List (Nat × V) → Option α, vWantedT none ops o e A0 B0 = B0 e' := by
  unfold vWantedT at h ⊢
  split at h
  · exact .inl ⟨_, h, fun _ _ => rfl⟩
  · rename_i j want hgd
    split at h
    · rename_i oj hoj
      split at h
      · rename_i t ht
        obtain ⟨v, e1, h⟩ := Wi.out hno h
        split at h
        · rename_i b
          split at h
          · rcases Br.out h with ⟨hb, h⟩ | ⟨hb, h⟩
            · exact .inl ⟨_, h, fun _ _ => by simp only [e1, hb, Wi, Br]⟩
            · exact .inr ⟨_, h, fun _ _ => by simp only [e1, hb, Wi, Br]⟩
          · rcases Br.out h with ⟨hb, h⟩ | ⟨hb, h⟩
            · exact .inr ⟨_, h, fun _ _ => by simp only [e1, hb, Wi, Br]⟩
            · exact .inl ⟨_, h, fun _ _ => by simp only [e1, hb, Wi, Br]⟩
        · exact .inr ⟨_, h, fun _ _ => by simp only [e1, Wi]⟩
        · exact (hno h).elim
      · exact .inr ⟨_, h, fun _ _ => rfl⟩
    · exact .inr ⟨_, h, fun _ _ => rfl⟩
theorem evOpsT_pick (hno : ¬ T no) {C : Ch R} {C0 : Ch (Option α)} (hC : PickC T C C0) {ops : List Oper} {K : Ex → St → R} {n : Nat} : ∀ {os : List Oper} {e : List (Nat × V)} {s : Sto}, T (evOpsT no P C ops K n os e s) → ∃ x st', T (K x st') ∧ ∀ K0 : Ex → St → Option α, evOpsT none P C0 ops K0 n os e s = K0 x st' := by
  intro os
  induction os with
  | nil => intro e s h; exact ⟨_, _, h, fun _ => rfl⟩
  | cons o os ih =>
    intro e s h
    simp only [evOpsT] at h
    rcases vWantedT_pick (α := α) hno h with ⟨e', h, hw⟩ | ⟨e', h, hw⟩
    · obtain ⟨r, s', h1, h2⟩ := opxT_pick hno hC h
      cases r with
      | ret v =>
        simp only [resK, fl_eq] at h1
        obtain ⟨x, st', h3, h4⟩ := ih h1
        exact ⟨x, st', h3, fun K0 => by simp only [evOpsT, hw, h2, resK, fl_eq]; exact h4 K0⟩
      | pan v => exact ⟨_, _, h1, fun K0 => by simp only [evOpsT, hw, h2, resK]⟩
    · simp only [fl_eq] at h
      obtain ⟨x, st', h3, h4⟩ := ih h
      exact ⟨x, st', h3, fun K0 => by simp only [evOpsT, hw, fl_eq]; exact h4 K0⟩
theorem Ev_pick (hno : ¬ T no) {C : Ch R} {C0 : Ch (Option α)} (hC : PickC T C C0) {L : Lh R} {L0 : Lh (Option α)} (hL : PickL T L L0) : ∀ {c : Code} {st : St} {K : Ex → St → R}, T (Ev no P C L c st K) → ∃ x st', T (K x st') ∧ ∀ K0 : Ex → St → Option α, Ev none P C0 L0 c st K0 = K0 x st' := by
  intro c
  induction c with
  | skip => intro st K h; exact ⟨_, _, h, fun _ => rfl⟩
  | label l => intro st K h; exact ⟨_, _, h, fun _ => rfl⟩
  | seq a b iha ihb =>
    intro st K h
    simp only [Ev] at h
    obtain ⟨x, st', h1, h2⟩ := iha h
    cases x
    · obtain ⟨x, st'', h3, h4⟩ := ihb h1
      exact ⟨x, st'', h3, fun K0 => by simp only [Ev, h2]; exact h4 K0⟩
    all_goals exact ⟨_, _, h1, fun K0 => by simp only [Ev, h2]⟩
  | cond c a b iha ihb =>
    intro st K h
    simp only [Ev] at h
    obtain ⟨v, e1, h⟩ := Wi.out hno h
    split at h
    · rename_i t
      obtain ⟨n, e, s⟩ := st
      rcases Br.out h with ⟨hb, h⟩ | ⟨hb, h⟩
      · obtain ⟨x, st'', h3, h4⟩ := iha h
        exact ⟨x, st'', h3, fun K0 => by simp only [Ev, e1, Wi, hb, Br]; exact h4 K0⟩
      · obtain ⟨x, st'', h3, h4⟩ := ihb h
        exact ⟨x, st'', h3, fun K0 => by simp only [Ev, e1, Wi, hb, Br]; exact h4 K0⟩
    · exact (hno h).elim
  | block id c ih =>
    intro st K h
    simp only [Ev] at h
    obtain ⟨x, st', h1, h2⟩ := ih h
    cases x
    case exit i =>
      simp only at h1
      split at h1
      · rename_i hb
        exact ⟨_, _, h1, fun K0 => by simp only [Ev, h2, hb]⟩
      · rename_i hb
        exact ⟨_, _, h1, fun K0 => by simp only [Ev, h2, hb]⟩
    all_goals exact ⟨_, _, h1, fun K0 => by simp only [Ev, h2]⟩
  | scope c ih =>
    intro st K h
    simp only [Ev] at h
    obtain ⟨x, st', h1, h2⟩ := ih h
    cases x
    case goto i => exact (hno h1).elim
    all_goals exact ⟨_, _, h1, fun K0 => by simp only [Ev, h2]⟩
  | exit id => intro st K h; exact ⟨_, _, h, fun _ => rfl⟩
  | goto l => intro st K h; exact ⟨_, _, h, fun _ => rfl⟩
  | ret => intro st K h; exact ⟨_, _, h, fun _ => rfl⟩
  | region id ops draw =>
    intro st K h
    cases draw with
    | true => exact hL _ _ _ h
    | false =>
      obtain ⟨n, e, s⟩ := st
      exact evOpsT_pick hno hC h
  | loop c => intro st K h; exact hL _ _ _ h
  | rangeFunc f ps x y => intro st K h; exact hL _ _ _ h
  | refuse => intro st K h; exact (hno h).elim
theorem bodyK_pick (hno : ¬ T no) {fn : Func} {K : Res → Sto → R} {x : Ex} {st : St} (h : T (bodyK no P fn K x st)) : ∃ r s', T (K r s') ∧ ∀ K0 : Res → Sto → Option α, bodyK none P fn K0 x st = K0 r s' := by
  cases x <;> simp only [bodyK] at h ⊢
  · obtain ⟨v, e1, h⟩ := Wi.out hno h
    exact ⟨_, _, h, fun _ => by simp only [e1, Wi]⟩
  · exact (hno h).elim
  · exact (hno h).elim
  · obtain ⟨v, e1, h⟩ := Wi.out hno h
    exact ⟨_, _, h, fun _ => by simp only [e1, Wi]⟩
  · exact ⟨_, _, h, fun _ => rfl⟩
end
end Go.Proofs.YtpahclogghdnpaaDoorRL
