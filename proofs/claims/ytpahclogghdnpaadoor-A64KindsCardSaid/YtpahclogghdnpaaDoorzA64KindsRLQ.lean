/- RL: what a region that draws its order, a round, a range over a function come to is one end and one state, whatever is made of them. -/
import Derived.Test.YtpahclogghdnpaaDoorzA64KindsRLR
namespace Go.Proofs.YtpahclogghdnpaaDoorRL
open Go
set_option linter.unusedVariables false
set_option linter.unusedSimpArgs false
def topC {R : Type} (no : R) (D : Dh) : Ch R := fun f args s K => match D f args s with
  | some (r, s') => K r s'
  | none => no
theorem topC_pickD {R : Type} {no : R} {T : R → Prop} (hno : ¬ T no) {D : Dh} : PickD T (topC no D) D := by
  intro f args s K h
  unfold topC at h
  split at h
  · rename_i r s' hd
    exact ⟨r, s', h, hd⟩
  · exact (hno h).elim
/-- Functions alone, no rounds. -/
def onlyC {R : Type} (no : R) (P : Program) (C : Ch R) : Ch R := fun f args s K => match Nat.blt f P.funcs.size with
  | true => C f args s K
  | false => no
section
variable {P : Program} {R : Type} {no : R} {T : R → Prop} {α : Type}
theorem onlyC_pick (hno : ¬ T no) {C : Ch R} {C0 : Ch (Option α)} (hC : PickC T C C0) : PickC T (onlyC no P C) (onlyC none P C0) := by
  intro f args s K h
  unfold onlyC at h ⊢
  split at h
  · rename_i hlt
    obtain ⟨r, s', h1, h2⟩ := hC _ _ _ _ h
    exact ⟨r, s', h1, fun K0 => by exact h2 K0⟩
  · exact (hno h).elim
theorem opValC_pickC (hno : ¬ T no) {Q : Ch R} {Q0 : Ch (Option α)} (hQ : PickC T Q Q0) {op : Op} {e : List (Nat × V)} {s : Sto} {K : V × List Ent × Option (Nat × Ent) → R} (h : T (opValC no P Q op e s K)) : ∃ r, T (K r) ∧ ∀ K0 : V × List Ent × Option (Nat × Ent) → Option α, opValC none P Q0 op e s K0 = K0 r := by
  have mk : ∀ {op : Op} {s0 : Sto} {f : V → Sto → Option (V × List Ent × Option (Nat × Ent))}, T (valOpT no P op e s0 fun v s' => Wi no (f v s') K) → ∃ r, T (K r) ∧ ∀ K0 : V × List Ent × Option (Nat × Ent) → Option α, (valOpT none P op e s0 fun v s' => Wi none (f v s') K0) = K0 r := by
    intro op s0 f h
    obtain ⟨v, s', h1, h2⟩ := valOpT_pick (α := α) hno h
    obtain ⟨r, h3, h4⟩ := Wi.out hno h1
    exact ⟨r, h4, fun K0 => by rw [h2]; simp only [h3, Wi]⟩
  have ma : ∀ {ts : List TypeId} {args : List V} {s0 : Sto} {f : V → Sto → Option (V × List Ent × Option (Nat × Ent))}, T (vAppendE no P ts args s0 fun v s' => Wi no (f v s') K) → ∃ r, T (K r) ∧ ∀ K0 : V × List Ent × Option (Nat × Ent) → Option α, (vAppendE none P ts args s0 fun v s' => Wi none (f v s') K0) = K0 r := by
    intro ts args s0 f h
    obtain ⟨v, s', h1, h2⟩ := vAppendE_pick (α := α) hno h
    obtain ⟨r, h3, h4⟩ := Wi.out hno h1
    exact ⟨r, h4, fun K0 => by rw [h2]; simp only [h3, Wi]⟩
  have mq : ∀ {op : Op}, T (match stillOp op with | true => valOpT no P op e s fun v _ => K (v, [], none) | false => no) → ∃ r, T (K r) ∧ ∀ K0 : V × List Ent × Option (Nat × Ent) → Option α, (match stillOp op with | true => valOpT none P op e s fun v _ => K0 (v, [], none) | false => none) = K0 r := by
    intro op h
    split at h
    · rename_i hs
      obtain ⟨v, s', h1, h2⟩ := valOpT_pick (α := α) hno h
      exact ⟨(v, [], none), h1, fun K0 => by exact h2 _⟩
    · exact (hno h).elim
  have mw : ∀ {x : Option (V × List Ent × Option (Nat × Ent))}, T (Wi no x K) → ∃ r, T (K r) ∧ ∀ K0 : V × List Ent × Option (Nat × Ent) → Option α, Wi none x K0 = K0 r := by
    intro x h
    obtain ⟨r, h3, h4⟩ := Wi.out hno h
    exact ⟨r, h4, fun K0 => by simp only [h3, Wi]⟩
  have gen : ∀ {op : Op}, (opValC no P Q op e s K = match stillOp op with | true => valOpT no P op e s fun v _ => K (v, [], none) | false => no) → (∀ K0 : V × List Ent × Option (Nat × Ent) → Option α, opValC none P Q0 op e s K0 = match stillOp op with | true => valOpT none P op e s fun v _ => K0 (v, [], none) | false => none) → T (opValC no P Q op e s K) → ∃ r, T (K r) ∧ ∀ K0 : V × List Ent × Option (Nat × Ent) → Option α, opValC none P Q0 op e s K0 = K0 r := by
    intro op h1 h2 h
    rw [h1] at h
    obtain ⟨r, h3, h4⟩ := mq h
    exact ⟨r, h3, fun K0 => by rw [h2]; exact h4 K0⟩
  have gen2 : ∀ {op : Op}, (opValC no P Q op e s K = valOpT no P op e (roS s) fun v s' => Wi no (newVal (trimN s (some (v, s')))) K) → (∀ K0 : V × List Ent × Option (Nat × Ent) → Option α, opValC none P Q0 op e s K0 = valOpT none P op e (roS s) fun v s' => Wi none (newVal (trimN s (some (v, s')))) K0) → T (opValC no P Q op e s K) → ∃ r, T (K r) ∧ ∀ K0 : V × List Ent × Option (Nat × Ent) → Option α, opValC none P Q0 op e s K0 = K0 r := by
    intro op h1 h2 h
    rw [h1] at h
    obtain ⟨r, h3, h4⟩ := mk (f := fun v s' => newVal (trimN s (some (v, s')))) h
    exact ⟨r, h3, fun K0 => by rw [h2]; exact h4 K0⟩
  cases op
  case call c =>
    simp only [opValC] at h ⊢
    split at h
    · rename_i b hb
      split at h
      · split at h
        · rename_i args ha
          split at h
          · rename_i hk
            exact mw h
          · rename_i hk
            exact ma h
          · rename_i k hk0 hk1
            split at h
            · rename_i i hi
              split at h
              · rename_i ho
                exact ma (f := fun v s' => app2f s i (some (v, s'))) h
              · exact (hno h).elim
            · exact (hno h).elim
        · exact (hno h).elim
      · rename_i hn
        obtain ⟨r, h1, h2⟩ := mw h
        refine ⟨r, h1, fun K0 => ?_⟩
        exact h2 K0
    · rename_i hb
      obtain ⟨r, s', h1, h2⟩ := callxT_pick (α := α) hno hQ h
      cases r with
      | pan v => exact (hno h1).elim
      | ret v =>
        obtain ⟨q, h3, h4⟩ := Wi.out hno h1
        refine ⟨q, h4, fun K0 => ?_⟩
        have e0 : callxT none P Q0 c e (roS s) (fun v s' => Wi none (newVal (trimN s (some (v, s')))) K0) (fun _ _ => none) = K0 q := by
          rw [h2]
          simp only [resK, h3, Wi]
        cases hc : c.callee with
        | builtin b => exact (hb b hc).elim
        | _ => exact e0
  case store t a x =>
    simp only [opValC] at h ⊢
    split at h
    · rename_i i hi
      exact mk (f := fun v s' => chgVal s i (some (v, s'))) h
    · exact (hno h).elim
  case mapUpdate t a x y =>
    simp only [opValC] at h ⊢
    split at h
    · rename_i i hi
      exact mk (f := fun v s' => chgVal s i (some (v, s'))) h
    · exact (hno h).elim
  case alloc => exact gen2 rfl (fun _ => rfl) h
  case box => exact gen2 rfl (fun _ => rfl) h
  case buildSlice => exact gen2 rfl (fun _ => rfl) h
  case makeSlice => exact gen2 rfl (fun _ => rfl) h
  case makeMap => exact gen2 rfl (fun _ => rfl) h
  all_goals exact gen rfl (fun _ => rfl) h
theorem dqrun_pick (hno : ¬ T no) {Q : Ch R} {Q0 : Ch (Option α)} (hQ : PickC T Q Q0) {n : Nat} {ops : List Oper} {TC : List Nat} {ch : List (Nat × Nat)} {s : Sto} {K : List (Nat × V) → List (Nat × Ent) → List (Nat × Nat × Ent) → R} : ∀ {os : List Oper} {j : Nat} {e : List (Nat × V)} {N : List (Nat × Ent)} {Cs : List (Nat × Nat × Ent)}, T (dqrun no P Q n ops TC ch s K os j e N Cs) →
    ∃ e' N' Cs', T (K e' N' Cs') ∧ ∀ K0 : List (Nat × V) → List (Nat × Ent) → List (Nat × Nat × Ent) → Option α, dqrun none P Q0 n ops TC ch s K0 os j e N Cs = K0 e' N' Cs' := by
  intro os
  induction os with
  | nil => intro j e N Cs h; exact ⟨_, _, _, h, fun _ => rfl⟩
  | cons o os ih =>
    intro j e N Cs h
    simp only [dqrun, fl_eq] at h
    rcases vWantedT_pick (α := α) hno h with ⟨e', h, hw⟩ | ⟨e', h, hw⟩
    · obtain ⟨r, h1, h2⟩ := opValC_pickC hno hQ h
      split at h1
      · rename_i hok
        obtain ⟨e2, N2, C2, h3, h4⟩ := ih h1
        exact ⟨e2, N2, C2, h3, fun K0 => by simp only [dqrun, fl_eq, hw, h2, hok]; exact h4 K0⟩
      · exact (hno h1).elim
    · obtain ⟨e2, N2, C2, h3, h4⟩ := ih h
      exact ⟨e2, N2, C2, h3, fun K0 => by simp only [dqrun, fl_eq, hw]; exact h4 K0⟩
theorem dq2_pick (hno : ¬ T no) {Q : Ch R} {Q0 : Ch (Option α)} (hQ : PickC T Q Q0) {n : Nat} {ops : List Oper} {TC : List Nat} {s : Sto} {K : List (Nat × V) → Sto → R} {l : List Oper} {e : List (Nat × V)} (h : T (dq2 no P Q n ops TC s K l e)) :
    ∃ e' s', T (K e' s') ∧ ∀ K0 : List (Nat × V) → Sto → Option α, dq2 none P Q0 n ops TC s K0 l e = K0 e' s' := by
  unfold dq2 at h ⊢
  obtain ⟨e1, N1, C1, h1, h2⟩ := dqrun_pick hno hQ h
  cases C1 with
  | nil =>
    cases N1 with
    | nil => exact ⟨_, _, h1, fun K0 => by rw [h2]⟩
    | cons p N1 =>
      simp only [flA_eq] at h1
      exact ⟨_, _, h1, fun K0 => by rw [h2]; simp only [flA_eq]⟩
  | cons c cs =>
    simp only [fl_eq] at h1
    obtain ⟨e3, N3, C3, h3, h4⟩ := dqrun_pick hno hQ h1
    split at h3
    · rename_i hck
      rw [flA_eq] at h3
      exact ⟨_, _, h3, fun K0 => by rw [h2]; simp only [fl_eq]; rw [h4]; simp only [hck, flA_eq]⟩
    · exact (hno h3).elim
theorem drwDT_pick (hno : ¬ T no) {C : Ch R} {C0 : Ch (Option α)} (hC : PickC T C C0) {Q : Ch R} {Q0 : Ch (Option α)} (hQ : PickC T Q Q0) {ops : List Oper} {K : Ex → St → R} {n : Nat} {e : List (Nat × V)} {s : Sto} (h : T (drwDT no P C Q ops K n e s)) :
    ∃ x st', T (K x st') ∧ ∀ K0 : Ex → St → Option α, drwDT none P C0 Q0 ops K0 n e s = K0 x st' := by
  unfold drwDT at h ⊢
  split at h
  · exact (hno h).elim
  rename_i hok
  rw [flA_eq] at h
  split at h
  · exact (hno h).elim
  rename_i htc
  obtain ⟨e1, s1, h1, h2⟩ := dq2_pick hno hQ h
  obtain ⟨x, st', h3, h4⟩ := evOpsT_pick hno hC h1
  exact ⟨x, st', h3, fun K0 => by simp only [hok, flA_eq, htc, h2]; exact h4 K0⟩
theorem rnd_pick (hno : ¬ T no) {C : Ch R} {C0 : Ch (Option α)} (hC : PickC T C C0) {L : Lh R} {L0 : Lh (Option α)} (hL : PickL T L L0) {i : Nat} {args : List V} {s : Sto} {K : Res → Sto → R} (h : T (rnd no P C L i args s K)) :
    ∃ r s', T (K r s') ∧ ∀ K0 : Res → Sto → Option α, rnd none P C0 L0 i args s K0 = K0 r s' := by
  unfold rnd at h ⊢
  split at h
  · rename_i e n ps asg body hi
    split at h
    · rename_i hn
      rw [fl_eq, flA_eq] at h
      obtain ⟨x, st1, h1, h2⟩ := Ev_pick hno hC hL h
      cases x
      case normal =>
        obtain ⟨y, st2, h3, h4⟩ := Ev_pick hno hC hL h1
        cases y
        case panic => exact (hno h3).elim
        all_goals
          simp only [flA_eq] at h3
          exact ⟨_, _, h3, fun K0 => by simp only [hi, hn, fl_eq, flA_eq, h2, h4]⟩
      all_goals exact (hno h1).elim
    · exact (hno h).elim
  · exact (hno h).elim
theorem rfL_pick (hno : ¬ T no) {C : Ch R} {C0 : Ch (Option α)} (hC : PickC T C C0) {L : Lh R} {g : Operand} {ps : Array Tmp} {asg body : Code} {n : Nat} {e : List (Nat × V)} {s : Sto} {K : Ex → St → R} {L0 : Lh (Option α)} (h : T (rfL no P C g ps asg body n e s K)) :
    ∃ x st', T (K x st') ∧ ∀ K0 : Ex → St → Option α, rfL none P C0 g ps asg body n e s K0 = K0 x st' := by
  unfold rfL at h ⊢
  obtain ⟨fv, e1, h⟩ := Wi.out hno h
  split at h
  · rename_i f first cap hf
    split at h
    · rename_i hlt
      rw [flA_eq] at h
      obtain ⟨r, s2, h1, h2⟩ := hC _ _ _ _ h
      cases r with
      | pan v => exact (hno h1).elim
      | ret v =>
        simp only at h1
        split at h1
        · rename_i a b c d f2 pend hp
          rw [flA_eq] at h1
          split at h1
          all_goals first
            | exact (hno h1).elim
            | exact ⟨_, _, h1, fun K0 => by simp only [e1, Wi, hf, hlt, flA_eq, h2, hp]⟩
        · exact (hno h1).elim
    · exact (hno h).elim
  · exact (hno h).elim
end
end Go.Proofs.YtpahclogghdnpaaDoorRL
