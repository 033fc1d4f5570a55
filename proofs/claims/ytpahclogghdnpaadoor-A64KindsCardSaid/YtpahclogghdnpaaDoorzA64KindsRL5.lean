/- RL, fifth text: the operations are what the machine does. -/
import Derived.Test.YtpahclogghdnpaaDoorzA64KindsRL4
namespace Go.Proofs.YtpahclogghdnpaaDoorRL
open Go
set_option linter.unusedVariables false
set_option linter.unusedSimpArgs false
variable {Δ : List Deferred}
section
variable {P : Program} {ρ : Rho} {w : World} {st : St} {a : Act}
theorem Step.mono {q : Bool} {s : Sem Next} {K K' : Kt Prop} (h : Step q P st ρ w s K) (hk : ∀ v s, K v s → K' v s) : Step q P st ρ w s K' :=
  let ⟨n, v, s', ρ', w', h1, h2, h3, h4⟩ := h; ⟨n, v, s', ρ', w', h1, h2, hk _ _ h3, h4⟩
/-- A new block of cells, and the value that points to it. -/
theorem alloc_run {K : Kt Prop} {s : Sem Value} {cs : List V} {elem : TypeId} {v : V} (h : Sim Δ ρ st a w) (hb : bdL st.s.length cs) (hv : v.bd (st.s.length + 1))
    (hr : s.run P w = .ok (v.abs (ρ.push st.s.length w.heap.size)) (w.alloc (.cells (absL ρ cs).toArray elem))) (hk : K v (st.s ++ [.own cs elem])) : Step false P st ρ w (do pure (Next.value (← s))) K :=
  Step.alloc h hb hv hr hk
theorem addr_part (b x l s m : Nat) : (if m = l then (⟨b, x, none⟩ : Addr) else (⟨b, x, none⟩ : Addr).add (l * s)) = ⟨b, slOff x l m s, none⟩ := by
  unfold slOff
  cases l with
  | zero => simp [Addr.add]
  | succ l =>
    cases hb : Nat.beq m (l + 1) with
    | true => rw [if_pos (Nat.eq_of_beq_eq_true hb)]; simp [hb]
    | false =>
      rw [if_neg (fun e => by subst e; simp at hb)]
      unfold Addr.add
      split
      · rename_i h0; simp [h0, hb]
      · simp [hb]
theorem off_part (r o l s m : Nat) : r + slOff o l m s = slOff (r + o) l m s := by
  unfold slOff
  cases l with
  | zero => rfl
  | succ l => simp only []; split <;> simp [Nat.add_assoc]
end
section
variable {P : Program} {ρ : Rho} {w : World} {st : St} {a : Act} {R : Type} {no : R} {T : R → Prop} (hno : ¬ T no)
include hno
theorem bounds_run {k : IntKind} {i : Int} {y : Nat} {code : BoundsCode} {K : Nat → R} (h : T (vBounds no k i y K)) : ∃ n, (Instr.sliceBound (.int k i) y code).run P w = .ok n w ∧ n ≤ y ∧ T (K n) := by
  rcases Br.out h with ⟨h1, h⟩ | ⟨_, h⟩
  · rcases Br.out h with ⟨h2, h⟩ | ⟨_, h⟩
    · have h1' : 0 ≤ i := of_decide_eq_true h1
      have h2' : i ≤ (y : Int) := of_decide_eq_true h2
      refine ⟨i.toNat, ?_, by omega, h⟩
      simp [Instr.sliceBound, asIntOf, h1', h2']
    · exact (hno h).elim
  · exact (hno h).elim
theorem vOpt_out {x : Option Operand} {K : Option V → R} (h : Sim Δ ρ st a w) (hk : T (vOpt no st.t x K)) : ∃ v, x.map a.eval = v.map (V.abs ρ) ∧ T (K v) := by
  cases x with
  | none => exact ⟨none, rfl, hk⟩
  | some x =>
    obtain ⟨v, hv, hk⟩ := Wi.out hno hk
    exact ⟨some v, by simp [(h.eval hv).1], hk⟩
theorem boundsO_run {x : Option V} {d y : Nat} {K : Nat → R} {code : BoundsCode} (h : T (vBoundsO no x d y K)) :
    ∃ n, (match x.map (V.abs ρ) with | some v => Instr.sliceBound v y code | none => pure d : Sem Nat).run P w = .ok n w ∧ T (K n) := by
  unfold vBoundsO at h
  split at h
  · exact ⟨d, by simp, h⟩
  · obtain ⟨n, h1, h2, h3⟩ := bounds_run hno (P := P) (w := w) (code := code) h
    exact ⟨n, by simpa [V.abs] using h1, h3⟩
  · exact (hno h).elim
theorem sliceBounds_run {b : Bool} {len cap : Nat} {lo hi mx : Option V} {K : Nat → Nat → Nat → R} (hne : mx.isSome = true → hi.isSome = true)
    (h : T (vBoundsO no mx cap cap fun m => vBoundsO no hi len (mxCap mx m cap) fun h => vBoundsO no lo 0 h fun l => K l h m)) :
    ∃ l h m, (Instr.sliceBounds b len cap (lo.map (V.abs ρ)) (hi.map (V.abs ρ)) (mx.map (V.abs ρ))).run P w = .ok (l, h, m) w ∧ T (K l h m) := by
  obtain ⟨m, m1, h⟩ := boundsO_run hno (P := P) (ρ := ρ) (w := w) (code := if b then .slice3Acap else .slice3Alen) h
  cases mx with
  | none =>
    simp only [Option.map_none] at m1
    have hm : cap = m := by simpa using m1
    subst hm
    obtain ⟨hh, h1, h⟩ := boundsO_run hno (P := P) (ρ := ρ) (w := w) (code := if b then .sliceAcap else .sliceAlen) h
    obtain ⟨l, l1, h⟩ := boundsO_run hno (P := P) (ρ := ρ) (w := w) (code := .sliceB) h
    refine ⟨l, hh, cap, ?_, h⟩
    simp only [Instr.sliceBounds, Option.map_none, Sem.run_bind, Sem.run_pure, Result.andThen_ok]
    cases hi <;> cases lo <;> simp_all [mxCap]
  | some v =>
    obtain ⟨hh, h1, h⟩ := boundsO_run hno (P := P) (ρ := ρ) (w := w) (code := .slice3B) h
    obtain ⟨l, l1, h⟩ := boundsO_run hno (P := P) (ρ := ρ) (w := w) (code := .slice3C) h
    refine ⟨l, hh, m, ?_, h⟩
    have := hne rfl
    simp only [Instr.sliceBounds]
    cases hi with
    | none => simp at this
    | some u => cases lo <;> simp_all [mxCap]
theorem bin_sound {op : BinOp} {t yt : TypeId} {x y : Operand} {u v : V} {K : V → R} (hx : a.eval x = u.abs ρ) (hy : a.eval y = v.abs ρ) (h : T (vBin no P op t u v K)) :
    ∃ r : V, ((do eqGuard op t x y (a.eval x) (a.eval y); binOp op t (a.eval x) (a.eval y) : Sem Value)).run P w = .ok (r.abs ρ) w ∧ T (K r) ∧ ∀ n, r.bd n := by
  rw [hx, hy]
  unfold vBin at h
  split at h
  · rename_i k p k' q
    simp only [V.abs, eqGuard_at_int, Sem.run_bind, Sem.run_pure, Result.andThen_ok]
    split at h
    · rcases Br.out h with ⟨h1, h⟩ | ⟨_, h⟩
      · have h1' : 0 ≤ q := of_decide_eq_true h1
        exact ⟨.raw _, by simp [binOp, Op.shift, V.abs]; omega, h, fun n => trivial⟩
      · exact (hno h).elim
    · rcases Br.out h with ⟨h1, h⟩ | ⟨_, h⟩
      · have h1' : 0 ≤ q := of_decide_eq_true h1
        exact ⟨.raw _, by simp [binOp, Op.shift, V.abs]; omega, h, fun n => trivial⟩
      · exact (hno h).elim
    · split at h
      · rename_i hk
        obtain rfl := kindEq_eq hk
        rcases Br.out h with ⟨h1, h⟩ | ⟨_, h⟩
        · have h1' : q ≠ 0 := by simpa using h1
          exact ⟨.raw _, by simp [binOp, Op.intDiv, V.abs, h1'], h, fun n => trivial⟩
        · exact (hno h).elim
      · exact (hno h).elim
    · split at h
      · rename_i hk
        obtain rfl := kindEq_eq hk
        rcases Br.out h with ⟨h1, h⟩ | ⟨_, h⟩
        · have h1' : q ≠ 0 := by simpa using h1
          exact ⟨.raw _, by simp [binOp, Op.intDiv, V.abs, h1'], h, fun n => trivial⟩
        · exact (hno h).elim
      · exact (hno h).elim
    · split at h
      · rename_i hk
        obtain rfl := kindEq_eq hk
        obtain ⟨r, hr, h⟩ := Wi.out hno h
        exact ⟨.raw r, by rw [bop_sound hr]; simp [V.abs], h, fun n => trivial⟩
      · exact (hno h).elim
  · rename_i k m r d l k' q
    simp only [V.abs, eqGuard_at_int, Sem.run_bind, Sem.run_pure, Result.andThen_ok]
    split at h
    · rename_i hk
      obtain rfl := kindEq_eq hk
      split at h
      · split at h
        · rename_i hb0
          have hb0 := of_decide_eq_true hb0
          subst hb0
          refine ⟨.raw (.bool false), ?_, h, fun n => trivial⟩
          have hlt : decide (((mdVal m ((r, d) :: l) : Nat) : Int) < 0) = false := decide_eq_false (by omega)
          rw [bop_sound (v := .bool false) (by simp only [bop, hlt])]
          simp [V.abs]
        · exact (hno h).elim
      split at h
      · rename_i hc
        simp only [Bool.and_eq_true, Nat.blt_eq, decide_eq_true_eq] at hc
        obtain ⟨rfl, hrd⟩ := hc
        have hd0 : ¬ ((d : Int) = 0) := by omega
        have ediv : ((mdVal m l * d + r : Nat) : Int).tdiv (d : Int) = ((mdVal m l : Nat) : Int) := by
          rw [← Int.ofNat_tdiv]
          congr 1
          rw [Nat.mul_comm, Nat.mul_add_div (by omega), Nat.div_eq_of_lt hrd]
          rfl
        have emod : ((mdVal m l * d + r : Nat) : Int).tmod (d : Int) = (r : Int) := by
          rw [← Int.ofNat_tmod]
          congr 1
          rw [Nat.mul_comm, Nat.mul_add_mod, Nat.mod_eq_of_lt hrd]
        split at h
        · rcases Br.out h with ⟨h1, h⟩ | ⟨_, h⟩
          · have h1' := of_decide_eq_true h1
            refine ⟨.md k m l, ?_, h, fun n => trivial⟩
            simp only [binOp, Op.intDiv, mdVal, if_neg hd0, ediv, h1', V.abs]
            simp
          · exact (hno h).elim
        · refine ⟨.raw (.int k (r : Int)), ?_, h, fun n => trivial⟩
          simp only [binOp, Op.intDiv, mdVal, if_neg hd0, emod, V.abs]
          simp
        · exact (hno h).elim
      · exact (hno h).elim
    · exact (hno h).elim
  · simp only [V.abs, eqGuard_at_string, Sem.run_bind, Sem.run_pure, Result.andThen_ok]
    split at h
    · exact ⟨.raw _, by simp [binOp, Op.stringOp, V.abs, beq_toListBytes], h, fun n => trivial⟩
    · exact ⟨.raw _, by simp [binOp, Op.stringOp, V.abs, beq_toListBytes], h, fun n => trivial⟩
    · exact (hno h).elim
  · rename_i hns1 hnsm hns2
    have guard : ∀ {op : BinOp} {K' : Bool → R} {f : Bool → Bool}, (op = .eql ∧ f = id ∨ op = .neq ∧ f = not) → T (Br (eqBad P t u v) no (Wi no (vEq P 10000 t u v) fun b => K' b)) →
        ∃ b, ((do eqGuard op t x y (u.abs ρ) (v.abs ρ); binOp op t (u.abs ρ) (v.abs ρ) : Sem Value)).run P w = .ok (.bool (f b)) w ∧ T (K' b) := by
      intro op K' f hop hg
      rcases Br.out hg with ⟨_, hg⟩ | ⟨hg1, hg⟩
      · exact (hno hg).elim
      obtain ⟨b, hb, hk⟩ := Wi.out hno hg
      have heq := vEq_sound (ρ := ρ) 10000 t u v b hb w
      refine ⟨b, ?_, hk⟩
      have hgd : (eqGuard op t x y (u.abs ρ) (v.abs ρ)).run P w = .ok () w := by
        have hnn : ¬ (u.abs ρ = .nilIface ∧ v.abs ρ = .nilIface) := by
          rintro ⟨e1, e2⟩
          have u1 : u = .raw .nilIface := by cases u <;> simp_all [V.abs]
          have u2 : v = .raw .nilIface := by cases v <;> simp_all [V.abs]
          subst u1 u2
          simp only [vEq] at hb
          split at hb <;> first | cases hb | (split at hb <;> simp_all)
        have hagg : ∀ xs ys, u.abs ρ = .agg xs → v.abs ρ = .agg ys → P.eqGuardType P.depth t = false := by
          intro xs ys e1 e2
          have u1 : (∃ l, u = .agg l) ∨ ∃ l, u = .raw (.agg l) := by cases u <;> simp_all [V.abs]
          have u2 : (∃ l, v = .agg l) ∨ ∃ l, v = .raw (.agg l) := by cases v <;> simp_all [V.abs]
          rcases u1 with ⟨l, rfl⟩ | ⟨l, rfl⟩ <;> rcases u2 with ⟨m, rfl⟩ | ⟨m, rfl⟩
          · exact hg1
          all_goals
            simp only [vEq] at hb
            split at hb <;> first | cases hb | (split at hb <;> simp_all)
        unfold eqGuard
        rcases hop with ⟨rfl, rfl⟩ | ⟨rfl, rfl⟩
        all_goals
          simp only [Bool.not_true, Bool.false_eq_true, if_false]
          split
          · exact absurd ⟨‹_›, ‹_›⟩ hnn
          · rename_i xs ys e1 e2
            simp [hagg _ _ e1 e2]
          · simp
      have hbin : (binOp op t (u.abs ρ) (v.abs ρ)).run P w = .ok (.bool (f b)) w := by
        have n1 : ∀ k p k' q, ¬ (u.abs ρ = .int k p ∧ v.abs ρ = .int k' q) := by
          rintro k p k' q ⟨e1, e2⟩
          have u1 : u = .raw (.int k p) ∨ ∃ k m l, u = .md k m l := by cases u <;> simp_all [V.abs]
          have u2 : v = .raw (.int k' q) ∨ ∃ k m l, v = .md k m l := by cases v <;> simp_all [V.abs]
          rcases u1 with rfl | ⟨k1, m1, l1, rfl⟩
          · rcases u2 with rfl | ⟨k2, m2, l2, rfl⟩
            · exact hns1 _ _ _ _ rfl rfl
            · simp only [vEq] at hb
              split at hb <;> first | cases hb | (split at hb <;> simp_all)
          · simp only [vEq] at hb
            split at hb <;> first | cases hb | (split at hb <;> simp_all)
        have n2 : ∀ p q, ¬ (u.abs ρ = .string p ∧ v.abs ρ = .string q) := by
          rintro p q ⟨e1, e2⟩
          have u1 : u = .raw (.string p) := by cases u <;> simp_all [V.abs]
          have u2 : v = .raw (.string q) := by cases v <;> simp_all [V.abs]
          exact hns2 _ _ u1 u2
        have n3 : ∀ k p k' q, ¬ (u.abs ρ = .float k p ∧ v.abs ρ = .float k' q) := by
          rintro k p k' q ⟨e1, e2⟩
          have u1 : u = .raw (.float k p) := by cases u <;> simp_all [V.abs]
          subst u1
          simp only [vEq] at hb
          split at hb <;> first | cases hb | (split at hb <;> simp_all)
        have n4 : ∀ k p p' k' q q', ¬ (u.abs ρ = .complex k p p' ∧ v.abs ρ = .complex k' q q') := by
          rintro k p p' k' q q' ⟨e1, e2⟩
          have u1 : u = .raw (.complex k p p') := by cases u <;> simp_all [V.abs]
          subst u1
          simp only [vEq] at hb
          split at hb <;> first | cases hb | (split at hb <;> simp_all)
        have e1 : binOp .eql t (u.abs ρ) (v.abs ρ) = (do pure (.bool (← Op.equal t (u.abs ρ) (v.abs ρ)))) := by
          generalize u.abs ρ = X at *
          generalize v.abs ρ = Y at *
          cases X <;> cases Y <;> first | rfl | exact absurd ⟨rfl, rfl⟩ (n1 _ _ _ _) | exact absurd ⟨rfl, rfl⟩ (n2 _ _) | exact absurd ⟨rfl, rfl⟩ (n3 _ _ _ _) | exact absurd ⟨rfl, rfl⟩ (n4 _ _ _ _ _ _)
        have e2 : binOp .neq t (u.abs ρ) (v.abs ρ) = (do pure (.bool (!(← Op.equal t (u.abs ρ) (v.abs ρ))))) := by
          generalize u.abs ρ = X at *
          generalize v.abs ρ = Y at *
          cases X <;> cases Y <;> first | rfl | exact absurd ⟨rfl, rfl⟩ (n1 _ _ _ _) | exact absurd ⟨rfl, rfl⟩ (n2 _ _) | exact absurd ⟨rfl, rfl⟩ (n3 _ _ _ _) | exact absurd ⟨rfl, rfl⟩ (n4 _ _ _ _ _ _)
        rcases hop with ⟨rfl, rfl⟩ | ⟨rfl, rfl⟩
        · rw [e1]; simp [Op.equal, Op.maxDepth, heq]
        · rw [e2]; simp [Op.equal, Op.maxDepth, heq]
      simp [hgd, hbin]
    split at h
    · obtain ⟨b, hb, hk⟩ := guard (.inl ⟨rfl, rfl⟩) h
      exact ⟨.raw (.bool b), by simpa [V.abs] using hb, hk, fun n => trivial⟩
    · obtain ⟨b, hb, hk⟩ := guard (.inr ⟨rfl, rfl⟩) h
      exact ⟨.raw (.bool (!b)), by simpa [V.abs] using hb, hk, fun n => trivial⟩
    · exact (hno h).elim
end
end Go.Proofs.YtpahclogghdnpaaDoorRL
