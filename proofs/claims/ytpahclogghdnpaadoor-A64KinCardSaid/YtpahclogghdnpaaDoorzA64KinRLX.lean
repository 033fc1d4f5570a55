/- RL: calls that only read: known at other places, of other blocks, they are known where these lie within the store's. -/
import Derived.Test.YtpahclogghdnpaaDoorzA64KinRLT
namespace Go.Proofs.YtpahclogghdnpaaDoorRL
open Go
set_option linter.unusedVariables false
set_option linter.unusedSimpArgs false
/-- A call that reads what memory holds, told by another store that has no block of its own, and gives back a flat value. -/
theorem CallOk.reads {P : Program} {f : FuncId} {args : List V} {s : Sto} {v : V} (hv : v.bd 0) (hp : ∀ (xs : Array Value) (w : World), (callFunc f xs).run P w = .ok (.enter f xs) w)
    (h : ∀ ρ w, Rep ρ s w → sbd s → ∃ ρ0 args0 s0, absL ρ args = absL ρ0 args0 ∧ Rep ρ0 s0 w ∧ sbd s0 ∧ bdL s0.length args0 ∧ (∀ (i : Nat) e, s0[i]? = some e → e.isOwn = false) ∧ CallOk P f args0 s0 fun r _ => r = .ret v) : CallOk P f args s fun r s' => r = .ret v ∧ s' = s := by
  refine ⟨hp, fun ρ w h1 h2 h3 => ?_⟩
  obtain ⟨ρ0, args0, s0, e1, e2, e3, e4, e5, e6⟩ := h ρ w h1 h2
  rw [e1]
  refine (e6.run ρ0 w e2 e3 e4).mono ?_
  rintro e w' ⟨r, s', ρ', rfl, rfl, r1, r2, r3, r4⟩
  have hblk : ∀ b, b < w.heap.size → w'.heap[b]? = w.heap[b]? := fun b hb => r2.block b hb fun i e hi ho => by rw [e5 i e hi] at ho; cases ho
  refine ⟨.ret v, s, ρ, ?_, ⟨rfl, rfl⟩, ⟨fun i e hi => ?_, h1.sep⟩, ⟨Nat.le_refl _, fun _ _ => rfl, fun i e h ho => .inl ⟨i, e, h, ho, rfl⟩, r2.os, r2.tape, r2.output, r2.size, fun b hb _ => hblk b hb⟩, h2, V.bd_mono (Nat.zero_le _) v hv⟩
  · simp only [Res.ending]
    rw [V.abs_congr (n := 0) (fun i hi => absurd hi (by omega)) v hv]
  · have hr := h1.ent i e hi
    cases hl : e.live with
    | true => exact RepE.congr (n := s.length) (fun _ _ => rfl) (List.getElem?_eq_some_iff.1 hi).1 (h2 i e hi) (hblk _ (hr.lt hl)) r2.size hr
    | false => cases e <;> simp_all [Ent.live, RepE]
/-- The cells of block i from off on. -/
def cellsAt (s : Sto) (i off : Nat) : List V := match s[i]? with
  | some e => match e.cells with
    | some cs => cs.drop off
    | none => []
  | none => []
theorem cellsAt_ro {s : Sto} {i off : Nat} {vs : List V} {rest : List V} (h : cellsAt s i off = vs ++ rest) (h0 : vs ≠ []) (hv : bdL 0 vs) {ρ : Rho} {w : World} (hr : Rep ρ s w) :
    Rep (fun _ => ((ρ i).1, (ρ i).2 + off)) [.ro vs] w ∧ sbd [.ro vs] := by
  have key : ∃ e cs, s[i]? = some e ∧ e.cells = some cs ∧ cs.drop off = vs ++ rest := by
    unfold cellsAt at h
    split at h
    · rename_i e he
      split at h
      · rename_i cs hc
        exact ⟨e, cs, he, hc, h⟩
      · exact absurd (List.append_eq_nil_iff.1 h.symm).1 h0
    · exact absurd (List.append_eq_nil_iff.1 h.symm).1 h0
  obtain ⟨e, cs, he, hc, hd⟩ := key
  have hro := hr.toRo.ent i (.ro cs) (by
    simp only [roS, List.getElem?_map, he]
    cases e <;> simp [Ent.cells] at hc <;> subst hc <;> rfl)
  refine ⟨⟨fun j x hx => ?_, fun a b e f ha _ ho => ?_⟩, fun j x hx => ?_⟩
  · cases j with
    | succ j => simp at hx
    | zero =>
      simp at hx
      subst hx
      refine ⟨hro.1, fun j v hj => ?_⟩
      have h1 : cs[off + j]? = some v := by
        rw [← List.getElem?_drop, hd, List.getElem?_append_left (List.getElem?_eq_some_iff.1 hj).1]
        exact hj
      have := hro.2 (off + j) v h1
      rw [V.abs_congr (ρ := ρ) (n := 0) (fun i hi => absurd hi (Nat.not_lt_zero i)) v (bdL_iff.1 hv v (List.mem_of_getElem? hj)), ← this]
      simp only [Nat.add_assoc]
  · cases a with
    | zero => simp at ha; subst ha; cases ho
    | succ a => simp at ha
  · cases j with
    | zero => simp at hx; subst hx; exact bdL_mono (Nat.zero_le _) _ hv
    | succ j => simp at hx
/-- A call with a pointer to flat cells, which it reads. -/
theorem CallOk.at {P : Program} {f : FuncId} {i off : Nat} {s : Sto} {vs rest args : List V} {v : V} (hv : v.bd 0) (hc : cellsAt s i off = vs ++ rest) (h0 : vs ≠ []) (hb : bdL 0 vs) (ha : bdL 0 args)
    (h : CallOk P f (.ptr 0 0 :: args) [.ro vs] fun r _ => r = .ret v) : CallOk P f (.ptr i off :: args) s fun r s' => r = .ret v ∧ s' = s := by
  refine CallOk.reads hv h.plain fun ρ w hr hs => ⟨_, .ptr 0 0 :: args, [.ro vs], ?_, (cellsAt_ro hc h0 hb hr).1, (cellsAt_ro hc h0 hb hr).2, ⟨Nat.zero_lt_one, bdL_mono (Nat.zero_le _) _ ha⟩, fun j e he => ?_, h⟩
  · simp only [absL, V.abs, Nat.add_zero]
    exact congrArg _ (absL_congr (n := 0) (fun i hi => absurd hi (Nat.not_lt_zero i)) args ha)
  · cases j with
    | zero => simp at he; subst he; rfl
    | succ j => simp at he
mutual
theorem V.ren_flat {π : Nat → Nat} : ∀ (v : V), v.bd 0 → v.ren π = v
  | .raw v, _ => rfl
  | .md k m l, _ => rfl
  | .ptr i o, h => absurd h (Nat.not_lt_zero i)
  | .sl i o n c, h => absurd h (Nat.not_lt_zero i)
  | .mp i, h => absurd h (Nat.not_lt_zero i)
  | .yld i, h => absurd h (Nat.not_lt_zero i)
  | .lst i k o e m, h => absurd h.1 (Nat.not_lt_zero i)
  | .el i z k f, h => absurd h (Nat.not_lt_zero i)
  | .sle i z k n c, h => absurd h (Nat.not_lt_zero i)
  | .lse i k z e m, h => absurd h.1 (Nat.not_lt_zero i)
  | .lend i k o e l z, h => absurd h.1 (Nat.not_lt_zero i)
  | .fn f a b, h => by simp only [V.ren, renL_flat a h.1, renL_flat b h.2]
  | .ifc t v, h => by simp only [V.ren, V.ren_flat v h]
  | .agg cs, h => by simp only [V.ren, renL_flat cs h]
  | .tup vs, h => by simp only [V.ren, renL_flat vs h]
theorem renL_flat {π : Nat → Nat} : ∀ (l : List V), bdL 0 l → renL π l = l
  | [], _ => rfl
  | v :: l, h => by simp only [renL, V.ren_flat v h.1, renL_flat l h.2]
end
end Go.Proofs.YtpahclogghdnpaaDoorRL
