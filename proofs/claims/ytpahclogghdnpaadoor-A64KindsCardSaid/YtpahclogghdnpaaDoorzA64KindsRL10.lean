/- RL, tenth text: regions that draw their order, in whatever order. -/
import Derived.Test.YtpahclogghdnpaaDoorzA64KindsRL9
import Derived.Orders
namespace Go.Proofs.YtpahclogghdnpaaDoorRL
open Go
set_option linter.unusedVariables false
set_option linter.unusedSimpArgs false
variable {Δ : List Deferred}
theorem put_eq {a b : Act} {d : Option Tmp} {u v : Value} (h : a.put d u = a.put d v) (hs : b.tmps.size = a.tmps.size) : b.put d u = b.put d v := by
  cases d with
  | none => rfl
  | some d =>
    simp only [Act.put] at h ⊢
    by_cases hd : d < a.tmps.size
    · have := congrArg (fun x : Act => x.tmps[d]?) h
      simp [hd] at this
      rw [this]
    · have hle : b.tmps.toList.length ≤ d := by rw [Array.length_toList, hs]; exact Nat.le_of_not_lt hd
      have e1 : ∀ x, b.tmps.setIfInBounds d x = b.tmps := by
        intro x
        apply Array.ext'
        rw [Array.toList_setIfInBounds, List.set_eq_of_length_le hle]
      rw [e1, e1]
def preds (o : Oper) : List Nat := (o.after.toList.filter (Region.binds .any)).map (·.on)
theorem mem_preds {o : Oper} {i : Nat} : i ∈ preds o ↔ ∃ e ∈ o.after, Region.binds .any e = true ∧ e.on = i := by
  simp only [preds, List.mem_map, List.mem_filter]
  constructor
  · rintro ⟨e, ⟨h1, h2⟩, h3⟩; exact ⟨e, by simpa using h1, h2, h3⟩
  · rintro ⟨e, h1, h2, h3⟩; exact ⟨e, ⟨by simpa using h1, h2⟩, h3⟩
/-- What an operation looks at is written by none of the region, or by one that it waits for; its edges go back. -/
def opOk (ops : List Oper) (j : Nat) (o : Oper) : Bool :=
  (preds o).all (fun i => Nat.blt i j) && (o.looksAt ops.toArray).all (fun t => ops.zipIdx.all fun p => !(p.1.dst == some t) || (preds o).contains p.2 || (preds p.1).contains j) && (match o.op with | .select _ _ => false | _ => true)
def opsOk (ops : List Oper) : List Oper → Nat → Bool
  | [], _ => true
  | o :: os, j => opOk ops j o && os.all (fun p => !(p.dst == o.dst && o.dst.isSome)) && opsOk ops os (j + 1)
theorem opsOk_at {ops : List Oper} : ∀ {l : List Oper} {k j : Nat} {o : Oper}, opsOk ops l k = true → l[j]? = some o → opOk ops (k + j) o = true ∧ ∀ i p, j < i → l[i]? = some p → ∀ t, o.dst = some t → p.dst ≠ some t := by
  intro l
  induction l with
  | nil => intro k j o _ h; simp at h
  | cons x xs ih =>
    intro k j o h hj
    simp only [opsOk, Bool.and_eq_true] at h
    obtain ⟨⟨h1, h2⟩, h3⟩ := h
    cases j with
    | zero =>
      simp only [List.getElem?_cons_zero, Option.some.injEq] at hj
      subst hj
      refine ⟨h1, fun i p hi hp t ht hpt => ?_⟩
      obtain ⟨i, rfl⟩ : ∃ m, i = m + 1 := ⟨i - 1, by omega⟩
      have hm : p ∈ xs := List.mem_of_getElem? (by simpa using hp)
      have := List.all_eq_true.1 h2 p hm
      simp [ht, hpt] at this
    | succ j =>
      obtain ⟨g1, g2⟩ := ih h3 (by simpa using hj)
      refine ⟨by rw [show k + (j + 1) = k + 1 + j by omega]; exact g1, fun i p hi hp => ?_⟩
      obtain ⟨i, rfl⟩ : ∃ m, i = m + 1 := ⟨i - 1, by omega⟩
      exact g2 i p (by omega) (by simpa using hp)
/-- The frame behind the first operations, in the text's order. -/
def actT (ρ : Rho) (a : Act) : List Oper → List V → Act
  | o :: os, v :: vs => actT ρ (a.put o.dst (v.abs ρ)) os vs
  | _, _ => a
section
variable {P : Program} {ρ : Rho} {w : World} {st : St} {a : Act}
theorem looks_same {ops : Array Oper} {o : Oper} {a b : Act} (hsel : ∀ cs x, o.op ≠ .select cs x) (h : ∀ t ∈ o.looksAt ops, b.tmps[t]? = a.tmps[t]?) : execOp b.eval o = execOp a.eval o ∧ Region.wanted o (yielded ops b.tmps) = Region.wanted o (yielded ops a.tmps) := by
  constructor
  · refine execOp_congr o hsel fun x hx => ?_
    cases x with
    | tmp t =>
      have := h t (List.mem_append_left _ (List.mem_filterMap.2 ⟨.tmp t, by simpa using hx, rfl⟩))
      simp [Act.eval, Array.getD_eq_getD_getElem?, this]
    | _ => rfl
  · unfold Region.wanted
    cases hg : o.guard with
    | none => rfl
    | some gw =>
      obtain ⟨g, want⟩ := gw
      have : yielded ops b.tmps g = yielded ops a.tmps g := by
        unfold yielded
        cases ht : (ops[g]?).bind (·.dst) with
        | none => rfl
        | some t =>
          have := h t (List.mem_append_right _ (by simp [hg, ht]))
          simp [this]
      simp only [this]
end
section
variable {P : Program} {ρ : Rho} {w : World} {st : St} {a : Act}
theorem actT_size : ∀ (l : List Oper) (vs : List V) (a : Act), (actT ρ a l vs).tmps.size = a.tmps.size ∧ (actT ρ a l vs).defers = a.defers := by
  intro l
  induction l with
  | nil => intro vs a; exact ⟨rfl, rfl⟩
  | cons o l ih =>
    intro vs a
    cases vs with
    | nil => exact ⟨rfl, rfl⟩
    | cons v vs =>
      simp only [actT]
      obtain ⟨h1, h2⟩ := ih vs (a.put o.dst (v.abs ρ))
      rw [h1, h2]
      cases o.dst <;> simp [Act.put]
/-- What the frame holds behind the first operations: of each its value; else what it held. -/
theorem actT_at : ∀ (l : List Oper) (vs : List V) (a : Act) (k : Nat) (ops : List Oper), opsOk ops l k = true → vs.length = l.length → ∀ t,
    (∀ (j : Nat) o v, l[j]? = some o → vs[j]? = some v → o.dst = some t → t < a.tmps.size → (actT ρ a l vs).tmps[t]? = some (v.abs ρ)) ∧ ((∀ (j : Nat) o, l[j]? = some o → o.dst ≠ some t) → (actT ρ a l vs).tmps[t]? = a.tmps[t]?) := by
  intro l
  induction l with
  | nil => intro vs a k ops _ _ t; exact ⟨fun j o v hj => by simp at hj, fun _ => by cases vs <;> rfl⟩
  | cons o l ih =>
    intro vs a k ops hok hlen t
    cases vs with
    | nil => simp at hlen
    | cons v vs =>
      simp only [actT]
      have hok2 : opsOk ops l (k + 1) = true := by simp only [opsOk, Bool.and_eq_true] at hok; exact hok.2
      have hsz : (a.put o.dst (v.abs ρ)).tmps.size = a.tmps.size := by cases o.dst <;> simp [Act.put]
      obtain ⟨i1, i2⟩ := ih vs (a.put o.dst (v.abs ρ)) (k + 1) ops hok2 (by simpa using hlen) t
      refine ⟨fun j p u hj hu hd ht => ?_, fun hn => ?_⟩
      · cases j with
        | zero =>
          simp only [List.getElem?_cons_zero, Option.some.injEq] at hj hu
          subst hj hu
          rw [i2 (fun i p hp hpd => (opsOk_at hok (j := 0) (o := o) rfl).2 (i + 1) p (by omega) (by simpa using hp) t hd hpd)]
          simp [Act.put, hd, ht]
        | succ j => exact i1 j p u (by simpa using hj) (by simpa using hu) hd (by rw [hsz]; exact ht)
      · rw [i2 (fun j p hj => hn (j + 1) p (by simpa using hj))]
        have hne := hn 0 o rfl
        cases hd : o.dst with
        | none => rfl
        | some d => simp [Act.put, Array.getElem?_setIfInBounds_ne (fun e : d = t => hne (by rw [hd, e]))]
end
end Go.Proofs.YtpahclogghdnpaaDoorRL
