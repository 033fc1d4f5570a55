/- RL, tenth text: regions that draw their order, in whatever order. -/
import Derived.Test.YtolohpkjpgbahaazSemComparesRL9
import Derived.Orders
namespace Go.Proofs.YtolohpkjpgbahaaRL
open Go
set_option linter.unusedVariables false
set_option linter.unusedSimpArgs false
theorem put_eq {a b : Act} {d : Option Tmp} {u v : Value} (h : a.put d u = a.put d v) (hs : b.tmps.size = a.tmps.size) : b.put d u = b.put d v := by
  cases d with
  | none => rfl
  | some d =>
    simp only [Act.put] at h ⊢
    by_cases hd : d < a.tmps.size
    · have := congrArg (fun x : Act => x.tmps[d]?) h
      simp [hd] at this
      rw [this]
    · have hle : b.tmps.toList.length ≤ d := by rw [Array.length_toList, hs]; exact Nat.le_of_not_lt hd
      have e1 : ∀ x, b.tmps.setIfInBounds d x = b.tmps := by
        intro x
        apply Array.ext'
        rw [Array.toList_setIfInBounds, List.set_eq_of_length_le hle]
      rw [e1, e1]
theorem Gives.move {P : Program} {s : Sto} {o : Oper} {a b : Act} {ρ : Rho} {v : V} (h : Gives P s o a ρ v) (he : execOp b.eval o = execOp a.eval o) (hs : b.tmps.size = a.tmps.size) : Gives P s o b ρ v := by
  intro w hr K X hK
  have := h w hr (fun a' w' => a' = a.put o.dst (v.abs ρ) ∧ K (b.put o.dst (v.abs ρ)) w') (fun _ _ _ => False) (fun w' h1 h2 => ⟨rfl, hK w' h1 h2⟩)
  unfold Oper.wp at this ⊢
  rw [he]
  generalize (execOp a.eval o).run P w = r at this
  cases r with
  | ok n w' =>
    cases n <;> simp only [Oper.upon] at this ⊢
    case value u => rw [put_eq this.1 hs]; exact this.2
    case skip => rw [put_eq this.1 hs]; exact this.2
    case defer d =>
      have := congrArg Act.defers this.1
      cases hd : o.dst <;> simp [Act.put, hd] at this
    case enter f args =>
      refine Calls.mono this fun e w'' he => ?_
      cases e with
      | returned u => dsimp only at he ⊢; rw [put_eq he.1 hs]; exact he.2
      | panicked c => exact he.elim
      | outgrown => obtain ⟨_, _, hf⟩ := he; exact hf.elim
    case row row args => exact Rows.mono this fun u w'' he => by rw [put_eq he.1 hs]; exact he.2
  | halt x w' => cases x <;> simp only [Oper.upon] at this
def preds (o : Oper) : List Nat := (o.after.toList.filter (Region.binds .any)).map (·.on)
theorem mem_preds {o : Oper} {i : Nat} : i ∈ preds o ↔ ∃ e ∈ o.after, Region.binds .any e = true ∧ e.on = i := by
  simp only [preds, List.mem_map, List.mem_filter]
  constructor
  · rintro ⟨e, ⟨h1, h2⟩, h3⟩; exact ⟨e, by simpa using h1, h2, h3⟩
  · rintro ⟨e, h1, h2, h3⟩; exact ⟨e, ⟨by simpa using h1, h2⟩, h3⟩
/-- What an operation looks at is written by none of the region, or by one that it waits for; its edges go back. -/
def opOk (ops : List Oper) (j : Nat) (o : Oper) : Bool :=
  (preds o).all (fun i => Nat.blt i j) && (o.looksAt ops.toArray).all (fun t => ops.zipIdx.all fun p => !(p.1.dst == some t) || (preds o).contains p.2) && (match o.op with | .select _ _ => false | _ => true)
def opsOk (ops : List Oper) : List Oper → Nat → Bool
  | [], _ => true
  | o :: os, j => opOk ops j o && os.all (fun p => !(p.dst == o.dst && o.dst.isSome)) && opsOk ops os (j + 1)
/-- Each of the first m operations is waited for by a later one. -/
def sinkB (ops : List Oper) (m : Nat) : Bool := (List.range m).all fun i => (ops.zipIdx.any fun p => Nat.blt i p.2 && (preds p.1).contains i)
theorem opsOk_at {ops : List Oper} : ∀ {l : List Oper} {k j : Nat} {o : Oper}, opsOk ops l k = true → l[j]? = some o → opOk ops (k + j) o = true ∧ ∀ i p, j < i → l[i]? = some p → ∀ t, o.dst = some t → p.dst ≠ some t := by
  intro l
  induction l with
  | nil => intro k j o _ h; simp at h
  | cons x xs ih =>
    intro k j o h hj
    simp only [opsOk, Bool.and_eq_true] at h
    obtain ⟨⟨h1, h2⟩, h3⟩ := h
    cases j with
    | zero =>
      simp only [List.getElem?_cons_zero, Option.some.injEq] at hj
      subst hj
      refine ⟨h1, fun i p hi hp t ht hpt => ?_⟩
      obtain ⟨i, rfl⟩ : ∃ m, i = m + 1 := ⟨i - 1, by omega⟩
      have hm : p ∈ xs := List.mem_of_getElem? (by simpa using hp)
      have := List.all_eq_true.1 h2 p hm
      simp [ht, hpt] at this
    | succ j =>
      obtain ⟨g1, g2⟩ := ih h3 (by simpa using hj)
      refine ⟨by rw [show k + (j + 1) = k + 1 + j by omega]; exact g1, fun i p hi hp => ?_⟩
      obtain ⟨i, rfl⟩ : ∃ m, i = m + 1 := ⟨i - 1, by omega⟩
      exact g2 i p (by omega) (by simpa using hp)
def qrunT {R : Type} (no : R) (P : Program) (Q : Qh) (n : Nat) (ops : List Oper) (s : Sto) (K : List (Nat × V) → R) : List Oper → List (Nat × V) → R
  | [], e => K e
  | o :: os, e => vWantedT no ops o e
    (fun e => Wi no (quietVal P Q o.op e s) fun v => fl (putT n e o.dst v) fun e => qrunT no P Q n ops s K os e)
    (fun e => fl (putT n e o.dst (.raw undef)) fun e => qrunT no P Q n ops s K os e)
/-- The frame behind the first operations, in the text's order. -/
def actT (ρ : Rho) (a : Act) : List Oper → List V → Act
  | o :: os, v :: vs => actT ρ (a.put o.dst (v.abs ρ)) os vs
  | _, _ => a
section
variable {P : Program} {ρ : Rho} {w : World} {st : St} {a : Act}
/-- Operation o, at whatever frame that agrees with a on what it looks at, hands on v. -/
def OpGives (P : Program) (ops : Array Oper) (s : Sto) (ρ : Rho) (a : Act) (j : Nat) (o : Oper) (v : V) : Prop :=
  ∀ (b : Act) (w : World), b.tmps.size = a.tmps.size → (∀ t ∈ o.looksAt ops, b.tmps[t]? = a.tmps[t]?) → Rep ρ s w → ∀ (K : Act → World → Prop) (X : Exit → Act → World → Prop), (∀ w', Rep ρ s w' → Ext s ρ w s ρ w' → K (b.put o.dst (v.abs ρ)) w') → wpOp P ops X j K b w
theorem looks_same {ops : Array Oper} {o : Oper} {a b : Act} (hsel : ∀ cs x, o.op ≠ .select cs x) (h : ∀ t ∈ o.looksAt ops, b.tmps[t]? = a.tmps[t]?) : execOp b.eval o = execOp a.eval o ∧ Region.wanted o (yielded ops b.tmps) = Region.wanted o (yielded ops a.tmps) := by
  constructor
  · refine execOp_congr o hsel fun x hx => ?_
    cases x with
    | tmp t =>
      have := h t (List.mem_append_left _ (List.mem_filterMap.2 ⟨.tmp t, by simpa using hx, rfl⟩))
      simp [Act.eval, Array.getD_eq_getD_getElem?, this]
    | _ => rfl
  · unfold Region.wanted
    cases hg : o.guard with
    | none => rfl
    | some gw =>
      obtain ⟨g, want⟩ := gw
      have : yielded ops b.tmps g = yielded ops a.tmps g := by
        unfold yielded
        cases ht : (ops[g]?).bind (·.dst) with
        | none => rfl
        | some t =>
          have := h t (List.mem_append_right _ (by simp [hg, ht]))
          simp [this]
      simp only [this]
/-- What a run in the text's order tells of each operation. -/
theorem qrun_sound {R : Type} {no : R} {T : R → Prop} (hno : ¬ T no) {Q : Qh} (hQ : QOk P Q) {ops : Array Oper} {n : Nat} {s : Sto} {K : List (Nat × V) → R} : ∀ (l : List Oper) (k : Nat) (e : List (Nat × V)) (a : Act), (∀ j o, l[j]? = some o → ops[k + j]? = some o) → (∀ o ∈ l, ∀ cs x, o.op ≠ .select cs x) → Sim ρ ⟨n, e, s⟩ a w → T (qrunT no P Q n ops.toList s K l e) →
    ∃ vs e', T (K e') ∧ vs.length = l.length ∧ Sim ρ ⟨n, e', s⟩ (actT ρ a l vs) w ∧ ∀ (j : Nat) o v, l[j]? = some o → vs[j]? = some v → OpGives P ops s ρ (actT ρ a (l.take j) (vs.take j)) (k + j) o v := by
  intro l
  induction l with
  | nil => intro k e a _ _ h hq; exact ⟨[], e, hq, rfl, h, fun j o v hj => by simp at hj⟩
  | cons o l ih =>
    intro k e a hops hsel h hq
    simp only [qrunT, fl_eq] at hq
    have hj : ops[k]? = some o := hops 0 o rfl
    have hso := hsel o (by simp)
    have key : ∀ (v : V) (e1 : List (Nat × V)), Sim ρ ⟨n, putT n e1 o.dst v, s⟩ (a.put o.dst (v.abs ρ)) w → OpGives P ops s ρ a k o v → T (qrunT no P Q n ops.toList s K l (putT n e1 o.dst v)) →
        ∃ vs e', T (K e') ∧ vs.length = (o :: l).length ∧ Sim ρ ⟨n, e', s⟩ (actT ρ a (o :: l) vs) w ∧ ∀ (j : Nat) p u, (o :: l)[j]? = some p → vs[j]? = some u → OpGives P ops s ρ (actT ρ a ((o :: l).take j) (vs.take j)) (k + j) p u := by
      intro v e1 h2 g1 hq
      obtain ⟨vs, e', i0, i1, i2, i3⟩ := ih (k + 1) _ _ (fun j o' hj => by have := hops (j + 1) o' (by simpa using hj); rwa [show k + (j + 1) = k + 1 + j by omega] at this) (fun o' ho' => hsel o' (by simp [ho'])) h2 hq
      refine ⟨v :: vs, e', i0, by simp [i1], i2, fun j o' v' hj hv' => ?_⟩
      cases j with
      | zero =>
        simp only [List.getElem?_cons_zero, Option.some.injEq] at hj hv'
        subst hj hv'
        exact g1
      | succ j =>
        have := i3 j o' v' (by simpa using hj) (by simpa using hv')
        rw [show k + (j + 1) = k + 1 + j by omega]
        exact this
    rcases wanted_sound hno (st := ⟨n, e, s⟩) h hq with ⟨hw, e1, hq, h1⟩ | ⟨hw, e1, hq, h1⟩
    · obtain ⟨v, hv, hq⟩ := Wi.out hno hq
      obtain ⟨g1, g2⟩ := quietVal_sound hQ h1 hv
      refine key v e1 (h1.put (dst := o.dst) h1.rep h1.sb (Ext.refl _ _ _) g2) (fun b w' hsz hl hr K X hK => ?_) hq
      obtain ⟨e1, e2⟩ := looks_same hso hl
      unfold wpOp
      simp only [hj]
      rw [e2, if_pos hw]
      exact .inl ((g1.move e1 hsz) w' hr K X hK)
    · refine key (.raw undef) e1 (h1.put (dst := o.dst) (v := .raw undef) h1.rep h1.sb (Ext.refl _ _ _) trivial) (fun b w' hsz hl hr K X hK => ?_) hq
      obtain ⟨e1, e2⟩ := looks_same hso hl
      unfold wpOp
      simp only [hj]
      rw [e2, if_neg (by simp [hw])]
      exact hK w' hr (Ext.refl _ _ _)
end
section
variable {P : Program} {ρ : Rho} {w : World} {st : St} {a : Act}
theorem actT_size : ∀ (l : List Oper) (vs : List V) (a : Act), (actT ρ a l vs).tmps.size = a.tmps.size ∧ (actT ρ a l vs).defers = a.defers := by
  intro l
  induction l with
  | nil => intro vs a; exact ⟨rfl, rfl⟩
  | cons o l ih =>
    intro vs a
    cases vs with
    | nil => exact ⟨rfl, rfl⟩
    | cons v vs =>
      simp only [actT]
      obtain ⟨h1, h2⟩ := ih vs (a.put o.dst (v.abs ρ))
      rw [h1, h2]
      cases o.dst <;> simp [Act.put]
/-- What the frame holds behind the first operations: of each its value; else what it held. -/
theorem actT_at : ∀ (l : List Oper) (vs : List V) (a : Act) (k : Nat) (ops : List Oper), opsOk ops l k = true → vs.length = l.length → ∀ t,
    (∀ (j : Nat) o v, l[j]? = some o → vs[j]? = some v → o.dst = some t → t < a.tmps.size → (actT ρ a l vs).tmps[t]? = some (v.abs ρ)) ∧ ((∀ (j : Nat) o, l[j]? = some o → o.dst ≠ some t) → (actT ρ a l vs).tmps[t]? = a.tmps[t]?) := by
  intro l
  induction l with
  | nil => intro vs a k ops _ _ t; exact ⟨fun j o v hj => by simp at hj, fun _ => by cases vs <;> rfl⟩
  | cons o l ih =>
    intro vs a k ops hok hlen t
    cases vs with
    | nil => simp at hlen
    | cons v vs =>
      simp only [actT]
      have hok2 : opsOk ops l (k + 1) = true := by simp only [opsOk, Bool.and_eq_true] at hok; exact hok.2
      have hsz : (a.put o.dst (v.abs ρ)).tmps.size = a.tmps.size := by cases o.dst <;> simp [Act.put]
      obtain ⟨i1, i2⟩ := ih vs (a.put o.dst (v.abs ρ)) (k + 1) ops hok2 (by simpa using hlen) t
      refine ⟨fun j p u hj hu hd ht => ?_, fun hn => ?_⟩
      · cases j with
        | zero =>
          simp only [List.getElem?_cons_zero, Option.some.injEq] at hj hu
          subst hj hu
          rw [i2 (fun i p hp hpd => (opsOk_at hok (j := 0) (o := o) rfl).2 (i + 1) p (by omega) (by simpa using hp) t hd hpd)]
          simp [Act.put, hd, ht]
        | succ j => exact i1 j p u (by simpa using hj) (by simpa using hu) hd (by rw [hsz]; exact ht)
      · rw [i2 (fun j p hj => hn (j + 1) p (by simpa using hj))]
        have hne := hn 0 o rfl
        cases hd : o.dst with
        | none => rfl
        | some d => simp [Act.put, Array.getElem?_setIfInBounds_ne (fun e : d = t => hne (by rw [hd, e]))]
/-- How far an order has come: the operations that are done, all of the head; the frame; the store. -/
structure Inv (P : Program) (ops : Array Oper) (ρ : Rho) (s : Sto) (w0 : World) (a0 : Act) (vs : List V) (m : Nat) (listed : Array Bool) (a : Act) (w : World) : Prop where
  size : listed.size = ops.size
  head : ∀ j, m ≤ j → listed.getD j false = false
  closed : ∀ (j : Nat) o, ops[j]? = some o → listed.getD j false = true → ∀ i ∈ preds o, listed.getD i false = true
  tsize : a.tmps.size = a0.tmps.size
  defers : a.defers = a0.defers
  val : ∀ (j : Nat) o v t, ops[j]? = some o → vs[j]? = some v → listed.getD j false = true → o.dst = some t → t < a0.tmps.size → a.tmps[t]? = some (v.abs ρ)
  old : ∀ t, (∀ (j : Nat) o, ops[j]? = some o → listed.getD j false = true → o.dst ≠ some t) → a.tmps[t]? = a0.tmps[t]?
  rep : Rep ρ s w
  ext : Ext s ρ w0 s ρ w
/-- All orders of a region: its first m operations hand on values, whatever the order; behind them all X is met. -/
theorem region_any {ops : Array Oper} {s : Sto} {w0 : World} {a0 : Act} {vs : List V} {m : Nat} {X : Exit → Act → World → Prop} (hok : opsOk ops.toList ops.toList 0 = true) (hm : m ≤ ops.size) (hvs : vs.length = m)
    (hgive : ∀ (j : Nat) o v, j < m → ops[j]? = some o → vs[j]? = some v → OpGives P ops s ρ (actT ρ a0 (ops.toList.take j) (vs.take j)) j o v)
    (hend : ∀ (g : Nat) (listed : Array Bool) (a : Act) (w : World), Inv P ops ρ s w0 a0 vs m listed a w → (∀ j, j < m → listed.getD j false = true) → g = ops.size - m → wpAny P .any ops X g listed a w)
    (hlast : ∀ (listed : Array Bool), listed.size = ops.size → (∀ j, m ≤ j → listed.getD j false = false) → (∀ (j : Nat) o, ops[j]? = some o → listed.getD j false = true → ∀ i ∈ preds o, listed.getD i false = true) → ∀ j, m ≤ j → j ∈ Region.ready .any ops listed → ∀ i, i < m → listed.getD i false = true) :
    ∀ (d : Nat) (listed : Array Bool) (a : Act) (w : World), Inv P ops ρ s w0 a0 vs m listed a w → ((List.range m).filter fun j => !listed.getD j false).length = d → wpAny P .any ops X (d + (ops.size - m)) listed a w := by
  intro d
  induction d with
  | zero =>
    intro listed a w inv hd
    rw [Nat.zero_add]
    refine hend _ listed a w inv (fun j hj => ?_) rfl
    cases hl : listed.getD j false with
    | true => rfl
    | false =>
      have : j ∈ (List.range m).filter fun j => !listed.getD j false := List.mem_filter.2 ⟨List.mem_range.2 hj, by simp [hl]⟩
      rw [List.length_eq_zero_iff.1 hd] at this
      cases this
  | succ d ih =>
    intro listed a w inv hd
    rw [show d + 1 + (ops.size - m) = (d + (ops.size - m)) + 1 by omega]
    have hun : ∃ i, i < m ∧ listed.getD i false = false := by
      have hne : ((List.range m).filter fun j => !listed.getD j false) ≠ [] := fun h => by rw [h] at hd; cases hd
      obtain ⟨i, hi⟩ := List.exists_mem_of_ne_nil _ hne
      obtain ⟨h1, h2⟩ := List.mem_filter.1 hi
      exact ⟨i, List.mem_range.1 h1, by simpa using h2⟩
    obtain ⟨i0, hi0, hi0f⟩ := hun
    have rdy : ∀ j, j ∈ Region.ready .any ops listed → j < m ∧ listed.getD j false = false ∧ ∃ o, ops[j]? = some o ∧ ∀ i ∈ preds o, listed.getD i false = true := by
      intro j hj
      obtain ⟨h1, o, h2, h3⟩ := mem_ready.1 hj
      have hlt : j < m := by
        rcases Nat.lt_or_ge j m with h | h
        · exact h
        · have := hlast listed inv.size inv.head inv.closed j h hj i0 hi0
          rw [hi0f] at this; cases this
      have hjs : j < listed.size := by rw [inv.size]; omega
      refine ⟨hlt, by simpa [hjs] using h1, o, h2, fun i hi => ?_⟩
      obtain ⟨e, he, hb, rfl⟩ := mem_preds.1 hi
      exact h3 e he hb
    refine ⟨fun hnil => ?_, fun j hj => ?_⟩
    · -- the least that is not done is ready
      exfalso
      have : ∀ i, i < m → listed.getD i false = false → False := by
        intro i
        induction i using Nat.strongRecOn with
        | _ i ih2 =>
          intro hi hf
          have hio : i < ops.size := by omega
          have hok1 := (opsOk_at (l := ops.toList) hok (j := i) (o := ops[i]) (by simp [hio])).1
          simp only [opOk, Bool.and_eq_true, Nat.zero_add] at hok1
          have hpre : ∀ x ∈ preds ops[i], x < i := fun x hx => by
            have := List.all_eq_true.1 hok1.1.1 x hx
            simpa [Nat.blt_eq] using this
          have hr : i ∈ Region.ready .any ops listed := by
            refine mem_ready.2 ⟨by simpa [inv.size, hio] using hf, ops[i], by simp [hio], fun e he hb => ?_⟩
            have hx := mem_preds.2 ⟨e, he, hb, rfl⟩
            cases hl : listed.getD e.on false with
            | true => rfl
            | false => exact (ih2 e.on (hpre _ hx) (by have := hpre _ hx; omega) hl).elim
          rw [hnil] at hr
          cases hr
      exact this i0 hi0 hi0f
    · obtain ⟨hjm, hjf, o, ho, hpre⟩ := rdy j hj
      obtain ⟨v, hv⟩ : ∃ v, vs[j]? = some v := ⟨vs[j]'(by omega), by simp [hvs, hjm]⟩
      have hol : ops.toList[j]? = some o := by rw [Array.getElem?_toList]; exact ho
      obtain ⟨hok1, hok2⟩ := opsOk_at (l := ops.toList) hok hol
      simp only [opOk, Bool.and_eq_true, Nat.zero_add] at hok1
      have hgv := hgive j o v hjm ho hv
      have hjs : j < listed.size := by rw [inv.size]; exact (Array.getElem?_eq_some_iff.1 ho).1
      obtain ⟨tz, _⟩ := actT_size (ρ := ρ) (ops.toList.take j) (vs.take j) a0
      have hokj : opsOk ops.toList (ops.toList.take j) 0 = true := by
        have : ∀ (l : List Oper) (k j : Nat), opsOk ops.toList l k = true → opsOk ops.toList (l.take j) k = true := by
          intro l
          induction l with
          | nil => intro k j h; simpa using h
          | cons x xs ihx =>
            intro k j h
            cases j with
            | zero => rfl
            | succ j =>
              simp only [opsOk, Bool.and_eq_true, List.take_succ_cons] at h ⊢
              exact ⟨⟨h.1.1, List.all_eq_true.2 fun p hp => List.all_eq_true.1 h.1.2 p (List.mem_of_mem_take hp)⟩, ihx _ _ h.2⟩
        exact this _ _ _ hok
      have hlenj : (vs.take j).length = (ops.toList.take j).length := by simp [hvs]; omega
      have hlook : ∀ t ∈ o.looksAt ops, a.tmps[t]? = (actT ρ a0 (ops.toList.take j) (vs.take j)).tmps[t]? := by
        intro t ht
        have hw := List.all_eq_true.1 hok1.1.2 t (by simpa using ht)
        have hwr : ∀ (i : Nat) p, ops[i]? = some p → p.dst = some t → i ∈ preds o := by
          intro i p hp hpd
          have hpl : ops.toList[i]? = some p := by rw [Array.getElem?_toList]; exact hp
          have := List.all_eq_true.1 hw (p, i) (List.mem_zipIdx_iff_getElem?.2 hpl)
          simpa [hpd] using this
        obtain ⟨c1, c2⟩ := actT_at (ρ := ρ) (ops.toList.take j) (vs.take j) a0 0 ops.toList hokj hlenj t
        by_cases hex : ∃ (i : Nat) (p : Oper), ops[i]? = some p ∧ p.dst = some t
        · obtain ⟨i, p, hp, hpd⟩ := hex
          have hip := hwr i p hp hpd
          have hij : i < j := by
            have := List.all_eq_true.1 hok1.1.1 i hip
            simpa [Nat.blt_eq] using this
          obtain ⟨u, hu⟩ : ∃ u, vs[i]? = some u := ⟨vs[i]'(by omega), by simp⟩
          by_cases htl : t < a0.tmps.size
          · rw [inv.val i p u t hp hu (hpre i hip) hpd htl]
            exact (c1 i p u (by rw [List.getElem?_take, if_pos hij, Array.getElem?_toList]; exact hp) (by rw [List.getElem?_take, if_pos hij]; exact hu) hpd htl).symm
          · have hle := Nat.le_of_not_lt htl
            have n1 : a.tmps[t]? = none := Array.getElem?_eq_none (by rw [inv.tsize]; exact hle)
            have n2 : (actT ρ a0 (ops.toList.take j) (vs.take j)).tmps[t]? = none := Array.getElem?_eq_none (by rw [tz]; exact hle)
            rw [n1, n2]
        · have hno : ∀ (i : Nat) p, ops[i]? = some p → p.dst ≠ some t := fun i p hp hpd => hex ⟨i, p, hp, hpd⟩
          rw [inv.old t fun i p hp _ => hno i p hp]
          refine (c2 fun i p hp => ?_).symm
          rw [List.getElem?_take] at hp
          split at hp
          · exact hno i p (by rw [← Array.getElem?_toList]; exact hp)
          · cases hp
      refine hgv a w (by rw [inv.tsize, tz]) hlook inv.rep _ X fun w' r1 r2 => ?_
      have hput : (a.put o.dst (v.abs ρ)).tmps.size = a.tmps.size := by cases o.dst <;> simp [Act.put]
      refine ih _ _ _ ⟨by simp [inv.size], fun i hi => ?_, fun i p hp hl x hx => ?_, by rw [hput, inv.tsize], by cases o.dst <;> simp [Act.put, inv.defers], fun i p u t hp hu hl hd ht => ?_, fun t hn => ?_, r1, inv.ext.trans r2⟩ ?_
      · rw [getD_set_ne false (by omega)]; exact inv.head i hi
      · by_cases hij : j = i
        · subst hij
          obtain rfl : p = o := Option.some.inj (hp.symm.trans ho)
          exact getD_set_true (hpre x hx)
        · rw [getD_set_ne false hij] at hl
          exact getD_set_true (inv.closed i p hp hl x hx)
      · by_cases hij : j = i
        · subst hij
          obtain rfl : p = o := Option.some.inj (hp.symm.trans ho)
          obtain rfl : u = v := Option.some.inj (hu.symm.trans hv)
          simp [Act.put, hd, inv.tsize, ht]
        · rw [getD_set_ne false hij] at hl
          have hne : o.dst ≠ some t := by
            intro hod
            have hpl : ops.toList[i]? = some p := by rw [Array.getElem?_toList]; exact hp
            rcases Nat.lt_or_gt_of_ne hij with hlt | hgt
            · exact hok2 i p hlt hpl t hod hd
            · exact (opsOk_at (l := ops.toList) hok hpl).2 j o hgt hol t hd hod
          have := inv.val i p u t hp hu hl hd ht
          cases hod : o.dst with
          | none => simpa [Act.put] using this
          | some x => 
            have hxt : x ≠ t := fun e => hne (by rw [hod, e])
            simpa [Act.put, Array.getElem?_setIfInBounds_ne hxt] using this
      · have hne : o.dst ≠ some t := hn j o ho (by simp [hjs])
        have hold := inv.old t fun i p hp hl => hn i p hp (by
          by_cases hij : j = i
          · subst hij; simp [hjs]
          · rw [getD_set_ne false hij]; exact hl)
        cases hod : o.dst with
        | none => simpa [Act.put] using hold
        | some x => 
          have hxt : x ≠ t := fun e => hne (by rw [hod, e])
          simpa [Act.put, Array.getElem?_setIfInBounds_ne hxt] using hold
      · have hmem : j ∈ (List.range m).filter fun j => !listed.getD j false := List.mem_filter.2 ⟨List.mem_range.2 hjm, by simp [hjf]⟩
        have heq : ((List.range m).filter fun x => !(listed.setIfInBounds j true).getD x false) = ((List.range m).filter fun x => !listed.getD x false).erase j := by
          rw [List.Nodup.erase_eq_filter (List.Pairwise.filter _ List.nodup_range), List.filter_filter]
          refine List.filter_congr fun x hx => ?_
          by_cases hxj : j = x
          · subst hxj; simp [hjs]
          · have hne : (x != j) = true := by simpa using fun e : x = j => hxj e.symm
            rw [getD_set_ne false hxj, hne, Bool.true_and]
        rw [heq, List.length_erase_of_mem hmem, hd]
        rfl
end
end Go.Proofs.YtolohpkjpgbahaaRL
