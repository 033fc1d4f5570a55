/- RL, eleventh text: regions that draw, computed; calls computed whole. -/
import Derived.Test.YtolohpkjpgbahaazSemComparesRL10
namespace Go.Proofs.YtolohpkjpgbahaaRL
open Go
set_option linter.unusedVariables false
set_option linter.unusedSimpArgs false
/-- A region that draws its order: what changes nothing in the text's order, then the last operation, if all others are waited for. -/
def drwT {R : Type} (no : R) (P : Program) (C : Ch R) (Q : Qh) (ops : List Oper) (K : Ex → St → R) (n : Nat) (e : List (Nat × V)) (s : Sto) : R :=
  match opsOk ops ops 0 with
  | false => no
  | true => match Nat.blt 0 ops.length && sinkB ops (ops.length - 1) with
    | true => qrunT no P Q n ops s (fun e => evOpsT no P C ops K n (ops.drop (ops.length - 1)) e s) (ops.take (ops.length - 1)) e
    | false => qrunT no P Q n ops s (fun e => K .normal ⟨n, e, s⟩) ops e
theorem getD_replicate_false (m j : Nat) : (Array.replicate m false).getD j false = false := by
  rcases Nat.lt_or_ge j m with h | h
  · simp [h]
  · simp [h]
section
variable {P : Program} {ρ : Rho} {st : St}
theorem inv_tmps {ops : Array Oper} {s : Sto} {w0 w : World} {a0 a : Act} {vs : List V} {m : Nat} {listed : Array Bool} (hok : opsOk ops.toList ops.toList 0 = true) (hm : m ≤ ops.size) (hvs : vs.length = m) (inv : Inv P ops ρ s w0 a0 vs m listed a w) (hall : ∀ j, j < m → listed.getD j false = true) (t : Nat) :
    a.tmps[t]? = (actT ρ a0 (ops.toList.take m) vs).tmps[t]? := by
  have hokj : opsOk ops.toList (ops.toList.take m) 0 = true := by
    have : ∀ (l : List Oper) (k j : Nat), opsOk ops.toList l k = true → opsOk ops.toList (l.take j) k = true := by
      intro l
      induction l with
      | nil => intro k j h; simpa using h
      | cons x xs ihx =>
        intro k j h
        cases j with
        | zero => rfl
        | succ j =>
          simp only [opsOk, Bool.and_eq_true, List.take_succ_cons] at h ⊢
          exact ⟨⟨h.1.1, List.all_eq_true.2 fun p hp => List.all_eq_true.1 h.1.2 p (List.mem_of_mem_take hp)⟩, ihx _ _ h.2⟩
    exact this _ _ _ hok
  have hlen : vs.length = (ops.toList.take m).length := by simp [hvs]; omega
  obtain ⟨c1, c2⟩ := actT_at (ρ := ρ) (ops.toList.take m) vs a0 0 ops.toList hokj hlen t
  obtain ⟨tz, _⟩ := actT_size (ρ := ρ) (ops.toList.take m) vs a0
  have hin : ∀ (i : Nat) p, (ops.toList.take m)[i]? = some p → i < m ∧ ops[i]? = some p := by
    intro i p hp
    rw [List.getElem?_take] at hp
    split at hp
    · rename_i hi; exact ⟨hi, by rw [← Array.getElem?_toList]; exact hp⟩
    · cases hp
  by_cases hex : ∃ (i : Nat) (p : Oper), (ops.toList.take m)[i]? = some p ∧ p.dst = some t
  · obtain ⟨i, p, hp, hpd⟩ := hex
    obtain ⟨him, hpo⟩ := hin i p hp
    obtain ⟨u, hu⟩ : ∃ u, vs[i]? = some u := ⟨vs[i]'(by omega), by simp⟩
    by_cases htl : t < a0.tmps.size
    · rw [inv.val i p u t hpo hu (hall i him) hpd htl, c1 i p u hp hu hpd htl]
    · have hle := Nat.le_of_not_lt htl
      have n1 : a.tmps[t]? = none := Array.getElem?_eq_none (by rw [inv.tsize]; exact hle)
      have n2 : (actT ρ a0 (ops.toList.take m) vs).tmps[t]? = none := Array.getElem?_eq_none (by rw [tz]; exact hle)
      rw [n1, n2]
  · rw [c2 fun i p hp hpd => hex ⟨i, p, hp, hpd⟩]
    refine inv.old t fun i p hp hl hpd => hex ⟨i, p, ?_, hpd⟩
    have him : i < m := by
      rcases Nat.lt_or_ge i m with h | h
      · exact h
      · rw [inv.head i h] at hl; cases hl
    rw [List.getElem?_take, if_pos him, Array.getElem?_toList]
    exact hp
theorem Sim.same {a b : Act} {w w' : World} (h : Sim ρ st a w) (ht : ∀ t : Nat, b.tmps[t]? = a.tmps[t]?) (hd : b.defers = []) (hs : b.tmps.size = a.tmps.size) (hr : Rep ρ st.s w') : Sim ρ st b w' :=
  ⟨hd, by rw [hs]; exact h.size, fun t v hv => by rw [ht]; exact h.tmps t v hv, h.bd, hr, h.sb⟩
theorem ready_nil {ops : Array Oper} {listed : Array Bool} (hs : listed.size = ops.size) (h : ∀ j, j < ops.size → listed.getD j false = true) : Region.ready .any ops listed = [] := by
  cases hr : Region.ready .any ops listed with
  | nil => rfl
  | cons x xs =>
    have hm : x ∈ Region.ready .any ops listed := by rw [hr]; simp
    obtain ⟨h1, o, h2, _⟩ := mem_ready.1 hm
    have hlt : x < ops.size := (Array.getElem?_eq_some_iff.1 h2).1
    have := h x hlt
    simp [hs, hlt] at h1 this
    rw [h1] at this; cases this
variable {R : Type} {no : R} {T : R → Prop} (hno : ¬ T no)
include hno
theorem drw_sound {C : Ch R} {Q : Qh} (hC : ∀ f args s K, T (C f args s K) → CallOk P f args s fun r s => T (K r s)) (hQ : QOk P Q) (hm : P.follows .mixedOrders = true) {id : Nat} {ops : Array Oper} {K : Ex → St → R}
    (hk : T (drwT no P C Q ops.toList K st.n st.t st.s)) : CodeOk P (.region id ops true) st fun e s => T (K e s) := by
  refine ⟨fun ρ a w0 h => wp_region_any hm ?_⟩
  have hw : Sim ρ st a { w0 with drawn := w0.drawn + 1 } := ⟨h.defers, h.size, h.tmps, h.bd, ⟨h.rep.ent, h.rep.sep⟩, h.sb⟩
  have he0 : Ext st.s ρ w0 st.s ρ { w0 with drawn := w0.drawn + 1 } := (Ext.refl st.s ρ w0).drawn _
  generalize hw1 : ({ w0 with drawn := w0.drawn + 1 } : World) = w at hw he0
  have hsz : ops.toList.length = ops.size := Array.length_toList
  unfold drwT at hk
  split at hk
  · exact (hno hk).elim
  rename_i hok
  have hsel : ∀ o ∈ ops.toList, ∀ cs x, o.op ≠ .select cs x := by
    intro o ho cs x hx
    obtain ⟨i, hi⟩ := List.getElem?_of_mem ho
    have := (opsOk_at (l := ops.toList) hok hi).1
    simp only [opOk, Bool.and_eq_true] at this
    rw [hx] at this
    cases this.2
  have inv0 : ∀ (vs : List V) (m : Nat), Inv P ops ρ st.s w a vs m (Array.replicate ops.size false) a w := fun vs m =>
    ⟨by simp, fun j _ => getD_replicate_false _ _, fun j o _ hl => (by rw [getD_replicate_false] at hl; cases hl), rfl, rfl, fun j o v t _ _ hl => (by rw [getD_replicate_false] at hl; cases hl), fun _ _ => rfl, hw.rep, Ext.refl _ _ _⟩
  have cnt0 : ∀ m, ((List.range m).filter fun j => !(Array.replicate ops.size false).getD j false).length = m := by
    intro m
    have : ((List.range m).filter fun j => !(Array.replicate ops.size false).getD j false) = List.range m := List.filter_eq_self.2 fun j _ => by rw [getD_replicate_false]; rfl
    rw [this, List.length_range]
  split at hk
  · rename_i hsink
    simp only [Bool.and_eq_true, Nat.blt_eq, hsz] at hsink
    obtain ⟨hpos, hsink⟩ := hsink
    rw [hsz] at hk
    · have hm1 : ops.size - 1 ≤ ops.size := by omega
      obtain ⟨vs, e', hk, q1, q2, q3⟩ := qrun_sound hno hQ (ops.toList.take (ops.size - 1)) 0 st.t a (fun j o hj => by
        rw [List.getElem?_take] at hj
        split at hj
        · rw [Nat.zero_add, ← Array.getElem?_toList]; exact hj
        · cases hj) (fun o ho => hsel o (List.mem_of_mem_take ho)) (by exact hw) hk
      have hvs : vs.length = ops.size - 1 := by rw [q1, List.length_take, hsz]; omega
      have := region_any (P := P) (ρ := ρ) (s := st.s) (w0 := w) (a0 := a) (vs := vs) (m := ops.size - 1) (X := lift st ρ w0 fun e s => T (K e s)) hok hm1 hvs (fun j o v hj ho hv => by
        have := q3 j o v (by rw [List.getElem?_take, if_pos hj, Array.getElem?_toList]; exact ho) hv
        rw [List.take_take, Nat.min_eq_left (by omega), Nat.zero_add] at this
        exact this) ?_ ?_ (ops.size - 1) (Array.replicate ops.size false) a w (inv0 vs _) (cnt0 _)
      · rw [show ops.size - 1 + (ops.size - (ops.size - 1)) = ops.size by omega] at this
        exact this
      · intro g listed b w' inv hall hg
        have hg1 : g = 1 := by omega
        subst hg1
        obtain ⟨o, ho⟩ : ∃ o, ops[ops.size - 1]? = some o := ⟨ops[ops.size - 1]'(by omega), by simp⟩
        have hol : ops.toList[ops.size - 1]? = some o := by rw [Array.getElem?_toList]; exact ho
        have hdrop : ops.toList.drop (ops.size - 1) = [o] := by
          rw [List.drop_eq_getElem_cons (by rw [hsz]; omega)]
          have h1 : ops.toList[ops.size - 1]'(by rw [hsz]; omega) = o := by
            have := List.getElem?_eq_getElem (l := ops.toList) (i := ops.size - 1) (by rw [hsz]; omega)
            rw [hol] at this
            exact (Option.some.inj this).symm
          rw [h1, show ops.size - 1 + 1 = ops.size by omega, List.drop_eq_nil_of_le (by rw [hsz]; omega)]
        rw [hdrop] at hk
        have sim : Sim ρ ⟨st.n, e', st.s⟩ b w' := q2.same (fun t => inv_tmps hok hm1 hvs inv hall t) (by rw [inv.defers]; exact h.defers) (by rw [inv.tsize, (actT_size (ρ := ρ) _ vs a).1]) inv.rep
        have hwl := evOps_sound hno hC (ops := ops) (K := K) (st0 := st) (ρ0 := ρ) (w0 := w0) [o] ⟨st.n, e', st.s⟩ ρ b w' sim (he0.trans inv.ext) hk
        refine ⟨fun hnil => ?_, fun i hi => ?_⟩
        · exfalso
          have hr : ops.size - 1 ∈ Region.ready .any ops listed := by
            have hok1 := (opsOk_at (l := ops.toList) hok hol).1
            simp only [opOk, Bool.and_eq_true, Nat.zero_add] at hok1
            refine mem_ready.2 ⟨?_, o, ho, fun e he hb => ?_⟩
            · have := inv.head (ops.size - 1) (Nat.le_refl _)
              have hlt : ops.size - 1 < listed.size := by rw [inv.size]; omega
              simpa [hlt] using this
            · have := List.all_eq_true.1 hok1.1.1 e.on (mem_preds.2 ⟨e, he, hb, rfl⟩)
              exact hall e.on (by simpa [Nat.blt_eq] using this)
          rw [hnil] at hr; cases hr
        · have hi1 : i = ops.size - 1 := by
            obtain ⟨h1, o', h2, _⟩ := mem_ready.1 hi
            have hlt : i < ops.size := (Array.getElem?_eq_some_iff.1 h2).1
            rcases Nat.lt_or_ge i (ops.size - 1) with hh | hh
            · have := hall i hh
              have hls : i < listed.size := by rw [inv.size]; exact hlt
              simp [hls] at h1 this
              rw [h1] at this; cases this
            · omega
          subst hi1
          have hend : ∀ b w', wpList P ops (lift st ρ w0 fun e s => T (K e s)) [] b w' → wpAny P .any ops (lift st ρ w0 fun e s => T (K e s)) 0 (listed.setIfInBounds (ops.size - 1) true) b w' := fun b w' hx => ⟨ready_nil (by simp [inv.size]) fun j hj => by
              by_cases hjl : ops.size - 1 = j
              · subst hjl
                have hlt : ops.size - 1 < listed.size := by rw [inv.size]; omega
                simp [hlt]
              · rw [getD_set_ne false hjl]; exact hall j (by omega), hx⟩
          refine wpOp_mono hend ?_
          unfold wpOp
          simp only [ho]
          unfold wpList at hwl
          exact hwl
      · intro listed hls hhead hclosed j hj hjr i hi
        have hjm : j = ops.size - 1 := by
          obtain ⟨_, o', h2, _⟩ := mem_ready.1 hjr
          have hlt : j < ops.size := (Array.getElem?_eq_some_iff.1 h2).1
          omega
        subst hjm
        obtain ⟨_, oj, hoj, hpre⟩ := mem_ready.1 hjr
        have key : ∀ d i, ops.size - 1 - i = d → i < ops.size - 1 → listed.getD i false = true := by
          intro d
          induction d using Nat.strongRecOn with
          | _ d ih =>
            intro i hd hi
            have h1 := List.all_eq_true.1 hsink i (List.mem_range.2 hi)
            obtain ⟨p, hp, hp2⟩ := List.any_eq_true.1 h1
            simp only [Bool.and_eq_true, Nat.blt_eq] at hp2
            obtain ⟨po, pj⟩ := p
            have hpl := List.mem_zipIdx_iff_getElem?.1 hp
            have hpo : ops[pj]? = some po := by rw [← Array.getElem?_toList]; exact hpl
            have hpjs : pj < ops.size := (Array.getElem?_eq_some_iff.1 hpo).1
            have hmem : i ∈ preds po := by simpa using hp2.2
            by_cases hpe : pj = ops.size - 1
            · subst hpe
              obtain rfl : po = oj := Option.some.inj (hpo.symm.trans hoj)
              obtain ⟨e, he, hb, rfl⟩ := mem_preds.1 hmem
              exact hpre e he hb
            · have hlt := hp2.1
              have := ih (ops.size - 1 - pj) (by simp only at hlt; omega) pj rfl (by omega)
              exact hclosed pj po hpo this i hmem
        exact key _ i rfl hi
  · · obtain ⟨vs, e', hk, q1, q2, q3⟩ := qrun_sound hno hQ ops.toList 0 st.t a (fun j o hj => by rw [Nat.zero_add, ← Array.getElem?_toList]; exact hj) hsel (by exact hw) hk
      have hvs : vs.length = ops.size := by rw [q1, hsz]
      have := region_any (P := P) (ρ := ρ) (s := st.s) (w0 := w) (a0 := a) (vs := vs) (m := ops.size) (X := lift st ρ w0 fun e s => T (K e s)) hok (Nat.le_refl _) hvs (fun j o v hj ho hv => by
        have := q3 j o v (by rw [Array.getElem?_toList]; exact ho) hv
        rw [Nat.zero_add] at this
        exact this) ?_ ?_ ops.size (Array.replicate ops.size false) a w (inv0 vs _) (cnt0 _)
      · rw [Nat.sub_self, Nat.add_zero] at this
        exact this
      · intro g listed b w' inv hall hg
        have hg0 : g = 0 := by omega
        subst hg0
        have sim : Sim ρ ⟨st.n, e', st.s⟩ b w' := q2.same (fun t => by
          have := inv_tmps hok (Nat.le_refl _) hvs inv hall t
          rwa [List.take_of_length_le (by rw [hsz]; exact Nat.le_refl _)] at this) (by rw [inv.defers]; exact h.defers) (by rw [inv.tsize, (actT_size (ρ := ρ) _ vs a).1]) inv.rep
        exact ⟨ready_nil inv.size hall, .normal, ⟨st.n, e', st.s⟩, ρ, trivial, hk, sim, he0.trans inv.ext⟩
      · intro listed hls hhead hclosed j hj hjr
        obtain ⟨_, o', h2, _⟩ := mem_ready.1 hjr
        have hlt : j < ops.size := (Array.getElem?_eq_some_iff.1 h2).1
        omega
end
end Go.Proofs.YtolohpkjpgbahaaRL
