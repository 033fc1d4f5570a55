/- RL, second text: the operations, computed on values of the logic; each is what the machine does. -/
import Derived.Test.YtpahclogghdnpaaDoorzA64KindsRL
namespace Go.Proofs.YtpahclogghdnpaaDoorRL
open Go
set_option linter.unusedVariables false
set_option linter.unusedSimpArgs false
variable {Δ : List Deferred}
/-- The state of a call: how many temporaries; those that are known, newest first; the store. -/
structure St where
  n : Nat
  t : List (Nat × V)
  s : Sto
/-- A list, its spine made plain. -/
def flA {R : Type} {α : Type} : List α → (List α → R) → R
  | [], K => K []
  | a :: l, K => flA l fun l => K (a :: l)
theorem flA_eq {R : Type} {α : Type} : ∀ (l : List α) (K : List α → R), flA l K = K l
  | [], K => rfl
  | a :: l, K => by rw [flA, flA_eq l]
def ofVal : Value → V
  | .agg cs => .agg (cs.toList.map .raw)
  | .tuple vs => .tup (vs.toList.map .raw)
  | .iface t v => .ifc t (.raw v)
  | .func f a b => .fn f (a.toList.map .raw) (b.toList.map .raw)
  | v => .raw v
theorem absL_raw (ρ : Rho) (l : List Value) : absL ρ (l.map .raw) = l := by
  induction l with
  | nil => rfl
  | cons v l ih => simp [absL, V.abs, ih]
theorem absL_append (ρ : Rho) (a b : List V) : absL ρ (a ++ b) = absL ρ a ++ absL ρ b := by simp [absL_map]
theorem absL_length (ρ : Rho) (a : List V) : (absL ρ a).length = a.length := by simp [absL_map]
theorem absL_get (ρ : Rho) (a : List V) (i : Nat) : (absL ρ a)[i]? = (a[i]?).map (V.abs ρ) := by simp [absL_map]
theorem bdL_raw (n : Nat) (l : List Value) : bdL n (l.map .raw) := by
  induction l with
  | nil => simp [bdL]
  | cons v l ih => simp [bdL, V.bd, ih]
theorem bdL_append {n : Nat} {a b : List V} : bdL n (a ++ b) ↔ bdL n a ∧ bdL n b := by
  simp only [bdL_iff, List.mem_append]
  exact ⟨fun h => ⟨fun v hv => h v (.inl hv), fun v hv => h v (.inr hv)⟩, fun h v hv => hv.elim (h.1 v) (h.2 v)⟩
theorem bdL_get {n : Nat} {a : List V} {i : Nat} {v : V} (h : bdL n a) (hv : a[i]? = some v) : v.bd n := (bdL_iff.1 h) v (List.mem_of_getElem? hv)
theorem abs_ofVal (ρ : Rho) (v : Value) : (ofVal v).abs ρ = v := by
  cases v <;> simp [ofVal, V.abs, absL_raw]
theorem bd_ofVal (n : Nat) (v : Value) : (ofVal v).bd n := by
  cases v <;> simp [ofVal, V.bd, bdL_raw]
/-- A raw value, opened. -/
def V.nf : V → V
  | .raw v => ofVal v
  | v => v
theorem abs_nf (ρ : Rho) (v : V) : v.nf.abs ρ = v.abs ρ := by
  cases v <;> simp [V.nf, abs_ofVal, V.abs]
theorem bd_nf {n : Nat} {v : V} (h : v.bd n) : v.nf.bd n := by
  cases v <;> first | exact bd_ofVal _ _ | exact h
def getT (t : List (Nat × V)) : Operand → Option V
  | .tmp k => find t k
  | .const v => some (ofVal v)
  | .global _ => none
  | .func f => some (.fn (.func f) [] [])
def St.get (st : St) (x : Operand) : Option V := getT st.t x
/-- What a call has stands in its frame. -/
structure Sim (Δ : List Deferred) (ρ : Rho) (st : St) (a : Act) (w : World) : Prop where
  defers : a.defers = Δ
  size : a.tmps.size = st.n
  tmps : ∀ (t : Nat) v, find st.t t = some v → a.tmps[t]? = some (v.abs ρ)
  bd : ∀ (t : Nat) v, find st.t t = some v → v.bd st.s.length
  rep : Rep ρ st.s w
  sb : sbd st.s
theorem Sim.eval {ρ : Rho} {st : St} {a : Act} {w : World} (h : Sim Δ ρ st a w) {x : Operand} {v : V} (hx : st.get x = some v) : a.eval x = v.abs ρ ∧ v.bd st.s.length := by
  cases x with
  | tmp t =>
    simp only [St.get, getT] at hx
    exact ⟨by simp [Act.eval, Array.getD_eq_getD_getElem?, h.tmps t v hx], h.bd t v hx⟩
  | const c =>
    simp only [St.get, getT, Option.some.injEq] at hx
    subst hx
    exact ⟨by simp [Act.eval, abs_ofVal], bd_ofVal _ _⟩
  | global g => simp [St.get, getT] at hx
  | func f =>
    simp only [St.get, getT, Option.some.injEq] at hx
    subst hx
    exact ⟨by simp [Act.eval, V.abs, absL], by simp [V.bd, bdL]⟩
def putT (n : Nat) (t : List (Nat × V)) (dst : Option Tmp) (v : V) : List (Nat × V) :=
  match dst with
  | none => t
  | some d => match Nat.blt d n with
    | true => (d, v) :: t
    | false => t
def St.put (st : St) (dst : Option Tmp) (v : V) (s : Sto) : St := ⟨st.n, putT st.n st.t dst v, s⟩
theorem Sim.put {ρ ρ' : Rho} {st : St} {a : Act} {w w' : World} (h : Sim Δ ρ st a w) {dst : Option Tmp} {v : V} {s : Sto} (hr : Rep ρ' s w') (hs : sbd s) (he : Ext st.s ρ w s ρ' w') (hv : v.bd s.length) :
    Sim Δ ρ' (st.put dst v s) (a.put dst (v.abs ρ')) w' := by
  have old : ∀ (t : Nat) u, find st.t t = some u → a.tmps[t]? = some (u.abs ρ') := fun t u hu => by
    rw [V.abs_congr he.same u (h.bd t u hu)]; exact h.tmps t u hu
  have oldb : ∀ (t : Nat) u, find st.t t = some u → u.bd s.length := fun t u hu => V.bd_mono he.len u (h.bd t u hu)
  cases dst with
  | none => exact ⟨h.defers, h.size, old, oldb, hr, hs⟩
  | some d =>
    simp only [St.put, putT, Act.put]
    cases hd : Nat.blt d st.n with
    | false =>
      have hge : st.n ≤ d := by
        rcases Nat.lt_or_ge d st.n with hh | hh
        · rw [← Nat.blt_eq, hd] at hh; cases hh
        · exact hh
      have : a.tmps.setIfInBounds d (v.abs ρ') = a.tmps := by
        apply Array.ext'
        have := h.size
        simp [Array.toList_setIfInBounds, List.set_eq_of_length_le, this, hge]
      exact ⟨h.defers, by simpa using h.size, fun t u hu => by rw [this]; exact old t u hu, oldb, hr, hs⟩
    | true =>
      have hlt : d < st.n := by rw [← Nat.blt_eq]; exact hd
      refine ⟨h.defers, by simpa using h.size, fun t u hu => ?_, fun t u hu => ?_, hr, hs⟩
      · simp only [find] at hu
        cases hdt : Nat.beq d t with
        | true =>
          rw [hdt] at hu
          obtain rfl : v = u := by simpa using hu
          obtain rfl : d = t := Nat.eq_of_beq_eq_true hdt
          simp [h.size, hlt]
        | false =>
          rw [hdt] at hu
          have hne : d ≠ t := fun e => by subst e; simp at hdt
          rw [Array.getElem?_setIfInBounds_ne hne]
          exact old t u hu
      · simp only [find] at hu
        cases hdt : Nat.beq d t with
        | true =>
          rw [hdt] at hu
          obtain rfl : v = u := by simpa using hu
          exact hv
        | false =>
          rw [hdt] at hu
          exact oldb t u hu
/-- A way through a test. -/
def Br {R : Type} (b : Bool) (A B : R) : R :=
  match b with
  | true => A
  | false => B
theorem Br.mk {b : Bool} {A B : Prop} (h : b = true → A) (k : b = false → B) : Br b A B := by
  cases b
  · exact k rfl
  · exact h rfl
theorem Br.no {b : Bool} {A B : Prop} (hb : b = false) (h : B) : Br b A B := by subst hb; exact h
theorem Br.out {R : Type} {T : R → Prop} {b : Bool} {A B : R} (h : T (Br b A B)) : (b = true ∧ T A) ∨ (b = false ∧ T B) := by
  cases b
  · exact .inr ⟨rfl, h⟩
  · exact .inl ⟨rfl, h⟩
/-- Something that must be there. -/
def Wi {R : Type} (no : R) {α : Type} (x : Option α) (A : α → R) : R :=
  match x with
  | some a => A a
  | none => no
theorem Wi.mk {α : Type} {x : Option α} {a : α} {A : α → Prop} (hx : x = some a) (h : A a) : Wi False x A := by subst hx; exact h
theorem Wi.out {R : Type} {T : R → Prop} {no : R} (hno : ¬ T no) {α : Type} {x : Option α} {A : α → R} (h : T (Wi no x A)) : ∃ a, x = some a ∧ T (A a) := by
  cases x with
  | none => exact (hno h).elim
  | some a => exact ⟨a, rfl, h⟩
def aggD : TypeDesc → Bool
  | .struct _ | .array _ _ => true
  | _ => false
def V.cells : V → List V
  | .agg cs => cs
  | .raw (.agg cs) => cs.toList.map .raw
  | v => [v]
theorem abs_cells (ρ : Rho) (v : V) : (v.abs ρ).cells = (absL ρ v.cells).toArray := by
  cases v with
  | raw v => cases v <;> simp [V.abs, V.cells, Value.cells, absL, absL_raw]
  | agg cs => simp [V.abs, V.cells, Value.cells]
  | _ => simp [V.abs, V.cells, Value.cells, absL]
theorem bd_cells {n : Nat} {v : V} (h : v.bd n) : bdL n v.cells := by
  cases v with
  | raw v => cases v <;> simp [V.cells, bdL, V.bd, bdL_raw]
  | agg cs => exact h
  | _ => exact ⟨h, trivial⟩
def V.one : V → Bool
  | .agg _ | .tup _ => false
  | .raw (.agg _) | .raw (.tuple _) => false
  | _ => true
theorem abs_one (ρ : Rho) {v : V} (h : v.one = true) : (v.abs ρ).oneCell' = true := by
  cases v with
  | raw v => cases v <;> simp_all [V.abs, V.one, Value.oneCell']
  | agg cs => simp [V.one] at h
  | tup cs => simp [V.one] at h
  | _ => simp [V.abs, Value.oneCell']
section
variable (P : Program)
def vPart (t : TypeId) (cs : List V) (off : Nat) : Option V :=
  match P.underlying t with
  | some d => match aggD d with
    | true => match P.info? t with
      | some i => some (.agg ((cs.drop off).take i.size))
      | none => none
    | false => cs[off]?
  | none => none
def vLoad (t : TypeId) (s : Sto) (i o : Nat) : Option V :=
  match s[i]? with
  | some e => match e.cells with
    | some cs => match P.underlying t with
      | some d => match aggD d with
        | true => match P.info? t with
          | some inf => match Nat.ble (o + inf.size) cs.length with
            | true => some (.agg ((cs.drop o).take inf.size))
            | false => none
          | none => none
        | false => cs[o]?
      | none => none
    | none => none
  | none => none
def setR (cs : List V) (o : Nat) : List V → List V
  | [] => cs
  | v :: vs => setR (cs.set o v) (o + 1) vs
def vStore (t : TypeId) (s : Sto) (i o : Nat) (v : V) : Option Sto :=
  match s[i]? with
  | some (.own cs e) => match P.info? t with
    | some inf => match Nat.beq v.cells.length inf.size && Nat.ble (o + inf.size) cs.length && v.cells.all V.one with
      | true => flA (setR cs o v.cells) fun cs => flA (s.set i (.own cs e)) fun s => some s
      | false => none
    | none => none
  | some (.lst cs e k z) => match P.info? t with
    | some inf => match Nat.beq v.cells.length inf.size && Nat.ble (o + inf.size) cs.length && v.cells.all V.one with
      | true => flA (setR cs o v.cells) fun cs => flA (s.set i (.lst cs e k z)) fun s => some s
      | false => none
    | none => none
  | _ => none
end
section
variable {P : Program} {ρ : Rho} {w : World}
theorem run_underlying {t : TypeId} {d : TypeDesc} (h : P.underlying t = some d) : (underlying t).run P w = .ok d w := by simp [underlying, h]
theorem run_typeInfo {t : TypeId} {i : TypeInfo} (h : P.info? t = some i) : (typeInfo t).run P w = .ok i w := by simp [typeInfo, h]
theorem run_sizeOf {t : TypeId} {i : TypeInfo} (h : P.info? t = some i) : (sizeOf t).run P w = .ok i.size w := by simp [sizeOf, run_typeInfo h]
theorem run_isAgg {t : TypeId} {d : TypeDesc} (h : P.underlying t = some d) : (isAgg t).run P w = .ok (aggD d) w := by
  simp only [isAgg, Sem.run_bind, run_underlying h, Result.andThen_ok]
  cases d <;> rfl
theorem run_part {t : TypeId} {cs : List V} {off : Nat} {v : V} (h : vPart P t cs off = some v) : (part t (absL ρ cs).toArray off).run P w = .ok (v.abs ρ) w := by
  unfold vPart at h
  cases hd : P.underlying t with
  | none => simp [hd] at h
  | some d =>
    simp only [hd] at h
    cases ha : aggD d with
    | true =>
      simp only [ha] at h
      cases hi : P.info? t with
      | none => simp [hi] at h
      | some i =>
        simp only [hi, Option.some.injEq] at h
        subst h
        simp only [part, Sem.run_bind, run_isAgg hd, Result.andThen_ok, ha, if_true, run_sizeOf hi, Sem.run_pure, V.abs]
        congr 2
        apply Array.ext'
        simp [absL_map, Array.toList_extract, List.map_drop, List.map_take, List.extract_eq_take_drop]
    | false =>
      simp only [ha] at h
      simp [part, run_isAgg hd, ha, absL_get, h]
theorem bd_part {n : Nat} {t : TypeId} {cs : List V} {off : Nat} {v : V} (h : vPart P t cs off = some v) (hb : bdL n cs) : v.bd n := by
  unfold vPart at h
  split at h
  · split at h
    · split at h
      · simp only [Option.some.injEq] at h
        subst h
        exact bdL_iff.2 fun v hv => bdL_iff.1 hb v (List.mem_of_mem_drop (List.mem_of_mem_take hv))
      · cases h
    · exact bdL_get hb h
  · cases h
theorem rep_cell {s : Sto} (hr : Rep ρ s w) {i : Nat} {e : Ent} {cs : List V} (hi : s[i]? = some e) (hc : e.cells = some cs) {j : Nat} {v : V} (hj : cs[j]? = some v) :
    w.cell? ⟨(ρ i).1, (ρ i).2 + j, none⟩ = some (v.abs ρ) := by
  have := hr.ent i e hi
  cases e with
  | own cs' t =>
    simp only [Ent.cells, Option.some.injEq] at hc
    subst hc
    obtain ⟨h1, h2⟩ := this
    simp [World.cell?, h1, h2, absL_get, hj]
  | ro cs' =>
    simp only [Ent.cells, Option.some.injEq] at hc
    subst hc
    exact this.2 j v hj
  | lst cs' t k z =>
    simp only [Ent.cells, Option.some.injEq] at hc
    subst hc
    obtain ⟨rest, h1, h2, _⟩ := this
    have hlt : j < (absL ρ cs').length := by rw [absL_length]; exact (List.getElem?_eq_some_iff.1 hj).1
    simp [World.cell?, h1, h2, List.getElem?_append_left hlt, absL_get, hj]
  | map => simp [Ent.cells] at hc
  | lp => simp [Ent.cells] at hc
  | arr => simp [Ent.cells] at hc
  | glob => simp [Ent.cells] at hc
  | no => simp [Ent.cells] at hc
theorem run_load' {s : Sto} (hr : Rep ρ s w) {t : TypeId} {i o : Nat} {v : V} (h : vLoad P t s i o = some v) : (loadVar t ⟨(ρ i).1, (ρ i).2 + o, none⟩).run P w = .ok (v.abs ρ) w := by
  unfold vLoad at h
  split at h
  · rename_i e hi
    split at h
    · rename_i cs hc
      split at h
      · rename_i d hd
        split at h
        · rename_i ha
          split at h
          · rename_i inf hinf
            split at h
            · rename_i hle
              simp only [Option.some.injEq] at h
              subst h
              have hle' : o + inf.size ≤ cs.length := Nat.le_of_ble_eq_true hle
              simp only [loadVar, Sem.run_bind, run_isAgg hd, Result.andThen_ok, ha, if_true, run_sizeOf hinf]
              have := run_loadCells_list (P := P) w ⟨(ρ i).1, (ρ i).2 + o, none⟩ (absL ρ ((cs.drop o).take inf.size)) (fun j v hv => by
                rw [absL_get] at hv
                obtain ⟨u, hu, rfl⟩ := Option.map_eq_some_iff.1 hv
                rw [List.getElem?_take] at hu
                split at hu
                · rw [List.getElem?_drop] at hu
                  have := rep_cell hr hi hc hu
                  unfold Addr.add
                  split
                  · rename_i h0; subst h0; simpa using this
                  · simpa [Nat.add_assoc] using this
                · cases hu)
              have hl : (absL ρ ((cs.drop o).take inf.size)).length = inf.size := by
                rw [absL_length, List.length_take, List.length_drop]; omega
              rw [hl] at this
              simp [this, V.abs]
            · cases h
          · cases h
        · rename_i ha
          have := rep_cell hr hi hc h
          simp [loadVar, run_isAgg hd, ha, this]
      · cases h
    · cases h
  · cases h
theorem bd_load {s : Sto} (hs : sbd s) {t : TypeId} {i o : Nat} {v : V} (h : vLoad P t s i o = some v) : v.bd s.length := by
  unfold vLoad at h
  split at h
  · rename_i e hi
    split at h
    · rename_i cs hc
      have hb : bdL s.length cs := by
        have := hs i e hi
        cases e with
        | own cs' t => simp only [Ent.cells, Option.some.injEq] at hc; subst hc; exact this
        | ro cs' => simp only [Ent.cells, Option.some.injEq] at hc; subst hc; exact this
        | lst cs' t k z => simp only [Ent.cells, Option.some.injEq] at hc; subst hc; exact this.1
        | map => simp [Ent.cells] at hc
        | lp => simp [Ent.cells] at hc
        | arr => simp [Ent.cells] at hc
        | glob => simp [Ent.cells] at hc
        | no => simp [Ent.cells] at hc
      split at h
      · split at h
        · split at h
          · split at h
            · simp only [Option.some.injEq] at h
              subst h
              exact bdL_iff.2 fun v hv => bdL_iff.1 hb v (List.mem_of_mem_drop (List.mem_of_mem_take hv))
            · cases h
          · cases h
        · exact bdL_get hb h
      · cases h
    · cases h
  · cases h
theorem setR_length (o : Nat) : ∀ (vs cs : List V), (setR cs o vs).length = cs.length := by
  intro vs
  induction vs generalizing o with
  | nil => intro cs; rfl
  | cons v vs ih => intro cs; simp [setR, ih]
theorem bdL_setR {n o : Nat} : ∀ {vs cs : List V}, bdL n vs → bdL n cs → bdL n (setR cs o vs) := by
  intro vs
  induction vs generalizing o with
  | nil => intro cs _ h; exact h
  | cons v vs ih =>
    intro cs hv hc
    simp only [setR]
    refine ih hv.2 (bdL_iff.2 fun u hu => ?_)
    rcases List.mem_or_eq_of_mem_set hu with h | rfl
    · exact bdL_iff.1 hc u h
    · exact hv.1
/-- The cells of a block of its own, one behind the other. -/
theorem run_storeCells {i : Nat} {e : TypeId} (h2 : (ρ i).2 = 0) (o : Nat) : ∀ (vs : List V) (k : Nat) (cs : List V) (w : World), vs.all V.one = true → o + k + vs.length ≤ cs.length → w.heap[(ρ i).1]? = some (.cells (absL ρ cs).toArray e (0, 0)) →
    ∃ w', (storeCells ⟨(ρ i).1, (ρ i).2 + o, none⟩ (absL ρ vs) k).run P w = .ok () w' ∧ w'.heap[(ρ i).1]? = some (.cells (absL ρ (setR cs (o + k) vs)).toArray e (0, 0)) ∧ w'.heap.size = w.heap.size ∧ w'.os = w.os ∧ w'.tape = w.tape ∧ w'.output = w.output ∧ ∀ b, b ≠ (ρ i).1 → w'.heap[b]? = w.heap[b]? := by
  intro vs
  induction vs with
  | nil => intro k cs w _ _ h; exact ⟨w, by simp [storeCells, absL], by simpa [setR] using h, rfl, rfl, rfl, rfl, fun _ _ => rfl⟩
  | cons v vs ih =>
    intro k cs w hone hlen h
    simp only [List.all_cons, Bool.and_eq_true] at hone
    simp only [List.length_cons] at hlen
    have haddr : (⟨(ρ i).1, (ρ i).2 + o, none⟩ : Addr).add k = ⟨(ρ i).1, o + k, none⟩ := by
      unfold Addr.add
      split
      · rename_i h0; subst h0; simp [h2]
      · simp [h2]
    have hcell : ∃ u, w.cell? ⟨(ρ i).1, o + k, none⟩ = some u := by
      have hk : o + k < cs.length := by omega
      refine ⟨(cs[o + k]).abs ρ, ?_⟩
      simp [World.cell?, h, absL_get, List.getElem?_eq_getElem hk]
    obtain ⟨u, hu⟩ := hcell
    have hfr : w.frozen? ⟨(ρ i).1, o + k, none⟩ = false := by simp [World.frozen?, h]
    have hst : (store ⟨(ρ i).1, o + k, none⟩ (v.abs ρ) .plain).run P w = .ok () (w.setCell ⟨(ρ i).1, o + k, none⟩ (v.abs ρ)) := by
      rw [run_store P w _ _ _ (abs_one ρ hone.1)]
      simp [hu, hfr]
    have hheap : (w.setCell ⟨(ρ i).1, o + k, none⟩ (v.abs ρ)).heap[(ρ i).1]? = some (.cells (absL ρ (cs.set (o + k) v)).toArray e (0, 0)) := by
      simp [World.setCell, Array.getElem?_modify, h, absL_map, List.map_set]
    obtain ⟨w', h1, h3, h4, h5, h6, h7, h8⟩ := ih (k + 1) (cs.set (o + k) v) _ hone.2 (by simp; omega) hheap
    refine ⟨w', ?_, ?_, by simpa using h4, h5, h6, h7, fun b hb => ?_⟩
    · simp only [absL, storeCells, haddr, Sem.run_bind, hst, Result.andThen_ok]
      exact h1
    · simpa [setR, Nat.add_assoc] using h3
    · rw [h8 b hb]
      exact Go.RowKit.Below.heap_setCell _ _ _ _ hb
theorem setR_append (b : List V) : ∀ (vs cs : List V) (o : Nat), o + vs.length ≤ cs.length → setR (cs ++ b) o vs = setR cs o vs ++ b := by
  intro vs
  induction vs with
  | nil => intro cs o _; rfl
  | cons v vs ih =>
    intro cs o h
    simp only [List.length_cons] at h
    simp only [setR]
    rw [List.set_append_left _ _ (by omega), ih _ _ (by simp; omega)]
theorem run_store' {s : Sto} (hr : Rep ρ s w) (hs : sbd s) {t : TypeId} {i o : Nat} {v : V} {s' : Sto} (hv : v.bd s.length) (h : vStore P t s i o v = some s') :
    ∃ w', (storeVar t ⟨(ρ i).1, (ρ i).2 + o, none⟩ (v.abs ρ)).run P w = .ok () w' ∧ Rep ρ s' w' ∧ Ext s ρ w s' ρ w' ∧ sbd s' := by
  unfold vStore at h
  split at h
  · rename_i cs e hi
    split at h
    · rename_i inf hinf
      split at h
      · rename_i hc
        simp only [flA_eq, Option.some.injEq] at h
        subst h
        simp only [Bool.and_eq_true] at hc
        obtain ⟨⟨hc1, hc2⟩, hc3⟩ := hc
        have hc1' : v.cells.length = inf.size := Nat.eq_of_beq_eq_true hc1
        have hc2' : o + inf.size ≤ cs.length := Nat.le_of_ble_eq_true hc2
        obtain ⟨g1, g2⟩ := hr.ent i _ hi
        obtain ⟨w', h1, h3, h4, h5, h6, h7, h8⟩ := run_storeCells (P := P) (ρ := ρ) (i := i) (e := e) g2 o v.cells 0 cs w hc3 (by omega) g1
        have hbd : bdL s.length cs := hs i _ hi
        obtain ⟨r1, r2, r3⟩ := Rep.change (e' := .own (setR cs o v.cells) e) hr hs hi rfl rfl (bdL_setR (bd_cells hv) hbd) ⟨by simpa using h3, g2⟩ h4 h5 h6 h7 h8
        refine ⟨w', ?_, r1, r2, r3⟩
        simp [storeVar, run_sizeOf hinf, abs_cells, absL_length, hc1']
        exact h1
      · cases h
    · cases h
  · rename_i cs e k z hi
    split at h
    · rename_i inf hinf
      split at h
      · rename_i hc
        simp only [flA_eq, Option.some.injEq] at h
        subst h
        simp only [Bool.and_eq_true] at hc
        obtain ⟨⟨hc1, hc2⟩, hc3⟩ := hc
        have hc1' : v.cells.length = inf.size := Nat.eq_of_beq_eq_true hc1
        have hc2' : o + inf.size ≤ cs.length := Nat.le_of_ble_eq_true hc2
        obtain ⟨rest, g1, g2, g3⟩ := hr.ent i _ hi
        have g1' : w.heap[(ρ i).1]? = some (.cells (absL ρ (cs ++ rest.map .raw)).toArray e (0, 0)) := by rw [absL_append, absL_raw]; exact g1
        obtain ⟨w', h1, h3, h4, h5, h6, h7, h8⟩ := run_storeCells (P := P) (ρ := ρ) (i := i) (e := e) g2 o v.cells 0 (cs ++ rest.map .raw) w hc3 (by simp; omega) g1'
        have hbd := hs i _ hi
        rw [setR_append _ _ _ _ (by omega), absL_append, absL_raw] at h3
        obtain ⟨r1, r2, r3⟩ := Rep.change (e' := .lst (setR cs o v.cells) e k z) hr hs hi rfl rfl ⟨bdL_setR (bd_cells hv) hbd.1, hbd.2⟩ ⟨rest, by simpa using h3, g2, by rw [setR_length]; exact g3⟩ h4 h5 h6 h7 h8
        refine ⟨w', ?_, r1, r2, r3⟩
        simp [storeVar, run_sizeOf hinf, abs_cells, absL_length, hc1']
        exact h1
      · cases h
    · cases h
  · cases h
end
end Go.Proofs.YtpahclogghdnpaaDoorRL
