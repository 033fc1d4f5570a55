/- Parts of the proof, one behind the other. -/
import Derived.Test.YtalgegmcllcnmaazLabJumpsINum
import Derived.MapKept
import Derived.WideKeyRuns
section
/- RL: elements of flat cells, told by columns: read, written, made. -/
namespace Go.Proofs.YtalgegmcllcnmaaRL
open Go
set_option linter.unusedVariables false
set_option linter.unusedSimpArgs false
variable {Δ : List Deferred}
def rdC (cols : List Col) (k c : Nat) : Option V := match cols[c]? with
  | some (.int ik g) => some (.raw (.int ik (g k)))
  | some (.bool g) => some (.raw (.bool (g k)))
  | some (.str g) => some (.raw (.string (g k)))
  | _ => none
def rdCs (cols : List Col) (k : Nat) : Nat → Nat → Option (List V)
  | 0, _ => some []
  | m + 1, c => match rdC cols k c, rdCs cols k m (c + 1) with
    | some v, some vs => some (v :: vs)
    | _, _ => none
def vLoadE {R : Type} (no : R) (P : Program) (t : TypeId) (s : Sto) (i z k f : Nat) (K : V → R) : R :=
  match s[i]? with
  | some (.arr _ cols n _) => match Nat.beq z cols.length with
    | true => Br (Nat.blt k n) (Wi no (P.underlying t) fun d => match aggD d with
      | true => Wi no (P.info? t) fun inf => match Nat.ble (f + inf.size) z with
        | true => Wi no (rdCs cols k inf.size f) fun vs => K (.agg vs)
        | false => no
      | false => match Nat.blt f z with
        | true => Wi no (rdC cols k f) K
        | false => no) no
    | false => no
  | _ => no
def upC (col : Col) (k : Nat) (v : V) : Option Col := match col, v with
  | .int ik g, .raw (.int ik' x) => match kindEq ik ik' with
    | true => some (.int ik fun j => match Nat.beq j k with | true => x | false => g j)
    | false => none
  | .bool g, .raw (.bool x) => some (.bool fun j => match Nat.beq j k with | true => x | false => g j)
  | .str g, .raw (.string x) => some (.str fun j => match Nat.beq j k with | true => x | false => g j)
  | .any, _ => some .any
  | _, _ => none
def upCs (k : Nat) : List Col → Nat → List V → Option (List Col)
  | cols, _, [] => some cols
  | cols, f, v :: vs => match cols[f]? with
    | some col => match upC col k v with
      | some col' => upCs k (cols.set f col') (f + 1) vs
      | none => none
    | none => none
def AM.isOwn : AM → Bool
  | .ro => false
  | _ => true
def vStoreE {R : Type} (no : R) (P : Program) (t : TypeId) (s : Sto) (i z k f : Nat) (v : V) (K : Sto → R) : R :=
  match s[i]? with
  | some (.arr m cols n e) => match m.isOwn && Nat.beq z cols.length with
    | true => Br (Nat.blt k n) (Wi no (P.info? t) fun inf => match Nat.beq v.cells.length inf.size && Nat.ble (f + inf.size) z && v.cells.all V.one with
      | true => Wi no (upCs k cols f v.cells) fun cols' => flA (s.set i (.arr m cols' n e)) K
      | false => no) no
    | false => no
  | _ => no
/-- The columns of so many elements, all of them these cells. -/
def colsOf : List V → Option (List Col)
  | [] => some []
  | v :: vs => match colsOf vs with
    | some l => match v with
      | .raw (.int k x) => some (.int k (fun _ => x) :: l)
      | .raw (.bool x) => some (.bool (fun _ => x) :: l)
      | .raw (.string x) => some (.str (fun _ => x) :: l)
      | _ => none
    | none => none
def colsNE : List V → Option (List Col)
  | [] => none
  | v :: vs => colsOf (v :: vs)
/-- The same blocks are its own. -/
theorem Ext.conv {s s1 s' s1' : Sto} {ρ ρ' : Rho} {w w' : World} (ha : s1.map Ent.isOwn = s.map Ent.isOwn) (hb : s'.map Ent.isOwn = s1'.map Ent.isOwn) (h : Ext s1 ρ w s1' ρ' w') : Ext s ρ w s' ρ' w' := by
  have la : s1.length = s.length := by simpa using congrArg List.length ha
  have lb : s'.length = s1'.length := by simpa using congrArg List.length hb
  have tr : ∀ {a b : Sto}, a.map Ent.isOwn = b.map Ent.isOwn → ∀ (i : Nat) e, a[i]? = some e → ∃ f, b[i]? = some f ∧ f.isOwn = e.isOwn := by
    intro a b h i e he
    have := congrArg (fun l => l[i]?) h
    simp only [List.getElem?_map, he, Option.map_some] at this
    obtain ⟨f, hf, hfo⟩ := Option.map_eq_some_iff.1 this.symm
    exact ⟨f, hf, hfo⟩
  refine ⟨by rw [lb, ← la]; exact h.len, fun i hi => h.same i (by rw [la]; exact hi), fun i e' hi ho => ?_, h.os, h.tape, h.output, h.size, fun b hb' hn => h.block b hb' fun i e hi ho => ?_⟩
  · obtain ⟨f, hf, hfo⟩ := tr hb i e' hi
    rcases h.own i f hf (by rw [hfo]; exact ho) with ⟨j, e, h1, h2, h3⟩ | h3
    · obtain ⟨g, hg, hgo⟩ := tr ha j e h1
      exact .inl ⟨j, g, hg, by rw [hgo]; exact h2, h3⟩
    · exact .inr h3
  · obtain ⟨f, hf, hfo⟩ := tr ha i e hi
    exact hn i f hf (by rw [hfo]; exact ho)
/-- An entry is told otherwise. -/
theorem Rep.swap {s : Sto} {ρ : Rho} {w : World} (h : Rep ρ s w) {i : Nat} {e e' : Ent} (hi : s[i]? = some e) (ho : e'.isOwn = e.isOwn) (hl : e.live = true) (he : RepE ρ w i e') : Rep ρ (s.set i e') w := by
  have hil : i < s.length := (List.getElem?_eq_some_iff.1 hi).1
  have get : ∀ (j : Nat) f, (s.set i e')[j]? = some f → (j = i ∧ f = e') ∨ (j ≠ i ∧ s[j]? = some f) := by
    intro j f hf
    by_cases hj : j = i
    · subst hj
      rw [List.getElem?_set_self hil] at hf
      exact .inl ⟨rfl, (Option.some.inj hf).symm⟩
    · rw [List.getElem?_set_ne (by omega)] at hf
      exact .inr ⟨hj, hf⟩
  have old : ∀ (j : Nat) f, (s.set i e')[j]? = some f → ∃ g, s[j]? = some g ∧ (f.isOwn = true → g.isOwn = true) ∧ (f.live = true → g.live = true) := by
    intro j f hf
    rcases get j f hf with ⟨rfl, rfl⟩ | ⟨_, h2⟩
    · exact ⟨e, hi, fun x => by rw [← ho]; exact x, fun _ => hl⟩
    · exact ⟨f, h2, id, id⟩
  refine ⟨fun j f hf => ?_, fun j k f g hf hg hfo hgl hjk => ?_⟩
  · rcases get j f hf with ⟨rfl, rfl⟩ | ⟨_, h2⟩
    · exact he
    · exact h.ent j f h2
  · obtain ⟨f', a1, a2, _⟩ := old j f hf
    obtain ⟨g', b1, _, b2⟩ := old k g hg
    exact h.sep j k f' g' a1 b1 (a2 hfo) (b2 hgl) hjk
theorem map_set_own {s : Sto} {i : Nat} {e e' : Ent} (hi : s[i]? = some e) (ho : e'.isOwn = e.isOwn) : (s.set i e').map Ent.isOwn = s.map Ent.isOwn := by
  apply List.ext_getElem?
  intro j
  simp only [List.getElem?_map]
  by_cases hj : j = i
  · subst hj
    rw [List.getElem?_set_self (List.getElem?_eq_some_iff.1 hi).1, hi]
    simp [ho]
  · rw [List.getElem?_set_ne (by omega)]
theorem flatE_own (m : AM) (cs : List Value) (t : TypeId) (z : Nat) : (flatE m cs t z).isOwn = m.isOwn ∧ (flatE m cs t z).live = true := by cases m <;> exact ⟨rfl, rfl⟩
theorem arr_own (m : AM) (cols : List Col) (n : Nat) (t : TypeId) : (Ent.arr m cols n t).isOwn = m.isOwn := by cases m <;> rfl
/-- An array opened. -/
theorem open_arr {s : Sto} {ρ : Rho} {w : World} (h : Rep ρ s w) (hs : sbd s) {i : Nat} {m : AM} {cols : List Col} {n : Nat} {t : TypeId} (hi : s[i]? = some (.arr m cols n t)) :
    ∃ cs : List Value, cs.length = n * cols.length ∧ (∀ v ∈ cs, v.oneCell' = true) ∧ holdsA cols n cs ∧ Rep ρ (s.set i (flatE m cs t cols.length)) w ∧ sbd (s.set i (flatE m cs t cols.length)) ∧
      (s.set i (flatE m cs t cols.length))[i]? = some (flatE m cs t cols.length) ∧ (s.set i (flatE m cs t cols.length)).map Ent.isOwn = s.map Ent.isOwn := by
  obtain ⟨cs, h1, h2, h3, h4⟩ := repE_arr.1 (h.ent i _ hi)
  have hil : i < s.length := (List.getElem?_eq_some_iff.1 hi).1
  have ho := flatE_own m cs t cols.length
  refine ⟨cs, h1, h2, h3, h.swap hi (by rw [arr_own, ho.1]) rfl h4, ?_, List.getElem?_set_self hil, map_set_own hi (by rw [arr_own, ho.1])⟩
  intro j f hf
  rw [List.length_set]
  by_cases hj : j = i
  · subst hj
    rw [List.getElem?_set_self hil] at hf
    obtain rfl := Option.some.inj hf
    have := hs j _ hi
    cases m with
    | ro => exact bdL_raw _ _
    | own => exact bdL_raw _ _
    | grow k => exact ⟨bdL_raw _ _, this⟩
  · rw [List.getElem?_set_ne (by omega)] at hf
    exact hs j f hf
theorem rdC_at {cols : List Col} {k c : Nat} {v : V} (h : rdC cols k c = some v) : ∃ col u, cols[c]? = some col ∧ col.at k = some u ∧ v = .raw u := by
  unfold rdC at h
  split at h
  · rename_i hc; cases h; exact ⟨_, _, hc, rfl, rfl⟩
  · rename_i hc; cases h; exact ⟨_, _, hc, rfl, rfl⟩
  · rename_i hc; cases h; exact ⟨_, _, hc, rfl, rfl⟩
  · cases h
theorem rdCs_take {cols : List Col} {n : Nat} {cs : List Value} (hl : cs.length = n * cols.length) (hh : holdsA cols n cs) {k : Nat} (hk : k < n) : ∀ {m c : Nat} {vs : List V}, rdCs cols k m c = some vs → c + m ≤ cols.length → ((cs.map V.raw).drop (k * cols.length + c)).take m = vs := by
  intro m
  induction m with
  | zero => intro c vs h _; simp only [rdCs, Option.some.injEq] at h; subst h; simp
  | succ m ih =>
    intro c vs h hc
    simp only [rdCs] at h
    split at h
    · rename_i v vs' h1 h2
      cases h
      obtain ⟨col, u, g1, g2, rfl⟩ := rdC_at h1
      have hu := hh k c col u hk g1 g2
      have hlt : k * cols.length + c < (cs.map V.raw).length := by
        rw [List.length_map]
        exact (List.getElem?_eq_some_iff.1 hu).1
      rw [List.drop_eq_getElem_cons hlt, List.take_succ_cons]
      have e1 : (cs.map V.raw)[k * cols.length + c] = V.raw u := by
        have : (cs.map V.raw)[k * cols.length + c]? = some (V.raw u) := by rw [List.getElem?_map, hu]; rfl
        exact (List.getElem?_eq_some_iff.1 this).2
      rw [e1, Nat.add_assoc, ih h2 (by omega)]
    · cases h
section
variable {P : Program} {ρ : Rho} {w : World} {R : Type} {no : R} {T : R → Prop} (hno : ¬ T no)
include hno
/-- A load from an array. -/
theorem loadE_sound {s : Sto} (hr : Rep ρ s w) (hs : sbd s) {t : TypeId} {i z k f : Nat} {K : V → R} (h : T (vLoadE no P t s i z k f K)) :
    ∃ v, (loadVar t ⟨(ρ i).1, (ρ i).2 + (k * z + f), none⟩).run P w = .ok (v.abs ρ) w ∧ v.bd s.length ∧ T (K v) := by
  unfold vLoadE at h
  split at h
  case h_2 => exact (hno h).elim
  rename_i m cols n e hi
  split at h
  case h_2 => exact (hno h).elim
  rename_i hz
  have hz := Nat.eq_of_beq_eq_true hz
  subst hz
  rcases Br.out h with ⟨hk, h⟩ | ⟨_, h⟩
  case inr => exact (hno h).elim
  have hk : k < n := by simpa [Nat.blt_eq] using hk
  obtain ⟨d, hd, h⟩ := Wi.out hno h
  obtain ⟨cs, h1, h2, h3, h4, h5, h6, h7⟩ := open_arr hr hs hi
  have hc : ∃ q, (flatE m cs e cols.length).cells = some q ∧ q = cs.map V.raw := by cases m <;> exact ⟨_, rfl, rfl⟩
  obtain ⟨_, hc, rfl⟩ := hc
  have key : ∀ v, vLoad P t (s.set i (flatE m cs e cols.length)) i (k * cols.length + f) = some v → (loadVar t ⟨(ρ i).1, (ρ i).2 + (k * cols.length + f), none⟩).run P w = .ok (v.abs ρ) w ∧ v.bd s.length := by
    intro v hv
    have := bd_load h5 hv
    rw [List.length_set] at this
    exact ⟨run_load' h4 hv, this⟩
  have hbound : (k + 1) * cols.length ≤ n * cols.length := Nat.mul_le_mul_right _ hk
  rw [Nat.add_mul, Nat.one_mul] at hbound
  cases hag : aggD d with
  | true =>
    rw [hag] at h
    obtain ⟨inf, hinf, h⟩ := Wi.out hno h
    split at h
    case h_2 => exact (hno h).elim
    rename_i hle
    have hle := Nat.le_of_ble_eq_true hle
    obtain ⟨vs, hvs, h⟩ := Wi.out hno h
    refine ⟨.agg vs, (key _ ?_).1, (key (.agg vs) ?_).2, h⟩ <;>
    · simp only [vLoad, h6, hc, hd, hag, hinf, List.length_map, h1]
      rw [Nat.ble_eq_true_of_le (by omega), rdCs_take h1 h3 hk hvs hle]
  | false =>
    rw [hag] at h
    replace h : T (match Nat.blt f cols.length with | true => Wi no (rdC cols k f) K | false => no) := h
    split at h
    case h_2 => exact (hno h).elim
    rename_i hf
    have hf : f < cols.length := by simpa [Nat.blt_eq] using hf
    obtain ⟨v, hv, h⟩ := Wi.out hno h
    obtain ⟨col, u, g1, g2, rfl⟩ := rdC_at hv
    refine ⟨.raw u, (key _ ?_).1, (key (.raw u) ?_).2, h⟩ <;>
    · simp only [vLoad, h6, hc, hd, hag]
      rw [List.getElem?_map, h3 k f col u hk g1 g2]
      rfl
omit hno in
theorem setR_raw {o : Nat} : ∀ {vs : List V} {cs : List Value}, absL ρ (setR (cs.map V.raw) o vs) = ((absL ρ vs).zipIdx o).foldl (fun l p => l.set p.2 p.1) cs := by
  intro vs
  induction vs generalizing o with
  | nil => intro cs; simp [setR, absL, absL_raws]
  | cons v vs ih =>
    intro cs
    simp only [setR, absL, List.zipIdx_cons, List.foldl_cons]
    have : (cs.map V.raw).set o v = (cs.map V.raw).set o v := rfl
    rw [← ih (o := o + 1) (cs := cs.set o (v.abs ρ))]
    have e : ∀ (vs : List V) (a b : List V) (o : Nat), absL ρ a = absL ρ b → absL ρ (setR a o vs) = absL ρ (setR b o vs) := by
      intro vs
      induction vs with
      | nil => intro a b o h; exact h
      | cons v vs ih =>
        intro a b o h
        simp only [setR]
        refine ih _ _ _ ?_
        simp only [absL_map, List.map_set] at h ⊢
        rw [h]
    refine e _ _ _ _ ?_
    simp only [absL_map, List.map_set, List.map_map]
    rfl
omit hno in
theorem upC_at {col col' : Col} {k : Nat} {v : V} (h : upC col k v = some col') (j : Nat) {u : Value} (hu : col'.at j = some u) : (j = k ∧ u = v.abs ρ) ∨ (j ≠ k ∧ col.at j = some u) := by
  unfold upC at h
  split at h
  · split at h
    · rename_i hk
      obtain rfl := kindEq_eq hk
      cases h
      simp only [Col.at, Option.some.injEq] at hu
      by_cases hj : j = k
      · subst hj; simp [Nat.beq_refl] at hu; subst hu; exact .inl ⟨rfl, rfl⟩
      · have : Nat.beq j k = false := by cases hb : Nat.beq j k with
          | false => rfl
          | true => exact absurd (Nat.eq_of_beq_eq_true hb) hj
        rw [this] at hu
        exact .inr ⟨hj, by rw [← hu]; rfl⟩
    · cases h
  · cases h
    simp only [Col.at, Option.some.injEq] at hu
    by_cases hj : j = k
    · subst hj; simp [Nat.beq_refl] at hu; subst hu; exact .inl ⟨rfl, rfl⟩
    · have : Nat.beq j k = false := by cases hb : Nat.beq j k with
        | false => rfl
        | true => exact absurd (Nat.eq_of_beq_eq_true hb) hj
      rw [this] at hu
      exact .inr ⟨hj, by rw [← hu]; rfl⟩
  · cases h
    simp only [Col.at, Option.some.injEq] at hu
    by_cases hj : j = k
    · subst hj; simp [Nat.beq_refl] at hu; subst hu; exact .inl ⟨rfl, rfl⟩
    · have : Nat.beq j k = false := by cases hb : Nat.beq j k with
        | false => rfl
        | true => exact absurd (Nat.eq_of_beq_eq_true hb) hj
      rw [this] at hu
      exact .inr ⟨hj, by rw [← hu]; rfl⟩
  · cases h; cases hu
  · cases h
omit hno in
theorem flat_inj {z : Nat} {k f j c : Nat} (hf : f < z) (hc : c < z) (h : k * z + f = j * z + c) : k = j ∧ f = c := by
  have hz : 0 < z := by omega
  have e1 := congrArg (· / z) h
  simp only [Nat.mul_comm k z, Nat.mul_comm j z, Nat.mul_add_div hz, Nat.div_eq_of_lt hf, Nat.div_eq_of_lt hc] at e1
  have : k = j := by omega
  subst this
  exact ⟨rfl, by omega⟩
omit hno in
theorem upCs_holds {k n : Nat} (hk : k < n) : ∀ {vs : List V} {cols cols' : List Col} {f : Nat} {cs : List Value}, upCs k cols f vs = some cols' → cs.length = n * cols.length → holdsA cols n cs → f + vs.length ≤ cols.length →
    cols'.length = cols.length ∧ holdsA cols' n (((absL ρ vs).zipIdx (k * cols.length + f)).foldl (fun l p => l.set p.2 p.1) cs) := by
  intro vs
  induction vs with
  | nil => intro cols cols' f cs h hl hh _; simp only [upCs, Option.some.injEq] at h; subst h; exact ⟨rfl, by simpa [absL] using hh⟩
  | cons v vs ih =>
    intro cols cols' f cs h hl hh hle
    simp only [List.length_cons] at hle
    simp only [upCs] at h
    split at h
    · rename_i col hc
      split at h
      · rename_i col' hu
        have hset : (cols.set f col').length = cols.length := by simp
        have hfl : f < cols.length := (List.getElem?_eq_some_iff.1 hc).1
        have := ih (cs := cs.set (k * cols.length + f) (v.abs ρ)) h (by rw [List.length_set, hset]; exact hl) (by
          intro j c col2 u hj hc2 hu2
          rw [hset]
          by_cases hcf : c = f
          · subst hcf
            rw [List.getElem?_set_self hfl] at hc2
            obtain rfl := Option.some.inj hc2
            rcases upC_at (ρ := ρ) hu j hu2 with ⟨rfl, rfl⟩ | ⟨hne, hu3⟩
            · have hlt : j * cols.length + c < cs.length := by
                rw [hl]
                have : (j + 1) * cols.length ≤ n * cols.length := Nat.mul_le_mul_right _ hj
                rw [Nat.add_mul, Nat.one_mul] at this
                omega
              rw [List.getElem?_set_self hlt]
            · rw [List.getElem?_set_ne (fun e => hne (flat_inj hfl hfl e).1.symm)]
              exact hh j c col u hj hc hu3
          · rw [List.getElem?_set_ne (fun e => hcf e.symm)] at hc2
            have hcl : c < cols.length := (List.getElem?_eq_some_iff.1 hc2).1
            rw [List.getElem?_set_ne (fun e => hcf (flat_inj hfl hcl e).2.symm)]
            exact hh j c col2 u hj hc2 hu2) (by rw [hset]; omega)
        rw [hset] at this
        refine ⟨this.1, ?_⟩
        simp only [absL, List.zipIdx_cons, List.foldl_cons]
        rw [Nat.add_assoc]
        exact this.2
      · cases h
    · cases h
omit hno in
theorem foldl_set_mem : ∀ (l : List (Value × Nat)) (cs : List Value) (v : Value), v ∈ l.foldl (fun l p => l.set p.2 p.1) cs → v ∈ cs ∨ ∃ p ∈ l, p.1 = v := by
  intro l
  induction l with
  | nil => intro cs v h; exact .inl h
  | cons p l ih =>
    intro cs v h
    rcases ih _ _ h with h | ⟨q, hq, rfl⟩
    · rcases List.mem_or_eq_of_mem_set h with h | rfl
      · exact .inl h
      · exact .inr ⟨p, by simp, rfl⟩
    · exact .inr ⟨q, by simp [hq], rfl⟩
/-- A store into an array. -/
theorem storeE_sound {s : Sto} (hr : Rep ρ s w) (hs : sbd s) {t : TypeId} {i z k f : Nat} {v : V} {K : Sto → R} (hv : v.bd s.length) (h : T (vStoreE no P t s i z k f v K)) :
    ∃ s' w', (storeVar t ⟨(ρ i).1, (ρ i).2 + (k * z + f), none⟩ (v.abs ρ)).run P w = .ok () w' ∧ T (K s') ∧ Rep ρ s' w' ∧ Ext s ρ w s' ρ w' ∧ sbd s' := by
  unfold vStoreE at h
  split at h
  case h_2 => exact (hno h).elim
  rename_i m cols n e hi
  split at h
  case h_2 => exact (hno h).elim
  rename_i hz
  simp only [Bool.and_eq_true] at hz
  obtain ⟨hmo, hz⟩ := hz
  have hz := Nat.eq_of_beq_eq_true hz
  subst hz
  rcases Br.out h with ⟨hk, h⟩ | ⟨_, h⟩
  case inr => exact (hno h).elim
  have hk : k < n := by simpa [Nat.blt_eq] using hk
  obtain ⟨inf, hinf, h⟩ := Wi.out hno h
  split at h
  case h_2 => exact (hno h).elim
  rename_i hb
  obtain ⟨cols', hc, h⟩ := Wi.out hno h
  rw [flA_eq] at h
  have hb' := hb
  simp only [Bool.and_eq_true] at hb
  obtain ⟨⟨hb1, hb2⟩, hb3⟩ := hb
  have hb1 := Nat.eq_of_beq_eq_true hb1
  have hb2 := Nat.le_of_ble_eq_true hb2
  obtain ⟨cs, h1, h2, h3, h4, h5, h6, h7⟩ := open_arr hr hs hi
  have hil : i < s.length := (List.getElem?_eq_some_iff.1 hi).1
  have hbound : (k + 1) * cols.length ≤ n * cols.length := Nat.mul_le_mul_right _ hk
  rw [Nat.add_mul, Nat.one_mul] at hbound
  obtain ⟨g1, g2⟩ := upCs_holds (ρ := ρ) hk hc h1 h3 (by omega)
  have hcond : (Nat.beq v.cells.length inf.size && Nat.ble (k * cols.length + f + inf.size) (cs.map V.raw).length && v.cells.all V.one) = true := by
    rw [List.length_map, h1, hb1, hb3, Nat.ble_eq_true_of_le (by omega)]
    simp [Nat.beq_refl]
  have hones : ∀ u ∈ absL ρ (setR (cs.map V.raw) (k * cols.length + f) v.cells), u.oneCell' = true := by
    intro u hu
    rw [setR_raw] at hu
    rcases foldl_set_mem _ _ _ hu with hu | ⟨p, hp, rfl⟩
    · exact h2 u hu
    · have := List.mem_zipIdx hp
      have hm : p.1 ∈ absL ρ v.cells := by
        obtain ⟨a1, a2, a3⟩ := this
        rw [a3]; exact List.getElem_mem _
      rw [absL_map] at hm
      obtain ⟨x, hx, hxe⟩ := List.mem_map.1 hm
      rw [← hxe]
      exact abs_one ρ (List.all_eq_true.1 hb3 x hx)
  have hlen : (absL ρ (setR (cs.map V.raw) (k * cols.length + f) v.cells)).length = n * cols'.length := by
    rw [absL_length, setR_length, List.length_map, h1, g1]
  have fin : ∀ (E E' : Ent), s.set i E = s.set i (flatE m cs e cols.length) → (∀ w', RepE ρ w' i E' → RepE ρ w' i (flatE m (absL ρ (setR (cs.map V.raw) (k * cols.length + f) v.cells)) e cols'.length)) → E'.isOwn = true → vStore P t (s.set i (flatE m cs e cols.length)) i (k * cols.length + f) v = some ((s.set i (flatE m cs e cols.length)).set i E') →
      ∃ s' w', (storeVar t ⟨(ρ i).1, (ρ i).2 + (k * cols.length + f), none⟩ (v.abs ρ)).run P w = .ok () w' ∧ T (K s') ∧ Rep ρ s' w' ∧ Ext s ρ w s' ρ w' ∧ sbd s' := by
    intro E E' _ hE' ho hst
    obtain ⟨w', r1, r2, r3, r4⟩ := run_store' (P := P) h4 h5 (by rw [List.length_set]; exact hv) hst
    rw [List.set_set] at r2 r3 r4
    have hset : (s.set i E')[i]? = some E' := List.getElem?_set_self hil
    have howna : (Ent.arr m cols' n e).isOwn = true := by rw [arr_own]; exact hmo
    have r5 := r2.swap (e' := .arr m cols' n e) hset (by rw [howna, ho]) (Ent.own_live ho) (repE_arr.2 ⟨_, hlen, hones, by rw [setR_raw]; exact g2, hE' w' (r2.ent i _ hset)⟩)
    rw [List.set_set] at r5
    refine ⟨_, w', r1, h, r5, r3.conv h7 (by
      rw [map_set_own (s := s) hi (by rw [howna, arr_own, hmo]), map_set_own (s := s) hi (by rw [ho, arr_own, hmo])]), ?_⟩
    intro j g hg
    rw [List.length_set]
    by_cases hj : j = i
    · subst hj
      rw [List.getElem?_set_self hil] at hg
      obtain rfl := Option.some.inj hg
      have := hs j _ hi
      cases m <;> exact this
    · rw [List.getElem?_set_ne (by omega)] at hg
      exact hs j g hg
  cases m with
  | ro => cases hmo
  | own =>
    refine fin _ (.own (setR (cs.map V.raw) (k * cols.length + f) v.cells) e) rfl (fun w' hw => ?_) rfl ?_
    · exact ⟨by rw [absL_raws]; exact hw.1, hw.2⟩
    · simp only [flatE] at h6 ⊢
      simp only [vStore, h6, hinf, hcond, flA_eq]
  | grow q =>
    refine fin _ (.lst (setR (cs.map V.raw) (k * cols.length + f) v.cells) e q cols.length) rfl (fun w' hw => ?_) rfl ?_
    · obtain ⟨rest, q1, q2, q3⟩ := hw
      refine ⟨rest, by rw [absL_raws]; exact q1, q2, ?_⟩
      rw [List.length_map, absL_length, g1]
      exact q3
    · simp only [flatE] at h6 ⊢
      simp only [vStore, h6, hinf, hcond, flA_eq]
end
section
variable {ρ : Rho}
theorem vZeros_flat {z : List V} {cols : List Col} (h : colsOf z = some cols) : cols.length = z.length ∧ ∀ (c : Nat) col j u, cols[c]? = some col → col.at j = some u → z[c]? = some (.raw u) := by
  induction z generalizing cols with
  | nil => simp only [colsOf, Option.some.injEq] at h; subst h; exact ⟨rfl, fun c col j u hc => by simp at hc⟩
  | cons v z ih =>
    simp only [colsOf] at h
    split at h
    · rename_i l hl
      obtain ⟨i1, i2⟩ := ih hl
      have key : ∀ c0 : Col, (∀ j u, c0.at j = some u → v = .raw u) → cols = c0 :: l → cols.length = (v :: z).length ∧ ∀ (c : Nat) col j u, cols[c]? = some col → col.at j = some u → (v :: z)[c]? = some (.raw u) := by
        intro c0 hc0 e
        subst e
        refine ⟨by simp [i1], fun c col j u hc hu => ?_⟩
        cases c with
        | zero => simp at hc; subst hc; simp [hc0 j u hu]
        | succ c => exact i2 c col j u (by simpa using hc) hu
      split at h
      · cases h; exact key _ (fun j u hu => by simp only [Col.at, Option.some.injEq] at hu; rw [hu]) rfl
      · cases h; exact key _ (fun j u hu => by simp only [Col.at, Option.some.injEq] at hu; rw [hu]) rfl
      · cases h; exact key _ (fun j u hu => by simp only [Col.at, Option.some.injEq] at hu; rw [hu]) rfl
      · cases h
    · cases h
end
end Go.Proofs.YtalgegmcllcnmaaRL
end
section
/- RL, fourth text: what operations come to. -/
namespace Go.Proofs.YtalgegmcllcnmaaRL
open Go
set_option linter.unusedVariables false
set_option linter.unusedSimpArgs false
variable {Δ : List Deferred}
def getTL (t : List (Nat × V)) : List Operand → Option (List V)
  | [] => some []
  | x :: xs => match getT t x, getTL t xs with
    | some v, some vs => some (v :: vs)
    | _, _ => none
def getTP (t : List (Nat × V)) : List (Nat × Operand) → Option (List (Nat × V))
  | [] => some []
  | x :: xs => match getT t x.2, getTP t xs with
    | some v, some vs => some ((x.1, v) :: vs)
    | _, _ => none
def St.getL (st : St) (xs : List Operand) : Option (List V) := getTL st.t xs
def St.getP (st : St) (xs : List (Nat × Operand)) : Option (List (Nat × V)) := getTP st.t xs
def vFill (place : Nat → Option (Nat × Nat)) (cells : List V) : List (Nat × V) → Option (List V)
  | [] => some cells
  | p :: rest => match place p.1 with
    | none => none
    | some (off, size) => match Nat.beq p.2.cells.length size && Nat.ble (off + size) cells.length with
      | true => vFill place (setR cells off p.2.cells) rest
      | false => none
def vPlaces (P : Program) : List Field → Option (List (Nat × Nat))
  | [] => some []
  | f :: fs => match P.info? f.type, vPlaces P fs with
    | some i, some l => some ((f.offset, i.size) :: l)
    | _, _ => none
def vZero (P : Program) (t : TypeId) : Option (List V) :=
  match P.info? t with
  | some i => match i.zero with
    | some z => some (V.raw z).cells
    | none => none
  | none => none
def vBuild (P : Program) (t : TypeId) (parts : List (Nat × V)) : Option V :=
  match vZero P t, P.underlying t with
  | some zero, some (.struct fields) => match vPlaces P fields.toList with
    | some pl => match vFill (fun i => pl[i]?) zero parts with
      | some cs => some (.agg cs)
      | none => none
    | none => none
  | some zero, some (.array _ elem) => match P.info? elem with
    | some i => match vFill (fun k => some (k * i.size, i.size)) zero parts with
      | some cs => some (.agg cs)
      | none => none
    | none => none
  | _, _ => none
/-- Zeros, one behind the other: a list of n of them where an element is one cell. -/
def vZeros (zero : List V) (size n : Nat) : List V :=
  match size with
  | 1 => List.replicate n (zero.headD (.raw undef))
  | _ => (List.range (n * size)).map fun i => zero.getD (i % zero.length) (.raw undef)
def vBounds {R : Type} (no : R) (k : IntKind) (i : Int) (y : Nat) (K : Nat → R) : R := Br (decide (0 ≤ i)) (Br (decide (i ≤ (y : Int))) (K i.toNat) no) no
def vOpt {R : Type} (no : R) (t : List (Nat × V)) (x : Option Operand) (K : Option V → R) : R :=
  match x with
  | none => K none
  | some x => Wi no (getT t x) fun v => K (some v)
def vBoundsO {R : Type} (no : R) (x : Option V) (d y : Nat) (K : Nat → R) : R :=
  match x with
  | none => K d
  | some (.raw (.int k i)) => vBounds no k i y K
  | some _ => no
def V.isNilable : V → Bool
  | .ptr _ _ | .ifc _ _ | .mp _ | .sl _ _ _ _ | .lst _ _ _ _ _ | .el _ _ _ _ | .sle _ _ _ _ _ | .lse _ _ _ _ _ | .lend _ _ _ _ _ _ => true
  | .fn (.func _) _ _ => true
  | .raw v => match v with
    | .pointer none | .nilIface | .nilFunc | .func _ _ _ => false
    | _ => true
  | _ => false
def slOff (o l m s : Nat) : Nat :=
  match l with
  | 0 => o
  | l + 1 => match Nat.beq m (l + 1) with
    | true => o
    | false => o + (l + 1) * s
def mxCap (mx : Option V) (m cap : Nat) : Nat :=
  match mx with
  | some _ => m
  | none => cap
/-- Is there room for n elements in the block of a list, by what is known? -/
def lstFits (s : Sto) (i k n : Nat) : Bool :=
  match s[i]? with
  | some (.lst cs _ k' z) => Nat.beq k k' && (Nat.blt 0 z && Nat.ble (n * z) cs.length)
  | _ => false
/-- The same of an array's. -/
def lseFits {R : Type} (no : R) (s : Sto) (i k z n : Nat) (K : R) : R :=
  match s[i]? with
  | some (.arr (.grow k') cols N _) => match Nat.beq k k' && (Nat.beq z cols.length && Nat.blt 0 z) with
    | true => Br (Nat.ble n N) K no
    | false => no
  | _ => no
/-- A slice of a slice: from element e (of z cells each) on. -/
def sleCut {R : Type} (no : R) (i z k0 len cap : Nat) (lo hi mx : Option V) (K : V → R) : R :=
  match mx, hi with
  | some _, none => no
  | _, _ => vBoundsO no mx cap cap fun m => vBoundsO no hi len (mxCap mx m cap) fun h => vBoundsO no lo 0 h fun l =>
    Br (Nat.beq l 0) (K (.sle i z k0 h m)) (Br (Nat.beq m l) (K (.sle i z k0 (h - l) (m - l))) (K (.sle i z (l + k0) (h - l) (m - l))))
def lseCut {R : Type} (no : R) (i k z e len : Nat) (lo hi : Option V) (K : V → R) : R :=
  vBoundsO no hi len len fun h => vBoundsO no lo 0 h fun l =>
    Br (Nat.beq l 0) (K (.lse i k z e h)) (Br (Nat.blt l len) (K (.lse i k z (l + e) (h - l))) (K (.lend i k (e * z) e l z)))
/-- Operations that change nothing. -/
def stillOp : Op → Bool
  | .move _ | .assign _ | .pick _ _ _ | .build _ _ | .load _ _ | .nilCheck _ | .binOp _ _ _ _ _ | .unOp _ _ _ | .convert _ _ _ | .makeInterface _ _ | .makeFunc _ _ _ | .slice _ _ _ _ _ | .fieldAddr _ _ _ | .field _ _ _ | .indexAddr _ _ _ | .index _ _ _ | .typeAssert _ _ _ _ | .extract _ _ | .lookup _ _ _ _ => true
  | _ => false
/-- A place told apart: one way for each that it may be. -/
def splI {R : Type} (i : Int) (K : Nat → R) : Nat → Nat → R
  | 0, k => K k
  | n + 1, k => Br (decide (i = (k : Int))) (K k) (splI i K n (k + 1))
theorem splI_out {R : Type} {T : R → Prop} {i : Int} {K : Nat → R} : ∀ {n k : Nat}, (k : Int) ≤ i → i ≤ ((k + n : Nat) : Int) → T (splI i K n k) → T (K i.toNat) := by
  intro n
  induction n with
  | zero => intro k h0 h1 h; rw [show i.toNat = k by omega]; exact h
  | succ n ih =>
    intro k h0 h1 h
    rcases Br.out h with ⟨h2, h⟩ | ⟨h2, h⟩
    · have := of_decide_eq_true h2
      rw [show i.toNat = k by omega]; exact h
    · have := of_decide_eq_false h2
      exact ih (k := k + 1) (by omega) (by omega) h
/-- Keys. -/
def vKeyEq (P : Program) (d : TypeDesc) (kt : TypeId) (k key : V) : Option Bool :=
  match d with
  | .int _ => match k, key with
    | .raw (.int a x), .raw (.int b y) => match kindEq a b with
      | true => some (x == y)
      | false => none
    | _, _ => none
  | .string => match k, key with
    | .raw (.string x), .raw (.string y) => some (x == y)
    | _, _ => none
  | .bool => match k, key with
    | .raw (.bool x), .raw (.bool y) => some (x == y)
    | _, _ => none
  | .struct _ | .array _ _ => vEq P 10000 kt k key
  | _ => none
def vFindK {R : Type} (no : R) (P : Program) (d : TypeDesc) (kt : TypeId) (k : V) (found : Nat → V × V × Nat → R) (none_ : R) : List (V × V × Nat) → Nat → R
  | [], _ => none_
  | e :: es, i => Wi no (vKeyEq P d kt k e.1) fun b => Br b (found i e) (vFindK no P d kt k found none_ es (i + 1))
def vCheckF (ck : TypeId → V → Bool) (P : Program) (cs : List V) : List Field → Bool
  | [] => true
  | f :: fs => match f.name == "_" with
    | true => vCheckF ck P cs fs
    | false => match vPart P f.type cs f.offset with
      | some a => match ck f.type a with
        | true => vCheckF ck P cs fs
        | false => false
      | none => false
/-- May a value be a key? -/
def vCheck (P : Program) (d : Nat) : TypeId → V → Bool :=
  Nat.rec (fun _ _ => false) (fun _ ck t v => match P.underlying t with
    | some .bool | some (.int _) | some .string => true
    | some (.struct fs) => match v with
      | .agg cs => vCheckF ck P cs fs.toList
      | _ => false
    | _ => false) d
def vBit (x y : V) : Bool :=
  match x, y with
  | .raw (.int a m), .raw (.int b n) => kindEq a b && m == n
  | .raw (.string m), .raw (.string n) => m == n
  | .raw (.bool m), .raw (.bool n) => m == n
  | _, _ => false
def vBitL : List V → List V → Bool
  | [], [] => true
  | x :: xs, y :: ys => vBit x y && vBitL xs ys
  | _, _ => false
def vBits (x y : V) : Bool :=
  match x, y with
  | .agg xs, .agg ys => vBitL xs ys
  | x, y => vBit x y
/-- A method of an interface value, bound: its receiver is none that is nil. -/
def nilM (P : Program) (v : V) : Bool :=
  match v with
  | .fn (.method name) (x :: _) _ => match x.nf with
    | .ifc t _ => match P.info? t with
      | some i => match i.methods.find? (·.name == name) with
        | some m => m.path.isEmpty && match m.func with
          | some (_, true) => true
          | some (_, false) => match P.underlying t with
            | some (.pointer _) => false
            | some _ => true
            | none => false
          | none => false
        | none => false
      | none => false
    | _ => false
  | _ => false
/-- Has a type all methods that are asked for? -/
def hasAll (want : Array (String × TypeId)) (got : Array Method) : Bool := (want.toList.filter fun (name, sig) => !got.any fun m => m.name == name && m.sig == sig).isEmpty
theorem hasAll_ok (want : Array (String × TypeId)) (got : Array Method) : (Instr.missingMethod want got).isNone = hasAll want got := by
  unfold Instr.missingMethod hasAll
  have least_some : ∀ l : List String, (Instr.least l).isNone = l.isEmpty := by intro l; cases l <;> rfl
  generalize (want.toList.filter fun (name, sig) => !got.any fun m => m.name == name && m.sig == sig) = l
  have hp : ∀ (p : String → Bool) (m : List String), ((m.partition p).1.isEmpty && (m.partition p).2.isEmpty) = m.isEmpty := by
    intro p m
    rw [List.partition_eq_filter_filter]
    cases m with
    | nil => rfl
    | cons x xs =>
      by_cases hpx : p x = true
      · rw [List.filter_cons_of_pos hpx]; rfl
      · have hpn : (not ∘ p) x = true := by simp only [Function.comp_apply, Bool.not_eq_true] at hpx ⊢; rw [hpx]; rfl
        rw [List.filter_cons_of_pos hpn]; simp
  have := hp (·.contains '.') (l.map (·.1))
  have hl : (l.map (·.1)).isEmpty = l.isEmpty := by cases l <;> rfl
  rw [hl] at this
  rw [← this]
  simp only
  generalize ((l.map (·.1)).partition (·.contains '.')).1 = a
  generalize ((l.map (·.1)).partition (·.contains '.')).2 = b
  cases b with
  | nil =>
    show (Instr.least (a.map _)).isNone = _
    rw [least_some]
    cases a <;> rfl
  | cons y ys => cases a <;> rfl
def vEntries (s : Sto) (m : V) : Option (List (V × V × Nat)) :=
  match m with
  | .raw (.map none) => some []
  | .mp i => match s[i]? with
    | some (.map es _) => some es
    | _ => none
  | _ => none
/-- A value's operation. -/
def valOpT {R : Type} (no : R) (P : Program) (op : Op) (e : List (Nat × V)) (s : Sto) (K : Kt R) : R :=
  match op with
  | .move x | .assign x => Wi no (getT e x) fun v => K v s
  | .pick c a b => Wi no (getT e c) fun c => Wi no (getT e a) fun x => Wi no (getT e b) fun y =>
    match c with
    | .raw (.bool t) => Br t (K x s) (K y s)
    | _ => no
  | .alloc t => Wi no (vZero P t) fun z => K (.ptr s.length 0) (s ++ [.own z t])
  | .box t x => Wi no (getT e x) fun v => K (.ptr s.length 0) (s ++ [.own v.cells t])
  | .build t parts => Wi no (getTP e parts.toList) fun ps => Wi no (vBuild P t ps) fun v => K v s
  | .buildSlice t len parts => Wi no (getTP e parts.toList) fun ps =>
    match P.underlying t with
    | some (.slice elem) => Wi no (P.info? elem) fun i => match Nat.ble (len * i.size) 16777216 with
      | true => Wi no (vZero P elem) fun z => match Nat.beq z.length i.size with
        | true => Wi no (vFill (fun k => some (k * i.size, i.size)) (vZeros z i.size len) ps) fun cs => K (.sl s.length 0 len len) (s ++ [.own cs elem])
        | false => no
      | false => no
    | _ => no
  | .load t a => Wi no (getT e a) fun a => match a with
    | .ptr i o => Wi no (vLoad P t s i o) fun v => K v s
    | .el i z k f => vLoadE no P t s i z k f fun v => K v s
    | _ => no
  | .store t a x => Wi no (getT e a) fun a => Wi no (getT e x) fun v => match a with
    | .ptr i o => Wi no (vStore P t s i o v) fun s' => K (.raw undef) s'
    | .el i z k f => vStoreE no P t s i z k f v fun s' => K (.raw undef) s'
    | _ => no
  | .nilCheck x => Wi no (getT e x) fun v => match v.isNilable || nilM P v with
    | true => K v s
    | false => no
  | .binOp op t x y _ => Wi no (getT e x) fun x => Wi no (getT e y) fun y => vBin no P op t x y fun v => K v s
  | .unOp op _ x => Wi no (getT e x) fun x => match op, x with
    | .not, .raw (.bool b) => K (.raw (.bool (!b))) s
    | .neg, .raw (.int k n) => K (.raw (.int k (k.wrap (0 - n)))) s
    | .xor, .raw (.int k n) => K (.raw (.int k (Go.bits .xor k (if k.signed then -1 else k.max) n))) s
    | _, _ => no
  | .convert src dst x => Wi no (P.underlying src) fun _ => Wi no (P.underlying dst) fun d => Wi no (getT e x) fun x => match d, x with
    | .int k, .raw (.int _ n) => K (.raw (.int k (k.wrap n))) s
    | _, _ => no
  | .makeInterface t x => Wi no (P.underlying t) fun d => Wi no (getT e x) fun v => match d with
    | .interface _ => no
    | _ => K (.ifc t v) s
  | .makeFunc f first captured => Wi no (getTL e first.toList) fun a => Wi no (getTL e captured.toList) fun b => K (.fn f a b) s
  | .makeSlice t len cap => Wi no (getT e len) fun l => Wi no (getT e cap) fun c =>
    match P.underlying t, l, c with
    | some (.slice elem), .raw (.int _ l), .raw (.int _ c) => Wi no (P.info? elem) fun i => Wi no (vZero P elem) fun z => match Nat.beq z.length i.size with
      | false => no
      | true => Br (decide (0 ≤ l ∧ l ≤ c ∧ (i.bytes : Int) * c ≤ 281474976710656 ∧ c ≤ 9223372036854775807)) (match colsNE z with
        | some cols => K (.sle s.length i.size 0 l.toNat c.toNat) (s ++ [.arr .own cols c.toNat elem])
        | none => K (.sl s.length 0 l.toNat c.toNat) (s ++ [.own (vZeros z i.size c.toNat) elem])) no
    | _, _, _ => no
  | .slice t x lo hi mx => Wi no (P.underlying t) fun d => Wi no (getT e x) fun x => vOpt no e lo fun lo => vOpt no e hi fun hi => vOpt no e mx fun mx =>
    match d, x with
    | .string, .raw (.string y) => match mx with
      | none => vBoundsO no hi y.size y.size fun h => vBoundsO no lo 0 h fun l => K (.raw (.string (y.extract l h))) s
      | some _ => no
    | .slice elem, .sl i o len cap => Wi no (P.info? elem) fun inf => match mx, hi with
      | some _, none => no
      | _, _ => vBoundsO no mx cap cap fun m => vBoundsO no hi len (mxCap mx m cap) fun h => vBoundsO no lo 0 h fun l =>
        K (.sl i (slOff o l m inf.size) (h - l) (m - l)) s
    | .slice elem, .lst i k o e len => Wi no (P.info? elem) fun inf => match mx with
      | some _ => no
      | none => match lstFits s i k (e + len) with
        | true => vBoundsO no hi len len fun h => vBoundsO no lo 0 h fun l => match Nat.blt l len || Nat.beq l 0 with
          | true => K (.lst i k (o + l * inf.size) (e + l) (h - l)) s
          | false => K (.lend i k o e l inf.size) s
        | false => no
    | .slice elem, .sle i z k0 len cap => Wi no (P.info? elem) fun inf => match Nat.beq inf.size z with
      | true => sleCut no i z k0 len cap lo hi mx fun v => K v s
      | false => no
    | .slice elem, .lse i k z e len => Wi no (P.info? elem) fun inf => match mx with
      | some u => match Nat.beq inf.size z with
        | true => lseFits no s i k z (e + len) (sleCut no i z e len len lo hi (some u) fun v => K v s)
        | false => no
      | none => match Nat.beq inf.size z with
        | true => lseFits no s i k z (e + len) (lseCut no i k z e len lo hi fun v => K v s)
        | false => no
    | .array n elem, .ptr i o => Wi no (P.info? elem) fun inf => match mx with
      | some _ => no
      | none => vBoundsO no hi n n fun h => vBoundsO no lo 0 h fun l =>
        K (.sl i (slOff o l n inf.size) (h - l) (n - l)) s
    | _, _ => no
  | .fieldAddr t x f => match P.underlying t with
    | some (.struct fields) => Wi no fields[f]? fun fd => Wi no (P.info? fd.type) fun i => Wi no (getT e x) fun a => match a with
      | .ptr j o => match Nat.beq i.size 0 with
        | true => no
        | false => K (.ptr j (o + fd.offset)) s
      | .el j z k o => match Nat.beq i.size 0 with
        | true => no
        | false => K (.el j z k (o + fd.offset)) s
      | _ => no
    | _ => no
  | .field t x f => match P.underlying t with
    | some (.struct fields) => Wi no fields[f]? fun fd => Wi no (getT e x) fun a => match a with
      | .agg cs => Wi no (vPart P fd.type cs fd.offset) fun v => K v s
      | _ => no
    | _ => no
  | .indexAddr t x ix => Wi no (P.underlying t) fun d => Wi no (getT e x) fun x => Wi no (getT e ix) fun ix => match d, x, ix with
    | .array len elem, .ptr j o, .raw (.int k i) => Wi no (P.info? elem) fun inf => Br (decide (0 ≤ i)) (Br (decide (i < (len : Int))) (match Nat.ble len 32 with
      | true => splI i (fun r => K (.ptr j (o + r * inf.size)) s) (Nat.sub len 1) 0
      | false => K (.ptr j (o + i.toNat * inf.size)) s) no) no
    | .slice elem, .sl j o len _, .raw (.int k i) => Wi no (P.info? elem) fun inf => Br (decide (0 ≤ i)) (Br (decide (i < (len : Int))) (K (.ptr j (o + i.toNat * inf.size)) s) no) no
    | .slice elem, .lst j _ o _ len, .raw (.int k i) => Wi no (P.info? elem) fun inf => Br (decide (0 ≤ i)) (Br (decide (i < (len : Int))) (K (.ptr j (o + i.toNat * inf.size)) s) no) no
    | .slice elem, .sle j z k0 len _, .raw (.int k i) => Wi no (P.info? elem) fun inf => match Nat.beq inf.size z with
      | true => Br (decide (0 ≤ i)) (Br (decide (i < (len : Int))) (K (.el j z (i.toNat + k0) 0) s) no) no
      | false => no
    | .slice elem, .lse j _ z e len, .raw (.int k i) => Wi no (P.info? elem) fun inf => match Nat.beq inf.size z with
      | true => Br (decide (0 ≤ i)) (Br (decide (i < (len : Int))) (K (.el j z (i.toNat + e) 0) s) no) no
      | false => no
    | .array len elem, .el j z q o, .raw (.int k i) => Wi no (P.info? elem) fun inf => Br (decide (0 ≤ i)) (Br (decide (i < (len : Int))) (match Nat.ble len 32 with
      | true => splI i (fun r => K (.el j z q (o + r * inf.size)) s) (Nat.sub len 1) 0
      | false => K (.el j z q (o + i.toNat * inf.size)) s) no) no
    | _, _, _ => no
  | .index t x ix => Wi no (P.underlying t) fun d => Wi no (getT e x) fun x => Wi no (getT e ix) fun ix => match d, x, ix with
    | .array len elem, .agg cs, .raw (.int k i) => Wi no (P.info? elem) fun inf => Br (decide (0 ≤ i)) (Br (decide (i < (len : Int))) (match Nat.ble len 32 with
      | true => splI i (fun r => Wi no (vPart P elem cs (r * inf.size)) fun v => K v s) (Nat.sub len 1) 0
      | false => Wi no (vPart P elem cs (i.toNat * inf.size)) fun v => K v s) no) no
    | .string, .raw (.string y), .raw (.int k i) => Br (decide (0 ≤ i)) (Br (decide (i < (y.size : Int))) (K (.raw (.int .u8 (y.get! i.toNat).toNat)) s) no) no
    | _, _, _ => no
  | .typeAssert x xType asserted ok => Wi no (P.underlying asserted) fun d => Wi no (getT e x) fun x => match d, x.nf with
    | .interface want, .ifc t v => Wi no (P.info? t) fun i => match hasAll want i.methods with
      | true => K (if ok then .tup [x, .raw (.bool true)] else x) s
      | false => match ok with
        | true => Wi no (P.info? asserted) fun j => Wi no j.zero fun z => K (.tup [ofVal z, .raw (.bool false)]) s
        | false => no
    | .interface _, _ => no
    | _, .ifc t v => match Nat.beq t asserted with
      | true => K (if ok then .tup [v, .raw (.bool true)] else v) s
      | false => match ok with
        | true => Wi no (P.info? asserted) fun j => Wi no j.zero fun z => K (.tup [ofVal z, .raw (.bool false)]) s
        | false => no
    | _, _ => no
  | .extract t ix => Wi no (getT e t) fun t => match t with
    | .tup vs => Wi no vs[ix]? fun v => K v s
    | _ => no
  | .lookup t x ix ok => match P.underlying t with
    | some (.map kt el) => Wi no (getT e x) fun m => Wi no (getT e ix) fun k => Wi no (vEntries s m) fun es => Wi no (P.underlying kt) fun d => match vCheck P 10 kt k with
      | true => vFindK no P d kt k (fun _ en => K (if ok then .tup [en.2.1, .raw (.bool true)] else en.2.1) s)
        (Wi no (P.info? el) fun inf => Wi no inf.zero fun z => K (if ok then .tup [ofVal z, .raw (.bool false)] else ofVal z) s) es 0
      | false => no
    | _ => no
  | .mapUpdate t m k x | .insert t m k x => match P.underlying t with
    | some (.map kt el) => Wi no (getT e m) fun m => Wi no (getT e k) fun k => Wi no (getT e x) fun x => Wi no (P.underlying kt) fun d => match m with
      | .mp i => match s[i]? with
        | some (.map es c) => match vCheck P 10 kt k with
          | true => vFindK no P d kt k (fun j en => match vBits en.1 k with
              | true => K (.raw undef) (s.set i (.map (es.set j (k, x, en.2.2)) c))
              | false => no)
            (K (.raw undef) (s.set i (.map (es ++ [(k, x, c)]) (c + 1)))) es 0
          | false => no
        | _ => no
      | _ => no
    | _ => no
  | .makeMap t r => match r with
    | none => K (.mp s.length) (s ++ [.map [] 0])
    | some r => match P.underlying t with
      | some (.map _ _) => Wi no (getT e r) fun r => match r with
        | .raw (.int _ _) => K (.mp s.length) (s ++ [.map [] 0])
        | _ => no
      | _ => no
  | _ => no
def valOp {R : Type} (no : R) (P : Program) (op : Op) (st : St) (K : Kt R) : R := valOpT no P op st.t st.s K
section
variable {P : Program} {ρ : Rho} {w : World} {st : St} {a : Act}
theorem Sim.evalL (h : Sim Δ ρ st a w) : ∀ {xs : List Operand} {vs : List V}, st.getL xs = some vs → xs.map a.eval = absL ρ vs ∧ bdL st.s.length vs := by
  intro xs
  induction xs with
  | nil => intro vs hv; simp only [St.getL, getTL, Option.some.injEq] at hv; subst hv; simp [absL, bdL]
  | cons x xs ih =>
    intro vs hv
    simp only [St.getL, getTL] at hv
    split at hv
    · rename_i v vs' h1 h2
      simp only [Option.some.injEq] at hv
      subst hv
      obtain ⟨e1, e2⟩ := h.eval h1
      obtain ⟨e3, e4⟩ := ih h2
      exact ⟨by simp [absL, e1, e3], e2, e4⟩
    · cases hv
def absP (ρ : Rho) (ps : List (Nat × V)) : List (Nat × Value) := ps.map fun p => (p.1, p.2.abs ρ)
theorem Sim.evalP (h : Sim Δ ρ st a w) : ∀ {xs : List (Nat × Operand)} {ps : List (Nat × V)}, st.getP xs = some ps → (xs.map fun x => (x.1, a.eval x.2)) = absP ρ ps ∧ ∀ p ∈ ps, p.2.bd st.s.length := by
  intro xs
  induction xs with
  | nil => intro vs hv; simp only [St.getP, getTP, Option.some.injEq] at hv; subst hv; simp [absP]
  | cons x xs ih =>
    intro vs hv
    simp only [St.getP, getTP] at hv
    split at hv
    · rename_i v vs' h1 h2
      simp only [Option.some.injEq] at hv
      subst hv
      obtain ⟨e1, e2⟩ := h.eval h1
      obtain ⟨e3, e4⟩ := ih h2
      refine ⟨by simp [absP, e1, e3], fun p hp => ?_⟩
      rcases List.mem_cons.1 hp with rfl | hp
      · exact e2
      · exact e4 p hp
    · cases hv
theorem absL_setR (ρ : Rho) : ∀ (vs cs : List V) (o : Nat), absL ρ (setR cs o vs) = ((absL ρ vs).zipIdx o).foldl (fun l p => l.set p.2 p.1) (absL ρ cs) := by
  intro vs
  induction vs with
  | nil => intro cs o; simp [setR, absL]
  | cons v vs ih => intro cs o; simp [setR, absL, ih, absL_map, List.map_set]
theorem foldl_set (off : Nat) : ∀ (vs : List Value) (j : Nat) (cells : Array Value), ((vs.zipIdx j).foldl (fun cs (c, j) => cs.setIfInBounds (off + j) c) cells).toList = (vs.zipIdx (off + j)).foldl (fun l p => l.set p.2 p.1) cells.toList := by
  intro vs
  induction vs with
  | nil => intro j cells; simp
  | cons v vs ih => intro j cells; simp only [List.zipIdx_cons, List.foldl_cons]; rw [ih]; simp [Nat.add_assoc]
theorem fill_sound {place : Nat → Option (Nat × Nat)} : ∀ {ps : List (Nat × V)} {cells cs : List V}, vFill place cells ps = some cs → Instr.fill place (absL ρ cells).toArray (absP ρ ps) = some (absL ρ cs).toArray := by
  intro ps
  induction ps with
  | nil => intro cells cs h; simp only [vFill, Option.some.injEq] at h; subst h; simp [Instr.fill, absP]
  | cons p ps ih =>
    intro cells cs h
    simp only [vFill] at h
    split at h
    · cases h
    · rename_i off size hp
      split at h
      · rename_i hc
        simp only [Bool.and_eq_true] at hc
        have hc1 : p.2.cells.length = size := Nat.eq_of_beq_eq_true hc.1
        have hc2 : off + size ≤ cells.length := Nat.le_of_ble_eq_true hc.2
        have := ih h
        simp only [absP, List.map_cons, Instr.fill, hp, abs_cells, List.size_toArray, absL_length, hc1]
        rw [if_neg (by simp; omega)]
        rw [← this]
        congr 1
        apply Array.ext'
        have := foldl_set off (absL ρ p.2.cells) 0 (absL ρ cells).toArray
        simpa [absL_setR, hc1] using this
      · cases h
theorem fill_bd {place : Nat → Option (Nat × Nat)} {n : Nat} : ∀ {ps : List (Nat × V)} {cells cs : List V}, vFill place cells ps = some cs → (∀ p ∈ ps, p.2.bd n) → bdL n cells → bdL n cs := by
  intro ps
  induction ps with
  | nil => intro cells cs h _ hb; simp only [vFill, Option.some.injEq] at h; subst h; exact hb
  | cons p ps ih =>
    intro cells cs h hp hb
    simp only [vFill] at h
    split at h
    · cases h
    · split at h
      · exact ih h (fun q hq => hp q (by simp [hq])) (bdL_setR (bd_cells (hp p (by simp))) hb)
      · cases h
theorem zero_sound {t : TypeId} {z : List V} (h : vZero P t = some z) : ∃ v, (zeroValue t).run P w = .ok v w ∧ v.cells = (absL ρ z).toArray ∧ ∀ n, bdL n z := by
  unfold vZero at h
  split at h
  · rename_i i hi
    split at h
    · rename_i v hv
      simp only [Option.some.injEq] at h
      subst h
      refine ⟨v, by simp [zeroValue, run_typeInfo hi, hv], ?_, fun n => bd_cells (v := .raw v) trivial⟩
      have := abs_cells ρ (.raw v)
      simpa [V.abs] using this
    · cases h
  · cases h
theorem places_sound : ∀ {fs : List Field} {pl : List (Nat × Nat)}, vPlaces P fs = some pl → ((fs.mapM fun f => do pure (f.offset, ← sizeOf f.type) : Sem (List (Nat × Nat)))).run P w = .ok pl w := by
  intro fs
  induction fs with
  | nil => intro pl h; simp only [vPlaces, Option.some.injEq] at h; subst h; simp
  | cons f fs ih =>
    intro pl h
    simp only [vPlaces] at h
    split at h
    · rename_i i l h1 h2
      simp only [Option.some.injEq] at h
      subst h
      rw [List.mapM_cons]
      simp only [Sem.run_bind, run_sizeOf h1, Result.andThen_ok, Sem.run_pure, ih h2]
    · cases h
theorem build_sound {t : TypeId} {ps : List (Nat × V)} {v : V} (h : vBuild P t ps = some v) : (Instr.build t (absP ρ ps).toArray).run P w = .ok (v.abs ρ) w := by
  unfold vBuild at h
  split at h
  · rename_i zero fields hz ht
    obtain ⟨z, z1, z2, _⟩ := zero_sound (ρ := ρ) (w := w) hz
    split at h
    · rename_i pl hpl
      split at h
      · rename_i cs hcs
        simp only [Option.some.injEq] at h
        subst h
        have hm : (fields.mapM fun f => do pure (f.offset, ← sizeOf f.type) : Sem (Array (Nat × Nat))).run P w = .ok pl.toArray w := by
          rw [← Array.toArray_toList (xs := fields)]
          rw [List.mapM_toArray]
          simp only [Sem.run_map, places_sound hpl, Result.andThen_ok]
        have hf := fill_sound (ρ := ρ) hcs
        simp only [Instr.build, Sem.run_bind, z1, Result.andThen_ok, run_underlying ht, hm, z2]
        simp [hf, V.abs]
      · cases h
    · cases h
  · rename_i zero n elem hz ht
    obtain ⟨z, z1, z2, _⟩ := zero_sound (ρ := ρ) (w := w) hz
    split at h
    · rename_i inf hinf
      split at h
      · rename_i cs hcs
        simp only [Option.some.injEq] at h
        subst h
        have hf := fill_sound (ρ := ρ) hcs
        simp only [Instr.build, Sem.run_bind, z1, Result.andThen_ok, run_underlying ht, run_sizeOf hinf, z2]
        simp [hf, V.abs]
      · cases h
    · cases h
  · cases h
theorem build_bd {t : TypeId} {ps : List (Nat × V)} {v : V} {n : Nat} (h : vBuild P t ps = some v) (hb : ∀ p ∈ ps, p.2.bd n) : v.bd n := by
  unfold vBuild at h
  split at h
  · rename_i zero fields hz ht
    obtain ⟨z, z1, z2, z3⟩ := zero_sound (ρ := fun _ => (0, 0)) (w := default) hz
    split at h
    · split at h
      · rename_i cs hcs
        simp only [Option.some.injEq] at h; subst h
        exact fill_bd hcs hb (z3 n)
      · cases h
    · cases h
  · rename_i zero m elem hz ht
    obtain ⟨z, z1, z2, z3⟩ := zero_sound (ρ := fun _ => (0, 0)) (w := default) hz
    split at h
    · split at h
      · rename_i cs hcs
        simp only [Option.some.injEq] at h; subst h
        exact fill_bd hcs hb (z3 n)
      · cases h
    · cases h
  · cases h
theorem zeros_sound {z : List V} {v : Value} {size n : Nat} (hz : v.cells = (absL ρ z).toArray) (hs : z.length = size) :
    (Array.range (n * size)).map (fun i => v.cells[i % v.cells.size]!) = (absL ρ (vZeros z size n)).toArray := by
  apply Array.ext'
  have hsz : v.cells.size = size := by rw [hz]; simp [absL_length, hs]
  unfold vZeros
  split
  · match z, hs with
    | [u], _ =>
      rw [hz]
      simp [absL, absL_map, Nat.mod_one, List.map_const']
  · rename_i hne
    rw [hz]
    simp only [Array.toList_map, Array.toList_range, absL_map, List.map_map, List.size_toArray, List.length_map]
    apply List.map_congr_left
    intro i hi
    have hlt : i < n * size := List.mem_range.1 hi
    have h0 : 0 < size := by rcases Nat.eq_zero_or_pos size with h | h; · subst h; simp at hlt
                             · exact h
    have hm : i % z.length < z.length := by rw [hs]; exact Nat.mod_lt _ h0
    simp [hm, List.getD_eq_getElem?_getD, List.getElem?_eq_getElem hm]
end
end Go.Proofs.YtalgegmcllcnmaaRL
end
section
/- RL, fifth text: the operations are what the machine does. -/
namespace Go.Proofs.YtalgegmcllcnmaaRL
open Go
set_option linter.unusedVariables false
set_option linter.unusedSimpArgs false
variable {Δ : List Deferred}
section
variable {P : Program} {ρ : Rho} {w : World} {st : St} {a : Act}
theorem Step.mono {q : Bool} {s : Sem Next} {K K' : Kt Prop} (h : Step q P st ρ w s K) (hk : ∀ v s, K v s → K' v s) : Step q P st ρ w s K' :=
  let ⟨n, v, s', ρ', w', h1, h2, h3, h4⟩ := h; ⟨n, v, s', ρ', w', h1, h2, hk _ _ h3, h4⟩
/-- A new block of cells, and the value that points to it. -/
theorem alloc_run {K : Kt Prop} {s : Sem Value} {cs : List V} {elem : TypeId} {v : V} (h : Sim Δ ρ st a w) (hb : bdL st.s.length cs) (hv : v.bd (st.s.length + 1))
    (hr : s.run P w = .ok (v.abs (ρ.push st.s.length w.heap.size)) (w.alloc (.cells (absL ρ cs).toArray elem))) (hk : K v (st.s ++ [.own cs elem])) : Step false P st ρ w (do pure (Next.value (← s))) K :=
  Step.alloc h hb hv hr hk
theorem addr_part (b x l s m : Nat) : (if m = l then (⟨b, x, none⟩ : Addr) else (⟨b, x, none⟩ : Addr).add (l * s)) = ⟨b, slOff x l m s, none⟩ := by
  unfold slOff
  cases l with
  | zero => simp [Addr.add]
  | succ l =>
    cases hb : Nat.beq m (l + 1) with
    | true => rw [if_pos (Nat.eq_of_beq_eq_true hb)]; simp [hb]
    | false =>
      rw [if_neg (fun e => by subst e; simp at hb)]
      unfold Addr.add
      split
      · rename_i h0; simp [h0, hb]
      · simp [hb]
theorem off_part (r o l s m : Nat) : r + slOff o l m s = slOff (r + o) l m s := by
  unfold slOff
  cases l with
  | zero => rfl
  | succ l => simp only []; split <;> simp [Nat.add_assoc]
end
section
variable {P : Program} {ρ : Rho} {w : World} {st : St} {a : Act} {R : Type} {no : R} {T : R → Prop} (hno : ¬ T no)
include hno
theorem bounds_run {k : IntKind} {i : Int} {y : Nat} {code : BoundsCode} {K : Nat → R} (h : T (vBounds no k i y K)) : ∃ n, (Instr.sliceBound (.int k i) y code).run P w = .ok n w ∧ n ≤ y ∧ T (K n) := by
  rcases Br.out h with ⟨h1, h⟩ | ⟨_, h⟩
  · rcases Br.out h with ⟨h2, h⟩ | ⟨_, h⟩
    · have h1' : 0 ≤ i := of_decide_eq_true h1
      have h2' : i ≤ (y : Int) := of_decide_eq_true h2
      refine ⟨i.toNat, ?_, by omega, h⟩
      simp [Instr.sliceBound, asIntOf, h1', h2']
    · exact (hno h).elim
  · exact (hno h).elim
theorem vOpt_out {x : Option Operand} {K : Option V → R} (h : Sim Δ ρ st a w) (hk : T (vOpt no st.t x K)) : ∃ v, x.map a.eval = v.map (V.abs ρ) ∧ T (K v) := by
  cases x with
  | none => exact ⟨none, rfl, hk⟩
  | some x =>
    obtain ⟨v, hv, hk⟩ := Wi.out hno hk
    exact ⟨some v, by simp [(h.eval hv).1], hk⟩
theorem boundsO_run {x : Option V} {d y : Nat} {K : Nat → R} {code : BoundsCode} (h : T (vBoundsO no x d y K)) :
    ∃ n, (match x.map (V.abs ρ) with | some v => Instr.sliceBound v y code | none => pure d : Sem Nat).run P w = .ok n w ∧ T (K n) := by
  unfold vBoundsO at h
  split at h
  · exact ⟨d, by simp, h⟩
  · obtain ⟨n, h1, h2, h3⟩ := bounds_run hno (P := P) (w := w) (code := code) h
    exact ⟨n, by simpa [V.abs] using h1, h3⟩
  · exact (hno h).elim
theorem sliceBounds_run {b : Bool} {len cap : Nat} {lo hi mx : Option V} {K : Nat → Nat → Nat → R} (hne : mx.isSome = true → hi.isSome = true)
    (h : T (vBoundsO no mx cap cap fun m => vBoundsO no hi len (mxCap mx m cap) fun h => vBoundsO no lo 0 h fun l => K l h m)) :
    ∃ l h m, (Instr.sliceBounds b len cap (lo.map (V.abs ρ)) (hi.map (V.abs ρ)) (mx.map (V.abs ρ))).run P w = .ok (l, h, m) w ∧ T (K l h m) := by
  obtain ⟨m, m1, h⟩ := boundsO_run hno (P := P) (ρ := ρ) (w := w) (code := if b then .slice3Acap else .slice3Alen) h
  cases mx with
  | none =>
    simp only [Option.map_none] at m1
    have hm : cap = m := by simpa using m1
    subst hm
    obtain ⟨hh, h1, h⟩ := boundsO_run hno (P := P) (ρ := ρ) (w := w) (code := if b then .sliceAcap else .sliceAlen) h
    obtain ⟨l, l1, h⟩ := boundsO_run hno (P := P) (ρ := ρ) (w := w) (code := .sliceB) h
    refine ⟨l, hh, cap, ?_, h⟩
    simp only [Instr.sliceBounds, Option.map_none, Sem.run_bind, Sem.run_pure, Result.andThen_ok]
    cases hi <;> cases lo <;> simp_all [mxCap]
  | some v =>
    obtain ⟨hh, h1, h⟩ := boundsO_run hno (P := P) (ρ := ρ) (w := w) (code := .slice3B) h
    obtain ⟨l, l1, h⟩ := boundsO_run hno (P := P) (ρ := ρ) (w := w) (code := .slice3C) h
    refine ⟨l, hh, m, ?_, h⟩
    have := hne rfl
    simp only [Instr.sliceBounds]
    cases hi with
    | none => simp at this
    | some u => cases lo <;> simp_all [mxCap]
theorem bin_sound {op : BinOp} {t yt : TypeId} {x y : Operand} {u v : V} {K : V → R} (hx : a.eval x = u.abs ρ) (hy : a.eval y = v.abs ρ) (h : T (vBin no P op t u v K)) :
    ∃ r : V, ((do eqGuard op t x y (a.eval x) (a.eval y); binOp op t (a.eval x) (a.eval y) : Sem Value)).run P w = .ok (r.abs ρ) w ∧ T (K r) ∧ ∀ n, r.bd n := by
  rw [hx, hy]
  unfold vBin at h
  split at h
  · rename_i k p k' q
    simp only [V.abs, eqGuard_at_int, Sem.run_bind, Sem.run_pure, Result.andThen_ok]
    split at h
    · rcases Br.out h with ⟨h1, h⟩ | ⟨_, h⟩
      · have h1' : 0 ≤ q := of_decide_eq_true h1
        exact ⟨.raw _, by simp [binOp, Op.shift, V.abs]; omega, h, fun n => trivial⟩
      · exact (hno h).elim
    · rcases Br.out h with ⟨h1, h⟩ | ⟨_, h⟩
      · have h1' : 0 ≤ q := of_decide_eq_true h1
        exact ⟨.raw _, by simp [binOp, Op.shift, V.abs]; omega, h, fun n => trivial⟩
      · exact (hno h).elim
    · split at h
      · rename_i hk
        obtain rfl := kindEq_eq hk
        rcases Br.out h with ⟨h1, h⟩ | ⟨_, h⟩
        · have h1' : q ≠ 0 := by simpa using h1
          exact ⟨.raw _, by simp [binOp, Op.intDiv, V.abs, h1'], h, fun n => trivial⟩
        · exact (hno h).elim
      · exact (hno h).elim
    · split at h
      · rename_i hk
        obtain rfl := kindEq_eq hk
        rcases Br.out h with ⟨h1, h⟩ | ⟨_, h⟩
        · have h1' : q ≠ 0 := by simpa using h1
          exact ⟨.raw _, by simp [binOp, Op.intDiv, V.abs, h1'], h, fun n => trivial⟩
        · exact (hno h).elim
      · exact (hno h).elim
    · split at h
      · rename_i hk
        obtain rfl := kindEq_eq hk
        obtain ⟨r, hr, h⟩ := Wi.out hno h
        exact ⟨.raw r, by rw [bop_sound hr]; simp [V.abs], h, fun n => trivial⟩
      · exact (hno h).elim
  · rename_i k m r d l k' q
    simp only [V.abs, eqGuard_at_int, Sem.run_bind, Sem.run_pure, Result.andThen_ok]
    split at h
    · rename_i hk
      obtain rfl := kindEq_eq hk
      split at h
      · split at h
        · rename_i hb0
          have hb0 := of_decide_eq_true hb0
          subst hb0
          refine ⟨.raw (.bool false), ?_, h, fun n => trivial⟩
          have hlt : decide (((mdVal m ((r, d) :: l) : Nat) : Int) < 0) = false := decide_eq_false (by omega)
          rw [bop_sound (v := .bool false) (by simp only [bop, hlt])]
          simp [V.abs]
        · exact (hno h).elim
      split at h
      · rename_i hc
        simp only [Bool.and_eq_true, Nat.blt_eq, decide_eq_true_eq] at hc
        obtain ⟨rfl, hrd⟩ := hc
        have hd0 : ¬ ((d : Int) = 0) := by omega
        have ediv : ((mdVal m l * d + r : Nat) : Int).tdiv (d : Int) = ((mdVal m l : Nat) : Int) := by
          rw [← Int.ofNat_tdiv]
          congr 1
          rw [Nat.mul_comm, Nat.mul_add_div (by omega), Nat.div_eq_of_lt hrd]
          rfl
        have emod : ((mdVal m l * d + r : Nat) : Int).tmod (d : Int) = (r : Int) := by
          rw [← Int.ofNat_tmod]
          congr 1
          rw [Nat.mul_comm, Nat.mul_add_mod, Nat.mod_eq_of_lt hrd]
        split at h
        · rcases Br.out h with ⟨h1, h⟩ | ⟨_, h⟩
          · have h1' := of_decide_eq_true h1
            refine ⟨.md k m l, ?_, h, fun n => trivial⟩
            simp only [binOp, Op.intDiv, mdVal, if_neg hd0, ediv, h1', V.abs]
            simp
          · exact (hno h).elim
        · refine ⟨.raw (.int k (r : Int)), ?_, h, fun n => trivial⟩
          simp only [binOp, Op.intDiv, mdVal, if_neg hd0, emod, V.abs]
          simp
        · exact (hno h).elim
      · exact (hno h).elim
    · exact (hno h).elim
  · simp only [V.abs, eqGuard_at_string, Sem.run_bind, Sem.run_pure, Result.andThen_ok]
    split at h
    · exact ⟨.raw _, by simp [binOp, Op.stringOp, V.abs, beq_toListBytes], h, fun n => trivial⟩
    · exact ⟨.raw _, by simp [binOp, Op.stringOp, V.abs, beq_toListBytes], h, fun n => trivial⟩
    · exact (hno h).elim
  · rename_i hns1 hnsm hns2
    have guard : ∀ {op : BinOp} {K' : Bool → R} {f : Bool → Bool}, (op = .eql ∧ f = id ∨ op = .neq ∧ f = not) → T (Br (eqBad P t u v) no (Wi no (vEq P 10000 t u v) fun b => K' b)) →
        ∃ b, ((do eqGuard op t x y (u.abs ρ) (v.abs ρ); binOp op t (u.abs ρ) (v.abs ρ) : Sem Value)).run P w = .ok (.bool (f b)) w ∧ T (K' b) := by
      intro op K' f hop hg
      rcases Br.out hg with ⟨_, hg⟩ | ⟨hg1, hg⟩
      · exact (hno hg).elim
      obtain ⟨b, hb, hk⟩ := Wi.out hno hg
      have heq := vEq_sound (ρ := ρ) 10000 t u v b hb w
      refine ⟨b, ?_, hk⟩
      have hgd : (eqGuard op t x y (u.abs ρ) (v.abs ρ)).run P w = .ok () w := by
        have hnn : ¬ (u.abs ρ = .nilIface ∧ v.abs ρ = .nilIface) := by
          rintro ⟨e1, e2⟩
          have u1 : u = .raw .nilIface := by cases u <;> simp_all [V.abs]
          have u2 : v = .raw .nilIface := by cases v <;> simp_all [V.abs]
          subst u1 u2
          simp only [vEq] at hb
          split at hb <;> first | cases hb | (split at hb <;> simp_all)
        have hagg : ∀ xs ys, u.abs ρ = .agg xs → v.abs ρ = .agg ys → P.eqGuardType P.depth t = false := by
          intro xs ys e1 e2
          have u1 : (∃ l, u = .agg l) ∨ ∃ l, u = .raw (.agg l) := by cases u <;> simp_all [V.abs]
          have u2 : (∃ l, v = .agg l) ∨ ∃ l, v = .raw (.agg l) := by cases v <;> simp_all [V.abs]
          rcases u1 with ⟨l, rfl⟩ | ⟨l, rfl⟩ <;> rcases u2 with ⟨m, rfl⟩ | ⟨m, rfl⟩
          · exact hg1
          all_goals
            simp only [vEq] at hb
            split at hb <;> first | cases hb | (split at hb <;> simp_all)
        unfold eqGuard
        rcases hop with ⟨rfl, rfl⟩ | ⟨rfl, rfl⟩
        all_goals
          simp only [Bool.not_true, Bool.false_eq_true, if_false]
          split
          · exact absurd ⟨‹_›, ‹_›⟩ hnn
          · rename_i xs ys e1 e2
            simp [hagg _ _ e1 e2]
          · simp
      have hbin : (binOp op t (u.abs ρ) (v.abs ρ)).run P w = .ok (.bool (f b)) w := by
        have n1 : ∀ k p k' q, ¬ (u.abs ρ = .int k p ∧ v.abs ρ = .int k' q) := by
          rintro k p k' q ⟨e1, e2⟩
          have u1 : u = .raw (.int k p) ∨ ∃ k m l, u = .md k m l := by cases u <;> simp_all [V.abs]
          have u2 : v = .raw (.int k' q) ∨ ∃ k m l, v = .md k m l := by cases v <;> simp_all [V.abs]
          rcases u1 with rfl | ⟨k1, m1, l1, rfl⟩
          · rcases u2 with rfl | ⟨k2, m2, l2, rfl⟩
            · exact hns1 _ _ _ _ rfl rfl
            · simp only [vEq] at hb
              split at hb <;> first | cases hb | (split at hb <;> simp_all)
          · simp only [vEq] at hb
            split at hb <;> first | cases hb | (split at hb <;> simp_all)
        have n2 : ∀ p q, ¬ (u.abs ρ = .string p ∧ v.abs ρ = .string q) := by
          rintro p q ⟨e1, e2⟩
          have u1 : u = .raw (.string p) := by cases u <;> simp_all [V.abs]
          have u2 : v = .raw (.string q) := by cases v <;> simp_all [V.abs]
          exact hns2 _ _ u1 u2
        have n3 : ∀ k p k' q, ¬ (u.abs ρ = .float k p ∧ v.abs ρ = .float k' q) := by
          rintro k p k' q ⟨e1, e2⟩
          have u1 : u = .raw (.float k p) := by cases u <;> simp_all [V.abs]
          subst u1
          simp only [vEq] at hb
          split at hb <;> first | cases hb | (split at hb <;> simp_all)
        have n4 : ∀ k p p' k' q q', ¬ (u.abs ρ = .complex k p p' ∧ v.abs ρ = .complex k' q q') := by
          rintro k p p' k' q q' ⟨e1, e2⟩
          have u1 : u = .raw (.complex k p p') := by cases u <;> simp_all [V.abs]
          subst u1
          simp only [vEq] at hb
          split at hb <;> first | cases hb | (split at hb <;> simp_all)
        have e1 : binOp .eql t (u.abs ρ) (v.abs ρ) = (do pure (.bool (← Op.equal t (u.abs ρ) (v.abs ρ)))) := by
          generalize u.abs ρ = X at *
          generalize v.abs ρ = Y at *
          cases X <;> cases Y <;> first | rfl | exact absurd ⟨rfl, rfl⟩ (n1 _ _ _ _) | exact absurd ⟨rfl, rfl⟩ (n2 _ _) | exact absurd ⟨rfl, rfl⟩ (n3 _ _ _ _) | exact absurd ⟨rfl, rfl⟩ (n4 _ _ _ _ _ _)
        have e2 : binOp .neq t (u.abs ρ) (v.abs ρ) = (do pure (.bool (!(← Op.equal t (u.abs ρ) (v.abs ρ))))) := by
          generalize u.abs ρ = X at *
          generalize v.abs ρ = Y at *
          cases X <;> cases Y <;> first | rfl | exact absurd ⟨rfl, rfl⟩ (n1 _ _ _ _) | exact absurd ⟨rfl, rfl⟩ (n2 _ _) | exact absurd ⟨rfl, rfl⟩ (n3 _ _ _ _) | exact absurd ⟨rfl, rfl⟩ (n4 _ _ _ _ _ _)
        rcases hop with ⟨rfl, rfl⟩ | ⟨rfl, rfl⟩
        · rw [e1]; simp [Op.equal, Op.maxDepth, heq]
        · rw [e2]; simp [Op.equal, Op.maxDepth, heq]
      simp [hgd, hbin]
    split at h
    · obtain ⟨b, hb, hk⟩ := guard (.inl ⟨rfl, rfl⟩) h
      exact ⟨.raw (.bool b), by simpa [V.abs] using hb, hk, fun n => trivial⟩
    · obtain ⟨b, hb, hk⟩ := guard (.inr ⟨rfl, rfl⟩) h
      exact ⟨.raw (.bool (!b)), by simpa [V.abs] using hb, hk, fun n => trivial⟩
    · exact (hno h).elim
end
end Go.Proofs.YtalgegmcllcnmaaRL
end
section
/- RL, between the fifth and the sixth text: keys of maps. -/
namespace Go.Proofs.YtalgegmcllcnmaaRL
open Go
set_option linter.unusedVariables false
set_option linter.unusedSimpArgs false
section
variable {P : Program} {ρ : Rho} {w : World}
theorem vCheck_succ (n : Nat) (t : TypeId) (v : V) : vCheck P (n + 1) t v = (match P.underlying t with
    | some .bool | some (.int _) | some .string => true
    | some (.struct fs) => match v with
      | .agg cs => vCheckF (vCheck P n) P cs fs.toList
      | _ => false
    | _ => false) := rfl
theorem check_sound (em : Bool) : ∀ (n : Nat) (t : TypeId) (v : V), vCheck P n t v = true → ∀ m, (Instr.checkKey em (n + m) t (v.abs ρ)).run P w = .ok () w := by
  intro n
  induction n with
  | zero => intro t v h; cases h
  | succ n ih =>
    intro t v h m
    rw [vCheck_succ] at h
    rw [show n + 1 + m = (n + m) + 1 by omega]
    have plain : ∀ d, P.underlying t = some d → (match d with | .bool | .int _ | .string => true | _ => false) = true → (Instr.checkKey em (n + m + 1) t (v.abs ρ)).run P w = .ok () w := by
      intro d hd hs
      rw [Instr.checkKey]
      simp only [Sem.run_bind, run_underlying hd, Result.andThen_ok]
      cases d <;> simp at hs <;> simp
    split at h
    · rename_i hu; exact plain _ hu rfl
    · rename_i hu; exact plain _ hu rfl
    · rename_i hu; exact plain _ hu rfl
    · rename_i fs hu
      split at h
      · rename_i cs
        rw [Instr.checkKey]
        simp only [Sem.run_bind, run_underlying hu, Result.andThen_ok, V.abs]
        rw [← Array.forIn_toList]
        generalize fs.toList = L at h
        induction L with
        | nil => simp
        | cons f L ihL =>
          simp only [vCheckF] at h
          simp only [List.forIn_cons, Sem.run_bind]
          split at h
          · rename_i hn
            have hn : f.name = "_" := by simpa using hn
            simp only [hn, ne_eq, not_true_eq_false, if_false, Sem.run_pure, Result.andThen_ok]
            exact ihL h
          · rename_i hn
            have hn : ¬ f.name = "_" := by simpa using hn
            split at h
            · rename_i a ha
              split at h
              · rename_i hc
                simp only [hn, ne_eq, not_false_eq_true, if_true, Sem.run_bind, run_part ha, ih f.type a hc m, Sem.run_pure, Result.andThen_ok]
                exact ihL h
              · cases h
            · cases h
      · cases h
    · cases h
theorem bit_sound {x y : V} (h : vBit x y = true) (n : Nat) : Instr.sameBits n (x.abs ρ) (y.abs ρ) = true := by
  unfold vBit at h
  split at h
  · simp only [Bool.and_eq_true] at h
    have := kindEq_eq h.1
    subst this
    cases n <;> simp [V.abs, Instr.sameBits] <;> simpa using h.2
  · cases n <;> simp [V.abs, Instr.sameBits] <;> simpa using h
  · cases n <;> simp [V.abs, Instr.sameBits] <;> simpa using h
  · cases h
theorem bitL_sound (n : Nat) : ∀ {xs ys : List V}, vBitL xs ys = true → xs.length = ys.length ∧ (((absL ρ xs).zip (absL ρ ys)).all fun p => Instr.sameBits n p.1 p.2) = true := by
  intro xs
  induction xs with
  | nil => intro ys h; cases ys with
    | nil => simp [absL]
    | cons y ys => cases h
  | cons x xs ih => intro ys h; cases ys with
    | nil => cases h
    | cons y ys =>
      simp only [vBitL, Bool.and_eq_true] at h
      obtain ⟨h1, h2⟩ := ih h.2
      refine ⟨by simp [h1], ?_⟩
      simp only [absL, List.zip_cons_cons, List.all_cons, Bool.and_eq_true]
      exact ⟨bit_sound h.1 n, h2⟩
theorem bits_sound {x y : V} (h : vBits x y = true) (n : Nat) : Instr.sameBits (n + 1) (x.abs ρ) (y.abs ρ) = true := by
  unfold vBits at h
  split at h
  · obtain ⟨h1, h2⟩ := bitL_sound (ρ := ρ) n h
    simp only [V.abs, Instr.sameBits, Bool.and_eq_true]
    refine ⟨by simp [absL_length, h1], ?_⟩
    simpa using h2
  · exact bit_sound h _
def narrow : TypeDesc → Bool
  | .int _ | .string | .bool => true
  | _ => false
def broad : TypeDesc → Bool
  | .struct _ | .array _ _ => true
  | _ => false
theorem keyEq_sound {d : TypeDesc} {kt : TypeId} {k key : V} {b : Bool} (h : vKeyEq P d kt k key = some b) :
    (narrow d = true ∧ Instr.sameNow d (k.abs ρ) (key.abs ρ) = some b) ∨ (narrow d = false ∧ broad d = true ∧ ∀ w, (Op.equal kt (k.abs ρ) (key.abs ρ)).run P w = .ok b w) := by
  cases d
  case int q =>
    simp only [vKeyEq] at h
    split at h
    · split at h
      · rename_i hk
        have := kindEq_eq hk
        subst this
        exact .inl ⟨rfl, by simpa [V.abs, Instr.sameNow] using h⟩
      · cases h
    · cases h
  case string =>
    simp only [vKeyEq] at h
    split at h
    · exact .inl ⟨rfl, by simpa [V.abs, Instr.sameNow] using h⟩
    · cases h
  case bool =>
    simp only [vKeyEq] at h
    split at h
    · exact .inl ⟨rfl, by simpa [V.abs, Instr.sameNow] using h⟩
    · cases h
  case struct fs => exact .inr ⟨rfl, rfl, fun w => vEq_sound _ _ _ _ _ h w⟩
  case array n e => exact .inr ⟨rfl, rfl, fun w => vEq_sound _ _ _ _ _ h w⟩
  all_goals cases h
theorem find_sound {R : Type} {no : R} {T : R → Prop} (hno : ¬ T no) {d : TypeDesc} {kt : TypeId} {k : V} {found : Nat → V × V × Nat → R} {nn : R} : ∀ (es : List (V × V × Nat)) (i : Nat), T (vFindK no P d kt k found nn es i) →
    ∃ r, ((narrow d = true → Instr.findNow d (k.abs ρ) (es.map (absE ρ)) i = some r) ∧ (narrow d = false → (Instr.findAsking kt (k.abs ρ) (es.map (absE ρ)) i).run P w = .ok r w)) ∧
      ((r = none ∧ T nn) ∨ ∃ j e, es[j]? = some e ∧ r = some (i + j, e.2.1.abs ρ) ∧ T (found (i + j) e)) := by
  intro es
  induction es with
  | nil => intro i h; exact ⟨none, ⟨fun _ => rfl, fun _ => rfl⟩, .inl ⟨rfl, h⟩⟩
  | cons e es ih =>
    intro i h
    simp only [vFindK] at h
    obtain ⟨b, hb, h⟩ := Wi.out hno h
    have hs := keyEq_sound (ρ := ρ) hb
    rcases Br.out h with ⟨rfl, h⟩ | ⟨rfl, h⟩
    · refine ⟨some (i, e.2.1.abs ρ), ⟨fun hn => ?_, fun hn => ?_⟩, .inr ⟨0, e, rfl, rfl, h⟩⟩
      · rcases hs with ⟨_, hs⟩ | ⟨h2, _⟩
        · simp only [List.map_cons, Instr.findNow, absE, hs]
        · rw [hn] at h2; cases h2
      · rcases hs with ⟨h2, _⟩ | ⟨_, _, hs⟩
        · rw [hn] at h2; cases h2
        · simp [Instr.findAsking, absE, hs]
    · obtain ⟨r, ⟨r1, r2⟩, r3⟩ := ih (i + 1) h
      refine ⟨r, ⟨fun hn => ?_, fun hn => ?_⟩, ?_⟩
      · rcases hs with ⟨_, hs⟩ | ⟨h2, _⟩
        · simp only [List.map_cons, Instr.findNow, absE, hs]; exact r1 hn
        · rw [hn] at h2; cases h2
      · rcases hs with ⟨h2, _⟩ | ⟨_, _, hs⟩
        · rw [hn] at h2; cases h2
        · simp only [List.map_cons, Instr.findAsking, Sem.run_bind, absE, hs, Result.andThen_ok]; exact r2 hn
      · rcases r3 with h3 | ⟨j, e', j1, j2, j3⟩
        · exact .inl h3
        · exact .inr ⟨j + 1, e', j1, by rw [j2]; congr 2; omega, by rw [show i + (j + 1) = i + 1 + j by omega]; exact j3⟩
/-- A key's entry, as the machine finds it. -/
theorem findKey_sound {R : Type} {no : R} {T : R → Prop} (hno : ¬ T no) {d : TypeDesc} {kt : TypeId} {k : V} {found : Nat → V × V × Nat → R} {nn : R} (hd : P.underlying kt = some d) {es : List (V × V × Nat)} (h : T (vFindK no P d kt k found nn es 0)) :
    ∃ r, (Instr.findKey kt (k.abs ρ) (es.map (absE ρ))).run P w = .ok r w ∧ ((r = none ∧ T nn) ∨ ∃ j e, es[j]? = some e ∧ r = some (j, e.2.1.abs ρ) ∧ T (found j e)) := by
  obtain ⟨r, ⟨r1, r2⟩, r3⟩ := find_sound (ρ := ρ) (w := w) hno es 0 h
  refine ⟨r, ?_, ?_⟩
  · cases hn : narrow d with
    | true => exact Go.MapKept.run_findKey hd (r1 hn)
    | false =>
      cases es with
      | nil =>
        have := r2 hn
        simp only [List.map_nil, Instr.findAsking, Sem.run_pure] at this
        simp only [List.map_nil, Instr.findKey, Sem.run_bind, run_underlying hd, Result.andThen_ok, Instr.findNow, Sem.run_pure]
        exact this
      | cons e es =>
        have hb : broad d = true := by
          simp only [vFindK] at h
          obtain ⟨b, hb, _⟩ := Wi.out hno h
          rcases keyEq_sound (ρ := ρ) hb with ⟨h2, _⟩ | ⟨_, h3, _⟩
          · rw [hn] at h2; cases h2
          · exact h3
        rw [run_findKey_eq w (by rw [hd]; cases d <;> simp [broad] at hb <;> rfl)]
        exact r2 hn
  · simpa using r3
end
end Go.Proofs.YtalgegmcllcnmaaRL
end
