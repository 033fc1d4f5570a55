/- RL: elements of flat cells, told by columns: read, written, made. -/
import Derived.Test.YtpahclogghdnpaaDoorzA64KindsRL3
namespace Go.Proofs.YtpahclogghdnpaaDoorRL
open Go
set_option linter.unusedVariables false
set_option linter.unusedSimpArgs false
variable {Δ : List Deferred}
def rdC (cols : List Col) (k c : Nat) : Option V := match cols[c]? with
  | some (.int ik g) => some (.raw (.int ik (g k)))
  | some (.bool g) => some (.raw (.bool (g k)))
  | some (.str g) => some (.raw (.string (g k)))
  | _ => none
def rdCs (cols : List Col) (k : Nat) : Nat → Nat → Option (List V)
  | 0, _ => some []
  | m + 1, c => match rdC cols k c, rdCs cols k m (c + 1) with
    | some v, some vs => some (v :: vs)
    | _, _ => none
def vLoadE {R : Type} (no : R) (P : Program) (t : TypeId) (s : Sto) (i z k f : Nat) (K : V → R) : R :=
  match s[i]? with
  | some (.arr _ cols n _) => match Nat.beq z cols.length with
    | true => Br (Nat.blt k n) (Wi no (P.underlying t) fun d => match aggD d with
      | true => Wi no (P.info? t) fun inf => match Nat.ble (f + inf.size) z with
        | true => Wi no (rdCs cols k inf.size f) fun vs => K (.agg vs)
        | false => no
      | false => match Nat.blt f z with
        | true => Wi no (rdC cols k f) K
        | false => no) no
    | false => no
  | _ => no
def upC (col : Col) (k : Nat) (v : V) : Option Col := match col, v with
  | .int ik g, .raw (.int ik' x) => match kindEq ik ik' with
    | true => some (.int ik fun j => match Nat.beq j k with | true => x | false => g j)
    | false => none
  | .bool g, .raw (.bool x) => some (.bool fun j => match Nat.beq j k with | true => x | false => g j)
  | .str g, .raw (.string x) => some (.str fun j => match Nat.beq j k with | true => x | false => g j)
  | .any, _ => some .any
  | _, _ => none
def upCs (k : Nat) : List Col → Nat → List V → Option (List Col)
  | cols, _, [] => some cols
  | cols, f, v :: vs => match cols[f]? with
    | some col => match upC col k v with
      | some col' => upCs k (cols.set f col') (f + 1) vs
      | none => none
    | none => none
def AM.isOwn : AM → Bool
  | .ro => false
  | _ => true
def vStoreE {R : Type} (no : R) (P : Program) (t : TypeId) (s : Sto) (i z k f : Nat) (v : V) (K : Sto → R) : R :=
  match s[i]? with
  | some (.arr m cols n e) => match m.isOwn && Nat.beq z cols.length with
    | true => Br (Nat.blt k n) (Wi no (P.info? t) fun inf => match Nat.beq v.cells.length inf.size && Nat.ble (f + inf.size) z && v.cells.all V.one with
      | true => Wi no (upCs k cols f v.cells) fun cols' => flA (s.set i (.arr m cols' n e)) K
      | false => no) no
    | false => no
  | _ => no
/-- The columns of so many elements, all of them these cells. -/
def colsOf : List V → Option (List Col)
  | [] => some []
  | v :: vs => match colsOf vs with
    | some l => match v with
      | .raw (.int k x) => some (.int k (fun _ => x) :: l)
      | .raw (.bool x) => some (.bool (fun _ => x) :: l)
      | .raw (.string x) => some (.str (fun _ => x) :: l)
      | _ => none
    | none => none
def colsNE : List V → Option (List Col)
  | [] => none
  | v :: vs => colsOf (v :: vs)
/-- The same blocks are its own. -/
theorem Ext.conv {s s1 s' s1' : Sto} {ρ ρ' : Rho} {w w' : World} (ha : s1.map Ent.isOwn = s.map Ent.isOwn) (hb : s'.map Ent.isOwn = s1'.map Ent.isOwn) (h : Ext s1 ρ w s1' ρ' w') : Ext s ρ w s' ρ' w' := by
  have la : s1.length = s.length := by simpa using congrArg List.length ha
  have lb : s'.length = s1'.length := by simpa using congrArg List.length hb
  have tr : ∀ {a b : Sto}, a.map Ent.isOwn = b.map Ent.isOwn → ∀ (i : Nat) e, a[i]? = some e → ∃ f, b[i]? = some f ∧ f.isOwn = e.isOwn := by
    intro a b h i e he
    have := congrArg (fun l => l[i]?) h
    simp only [List.getElem?_map, he, Option.map_some] at this
    obtain ⟨f, hf, hfo⟩ := Option.map_eq_some_iff.1 this.symm
    exact ⟨f, hf, hfo⟩
  refine ⟨by rw [lb, ← la]; exact h.len, fun i hi => h.same i (by rw [la]; exact hi), fun i e' hi ho => ?_, h.os, h.tape, h.output, h.size, fun b hb' hn => h.block b hb' fun i e hi ho => ?_⟩
  · obtain ⟨f, hf, hfo⟩ := tr hb i e' hi
    rcases h.own i f hf (by rw [hfo]; exact ho) with ⟨j, e, h1, h2, h3⟩ | h3
    · obtain ⟨g, hg, hgo⟩ := tr ha j e h1
      exact .inl ⟨j, g, hg, by rw [hgo]; exact h2, h3⟩
    · exact .inr h3
  · obtain ⟨f, hf, hfo⟩ := tr ha i e hi
    exact hn i f hf (by rw [hfo]; exact ho)
/-- An entry is told otherwise. -/
theorem Rep.swap {s : Sto} {ρ : Rho} {w : World} (h : Rep ρ s w) {i : Nat} {e e' : Ent} (hi : s[i]? = some e) (ho : e'.isOwn = e.isOwn) (hl : e.live = true) (he : RepE ρ w i e') : Rep ρ (s.set i e') w := by
  have hil : i < s.length := (List.getElem?_eq_some_iff.1 hi).1
  have get : ∀ (j : Nat) f, (s.set i e')[j]? = some f → (j = i ∧ f = e') ∨ (j ≠ i ∧ s[j]? = some f) := by
    intro j f hf
    by_cases hj : j = i
    · subst hj
      rw [List.getElem?_set_self hil] at hf
      exact .inl ⟨rfl, (Option.some.inj hf).symm⟩
    · rw [List.getElem?_set_ne (by omega)] at hf
      exact .inr ⟨hj, hf⟩
  have old : ∀ (j : Nat) f, (s.set i e')[j]? = some f → ∃ g, s[j]? = some g ∧ (f.isOwn = true → g.isOwn = true) ∧ (f.live = true → g.live = true) := by
    intro j f hf
    rcases get j f hf with ⟨rfl, rfl⟩ | ⟨_, h2⟩
    · exact ⟨e, hi, fun x => by rw [← ho]; exact x, fun _ => hl⟩
    · exact ⟨f, h2, id, id⟩
  refine ⟨fun j f hf => ?_, fun j k f g hf hg hfo hgl hjk => ?_⟩
  · rcases get j f hf with ⟨rfl, rfl⟩ | ⟨_, h2⟩
    · exact he
    · exact h.ent j f h2
  · obtain ⟨f', a1, a2, _⟩ := old j f hf
    obtain ⟨g', b1, _, b2⟩ := old k g hg
    exact h.sep j k f' g' a1 b1 (a2 hfo) (b2 hgl) hjk
theorem map_set_own {s : Sto} {i : Nat} {e e' : Ent} (hi : s[i]? = some e) (ho : e'.isOwn = e.isOwn) : (s.set i e').map Ent.isOwn = s.map Ent.isOwn := by
  apply List.ext_getElem?
  intro j
  simp only [List.getElem?_map]
  by_cases hj : j = i
  · subst hj
    rw [List.getElem?_set_self (List.getElem?_eq_some_iff.1 hi).1, hi]
    simp [ho]
  · rw [List.getElem?_set_ne (by omega)]
theorem flatE_own (m : AM) (cs : List Value) (t : TypeId) (z : Nat) : (flatE m cs t z).isOwn = m.isOwn ∧ (flatE m cs t z).live = true := by cases m <;> exact ⟨rfl, rfl⟩
theorem arr_own (m : AM) (cols : List Col) (n : Nat) (t : TypeId) : (Ent.arr m cols n t).isOwn = m.isOwn := by cases m <;> rfl
/-- An array opened. -/
theorem open_arr {s : Sto} {ρ : Rho} {w : World} (h : Rep ρ s w) (hs : sbd s) {i : Nat} {m : AM} {cols : List Col} {n : Nat} {t : TypeId} (hi : s[i]? = some (.arr m cols n t)) :
    ∃ cs : List Value, cs.length = n * cols.length ∧ (∀ v ∈ cs, v.oneCell' = true) ∧ holdsA cols n cs ∧ Rep ρ (s.set i (flatE m cs t cols.length)) w ∧ sbd (s.set i (flatE m cs t cols.length)) ∧
      (s.set i (flatE m cs t cols.length))[i]? = some (flatE m cs t cols.length) ∧ (s.set i (flatE m cs t cols.length)).map Ent.isOwn = s.map Ent.isOwn := by
  obtain ⟨cs, h1, h2, h3, h4⟩ := repE_arr.1 (h.ent i _ hi)
  have hil : i < s.length := (List.getElem?_eq_some_iff.1 hi).1
  have ho := flatE_own m cs t cols.length
  refine ⟨cs, h1, h2, h3, h.swap hi (by rw [arr_own, ho.1]) rfl h4, ?_, List.getElem?_set_self hil, map_set_own hi (by rw [arr_own, ho.1])⟩
  intro j f hf
  rw [List.length_set]
  by_cases hj : j = i
  · subst hj
    rw [List.getElem?_set_self hil] at hf
    obtain rfl := Option.some.inj hf
    have := hs j _ hi
    cases m with
    | ro => exact bdL_raw _ _
    | own => exact bdL_raw _ _
    | grow k => exact ⟨bdL_raw _ _, this⟩
  · rw [List.getElem?_set_ne (by omega)] at hf
    exact hs j f hf
theorem rdC_at {cols : List Col} {k c : Nat} {v : V} (h : rdC cols k c = some v) : ∃ col u, cols[c]? = some col ∧ col.at k = some u ∧ v = .raw u := by
  unfold rdC at h
  split at h
  · rename_i hc; cases h; exact ⟨_, _, hc, rfl, rfl⟩
  · rename_i hc; cases h; exact ⟨_, _, hc, rfl, rfl⟩
  · rename_i hc; cases h; exact ⟨_, _, hc, rfl, rfl⟩
  · cases h
theorem rdCs_take {cols : List Col} {n : Nat} {cs : List Value} (hl : cs.length = n * cols.length) (hh : holdsA cols n cs) {k : Nat} (hk : k < n) : ∀ {m c : Nat} {vs : List V}, rdCs cols k m c = some vs → c + m ≤ cols.length → ((cs.map V.raw).drop (k * cols.length + c)).take m = vs := by
  intro m
  induction m with
  | zero => intro c vs h _; simp only [rdCs, Option.some.injEq] at h; subst h; simp
  | succ m ih =>
    intro c vs h hc
    simp only [rdCs] at h
    split at h
    · rename_i v vs' h1 h2
      cases h
      obtain ⟨col, u, g1, g2, rfl⟩ := rdC_at h1
      have hu := hh k c col u hk g1 g2
      have hlt : k * cols.length + c < (cs.map V.raw).length := by
        rw [List.length_map]
        exact (List.getElem?_eq_some_iff.1 hu).1
      rw [List.drop_eq_getElem_cons hlt, List.take_succ_cons]
      have e1 : (cs.map V.raw)[k * cols.length + c] = V.raw u := by
        have : (cs.map V.raw)[k * cols.length + c]? = some (V.raw u) := by rw [List.getElem?_map, hu]; rfl
        exact (List.getElem?_eq_some_iff.1 this).2
      rw [e1, Nat.add_assoc, ih h2 (by omega)]
    · cases h
section
variable {P : Program} {ρ : Rho} {w : World} {R : Type} {no : R} {T : R → Prop} (hno : ¬ T no)
include hno
/-- A load from an array. -/
theorem loadE_sound {s : Sto} (hr : Rep ρ s w) (hs : sbd s) {t : TypeId} {i z k f : Nat} {K : V → R} (h : T (vLoadE no P t s i z k f K)) :
    ∃ v, (loadVar t ⟨(ρ i).1, (ρ i).2 + (k * z + f), none⟩).run P w = .ok (v.abs ρ) w ∧ v.bd s.length ∧ T (K v) := by
  unfold vLoadE at h
  split at h
  case h_2 => exact (hno h).elim
  rename_i m cols n e hi
  split at h
  case h_2 => exact (hno h).elim
  rename_i hz
  have hz := Nat.eq_of_beq_eq_true hz
  subst hz
  rcases Br.out h with ⟨hk, h⟩ | ⟨_, h⟩
  case inr => exact (hno h).elim
  have hk : k < n := by simpa [Nat.blt_eq] using hk
  obtain ⟨d, hd, h⟩ := Wi.out hno h
  obtain ⟨cs, h1, h2, h3, h4, h5, h6, h7⟩ := open_arr hr hs hi
  have hc : ∃ q, (flatE m cs e cols.length).cells = some q ∧ q = cs.map V.raw := by cases m <;> exact ⟨_, rfl, rfl⟩
  obtain ⟨_, hc, rfl⟩ := hc
  have key : ∀ v, vLoad P t (s.set i (flatE m cs e cols.length)) i (k * cols.length + f) = some v → (loadVar t ⟨(ρ i).1, (ρ i).2 + (k * cols.length + f), none⟩).run P w = .ok (v.abs ρ) w ∧ v.bd s.length := by
    intro v hv
    have := bd_load h5 hv
    rw [List.length_set] at this
    exact ⟨run_load' h4 hv, this⟩
  have hbound : (k + 1) * cols.length ≤ n * cols.length := Nat.mul_le_mul_right _ hk
  rw [Nat.add_mul, Nat.one_mul] at hbound
  cases hag : aggD d with
  | true =>
    rw [hag] at h
    obtain ⟨inf, hinf, h⟩ := Wi.out hno h
    split at h
    case h_2 => exact (hno h).elim
    rename_i hle
    have hle := Nat.le_of_ble_eq_true hle
    obtain ⟨vs, hvs, h⟩ := Wi.out hno h
    refine ⟨.agg vs, (key _ ?_).1, (key (.agg vs) ?_).2, h⟩ <;>
    · simp only [vLoad, h6, hc, hd, hag, hinf, List.length_map, h1]
      rw [Nat.ble_eq_true_of_le (by omega), rdCs_take h1 h3 hk hvs hle]
  | false =>
    rw [hag] at h
    replace h : T (match Nat.blt f cols.length with | true => Wi no (rdC cols k f) K | false => no) := h
    split at h
    case h_2 => exact (hno h).elim
    rename_i hf
    have hf : f < cols.length := by simpa [Nat.blt_eq] using hf
    obtain ⟨v, hv, h⟩ := Wi.out hno h
    obtain ⟨col, u, g1, g2, rfl⟩ := rdC_at hv
    refine ⟨.raw u, (key _ ?_).1, (key (.raw u) ?_).2, h⟩ <;>
    · simp only [vLoad, h6, hc, hd, hag]
      rw [List.getElem?_map, h3 k f col u hk g1 g2]
      rfl
omit hno in
theorem setR_raw {o : Nat} : ∀ {vs : List V} {cs : List Value}, absL ρ (setR (cs.map V.raw) o vs) = ((absL ρ vs).zipIdx o).foldl (fun l p => l.set p.2 p.1) cs := by
  intro vs
  induction vs generalizing o with
  | nil => intro cs; simp [setR, absL, absL_raws]
  | cons v vs ih =>
    intro cs
    simp only [setR, absL, List.zipIdx_cons, List.foldl_cons]
    have : (cs.map V.raw).set o v = (cs.map V.raw).set o v := rfl
    rw [← ih (o := o + 1) (cs := cs.set o (v.abs ρ))]
    have e : ∀ (vs : List V) (a b : List V) (o : Nat), absL ρ a = absL ρ b → absL ρ (setR a o vs) = absL ρ (setR b o vs) := by
      intro vs
      induction vs with
      | nil => intro a b o h; exact h
      | cons v vs ih =>
        intro a b o h
        simp only [setR]
        refine ih _ _ _ ?_
        simp only [absL_map, List.map_set] at h ⊢
        rw [h]
    refine e _ _ _ _ ?_
    simp only [absL_map, List.map_set, List.map_map]
    rfl
omit hno in
theorem upC_at {col col' : Col} {k : Nat} {v : V} (h : upC col k v = some col') (j : Nat) {u : Value} (hu : col'.at j = some u) : (j = k ∧ u = v.abs ρ) ∨ (j ≠ k ∧ col.at j = some u) := by
  unfold upC at h
  split at h
  · split at h
    · rename_i hk
      obtain rfl := kindEq_eq hk
      cases h
      simp only [Col.at, Option.some.injEq] at hu
      by_cases hj : j = k
      · subst hj; simp [Nat.beq_refl] at hu; subst hu; exact .inl ⟨rfl, rfl⟩
      · have : Nat.beq j k = false := by cases hb : Nat.beq j k with
          | false => rfl
          | true => exact absurd (Nat.eq_of_beq_eq_true hb) hj
        rw [this] at hu
        exact .inr ⟨hj, by rw [← hu]; rfl⟩
    · cases h
  · cases h
    simp only [Col.at, Option.some.injEq] at hu
    by_cases hj : j = k
    · subst hj; simp [Nat.beq_refl] at hu; subst hu; exact .inl ⟨rfl, rfl⟩
    · have : Nat.beq j k = false := by cases hb : Nat.beq j k with
        | false => rfl
        | true => exact absurd (Nat.eq_of_beq_eq_true hb) hj
      rw [this] at hu
      exact .inr ⟨hj, by rw [← hu]; rfl⟩
  · cases h
    simp only [Col.at, Option.some.injEq] at hu
    by_cases hj : j = k
    · subst hj; simp [Nat.beq_refl] at hu; subst hu; exact .inl ⟨rfl, rfl⟩
    · have : Nat.beq j k = false := by cases hb : Nat.beq j k with
        | false => rfl
        | true => exact absurd (Nat.eq_of_beq_eq_true hb) hj
      rw [this] at hu
      exact .inr ⟨hj, by rw [← hu]; rfl⟩
  · cases h; cases hu
  · cases h
omit hno in
theorem flat_inj {z : Nat} {k f j c : Nat} (hf : f < z) (hc : c < z) (h : k * z + f = j * z + c) : k = j ∧ f = c := by
  have hz : 0 < z := by omega
  have e1 := congrArg (· / z) h
  simp only [Nat.mul_comm k z, Nat.mul_comm j z, Nat.mul_add_div hz, Nat.div_eq_of_lt hf, Nat.div_eq_of_lt hc] at e1
  have : k = j := by omega
  subst this
  exact ⟨rfl, by omega⟩
omit hno in
theorem upCs_holds {k n : Nat} (hk : k < n) : ∀ {vs : List V} {cols cols' : List Col} {f : Nat} {cs : List Value}, upCs k cols f vs = some cols' → cs.length = n * cols.length → holdsA cols n cs → f + vs.length ≤ cols.length →
    cols'.length = cols.length ∧ holdsA cols' n (((absL ρ vs).zipIdx (k * cols.length + f)).foldl (fun l p => l.set p.2 p.1) cs) := by
  intro vs
  induction vs with
  | nil => intro cols cols' f cs h hl hh _; simp only [upCs, Option.some.injEq] at h; subst h; exact ⟨rfl, by simpa [absL] using hh⟩
  | cons v vs ih =>
    intro cols cols' f cs h hl hh hle
    simp only [List.length_cons] at hle
    simp only [upCs] at h
    split at h
    · rename_i col hc
      split at h
      · rename_i col' hu
        have hset : (cols.set f col').length = cols.length := by simp
        have hfl : f < cols.length := (List.getElem?_eq_some_iff.1 hc).1
        have := ih (cs := cs.set (k * cols.length + f) (v.abs ρ)) h (by rw [List.length_set, hset]; exact hl) (by
          intro j c col2 u hj hc2 hu2
          rw [hset]
          by_cases hcf : c = f
          · subst hcf
            rw [List.getElem?_set_self hfl] at hc2
            obtain rfl := Option.some.inj hc2
            rcases upC_at (ρ := ρ) hu j hu2 with ⟨rfl, rfl⟩ | ⟨hne, hu3⟩
            · have hlt : j * cols.length + c < cs.length := by
                rw [hl]
                have : (j + 1) * cols.length ≤ n * cols.length := Nat.mul_le_mul_right _ hj
                rw [Nat.add_mul, Nat.one_mul] at this
                omega
              rw [List.getElem?_set_self hlt]
            · rw [List.getElem?_set_ne (fun e => hne (flat_inj hfl hfl e).1.symm)]
              exact hh j c col u hj hc hu3
          · rw [List.getElem?_set_ne (fun e => hcf e.symm)] at hc2
            have hcl : c < cols.length := (List.getElem?_eq_some_iff.1 hc2).1
            rw [List.getElem?_set_ne (fun e => hcf (flat_inj hfl hcl e).2.symm)]
            exact hh j c col2 u hj hc2 hu2) (by rw [hset]; omega)
        rw [hset] at this
        refine ⟨this.1, ?_⟩
        simp only [absL, List.zipIdx_cons, List.foldl_cons]
        rw [Nat.add_assoc]
        exact this.2
      · cases h
    · cases h
omit hno in
theorem foldl_set_mem : ∀ (l : List (Value × Nat)) (cs : List Value) (v : Value), v ∈ l.foldl (fun l p => l.set p.2 p.1) cs → v ∈ cs ∨ ∃ p ∈ l, p.1 = v := by
  intro l
  induction l with
  | nil => intro cs v h; exact .inl h
  | cons p l ih =>
    intro cs v h
    rcases ih _ _ h with h | ⟨q, hq, rfl⟩
    · rcases List.mem_or_eq_of_mem_set h with h | rfl
      · exact .inl h
      · exact .inr ⟨p, by simp, rfl⟩
    · exact .inr ⟨q, by simp [hq], rfl⟩
/-- A store into an array. -/
theorem storeE_sound {s : Sto} (hr : Rep ρ s w) (hs : sbd s) {t : TypeId} {i z k f : Nat} {v : V} {K : Sto → R} (hv : v.bd s.length) (h : T (vStoreE no P t s i z k f v K)) :
    ∃ s' w', (storeVar t ⟨(ρ i).1, (ρ i).2 + (k * z + f), none⟩ (v.abs ρ)).run P w = .ok () w' ∧ T (K s') ∧ Rep ρ s' w' ∧ Ext s ρ w s' ρ w' ∧ sbd s' := by
  unfold vStoreE at h
  split at h
  case h_2 => exact (hno h).elim
  rename_i m cols n e hi
  split at h
  case h_2 => exact (hno h).elim
  rename_i hz
  simp only [Bool.and_eq_true] at hz
  obtain ⟨hmo, hz⟩ := hz
  have hz := Nat.eq_of_beq_eq_true hz
  subst hz
  rcases Br.out h with ⟨hk, h⟩ | ⟨_, h⟩
  case inr => exact (hno h).elim
  have hk : k < n := by simpa [Nat.blt_eq] using hk
  obtain ⟨inf, hinf, h⟩ := Wi.out hno h
  split at h
  case h_2 => exact (hno h).elim
  rename_i hb
  obtain ⟨cols', hc, h⟩ := Wi.out hno h
  rw [flA_eq] at h
  have hb' := hb
  simp only [Bool.and_eq_true] at hb
  obtain ⟨⟨hb1, hb2⟩, hb3⟩ := hb
  have hb1 := Nat.eq_of_beq_eq_true hb1
  have hb2 := Nat.le_of_ble_eq_true hb2
  obtain ⟨cs, h1, h2, h3, h4, h5, h6, h7⟩ := open_arr hr hs hi
  have hil : i < s.length := (List.getElem?_eq_some_iff.1 hi).1
  have hbound : (k + 1) * cols.length ≤ n * cols.length := Nat.mul_le_mul_right _ hk
  rw [Nat.add_mul, Nat.one_mul] at hbound
  obtain ⟨g1, g2⟩ := upCs_holds (ρ := ρ) hk hc h1 h3 (by omega)
  have hcond : (Nat.beq v.cells.length inf.size && Nat.ble (k * cols.length + f + inf.size) (cs.map V.raw).length && v.cells.all V.one) = true := by
    rw [List.length_map, h1, hb1, hb3, Nat.ble_eq_true_of_le (by omega)]
    simp [Nat.beq_refl]
  have hones : ∀ u ∈ absL ρ (setR (cs.map V.raw) (k * cols.length + f) v.cells), u.oneCell' = true := by
    intro u hu
    rw [setR_raw] at hu
    rcases foldl_set_mem _ _ _ hu with hu | ⟨p, hp, rfl⟩
    · exact h2 u hu
    · have := List.mem_zipIdx hp
      have hm : p.1 ∈ absL ρ v.cells := by
        obtain ⟨a1, a2, a3⟩ := this
        rw [a3]; exact List.getElem_mem _
      rw [absL_map] at hm
      obtain ⟨x, hx, hxe⟩ := List.mem_map.1 hm
      rw [← hxe]
      exact abs_one ρ (List.all_eq_true.1 hb3 x hx)
  have hlen : (absL ρ (setR (cs.map V.raw) (k * cols.length + f) v.cells)).length = n * cols'.length := by
    rw [absL_length, setR_length, List.length_map, h1, g1]
  have fin : ∀ (E E' : Ent), s.set i E = s.set i (flatE m cs e cols.length) → (∀ w', RepE ρ w' i E' → RepE ρ w' i (flatE m (absL ρ (setR (cs.map V.raw) (k * cols.length + f) v.cells)) e cols'.length)) → E'.isOwn = true → vStore P t (s.set i (flatE m cs e cols.length)) i (k * cols.length + f) v = some ((s.set i (flatE m cs e cols.length)).set i E') →
      ∃ s' w', (storeVar t ⟨(ρ i).1, (ρ i).2 + (k * cols.length + f), none⟩ (v.abs ρ)).run P w = .ok () w' ∧ T (K s') ∧ Rep ρ s' w' ∧ Ext s ρ w s' ρ w' ∧ sbd s' := by
    intro E E' _ hE' ho hst
    obtain ⟨w', r1, r2, r3, r4⟩ := run_store' (P := P) h4 h5 (by rw [List.length_set]; exact hv) hst
    rw [List.set_set] at r2 r3 r4
    have hset : (s.set i E')[i]? = some E' := List.getElem?_set_self hil
    have howna : (Ent.arr m cols' n e).isOwn = true := by rw [arr_own]; exact hmo
    have r5 := r2.swap (e' := .arr m cols' n e) hset (by rw [howna, ho]) (Ent.own_live ho) (repE_arr.2 ⟨_, hlen, hones, by rw [setR_raw]; exact g2, hE' w' (r2.ent i _ hset)⟩)
    rw [List.set_set] at r5
    refine ⟨_, w', r1, h, r5, r3.conv h7 (by
      rw [map_set_own (s := s) hi (by rw [howna, arr_own, hmo]), map_set_own (s := s) hi (by rw [ho, arr_own, hmo])]), ?_⟩
    intro j g hg
    rw [List.length_set]
    by_cases hj : j = i
    · subst hj
      rw [List.getElem?_set_self hil] at hg
      obtain rfl := Option.some.inj hg
      have := hs j _ hi
      cases m <;> exact this
    · rw [List.getElem?_set_ne (by omega)] at hg
      exact hs j g hg
  cases m with
  | ro => cases hmo
  | own =>
    refine fin _ (.own (setR (cs.map V.raw) (k * cols.length + f) v.cells) e) rfl (fun w' hw => ?_) rfl ?_
    · exact ⟨by rw [absL_raws]; exact hw.1, hw.2⟩
    · simp only [flatE] at h6 ⊢
      simp only [vStore, h6, hinf, hcond, flA_eq]
  | grow q =>
    refine fin _ (.lst (setR (cs.map V.raw) (k * cols.length + f) v.cells) e q cols.length) rfl (fun w' hw => ?_) rfl ?_
    · obtain ⟨rest, q1, q2, q3⟩ := hw
      refine ⟨rest, by rw [absL_raws]; exact q1, q2, ?_⟩
      rw [List.length_map, absL_length, g1]
      exact q3
    · simp only [flatE] at h6 ⊢
      simp only [vStore, h6, hinf, hcond, flA_eq]
end
section
variable {ρ : Rho}
theorem vZeros_flat {z : List V} {cols : List Col} (h : colsOf z = some cols) : cols.length = z.length ∧ ∀ (c : Nat) col j u, cols[c]? = some col → col.at j = some u → z[c]? = some (.raw u) := by
  induction z generalizing cols with
  | nil => simp only [colsOf, Option.some.injEq] at h; subst h; exact ⟨rfl, fun c col j u hc => by simp at hc⟩
  | cons v z ih =>
    simp only [colsOf] at h
    split at h
    · rename_i l hl
      obtain ⟨i1, i2⟩ := ih hl
      have key : ∀ c0 : Col, (∀ j u, c0.at j = some u → v = .raw u) → cols = c0 :: l → cols.length = (v :: z).length ∧ ∀ (c : Nat) col j u, cols[c]? = some col → col.at j = some u → (v :: z)[c]? = some (.raw u) := by
        intro c0 hc0 e
        subst e
        refine ⟨by simp [i1], fun c col j u hc hu => ?_⟩
        cases c with
        | zero => simp at hc; subst hc; simp [hc0 j u hu]
        | succ c => exact i2 c col j u (by simpa using hc) hu
      split at h
      · cases h; exact key _ (fun j u hu => by simp only [Col.at, Option.some.injEq] at hu; rw [hu]) rfl
      · cases h; exact key _ (fun j u hu => by simp only [Col.at, Option.some.injEq] at hu; rw [hu]) rfl
      · cases h; exact key _ (fun j u hu => by simp only [Col.at, Option.some.injEq] at hu; rw [hu]) rfl
      · cases h
    · cases h
end
end Go.Proofs.YtpahclogghdnpaaDoorRL
