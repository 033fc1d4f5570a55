/- Parts of the proof, one behind the other. -/
import Derived.Test.YtalgegmcllcnmaazLabJumpsRL6
import Derived.Deep.AppendSrc
import Derived.Laws.AppendOwn
section
/- RL, between the sixth and the seventh text: append. -/
namespace Go.Proofs.YtalgegmcllcnmaaRL
open Go
set_option linter.unusedVariables false
set_option linter.unusedSimpArgs false
/-- A row's cells, and how many elements: what append puts behind, or takes along. -/
def vCellsAt (s : Sto) (z i o n : Nat) : Option (List V) :=
  match n with
  | 0 => some []
  | _ => match s[i]? with
    | some e => match e.cells with
      | some cs => match Nat.ble (o + n * z) cs.length && ((cs.drop o).take (n * z)).all V.one with
        | true => some ((cs.drop o).take (n * z))
        | false => none
      | none => none
    | none => none
def vSrc (s : Sto) (d : TypeDesc) (z : Nat) (x : V) : Option (Nat × List V) :=
  match d, x with
  | .slice _, .sl i o n _ | .slice _, .lst i _ o _ n => match vCellsAt s z i o n with
    | some cs => some (n, cs)
    | none => none
  | .slice _, .raw (.slice _ 0 _) => some (0, [])
  | .string, .raw (.string y) => match z with
    | 1 => some (y.size, y.data.toList.map fun b => .raw (.int .u8 b.toNat))
    | _ => none
  | _, _ => none
def growOk (need bytes : Nat) : Bool := Nat.ble (need * bytes) 140737488355328 && Nat.ble need 140737488355328
def vAppendTo {R : Type} (no : R) (s : Sto) (elem : TypeId) (z bytes : Nat) (sv : V) (n : Nat) (new : List V) (K : Kt R) : R :=
  match sv with
  | .sl i o len cap => match Nat.ble (len + n) cap with
    | true => match n with
      | 0 => K (.sl i o len cap) s
      | _ => match s[i]? with
        | some (.own cs e) => match Nat.ble (o + len * z + n * z) cs.length with
          | true => K (.sl i o (len + n) cap) (s.set i (.own (setR cs (o + len * z) new) e))
          | false => no
        | _ => no
    | false => match growOk (len + n) bytes with
      | true => Wi no (vCellsAt s z i o len) fun old => K (.lst (s.length + 1) s.length 0 0 (len + n)) (s ++ [.no] ++ [.lst (old ++ new) elem s.length z])
      | false => no
  | .raw (.slice none 0 0) => match n with
    | 0 => K (.raw (.slice none 0 0)) s
    | _ => match growOk n bytes with
      | true => K (.lst (s.length + 1) s.length 0 0 n) (s ++ [.no] ++ [.lst new elem s.length z])
      | false => no
  | .lst i k o e len => match lstFits s i k (e + len) with
    | false => no
    | true => match n with
      | 0 => K (.lst i k o e len) s
      | _ => match s[i]? with
        | some (.lst cs el k' z') => match Nat.beq z z' && Nat.beq el elem with
          | true => match Nat.ble (o + len * z + n * z) cs.length && lstFits s i k (e + len + n) with
            | true => K (.lst i k o e (len + n)) (s.set i (.lst (setR cs (o + len * z) new) el k' z'))
            | false => match o, e with
              | 0, 0 => match growOk (len + n) bytes && (Nat.ble (len * z) cs.length && (cs.take (len * z)).all V.one) with
                | true => K (.lst (s.length + 1) s.length 0 0 (len + n)) (s.set i .no ++ [.no] ++ [.lst (cs.take (len * z) ++ new) elem s.length z])
                | false => no
              | _, _ => no
          | false => no
        | _ => no
  | _ => no
section
variable {P : Program} {ρ : Rho} {w : World}
theorem Rep.drew {s : Sto} (h : Rep ρ s w) : Rep ρ s w.drew := ⟨h.ent, h.sep⟩
theorem Ext.drew {s s' : Sto} {ρ' : Rho} {w' : World} (h : Ext s ρ w.drew s' ρ' w') : Ext s ρ w s' ρ' w' := ⟨h.len, h.same, h.own, h.os, h.tape, h.output, h.size, h.block⟩
/-- A number is kept behind the store. -/
theorem Rep.keep {s : Sto} (h : Rep ρ s w) (hs : sbd s) (c : Nat) : Rep (ρ.push s.length c) (s ++ [.no]) w ∧ Ext s ρ w (s ++ [.no]) (ρ.push s.length c) w ∧ sbd (s ++ [.no]) := by
  have hρ : ∀ j, j < s.length → (ρ.push s.length c) j = ρ j := fun j hj => Rho.push_lt hj
  have get : ∀ (i : Nat) e, (s ++ [Ent.no])[i]? = some e → e = .no ∨ (i < s.length ∧ s[i]? = some e) := by
    intro i e he
    by_cases hi : i < s.length
    · rw [List.getElem?_append_left hi] at he; exact .inr ⟨hi, he⟩
    · rw [List.getElem?_append_right (by omega)] at he
      cases hx : i - s.length with
      | zero => rw [hx] at he; simp at he; exact .inl he.symm
      | succ m => rw [hx] at he; simp at he
  refine ⟨⟨fun i e he => ?_, fun i j e f he hf ho hl hij => ?_⟩, ⟨by simp, hρ, fun i e he ho => ?_, rfl, rfl, rfl, Nat.le_refl _, fun _ _ _ => rfl⟩, fun i e he => ?_⟩
  · rcases get i e he with rfl | ⟨h1, h2⟩
    · trivial
    · exact RepE.congr hρ h1 (hs i e h2) rfl (Nat.le_refl _) (h.ent i e h2)
  · rcases get i e he with rfl | ⟨h1, h2⟩
    · cases ho
    rcases get j f hf with rfl | ⟨k1, k2⟩
    · cases hl
    rw [hρ i h1, hρ j k1]
    exact h.sep i j e f h2 k2 ho hl hij
  · rcases get i e he with rfl | ⟨h1, h2⟩
    · cases ho
    exact .inl ⟨i, e, h2, ho, by rw [hρ i h1]⟩
  · rcases get i e he with rfl | ⟨h1, h2⟩
    · trivial
    have := hs i e h2
    have hle : s.length ≤ (s ++ [Ent.no]).length := by simp
    exact Ent.bd_mono' hle e this
/-- A block is not known any more. -/
theorem Rep.forget {s : Sto} (h : Rep ρ s w) (hs : sbd s) (i : Nat) : Rep ρ (s.set i .no) w ∧ Ext s ρ w (s.set i .no) ρ w ∧ sbd (s.set i .no) := by
  have get : ∀ (j : Nat) e, (s.set i Ent.no)[j]? = some e → e = .no ∨ (j ≠ i ∧ s[j]? = some e) := by
    intro j e he
    by_cases hj : j = i
    · subst hj
      have hlt := (List.getElem?_eq_some_iff.1 he).1
      rw [List.getElem?_set_self (by simpa using hlt)] at he
      exact .inl (Option.some.inj he).symm
    · rw [List.getElem?_set_ne (by omega)] at he; exact .inr ⟨hj, he⟩
  refine ⟨⟨fun j e he => ?_, fun j k e f he hf ho hl hij => ?_⟩, ⟨by simp, fun _ _ => rfl, fun j e he ho => ?_, rfl, rfl, rfl, Nat.le_refl _, fun _ _ _ => rfl⟩, fun j e he => ?_⟩
  · rcases get j e he with rfl | ⟨_, h2⟩
    · trivial
    · exact h.ent j e h2
  · rcases get j e he with rfl | ⟨_, h2⟩
    · cases ho
    rcases get k f hf with rfl | ⟨_, k2⟩
    · cases hl
    exact h.sep j k e f h2 k2 ho hl hij
  · rcases get j e he with rfl | ⟨_, h2⟩
    · cases ho
    exact .inl ⟨j, e, h2, ho, rfl⟩
  · rcases get j e he with rfl | ⟨_, h2⟩
    · trivial
    rw [List.length_set]; exact hs j e h2
/-- A block of its own goes on under another number. -/
theorem Rep.regrow {s : Sto} (h : Rep ρ s w) (hs : sbd s) {i c : Nat} {e e' : Ent} {w' : World} (hi : s[i]? = some e) (hown : e.isOwn = true) (hown' : e'.isOwn = true) (he : e'.bd (s.length + 2))
    (hrep : RepE ((ρ.push s.length c).push (s.length + 1) (ρ i).1) w' (s.length + 1) e') (hsz : w'.heap.size = w.heap.size) (hos : w'.os = w.os) (htape : w'.tape = w.tape) (hout : w'.output = w.output) (hblk : ∀ b, b ≠ (ρ i).1 → w'.heap[b]? = w.heap[b]?) :
    Rep ((ρ.push s.length c).push (s.length + 1) (ρ i).1) (s.set i .no ++ [.no] ++ [e']) w' ∧ Ext s ρ w (s.set i .no ++ [.no] ++ [e']) ((ρ.push s.length c).push (s.length + 1) (ρ i).1) w' ∧ sbd (s.set i .no ++ [.no] ++ [e']) := by
  have hρ : ∀ j, j < s.length → ((ρ.push s.length c).push (s.length + 1) (ρ i).1) j = ρ j := fun j hj => by rw [Rho.push_lt (by omega), Rho.push_lt hj]
  have hlast : (((ρ.push s.length c).push (s.length + 1) (ρ i).1) (s.length + 1)) = ((ρ i).1, 0) := Rho.push_at
  have get : ∀ (j : Nat) f, (s.set i Ent.no ++ [Ent.no] ++ [e'])[j]? = some f → f = .no ∨ (j < s.length ∧ j ≠ i ∧ s[j]? = some f) ∨ (j = s.length + 1 ∧ f = e') := by
    intro j f hf
    by_cases hj : j < s.length
    · rw [List.append_assoc, List.getElem?_append_left (by simpa using hj)] at hf
      by_cases hji : j = i
      · subst hji
        rw [List.getElem?_set_self hj] at hf
        exact .inl (Option.some.inj hf).symm
      · rw [List.getElem?_set_ne (by omega)] at hf; exact .inr (.inl ⟨hj, hji, hf⟩)
    · rw [List.append_assoc, List.getElem?_append_right (by simp; omega)] at hf
      simp only [List.length_set, List.cons_append, List.nil_append] at hf
      match hx : j - s.length, hf with
      | 0, hf => simp at hf; exact .inl hf.symm
      | 1, hf => simp at hf; exact .inr (.inr ⟨by omega, hf.symm⟩)
      | m + 2, hf => simp at hf
  have hlen : (s.set i Ent.no ++ [Ent.no] ++ [e']).length = s.length + 2 := by simp
  have live : ∀ (j : Nat) f, s[j]? = some f → j ≠ i → f.live = true → (ρ j).1 ≠ (ρ i).1 := fun j f hj hji hl hh => h.sep i j e f hi hj hown hl (fun x => hji x.symm) hh.symm
  have hib : (ρ i).1 < w.heap.size := (h.ent i e hi).lt (Ent.own_live hown)
  refine ⟨⟨fun j f hf => ?_, fun j k f g hf hg ho hl hij => ?_⟩, ⟨by rw [hlen]; omega, hρ, fun j f hf ho => ?_, hos, htape, hout, by omega, fun b hb hn => ?_⟩, fun j f hf => ?_⟩
  · rcases get j f hf with rfl | ⟨h1, h2, h3⟩ | ⟨rfl, rfl⟩
    · trivial
    · cases hlv : f.live with
      | true => exact RepE.congr hρ h1 (hs j f h3) (hblk _ (live j f h3 h2 hlv)) (by omega) (h.ent j f h3)
      | false => cases f <;> simp_all [Ent.live, RepE]
    · exact hrep
  · rcases get j f hf with rfl | ⟨h1, h2, h3⟩ | ⟨rfl, rfl⟩
    · cases ho
    · rcases get k g hg with rfl | ⟨k1, k2, k3⟩ | ⟨rfl, rfl⟩
      · cases hl
      · rw [hρ j h1, hρ k k1]; exact h.sep j k f g h3 k3 ho hl hij
      · rw [hρ j h1, hlast]; exact live j f h3 h2 (Ent.own_live ho)
    · rcases get k g hg with rfl | ⟨k1, k2, k3⟩ | ⟨rfl, rfl⟩
      · cases hl
      · rw [hρ k k1, hlast]; exact fun hh => live k g k3 k2 hl hh.symm
      · exact absurd rfl hij
  · rcases get j f hf with rfl | ⟨h1, h2, h3⟩ | ⟨rfl, rfl⟩
    · cases ho
    · exact .inl ⟨j, f, h3, ho, by rw [hρ j h1]⟩
    · exact .inl ⟨i, e, hi, hown, by rw [hlast]⟩
  · exact hblk b fun hh => hn i e hi hown hh.symm
  · rw [hlen]
    rcases get j f hf with rfl | ⟨h1, h2, h3⟩ | ⟨rfl, rfl⟩
    · trivial
    · have := hs j f h3
      have hle : s.length ≤ s.length + 2 := by omega
      exact Ent.bd_mono' hle f this
    · exact he
theorem setCells_rep {e : TypeId} (b : Nat) : ∀ (vs cs : List V) (o : Nat) (w : World), o + vs.length ≤ cs.length → w.heap[b]? = some (.cells (absL ρ cs).toArray e (0, 0)) →
    (w.setCells b o (absL ρ vs)).heap[b]? = some (.cells (absL ρ (setR cs o vs)).toArray e (0, 0)) ∧ (w.setCells b o (absL ρ vs)).heap.size = w.heap.size ∧ (w.setCells b o (absL ρ vs)).os = w.os ∧ (w.setCells b o (absL ρ vs)).tape = w.tape ∧ (w.setCells b o (absL ρ vs)).output = w.output ∧ ∀ c, c ≠ b → (w.setCells b o (absL ρ vs)).heap[c]? = w.heap[c]? := by
  intro vs
  induction vs with
  | nil => intro cs o w _ h; exact ⟨h, rfl, rfl, rfl, rfl, fun _ _ => rfl⟩
  | cons v vs ih =>
    intro cs o w hl h
    simp only [List.length_cons] at hl
    have hheap : (w.setCell ⟨b, o, none⟩ (v.abs ρ)).heap[b]? = some (.cells (absL ρ (cs.set o v)).toArray e (0, 0)) := by
      simp [World.setCell, Array.getElem?_modify, h, absL_map, List.map_set]
    obtain ⟨h1, h2, h3, h4, h5, h6⟩ := ih (cs.set o v) (o + 1) _ (by simp; omega) hheap
    rw [World.size_setCell] at h2
    refine ⟨h1, h2, h3, h4, h5, fun c hc => ?_⟩
    rw [← Go.RowKit.Below.heap_setCell w ⟨b, o, none⟩ (v.abs ρ) c hc]
    exact h6 c hc
theorem cellsAt_sound {s : Sto} (hr : Rep ρ s w) (hs : sbd s) {z i o n : Nat} {cs : List V} (h : vCellsAt s z i o n = some cs) :
    cs.length = n * z ∧ (∀ j v, (absL ρ cs)[j]? = some v → w.cell? ((⟨(ρ i).1, (ρ i).2 + o, none⟩ : Addr).add j) = some v) ∧ cs.all V.one = true ∧ bdL s.length cs := by
  unfold vCellsAt at h
  split at h
  · simp only [Option.some.injEq] at h
    subst h
    exact ⟨by simp, fun j v hv => by simp [absL] at hv, rfl, trivial⟩
  · split at h
    · rename_i e hi
      split at h
      · rename_i cs' hc
        split at h
        · rename_i hb
          simp only [Option.some.injEq] at h
          subst h
          simp only [Bool.and_eq_true] at hb
          have hle := Nat.le_of_ble_eq_true hb.1
          refine ⟨by rw [List.length_take, List.length_drop]; omega, fun j v hv => ?_, hb.2, ?_⟩
          · rw [absL_get] at hv
            obtain ⟨u, hu, rfl⟩ := Option.map_eq_some_iff.1 hv
            rw [List.getElem?_take] at hu
            split at hu
            · rw [List.getElem?_drop] at hu
              have := rep_cell hr hi hc hu
              rw [Addr.add_lit]
              simpa [Nat.add_assoc] using this
            · cases hu
          · have hbd : bdL s.length cs' := by
              have := hs i e hi
              cases e with
              | own c t => simp only [Ent.cells, Option.some.injEq] at hc; subst hc; exact this
              | ro c => simp only [Ent.cells, Option.some.injEq] at hc; subst hc; exact this
              | lst c t k z => simp only [Ent.cells, Option.some.injEq] at hc; subst hc; exact this.1
              | map => simp [Ent.cells] at hc
              | lp => simp [Ent.cells] at hc
              | arr => simp [Ent.cells] at hc
              | no => simp [Ent.cells] at hc
            exact bdL_iff.2 fun v hv => bdL_iff.1 hbd v (List.mem_of_mem_drop (List.mem_of_mem_take hv))
        · cases h
      · cases h
    · cases h
theorem one_cells {cs : List V} (h : cs.all V.one = true) : ∀ u ∈ absL ρ cs, u.oneCell' = true := by
  intro u hu
  rw [absL_map] at hu
  obtain ⟨v, hv, rfl⟩ := List.mem_map.1 hu
  exact abs_one ρ (List.all_eq_true.1 h v hv)
theorem src_sound {s : Sto} (hr : Rep ρ s w) (hs : sbd s) {tx : TypeId} {d : TypeDesc} {z : Nat} {x : V} {n : Nat} {cs : List V} (hd : P.underlying tx = some d) (h : vSrc s d z x = some (n, cs)) :
    Src P z tx (x.abs ρ) n (absL ρ cs) w ∧ cs.length = n * z ∧ cs.all V.one = true ∧ bdL s.length cs := by
  unfold vSrc at h
  split at h
  · rename_i el i o n' c
    split at h
    · rename_i cs' hc
      cases h
      obtain ⟨h1, h2, h3, h4⟩ := cellsAt_sound hr hs hc
      exact ⟨Src.ofSlice w hd _ _ _ _ (by rw [absL_length]; exact h1) h2 (one_cells h3), h1, h3, h4⟩
    · cases h
  · rename_i el i k o e n'
    split at h
    · rename_i cs' hc
      cases h
      obtain ⟨h1, h2, h3, h4⟩ := cellsAt_sound hr hs hc
      exact ⟨Src.ofSlice w hd _ _ _ _ (by rw [absL_length]; exact h1) h2 (one_cells h3), h1, h3, h4⟩
    · cases h
  · rename_i p c
    cases h
    cases p with
    | none => exact ⟨Src.ofNil w hd _, by simp, rfl, trivial⟩
    | some a => exact ⟨Src.ofSlice w hd _ _ _ _ (by simp [absL]) (fun j v hj => by simp [absL] at hj) (fun v hv => by simp [absL] at hv), by simp, rfl, trivial⟩
  · rename_i y
    split at h
    · cases h
      have e : absL ρ (y.data.toList.map fun b => V.raw (.int .u8 b.toNat)) = byteCells y := by
        rw [absL_map, List.map_map]; rfl
      rw [e]
      refine ⟨Src.ofString w hd y, ?_, ?_, ?_⟩
      · rw [List.length_map, Array.length_toList, Nat.mul_one]; rfl
      · rw [List.all_map]; exact List.all_eq_true.2 fun _ _ => rfl
      · rw [bdL_iff]; intro v hv; obtain ⟨_, _, rfl⟩ := List.mem_map.1 hv; trivial
    · cases h
  · cases h
theorem zero_info {t : TypeId} {z : List V} {i : TypeInfo} (h : vZero P t = some z) (hi : P.info? t = some i) : ∃ v, i.zero = some v ∧ v.cells.size = z.length := by
  unfold vZero at h
  rw [hi] at h
  simp only at h
  split at h
  · rename_i v hv
    simp only [Option.some.injEq] at h
    subst h
    have := abs_cells (fun _ => (0, 0)) (.raw v)
    simp only [V.abs] at this
    exact ⟨v, hv, by rw [this]; simp [absL_length]⟩
  · cases h
theorem growOk_fits {need old bytes : Nat} (h : growOk need bytes = true) (hlt : old < need) : ((need : Nat) : Int) ≤ 9223372036854775807 ∧ Builtin.nextslicecap need old * bytes ≤ 281474976710656 := by
  unfold growOk at h
  simp only [Bool.and_eq_true] at h
  have h1 := Nat.le_of_ble_eq_true h.1
  have h2 := Nat.le_of_ble_eq_true h.2
  exact ⟨by omega, growslice_fits hlt h1⟩
/-- A new row behind the store, its room kept ahead of it. -/
theorem grow_sound {s : Sto} (hr : Rep ρ s w) (hs : sbd s) {t tx ty elem : TypeId} {inf : TypeInfo} {zl : List V} {dx : TypeDesc} (ht : P.underlying t = some (.slice elem)) (hi : P.info? elem = some inf) (hz : vZero P elem = some zl) (hzl : zl.length = inf.size)
    {base : Option Addr} {len cap : Nat} {old new : List V} {x : Value} {n : Nat} (hold : (Builtin.firstCells inf.size len (.slice base len cap)).run P w.drew = .ok (absL ρ old).toArray w.drew) (hol : old.length = len * inf.size) (hob : bdL s.length old)
    (hsrc : Src P inf.size tx x n (absL ρ new) w) (hnl : new.length = n * inf.size) (hnb : bdL s.length new) (hg : cap < len + n) (hok : growOk (len + n) inf.bytes = true) :
    ∃ ρ' w', (Builtin.append_ #[t, tx] ty #[.slice base len cap, x]).run P w = .ok ((V.lst (s.length + 1) s.length 0 0 (len + n)).abs ρ') w' ∧
      Rep ρ' (s ++ [.no] ++ [.lst (old ++ new) elem s.length inf.size]) w' ∧ Ext s ρ w (s ++ [.no] ++ [.lst (old ++ new) elem s.length inf.size]) ρ' w' ∧ sbd (s ++ [.no] ++ [.lst (old ++ new) elem s.length inf.size]) := by
  obtain ⟨zv, hzv, hzs⟩ := zero_info hz hi
  obtain ⟨h63, hfit⟩ := growOk_fits hok hg
  have hrun := run_append_grow_src (P := P) w t tx ty elem inf zv ht hi hzv base len cap (absL ρ old) hold x n (absL ρ new) hsrc hg h63 hfit
  obtain ⟨k1, k2, k3⟩ := Rep.keep hr.drew hs (grownCap w (len + n) cap elem)
  have hge := grownCap_ge w (len + n) cap elem
  have hρ : ∀ j, j < s.length → (ρ.push s.length (grownCap w (len + n) cap elem)) j = ρ j := fun j hj => Rho.push_lt hj
  have hlen : (s ++ [Ent.no]).length = s.length + 1 := by simp
  have hbd : bdL (s.length + 1) (old ++ new) := bdL_iff.2 fun v hv => V.bd_mono (Nat.le_succ _) v (by
    rcases List.mem_append.1 hv with h | h
    · exact bdL_iff.1 hob v h
    · exact bdL_iff.1 hnb v h)
  have hw : w.drew.heap.size = w.heap.size := rfl
  obtain ⟨r1, r2, r3⟩ := Rep.alloc (e := .lst (old ++ new) elem s.length inf.size)
    (o := .cells ((absL ρ old ++ absL ρ new).toArray ++ Builtin.zeroCells zv.cells (grownCap w (len + n) cap elem - (len + n))) elem) k1 k3 rfl (by rw [hlen]; exact ⟨hbd, Nat.lt_succ_self _⟩) (by
    refine ⟨(Builtin.zeroCells zv.cells (grownCap w (len + n) cap elem - (len + n))).toList, ?_, by rw [Rho.push_at], ?_⟩
    · rw [Rho.push_at]
      have e1 : absL ((ρ.push s.length (grownCap w (len + n) cap elem)).push (s ++ [Ent.no]).length w.drew.heap.size) (old ++ new) = absL ρ old ++ absL ρ new := by
        rw [absL_congr (n := s.length) (ρ := ρ) (fun j hj => by rw [Rho.push_lt (by rw [hlen]; omega), Rho.push_lt hj]) (old ++ new) (bdL_iff.2 fun v hv => by
          rcases List.mem_append.1 hv with h | h
          · exact bdL_iff.1 hob v h
          · exact bdL_iff.1 hnb v h), absL_append]
      rw [e1]
      show (w.drew.heap.push _)[w.drew.heap.size]? = _
      rw [Array.getElem?_push_size]
      congr 2
      apply Array.ext'
      simp
    · rw [Rho.push_lt (by rw [hlen]; omega), Rho.push_at]
      simp only [List.length_append, hol, hnl, Builtin.zeroCells, Array.length_toList, Array.size_map, Array.size_range, hzs, hzl]
      rw [← Nat.add_mul, ← Nat.add_mul]
      congr 1
      omega)
  refine ⟨_, _, ?_, r1, Ext.drew (k2.trans r2), r3⟩
  rw [hrun]
  simp only [V.abs, hlen]
  rw [Rho.push_at, Rho.push_lt (by omega), Rho.push_at]
  rfl
theorem setR_cut : ∀ (vs cs : List V) (o : Nat), o + vs.length ≤ cs.length → setR cs o vs = cs.take o ++ vs ++ cs.drop (o + vs.length) := by
  intro vs
  induction vs with
  | nil => intro cs o _; simp [setR]
  | cons v vs ih =>
    intro cs o h
    simp only [List.length_cons] at h
    simp only [setR]
    rw [ih _ _ (by simp; omega)]
    apply List.ext_getElem?
    intro j
    simp only [List.getElem?_append, List.length_take, List.length_append, List.length_set, List.getElem?_take, List.getElem?_drop, List.length_cons]
    by_cases h1 : j < o
    · rw [if_pos (by omega), if_pos (by omega), if_pos (by omega), if_pos (by omega), if_pos (by omega), if_pos (by omega), List.getElem?_set_ne (by omega)]
    · by_cases h2 : j = o
      · subst h2
        rw [if_pos (by omega), if_pos (by omega), if_pos (by omega), List.getElem?_set_self (by omega), if_pos (by omega), if_neg (by omega)]
        have : j - min j cs.length = 0 := by omega
        rw [this]; rfl
      · by_cases h3 : j < o + 1 + vs.length
        · rw [if_pos (by omega), if_neg (by omega), if_pos (by omega), if_neg (by omega)]
          have : j - min o cs.length = (j - min (o + 1) cs.length) + 1 := by omega
          rw [this, List.getElem?_cons_succ]
        · rw [if_neg (by omega), if_neg (by omega), List.getElem?_set_ne (by omega)]
          congr 1
          omega
/-- In place. -/
theorem room_sound {s : Sto} (hr : Rep ρ s w) (hs : sbd s) {t tx ty elem : TypeId} {inf : TypeInfo} (ht : P.underlying t = some (.slice elem)) (hi : P.info? elem = some inf)
    {i o len cap n : Nat} {full new : List V} {el : TypeId} {x : Value} (hsrc : Src P inf.size tx x n (absL ρ new) w) (hnl : new.length = n * inf.size)
    (hheap : w.heap[(ρ i).1]? = some (.cells (absL ρ full).toArray el (0, 0))) (h0 : (ρ i).2 = 0) (hle : o + len * inf.size + n * inf.size ≤ full.length) (hroom : len + n ≤ cap) :
    ∃ w', (Builtin.append_ #[t, tx] ty #[.slice (some ⟨(ρ i).1, (ρ i).2 + o, none⟩) len cap, x]).run P w = .ok (.slice (some ⟨(ρ i).1, (ρ i).2 + o, none⟩) (len + n) cap) w' ∧
      w'.heap[(ρ i).1]? = some (.cells (absL ρ (setR full (o + len * inf.size) new)).toArray el (0, 0)) ∧ w'.heap.size = w.heap.size ∧ w'.os = w.os ∧ w'.tape = w.tape ∧ w'.output = w.output ∧ ∀ c, c ≠ (ρ i).1 → w'.heap[c]? = w.heap[c]? := by
  have hlen : o + len * inf.size + new.length ≤ full.length := by omega
  have hrun := run_append_room_src (P := P) w t tx ty elem inf ht hi (ρ i).1 ((ρ i).2 + o) len cap x n (absL ρ new) hsrc hroom
    (fun j hj => by
      rw [absL_length] at hj
      simp only [World.cell?, hheap, h0]
      simp [absL_length]
      omega)
    (fun j hj => by simp [World.frozen?, hheap])
  refine ⟨_, hrun, ?_⟩
  have := setCells_rep (ρ := ρ) (e := el) (ρ i).1 new full (o + len * inf.size) w hlen hheap
  rw [h0, Nat.zero_add]
  exact this
theorem appendTo_sound {R : Type} {no : R} {T : R → Prop} (hno : ¬ T no) {s : Sto} {t tx ty elem : TypeId} {sv xv : V} {K : Kt R} {inf : TypeInfo} {zl : List V} {dx : TypeDesc} {n : Nat} {new : List V} (hr : Rep ρ s w) (hs : sbd s) (hsb : sv.bd s.length)
    (ht : P.underlying t = some (.slice elem)) (hi : P.info? elem = some inf) (hz : vZero P elem = some zl) (hzl : zl.length = inf.size) (hsrc : Src P inf.size tx (xv.abs ρ) n (absL ρ new) w) (hnl : new.length = n * inf.size) (hnb : bdL s.length new)
    (hk : T (vAppendTo no s elem inf.size inf.bytes sv n new K)) :
    ∃ v s' ρ' w', (Builtin.append_ #[t, tx] ty #[sv.abs ρ, xv.abs ρ]).run P w = .ok (v.abs ρ') w' ∧ T (K v s') ∧ Rep ρ' s' w' ∧ Ext s ρ w s' ρ' w' ∧ sbd s' ∧ v.bd s'.length := by
  have n0 : n = 0 → new = [] := fun h => List.eq_nil_of_length_eq_zero (by rw [hnl, h, Nat.zero_mul])
  cases sv with
  | sl i o len cap =>
    simp only [vAppendTo] at hk
    split at hk
    · rename_i hcap
      have hcap := Nat.le_of_ble_eq_true hcap
      split at hk
      · have hn := n0 rfl
        subst hn
        have hrun := run_append_room_src (P := P) w t tx ty elem inf ht hi (ρ i).1 ((ρ i).2 + o) len cap (xv.abs ρ) 0 [] hsrc hcap (fun j hj => by simp at hj) (fun j hj => by simp at hj)
        exact ⟨.sl i o len cap, s, ρ, w, hrun, hk, hr, Ext.refl _ _ _, hs, hsb⟩
      · split at hk
        · rename_i cs e hcs
          split at hk
          · rename_i hle
            have hle := Nat.le_of_ble_eq_true hle
            obtain ⟨g1, g2⟩ := hr.ent i _ hcs
            obtain ⟨w', h1, h2, h3, h4, h5, h6, h7⟩ := room_sound (ty := ty) hr hs ht hi hsrc hnl g1 g2 hle hcap
            obtain ⟨r1, r2, r3⟩ := Rep.change (e' := .own (setR cs (o + len * inf.size) new) e) hr hs hcs rfl rfl (bdL_setR hnb (hs i _ hcs)) ⟨h2, g2⟩ h3 h4 h5 h6 h7
            exact ⟨.sl i o (len + n) cap, _, ρ, w', h1, hk, r1, r2, r3, by rw [List.length_set]; exact hsb⟩
          · exact (hno hk).elim
        · exact (hno hk).elim
    · rename_i hcap
      have hcap : cap < len + n := by
        rcases Nat.lt_or_ge cap (len + n) with h | h
        · exact h
        · rw [Nat.ble_eq_true_of_le h] at hcap; cases hcap
      split at hk
      · rename_i hok
        obtain ⟨old, ho, hk⟩ := Wi.out hno hk
        obtain ⟨o1, o2, o3, o4⟩ := cellsAt_sound hr hs ho
        have hold : (Builtin.firstCells inf.size len (.slice (some ⟨(ρ i).1, (ρ i).2 + o, none⟩) len cap)).run P w.drew = .ok (absL ρ old).toArray w.drew :=
          run_firstCells_some w.drew inf.size len _ len cap (absL ρ old) (by rw [absL_length]; exact o1) o2
        obtain ⟨ρ', w', h1, h2, h3, h4⟩ := grow_sound (ty := ty) (dx := dx) hr hs ht hi hz hzl hold o1 o4 hsrc hnl hnb hcap hok
        exact ⟨_, _, ρ', w', h1, hk, h2, h3, h4, by simp [V.bd]⟩
      · exact (hno hk).elim
  | raw v =>
    unfold vAppendTo at hk
    split at hk
    case h_1 h => cases h
    case h_3 h => cases h
    case h_4 => exact (hno hk).elim
    rename_i hv
    cases hv
    split at hk
    · have hn := n0 rfl
      subst hn
      have hrun : (Builtin.append_ #[t, tx] ty #[.slice none 0 0, xv.abs ρ]).run P w = .ok (.slice none 0 0) w := by
        rcases hsrc.kind with ⟨e', hk⟩ | hk <;> simp [Builtin.append_, run_underlying ht, run_underlying hk, sizeOf, typeInfo, hi, hsrc.len, hsrc.cells, absL]
      exact ⟨.raw (.slice none 0 0), s, ρ, w, hrun, hk, hr, Ext.refl _ _ _, hs, hsb⟩
    · rename_i hn
      split at hk
      · rename_i hok
        have hpos : 0 < n := by
          cases n with
          | zero => exact absurd rfl hn
          | succ n => omega
        obtain ⟨ρ', w', h1, h2, h3, h4⟩ := grow_sound (old := []) (ty := ty) (dx := dx) (len := 0) (cap := 0) (base := none) hr hs ht hi hz hzl (run_firstCells_none w.drew inf.size 0 0 0) (by simp) trivial hsrc hnl hnb (by omega) (by rw [Nat.zero_add]; exact hok)
        rw [Nat.zero_add] at h1
        exact ⟨_, _, ρ', w', h1, hk, h2, h3, h4, by simp [V.bd]⟩
      · exact (hno hk).elim
  | lst i k o e len =>
    simp only [vAppendTo] at hk
    split at hk
    · exact (hno hk).elim
    · rename_i hfit
      have hfle := lstFits_le hr hfit
      split at hk
      · have hn := n0 rfl
        subst hn
        have hrun := run_append_room_src (P := P) w t tx ty elem inf ht hi (ρ i).1 ((ρ i).2 + o) len ((ρ k).1 - e) (xv.abs ρ) 0 [] hsrc (by omega) (fun j hj => by simp at hj) (fun j hj => by simp at hj)
        exact ⟨.lst i k o e len, s, ρ, w, hrun, hk, hr, Ext.refl _ _ _, hs, hsb⟩
      · split at hk
        · rename_i hnn cs el k' z' hcs
          split at hk
          · rename_i hze
            simp only [Bool.and_eq_true] at hze
            have hz1 := Nat.eq_of_beq_eq_true hze.1
            have hz2 := Nat.eq_of_beq_eq_true hze.2
            subst hz1
            subst hz2
            obtain ⟨rest, g1, g2, g3⟩ := hr.ent i _ hcs
            have hbd := hs i _ hcs
            have hkk : k = k' ∧ 0 < inf.size := by
              unfold lstFits at hfit
              rw [hcs] at hfit
              simp only [Bool.and_eq_true, Nat.blt_eq] at hfit
              exact ⟨Nat.eq_of_beq_eq_true hfit.1, hfit.2.1⟩
            obtain ⟨rfl, hzp⟩ := hkk
            have g1' : w.heap[(ρ i).1]? = some (.cells (absL ρ (cs ++ rest.map .raw)).toArray el (0, 0)) := by rw [absL_append, absL_raw]; exact g1
            split at hk
            · rename_i hin
              simp only [Bool.and_eq_true] at hin
              have hle := Nat.le_of_ble_eq_true hin.1
              have hroom := lstFits_le hr hin.2
              obtain ⟨w', h1, h2, h3, h4, h5, h6, h7⟩ := room_sound (ty := ty) (o := o) (len := len) (full := cs ++ rest.map .raw) (cap := (ρ k).1 - e) hr hs ht hi hsrc hnl g1' g2 (by rw [List.length_append]; omega) (by omega)
              rw [setR_append (rest.map .raw) new cs (o + len * inf.size) (by omega), absL_append, absL_raw] at h2
              obtain ⟨r1, r2, r3⟩ := Rep.change (e' := .lst (setR cs (o + len * inf.size) new) el k inf.size) hr hs hcs rfl rfl ⟨bdL_setR hnb hbd.1, hbd.2⟩ ⟨rest, h2, g2, by rw [setR_length]; exact g3⟩ h3 h4 h5 h6 h7
              exact ⟨.lst i k o e (len + n), _, ρ, w', h1, hk, r1, r2, r3, by rw [List.length_set]; exact hsb⟩
            · split at hk
              · split at hk
                · rename_i hgo
                  simp only [Bool.and_eq_true] at hgo
                  obtain ⟨hok, hle, ho1⟩ := hgo
                  have hle := Nat.le_of_ble_eq_true hle
                  have hol : (cs.take (len * inf.size)).length = len * inf.size := by rw [List.length_take]; omega
                  have hob : bdL s.length (cs.take (len * inf.size)) := bdL_iff.2 fun v hv => bdL_iff.1 hbd.1 v (List.mem_of_mem_take hv)
                  have hil : i < s.length := (List.getElem?_eq_some_iff.1 hcs).1
                  by_cases hroom : len + n ≤ (ρ k).1
                  · have hfull : 0 + len * inf.size + n * inf.size ≤ (cs ++ rest.map V.raw).length := by
                      rw [List.length_append, List.length_map, g3, Nat.zero_add, ← Nat.add_mul]
                      exact Nat.mul_le_mul_right _ hroom
                    obtain ⟨w', h1, h2, h3, h4, h5, h6, h7⟩ := room_sound (ty := ty) (o := 0) (cap := (ρ k).1 - 0) hr hs ht hi hsrc hnl g1' g2 hfull (by omega)
                    have hcut : ∃ rest' : List Value, absL ρ (setR (cs ++ rest.map V.raw) (0 + len * inf.size) new) = absL ρ (cs.take (len * inf.size) ++ new) ++ rest' ∧ (cs.take (len * inf.size) ++ new).length + rest'.length = (cs ++ rest.map V.raw).length := by
                      refine ⟨absL ρ ((cs ++ rest.map V.raw).drop (len * inf.size + new.length)), ?_, ?_⟩
                      · rw [Nat.zero_add, setR_cut _ _ _ (by omega), List.take_append_of_le_length hle, absL_append]
                      · rw [absL_length, List.length_append, List.length_drop, hol]; omega
                    obtain ⟨rest', q1, q2⟩ := hcut
                    have hρ : ∀ j, j < s.length → ((ρ.push s.length (ρ k).1).push (s.length + 1) (ρ i).1) j = ρ j := fun j hj => by rw [Rho.push_lt (by omega), Rho.push_lt hj]
                    have hnew : bdL s.length (cs.take (len * inf.size) ++ new) := bdL_iff.2 fun v hv => by
                      rcases List.mem_append.1 hv with h | h
                      · exact bdL_iff.1 hob v h
                      · exact bdL_iff.1 hnb v h
                    obtain ⟨r1, r2, r3⟩ := Rep.regrow (c := (ρ k).1) (e' := .lst (cs.take (len * inf.size) ++ new) el s.length inf.size) hr hs hcs rfl rfl ⟨bdL_mono (by omega) _ hnew, by omega⟩
                      ⟨rest', by rw [Rho.push_at, absL_congr (ρ := ρ) hρ _ hnew, ← q1]; exact h2, by rw [Rho.push_at], by
                        rw [Rho.push_lt (by omega), Rho.push_at, q2, List.length_append, List.length_map]; exact g3⟩ h3 h4 h5 h6 h7
                    refine ⟨_, _, _, w', ?_, hk, r1, r2, r3, by simp [V.bd]⟩
                    simp only [V.abs]
                    rw [Rho.push_at, Rho.push_lt (by omega), Rho.push_at, h1, g2]
                  · obtain ⟨f1, f2, f3⟩ := Rep.forget hr hs i
                    have hl : (s.set i .no).length = s.length := by simp
                    have hold : (Builtin.firstCells inf.size len (.slice (some ⟨(ρ i).1, (ρ i).2 + 0, none⟩) len ((ρ k).1 - 0))).run P w.drew = .ok (absL ρ (cs.take (len * inf.size))).toArray w.drew := by
                      refine run_firstCells_some w.drew inf.size len _ len _ _ (by rw [absL_length]; exact hol) fun j v hv => ?_
                      rw [absL_get] at hv
                      obtain ⟨u, hu, rfl⟩ := Option.map_eq_some_iff.1 hv
                      rw [List.getElem?_take] at hu
                      split at hu
                      · rw [Addr.add_lit]; exact rep_cell hr hcs rfl hu
                      · cases hu
                    obtain ⟨ρ', w', h1, h2, h3, h4⟩ := grow_sound (s := s.set i .no) (ty := ty) (dx := dx) f1 f3 ht hi hz hzl hold hol (by rw [hl]; exact hob) hsrc hnl (by rw [hl]; exact hnb) (by omega) hok
                    rw [hl] at h1 h2 h3 h4
                    exact ⟨_, _, ρ', w', h1, hk, h2, f2.trans h3, h4, by simp [V.bd]⟩
                · exact (hno hk).elim
              · exact (hno hk).elim
          · exact (hno hk).elim
        · exact (hno hk).elim
  | _ => exact (hno hk).elim
end
end Go.Proofs.YtalgegmcllcnmaaRL
end
section
/- RL: appends where elements are told by columns. -/
namespace Go.Proofs.YtalgegmcllcnmaaRL
open Go
set_option linter.unusedVariables false
set_option linter.unusedSimpArgs false
def intsL (k : IntKind) : List V → Option (List Int)
  | [] => some []
  | v :: vs => match v, intsL k vs with
    | .raw (.int k' x), some xs => match kindEq k k' with
      | true => some (x :: xs)
      | false => none
    | _, _ => none
def boolsL : List V → Option (List Bool)
  | [] => some []
  | v :: vs => match v, boolsL vs with
    | .raw (.bool x), some xs => some (x :: xs)
    | _, _ => none
def strsL : List V → Option (List ByteArray)
  | [] => some []
  | v :: vs => match v, strsL vs with
    | .raw (.string x), some xs => some (x :: xs)
    | _, _ => none
/-- Cells of a column's kind, as a column. -/
def colLit (z : Col) (vs : List V) : Option Col :=
  match z with
  | .int k _ => match intsL k vs with
    | some xs => some (.int k fun j => xs.getD j 0)
    | none => none
  | .bool _ => match boolsL vs with
    | some xs => some (.bool fun j => xs.getD j false)
    | none => none
  | .str _ => match strsL vs with
    | some xs => some (.str fun j => xs.getD j ByteArray.empty)
    | none => none
  | .any => some .any
def litColsG (z n : Nat) (cs : List V) : List Col → Nat → Option (List Col)
  | [], _ => some []
  | zc :: zs, c => match colLit zc ((List.range n).map fun j => cs.getD (j * z + c) (.raw undef)), litColsG z n cs zs (c + 1) with
    | some a, some b => some (a :: b)
    | _, _ => none
def shC (k : Nat) : Col → Col
  | .int ik g => .int ik fun j => g (j + k)
  | .bool g => .bool fun j => g (j + k)
  | .str g => .str fun j => g (j + k)
  | .any => .any
def catC (n : Nat) (a b : Col) : Option Col :=
  match a, b with
  | .int k g, .int k' h => match kindEq k k' with
    | true => some (.int k fun j => match Nat.blt j n with | true => g j | false => h (j - n))
    | false => none
  | .bool g, .bool h => some (.bool fun j => match Nat.blt j n with | true => g j | false => h (j - n))
  | .str g, .str h => some (.str fun j => match Nat.blt j n with | true => g j | false => h (j - n))
  | .any, _ => some .any
  | _, .any => some .any
  | _, _ => none
def catCs (n : Nat) : List Col → List Col → Option (List Col)
  | [], [] => some []
  | a :: as, b :: bs => match catC n a b, catCs n as bs with
    | some c, some cs => some (c :: cs)
    | _, _ => none
  | _, _ => none
/-- From lo on, n elements are b's. -/
def ovC (lo n : Nat) (a b : Col) : Option Col :=
  match a, b with
  | .int k g, .int k' h => match kindEq k k' with
    | true => some (.int k fun j => match Nat.ble lo j && Nat.blt j (lo + n) with | true => h (j - lo) | false => g j)
    | false => none
  | .bool g, .bool h => some (.bool fun j => match Nat.ble lo j && Nat.blt j (lo + n) with | true => h (j - lo) | false => g j)
  | .str g, .str h => some (.str fun j => match Nat.ble lo j && Nat.blt j (lo + n) with | true => h (j - lo) | false => g j)
  | .any, _ => some .any
  | _, .any => some .any
  | _, _ => none
def ovCs (lo n : Nat) : List Col → List Col → Option (List Col)
  | [], [] => some []
  | a :: as, b :: bs => match ovC lo n a b, ovCs lo n as bs with
    | some c, some cs => some (c :: cs)
    | _, _ => none
  | _, _ => none
/-- What is appended: how many, by columns; and as cells, where they are. -/
def vSrcE {R : Type} (no : R) (s : Sto) (d : TypeDesc) (zs : List Col) (z : Nat) (x : V) (K : Nat → List Col → R) (Kl : Nat → List V → Option (List Col) → R) : R :=
  match x with
  | .sle i z' k0 n _ => match d, s[i]? with
    | .slice _, some (.arr _ cols N _) => match Nat.beq z z' && Nat.beq z cols.length with
      | true => Br (Nat.ble (k0 + n) N) (K n (cols.map (shC k0))) no
      | false => no
    | _, _ => no
  | .lse i _ z' e n => match d, s[i]? with
    | .slice _, some (.arr _ cols N _) => match Nat.beq z z' && Nat.beq z cols.length with
      | true => Br (Nat.ble (e + n) N) (K n (cols.map (shC e))) no
      | false => no
    | _, _ => no
  | .lend _ _ _ _ _ _ => match d with
    | .slice _ => Kl 0 [] (litColsG z 0 [] zs 0)
    | _ => no
  | x => Wi no (vSrc s d z x) fun p => Kl p.1 p.2 (litColsG z p.1 p.2 zs 0)
def vAppE {R : Type} (no : R) (s : Sto) (elem : TypeId) (z bytes : Nat) (zs : List Col) (sv : V) (n : Nat) (cols : List Col) (lit : Option (List V)) (K : Kt R) : R :=
  match sv with
  | .raw (.slice none 0 0) => Br (Nat.beq n 0) (K (.raw (.slice none 0 0)) s) (Br (growOk n bytes) (K (.lse (s.length + 1) s.length z 0 n) (s ++ [.no] ++ [.arr (.grow s.length) cols n elem])) no)
  | .sle i z' k0 len cap => match s[i]? with
    | some (.arr m tc N e) => match Nat.beq z z' && Nat.beq z tc.length with
      | false => no
      | true => Br (Nat.ble (len + n) cap)
          (Br (Nat.beq n 0) (K (.sle i z k0 len cap) s) (match m with
            | .own => Br (Nat.ble (k0 + len + n) N) (Wi no (ovCs (k0 + len) n tc cols) fun tc' => K (.sle i z k0 (len + n) cap) (s.set i (.arr .own tc' N e))) no
            | _ => no))
          (Br (growOk (len + n) bytes) (Br (Nat.ble (k0 + len) N) (Wi no (catCs len (tc.map (shC k0)) cols) fun c2 => K (.lse (s.length + 1) s.length z 0 (len + n)) (s ++ [.no] ++ [.arr (.grow s.length) c2 (len + n) elem])) no) no)
    | _ => no
  | .lse i k z' e len => match e with
    | 0 => match s[i]? with
      | some (.arr (.grow k') tc N el) => match Nat.beq k k' && Nat.beq z z' && Nat.beq z tc.length && Nat.beq el elem with
        | true => Br (Nat.ble len N) (Br (growOk (len + n) bytes) (Wi no (catCs len tc cols) fun c2 => K (.lse (s.length + 1) s.length z 0 (len + n)) (s.set i .no ++ [.no] ++ [.arr (.grow s.length) c2 (len + n) elem])) no) no
        | false => no
      | _ => no
    | _ => no
  | .sl i o len cap => Br (Nat.ble (len + n) cap) (match lit with
      | some new => vAppendTo no s elem z bytes (.sl i o len cap) n new K
      | none => Br (Nat.beq n 0) (K (.sl i o len cap) s) no)
    (Br (growOk (len + n) bytes) (Wi no (vCellsAt s z i o len) fun old => Wi no (litColsG z len old zs 0) fun oc => Wi no (catCs len oc cols) fun c2 => K (.lse (s.length + 1) s.length z 0 (len + n)) (s ++ [.no] ++ [.arr (.grow s.length) c2 (len + n) elem])) no)
  | _ => no
def vAppendE {R : Type} (no : R) (P : Program) (ts : List TypeId) (args : List V) (s : Sto) (K : Kt R) : R :=
  match ts, args with
  | [t, tx], [sv, xv] => Wi no (P.underlying t) fun d => Wi no (P.underlying tx) fun dx => match d with
    | .slice elem => Wi no (P.info? elem) fun inf => Wi no (vZero P elem) fun zl => match Nat.beq zl.length inf.size with
      | true => match colsNE zl with
        | none => match sv with
          | .lse i k z e n => match s[i]? with
            | some (.arr _ zs _ _) => match Nat.beq zs.length inf.size with
              | true => vSrcE no s dx zs inf.size xv
                (fun n' cols => vAppE no s elem inf.size inf.bytes zs (.lse i k z e n) n' cols none K)
                (fun n' new c => match c with
                  | some cols => vAppE no s elem inf.size inf.bytes zs (.lse i k z e n) n' cols (some new) K
                  | none => no)
              | false => no
            | _ => no
          | sv => Wi no (vSrc s dx inf.size xv) fun p => vAppendTo no s elem inf.size inf.bytes sv p.1 p.2 K
        | some zs => vSrcE no s dx zs inf.size xv
          (fun n cols => vAppE no s elem inf.size inf.bytes zs sv n cols none K)
          (fun n new c => match c, sv with
            | none, sv | _, sv@(.lst _ _ _ _ _) => vAppendTo no s elem inf.size inf.bytes sv n new K
            | some cols, sv => vAppE no s elem inf.size inf.bytes zs sv n cols (some new) K)
      | false => no
    | _ => no
  | _, _ => no
theorem intsL_at {k : IntKind} : ∀ {vs : List V} {xs : List Int}, intsL k vs = some xs → ∀ (j : Nat), j < vs.length → vs[j]? = some (.raw (.int k (xs.getD j 0))) := by
  intro vs
  induction vs with
  | nil => intro xs _ j hj; simp at hj
  | cons v vs ih =>
    intro xs h j hj
    simp only [intsL] at h
    split at h
    · rename_i k' x xs' hx
      split at h
      · rename_i hk
        obtain rfl := kindEq_eq hk
        cases h
        cases j with
        | zero => simp
        | succ j => simpa using ih hx j (by simpa using hj)
      · cases h
    · cases h
theorem boolsL_at : ∀ {vs : List V} {xs : List Bool}, boolsL vs = some xs → ∀ (j : Nat), j < vs.length → vs[j]? = some (.raw (.bool (xs.getD j false))) := by
  intro vs
  induction vs with
  | nil => intro xs _ j hj; simp at hj
  | cons v vs ih =>
    intro xs h j hj
    simp only [boolsL] at h
    split at h
    · rename_i x xs' hx
      cases h
      cases j with
      | zero => simp
      | succ j => simpa using ih hx j (by simpa using hj)
    · cases h
theorem strsL_at : ∀ {vs : List V} {xs : List ByteArray}, strsL vs = some xs → ∀ (j : Nat), j < vs.length → vs[j]? = some (.raw (.string (xs.getD j ByteArray.empty))) := by
  intro vs
  induction vs with
  | nil => intro xs _ j hj; simp at hj
  | cons v vs ih =>
    intro xs h j hj
    simp only [strsL] at h
    split at h
    · rename_i x xs' hx
      cases h
      cases j with
      | zero => simp
      | succ j => simpa using ih hx j (by simpa using hj)
    · cases h
theorem colLit_at {z col : Col} {vs : List V} (h : colLit z vs = some col) {j : Nat} {u : Value} (hj : j < vs.length) (hu : col.at j = some u) : vs[j]? = some (.raw u) := by
  unfold colLit at h
  split at h
  · split at h
    · rename_i xs hx; cases h; simp only [Col.at, Option.some.injEq] at hu; subst hu; exact intsL_at hx j hj
    · cases h
  · split at h
    · rename_i xs hx; cases h; simp only [Col.at, Option.some.injEq] at hu; subst hu; exact boolsL_at hx j hj
    · cases h
  · split at h
    · rename_i xs hx; cases h; simp only [Col.at, Option.some.injEq] at hu; subst hu; exact strsL_at hx j hj
    · cases h
  · cases h; cases hu
theorem litColsG_at {z n : Nat} {cs : List V} : ∀ {zs cols : List Col} {c0 : Nat}, litColsG z n cs zs c0 = some cols → cols.length = zs.length ∧ ∀ (c : Nat) col j u, cols[c]? = some col → j < n → col.at j = some u → cs.getD (j * z + (c0 + c)) (.raw undef) = .raw u := by
  intro zs
  induction zs with
  | nil => intro cols c0 h; simp only [litColsG, Option.some.injEq] at h; subst h; exact ⟨rfl, fun c col j u hc => by simp at hc⟩
  | cons zc zs ih =>
    intro cols c0 h
    simp only [litColsG] at h
    split at h
    · rename_i a b h1 h2
      cases h
      obtain ⟨i1, i2⟩ := ih h2
      refine ⟨by simp [i1], fun c col j u hc hj hu => ?_⟩
      cases c with
      | zero =>
        simp only [List.getElem?_cons_zero, Option.some.injEq] at hc
        subst hc
        have := colLit_at h1 (j := j) (by simpa using hj) hu
        rw [List.getElem?_map, List.getElem?_range hj] at this
        simpa using this
      | succ c =>
        have := i2 c col j u (by simpa using hc) hj hu
        rw [show c0 + (c + 1) = c0 + 1 + c by omega]
        exact this
    · cases h
/-- Literal cells hold what their columns tell. -/
theorem litCols_holds {ρ : Rho} {z n : Nat} {cs : List V} {zs cols : List Col} (h : litColsG z n cs zs 0 = some cols) (hz : zs.length = z) (hl : cs.length = n * z) : cols.length = z ∧ holdsA cols n (absL ρ cs) := by
  obtain ⟨h1, h2⟩ := litColsG_at h
  refine ⟨h1.trans hz, fun j c col u hj hc hu => ?_⟩
  have hcz : c < z := by rw [← hz, ← h1]; exact (List.getElem?_eq_some_iff.1 hc).1
  have hb : (j + 1) * z ≤ n * z := Nat.mul_le_mul_right _ hj
  rw [Nat.add_mul, Nat.one_mul] at hb
  have := h2 c col j u hc hj hu
  rw [Nat.zero_add, List.getD_eq_getElem?_getD, List.getElem?_eq_getElem (by omega)] at this
  rw [h1, hz, absL_get, List.getElem?_eq_getElem (by omega)]
  simp only [Option.getD_some] at this
  rw [this]; rfl
theorem holds_shift {cols : List Col} {N k n : Nat} {cs : List Value} (h : holdsA cols N cs) (hl : cs.length = N * cols.length) (hk : k + n ≤ N) :
    (cols.map (shC k)).length = cols.length ∧ ((cs.drop (k * cols.length)).take (n * cols.length)).length = n * cols.length ∧ holdsA (cols.map (shC k)) n ((cs.drop (k * cols.length)).take (n * cols.length)) := by
  have hm : (k + n) * cols.length ≤ N * cols.length := Nat.mul_le_mul_right _ hk
  rw [Nat.add_mul] at hm
  refine ⟨by simp, by rw [List.length_take, List.length_drop]; omega, fun j c col u hj hc hu => ?_⟩
  rw [List.getElem?_map] at hc
  obtain ⟨col0, hc0, rfl⟩ := Option.map_eq_some_iff.1 hc
  have hu0 : col0.at (j + k) = some u := by cases col0 <;> simp only [shC, Col.at] at hu ⊢ <;> exact hu
  have := h (j + k) c col0 u (by omega) hc0 hu0
  have hcz : c < cols.length := (List.getElem?_eq_some_iff.1 hc0).1
  have hb : (j + 1) * cols.length ≤ n * cols.length := Nat.mul_le_mul_right _ hj
  rw [Nat.add_mul, Nat.one_mul] at hb
  rw [List.length_map, List.getElem?_take, if_pos (by omega), List.getElem?_drop, ← this, Nat.add_mul]
  congr 1
  omega
theorem blt_no {j n : Nat} (h : Nat.blt j n = false) : n ≤ j := by
  refine Nat.le_of_not_lt fun hc => ?_
  rw [show Nat.blt j n = true by rw [Nat.blt_eq]; exact hc] at h
  cases h
theorem catC_at {n : Nat} {a b c : Col} (h : catC n a b = some c) {j : Nat} {u : Value} (hu : c.at j = some u) : (j < n ∧ a.at j = some u) ∨ (n ≤ j ∧ b.at (j - n) = some u) := by
  unfold catC at h
  split at h
  · split at h
    · rename_i hk
      obtain rfl := kindEq_eq hk
      cases h
      simp only [Col.at, Option.some.injEq] at hu
      cases hb : Nat.blt j n with
      | true => rw [hb] at hu; exact .inl ⟨by simpa [Nat.blt_eq] using hb, by rw [← hu]; rfl⟩
      | false => rw [hb] at hu; exact .inr ⟨blt_no hb, by rw [← hu]; rfl⟩
    · cases h
  · cases h
    simp only [Col.at, Option.some.injEq] at hu
    cases hb : Nat.blt j n with
    | true => rw [hb] at hu; exact .inl ⟨by simpa [Nat.blt_eq] using hb, by rw [← hu]; rfl⟩
    | false => rw [hb] at hu; exact .inr ⟨blt_no hb, by rw [← hu]; rfl⟩
  · cases h
    simp only [Col.at, Option.some.injEq] at hu
    cases hb : Nat.blt j n with
    | true => rw [hb] at hu; exact .inl ⟨by simpa [Nat.blt_eq] using hb, by rw [← hu]; rfl⟩
    | false => rw [hb] at hu; exact .inr ⟨blt_no hb, by rw [← hu]; rfl⟩
  · cases h; cases hu
  · cases h; cases hu
  · cases h
theorem catCs_at {n : Nat} : ∀ {as bs cs : List Col}, catCs n as bs = some cs → cs.length = as.length ∧ bs.length = as.length ∧ ∀ (c : Nat) col j u, cs[c]? = some col → col.at j = some u → (j < n ∧ ∃ a, as[c]? = some a ∧ a.at j = some u) ∨ (n ≤ j ∧ ∃ b, bs[c]? = some b ∧ b.at (j - n) = some u) := by
  intro as
  induction as with
  | nil =>
    intro bs cs h
    cases bs with
    | nil => simp only [catCs, Option.some.injEq] at h; subst h; exact ⟨rfl, rfl, fun c col j u hc => by simp at hc⟩
    | cons b bs => cases h
  | cons a as ih =>
    intro bs cs h
    cases bs with
    | nil => cases h
    | cons b bs =>
      simp only [catCs] at h
      split at h
      · rename_i c0 cs0 h1 h2
        cases h
        obtain ⟨i1, i2, i3⟩ := ih h2
        refine ⟨by simp [i1], by simp [i2], fun c col j u hc hu => ?_⟩
        cases c with
        | zero =>
          simp only [List.getElem?_cons_zero, Option.some.injEq] at hc
          subst hc
          rcases catC_at h1 hu with ⟨a1, a2⟩ | ⟨a1, a2⟩
          · exact .inl ⟨a1, a, rfl, a2⟩
          · exact .inr ⟨a1, b, rfl, a2⟩
        | succ c => simpa using i3 c col j u (by simpa using hc) hu
      · cases h
theorem cat_holds {as bs cs : List Col} {len n : Nat} {la lb : List Value} (h : catCs len as bs = some cs) (ha : holdsA as len la) (hla : la.length = len * as.length) (hb : holdsA bs n lb) (hlb : lb.length = n * as.length) : cs.length = as.length ∧ holdsA cs (len + n) (la ++ lb) := by
  obtain ⟨h1, h2, h3⟩ := catCs_at h
  refine ⟨h1, fun j c col u hj hc hu => ?_⟩
  have hcz : c < as.length := by rw [← h1]; exact (List.getElem?_eq_some_iff.1 hc).1
  rw [h1]
  rcases h3 c col j u hc hu with ⟨g1, a, g2, g3⟩ | ⟨g1, b, g2, g3⟩
  · have := ha j c a u g1 g2 g3
    have hlt := (List.getElem?_eq_some_iff.1 this).1
    rw [List.getElem?_append_left hlt]
    exact this
  · have := hb (j - len) c b u (by omega) g2 g3
    have hm : len * as.length ≤ j * as.length := Nat.mul_le_mul_right _ g1
    rw [List.getElem?_append_right (by omega), ← this, h2, hla, Nat.sub_mul]
    congr 1
    omega
theorem ovC_at {lo n : Nat} {a b c : Col} (h : ovC lo n a b = some c) {j : Nat} {u : Value} (hu : c.at j = some u) : ((lo ≤ j ∧ j < lo + n) ∧ b.at (j - lo) = some u) ∨ (¬ (lo ≤ j ∧ j < lo + n) ∧ a.at j = some u) := by
  have key : ∀ {α : Type} (f g : Nat → α) (mk : α → Value), mk (match Nat.ble lo j && Nat.blt j (lo + n) with | true => g (j - lo) | false => f j) = u → ((lo ≤ j ∧ j < lo + n) ∧ mk (g (j - lo)) = u) ∨ (¬ (lo ≤ j ∧ j < lo + n) ∧ mk (f j) = u) := by
    intro α f g mk hm
    cases hb : (Nat.ble lo j && Nat.blt j (lo + n)) with
    | true =>
      rw [hb] at hm
      simp only [Bool.and_eq_true, Nat.blt_eq] at hb
      exact .inl ⟨⟨Nat.le_of_ble_eq_true hb.1, hb.2⟩, hm⟩
    | false =>
      rw [hb] at hm
      refine .inr ⟨fun hc => ?_, hm⟩
      rw [Nat.ble_eq_true_of_le hc.1, show Nat.blt j (lo + n) = true by rw [Nat.blt_eq]; exact hc.2] at hb
      cases hb
  unfold ovC at h
  split at h
  · split at h
    · rename_i hk
      obtain rfl := kindEq_eq hk
      cases h
      simp only [Col.at, Option.some.injEq] at hu
      rcases key _ _ (Value.int _) hu with ⟨a1, a2⟩ | ⟨a1, a2⟩
      · exact .inl ⟨a1, by simp only [Col.at, a2]⟩
      · exact .inr ⟨a1, by simp only [Col.at, a2]⟩
    · cases h
  · cases h
    simp only [Col.at, Option.some.injEq] at hu
    rcases key _ _ Value.bool hu with ⟨a1, a2⟩ | ⟨a1, a2⟩
    · exact .inl ⟨a1, by simp only [Col.at, a2]⟩
    · exact .inr ⟨a1, by simp only [Col.at, a2]⟩
  · cases h
    simp only [Col.at, Option.some.injEq] at hu
    rcases key _ _ Value.string hu with ⟨a1, a2⟩ | ⟨a1, a2⟩
    · exact .inl ⟨a1, by simp only [Col.at, a2]⟩
    · exact .inr ⟨a1, by simp only [Col.at, a2]⟩
  · cases h; cases hu
  · cases h; cases hu
  · cases h
theorem ovCs_at {lo n : Nat} : ∀ {as bs cs : List Col}, ovCs lo n as bs = some cs → cs.length = as.length ∧ bs.length = as.length ∧ ∀ (c : Nat) col j u, cs[c]? = some col → col.at j = some u → ((lo ≤ j ∧ j < lo + n) ∧ ∃ b, bs[c]? = some b ∧ b.at (j - lo) = some u) ∨ (¬ (lo ≤ j ∧ j < lo + n) ∧ ∃ a, as[c]? = some a ∧ a.at j = some u) := by
  intro as
  induction as with
  | nil =>
    intro bs cs h
    cases bs with
    | nil => simp only [ovCs, Option.some.injEq] at h; subst h; exact ⟨rfl, rfl, fun c col j u hc => by simp at hc⟩
    | cons b bs => cases h
  | cons a as ih =>
    intro bs cs h
    cases bs with
    | nil => cases h
    | cons b bs =>
      simp only [ovCs] at h
      split at h
      · rename_i c0 cs0 h1 h2
        cases h
        obtain ⟨i1, i2, i3⟩ := ih h2
        refine ⟨by simp [i1], by simp [i2], fun c col j u hc hu => ?_⟩
        cases c with
        | zero =>
          simp only [List.getElem?_cons_zero, Option.some.injEq] at hc
          subst hc
          rcases ovC_at h1 hu with ⟨a1, a2⟩ | ⟨a1, a2⟩
          · exact .inl ⟨a1, b, rfl, a2⟩
          · exact .inr ⟨a1, a, rfl, a2⟩
        | succ c => simpa using i3 c col j u (by simpa using hc) hu
      · cases h
theorem ov_holds {as bs cs : List Col} {lo n N : Nat} {la lb : List Value} (h : ovCs lo n as bs = some cs) (ha : holdsA as N la) (hla : la.length = N * as.length) (hb : holdsA bs n lb) (hlb : lb.length = n * as.length) (hle : lo + n ≤ N) :
    cs.length = as.length ∧ holdsA cs N (la.take (lo * as.length) ++ lb ++ la.drop (lo * as.length + lb.length)) := by
  obtain ⟨h1, h2, h3⟩ := ovCs_at h
  refine ⟨h1, fun j c col u hj hc hu => ?_⟩
  have hcz : c < as.length := by rw [← h1]; exact (List.getElem?_eq_some_iff.1 hc).1
  have e0 : (lo + n) * as.length ≤ N * as.length := Nat.mul_le_mul_right _ hle
  have e1 : (lo + n) * as.length = lo * as.length + n * as.length := Nat.add_mul _ _ _
  rw [h1]
  have htl : (la.take (lo * as.length)).length = lo * as.length := by rw [List.length_take]; omega
  rcases h3 c col j u hc hu with ⟨⟨g1, g1'⟩, b, g2, g3⟩ | ⟨g1, a, g2, g3⟩
  · have := hb (j - lo) c b u (by omega) g2 g3
    have hm : lo * as.length ≤ j * as.length := Nat.mul_le_mul_right _ g1
    have hm2 : (j + 1) * as.length ≤ (lo + n) * as.length := Nat.mul_le_mul_right _ g1'
    rw [Nat.add_mul, Nat.one_mul] at hm2
    rw [List.getElem?_append_left (by rw [List.length_append, htl]; omega), List.getElem?_append_right (by omega), ← this, h2, htl, Nat.sub_mul]
    congr 1
    omega
  · have := ha j c a u hj g2 g3
    by_cases hj1 : j < lo
    · have hm2 : (j + 1) * as.length ≤ lo * as.length := Nat.mul_le_mul_right _ hj1
      rw [Nat.add_mul, Nat.one_mul] at hm2
      rw [List.append_assoc, List.getElem?_append_left (by omega), List.getElem?_take, if_pos (by omega)]
      exact this
    · have hj2 : lo + n ≤ j := by
        rcases Nat.lt_or_ge j (lo + n) with h | h
        · exact absurd ⟨by omega, h⟩ g1
        · exact h
      have hm2 : (lo + n) * as.length ≤ j * as.length := Nat.mul_le_mul_right _ hj2
      rw [List.getElem?_append_right (by rw [List.length_append, htl]; omega), List.getElem?_drop, List.length_append, htl, ← this]
      congr 1
      omega
section
variable {P : Program} {ρ : Rho} {w : World}
/-- What is appended, as cells. -/
structure SrcE (P : Program) (z : Nat) (tx : TypeId) (x : Value) (n : Nat) (cols : List Col) (new : List Value) (w : World) : Prop where
  src : Src P z tx x n new w
  len : new.length = n * z
  cl : cols.length = z
  holds : holdsA cols n new
theorem part_src {s : Sto} (hr : Rep ρ s w) (hs : sbd s) {tx : TypeId} {el : TypeId} (hd : P.underlying tx = some (.slice el)) {i k0 n c N : Nat} {m : AM} {cols : List Col} {e : TypeId} (hi : s[i]? = some (.arr m cols N e)) (hle : k0 + n ≤ N) :
    ∃ new, SrcE P cols.length tx (.slice (some ⟨(ρ i).1, (ρ i).2 + k0 * cols.length, none⟩) n c) n (cols.map (shC k0)) new w := by
  obtain ⟨cs, h1, h2, h3, h4, h5, h6, h7⟩ := open_arr hr hs hi
  obtain ⟨g1, g2, g3⟩ := holds_shift h3 h1 hle
  refine ⟨_, Src.ofSlice w hd _ _ _ _ g2 (fun j u hu => ?_) (fun u hu => h2 u (List.mem_of_mem_drop (List.mem_of_mem_take hu))), g2, g1, g3⟩
  have hc : (flatE m cs e cols.length).cells = some (cs.map V.raw) := by cases m <;> rfl
  rw [List.getElem?_take] at hu
  split at hu
  · rw [List.getElem?_drop] at hu
    have := rep_cell h4 h6 hc (j := k0 * cols.length + j) (v := .raw u) (by rw [List.getElem?_map, hu]; rfl)
    rw [Addr.add_lit]
    simpa [Nat.add_assoc, V.abs] using this
  · cases hu
theorem lit_src {s : Sto} {tx : TypeId} {z n : Nat} {x : Value} {new : List V} {zs cols : List Col} (hsrc : Src P z tx x n (absL ρ new) w) (hnl : new.length = n * z) (hz : zs.length = z) (hc : litColsG z n new zs 0 = some cols) : SrcE P z tx x n cols (absL ρ new) w := by
  obtain ⟨g1, g2⟩ := litCols_holds (ρ := ρ) hc hz hnl
  exact ⟨hsrc, by rw [absL_length]; exact hnl, g1, g2⟩
theorem srcE_sound {R : Type} {no : R} {T : R → Prop} (hno : ¬ T no) {s : Sto} (hr : Rep ρ s w) (hs : sbd s) {tx : TypeId} {d : TypeDesc} {zs : List Col} {z : Nat} {x : V} {K : Nat → List Col → R} {Kl : Nat → List V → Option (List Col) → R} (hz : zs.length = z) (hd : P.underlying tx = some d) (h : T (vSrcE no s d zs z x K Kl)) :
    (∃ n cols new, SrcE P z tx (x.abs ρ) n cols new w ∧ T (K n cols)) ∨ ∃ n new c, Src P z tx (x.abs ρ) n (absL ρ new) w ∧ new.length = n * z ∧ new.all V.one = true ∧ bdL s.length new ∧ (∀ cols, c = some cols → SrcE P z tx (x.abs ρ) n cols (absL ρ new) w) ∧ T (Kl n new c) := by
  unfold vSrcE at h
  split at h
  · rename_i i z' k0 n c
    split at h
    · rename_i el m cols N e hi
      split at h
      · rename_i hb
        simp only [Bool.and_eq_true] at hb
        have hb1 := Nat.eq_of_beq_eq_true hb.1
        have hb2 := Nat.eq_of_beq_eq_true hb.2
        subst hb1
        rcases Br.out h with ⟨hle, h⟩ | ⟨_, h⟩
        · have hle := Nat.le_of_ble_eq_true hle
          obtain ⟨new, hn⟩ := part_src (c := c) hr hs hd hi hle
          rw [← hb2] at hn
          exact .inl ⟨n, _, new, hn, h⟩
        · exact (hno h).elim
      · exact (hno h).elim
    · exact (hno h).elim
  · rename_i i k z' e n
    split at h
    · rename_i el m cols N e' hi
      split at h
      · rename_i hb
        simp only [Bool.and_eq_true] at hb
        have hb1 := Nat.eq_of_beq_eq_true hb.1
        have hb2 := Nat.eq_of_beq_eq_true hb.2
        subst hb1
        rcases Br.out h with ⟨hle, h⟩ | ⟨_, h⟩
        · have hle := Nat.le_of_ble_eq_true hle
          obtain ⟨new, hn⟩ := part_src (c := (ρ k).1 - e) hr hs hd hi hle
          rw [← hb2] at hn
          exact .inl ⟨n, _, new, hn, h⟩
        · exact (hno h).elim
      · exact (hno h).elim
    · exact (hno h).elim
  · rename_i i k o e l z'
    split at h
    · rename_i el
      have hsrc : Src P z tx ((V.lend i k o e l z').abs ρ) 0 (absL ρ []) w := Src.ofSlice w hd _ _ _ _ (by simp [absL]) (fun j u hu => by simp [absL] at hu) (fun u hu => by simp [absL] at hu)
      exact .inr ⟨0, [], _, hsrc, by simp, rfl, trivial, fun cols hc => lit_src (s := s) hsrc (by simp) hz hc, h⟩
    · exact (hno h).elim
  · obtain ⟨⟨n, new⟩, hp, h⟩ := Wi.out hno h
    obtain ⟨h1, h2, h3, h4⟩ := src_sound hr hs hd hp
    exact .inr ⟨n, new, _, h1, h2, h3, h4, fun cols hc => lit_src (s := s) h1 h2 hz hc, h⟩
/-- A new row, told by columns. -/
theorem growE_sound {s : Sto} (hr : Rep ρ s w) (hs : sbd s) {t tx ty elem : TypeId} {inf : TypeInfo} {zl : List V} (ht : P.underlying t = some (.slice elem)) (hi : P.info? elem = some inf) (hz : vZero P elem = some zl) (hzl : zl.length = inf.size)
    {base : Option Addr} {len cap : Nat} {old new : List Value} {x : Value} {n : Nat} {oc nc c2 : List Col} (hold : (Builtin.firstCells inf.size len (.slice base len cap)).run P w.drew = .ok old.toArray w.drew) (hol : old.length = len * inf.size) (hone : ∀ u ∈ old, u.oneCell' = true)
    (hoc : oc.length = inf.size) (hoh : holdsA oc len old) (hsrc : SrcE P inf.size tx x n nc new w) (hcat : catCs len oc nc = some c2) (hg : cap < len + n) (hok : growOk (len + n) inf.bytes = true) :
    ∃ ρ' w', (Builtin.append_ #[t, tx] ty #[.slice base len cap, x]).run P w = .ok ((V.lse (s.length + 1) s.length inf.size 0 (len + n)).abs ρ') w' ∧
      Rep ρ' (s ++ [.no] ++ [.arr (.grow s.length) c2 (len + n) elem]) w' ∧ Ext s ρ w (s ++ [.no] ++ [.arr (.grow s.length) c2 (len + n) elem]) ρ' w' ∧ sbd (s ++ [.no] ++ [.arr (.grow s.length) c2 (len + n) elem]) := by
  obtain ⟨ρ', w', h1, h2, h3, h4⟩ := grow_sound (ρ := ρ) (old := old.map V.raw) (new := new.map V.raw) (ty := ty) (dx := .bool) hr hs ht hi hz hzl (by rw [absL_raws]; exact hold) (by rw [List.length_map]; exact hol) (bdL_raw _ _)
    (by rw [absL_raws]; exact hsrc.src) (by rw [List.length_map]; exact hsrc.len) (bdL_raw _ _) hg hok
  obtain ⟨c1, ch⟩ := cat_holds hcat hoh (by rw [hol, hoc]) hsrc.holds (by rw [hsrc.len, hoc])
  have hlast : (s ++ [Ent.no] ++ [Ent.lst (old.map V.raw ++ new.map V.raw) elem s.length inf.size])[s.length + 1]? = some (.lst (old.map V.raw ++ new.map V.raw) elem s.length inf.size) := by
    rw [List.getElem?_append_right (by simp)]; simp
  have hset : (s ++ [Ent.no] ++ [Ent.lst (old.map V.raw ++ new.map V.raw) elem s.length inf.size]).set (s.length + 1) (.arr (.grow s.length) c2 (len + n) elem) = s ++ [.no] ++ [.arr (.grow s.length) c2 (len + n) elem] := by
    rw [List.set_append_right _ _ (by simp)]; simp
  have hl := h2.ent _ _ hlast
  have r1 := h2.swap (e' := .arr (.grow s.length) c2 (len + n) elem) hlast rfl rfl (repE_arr.2 ⟨old ++ new, by rw [List.length_append, hol, hsrc.len, c1, hoc, Nat.add_mul], fun u hu => by
    rcases List.mem_append.1 hu with hu | hu
    · exact hone u hu
    · exact hsrc.src.one u hu, ch, by
      rw [← List.map_append] at hl
      rw [c1, hoc]
      exact hl⟩)
  rw [hset] at r1
  refine ⟨ρ', w', ?_, r1, h3.conv rfl (by rw [← hset]; exact map_set_own (e' := .arr (.grow s.length) c2 (len + n) elem) hlast rfl), ?_⟩
  · rw [h1]; simp [V.abs]
  · intro i e hi
    have hlen : (s ++ [Ent.no] ++ [Ent.arr (.grow s.length) c2 (len + n) elem]).length = s.length + 2 := by simp
    have hlen' : (s ++ [Ent.no] ++ [Ent.lst (old.map V.raw ++ new.map V.raw) elem s.length inf.size]).length = s.length + 2 := by simp
    rw [hlen]
    by_cases hil : i < s.length + 1
    · rw [List.getElem?_append_left (by simp; omega)] at hi
      have := h4 i e (by rw [List.getElem?_append_left (by simp; omega)]; exact hi)
      rwa [hlen'] at this
    · have := (List.getElem?_eq_some_iff.1 hi).1
      rw [hlen] at this
      obtain rfl : i = s.length + 1 := by omega
      rw [List.getElem?_append_right (by simp)] at hi
      simp at hi
      subst hi
      show s.length < s.length + 2
      omega
theorem appE_sound {R : Type} {no : R} {T : R → Prop} (hno : ¬ T no) {s : Sto} {t tx ty elem : TypeId} {sv : V} {x : V} {K : Kt R} {inf : TypeInfo} {zl : List V} {zs : List Col} {n : Nat} {cols : List Col} {new : List Value} {lit : Option (List V)} (hr : Rep ρ s w) (hs : sbd s) (hsb : sv.bd s.length)
    (ht : P.underlying t = some (.slice elem)) (hi : P.info? elem = some inf) (hz : vZero P elem = some zl) (hzl : zl.length = inf.size) (hzs : zs.length = inf.size) (hsrc : SrcE P inf.size tx (x.abs ρ) n cols new w)
    (hlit : ∀ l, lit = some l → Src P inf.size tx (x.abs ρ) n (absL ρ l) w ∧ l.length = n * inf.size ∧ bdL s.length l)
    (hk : T (vAppE no s elem inf.size inf.bytes zs sv n cols lit K)) :
    ∃ v s' ρ' w', (Builtin.append_ #[t, tx] ty #[sv.abs ρ, x.abs ρ]).run P w = .ok (v.abs ρ') w' ∧ T (K v s') ∧ Rep ρ' s' w' ∧ Ext s ρ w s' ρ' w' ∧ sbd s' ∧ v.bd s'.length := by
  have hcl : cols.length = inf.size := hsrc.cl
  have n0 : n = 0 → new = [] := fun h => List.eq_nil_of_length_eq_zero (by rw [hsrc.len, h, Nat.zero_mul])
  have same : ∀ (b : Nat) (o len cap : Nat), n = 0 → len ≤ cap → (Builtin.append_ #[t, tx] ty #[.slice (some ⟨b, o, none⟩) len cap, x.abs ρ]).run P w = .ok (.slice (some ⟨b, o, none⟩) len cap) w := by
    intro b o len cap h hle
    have hn := n0 h
    have hsrc' := hsrc.src
    subst h
    subst hn
    exact run_append_room_src (P := P) w t tx ty elem inf ht hi b o len cap (x.abs ρ) 0 [] hsrc' hle (fun j hj => by simp at hj) (fun j hj => by simp at hj)
  have hbl : ∀ (q : Nat) (z m : Nat), (V.lse (q + 1) q z 0 m).bd (q + 2) := fun q z m => by simp [V.bd]
  cases sv with
  | raw v =>
    unfold vAppE at hk
    split at hk
    case h_2 h => cases h
    case h_3 h => cases h
    case h_4 h => cases h
    case h_5 => exact (hno hk).elim
    rename_i hv
    cases hv
    rcases Br.out hk with ⟨h0, hk⟩ | ⟨h0, hk⟩
    · have h0 := Nat.eq_of_beq_eq_true h0
      have hn := n0 h0
      have hsrc' := hsrc.src
      subst h0
      subst hn
      have hrun : (Builtin.append_ #[t, tx] ty #[.slice none 0 0, x.abs ρ]).run P w = .ok (.slice none 0 0) w := by
        rcases hsrc'.kind with ⟨e', hk⟩ | hk <;> simp [Builtin.append_, run_underlying ht, run_underlying hk, sizeOf, typeInfo, hi, hsrc'.len, hsrc'.cells]
      exact ⟨.raw (.slice none 0 0), s, ρ, w, hrun, hk, hr, Ext.refl _ _ _, hs, hsb⟩
    · have hpos : 0 < n := by
        rcases Nat.eq_zero_or_pos n with h | h
        · subst h; cases h0
        · exact h
      rcases Br.out hk with ⟨hok, hk⟩ | ⟨_, hk⟩
      · have hcat : ∃ zc, catCs 0 zc cols = some cols ∧ zc.length = inf.size := by
          have : ∀ cols : List Col, ∃ zc, catCs 0 zc cols = some cols ∧ zc.length = cols.length := by
            intro cols
            induction cols with
            | nil => exact ⟨[], rfl, rfl⟩
            | cons c cols ih =>
              obtain ⟨zc, h1, h2⟩ := ih
              have hc : ∃ a, catC 0 a c = some c := by
                cases c with
                | int k f => exact ⟨.int k fun _ => 0, by
                    have hk : kindEq k k = true := by cases k <;> rfl
                    simp only [catC, hk]
                    rfl⟩
                | bool f => exact ⟨.bool fun _ => false, rfl⟩
                | str f => exact ⟨.str fun _ => ByteArray.empty, rfl⟩
                | any => exact ⟨.any, rfl⟩
              obtain ⟨a, ha⟩ := hc
              exact ⟨a :: zc, by simp only [catCs, ha, h1], by simp [h2]⟩
          obtain ⟨zc, h1, h2⟩ := this cols
          exact ⟨zc, h1, h2.trans hcl⟩
        obtain ⟨zc, hc1, hc2⟩ := hcat
        obtain ⟨ρ', w', h1, h2, h3, h4⟩ := growE_sound (old := []) (ty := ty) (len := 0) (cap := 0) (base := none) (oc := zc) (c2 := cols) hr hs ht hi hz hzl (run_firstCells_none w.drew inf.size 0 0 0) (by simp) (fun u hu => by cases hu) hc2 (fun j c col u hj => by omega) hsrc hc1 (by omega) (by rw [Nat.zero_add]; exact hok)
        rw [Nat.zero_add] at h1 h2 h3 h4
        exact ⟨_, _, ρ', w', h1, hk, h2, h3, h4, by simp [V.bd]⟩
      · exact (hno hk).elim
  | sle i z' k0 len cap =>
    simp only [vAppE] at hk
    split at hk
    case h_2 => exact (hno hk).elim
    rename_i m tc N e hie
    split at hk
    · exact (hno hk).elim
    rename_i hb
    simp only [Bool.and_eq_true] at hb
    have hb1 := Nat.eq_of_beq_eq_true hb.1
    have hb2 := Nat.eq_of_beq_eq_true hb.2
    subst hb1
    rcases Br.out hk with ⟨hcap, hk⟩ | ⟨hcap, hk⟩
    · have hcap := Nat.le_of_ble_eq_true hcap
      rcases Br.out hk with ⟨h0, hk⟩ | ⟨h0, hk⟩
      · have h0 := Nat.eq_of_beq_eq_true h0
        exact ⟨.sle i inf.size k0 len cap, s, ρ, w, same _ _ _ _ h0 (by omega), hk, hr, Ext.refl _ _ _, hs, hsb⟩
      · cases m with
        | ro => exact (hno hk).elim
        | grow q => exact (hno hk).elim
        | own =>
          rcases Br.out hk with ⟨hle, hk⟩ | ⟨_, hk⟩
          case inr => exact (hno hk).elim
          have hle := Nat.le_of_ble_eq_true hle
          obtain ⟨tc', htc, hk⟩ := Wi.out hno hk
          obtain ⟨cs, g1, g2, g3, g4, g5, g6, g7⟩ := open_arr hr hs hie
          obtain ⟨o1, o2⟩ := ov_holds htc g3 g1 hsrc.holds (by rw [hsrc.len, hb2]) hle
          have hflat := g4.ent i _ g6
          have hnl : (new.map V.raw).length = n * inf.size := by rw [List.length_map]; exact hsrc.len
          have hfit : (k0 + len + n) * tc.length ≤ N * tc.length := Nat.mul_le_mul_right _ hle
          rw [Nat.add_mul, Nat.add_mul] at hfit
          obtain ⟨w', q1, q2, q3, q4, q5, q6, q7⟩ := room_sound (ρ := ρ) (ty := ty) (o := k0 * inf.size) (len := len) (cap := cap) (full := cs.map V.raw) (new := new.map V.raw) hr hs ht hi (by rw [absL_raws]; exact hsrc.src) hnl hflat.1 hflat.2 (by rw [List.length_map, g1, hb2]; omega) hcap
          have hcut : absL ρ (setR (cs.map V.raw) (k0 * inf.size + len * inf.size) (new.map V.raw)) = cs.take ((k0 + len) * tc.length) ++ new ++ cs.drop ((k0 + len) * tc.length + new.length) := by
            rw [setR_cut _ _ _ (by rw [List.length_map, List.length_map, g1, hsrc.len, hb2]; omega), ← Nat.add_mul, hb2, ← List.map_take, ← List.map_drop, ← List.map_append, ← List.map_append, absL_raws, List.length_map]
          obtain ⟨r1, r2, r3⟩ := Rep.change (e' := .arr .own tc' N e) hr hs hie rfl rfl trivial (repE_arr.2 ⟨absL ρ (setR (cs.map V.raw) (k0 * inf.size + len * inf.size) (new.map V.raw)), by rw [absL_length, setR_length, List.length_map, g1, o1], fun u hu => by
            rw [hcut] at hu
            rcases List.mem_append.1 hu with hu | hu
            · rcases List.mem_append.1 hu with hu | hu
              · exact g2 u (List.mem_of_mem_take hu)
              · exact hsrc.src.one u hu
            · exact g2 u (List.mem_of_mem_drop hu), by rw [hcut]; exact o2, ⟨by rw [absL_raws]; exact q2, hflat.2⟩⟩) q3 q4 q5 q6 q7
          exact ⟨.sle i inf.size k0 (len + n) cap, _, ρ, w', q1, hk, r1, r2, r3, by rw [List.length_set]; exact hsb⟩
    · have hcap : cap < len + n := by
        rcases Nat.lt_or_ge cap (len + n) with h | h
        · exact h
        · rw [Nat.ble_eq_true_of_le h] at hcap; cases hcap
      rcases Br.out hk with ⟨hok, hk⟩ | ⟨_, hk⟩
      case inr => exact (hno hk).elim
      rcases Br.out hk with ⟨hle, hk⟩ | ⟨_, hk⟩
      case inr => exact (hno hk).elim
      have hle := Nat.le_of_ble_eq_true hle
      obtain ⟨c2, hc2, hk⟩ := Wi.out hno hk
      obtain ⟨cs, g1, g2, g3, g4, g5, g6, g7⟩ := open_arr hr hs hie
      obtain ⟨p1, p2, p3⟩ := holds_shift g3 g1 hle
      have hcc : (flatE m cs e tc.length).cells = some (cs.map V.raw) := by cases m <;> rfl
      obtain ⟨ρ', w', h1, h2, h3, h4⟩ := growE_sound (ty := ty) (base := some ⟨(ρ i).1, (ρ i).2 + k0 * inf.size, none⟩) (old := (cs.drop (k0 * tc.length)).take (len * tc.length)) (oc := tc.map (shC k0)) hr hs ht hi hz hzl
        (run_firstCells_some w.drew inf.size len _ len cap _ (by rw [p2, hb2]) fun j u hu => by
          rw [List.getElem?_take] at hu
          split at hu
          · rw [List.getElem?_drop] at hu
            have := rep_cell g4 g6 hcc (j := k0 * tc.length + j) (v := .raw u) (by rw [List.getElem?_map, hu]; rfl)
            rw [Addr.add_lit]
            rw [hb2]
            simpa [Nat.add_assoc, V.abs] using this
          · cases hu) (by rw [p2, hb2]) (fun u hu => g2 u (List.mem_of_mem_drop (List.mem_of_mem_take hu))) (by rw [p1, hb2]) p3 hsrc hc2 hcap hok
      exact ⟨_, _, ρ', w', h1, hk, h2, h3, h4, by simp [V.bd]⟩
  | lse i k z' e len =>
    simp only [vAppE] at hk
    split at hk
    case h_2 => exact (hno hk).elim
    split at hk
    case h_2 => exact (hno hk).elim
    rename_i k' tc N el hie
    split at hk
    case h_2 => exact (hno hk).elim
    rename_i hb
    simp only [Bool.and_eq_true] at hb
    have hb1 := Nat.eq_of_beq_eq_true hb.1.1.1
    have hb2 := Nat.eq_of_beq_eq_true hb.1.1.2
    have hb3 := Nat.eq_of_beq_eq_true hb.1.2
    have hb4 := Nat.eq_of_beq_eq_true hb.2
    subst hb1 hb2 hb4
    rcases Br.out hk with ⟨hle, hk⟩ | ⟨_, hk⟩
    case inr => exact (hno hk).elim
    have hle := Nat.le_of_ble_eq_true hle
    rcases Br.out hk with ⟨hok, hk⟩ | ⟨_, hk⟩
    case inr => exact (hno hk).elim
    obtain ⟨c2, hc2, hk⟩ := Wi.out hno hk
    obtain ⟨cs, g1, g2, g3, g4, g5, g6, g7⟩ := open_arr hr hs hie
    obtain ⟨p1, p2, p3⟩ := holds_shift (k := 0) (n := len) g3 g1 (by omega)
    have hsh : tc.map (shC 0) = tc := by
      refine (List.map_congr_left (g := id) fun c _ => ?_).trans (List.map_id _)
      cases c <;> rfl
    rw [hsh] at p1 p3
    rw [Nat.zero_mul, List.drop_zero] at p2 p3
    obtain ⟨rest, f1, f2, f3⟩ := g4.ent i _ g6
    rw [absL_raws] at f1
    rw [List.length_map] at f3
    have hil : i < s.length := (List.getElem?_eq_some_iff.1 hie).1
    have hkl : k < s.length := hs i _ hie
    obtain ⟨c1, ch⟩ := cat_holds hc2 p3 p2 hsrc.holds (by rw [hsrc.len, hb3])
    have hlm : len * tc.length ≤ N * tc.length := Nat.mul_le_mul_right _ hle
    by_cases hroom : len + n ≤ (ρ k).1
    · have hfull : 0 + len * inf.size + n * inf.size ≤ ((cs ++ rest).map V.raw).length := by
        rw [List.length_map, List.length_append, f3, hb3, Nat.zero_add, ← Nat.add_mul]
        exact Nat.mul_le_mul_right _ hroom
      have hnl : (new.map V.raw).length = n * inf.size := by rw [List.length_map]; exact hsrc.len
      obtain ⟨w', h1, h2, h3, h4, h5, h6, h7⟩ := room_sound (ρ := ρ) (ty := ty) (o := 0) (len := len) (cap := (ρ k).1 - 0) (full := (cs ++ rest).map V.raw) (new := new.map V.raw) hr hs ht hi (by rw [absL_raws]; exact hsrc.src) hnl (by rw [absL_raws]; exact f1) f2 hfull (by omega)
      have hfl : len * inf.size + new.length ≤ (cs ++ rest).length := by
        have := hfull
        rw [List.length_map, Nat.zero_add, ← hsrc.len] at this
        exact this
      have hcut : ∃ rest' : List Value, absL ρ (setR ((cs ++ rest).map V.raw) (0 + len * inf.size) (new.map V.raw)) = (cs.take (len * tc.length) ++ new) ++ rest' ∧ (cs.take (len * tc.length) ++ new).length + rest'.length = (cs ++ rest).length := by
        refine ⟨(cs ++ rest).drop (len * inf.size + new.length), ?_, ?_⟩
        · rw [Nat.zero_add, setR_cut _ _ _ (by rw [List.length_map, List.length_map]; exact hfl), ← List.map_take, ← List.map_drop, ← List.map_append, ← List.map_append, absL_raws, List.length_map, hb3, List.take_append_of_le_length (by omega)]
        · rw [List.length_append, List.length_drop, p2, ← hb3]
          omega
      obtain ⟨rest', q1, q2⟩ := hcut
      obtain ⟨r1, r2, r3⟩ := Rep.regrow (c := (ρ k).1) (e' := .arr (.grow s.length) c2 (len + n) el) hr hs hie rfl rfl (show s.length < s.length + 2 by omega)
        ⟨cs.take (len * tc.length) ++ new, by rw [List.length_append, p2, hsrc.len, c1, hb3, Nat.add_mul], fun u hu => by
          rcases List.mem_append.1 hu with hu | hu
          · exact g2 u (List.mem_of_mem_take hu)
          · exact hsrc.src.one u hu, ch, rest', by rw [Rho.push_at, ← q1]; exact h2, by rw [Rho.push_at], by
          rw [Rho.push_lt (by omega), Rho.push_at, q2, c1, List.length_append]; exact f3⟩ h3 h4 h5 h6 h7
      refine ⟨_, _, _, w', ?_, hk, r1, r2, r3, by simp [V.bd]⟩
      simp only [V.abs]
      rw [Rho.push_at, Rho.push_lt (by omega), Rho.push_at, Nat.zero_mul, h1, f2]
    · obtain ⟨q1, q2, q3⟩ := Rep.forget hr hs i
      have hl : (s.set i .no).length = s.length := by simp
      have hold : (Builtin.firstCells inf.size len (.slice (some ⟨(ρ i).1, (ρ i).2 + 0 * inf.size, none⟩) len ((ρ k).1 - 0))).run P w.drew = .ok (cs.take (len * tc.length)).toArray w.drew := by
        refine run_firstCells_some w.drew inf.size len _ len _ _ (by rw [p2, hb3]) fun j v hv => ?_
        rw [List.getElem?_take] at hv
        split at hv
        · have := rep_cell g4 g6 (cs := cs.map V.raw) rfl (j := j) (v := .raw v) (by rw [List.getElem?_map, hv]; rfl)
          rw [Addr.add_lit]
          simpa [V.abs] using this
        · cases hv
      obtain ⟨ρ', w', h1, h2, h3, h4⟩ := growE_sound (s := s.set i .no) (ty := ty) q1 q3 ht hi hz hzl hold (by rw [p2, hb3]) (fun u hu => g2 u (List.mem_of_mem_take hu)) (by rw [hb3]) p3 hsrc hc2 (by omega) hok
      rw [hl] at h1 h2 h3 h4
      exact ⟨_, _, ρ', w', h1, hk, h2, q2.trans h3, h4, by simp [V.bd]⟩
  | sl i o len cap =>
    simp only [vAppE] at hk
    rcases Br.out hk with ⟨hcap, hk⟩ | ⟨hcap, hk⟩
    · have hcap := Nat.le_of_ble_eq_true hcap
      cases lit with
      | some l =>
        obtain ⟨l1, l2, l3⟩ := hlit l rfl
        exact appendTo_sound (dx := .bool) hno hr hs hsb ht hi hz hzl l1 l2 l3 hk
      | none =>
        rcases Br.out hk with ⟨h0, hk⟩ | ⟨_, hk⟩
        · have h0 := Nat.eq_of_beq_eq_true h0
          exact ⟨.sl i o len cap, s, ρ, w, same _ _ _ _ h0 (by omega), hk, hr, Ext.refl _ _ _, hs, hsb⟩
        · exact (hno hk).elim
    · have hcap : cap < len + n := by
        rcases Nat.lt_or_ge cap (len + n) with h | h
        · exact h
        · rw [Nat.ble_eq_true_of_le h] at hcap; cases hcap
      rcases Br.out hk with ⟨hok, hk⟩ | ⟨_, hk⟩
      case inr => exact (hno hk).elim
      obtain ⟨old, ho, hk⟩ := Wi.out hno hk
      obtain ⟨oc, hoc, hk⟩ := Wi.out hno hk
      obtain ⟨c2, hc2, hk⟩ := Wi.out hno hk
      obtain ⟨o1, o2, o3, o4⟩ := cellsAt_sound hr hs ho
      obtain ⟨l1, l2⟩ := litCols_holds (ρ := ρ) hoc hzs o1
      obtain ⟨ρ', w', h1, h2, h3, h4⟩ := growE_sound (ty := ty) (base := some ⟨(ρ i).1, (ρ i).2 + o, none⟩) (old := absL ρ old) (oc := oc) hr hs ht hi hz hzl (run_firstCells_some w.drew inf.size len _ len cap (absL ρ old) (by rw [absL_length]; exact o1) o2) (by rw [absL_length]; exact o1) (one_cells o3) l1 l2 hsrc hc2 hcap hok
      exact ⟨_, _, ρ', w', h1, hk, h2, h3, h4, by simp [V.bd]⟩
  | _ => exact (hno hk).elim
theorem colsNE_len {z : List V} {cols : List Col} (h : colsNE z = some cols) : cols.length = z.length := by
  unfold colsNE at h
  split at h
  · cases h
  · exact (vZeros_flat h).1
theorem appendE_sound {R : Type} {no : R} {T : R → Prop} (hno : ¬ T no) {s : Sto} {ts : List TypeId} {ty : TypeId} {args : List V} {K : Kt R} (hr : Rep ρ s w) (hs : sbd s) (hb : bdL s.length args) (hk : T (vAppendE no P ts args s K)) :
    ∃ v s' ρ' w', (Builtin.append_ ts.toArray ty (absL ρ args).toArray).run P w = .ok (v.abs ρ') w' ∧ T (K v s') ∧ Rep ρ' s' w' ∧ Ext s ρ w s' ρ' w' ∧ sbd s' ∧ v.bd s'.length := by
  unfold vAppendE at hk
  split at hk
  case h_2 => exact (hno hk).elim
  rename_i t tx sv xv
  obtain ⟨d, ht, hk⟩ := Wi.out hno hk
  obtain ⟨dx, hdx, hk⟩ := Wi.out hno hk
  split at hk
  case h_2 => exact (hno hk).elim
  rename_i elem
  obtain ⟨inf, hi, hk⟩ := Wi.out hno hk
  obtain ⟨zl, hz, hk⟩ := Wi.out hno hk
  split at hk
  case h_2 => exact (hno hk).elim
  rename_i hzl
  have hzl := Nat.eq_of_beq_eq_true hzl
  have habs : (absL ρ [sv, xv]).toArray = #[sv.abs ρ, xv.abs ρ] := by simp [absL]
  have hta : [t, tx].toArray = #[t, tx] := rfl
  rw [habs, hta]
  split at hk
  · split at hk
    · rename_i i k z e n
      split at hk
      case h_2 => exact (hno hk).elim
      rename_i m zs N el hie
      split at hk
      case h_2 => exact (hno hk).elim
      rename_i hzs
      have hzsl := Nat.eq_of_beq_eq_true hzs
      rcases srcE_sound hno hr hs hzsl hdx hk with ⟨n', cols, new, hsrc, hk⟩ | ⟨n', new, c, h1, h2, h3, h4, h5, hk⟩
      · exact appE_sound hno hr hs hb.1 ht hi hz hzl hzsl hsrc (fun l hl => by cases hl) hk
      · split at hk
        · exact appE_sound hno hr hs hb.1 ht hi hz hzl hzsl (h5 _ rfl) (fun l hl => by cases hl; exact ⟨h1, h2, h4⟩) hk
        · exact (hno hk).elim
    · obtain ⟨⟨n, new⟩, hp, hk⟩ := Wi.out hno hk
      obtain ⟨hsrc, hnl, hone, hnb⟩ := src_sound hr hs hdx hp
      exact appendTo_sound (dx := dx) hno hr hs hb.1 ht hi hz hzl hsrc hnl hnb hk
  · rename_i zs hzs
    have hzsl : zs.length = inf.size := (colsNE_len hzs).trans hzl
    rcases srcE_sound hno hr hs hzsl hdx hk with ⟨n, cols, new, hsrc, hk⟩ | ⟨n, new, c, h1, h2, h3, h4, h5, hk⟩
    · exact appE_sound hno hr hs hb.1 ht hi hz hzl hzsl hsrc (fun l hl => by cases hl) hk
    · split at hk
      · exact appendTo_sound (dx := dx) hno hr hs hb.1 ht hi hz hzl h1 h2 h4 hk
      · exact appendTo_sound (dx := dx) hno hr hs hb.1 ht hi hz hzl h1 h2 h4 hk
      · exact appE_sound hno hr hs hb.1 ht hi hz hzl hzsl (h5 _ rfl) (fun l hl => by cases hl; exact ⟨h1, h2, h4⟩) hk
end
end Go.Proofs.YtalgegmcllcnmaaRL
end
