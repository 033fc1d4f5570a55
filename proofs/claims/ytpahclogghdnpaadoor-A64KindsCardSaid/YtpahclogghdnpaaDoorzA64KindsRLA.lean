/- RL, between the sixth and the seventh text: append. -/
import Derived.Test.YtpahclogghdnpaaDoorzA64KindsRL6
import Derived.Deep.AppendSrc
import Derived.Laws.AppendOwn
namespace Go.Proofs.YtpahclogghdnpaaDoorRL
open Go
set_option linter.unusedVariables false
set_option linter.unusedSimpArgs false
/-- A row's cells, and how many elements: what append puts behind, or takes along. -/
def vCellsAt (s : Sto) (z i o n : Nat) : Option (List V) :=
  match n with
  | 0 => some []
  | _ => match s[i]? with
    | some e => match e.cells with
      | some cs => match Nat.ble (o + n * z) cs.length && ((cs.drop o).take (n * z)).all V.one with
        | true => some ((cs.drop o).take (n * z))
        | false => none
      | none => none
    | none => none
def vSrc (s : Sto) (d : TypeDesc) (z : Nat) (x : V) : Option (Nat × List V) :=
  match d, x with
  | .slice _, .sl i o n _ | .slice _, .lst i _ o _ n => match vCellsAt s z i o n with
    | some cs => some (n, cs)
    | none => none
  | .slice _, .raw (.slice _ 0 _) => some (0, [])
  | .string, .raw (.string y) => match z with
    | 1 => some (y.size, y.data.toList.map fun b => .raw (.int .u8 b.toNat))
    | _ => none
  | _, _ => none
def growOk (need bytes : Nat) : Bool := Nat.ble (need * bytes) 140737488355328 && Nat.ble need 140737488355328
def vAppendTo {R : Type} (no : R) (s : Sto) (elem : TypeId) (z bytes : Nat) (sv : V) (n : Nat) (new : List V) (K : Kt R) : R :=
  match sv with
  | .sl i o len cap => match Nat.ble (len + n) cap with
    | true => match n with
      | 0 => K (.sl i o len cap) s
      | _ => match s[i]? with
        | some (.own cs e) => match Nat.ble (o + len * z + n * z) cs.length with
          | true => K (.sl i o (len + n) cap) (s.set i (.own (setR cs (o + len * z) new) e))
          | false => no
        | _ => no
    | false => match growOk (len + n) bytes with
      | true => Wi no (vCellsAt s z i o len) fun old => K (.lst (s.length + 1) s.length 0 0 (len + n)) (s ++ [.no] ++ [.lst (old ++ new) elem s.length z])
      | false => no
  | .raw (.slice none 0 0) => match n with
    | 0 => K (.raw (.slice none 0 0)) s
    | _ => match growOk n bytes with
      | true => K (.lst (s.length + 1) s.length 0 0 n) (s ++ [.no] ++ [.lst new elem s.length z])
      | false => no
  | .lst i k o e len => match lstFits s i k (e + len) with
    | false => no
    | true => match n with
      | 0 => K (.lst i k o e len) s
      | _ => match s[i]? with
        | some (.lst cs el k' z') => match Nat.beq z z' && Nat.beq el elem with
          | true => match Nat.ble (o + len * z + n * z) cs.length && lstFits s i k (e + len + n) with
            | true => K (.lst i k o e (len + n)) (s.set i (.lst (setR cs (o + len * z) new) el k' z'))
            | false => match o, e with
              | 0, 0 => match growOk (len + n) bytes && (Nat.ble (len * z) cs.length && (cs.take (len * z)).all V.one) with
                | true => K (.lst (s.length + 1) s.length 0 0 (len + n)) (s.set i .no ++ [.no] ++ [.lst (cs.take (len * z) ++ new) elem s.length z])
                | false => no
              | _, _ => no
          | false => no
        | _ => no
  | _ => no
section
variable {P : Program} {ρ : Rho} {w : World}
theorem Rep.drew {s : Sto} (h : Rep ρ s w) : Rep ρ s w.drew := ⟨h.ent, h.sep⟩
theorem Ext.drew {s s' : Sto} {ρ' : Rho} {w' : World} (h : Ext s ρ w.drew s' ρ' w') : Ext s ρ w s' ρ' w' := ⟨h.len, h.same, h.own, h.os, h.tape, h.output, h.size, h.block⟩
/-- A number is kept behind the store. -/
theorem Rep.keep {s : Sto} (h : Rep ρ s w) (hs : sbd s) (c : Nat) : Rep (ρ.push s.length c) (s ++ [.no]) w ∧ Ext s ρ w (s ++ [.no]) (ρ.push s.length c) w ∧ sbd (s ++ [.no]) := by
  have hρ : ∀ j, j < s.length → (ρ.push s.length c) j = ρ j := fun j hj => Rho.push_lt hj
  have get : ∀ (i : Nat) e, (s ++ [Ent.no])[i]? = some e → e = .no ∨ (i < s.length ∧ s[i]? = some e) := by
    intro i e he
    by_cases hi : i < s.length
    · rw [List.getElem?_append_left hi] at he; exact .inr ⟨hi, he⟩
    · rw [List.getElem?_append_right (by omega)] at he
      cases hx : i - s.length with
      | zero => rw [hx] at he; simp at he; exact .inl he.symm
      | succ m => rw [hx] at he; simp at he
  refine ⟨⟨fun i e he => ?_, fun i j e f he hf ho hl hij => ?_⟩, ⟨by simp, hρ, fun i e he ho => ?_, rfl, rfl, rfl, Nat.le_refl _, fun _ _ _ => rfl⟩, fun i e he => ?_⟩
  · rcases get i e he with rfl | ⟨h1, h2⟩
    · trivial
    · exact RepE.congr hρ h1 (hs i e h2) rfl (Nat.le_refl _) (h.ent i e h2)
  · rcases get i e he with rfl | ⟨h1, h2⟩
    · cases ho
    rcases get j f hf with rfl | ⟨k1, k2⟩
    · cases hl
    rw [hρ i h1, hρ j k1]
    exact h.sep i j e f h2 k2 ho hl hij
  · rcases get i e he with rfl | ⟨h1, h2⟩
    · cases ho
    exact .inl ⟨i, e, h2, ho, by rw [hρ i h1]⟩
  · rcases get i e he with rfl | ⟨h1, h2⟩
    · trivial
    have := hs i e h2
    have hle : s.length ≤ (s ++ [Ent.no]).length := by simp
    exact Ent.bd_mono' hle e this
/-- A block is not known any more. -/
theorem Rep.forget {s : Sto} (h : Rep ρ s w) (hs : sbd s) (i : Nat) : Rep ρ (s.set i .no) w ∧ Ext s ρ w (s.set i .no) ρ w ∧ sbd (s.set i .no) := by
  have get : ∀ (j : Nat) e, (s.set i Ent.no)[j]? = some e → e = .no ∨ (j ≠ i ∧ s[j]? = some e) := by
    intro j e he
    by_cases hj : j = i
    · subst hj
      have hlt := (List.getElem?_eq_some_iff.1 he).1
      rw [List.getElem?_set_self (by simpa using hlt)] at he
      exact .inl (Option.some.inj he).symm
    · rw [List.getElem?_set_ne (by omega)] at he; exact .inr ⟨hj, he⟩
  refine ⟨⟨fun j e he => ?_, fun j k e f he hf ho hl hij => ?_⟩, ⟨by simp, fun _ _ => rfl, fun j e he ho => ?_, rfl, rfl, rfl, Nat.le_refl _, fun _ _ _ => rfl⟩, fun j e he => ?_⟩
  · rcases get j e he with rfl | ⟨_, h2⟩
    · trivial
    · exact h.ent j e h2
  · rcases get j e he with rfl | ⟨_, h2⟩
    · cases ho
    rcases get k f hf with rfl | ⟨_, k2⟩
    · cases hl
    exact h.sep j k e f h2 k2 ho hl hij
  · rcases get j e he with rfl | ⟨_, h2⟩
    · cases ho
    exact .inl ⟨j, e, h2, ho, rfl⟩
  · rcases get j e he with rfl | ⟨_, h2⟩
    · trivial
    rw [List.length_set]; exact hs j e h2
/-- A block of its own goes on under another number. -/
theorem Rep.regrow {s : Sto} (h : Rep ρ s w) (hs : sbd s) {i c : Nat} {e e' : Ent} {w' : World} (hi : s[i]? = some e) (hown : e.isOwn = true) (hown' : e'.isOwn = true) (he : e'.bd (s.length + 2))
    (hrep : RepE ((ρ.push s.length c).push (s.length + 1) (ρ i).1) w' (s.length + 1) e') (hsz : w'.heap.size = w.heap.size) (hos : w'.os = w.os) (htape : w'.tape = w.tape) (hout : w'.output = w.output) (hblk : ∀ b, b ≠ (ρ i).1 → w'.heap[b]? = w.heap[b]?) :
    Rep ((ρ.push s.length c).push (s.length + 1) (ρ i).1) (s.set i .no ++ [.no] ++ [e']) w' ∧ Ext s ρ w (s.set i .no ++ [.no] ++ [e']) ((ρ.push s.length c).push (s.length + 1) (ρ i).1) w' ∧ sbd (s.set i .no ++ [.no] ++ [e']) := by
  have hρ : ∀ j, j < s.length → ((ρ.push s.length c).push (s.length + 1) (ρ i).1) j = ρ j := fun j hj => by rw [Rho.push_lt (by omega), Rho.push_lt hj]
  have hlast : (((ρ.push s.length c).push (s.length + 1) (ρ i).1) (s.length + 1)) = ((ρ i).1, 0) := Rho.push_at
  have get : ∀ (j : Nat) f, (s.set i Ent.no ++ [Ent.no] ++ [e'])[j]? = some f → f = .no ∨ (j < s.length ∧ j ≠ i ∧ s[j]? = some f) ∨ (j = s.length + 1 ∧ f = e') := by
    intro j f hf
    by_cases hj : j < s.length
    · rw [List.append_assoc, List.getElem?_append_left (by simpa using hj)] at hf
      by_cases hji : j = i
      · subst hji
        rw [List.getElem?_set_self hj] at hf
        exact .inl (Option.some.inj hf).symm
      · rw [List.getElem?_set_ne (by omega)] at hf; exact .inr (.inl ⟨hj, hji, hf⟩)
    · rw [List.append_assoc, List.getElem?_append_right (by simp; omega)] at hf
      simp only [List.length_set, List.cons_append, List.nil_append] at hf
      match hx : j - s.length, hf with
      | 0, hf => simp at hf; exact .inl hf.symm
      | 1, hf => simp at hf; exact .inr (.inr ⟨by omega, hf.symm⟩)
      | m + 2, hf => simp at hf
  have hlen : (s.set i Ent.no ++ [Ent.no] ++ [e']).length = s.length + 2 := by simp
  have live : ∀ (j : Nat) f, s[j]? = some f → j ≠ i → f.live = true → (ρ j).1 ≠ (ρ i).1 := fun j f hj hji hl hh => h.sep i j e f hi hj hown hl (fun x => hji x.symm) hh.symm
  have hib : (ρ i).1 < w.heap.size := (h.ent i e hi).lt (Ent.own_live hown)
  refine ⟨⟨fun j f hf => ?_, fun j k f g hf hg ho hl hij => ?_⟩, ⟨by rw [hlen]; omega, hρ, fun j f hf ho => ?_, hos, htape, hout, by omega, fun b hb hn => ?_⟩, fun j f hf => ?_⟩
  · rcases get j f hf with rfl | ⟨h1, h2, h3⟩ | ⟨rfl, rfl⟩
    · trivial
    · cases hlv : f.live with
      | true => exact RepE.congr hρ h1 (hs j f h3) (hblk _ (live j f h3 h2 hlv)) (by omega) (h.ent j f h3)
      | false => cases f <;> simp_all [Ent.live, RepE]
    · exact hrep
  · rcases get j f hf with rfl | ⟨h1, h2, h3⟩ | ⟨rfl, rfl⟩
    · cases ho
    · rcases get k g hg with rfl | ⟨k1, k2, k3⟩ | ⟨rfl, rfl⟩
      · cases hl
      · rw [hρ j h1, hρ k k1]; exact h.sep j k f g h3 k3 ho hl hij
      · rw [hρ j h1, hlast]; exact live j f h3 h2 (Ent.own_live ho)
    · rcases get k g hg with rfl | ⟨k1, k2, k3⟩ | ⟨rfl, rfl⟩
      · cases hl
      · rw [hρ k k1, hlast]; exact fun hh => live k g k3 k2 hl hh.symm
      · exact absurd rfl hij
  · rcases get j f hf with rfl | ⟨h1, h2, h3⟩ | ⟨rfl, rfl⟩
    · cases ho
    · exact .inl ⟨j, f, h3, ho, by rw [hρ j h1]⟩
    · exact .inl ⟨i, e, hi, hown, by rw [hlast]⟩
  · exact hblk b fun hh => hn i e hi hown hh.symm
  · rw [hlen]
    rcases get j f hf with rfl | ⟨h1, h2, h3⟩ | ⟨rfl, rfl⟩
    · trivial
    · have := hs j f h3
      have hle : s.length ≤ s.length + 2 := by omega
      exact Ent.bd_mono' hle f this
    · exact he
theorem setCells_rep {e : TypeId} (b : Nat) : ∀ (vs cs : List V) (o : Nat) (w : World), o + vs.length ≤ cs.length → w.heap[b]? = some (.cells (absL ρ cs).toArray e (0, 0)) →
    (w.setCells b o (absL ρ vs)).heap[b]? = some (.cells (absL ρ (setR cs o vs)).toArray e (0, 0)) ∧ (w.setCells b o (absL ρ vs)).heap.size = w.heap.size ∧ (w.setCells b o (absL ρ vs)).os = w.os ∧ (w.setCells b o (absL ρ vs)).tape = w.tape ∧ (w.setCells b o (absL ρ vs)).output = w.output ∧ ∀ c, c ≠ b → (w.setCells b o (absL ρ vs)).heap[c]? = w.heap[c]? := by
  intro vs
  induction vs with
  | nil => intro cs o w _ h; exact ⟨h, rfl, rfl, rfl, rfl, fun _ _ => rfl⟩
  | cons v vs ih =>
    intro cs o w hl h
    simp only [List.length_cons] at hl
    have hheap : (w.setCell ⟨b, o, none⟩ (v.abs ρ)).heap[b]? = some (.cells (absL ρ (cs.set o v)).toArray e (0, 0)) := by
      simp [World.setCell, Array.getElem?_modify, h, absL_map, List.map_set]
    obtain ⟨h1, h2, h3, h4, h5, h6⟩ := ih (cs.set o v) (o + 1) _ (by simp; omega) hheap
    rw [World.size_setCell] at h2
    refine ⟨h1, h2, h3, h4, h5, fun c hc => ?_⟩
    rw [← Go.RowKit.Below.heap_setCell w ⟨b, o, none⟩ (v.abs ρ) c hc]
    exact h6 c hc
theorem cellsAt_sound {s : Sto} (hr : Rep ρ s w) (hs : sbd s) {z i o n : Nat} {cs : List V} (h : vCellsAt s z i o n = some cs) :
    cs.length = n * z ∧ (∀ j v, (absL ρ cs)[j]? = some v → w.cell? ((⟨(ρ i).1, (ρ i).2 + o, none⟩ : Addr).add j) = some v) ∧ cs.all V.one = true ∧ bdL s.length cs := by
  unfold vCellsAt at h
  split at h
  · simp only [Option.some.injEq] at h
    subst h
    exact ⟨by simp, fun j v hv => by simp [absL] at hv, rfl, trivial⟩
  · split at h
    · rename_i e hi
      split at h
      · rename_i cs' hc
        split at h
        · rename_i hb
          simp only [Option.some.injEq] at h
          subst h
          simp only [Bool.and_eq_true] at hb
          have hle := Nat.le_of_ble_eq_true hb.1
          refine ⟨by rw [List.length_take, List.length_drop]; omega, fun j v hv => ?_, hb.2, ?_⟩
          · rw [absL_get] at hv
            obtain ⟨u, hu, rfl⟩ := Option.map_eq_some_iff.1 hv
            rw [List.getElem?_take] at hu
            split at hu
            · rw [List.getElem?_drop] at hu
              have := rep_cell hr hi hc hu
              rw [Addr.add_lit]
              simpa [Nat.add_assoc] using this
            · cases hu
          · have hbd : bdL s.length cs' := by
              have := hs i e hi
              cases e with
              | own c t => simp only [Ent.cells, Option.some.injEq] at hc; subst hc; exact this
              | ro c => simp only [Ent.cells, Option.some.injEq] at hc; subst hc; exact this
              | lst c t k z => simp only [Ent.cells, Option.some.injEq] at hc; subst hc; exact this.1
              | map => simp [Ent.cells] at hc
              | lp => simp [Ent.cells] at hc
              | arr => simp [Ent.cells] at hc
              | glob => simp [Ent.cells] at hc
              | no => simp [Ent.cells] at hc
            exact bdL_iff.2 fun v hv => bdL_iff.1 hbd v (List.mem_of_mem_drop (List.mem_of_mem_take hv))
        · cases h
      · cases h
    · cases h
theorem one_cells {cs : List V} (h : cs.all V.one = true) : ∀ u ∈ absL ρ cs, u.oneCell' = true := by
  intro u hu
  rw [absL_map] at hu
  obtain ⟨v, hv, rfl⟩ := List.mem_map.1 hu
  exact abs_one ρ (List.all_eq_true.1 h v hv)
theorem src_sound {s : Sto} (hr : Rep ρ s w) (hs : sbd s) {tx : TypeId} {d : TypeDesc} {z : Nat} {x : V} {n : Nat} {cs : List V} (hd : P.underlying tx = some d) (h : vSrc s d z x = some (n, cs)) :
    Src P z tx (x.abs ρ) n (absL ρ cs) w ∧ cs.length = n * z ∧ cs.all V.one = true ∧ bdL s.length cs := by
  unfold vSrc at h
  split at h
  · rename_i el i o n' c
    split at h
    · rename_i cs' hc
      cases h
      obtain ⟨h1, h2, h3, h4⟩ := cellsAt_sound hr hs hc
      exact ⟨Src.ofSlice w hd _ _ _ _ (by rw [absL_length]; exact h1) h2 (one_cells h3), h1, h3, h4⟩
    · cases h
  · rename_i el i k o e n'
    split at h
    · rename_i cs' hc
      cases h
      obtain ⟨h1, h2, h3, h4⟩ := cellsAt_sound hr hs hc
      exact ⟨Src.ofSlice w hd _ _ _ _ (by rw [absL_length]; exact h1) h2 (one_cells h3), h1, h3, h4⟩
    · cases h
  · rename_i p c
    cases h
    cases p with
    | none => exact ⟨Src.ofNil w hd _, by simp, rfl, trivial⟩
    | some a => exact ⟨Src.ofSlice w hd _ _ _ _ (by simp [absL]) (fun j v hj => by simp [absL] at hj) (fun v hv => by simp [absL] at hv), by simp, rfl, trivial⟩
  · rename_i y
    split at h
    · cases h
      have e : absL ρ (y.data.toList.map fun b => V.raw (.int .u8 b.toNat)) = byteCells y := by
        rw [absL_map, List.map_map]; rfl
      rw [e]
      refine ⟨Src.ofString w hd y, ?_, ?_, ?_⟩
      · rw [List.length_map, Array.length_toList, Nat.mul_one]; rfl
      · rw [List.all_map]; exact List.all_eq_true.2 fun _ _ => rfl
      · rw [bdL_iff]; intro v hv; obtain ⟨_, _, rfl⟩ := List.mem_map.1 hv; trivial
    · cases h
  · cases h
theorem zero_info {t : TypeId} {z : List V} {i : TypeInfo} (h : vZero P t = some z) (hi : P.info? t = some i) : ∃ v, i.zero = some v ∧ v.cells.size = z.length := by
  unfold vZero at h
  rw [hi] at h
  simp only at h
  split at h
  · rename_i v hv
    simp only [Option.some.injEq] at h
    subst h
    have := abs_cells (fun _ => (0, 0)) (.raw v)
    simp only [V.abs] at this
    exact ⟨v, hv, by rw [this]; simp [absL_length]⟩
  · cases h
theorem growOk_fits {need old bytes : Nat} (h : growOk need bytes = true) (hlt : old < need) : ((need : Nat) : Int) ≤ 9223372036854775807 ∧ Builtin.nextslicecap need old * bytes ≤ 281474976710656 := by
  unfold growOk at h
  simp only [Bool.and_eq_true] at h
  have h1 := Nat.le_of_ble_eq_true h.1
  have h2 := Nat.le_of_ble_eq_true h.2
  exact ⟨by omega, growslice_fits hlt h1⟩
/-- A new row behind the store, its room kept ahead of it. -/
theorem grow_sound {s : Sto} (hr : Rep ρ s w) (hs : sbd s) {t tx ty elem : TypeId} {inf : TypeInfo} {zl : List V} {dx : TypeDesc} (ht : P.underlying t = some (.slice elem)) (hi : P.info? elem = some inf) (hz : vZero P elem = some zl) (hzl : zl.length = inf.size)
    {base : Option Addr} {len cap : Nat} {old new : List V} {x : Value} {n : Nat} (hold : (Builtin.firstCells inf.size len (.slice base len cap)).run P w.drew = .ok (absL ρ old).toArray w.drew) (hol : old.length = len * inf.size) (hob : bdL s.length old)
    (hsrc : Src P inf.size tx x n (absL ρ new) w) (hnl : new.length = n * inf.size) (hnb : bdL s.length new) (hg : cap < len + n) (hok : growOk (len + n) inf.bytes = true) :
    ∃ ρ' w', (Builtin.append_ #[t, tx] ty #[.slice base len cap, x]).run P w = .ok ((V.lst (s.length + 1) s.length 0 0 (len + n)).abs ρ') w' ∧
      Rep ρ' (s ++ [.no] ++ [.lst (old ++ new) elem s.length inf.size]) w' ∧ Ext s ρ w (s ++ [.no] ++ [.lst (old ++ new) elem s.length inf.size]) ρ' w' ∧ sbd (s ++ [.no] ++ [.lst (old ++ new) elem s.length inf.size]) := by
  obtain ⟨zv, hzv, hzs⟩ := zero_info hz hi
  obtain ⟨h63, hfit⟩ := growOk_fits hok hg
  have hrun := run_append_grow_src (P := P) w t tx ty elem inf zv ht hi hzv base len cap (absL ρ old) hold x n (absL ρ new) hsrc hg h63 hfit
  obtain ⟨k1, k2, k3⟩ := Rep.keep hr.drew hs (grownCap w (len + n) cap elem)
  have hge := grownCap_ge w (len + n) cap elem
  have hρ : ∀ j, j < s.length → (ρ.push s.length (grownCap w (len + n) cap elem)) j = ρ j := fun j hj => Rho.push_lt hj
  have hlen : (s ++ [Ent.no]).length = s.length + 1 := by simp
  have hbd : bdL (s.length + 1) (old ++ new) := bdL_iff.2 fun v hv => V.bd_mono (Nat.le_succ _) v (by
    rcases List.mem_append.1 hv with h | h
    · exact bdL_iff.1 hob v h
    · exact bdL_iff.1 hnb v h)
  have hw : w.drew.heap.size = w.heap.size := rfl
  obtain ⟨r1, r2, r3⟩ := Rep.alloc (e := .lst (old ++ new) elem s.length inf.size)
    (o := .cells ((absL ρ old ++ absL ρ new).toArray ++ Builtin.zeroCells zv.cells (grownCap w (len + n) cap elem - (len + n))) elem) k1 k3 rfl (by rw [hlen]; exact ⟨hbd, Nat.lt_succ_self _⟩) (by
    refine ⟨(Builtin.zeroCells zv.cells (grownCap w (len + n) cap elem - (len + n))).toList, ?_, by rw [Rho.push_at], ?_⟩
    · rw [Rho.push_at]
      have e1 : absL ((ρ.push s.length (grownCap w (len + n) cap elem)).push (s ++ [Ent.no]).length w.drew.heap.size) (old ++ new) = absL ρ old ++ absL ρ new := by
        rw [absL_congr (n := s.length) (ρ := ρ) (fun j hj => by rw [Rho.push_lt (by rw [hlen]; omega), Rho.push_lt hj]) (old ++ new) (bdL_iff.2 fun v hv => by
          rcases List.mem_append.1 hv with h | h
          · exact bdL_iff.1 hob v h
          · exact bdL_iff.1 hnb v h), absL_append]
      rw [e1]
      show (w.drew.heap.push _)[w.drew.heap.size]? = _
      rw [Array.getElem?_push_size]
      congr 2
      apply Array.ext'
      simp
    · rw [Rho.push_lt (by rw [hlen]; omega), Rho.push_at]
      simp only [List.length_append, hol, hnl, Builtin.zeroCells, Array.length_toList, Array.size_map, Array.size_range, hzs, hzl]
      rw [← Nat.add_mul, ← Nat.add_mul]
      congr 1
      omega)
  refine ⟨_, _, ?_, r1, Ext.drew (k2.trans r2), r3⟩
  rw [hrun]
  simp only [V.abs, hlen]
  rw [Rho.push_at, Rho.push_lt (by omega), Rho.push_at]
  rfl
theorem setR_cut : ∀ (vs cs : List V) (o : Nat), o + vs.length ≤ cs.length → setR cs o vs = cs.take o ++ vs ++ cs.drop (o + vs.length) := by
  intro vs
  induction vs with
  | nil => intro cs o _; simp [setR]
  | cons v vs ih =>
    intro cs o h
    simp only [List.length_cons] at h
    simp only [setR]
    rw [ih _ _ (by simp; omega)]
    apply List.ext_getElem?
    intro j
    simp only [List.getElem?_append, List.length_take, List.length_append, List.length_set, List.getElem?_take, List.getElem?_drop, List.length_cons]
    by_cases h1 : j < o
    · rw [if_pos (by omega), if_pos (by omega), if_pos (by omega), if_pos (by omega), if_pos (by omega), if_pos (by omega), List.getElem?_set_ne (by omega)]
    · by_cases h2 : j = o
      · subst h2
        rw [if_pos (by omega), if_pos (by omega), if_pos (by omega), List.getElem?_set_self (by omega), if_pos (by omega), if_neg (by omega)]
        have : j - min j cs.length = 0 := by omega
        rw [this]; rfl
      · by_cases h3 : j < o + 1 + vs.length
        · rw [if_pos (by omega), if_neg (by omega), if_pos (by omega), if_neg (by omega)]
          have : j - min o cs.length = (j - min (o + 1) cs.length) + 1 := by omega
          rw [this, List.getElem?_cons_succ]
        · rw [if_neg (by omega), if_neg (by omega), List.getElem?_set_ne (by omega)]
          congr 1
          omega
/-- In place. -/
theorem room_sound {s : Sto} (hr : Rep ρ s w) (hs : sbd s) {t tx ty elem : TypeId} {inf : TypeInfo} (ht : P.underlying t = some (.slice elem)) (hi : P.info? elem = some inf)
    {i o len cap n : Nat} {full new : List V} {el : TypeId} {x : Value} (hsrc : Src P inf.size tx x n (absL ρ new) w) (hnl : new.length = n * inf.size)
    (hheap : w.heap[(ρ i).1]? = some (.cells (absL ρ full).toArray el (0, 0))) (h0 : (ρ i).2 = 0) (hle : o + len * inf.size + n * inf.size ≤ full.length) (hroom : len + n ≤ cap) :
    ∃ w', (Builtin.append_ #[t, tx] ty #[.slice (some ⟨(ρ i).1, (ρ i).2 + o, none⟩) len cap, x]).run P w = .ok (.slice (some ⟨(ρ i).1, (ρ i).2 + o, none⟩) (len + n) cap) w' ∧
      w'.heap[(ρ i).1]? = some (.cells (absL ρ (setR full (o + len * inf.size) new)).toArray el (0, 0)) ∧ w'.heap.size = w.heap.size ∧ w'.os = w.os ∧ w'.tape = w.tape ∧ w'.output = w.output ∧ ∀ c, c ≠ (ρ i).1 → w'.heap[c]? = w.heap[c]? := by
  have hlen : o + len * inf.size + new.length ≤ full.length := by omega
  have hrun := run_append_room_src (P := P) w t tx ty elem inf ht hi (ρ i).1 ((ρ i).2 + o) len cap x n (absL ρ new) hsrc hroom
    (fun j hj => by
      rw [absL_length] at hj
      simp only [World.cell?, hheap, h0]
      simp [absL_length]
      omega)
    (fun j hj => by simp [World.frozen?, hheap])
  refine ⟨_, hrun, ?_⟩
  have := setCells_rep (ρ := ρ) (e := el) (ρ i).1 new full (o + len * inf.size) w hlen hheap
  rw [h0, Nat.zero_add]
  exact this
theorem appendTo_sound {R : Type} {no : R} {T : R → Prop} (hno : ¬ T no) {s : Sto} {t tx ty elem : TypeId} {sv xv : V} {K : Kt R} {inf : TypeInfo} {zl : List V} {dx : TypeDesc} {n : Nat} {new : List V} (hr : Rep ρ s w) (hs : sbd s) (hsb : sv.bd s.length)
    (ht : P.underlying t = some (.slice elem)) (hi : P.info? elem = some inf) (hz : vZero P elem = some zl) (hzl : zl.length = inf.size) (hsrc : Src P inf.size tx (xv.abs ρ) n (absL ρ new) w) (hnl : new.length = n * inf.size) (hnb : bdL s.length new)
    (hk : T (vAppendTo no s elem inf.size inf.bytes sv n new K)) :
    ∃ v s' ρ' w', (Builtin.append_ #[t, tx] ty #[sv.abs ρ, xv.abs ρ]).run P w = .ok (v.abs ρ') w' ∧ T (K v s') ∧ Rep ρ' s' w' ∧ Ext s ρ w s' ρ' w' ∧ sbd s' ∧ v.bd s'.length := by
  have n0 : n = 0 → new = [] := fun h => List.eq_nil_of_length_eq_zero (by rw [hnl, h, Nat.zero_mul])
  cases sv with
  | sl i o len cap =>
    simp only [vAppendTo] at hk
    split at hk
    · rename_i hcap
      have hcap := Nat.le_of_ble_eq_true hcap
      split at hk
      · have hn := n0 rfl
        subst hn
        have hrun := run_append_room_src (P := P) w t tx ty elem inf ht hi (ρ i).1 ((ρ i).2 + o) len cap (xv.abs ρ) 0 [] hsrc hcap (fun j hj => by simp at hj) (fun j hj => by simp at hj)
        exact ⟨.sl i o len cap, s, ρ, w, hrun, hk, hr, Ext.refl _ _ _, hs, hsb⟩
      · split at hk
        · rename_i cs e hcs
          split at hk
          · rename_i hle
            have hle := Nat.le_of_ble_eq_true hle
            obtain ⟨g1, g2⟩ := hr.ent i _ hcs
            obtain ⟨w', h1, h2, h3, h4, h5, h6, h7⟩ := room_sound (ty := ty) hr hs ht hi hsrc hnl g1 g2 hle hcap
            obtain ⟨r1, r2, r3⟩ := Rep.change (e' := .own (setR cs (o + len * inf.size) new) e) hr hs hcs rfl rfl (bdL_setR hnb (hs i _ hcs)) ⟨h2, g2⟩ h3 h4 h5 h6 h7
            exact ⟨.sl i o (len + n) cap, _, ρ, w', h1, hk, r1, r2, r3, by rw [List.length_set]; exact hsb⟩
          · exact (hno hk).elim
        · exact (hno hk).elim
    · rename_i hcap
      have hcap : cap < len + n := by
        rcases Nat.lt_or_ge cap (len + n) with h | h
        · exact h
        · rw [Nat.ble_eq_true_of_le h] at hcap; cases hcap
      split at hk
      · rename_i hok
        obtain ⟨old, ho, hk⟩ := Wi.out hno hk
        obtain ⟨o1, o2, o3, o4⟩ := cellsAt_sound hr hs ho
        have hold : (Builtin.firstCells inf.size len (.slice (some ⟨(ρ i).1, (ρ i).2 + o, none⟩) len cap)).run P w.drew = .ok (absL ρ old).toArray w.drew :=
          run_firstCells_some w.drew inf.size len _ len cap (absL ρ old) (by rw [absL_length]; exact o1) o2
        obtain ⟨ρ', w', h1, h2, h3, h4⟩ := grow_sound (ty := ty) (dx := dx) hr hs ht hi hz hzl hold o1 o4 hsrc hnl hnb hcap hok
        exact ⟨_, _, ρ', w', h1, hk, h2, h3, h4, by simp [V.bd]⟩
      · exact (hno hk).elim
  | raw v =>
    unfold vAppendTo at hk
    split at hk
    case h_1 h => cases h
    case h_3 h => cases h
    case h_4 => exact (hno hk).elim
    rename_i hv
    cases hv
    split at hk
    · have hn := n0 rfl
      subst hn
      have hrun : (Builtin.append_ #[t, tx] ty #[.slice none 0 0, xv.abs ρ]).run P w = .ok (.slice none 0 0) w := by
        rcases hsrc.kind with ⟨e', hk⟩ | hk <;> simp [Builtin.append_, run_underlying ht, run_underlying hk, sizeOf, typeInfo, hi, hsrc.len, hsrc.cells, absL]
      exact ⟨.raw (.slice none 0 0), s, ρ, w, hrun, hk, hr, Ext.refl _ _ _, hs, hsb⟩
    · rename_i hn
      split at hk
      · rename_i hok
        have hpos : 0 < n := by
          cases n with
          | zero => exact absurd rfl hn
          | succ n => omega
        obtain ⟨ρ', w', h1, h2, h3, h4⟩ := grow_sound (old := []) (ty := ty) (dx := dx) (len := 0) (cap := 0) (base := none) hr hs ht hi hz hzl (run_firstCells_none w.drew inf.size 0 0 0) (by simp) trivial hsrc hnl hnb (by omega) (by rw [Nat.zero_add]; exact hok)
        rw [Nat.zero_add] at h1
        exact ⟨_, _, ρ', w', h1, hk, h2, h3, h4, by simp [V.bd]⟩
      · exact (hno hk).elim
  | lst i k o e len =>
    simp only [vAppendTo] at hk
    split at hk
    · exact (hno hk).elim
    · rename_i hfit
      have hfle := lstFits_le hr hfit
      split at hk
      · have hn := n0 rfl
        subst hn
        have hrun := run_append_room_src (P := P) w t tx ty elem inf ht hi (ρ i).1 ((ρ i).2 + o) len ((ρ k).1 - e) (xv.abs ρ) 0 [] hsrc (by omega) (fun j hj => by simp at hj) (fun j hj => by simp at hj)
        exact ⟨.lst i k o e len, s, ρ, w, hrun, hk, hr, Ext.refl _ _ _, hs, hsb⟩
      · split at hk
        · rename_i hnn cs el k' z' hcs
          split at hk
          · rename_i hze
            simp only [Bool.and_eq_true] at hze
            have hz1 := Nat.eq_of_beq_eq_true hze.1
            have hz2 := Nat.eq_of_beq_eq_true hze.2
            subst hz1
            subst hz2
            obtain ⟨rest, g1, g2, g3⟩ := hr.ent i _ hcs
            have hbd := hs i _ hcs
            have hkk : k = k' ∧ 0 < inf.size := by
              unfold lstFits at hfit
              rw [hcs] at hfit
              simp only [Bool.and_eq_true, Nat.blt_eq] at hfit
              exact ⟨Nat.eq_of_beq_eq_true hfit.1, hfit.2.1⟩
            obtain ⟨rfl, hzp⟩ := hkk
            have g1' : w.heap[(ρ i).1]? = some (.cells (absL ρ (cs ++ rest.map .raw)).toArray el (0, 0)) := by rw [absL_append, absL_raw]; exact g1
            split at hk
            · rename_i hin
              simp only [Bool.and_eq_true] at hin
              have hle := Nat.le_of_ble_eq_true hin.1
              have hroom := lstFits_le hr hin.2
              obtain ⟨w', h1, h2, h3, h4, h5, h6, h7⟩ := room_sound (ty := ty) (o := o) (len := len) (full := cs ++ rest.map .raw) (cap := (ρ k).1 - e) hr hs ht hi hsrc hnl g1' g2 (by rw [List.length_append]; omega) (by omega)
              rw [setR_append (rest.map .raw) new cs (o + len * inf.size) (by omega), absL_append, absL_raw] at h2
              obtain ⟨r1, r2, r3⟩ := Rep.change (e' := .lst (setR cs (o + len * inf.size) new) el k inf.size) hr hs hcs rfl rfl ⟨bdL_setR hnb hbd.1, hbd.2⟩ ⟨rest, h2, g2, by rw [setR_length]; exact g3⟩ h3 h4 h5 h6 h7
              exact ⟨.lst i k o e (len + n), _, ρ, w', h1, hk, r1, r2, r3, by rw [List.length_set]; exact hsb⟩
            · split at hk
              · split at hk
                · rename_i hgo
                  simp only [Bool.and_eq_true] at hgo
                  obtain ⟨hok, hle, ho1⟩ := hgo
                  have hle := Nat.le_of_ble_eq_true hle
                  have hol : (cs.take (len * inf.size)).length = len * inf.size := by rw [List.length_take]; omega
                  have hob : bdL s.length (cs.take (len * inf.size)) := bdL_iff.2 fun v hv => bdL_iff.1 hbd.1 v (List.mem_of_mem_take hv)
                  have hil : i < s.length := (List.getElem?_eq_some_iff.1 hcs).1
                  by_cases hroom : len + n ≤ (ρ k).1
                  · have hfull : 0 + len * inf.size + n * inf.size ≤ (cs ++ rest.map V.raw).length := by
                      rw [List.length_append, List.length_map, g3, Nat.zero_add, ← Nat.add_mul]
                      exact Nat.mul_le_mul_right _ hroom
                    obtain ⟨w', h1, h2, h3, h4, h5, h6, h7⟩ := room_sound (ty := ty) (o := 0) (cap := (ρ k).1 - 0) hr hs ht hi hsrc hnl g1' g2 hfull (by omega)
                    have hcut : ∃ rest' : List Value, absL ρ (setR (cs ++ rest.map V.raw) (0 + len * inf.size) new) = absL ρ (cs.take (len * inf.size) ++ new) ++ rest' ∧ (cs.take (len * inf.size) ++ new).length + rest'.length = (cs ++ rest.map V.raw).length := by
                      refine ⟨absL ρ ((cs ++ rest.map V.raw).drop (len * inf.size + new.length)), ?_, ?_⟩
                      · rw [Nat.zero_add, setR_cut _ _ _ (by omega), List.take_append_of_le_length hle, absL_append]
                      · rw [absL_length, List.length_append, List.length_drop, hol]; omega
                    obtain ⟨rest', q1, q2⟩ := hcut
                    have hρ : ∀ j, j < s.length → ((ρ.push s.length (ρ k).1).push (s.length + 1) (ρ i).1) j = ρ j := fun j hj => by rw [Rho.push_lt (by omega), Rho.push_lt hj]
                    have hnew : bdL s.length (cs.take (len * inf.size) ++ new) := bdL_iff.2 fun v hv => by
                      rcases List.mem_append.1 hv with h | h
                      · exact bdL_iff.1 hob v h
                      · exact bdL_iff.1 hnb v h
                    obtain ⟨r1, r2, r3⟩ := Rep.regrow (c := (ρ k).1) (e' := .lst (cs.take (len * inf.size) ++ new) el s.length inf.size) hr hs hcs rfl rfl ⟨bdL_mono (by omega) _ hnew, by omega⟩
                      ⟨rest', by rw [Rho.push_at, absL_congr (ρ := ρ) hρ _ hnew, ← q1]; exact h2, by rw [Rho.push_at], by
                        rw [Rho.push_lt (by omega), Rho.push_at, q2, List.length_append, List.length_map]; exact g3⟩ h3 h4 h5 h6 h7
                    refine ⟨_, _, _, w', ?_, hk, r1, r2, r3, by simp [V.bd]⟩
                    simp only [V.abs]
                    rw [Rho.push_at, Rho.push_lt (by omega), Rho.push_at, h1, g2]
                  · obtain ⟨f1, f2, f3⟩ := Rep.forget hr hs i
                    have hl : (s.set i .no).length = s.length := by simp
                    have hold : (Builtin.firstCells inf.size len (.slice (some ⟨(ρ i).1, (ρ i).2 + 0, none⟩) len ((ρ k).1 - 0))).run P w.drew = .ok (absL ρ (cs.take (len * inf.size))).toArray w.drew := by
                      refine run_firstCells_some w.drew inf.size len _ len _ _ (by rw [absL_length]; exact hol) fun j v hv => ?_
                      rw [absL_get] at hv
                      obtain ⟨u, hu, rfl⟩ := Option.map_eq_some_iff.1 hv
                      rw [List.getElem?_take] at hu
                      split at hu
                      · rw [Addr.add_lit]; exact rep_cell hr hcs rfl hu
                      · cases hu
                    obtain ⟨ρ', w', h1, h2, h3, h4⟩ := grow_sound (s := s.set i .no) (ty := ty) (dx := dx) f1 f3 ht hi hz hzl hold hol (by rw [hl]; exact hob) hsrc hnl (by rw [hl]; exact hnb) (by omega) hok
                    rw [hl] at h1 h2 h3 h4
                    exact ⟨_, _, ρ', w', h1, hk, h2, f2.trans h3, h4, by simp [V.bd]⟩
                · exact (hno hk).elim
              · exact (hno hk).elim
          · exact (hno hk).elim
        · exact (hno hk).elim
  | _ => exact (hno hk).elim
end
end Go.Proofs.YtpahclogghdnpaaDoorRL
