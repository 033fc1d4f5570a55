/- Parts of the proof, one behind the other. -/
import Derived.Test.YtalgegmcllcnmaazLabJumpsRLH
section
/- RL: clear and copy. -/
namespace Go.Proofs.YtalgegmcllcnmaaRL
open Go
set_option linter.unusedVariables false
set_option linter.unusedSimpArgs false
section
variable {P : Program} {ρ : Rho} {w : World}
theorem raws_one {l : List Value} (h : ∀ u ∈ l, u.oneCell' = true) : (l.map V.raw).all V.one = true := by
  rw [List.all_eq_true]
  intro v hv
  obtain ⟨u, hu, rfl⟩ := List.mem_map.1 hv
  have := h u hu
  cases u <;> simp_all [V.one, Value.oneCell']
theorem setR_raws {cs nv : List Value} {o : Nat} (h : o + nv.length ≤ cs.length) : absL ρ (setR (cs.map V.raw) o (nv.map V.raw)) = cs.take o ++ nv ++ cs.drop (o + nv.length) := by
  rw [setR_cut _ _ _ (by simpa using h), List.length_map, ← List.map_take, ← List.map_drop, ← List.map_append, ← List.map_append, absL_raws]
/-- Elements of an array written over. -/
theorem owE_sound {s : Sto} (hr : Rep ρ s w) (hs : sbd s) {i lo n N : Nat} {m : AM} {tc bs tc' : List Col} {e : TypeId} (hi : s[i]? = some (.arr m tc N e)) (hmo : m.isOwn = true) {nv : List Value} (hone : ∀ u ∈ nv, u.oneCell' = true)
    (hnl : nv.length = n * tc.length) (hb : holdsA bs n nv) (hov : ovCs lo n tc bs = some tc') (hle : lo + n ≤ N) :
    ∃ w', (storeCells ⟨(ρ i).1, (ρ i).2 + lo * tc.length, none⟩ nv).run P w = .ok () w' ∧ Rep ρ (s.set i (.arr m tc' N e)) w' ∧ Ext s ρ w (s.set i (.arr m tc' N e)) ρ w' ∧ sbd (s.set i (.arr m tc' N e)) := by
  obtain ⟨cs, h1, h2, h3, h4⟩ := hr.ent i _ hi
  have hl2 : lo * tc.length + nv.length ≤ cs.length := by
    rw [hnl, h1, ← Nat.add_mul]
    exact Nat.mul_le_mul_right _ hle
  obtain ⟨g1, g2⟩ := ov_holds hov h3 h1 hb hnl hle
  have hones : ∀ u ∈ cs.take (lo * tc.length) ++ nv ++ cs.drop (lo * tc.length + nv.length), u.oneCell' = true := by
    intro u hu
    rcases List.mem_append.1 hu with hu | hu
    · rcases List.mem_append.1 hu with hu | hu
      · exact h2 u (List.mem_of_mem_take hu)
      · exact hone u hu
    · exact h2 u (List.mem_of_mem_drop hu)
  have hlen : (cs.take (lo * tc.length) ++ nv ++ cs.drop (lo * tc.length + nv.length)).length = N * tc'.length := by
    rw [g1, ← h1]
    simp only [List.length_append, List.length_take, List.length_drop]
    omega
  have key : ∀ rest : List Value, w.heap[(ρ i).1]? = some (.cells (cs ++ rest).toArray e (0, 0)) → (ρ i).2 = 0 →
      ∃ w', (storeCells ⟨(ρ i).1, (ρ i).2 + lo * tc.length, none⟩ nv).run P w = .ok () w' ∧ w'.heap[(ρ i).1]? = some (.cells ((cs.take (lo * tc.length) ++ nv ++ cs.drop (lo * tc.length + nv.length)) ++ rest).toArray e (0, 0)) ∧ w'.heap.size = w.heap.size ∧ w'.os = w.os ∧ w'.tape = w.tape ∧ w'.output = w.output ∧ ∀ b, b ≠ (ρ i).1 → w'.heap[b]? = w.heap[b]? := by
    intro rest hh h20
    obtain ⟨w', r1, r2, r3, r4, r5, r6, r7⟩ := run_storeCells (P := P) (ρ := ρ) (i := i) (e := e) h20 (lo * tc.length) (nv.map V.raw) 0 ((cs ++ rest).map V.raw) w (raws_one hone) (by simp; omega) (by rw [absL_raws]; exact hh)
    rw [absL_raws] at r1
    refine ⟨w', r1, ?_, r3, r4, r5, r6, r7⟩
    rw [r2, Nat.add_zero, setR_raws (by simp; omega)]
    congr 2
    rw [List.take_append_of_le_length (by omega), List.drop_append_of_le_length (by omega)]
    simp
  have hil := hs i _ hi
  cases m with
  | ro => cases hmo
  | own =>
    obtain ⟨h5, h6⟩ := h4
    obtain ⟨w', r1, r2, r3, r4, r5, r6, r7⟩ := key [] (by simpa using h5) h6
    obtain ⟨q1, q2, q3⟩ := Rep.change (e' := .arr .own tc' N e) hr hs hi rfl rfl hil ⟨_, hlen, hones, g2, by simpa using r2, h6⟩ r3 r4 r5 r6 r7
    exact ⟨w', r1, q1, q2, q3⟩
  | grow k =>
    obtain ⟨rest, h5, h6, h7⟩ := h4
    obtain ⟨w', r1, r2, r3, r4, r5, r6, r7⟩ := key rest h5 h6
    obtain ⟨q1, q2, q3⟩ := Rep.change (e' := .arr (.grow k) tc' N e) hr hs hi rfl rfl hil ⟨_, hlen, hones, g2, rest, r2, h6, by rw [hlen, g1, ← h1]; exact h7⟩ r3 r4 r5 r6 r7
    exact ⟨w', r1, q1, q2, q3⟩
/-- Cells of a block of its own written over. -/
theorem owC_sound {s : Sto} (hr : Rep ρ s w) (hs : sbd s) {i o : Nat} {cs vs : List V} {e : TypeId} (hi : s[i]? = some (.own cs e)) (hone : vs.all V.one = true) (hb : bdL s.length vs) (hle : o + vs.length ≤ cs.length) :
    ∃ w', (storeCells ⟨(ρ i).1, (ρ i).2 + o, none⟩ (absL ρ vs)).run P w = .ok () w' ∧ Rep ρ (s.set i (.own (setR cs o vs) e)) w' ∧ Ext s ρ w (s.set i (.own (setR cs o vs) e)) ρ w' ∧ sbd (s.set i (.own (setR cs o vs) e)) := by
  obtain ⟨g1, g2⟩ := hr.ent i _ hi
  obtain ⟨w', r1, r2, r3, r4, r5, r6, r7⟩ := run_storeCells (P := P) (ρ := ρ) (i := i) (e := e) g2 o vs 0 cs w hone (by omega) g1
  obtain ⟨q1, q2, q3⟩ := Rep.change (e' := .own (setR cs o vs) e) hr hs hi rfl rfl (bdL_setR hb (hs i _ hi)) ⟨by simpa using r2, g2⟩ r3 r4 r5 r6 r7
  exact ⟨w', r1, q1, q2, q3⟩
/-- So many zeros behind one another, as the machine has them. -/
theorem zeroCells_eq {v : Value} {z : List V} {n : Nat} (hz : v.cells = (absL ρ z).toArray) : Builtin.zeroCells v.cells n = (absL ρ (vZeros z z.length n)).toArray := by
  unfold Builtin.zeroCells
  have : v.cells.size = z.length := by rw [hz]; simp [absL_length]
  rw [← zeros_sound hz rfl]
  rw [this]
end
def vClear {R : Type} (no : R) (P : Program) (ts : List TypeId) (args : List V) (s : Sto) (K : Kt R) : R :=
  match ts, args with
  | t :: _, x :: _ => Wi no (P.underlying t) fun d => match d, x with
    | .slice _, .raw (.slice none _ _) => K (.tup []) s
    | .slice _, .raw (.slice _ 0 _) => K (.tup []) s
    | .slice _, .lend _ _ _ _ _ _ => K (.tup []) s
    | .slice elem, .sl i o n _ => match n with
      | 0 => K (.tup []) s
      | _ => match s[i]? with
        | some (.own cs e) => Wi no (vZero P elem) fun z => match Nat.ble (o + (vZeros z z.length n).length) cs.length && (vZeros z z.length n).all V.one with
          | true => flA (setR cs o (vZeros z z.length n)) fun cs => K (.tup []) (s.set i (.own cs e))
          | false => no
        | _ => no
    | .slice elem, .sle i z k0 n _ => match s[i]? with
      | some (.arr .own tc N e) => Wi no (vZero P elem) fun zl => Wi no (colsNE zl) fun zc => match Nat.beq z tc.length && Nat.beq zl.length z with
        | true => Br (Nat.beq n 0) (K (.tup []) s) (Br (Nat.ble (k0 + n) N) (Wi no (ovCs k0 n tc zc) fun tc' => K (.tup []) (s.set i (.arr .own tc' N e))) no)
        | false => no
      | _ => no
    | .slice elem, .lse i k z e0 n => match s[i]? with
      | some (.arr (.grow k') tc N e) => Wi no (vZero P elem) fun zl => Wi no (colsNE zl) fun zc => match Nat.beq z tc.length && Nat.beq zl.length z with
        | true => Br (Nat.beq n 0) (K (.tup []) s) (Br (Nat.ble (e0 + n) N) (Wi no (ovCs e0 n tc zc) fun tc' => K (.tup []) (s.set i (.arr (.grow k') tc' N e))) no)
        | false => no
      | _ => no
    | _, _ => no
  | _, _ => no
section
variable {P : Program} {ρ : Rho} {w : World} {R : Type} {no : R} {T : R → Prop}
theorem colsNE_of {z : List V} {cols : List Col} (h : colsNE z = some cols) : colsOf z = some cols := by
  unfold colsNE at h
  split at h
  · cases h
  · exact h
/-- Rows of zeros hold the columns of zeros. -/
theorem zeros_holds {z : List V} {cols : List Col} (h : colsOf z = some cols) (n : Nat) : (absL ρ (vZeros z z.length n)).length = n * cols.length ∧ holdsA cols n (absL ρ (vZeros z z.length n)) ∧ ∀ u ∈ absL ρ (vZeros z z.length n), u.oneCell' = true := by
  obtain ⟨h1, h2⟩ := vZeros_flat h
  have hlen : (vZeros z z.length n).length = n * z.length := by
    unfold vZeros
    split
    · rename_i h1; rw [List.length_replicate, h1, Nat.mul_one]
    · simp
  have hall : ∀ (q : Nat) v, z[q]? = some v → ∃ u, v = .raw u ∧ u.oneCell' = true := by
    clear h1 h2 hlen
    induction z generalizing cols with
    | nil => intro q v hq; simp at hq
    | cons v0 z ih =>
      intro q v hq
      simp only [colsOf] at h
      split at h
      · rename_i l hl
        cases q with
        | zero =>
          simp at hq
          subst hq
          split at h
          · exact ⟨_, rfl, rfl⟩
          · exact ⟨_, rfl, rfl⟩
          · exact ⟨_, rfl, rfl⟩
          · cases h
        | succ q => exact ih hl q v (by simpa using hq)
      · cases h
  refine ⟨by rw [absL_length, hlen, h1], fun j c col u hj hc hu => ?_, fun u hu => ?_⟩
  · have hcl : c < cols.length := (List.getElem?_eq_some_iff.1 hc).1
    rw [absL_get]
    have hq : j * cols.length + c < n * z.length := by
      have : (j + 1) * cols.length ≤ n * cols.length := Nat.mul_le_mul_right _ hj
      rw [Nat.add_mul, Nat.one_mul, h1] at this
      rw [h1]
      rw [h1] at hcl
      omega
    rw [vZeros_get rfl hq, h1, Nat.mul_comm j, Nat.mul_add_mod, Nat.mod_eq_of_lt (by omega), h2 c col j u hc hu]
    rfl
  · rw [absL_map] at hu
    obtain ⟨v, hv, rfl⟩ := List.mem_map.1 hu
    obtain ⟨q, hq, rfl⟩ := List.mem_iff_getElem.1 hv
    have h3 := vZeros_get (z := z) (size := z.length) (n := n) rfl (by rw [← hlen]; exact hq)
    rw [List.getElem?_eq_getElem hq] at h3
    obtain ⟨u, hu, h4⟩ := hall _ _ h3.symm
    rw [hu]; exact h4
theorem clear_sound (hno : ¬ T no) {ts : List TypeId} {ty : TypeId} {args : List V} {s : Sto} {K : Kt R} (hr : Rep ρ s w) (hs : sbd s) (hb : bdL s.length args) (hk : T (vClear no P ts args s K)) :
    ∃ v s' w', (Builtin.clear_ ts.toArray ty (absL ρ args).toArray).run P w = .ok (v.abs ρ) w' ∧ T (K v s') ∧ Rep ρ s' w' ∧ Ext s ρ w s' ρ w' ∧ sbd s' ∧ v.bd s'.length := by
  unfold vClear at hk
  split at hk
  case h_2 => exact (hno hk).elim
  rename_i t ts x args
  obtain ⟨d, hd, hk⟩ := Wi.out hno hk
  have plain : ∀ {K0 : Kt R}, T (K0 (.tup []) s) → (Builtin.clear_ (t :: ts).toArray ty (absL ρ (x :: args)).toArray).run P w = .ok (.tuple #[]) w → ∃ v s' w', (Builtin.clear_ (t :: ts).toArray ty (absL ρ (x :: args)).toArray).run P w = .ok (v.abs ρ) w' ∧ T (K0 v s') ∧ Rep ρ s' w' ∧ Ext s ρ w s' ρ w' ∧ sbd s' ∧ v.bd s'.length :=
    fun hk hrun => ⟨.tup [], s, w, by rw [hrun]; simp [V.abs, absL], hk, hr, Ext.refl _ _ _, hs, trivial⟩
  split at hk
  · exact plain hk (by simp [Builtin.clear_, absL, V.abs, run_underlying hd])
  · exact plain hk (by rename_i b _ _; cases b <;> simp [Builtin.clear_, absL, V.abs, run_underlying hd])
  · exact plain hk (by simp [Builtin.clear_, absL, V.abs, run_underlying hd])
  · rename_i elem i o n cap _
    split at hk
    · exact plain hk (by simp [Builtin.clear_, absL, V.abs, run_underlying hd])
    · rename_i hn
      split at hk
      case h_2 => exact (hno hk).elim
      rename_i cs e hi
      obtain ⟨z, hz, hk⟩ := Wi.out hno hk
      split at hk
      case h_2 => exact (hno hk).elim
      rename_i hc
      rw [flA_eq] at hk
      simp only [Bool.and_eq_true] at hc
      obtain ⟨v, z1, z2, z3⟩ := zero_sound (P := P) (ρ := ρ) (w := w) hz
      obtain ⟨w', r1, r2, r3, r4⟩ := owC_sound (P := P) hr hs hi hc.2 (zeros_bd (z3 _)) (Nat.le_of_ble_eq_true hc.1)
      refine ⟨.tup [], _, w', ?_, hk, r2, r3, r4, trivial⟩
      obtain ⟨q, rfl⟩ : ∃ q, n = q + 1 := ⟨n - 1, by have : n ≠ 0 := fun h => hn h; omega⟩
      simp only [Builtin.clear_, absL, V.abs, List.getElem?_toArray, List.getElem?_cons_zero, Sem.run_bind, run_underlying hd, Result.andThen_ok, z1, zeroCells_eq z2]
      rw [r1]
      simp
  · rename_i elem i z k0 n cap _
    split at hk
    case h_2 => exact (hno hk).elim
    rename_i tc N e hi
    obtain ⟨zl, hz, hk1⟩ := Wi.out hno hk
    clear hk
    obtain ⟨zc, hzc, hq⟩ := Wi.out hno hk1
    clear hk1
    split at hq
    case h_2 => exact (hno hq).elim
    rename_i hc
    simp only [Bool.and_eq_true] at hc
    obtain rfl := Nat.eq_of_beq_eq_true hc.1
    have hzl := Nat.eq_of_beq_eq_true hc.2
    rcases Br.out hq with ⟨h0, hf⟩ | ⟨h0, hf⟩
    · obtain rfl := Nat.eq_of_beq_eq_true h0
      exact plain hf (by simp [Builtin.clear_, absL, V.abs, run_underlying hd])
    · rcases Br.out hf with ⟨h1, hg⟩ | ⟨_, hg⟩
      case inr => exact (hno hg).elim
      obtain ⟨tc', hov, hl⟩ := Wi.out hno hg
      obtain ⟨v, z1, z2, z3⟩ := zero_sound (P := P) (ρ := ρ) (w := w) hz
      obtain ⟨g1, g2, g3⟩ := zeros_holds (ρ := ρ) (colsNE_of hzc) n
      obtain ⟨w', r1, r2, r3, r4⟩ := owE_sound (P := P) hr hs hi rfl g3 (by rw [g1, colsNE_len hzc, hzl]) g2 hov (Nat.le_of_ble_eq_true h1)
      refine ⟨.tup [], _, w', ?_, hl, r2, r3, r4, trivial⟩
      obtain ⟨q, rfl⟩ : ∃ q, n = q + 1 := ⟨n - 1, by have : n ≠ 0 := fun h => by subst h; cases h0
                                                     omega⟩
      simp only [Builtin.clear_, absL, V.abs, List.getElem?_toArray, List.getElem?_cons_zero, Sem.run_bind, run_underlying hd, Result.andThen_ok, z1, zeroCells_eq z2]
      rw [r1]
      simp
  · rename_i elem i k z e0 n _
    split at hk
    case h_2 => exact (hno hk).elim
    rename_i k' tc N e hi
    obtain ⟨zl, hz, hk1⟩ := Wi.out hno hk
    clear hk
    obtain ⟨zc, hzc, hq⟩ := Wi.out hno hk1
    clear hk1
    split at hq
    case h_2 => exact (hno hq).elim
    rename_i hc
    simp only [Bool.and_eq_true] at hc
    obtain rfl := Nat.eq_of_beq_eq_true hc.1
    have hzl := Nat.eq_of_beq_eq_true hc.2
    rcases Br.out hq with ⟨h0, hf⟩ | ⟨h0, hf⟩
    · obtain rfl := Nat.eq_of_beq_eq_true h0
      exact plain hf (by simp [Builtin.clear_, absL, V.abs, run_underlying hd])
    · rcases Br.out hf with ⟨h1, hg⟩ | ⟨_, hg⟩
      case inr => exact (hno hg).elim
      obtain ⟨tc', hov, hl⟩ := Wi.out hno hg
      obtain ⟨v, z1, z2, z3⟩ := zero_sound (P := P) (ρ := ρ) (w := w) hz
      obtain ⟨g1, g2, g3⟩ := zeros_holds (ρ := ρ) (colsNE_of hzc) n
      obtain ⟨w', r1, r2, r3, r4⟩ := owE_sound (P := P) hr hs hi rfl g3 (by rw [g1, colsNE_len hzc, hzl]) g2 hov (Nat.le_of_ble_eq_true h1)
      refine ⟨.tup [], _, w', ?_, hl, r2, r3, r4, trivial⟩
      obtain ⟨q, rfl⟩ : ∃ q, n = q + 1 := ⟨n - 1, by have : n ≠ 0 := fun h => by subst h; cases h0
                                                     omega⟩
      simp only [Builtin.clear_, absL, V.abs, List.getElem?_toArray, List.getElem?_cons_zero, Sem.run_bind, run_underlying hd, Result.andThen_ok, z1, zeroCells_eq z2]
      rw [r1]
      simp
  · exact (hno hk).elim
end
/-- A copy of n elements, told by columns, to where an array's part begins. -/
def cpyFin {R : Type} (no : R) (s : Sto) (i k0 len : Nat) (m : AM) (tc : List Col) (N : Nat) (e : TypeId) (K : Kt R) (n : Nat) (cols : List Col) : R :=
  Br (Nat.ble n len) (Br (Nat.ble (k0 + n) N) (Wi no (ovCs k0 n tc cols) fun tc' => K (.raw (.int .i64 n)) (s.set i (.arr m tc' N e))) no) no
def vCopy {R : Type} (no : R) (P : Program) (ts : List TypeId) (args : List V) (s : Sto) (K : Kt R) : R :=
  match ts, args with
  | [t, tx], [dv, xv] => Wi no (P.underlying t) fun d => Wi no (P.underlying tx) fun dx => match d with
    | .slice elem => Wi no (P.info? elem) fun inf => Wi no (vZero P elem) fun zl => match Nat.beq zl.length inf.size with
      | true => match dv with
        | .sle i z k0 len _ => match s[i]? with
          | some (.arr .own tc N e) => match Nat.beq z tc.length && Nat.beq inf.size z with
            | true => Wi no (colsNE zl) fun zs => vSrcE no s dx zs inf.size xv (cpyFin no s i k0 len .own tc N e K) (fun n _ c => Wi no c (cpyFin no s i k0 len .own tc N e K n))
            | false => no
          | _ => no
        | .lse i _ z e0 len => match s[i]? with
          | some (.arr (.grow k') tc N e) => match Nat.beq z tc.length && Nat.beq inf.size z with
            | true => Wi no (colsNE zl) fun zs => vSrcE no s dx zs inf.size xv (cpyFin no s i e0 len (.grow k') tc N e K) (fun n _ c => Wi no c (cpyFin no s i e0 len (.grow k') tc N e K n))
            | false => no
          | _ => no
        | .sl i o len _ => match s[i]? with
          | some (.own cs e) => Wi no (vSrc s dx inf.size xv) fun p => match Nat.ble p.1 len && Nat.ble (o + p.2.length) cs.length with
            | true => flA (setR cs o p.2) fun cs => K (.raw (.int .i64 p.1)) (s.set i (.own cs e))
            | false => no
          | _ => no
        | _ => no
      | false => no
    | _ => no
  | _, _ => no
section
variable {P : Program} {ρ : Rho} {w : World} {R : Type} {no : R} {T : R → Prop}
theorem cpyFin_sound (hno : ¬ T no) {t tx ty elem : TypeId} {inf : TypeInfo} {x : Value} {s : Sto} (hr : Rep ρ s w) (hs : sbd s) (ht : P.underlying t = some (.slice elem)) (hinf : P.info? elem = some inf) {i k0 len N cap : Nat} {m : AM} {tc : List Col} {e : TypeId} {K : Kt R} {n : Nat} {cols : List Col} {new : List Value}
    (hi : s[i]? = some (.arr m tc N e)) (hmo : m.isOwn = true) (hz : inf.size = tc.length) (hsrc : SrcE P inf.size tx x n cols new w) (hk : T (cpyFin no s i k0 len m tc N e K n cols)) :
    ∃ v s' w', (Builtin.copy_ #[t, tx] ty #[.slice (some ⟨(ρ i).1, (ρ i).2 + k0 * tc.length, none⟩) len cap, x]).run P w = .ok (v.abs ρ) w' ∧ T (K v s') ∧ Rep ρ s' w' ∧ Ext s ρ w s' ρ w' ∧ sbd s' ∧ v.bd s'.length := by
  unfold cpyFin at hk
  rcases Br.out hk with ⟨h1, hk1⟩ | ⟨_, hk1⟩
  case inr => exact (hno hk1).elim
  rcases Br.out hk1 with ⟨h2, hk2⟩ | ⟨_, hk2⟩
  case inr => exact (hno hk2).elim
  obtain ⟨tc', hov, hk3⟩ := Wi.out hno hk2
  have h1 := Nat.le_of_ble_eq_true h1
  obtain ⟨w', r1, r2, r3, r4⟩ := owE_sound (P := P) hr hs hi hmo hsrc.src.one (by rw [hsrc.len, hz]) hsrc.holds hov (Nat.le_of_ble_eq_true h2)
  refine ⟨.raw (.int .i64 n), _, w', ?_, hk3, r2, r3, r4, trivial⟩
  simp only [Builtin.copy_, List.getElem?_toArray, List.getElem?_cons_zero, List.getElem?_cons_succ, Sem.run_bind, run_underlying ht, Result.andThen_ok, hsrc.src.len, run_sizeOf hinf, Nat.min_eq_left h1, Nat.min_def, if_pos h1, hsrc.src.cells]
  rw [r1]
  simp [V.abs, goInt]
theorem copy_sound (hno : ¬ T no) {ts : List TypeId} {ty : TypeId} {args : List V} {s : Sto} {K : Kt R} (hr : Rep ρ s w) (hs : sbd s) (hb : bdL s.length args) (hk : T (vCopy no P ts args s K)) :
    ∃ v s' w', (Builtin.copy_ ts.toArray ty (absL ρ args).toArray).run P w = .ok (v.abs ρ) w' ∧ T (K v s') ∧ Rep ρ s' w' ∧ Ext s ρ w s' ρ w' ∧ sbd s' ∧ v.bd s'.length := by
  unfold vCopy at hk
  split at hk
  case h_2 => exact (hno hk).elim
  rename_i t tx dv xv
  obtain ⟨d, hd, hk1⟩ := Wi.out hno hk
  obtain ⟨dx, hdx, hk2⟩ := Wi.out hno hk1
  split at hk2
  case h_2 => exact (hno hk2).elim
  rename_i elem
  obtain ⟨inf, hinf, hk3⟩ := Wi.out hno hk2
  obtain ⟨zl, hzl, hk4⟩ := Wi.out hno hk3
  split at hk4
  case h_2 => exact (hno hk4).elim
  rename_i hz0
  have hz0 := Nat.eq_of_beq_eq_true hz0
  clear hk hk1 hk2 hk3
  split at hk4
  · rename_i i z k0 len cap
    split at hk4
    case h_2 => exact (hno hk4).elim
    rename_i tc N e hi
    split at hk4
    case h_2 => exact (hno hk4).elim
    rename_i hc
    simp only [Bool.and_eq_true] at hc
    obtain rfl := Nat.eq_of_beq_eq_true hc.1
    have hz := Nat.eq_of_beq_eq_true hc.2
    obtain ⟨zs, hzs, hk5⟩ := Wi.out hno hk4
    have fin : ∀ {n : Nat} {cols : List Col} {new : List Value}, SrcE P inf.size tx (xv.abs ρ) n cols new w → T (cpyFin no s i k0 len .own tc N e K n cols) → _ := fun h1 h2 => cpyFin_sound (ty := ty) (cap := cap) hno hr hs hd hinf hi rfl hz h1 h2
    rcases srcE_sound hno hr hs (by rw [colsNE_len hzs]; exact hz0) hdx hk5 with ⟨n, cols, new, h1, h2⟩ | ⟨n, new, c, h1, h2, h3, h4, h5, h6⟩
    · exact fin h1 h2
    · obtain ⟨cols, hcs, h7⟩ := Wi.out hno h6
      exact fin (h5 cols hcs) h7
  · rename_i i k z e0 len
    split at hk4
    case h_2 => exact (hno hk4).elim
    rename_i k' tc N e hi
    split at hk4
    case h_2 => exact (hno hk4).elim
    rename_i hc
    simp only [Bool.and_eq_true] at hc
    obtain rfl := Nat.eq_of_beq_eq_true hc.1
    have hz := Nat.eq_of_beq_eq_true hc.2
    obtain ⟨zs, hzs, hk5⟩ := Wi.out hno hk4
    have fin : ∀ {n : Nat} {cols : List Col} {new : List Value}, SrcE P inf.size tx (xv.abs ρ) n cols new w → T (cpyFin no s i e0 len (.grow k') tc N e K n cols) → _ := fun h1 h2 => cpyFin_sound (ty := ty) (cap := (ρ k).1 - e0) hno hr hs hd hinf hi rfl hz h1 h2
    rcases srcE_sound hno hr hs (by rw [colsNE_len hzs]; exact hz0) hdx hk5 with ⟨n, cols, new, h1, h2⟩ | ⟨n, new, c, h1, h2, h3, h4, h5, h6⟩
    · exact fin h1 h2
    · obtain ⟨cols, hcs, h7⟩ := Wi.out hno h6
      exact fin (h5 cols hcs) h7
  · rename_i i o len cap
    split at hk4
    case h_2 => exact (hno hk4).elim
    rename_i cs e hi
    obtain ⟨p, hp, hk5⟩ := Wi.out hno hk4
    split at hk5
    case h_2 => exact (hno hk5).elim
    rename_i hc
    rw [flA_eq] at hk5
    simp only [Bool.and_eq_true] at hc
    obtain ⟨n, new⟩ := p
    obtain ⟨h1, h2, h3, h4⟩ := src_sound hr hs hdx hp
    have hn := Nat.le_of_ble_eq_true hc.1
    obtain ⟨w', r1, r2, r3, r4⟩ := owC_sound (P := P) hr hs hi h3 h4 (Nat.le_of_ble_eq_true hc.2)
    refine ⟨.raw (.int .i64 n), _, w', ?_, hk5, r2, r3, r4, trivial⟩
    simp only [Builtin.copy_, absL, V.abs, List.getElem?_toArray, List.getElem?_cons_zero, List.getElem?_cons_succ, Sem.run_bind, run_underlying hd, Result.andThen_ok, h1.len, run_sizeOf hinf, Nat.min_def, if_pos hn, h1.cells]
    rw [r1]
    simp [goInt]
  · exact (hno hk4).elim
end
end Go.Proofs.YtalgegmcllcnmaaRL
end
section
/- RL, seventh text: calls, and code. -/
namespace Go.Proofs.YtalgegmcllcnmaaRL
open Go
set_option linter.unusedVariables false
set_option linter.unusedSimpArgs false
variable {Δ : List Deferred}
/-- How a call ends. -/
inductive Res where
  | ret (v : V)
  | pan (v : V)
def Res.val : Res → V
  | .ret v | .pan v => v
def Res.ending (ρ : Rho) : Res → Ending
  | .ret v => .returned (v.abs ρ)
  | .pan v => .panicked [{ v := v.abs ρ, recovered := false }]
/-- A call, from a store on: it comes to an end of which K holds. -/
structure CallOk (P : Program) (f : FuncId) (args : List V) (s : Sto) (K : Res → Sto → Prop) : Prop where
  plain : ∀ (xs : Array Value) (w : World), (callFunc f xs).run P w = .ok (.enter f xs) w
  run : ∀ (ρ : Rho) (w : World), Rep ρ s w → sbd s → bdL s.length args → Calls P f (absL ρ args).toArray w fun e w' =>
    ∃ r s' ρ', e = Res.ending ρ' r ∧ K r s' ∧ Rep ρ' s' w' ∧ Ext s ρ w s' ρ' w' ∧ sbd s' ∧ r.val.bd s'.length
theorem CallOk.mono {P : Program} {f : FuncId} {args : List V} {s : Sto} {K K' : Res → Sto → Prop} (h : CallOk P f args s K) (hk : ∀ r s, K r s → K' r s) : CallOk P f args s K' :=
  ⟨h.plain, fun ρ w h1 h2 h3 => (h.run ρ w h1 h2 h3).mono fun e w' ⟨r, s', ρ', e1, e2, e3⟩ => ⟨r, s', ρ', e1, hk _ _ e2, e3⟩⟩
/-- The fence that lets everything in, at a round of loop r or at none. -/
def Fr (r : Option Nat) : Fence := { fn := fun _ => True, depth := none, alive := false, round := r }
theorem fr_fenced (P : Program) (r : Option Nat) (m : Machine) : Machine.fenced P (Fr r) m := fenced_wide P m
theorem fr_room (r : Option Nat) (n : Nat) : (Fr r).room n := fun _ h => by cases h
theorem callsIn_fr {r : Option Nat} {n : Nat} {P : Program} {f : FuncId} {args : Array Value} {w : World} {R : Ending → World → Prop} : CallsIn (Fr r) n P f args w R ↔ Calls P f args w R := callsIn_wide
theorem rowsIn_fr {r : Option Nat} {n : Nat} {P : Program} {row : String} {args : Array Value} {w : World} {R : Value → World → Prop} (h : Rows P row args w R) : RowsIn (Fr r) n P row args w R :=
  fun c cs _ => let ⟨v, w', r1, s⟩ := h c cs; ⟨v, w', r1, stepsIn_wide.2 s⟩
/-- A round of the loop whose record is i's. -/
def YldOk (P : Program) (i : Nat) (args : List V) (s : Sto) (K : Res → Sto → Prop) : Prop := ∀ (ρ : Rho) (w : World), Rep ρ s w → sbd s → bdL s.length args →
  ∃ rc : Loop, w.heap[(ρ i).1]? = some (.loop rc) ∧ args.length = rc.params.size ∧ RoundIn (Fr none) 0 P (ρ i).1 rc.fn ((rc.params.zip (absL ρ args).toArray).foldl (fun tmps x => tmps.setIfInBounds x.1 x.2) rc.tmps) rc.assign rc.body w fun e w' =>
    ∃ r s' ρ', e = Res.ending ρ' r ∧ K r s' ∧ Rep ρ' s' w' ∧ Ext s ρ w s' ρ' w' ∧ sbd s' ∧ r.val.bd s'.length
/-- A call of a function, or (behind their number) of the yield of a loop. -/
structure TgOk (P : Program) (f : FuncId) (args : List V) (s : Sto) (K : Res → Sto → Prop) : Prop where
  call : f < P.funcs.size → CallOk P f args s K
  round : P.funcs.size < f → YldOk P (f - P.funcs.size - 1) args s K
theorem CallOk.lt {P : Program} {f : FuncId} {args : List V} {s : Sto} {K : Res → Sto → Prop} (h : CallOk P f args s K) : f < P.funcs.size := by
  have := h.plain #[] default
  rcases Nat.lt_or_ge f P.funcs.size with hlt | hge
  · exact hlt
  · simp [callFunc, Sem.run_bind, run_program, Array.getElem?_eq_none hge] at this
theorem CallOk.tg {P : Program} {f : FuncId} {args : List V} {s : Sto} {K : Res → Sto → Prop} (h : CallOk P f args s K) : TgOk P f args s K := ⟨fun _ => h, fun hf => absurd hf (Nat.lt_asymm h.lt)⟩
/-- The row of a method for a type. -/
def vMethod (P : Program) (t : TypeId) (v : V) (name : String) : Option (FuncId × V) :=
  match P.info? t with
  | some i => match i.methods.find? (·.name == name) with
    | some m => match m.path.isEmpty, m.func with
      | true, some (f, pr) => match P.underlying t with
        | some (.pointer _) => match pr with
          | true => some (f, v)
          | false => none
        | some _ => match pr with
          | true => none
          | false => some (f, v)
        | none => none
      | _, _ => none
    | none => none
  | none => none
def vMax (op : Bool) (x y : V) : Option V :=
  match x, y with
  | .raw (.int k x), .raw (.int _ y) => match op with
    | true => some (.raw (.int k (if y > x then y else x)))
    | false => some (.raw (.int k (if y < x then y else x)))
  | _, _ => none
def vBuiltin {R : Type} (no : R) (P : Program) (b : Builtin) (ts : List TypeId) (args : List V) (s : Sto) (K : Kt R) : R :=
  match b, ts, args with
  | .len, t :: _, x :: _ => Wi no (P.underlying t) fun d => match d, x with
    | .string, .raw (.string y) => K (.raw (.int .i64 y.size)) s
    | .array n _, _ => K (.raw (.int .i64 n)) s
    | .slice _, .sl _ _ n _ => K (.raw (.int .i64 n)) s
    | .slice _, .raw (.slice _ n _) => K (.raw (.int .i64 n)) s
    | .slice _, .lst _ _ _ _ n => K (.raw (.int .i64 n)) s
    | .slice _, .sle _ _ _ n _ => K (.raw (.int .i64 n)) s
    | .slice _, .lse _ _ _ _ n => K (.raw (.int .i64 n)) s
    | .slice _, .lend _ _ _ _ _ _ => K (.raw (.int .i64 0)) s
    | .map _ _, .raw (.map none) => K (.raw (.int .i64 0)) s
    | .map _ _, .mp i => match s[i]? with
      | some (.map es _) => K (.raw (.int .i64 es.length)) s
      | _ => no
    | _, _ => no
  | .cap, t :: _, x :: _ => Wi no (P.underlying t) fun d => match d, x with
    | .slice _, .sl _ _ _ c => K (.raw (.int .i64 c)) s
    | .slice _, .sle _ _ _ _ c => K (.raw (.int .i64 c)) s
    | .slice _, .raw (.slice _ _ c) => K (.raw (.int .i64 c)) s
    | _, _ => no
  | .max, _, [x, y] => Wi no (vMax true x y) fun v => K v s
  | .min, _, [x, y] => Wi no (vMax false x y) fun v => K v s
  | _, _, _ => no
/-- Builtins, those that change something among them. -/
def vBuiltinE {R : Type} (no : R) (P : Program) (b : Builtin) (ts : List TypeId) (args : List V) (s : Sto) (K : Kt R) : R :=
  match b with
  | .append => vAppendE no P ts args s K
  | .clear => vClear no P ts args s K
  | .copy => vCopy no P ts args s K
  | b => vBuiltin no P b ts args s K
def resK {R : Type} (K : Kt R) (Kp : Kt R) : Res → Sto → R
  | .ret v, s => K v s
  | .pan v, s => Kp v s
abbrev Ch (R : Type) := FuncId → List V → Sto → (Res → Sto → R) → R
def callxT {R : Type} (no : R) (P : Program) (C : Ch R) (c : Call) (e : List (Nat × V)) (s : Sto) (K Kp : Kt R) : R :=
  match c.callee with
  | .value f => Wi no (getT e f) fun fv => Wi no (getTL e c.args.toList) fun args => match fv.nf with
    | .fn (.func g) first cap => match Nat.blt g P.funcs.size with
      | true => C g (first ++ args ++ cap) s (resK K Kp)
      | false => no
    | .yld i => C (P.funcs.size + 1 + i) args s (resK K Kp)
    | _ => no
  | .invoke recv name => Wi no (getT e recv) fun r => Wi no (getTL e c.args.toList) fun args => match r.nf with
    | .ifc t v => Wi no (vMethod P t v name) fun m => match Nat.blt m.1 P.funcs.size with
      | true => C m.1 (m.2 :: args) s (resK K Kp)
      | false => no
    | _ => no
  | .builtin b => Wi no (getTL e c.args.toList) fun args => vBuiltinE no P b c.argTypes.toList args s K
def callx {R : Type} (no : R) (P : Program) (C : Ch R) (c : Call) (st : St) (K Kp : Kt R) : R := callxT no P C c st.t st.s K Kp
def opxT {R : Type} (no : R) (P : Program) (C : Ch R) (op : Op) (e : List (Nat × V)) (s : Sto) (K Kp : Kt R) : R :=
  match op with
  | .call c => callxT no P C c e s K Kp
  | .panic x => Wi no (getT e x) fun v => match v.nf with
    | .ifc t u => Kp (.ifc t u) s
    | _ => no
  | op => valOpT no P op e s K
def opx {R : Type} (no : R) (P : Program) (C : Ch R) (op : Op) (st : St) (K Kp : Kt R) : R := opxT no P C op st.t st.s K Kp
/-- Is an operation wanted, by its guard? -/
def vWantedT {R : Type} (no : R) (ops : List Oper) (o : Oper) (e : List (Nat × V)) (A B : List (Nat × V) → R) : R :=
  match o.guard with
  | none => A e
  | some (j, want) => match ops[j]? with
    | some oj => match oj.dst with
      | some t => Wi no (find e t) fun v => match v with
        | .raw (.bool b) => match want with
          | true => Br b (A ((t, .raw (.bool true)) :: e)) (B ((t, .raw (.bool false)) :: e))
          | false => Br b (B ((t, .raw (.bool true)) :: e)) (A ((t, .raw (.bool false)) :: e))
        | .raw (.tuple _) => B e
        | _ => no
      | none => B e
    | none => B e
inductive Ex where
  | normal
  | exit (id : Nat)
  | goto (l : Nat)
  | ret
  | panic (v : V)
def fl {R : Type} {α : Type} (l : List α) (K : List α → R) : R :=
  match l with
  | [] => K []
  | a :: l => K (a :: l)
theorem fl_eq {R : Type} {α : Type} (l : List α) (K : List α → R) : fl l K = K l := by cases l <;> rfl
def evOpsT {R : Type} (no : R) (P : Program) (C : Ch R) (ops : List Oper) (K : Ex → St → R) (n : Nat) : List Oper → List (Nat × V) → Sto → R 
  | [], e, s => K .normal ⟨n, e, s⟩
  | o :: os, e, s => vWantedT no ops o e
      (fun e => opxT no P C o.op e s (fun v s => fl (putT n e o.dst v) fun e => evOpsT no P C ops K n os e s) (fun v s => K (.panic v) ⟨n, e, s⟩))
      (fun e => fl (putT n e o.dst (.raw undef)) fun e => evOpsT no P C ops K n os e s)
def evOps {R : Type} (no : R) (P : Program) (C : Ch R) (ops : List Oper) (K : Ex → St → R) (os : List Oper) (st : St) : R := evOpsT no P C ops K st.n os st.t st.s
def Ex.rel (ρ : Rho) (n : Nat) : Ex → Exit → Prop
  | .normal, .normal => True
  | .exit i, .exit j => i = j
  | .goto i, .goto j => i = j
  | .ret, .ret => True
  | .panic v, .panic c => c = [{ v := v.abs ρ, recovered := false }] ∧ v.bd n
  | _, _ => False
/-- An operation that defers nothing does the same in a round. -/
theorem wpIn_fr {r : Option Nat} {P : Program} {o : Oper} {a : Act} {w : World} {K : Act → World → Prop} {X : Exit → Act → World → Prop} (hnd : ∀ c, o.op ≠ .defer c) (h : o.wp P a w K X) : o.wpIn (Fr r) 0 P a w K X := by
  unfold Oper.wp at h
  refine ⟨fun _ _ => trivial, ?_⟩
  rw [Oper.semAt_eq _ _ _ hnd]
  generalize (execOp a.eval o).run P w = x at h
  cases x with
  | ok n w' =>
    cases n <;> simp only [Oper.upon, Oper.uponIn] at h ⊢ <;>
      first
        | exact h
        | exact ⟨fun hh => (by cases hh), callsIn_fr.2 (h.mono fun e w'' he => by cases e <;> exact he)⟩
        | exact ⟨fun hh => (by cases hh), rowsIn_fr h⟩
  | halt x w' => cases x <;> simp only [Oper.upon, Oper.uponIn] at h ⊢ <;> exact h
/-- The mark of a block for deferred calls. -/
def markD (b : Nat) : Deferred := { target := .collected b, args := #[] }
/-- What else a frame has: blocks for the deferred calls of rounds, none of them the store's; the record of the loop whose round it is in. -/
structure Fo (r : Option Nat) (B : Nat) (Δ : List Deferred) (ρ : Rho) (s : Sto) (w : World) : Prop where
  le : B ≤ w.heap.size
  marks : ∃ ms : List Nat, Δ = ms.map markD ∧ ms.Nodup ∧ ∀ b ∈ ms, B ≤ b ∧ w.heap[b]? = some (.deferred (some [])) ∧ ∀ (i : Nat) (e : Ent), s[i]? = some e → e.isOwn = true → (ρ i).1 ≠ b
  round : ∀ l, r = some l → ∃ rc, w.heap[l]? = some (.loop rc) ∧ ∀ (i : Nat) (e : Ent), s[i]? = some e → e.isOwn = true → (ρ i).1 ≠ l
theorem Ext.away {s s' : Sto} {ρ ρ' : Rho} {w w' : World} (he : Ext s ρ w s' ρ' w') {b : Nat} (hb : b < w.heap.size) (hn : ∀ (i : Nat) (e : Ent), s[i]? = some e → e.isOwn = true → (ρ i).1 ≠ b) : w'.heap[b]? = w.heap[b]? ∧ ∀ (i : Nat) (e : Ent), s'[i]? = some e → e.isOwn = true → (ρ' i).1 ≠ b := by
  refine ⟨he.block b hb hn, fun i e hi ho => ?_⟩
  rcases he.own i e hi ho with ⟨j, e0, h1, h2, h3⟩ | h1
  · rw [← h3]; exact hn j e0 h1 h2
  · omega
theorem Fo.ext {r : Option Nat} {B : Nat} {ρ ρ' : Rho} {s s' : Sto} {w w' : World} (h : Fo r B Δ ρ s w) (he : Ext s ρ w s' ρ' w') : Fo r B Δ ρ' s' w' := by
  refine ⟨Nat.le_trans h.le he.size, ?_, fun l hl => ?_⟩
  · obtain ⟨ms, h1, h2, h3⟩ := h.marks
    refine ⟨ms, h1, h2, fun b hb => ?_⟩
    obtain ⟨k1, k2, k3⟩ := h3 b hb
    obtain ⟨e1, e2⟩ := he.away (Array.getElem?_eq_some_iff.1 k2).1 k3
    exact ⟨k1, by rw [e1]; exact k2, e2⟩
  · obtain ⟨rc, k2, k3⟩ := h.round l hl
    obtain ⟨e1, e2⟩ := he.away (Array.getElem?_eq_some_iff.1 k2).1 k3
    exact ⟨rc, by rw [e1]; exact k2, e2⟩
def lift (r : Option Nat) (B : Nat) (st : St) (ρ : Rho) (w : World) (K : Ex → St → Prop) : Exit → Act → World → Prop :=
  fun e a' w' => ∃ x st' ρ' Δ', x.rel ρ' st'.s.length e ∧ K x st' ∧ Sim Δ' ρ' st' a' w' ∧ Ext st.s ρ w st'.s ρ' w' ∧ Fo r B Δ' ρ' st'.s w'
/-- Code, from a state on: it comes to an end of which K holds. -/
structure CodeOk (P : Program) (c : Code) (st : St) (K : Ex → St → Prop) : Prop where
  run : ∀ (r : Option Nat) (B : Nat) (Δ : List Deferred) (ρ : Rho) (a : Act) (w : World), Sim Δ ρ st a w → Fo r B Δ ρ st.s w → c.wpIn (Fr r) 0 P (lift r B st ρ w K) a w
abbrev Lh (R : Type) := Code → St → (Ex → St → R) → R
/-- A test that has been made is known. -/
def knows (c : Operand) (b : Bool) (e : List (Nat × V)) : List (Nat × V) :=
  match c with
  | .tmp t => (t, .raw (.bool b)) :: e
  | _ => e
/-- Code, computed; calls are met by C, loops and what else is not straight by L. -/
def Ev {R : Type} (no : R) (P : Program) (C : Ch R) (L : Lh R) : Code → St → (Ex → St → R) → R 
  | .skip, st, K => K .normal st
  | .label _, st, K => K .normal st
  | .seq a b, st, K => Ev no P C L a st fun e st' => match e with
    | .normal => Ev no P C L b st' K
    | e => K e st'
  | .cond c x y, st, K => Wi no (st.get c) fun v => match v with
    | .raw (.bool b) => match st with
      | ⟨n, e, s⟩ => Br b (Ev no P C L x ⟨n, knows c true e, s⟩ K) (Ev no P C L y ⟨n, knows c false e, s⟩ K)
    | _ => no
  | .block id c, st, K => Ev no P C L c st fun e st' => match e with
    | .exit i => match Nat.beq i id with
      | true => K .normal st'
      | false => K (.exit i) st'
    | e => K e st'
  | .scope c, st, K => Ev no P C L c st fun e st' => match e with
    | .goto _ => no
    | e => K e st'
  | .exit id, st, K => K (.exit id) st
  | .goto l, st, K => K (.goto l) st
  | .ret, st, K => K .ret st
  | .region id ops draw, st, K => match draw with
    | false => match st with | ⟨n, e, s⟩ => evOpsT no P C ops.toList K n ops.toList e s
    | true => L (.region id ops true) st K
  | .loop c, st, K => L (.loop c) st K
  | .rangeFunc f ps x y, st, K => L (.rangeFunc f ps x y) st K
  | .refuse _, _, _ => no
section
variable {P : Program} {ρ : Rho} {w : World} {st : St} {a : Act}
theorem method_sound {t : TypeId} {v : V} {name : String} {m : FuncId × V} (h : vMethod P t v name = some m) (k : Nat) : (method (k + 1) t (v.abs ρ) name).run P w = .ok (m.1, m.2.abs ρ) w ∧ m.2 = v := by
  unfold vMethod at h
  split at h
  · rename_i i hi
    split at h
    · rename_i mm hm
      split at h
      · rename_i f pr hpath hfunc
        have hp : mm.path.toList = [] := by simpa using hpath
        split at h
        · rename_i e ht
          split at h
          · simp only [Option.some.injEq] at h
            subst h
            refine ⟨?_, rfl⟩
            simp [method, run_typeInfo hi, hm, hp, follow, hfunc, receiverAt, run_underlying ht, Place.get]
          · cases h
        · rename_i d hnp ht
          split at h
          · cases h
          · simp only [Option.some.injEq] at h
            subst h
            refine ⟨?_, rfl⟩
            simp only [method, Sem.run_bind, run_typeInfo hi, Result.andThen_ok, hm, hp, follow, Sem.run_pure, hfunc, receiverAt, run_underlying ht]
            cases d <;> first | exact absurd rfl (hnp _) | simp [Place.get]
        · cases h
      · cases h
    · cases h
  · cases h
end
section
variable {P : Program} {ρ : Rho} {w : World} {st : St} {a : Act} {R : Type} {no : R} {T : R → Prop} (hno : ¬ T no)
include hno
theorem builtin_sound {b : Builtin} {ts : Array TypeId} {ty : TypeId} {cs : Array Bool} {args : List V} {K : Kt R} (hr : Rep ρ st.s w) (hb : bdL st.s.length args) (hk : T (vBuiltin no P b ts.toList args st.s K)) :
    ∃ v, (builtin b ts ty cs (absL ρ args).toArray).run P w = .ok (.value (v.abs ρ)) w ∧ T (K v st.s) ∧ v.bd st.s.length := by
  unfold vBuiltin at hk
  split at hk
  · rename_i t tr x xr h1
    have ht : ts[0]? = some t := by rw [← Array.getElem?_toList, h1]; rfl
    obtain ⟨d, hd, hk⟩ := Wi.out hno hk
    split at hk
    · exact ⟨.raw _, by simp [builtin, Builtin.len_, ht, absL, run_underlying hd, V.abs, goInt], hk, trivial⟩
    · exact ⟨.raw _, by simp [builtin, Builtin.len_, ht, absL, run_underlying hd, V.abs, goInt], hk, trivial⟩
    · exact ⟨.raw _, by simp [builtin, Builtin.len_, ht, absL, run_underlying hd, V.abs, goInt], hk, trivial⟩
    · exact ⟨.raw _, by simp [builtin, Builtin.len_, ht, absL, run_underlying hd, V.abs, goInt], hk, trivial⟩
    · exact ⟨.raw _, by simp [builtin, Builtin.len_, ht, absL, run_underlying hd, V.abs, goInt], hk, trivial⟩
    · exact ⟨.raw _, by simp [builtin, Builtin.len_, ht, absL, run_underlying hd, V.abs, goInt], hk, trivial⟩
    · exact ⟨.raw _, by simp [builtin, Builtin.len_, ht, absL, run_underlying hd, V.abs, goInt], hk, trivial⟩
    · exact ⟨.raw _, by simp [builtin, Builtin.len_, ht, absL, run_underlying hd, V.abs, goInt], hk, trivial⟩
    · exact ⟨.raw _, by simp [builtin, Builtin.len_, ht, absL, run_underlying hd, V.abs, goInt], hk, trivial⟩
    · rename_i i _
      split at hk
      · rename_i es c hes
        have := hr.ent i _ hes
        simp only [RepE] at this
        exact ⟨.raw _, by simp [builtin, Builtin.len_, ht, absL, run_underlying hd, V.abs, goInt, getObj, Sem.run, this], hk, trivial⟩
      · exact (hno hk).elim
    · exact (hno hk).elim
  · rename_i t tr x xr h1
    have ht : ts[0]? = some t := by rw [← Array.getElem?_toList, h1]; rfl
    obtain ⟨d, hd, hk⟩ := Wi.out hno hk
    split at hk
    · exact ⟨.raw _, by simp [builtin, Builtin.cap_, ht, absL, run_underlying hd, V.abs, goInt], hk, trivial⟩
    · exact ⟨.raw _, by simp [builtin, Builtin.cap_, ht, absL, run_underlying hd, V.abs, goInt], hk, trivial⟩
    · exact ⟨.raw _, by simp [builtin, Builtin.cap_, ht, absL, run_underlying hd, V.abs, goInt], hk, trivial⟩
    · exact (hno hk).elim
  · obtain ⟨v, hv, hk⟩ := Wi.out hno hk
    unfold vMax at hv
    split at hv
    · simp only [Option.some.injEq] at hv
      subst hv
      exact ⟨.raw _, by simp [builtin, Builtin.max_, absL, V.abs, Builtin.max2], hk, trivial⟩
    · cases hv
  · obtain ⟨v, hv, hk⟩ := Wi.out hno hk
    unfold vMax at hv
    split at hv
    · simp only [Option.some.injEq] at hv
      subst hv
      exact ⟨.raw _, by simp [builtin, Builtin.min_, absL, V.abs, Builtin.min2], hk, trivial⟩
    · cases hv
  · exact (hno hk).elim
theorem builtinE_sound {b : Builtin} {ts : Array TypeId} {ty : TypeId} {cs : Array Bool} {args : List V} {K : Kt R} (hr : Rep ρ st.s w) (hs : sbd st.s) (hb : bdL st.s.length args) (hk : T (vBuiltinE no P b ts.toList args st.s K)) :
    ∃ v s' ρ' w', (builtin b ts ty cs (absL ρ args).toArray).run P w = .ok (.value (v.abs ρ')) w' ∧ T (K v s') ∧ Rep ρ' s' w' ∧ Ext st.s ρ w s' ρ' w' ∧ sbd s' ∧ v.bd s'.length := by
  unfold vBuiltinE at hk
  split at hk
  · obtain ⟨v, s', ρ', w', h1, h2, h3, h4, h5, h6⟩ := appendE_sound (ty := ty) hno hr hs hb hk
    refine ⟨v, s', ρ', w', ?_, h2, h3, h4, h5, h6⟩
    show (do pure (Next.value (← Builtin.append_ ts ty (absL ρ args).toArray)) : Sem Next).run P w = _
    rw [Sem.run_bind, h1]
    simp
  · obtain ⟨v, s', w', h1, h2, h3, h4, h5, h6⟩ := clear_sound (ty := ty) hno hr hs hb hk
    refine ⟨v, s', ρ, w', ?_, h2, h3, h4, h5, h6⟩
    show (do pure (Next.value (← Builtin.clear_ ts ty (absL ρ args).toArray)) : Sem Next).run P w = _
    rw [Sem.run_bind, h1]
    simp
  · obtain ⟨v, s', w', h1, h2, h3, h4, h5, h6⟩ := copy_sound (ty := ty) hno hr hs hb hk
    refine ⟨v, s', ρ, w', ?_, h2, h3, h4, h5, h6⟩
    show (do pure (Next.value (← Builtin.copy_ ts ty (absL ρ args).toArray)) : Sem Next).run P w = _
    rw [Sem.run_bind, h1]
    simp
  · obtain ⟨v, v1, v2, v3⟩ := builtin_sound hno (ty := ty) (cs := cs) hr hb hk
    exact ⟨v, _, ρ, w, v1, v2, hr, Ext.refl _ _ _, hs, v3⟩
end

section
variable {P : Program} {ρ : Rho} {w : World} {st : St} {a : Act}
/-- The end of a call, put into the frame. -/
theorem Sim.ret {ρ' : Rho} {w' : World} (h : Sim Δ ρ st a w) {dst : Option Tmp} {v : V} {s : Sto} (hr : Rep ρ' s w') (hs : sbd s) (he : Ext st.s ρ w s ρ' w') (hv : v.bd s.length) : Sim Δ ρ' (st.put dst v s) (a.put dst (v.abs ρ')) w' :=
  h.put hr hs he hv
theorem Sim.pan {ρ' : Rho} {w' : World} (h : Sim Δ ρ st a w) {s : Sto} (hr : Rep ρ' s w') (hs : sbd s) (he : Ext st.s ρ w s ρ' w') : Sim Δ ρ' ⟨st.n, st.t, s⟩ a w' :=
  ⟨h.defers, h.size, fun t u hu => by rw [V.abs_congr he.same u (h.bd t u hu)]; exact h.tmps t u hu, fun t u hu => V.bd_mono he.len u (h.bd t u hu), hr, hs⟩
/-- What an operation leaves: a value for the frame, or a panic. -/
structure Leaves (st : St) (ρ : Rho) (a : Act) (w : World) (dst : Option Tmp) (K Kp : Kt Prop) (next : Act → World → Prop) (Q : Exit → Act → World → Prop) : Prop where
  go : ∀ v s ρ' w', K v s → Rep ρ' s w' → Ext st.s ρ w s ρ' w' → sbd s → v.bd s.length → next (a.put dst (v.abs ρ')) w'
  pan : ∀ v s ρ' w', Kp v s → Rep ρ' s w' → Ext st.s ρ w s ρ' w' → sbd s → v.bd s.length → Q (.panic [{ v := v.abs ρ', recovered := false }]) a w'
theorem CallOk.upon {r : Option Nat} {f : FuncId} {args : List V} {K Kp : Kt Prop} {o : Oper} {next : Act → World → Prop} {Q : Exit → Act → World → Prop} (h : Sim Δ ρ st a w) (hL : Leaves st ρ a w o.dst K Kp next Q) (hk : CallOk P f args st.s (resK K Kp)) (hb : bdL st.s.length args)
    (hnd : ∀ c, o.op ≠ .defer c) (hrun : (execOp a.eval o).run P w = .ok (.enter f (absL ρ args).toArray) w) : o.wpIn (Fr r) 0 P a w next Q := by
  refine wpIn_fr hnd ?_
  unfold Oper.wp
  rw [hrun, Oper.upon_enter]
  refine (hk.run ρ w h.rep h.sb hb).mono ?_
  rintro e w' ⟨r, s', ρ', rfl, hK, hr, he, hs, hv⟩
  cases r with
  | ret v => exact hL.go v s' ρ' w' hK hr he hs hv
  | pan v => exact hL.pan v s' ρ' w' hK hr he hs hv
theorem lift_mono {r : Option Nat} {B : Nat} {st st' : St} {ρ ρ' : Rho} {w w' : World} {K : Ex → St → Prop} (he : Ext st.s ρ w st'.s ρ' w') {e : Exit} {a2 : Act} {w2 : World} (h : lift r B st' ρ' w' K e a2 w2) : lift r B st ρ w K e a2 w2 :=
  let ⟨x, st2, ρ2, Δ2, h1, h2, h3, h4, h5⟩ := h; ⟨x, st2, ρ2, Δ2, h1, h2, h3, he.trans h4, h5⟩
theorem Sim.know {t : Nat} {b : Bool} (h : Sim Δ ρ st a w) (ht : find st.t t = some (.raw (.bool b))) : Sim Δ ρ ⟨st.n, (t, .raw (.bool b)) :: st.t, st.s⟩ a w := by
  refine ⟨h.defers, h.size, fun k v hv => ?_, fun k v hv => ?_, h.rep, h.sb⟩
  · simp only [find] at hv
    split at hv
    · rename_i hb
      have := Nat.eq_of_beq_eq_true hb
      subst this
      obtain rfl := Option.some.inj hv
      exact h.tmps t _ ht
    · exact h.tmps k v hv
  · simp only [find] at hv
    split at hv
    · obtain rfl := Option.some.inj hv; trivial
    · exact h.bd k v hv
theorem Sim.knows {c : Operand} {b : Bool} (h : Sim Δ ρ st a w) (hc : st.get c = some (.raw (.bool b))) : Sim Δ ρ ⟨st.n, knows c b st.t, st.s⟩ a w := by
  cases c with
  | tmp t => exact h.know hc
  | _ => exact h
theorem toArray_eval {xs : Array Operand} {vs : List V} (h : xs.toList.map a.eval = absL ρ vs) : xs.map a.eval = (absL ρ vs).toArray := by
  apply Array.ext'
  simpa using h
variable {R : Type} {no : R} {T : R → Prop} (hno : ¬ T no)
include hno
theorem callx_sound {r : Option Nat} {C : Ch R} {K Kp : Kt R} (hC : ∀ f args, T (C f args st.s (resK K Kp)) → TgOk P f args st.s fun r s => T (resK K Kp r s)) {o : Oper} {c : Call} {next : Act → World → Prop} {Q : Exit → Act → World → Prop} (h : Sim Δ ρ st a w) (hL : Leaves st ρ a w o.dst (fun v s => T (K v s)) (fun v s => T (Kp v s)) next Q) (ho : o.op = .call c) (hk : T (callx no P C c st K Kp)) : o.wpIn (Fr r) 0 P a w next Q := by
  have hnd : ∀ c, o.op ≠ .defer c := fun c hc => by rw [ho] at hc; cases hc
  have hex : execOp a.eval o = (do let d ← resolve a.eval c o.type; invoke d.target d.args) := by
    unfold execOp; rw [ho]
  unfold callx callxT at hk
  split at hk
  · rename_i f hc
    obtain ⟨fv, hf, hk⟩ := Wi.out hno hk
    obtain ⟨args, ha, hk⟩ := Wi.out hno hk
    obtain ⟨e1, e2⟩ := h.eval hf
    obtain ⟨f1, f2⟩ := h.evalL ha
    split at hk
    · rename_i g first cap hnf
      split at hk
      · rename_i hlt
        have hlt : g < P.funcs.size := by simpa using hlt
        have e3 : a.eval f = .func (.func g) (absL ρ first).toArray (absL ρ cap).toArray := by rw [e1, ← abs_nf, hnf]; rfl
        have hb : bdL st.s.length first ∧ bdL st.s.length cap := by have := bd_nf e2; rw [hnf] at this; exact this
        replace hk := ((hC _ _ hk).call hlt).mono (K' := resK (fun v s => T (K v s)) fun v s => T (Kp v s)) fun r s h => by cases r <;> exact h
        refine CallOk.upon h hL hk (bdL_append.2 ⟨bdL_append.2 ⟨hb.1, f2⟩, hb.2⟩) hnd ?_
        rw [hex]
        simp only [resolve, hc, e3, toArray_eval f1, Deferred.ofValue, pure_bind, invoke]
        have : (absL ρ first).toArray ++ (absL ρ args).toArray ++ (absL ρ cap).toArray = (absL ρ (first ++ args ++ cap)).toArray := by simp [absL_append]
        rw [this]
        exact hk.plain _ _
      · exact (hno hk).elim
    · rename_i i hnf
      have e3 : a.eval f = .func (.yield (ρ i).1) #[] #[] := by rw [e1, ← abs_nf, hnf]; rfl
      have hi : i < st.s.length := by have := bd_nf e2; rw [hnf] at this; exact this
      obtain ⟨rc, h1, h2, h3⟩ := (hC _ _ hk).round (by omega) ρ w h.rep h.sb f2
      rw [show P.funcs.size + 1 + i - P.funcs.size - 1 = i by omega] at h1 h3
      refine ⟨fun _ _ => trivial, ?_⟩
      rw [Oper.semAt_eq _ _ _ hnd, hex]
      simp only [resolve, hc, e3, toArray_eval f1, Deferred.ofValue, pure_bind, invoke]
      have hrun : (Instr.yield (ρ i).1 (absL ρ args).toArray).run P w = .ok (.round (ρ i).1 rc.fn ((rc.params.zip (absL ρ args).toArray).foldl (fun tmps x => tmps.setIfInBounds x.1 x.2) rc.tmps) rc.assign rc.body) w := by
        have hl : (Instr.getLoop (ρ i).1).run P w = .ok rc w := by simp [Instr.getLoop, getObj, Sem.run, h1]
        simp only [Instr.yield, Sem.run_bind, hl, Result.andThen_ok]
        rw [if_neg (by simp [absL_length, h2])]
        rfl
      simp only [Array.append_empty, Array.empty_append] at hrun ⊢
      rw [hrun, Oper.uponIn_round]
      refine ⟨fun hh => (by cases hh), RoundIn.mono h3 ?_⟩
      rintro e w' ⟨r, s', ρ', rfl, hK, hr, he, hs, hv⟩
      cases r with
      | ret v => exact hL.go v s' ρ' w' hK hr he hs hv
      | pan v => exact hL.pan v s' ρ' w' hK hr he hs hv
    · exact (hno hk).elim
  · rename_i recv name hc
    obtain ⟨r, hr, hk⟩ := Wi.out hno hk
    obtain ⟨args, ha, hk⟩ := Wi.out hno hk
    obtain ⟨e1, e2⟩ := h.eval hr
    obtain ⟨f1, f2⟩ := h.evalL ha
    split at hk
    · rename_i t v hnf
      obtain ⟨m, hm, hk⟩ := Wi.out hno hk
      split at hk
      · rename_i hlt
        have hlt : m.1 < P.funcs.size := by simpa using hlt
        have e3 : a.eval recv = .iface t (v.abs ρ) := by rw [e1, ← abs_nf, hnf]; rfl
        have hb : v.bd st.s.length := by have := bd_nf e2; rw [hnf] at this; exact this
        obtain ⟨m1, m2⟩ := method_sound (ρ := ρ) (w := w) hm (P.types.size + (Made.depth - 1))
        have hd1 : 1 ≤ Made.depth := by decide
        have hd : P.types.size + Made.depth = P.types.size + (Made.depth - 1) + 1 := by omega
        replace hk := ((hC _ _ hk).call hlt).mono (K' := resK (fun v s => T (K v s)) fun v s => T (Kp v s)) fun r s h => by cases r <;> exact h
        refine CallOk.upon h hL hk ⟨by rw [m2]; exact hb, f2⟩ hnd ?_
        rw [hex]
        simp only [resolve, hc, e3, toArray_eval f1, pure_bind, invoke]
        simp only [List.append_toArray, List.cons_append, List.nil_append, List.getElem?_toArray, List.getElem?_cons_zero, callMethod, Sem.run_bind, run_program, Result.andThen_ok, hd, m1]
        have : #[m.2.abs ρ] ++ (Value.iface t (v.abs ρ) :: absL ρ args).toArray.extract 1 (Value.iface t (v.abs ρ) :: absL ρ args).toArray.size = (absL ρ (m.2 :: args)).toArray := by
          apply Array.ext'
          simp [absL, List.extract_eq_take_drop, absL_length, List.take_of_length_le]
        rw [this]
        exact hk.plain _ _
      · exact (hno hk).elim
    · exact (hno hk).elim
  · rename_i b hc
    obtain ⟨args, ha, hk⟩ := Wi.out hno hk
    obtain ⟨f1, f2⟩ := h.evalL ha
    refine wpIn_fr hnd ?_
    unfold Oper.wp
    rw [hex]
    simp only [resolve, hc, toArray_eval f1, pure_bind, invoke]
    obtain ⟨v, s', ρ', w', v1, v2, v3, v4, v5, v6⟩ := builtinE_sound hno (ty := o.type) (cs := _) h.rep h.sb f2 hk
    rw [v1, Oper.upon_value]
    exact hL.go v s' ρ' w' v2 v3 v4 v5 v6
theorem opx_sound {r : Option Nat} {C : Ch R} (hC : ∀ f args s K, T (C f args s K) → TgOk P f args s fun r s => T (K r s)) {o : Oper} {K Kp : Kt R} {next : Act → World → Prop} {Q : Exit → Act → World → Prop} (h : Sim Δ ρ st a w) (hL : Leaves st ρ a w o.dst (fun v s => T (K v s)) (fun v s => T (Kp v s)) next Q) (hk : T (opx no P C o.op st K Kp)) : o.wpIn (Fr r) 0 P a w next Q := by
  unfold opx opxT at hk
  split at hk
  · rename_i c hc
    exact callx_sound hno (fun f args => hC f args _ _) h hL hc hk
  · rename_i x hx
    obtain ⟨v, hv, hk⟩ := Wi.out hno hk
    obtain ⟨e1, e2⟩ := h.eval hv
    split at hk
    · rename_i t u hnf
      have e3 : a.eval x = .iface t (u.abs ρ) := by rw [e1, ← abs_nf, hnf]; rfl
      have hb : (V.ifc t u).bd st.s.length := by have := bd_nf e2; rw [hnf] at this; exact this
      refine wpIn_fr (fun c hc => by rw [hx] at hc; cases hc) ?_
      unfold Oper.wp
      have : (execOp a.eval o).run P w = .halt (.panic (.iface t (u.abs ρ))) w := by
        unfold execOp; rw [hx]; simp [Instr.panic, e3]
      rw [this, Oper.upon_panic]
      exact hL.pan (.ifc t u) st.s ρ w hk h.rep (Ext.refl _ _ _) h.sb hb
    · exact (hno hk).elim
  · obtain ⟨n, v, s', ρ', w', r1, r2, r3, r4, r5, r6, r7, _⟩ := valOp_sound hno h hk
    refine wpIn_fr (fun c hc => ?_) ?_
    · rw [hc] at hk; exact hno hk
    unfold Oper.wp
    rw [r1]
    rcases r2 with rfl | ⟨rfl, rfl⟩
    · exact hL.go v s' ρ' w' r3 r4 r5 r6 r7
    · exact hL.go (.raw undef) s' ρ' w' r3 r4 r5 r6 r7
theorem wanted_sound {ops : Array Oper} {o : Oper} {A B : List (Nat × V) → R} (h : Sim Δ ρ st a w) (hk : T (vWantedT no ops.toList o st.t A B)) :
    (Region.wanted o (yielded ops a.tmps) = true ∧ ∃ e, T (A e) ∧ Sim Δ ρ ⟨st.n, e, st.s⟩ a w) ∨ (Region.wanted o (yielded ops a.tmps) = false ∧ ∃ e, T (B e) ∧ Sim Δ ρ ⟨st.n, e, st.s⟩ a w) := by
  unfold vWantedT at hk
  split at hk
  · rename_i hg; exact .inl ⟨by simp [Region.wanted, hg], _, hk, h⟩
  · rename_i j want hg
    split at hk
    · rename_i oj hoj
      have hoj' : ops[j]? = some oj := by rw [← Array.getElem?_toList]; exact hoj
      split at hk
      · rename_i t ht
        obtain ⟨v, hv, hk⟩ := Wi.out hno hk
        have hcell := h.tmps t v hv
        split at hk
        · rename_i b
          have hy : yielded ops a.tmps j = some b := by simp [yielded, hoj', ht, hcell, V.abs]
          split at hk
          · rcases Br.out hk with ⟨rfl, hk⟩ | ⟨rfl, hk⟩
            · exact .inl ⟨by simp [Region.wanted, hg, hy], _, hk, h.know hv⟩
            · exact .inr ⟨by simp [Region.wanted, hg, hy], _, hk, h.know hv⟩
          · rcases Br.out hk with ⟨rfl, hk⟩ | ⟨rfl, hk⟩
            · exact .inr ⟨by simp [Region.wanted, hg, hy], _, hk, h.know hv⟩
            · exact .inl ⟨by simp [Region.wanted, hg, hy], _, hk, h.know hv⟩
        · rename_i vs
          have hy : yielded ops a.tmps j = none := by simp [yielded, hoj', ht, hcell, V.abs]
          exact .inr ⟨by simp [Region.wanted, hg, hy], _, hk, h⟩
        · exact (hno hk).elim
      · rename_i ht
        have hy : yielded ops a.tmps j = none := by simp [yielded, hoj', ht]
        exact .inr ⟨by simp [Region.wanted, hg, hy], _, hk, h⟩
    · rename_i hoj
      have hoj' : ops[j]? = none := by rw [← Array.getElem?_toList]; exact hoj
      have hy : yielded ops a.tmps j = none := by simp [yielded, hoj']
      exact .inr ⟨by simp [Region.wanted, hg, hy], _, hk, h⟩
theorem evOps_sound {r : Option Nat} {B : Nat} {C : Ch R} (hC : ∀ f args s K, T (C f args s K) → TgOk P f args s fun r s => T (K r s)) {ops : Array Oper} {K : Ex → St → R} {st0 : St} {ρ0 : Rho} {w0 : World} (hfo : Fo r B Δ ρ0 st0.s w0) : ∀ (l : List Oper) (st : St) (ρ : Rho) (a : Act) (w : World), Sim Δ ρ st a w → Ext st0.s ρ0 w0 st.s ρ w → T (evOps no P C ops.toList K l st) → wpListIn (Fr r) 0 P ops (lift r B st0 ρ0 w0 fun e s => T (K e s)) l a w := by
  intro l
  induction l with
  | nil => intro st ρ a w h he hk; exact ⟨.normal, st, ρ, Δ, trivial, hk, h, he, hfo.ext he⟩
  | cons o os ih =>
    intro st ρ a w h he hk
    obtain ⟨sn, stt, ss⟩ := st
    simp only [evOps, evOpsT, fl_eq] at hk
    rcases wanted_sound hno (st := ⟨sn, stt, ss⟩) h hk with ⟨hw, e, hk, h⟩ | ⟨hw, e, hk, h⟩
    · refine wpListIn_step fun K' hK' => ?_
      rw [if_pos hw]
      refine opx_sound hno hC h (K := fun v s => evOpsT no P C ops.toList K sn os (putT sn e o.dst v) s) (Kp := fun v s => K (.panic v) ⟨sn, e, s⟩) ⟨fun v s ρ' w' k1 k2 k3 k4 k5 => hK' _ _ ?_, fun v s ρ' w' k1 k2 k3 k4 k5 => ?_⟩ hk
      · exact ih ⟨sn, putT sn e o.dst v, s⟩ _ _ _ (h.put (dst := o.dst) k2 k4 k3 k5) (he.trans k3) k1
      · exact ⟨.panic v, _, ρ', Δ, ⟨rfl, k5⟩, k1, h.pan k2 k4 k3, he.trans k3, hfo.ext (he.trans k3)⟩
    · refine wpListIn_step fun K' hK' => ?_
      rw [if_neg (by simp [hw])]
      refine ⟨fun _ _ => trivial, hK' _ _ ?_⟩
      exact ih ⟨sn, putT sn e o.dst (.raw undef), ss⟩ _ _ _ (h.put (dst := o.dst) (v := .raw undef) h.rep h.sb (Ext.refl _ _ _) trivial) he hk
omit hno in
theorem stepR_scope {b : Frame} {k : List Item} {cs : List Frame} {c : Code} : step P (lone (b.atR a (.code (.scope c) :: k)) cs w) = .next (lone (b.atR a (.code c :: .inScope c :: k)) cs w) :=
  step_lone_go (by simp [stepG, stepG.exec, Frame.atR])
omit hno in
theorem stepR_inScope {b : Frame} {k : List Item} {cs : List Frame} {c : Code} : step P (lone (b.atR a (.inScope c :: k)) cs w) = .next (lone (b.atR a k) cs w) :=
  step_lone_go (by simp [stepG, stepG.exec, Frame.atR])
omit hno in
theorem wpIn_scope {r : Option Nat} {c : Code} {Q : Exit → Act → World → Prop} (h : c.wpIn (Fr r) 0 P (Exit.noGoto Q) a w) : (Code.scope c).wpIn (Fr r) 0 P Q a w := by
  intro b k cs hro hb hr
  obtain ⟨e, a₁, w₁, hq, harr⟩ := h b (.inScope c :: k) cs hro hb hr
  have s1 : StepsIn (Machine.fenced P (Fr r)) P (lone (b.atR a (.code (.scope c) :: k)) cs w) (lone (b.atR a (.code c :: .inScope c :: k)) cs w) := .one (fr_fenced _ _ _) stepR_scope
  cases e with
  | normal => exact ⟨.normal, a₁, w₁, hq, s1.trans (StepsIn.trans harr (.one (fr_fenced _ _ _) stepR_inScope))⟩
  | exit id => exact ⟨.exit id, a₁, w₁, hq, fun k' hk => s1.trans (harr.1 k' (by simp [exitTo, hk])), fun hr hk => let ⟨k₁, h1, h2⟩ := harr.2 hr (by simp [exitTo, hk]); ⟨k₁, h1, s1.trans h2⟩⟩
  | goto l => exact hq.elim
  | ret => exact ⟨_, a₁, w₁, hq, .of_steps s1 harr⟩
  | panic ch => exact ⟨_, a₁, w₁, hq, .of_steps s1 harr⟩
  | outgrown => exact ⟨_, a₁, w₁, hq, .of_steps s1 harr⟩
theorem Ev.sound {C : Ch R} {L : Lh R} (hC : ∀ f args s K, T (C f args s K) → TgOk P f args s fun r s => T (K r s)) (hL : ∀ c st K, T (L c st K) → CodeOk P c st fun e s => T (K e s)) : ∀ (c : Code) (st : St) (K : Ex → St → R), T (Ev no P C L c st K) → CodeOk P c st fun e s => T (K e s) := by
  intro c
  induction c with
  | skip => intro st K hk; exact ⟨fun r B Δ ρ a w h hf => wpIn_skip ⟨.normal, st, ρ, Δ, trivial, hk, h, Ext.refl _ _ _, hf⟩⟩
  | label l => intro st K hk; exact ⟨fun r B Δ ρ a w h hf => wpIn_label ⟨.normal, st, ρ, Δ, trivial, hk, h, Ext.refl _ _ _, hf⟩⟩
  | seq x y ihx ihy =>
    intro st K hk
    refine ⟨fun r B Δ ρ a w h hf => wpIn_seq (wpIn_mono ((ihx _ _ hk).run r B Δ ρ a w h hf) ?_)⟩
    rintro e a' w' ⟨x', st', ρ', Δ', h1, h2, h3, h4, h5⟩
    cases x' <;> cases e <;> simp only [Ex.rel] at h1 <;> try exact h1.elim
    · exact wpIn_mono ((ihy _ _ h2).run r B Δ' ρ' a' w' h3 h5) fun e a w hl => lift_mono h4 hl
    all_goals exact ⟨_, st', ρ', Δ', by exact h1, h2, h3, h4, h5⟩
  | cond c x y ihx ihy =>
    intro st K hk0
    obtain ⟨v, hv, hk⟩ := Wi.out hno hk0
    clear hk0
    refine ⟨fun r B Δ ρ a w h hf => ?_⟩
    obtain ⟨e1, e2⟩ := h.eval hv
    split at hk
    · rename_i b
      obtain ⟨sn, se, ss⟩ := st
      refine wpIn_cond_split (t := b) e1 (fun hb => ?_) (fun hb => ?_)
      · subst hb; exact (ihx ⟨sn, knows c true se, ss⟩ _ hk).run r B Δ ρ a w (h.knows hv) hf
      · subst hb; exact (ihy ⟨sn, knows c false se, ss⟩ _ hk).run r B Δ ρ a w (h.knows hv) hf
    · exact (hno hk).elim
  | block id c ih =>
    intro st K hk
    refine ⟨fun r B Δ ρ a w h hf => wpIn_block (wpIn_mono ((ih _ _ hk).run r B Δ ρ a w h hf) ?_)⟩
    rintro e a' w' ⟨x', st', ρ', Δ', h1, h2, h3, h4, h5⟩
    cases x' <;> cases e <;> simp only [Ex.rel] at h1 <;> try exact h1.elim
    · exact ⟨.normal, st', ρ', Δ', trivial, h2, h3, h4, h5⟩
    · rename_i i j
      subst h1
      simp only at h2
      split at h2
      · rename_i hb
        have := Nat.eq_of_beq_eq_true hb
        subst this
        simp only [Exit.inBlock, if_true]
        exact ⟨.normal, st', ρ', Δ', trivial, h2, h3, h4, h5⟩
      · rename_i hb
        simp only [Exit.inBlock]
        rw [if_neg (fun e => by subst e; simp at hb)]
        exact ⟨.exit i, st', ρ', Δ', rfl, h2, h3, h4, h5⟩
    · exact ⟨_, st', ρ', Δ', by exact h1, h2, h3, h4, h5⟩
    · exact ⟨_, st', ρ', Δ', by exact h1, h2, h3, h4, h5⟩
    · exact ⟨_, st', ρ', Δ', by exact h1, h2, h3, h4, h5⟩
  | scope c ih =>
    intro st K hk
    refine ⟨fun r B Δ ρ a w h hf => wpIn_scope (wpIn_mono ((ih _ _ hk).run r B Δ ρ a w h hf) ?_)⟩
    rintro e a' w' ⟨x', st', ρ', Δ', h1, h2, h3, h4, h5⟩
    cases x' <;> cases e <;> simp only [Ex.rel] at h1 <;> first | exact h1.elim | exact (hno h2).elim | exact ⟨_, st', ρ', Δ', by exact h1, h2, h3, h4, h5⟩
  | exit id => intro st K hk; exact ⟨fun r B Δ ρ a w h hf => wpIn_exit ⟨.exit id, st, ρ, Δ, rfl, hk, h, Ext.refl _ _ _, hf⟩⟩
  | goto l => intro st K hk; exact ⟨fun r B Δ ρ a w h hf => wpIn_goto ⟨.goto l, st, ρ, Δ, rfl, hk, h, Ext.refl _ _ _, hf⟩⟩
  | ret => intro st K hk; exact ⟨fun r B Δ ρ a w h hf => wpIn_ret ⟨.ret, st, ρ, Δ, trivial, hk, h, Ext.refl _ _ _, hf⟩⟩
  | region id ops draw =>
    intro st K hk
    cases draw with
    | true => exact hL _ _ _ hk
    | false => exact ⟨fun r B Δ ρ a w h hf => wpIn_region_list (evOps_sound hno hC hf ops.toList st ρ a w h (Ext.refl _ _ _) hk)⟩
  | loop c => intro st K hk; exact hL _ _ _ hk
  | rangeFunc f ps x y => intro st K hk; exact hL _ _ _ hk
  | refuse => intro st K hk; exact (hno hk).elim
end
end Go.Proofs.YtalgegmcllcnmaaRL
end
section
/- RL, eighth text: functions entered, loops, and what a law's row wants. -/
namespace Go.Proofs.YtalgegmcllcnmaaRL
open Go
set_option linter.unusedVariables false
set_option linter.unusedSimpArgs false
variable {Δ : List Deferred}
def zipArgs (k : Nat) : List V → List (Nat × V)
  | [] => []
  | v :: vs => (k, v) :: zipArgs (k + 1) vs
def vResult (P : Program) (st : St) : ResultVar → Option V
  | .tmp t => find st.t t
  | .cell a t => match find st.t a with
    | some (.ptr i o) => vLoad P t st.s i o
    | _ => none
def vResL (P : Program) (st : St) : List ResultVar → Option (List V)
  | [] => some []
  | r :: rs => match vResult P st r, vResL P st rs with
    | some v, some vs => some (v :: vs)
    | _, _ => none
def one1 : List V → V
  | [v] => v
  | vs => .tup vs
def bodyK {R : Type} (no : R) (P : Program) (fn : Func) (K : Res → Sto → R) : Ex → St → R
  | .normal, st => Wi no (vResL P st fn.results.toList) fun vs => K (.ret (one1 vs)) st.s
  | .ret, st => Wi no (vResL P st fn.results.toList) fun vs => K (.ret (one1 vs)) st.s
  | .panic v, st => K (.pan v) st.s
  | _, _ => no
def resF (a : Act) : ResultVar → Sem Value
  | .tmp t => pure (a.tmps.getD t undef)
  | .cell x t => do loadVar t (← asAddr (a.tmps.getD x undef))
theorem results_eq (fn : Func) (a : Act) : results fn a.tmps = (do let vs ← fn.results.mapM (resF a); pure (if h : vs.size = 1 then vs[0] else .tuple vs)) := by
  unfold results
  congr 1
section
variable {P : Program} {ρ : Rho} {w : World} {st : St} {a : Act}
theorem find_zip {t : Nat} {v : V} : ∀ {args : List V} {k : Nat}, find (zipArgs k args) t = some v → k ≤ t ∧ args[t - k]? = some v := by
  intro args
  induction args with
  | nil => intro k h; simp [zipArgs, find] at h
  | cons u args ih =>
    intro k h
    simp only [zipArgs, find] at h
    split at h
    · rename_i hb
      have := Nat.eq_of_beq_eq_true hb
      subst this
      exact ⟨Nat.le_refl _, by simpa using h⟩
    · rename_i hb
      have hne : k ≠ t := fun e => by subst e; simp at hb
      obtain ⟨h1, h2⟩ := ih h
      refine ⟨by omega, ?_⟩
      rw [show t - k = (t - (k + 1)) + 1 by omega]
      simpa using h2
theorem resL_sound (h : Sim Δ ρ st a w) : ∀ {rs : List ResultVar} {vs : List V}, vResL P st rs = some vs →
    ((rs.mapM (resF a) : Sem (List Value))).run P w = .ok (absL ρ vs) w ∧ bdL st.s.length vs := by
  intro rs
  induction rs with
  | nil => intro vs hv; simp only [vResL, Option.some.injEq] at hv; subst hv; simp [absL, bdL]
  | cons r rs ih =>
    intro vs hv
    simp only [vResL] at hv
    split at hv
    · rename_i v vs' h1 h2
      simp only [Option.some.injEq] at hv
      subst hv
      obtain ⟨i1, i2⟩ := ih h2
      have hr : (resF a r).run P w = .ok (v.abs ρ) w ∧ v.bd st.s.length := by
        cases r with
        | tmp t =>
          simp only [vResult] at h1
          exact ⟨by simp [resF, Array.getD_eq_getD_getElem?, h.tmps t v h1], h.bd t v h1⟩
        | cell x t =>
          simp only [vResult] at h1
          split at h1
          · rename_i i o hx
            have hc := h.tmps x _ hx
            refine ⟨?_, bd_load h.sb h1⟩
            simp [resF, Array.getD_eq_getD_getElem?, hc, V.abs, asAddr, run_load' h.rep h1]
          · cases h1
      refine ⟨?_, hr.2, i2⟩
      rw [List.mapM_cons]
      simp only [Sem.run_bind, hr.1, Result.andThen_ok, i1, Sem.run_pure, absL]
    · cases hv
theorem results_run (h : Sim Δ ρ st a w) {fn : Func} {vs : List V} (hv : vResL P st fn.results.toList = some vs) : (results fn a.tmps).run P w = .ok ((one1 vs).abs ρ) w ∧ (one1 vs).bd st.s.length := by
  obtain ⟨h1, h2⟩ := resL_sound (P := P) h hv
  have hm : ((fn.results.mapM (resF a) : Sem (Array Value))).run P w = .ok (absL ρ vs).toArray w := by
    rw [← Array.toArray_toList (xs := fn.results), List.mapM_toArray]
    simp only [Sem.run_map, h1, Result.andThen_ok]
  refine ⟨?_, ?_⟩
  · simp only [results_eq, Sem.run_bind, hm, Result.andThen_ok, Sem.run_pure]
    match vs with
    | [] => simp [one1, absL, V.abs]
    | [v] => simp [one1, absL]
    | u :: v :: vs => simp [one1, absL, V.abs]
  · match vs, h2 with
    | [], _ => simp [one1, V.bd, bdL]
    | [v], h2 => exact h2.1
    | u :: v :: vs, h2 => exact h2
/-- Blocks for deferred calls are shut. -/
structure Shut (ms : List Nat) (w w' : World) : Prop where
  os : w'.os = w.os
  tape : w'.tape = w.tape
  output : w'.output = w.output
  size : w'.heap.size = w.heap.size
  block : ∀ b, b ∉ ms → w'.heap[b]? = w.heap[b]?
theorem Shut.rep {ms : List Nat} {s : Sto} {w w' : World} (hs : Shut ms w w') (h : Rep ρ s w) (hm : ∀ b ∈ ms, w.heap[b]? = some (.deferred (some [])) ∧ ∀ (i : Nat) (e : Ent), s[i]? = some e → e.isOwn = true → (ρ i).1 ≠ b) : Rep ρ s w' := by
  refine ⟨fun i e he => ?_, h.sep⟩
  have h0 := h.ent i e he
  have own : e.isOwn = true → w'.heap[(ρ i).1]? = w.heap[(ρ i).1]? := fun ho => hs.block _ fun hb => (hm _ hb).2 i e he ho rfl
  cases e with
  | own cs t => exact ⟨by rw [own rfl]; exact h0.1, h0.2⟩
  | ro cs =>
    obtain ⟨⟨a, t, x, hc⟩, h0⟩ := h0
    have hb : (ρ i).1 ∉ ms := fun hb => by
      have := (hm _ hb).1
      rw [hc] at this; cases this
    refine ⟨⟨a, t, x, by rw [hs.block _ hb]; exact hc⟩, fun j v hv => ?_⟩
    have h1 := h0 j v hv
    simp only [World.cell?, hs.block _ hb]
    simpa only [World.cell?] using h1
  | map es c => simp only [RepE] at h0 ⊢; rw [own rfl]; exact h0
  | lst cs t k z =>
    obtain ⟨rest, h1, h2, h3⟩ := h0
    exact ⟨rest, by rw [own rfl]; exact h1, h2, h3⟩
  | lp e m ps asg body pend =>
    obtain ⟨r, h1, h2⟩ := h0
    exact ⟨r, by rw [own rfl]; exact h1, h2⟩
  | arr m cols n t =>
    obtain ⟨cs, a1, a2, a3, h0⟩ := h0
    refine ⟨cs, a1, a2, a3, ?_⟩
    cases m with
    | ro =>
      obtain ⟨⟨a, t, x, hc⟩, h0⟩ := h0
      have hb : (ρ i).1 ∉ ms := fun hb => by
        have := (hm _ hb).1
        rw [hc] at this; cases this
      refine ⟨⟨a, t, x, by rw [hs.block _ hb]; exact hc⟩, fun j v hv => ?_⟩
      have h1 := h0 j v hv
      simp only [World.cell?, hs.block _ hb]
      simpa only [World.cell?] using h1
    | own => exact ⟨by rw [own rfl]; exact h0.1, h0.2⟩
    | grow k =>
      obtain ⟨rest, h1, h2, h3⟩ := h0
      exact ⟨rest, by rw [own rfl]; exact h1, h2, h3⟩
  | no => trivial
def putO (w : World) (b : Nat) (o : Obj) : World := { w with heap := w.heap.setIfInBounds b o }
theorem run_obj {b : Nat} {w : World} {o : Obj} (hc : ∀ c e f, o ≠ .cells c e f) (h : w.heap[b]? = some o) : (getObj b).run P w = .ok o w := by
  cases o <;> first | exact absurd rfl (hc _ _ _) | simp [getObj, Sem.run, h]
theorem run_setO {b : Nat} {w : World} {o o' : Obj} (hc : ∀ c e f, o ≠ .cells c e f) (h : w.heap[b]? = some o) : (setObj b o').run P w = .ok () (putO w b o') := by
  cases o <;> first | exact absurd rfl (hc _ _ _) | simp [setObj, Sem.run, h, putO]
theorem run_take {b : Nat} {w : World} (h : w.heap[b]? = some (.deferred (some []))) : ∃ w', (Instr.takeDeferred b).run P w = .ok [] w' ∧ Shut [b] w w' := by
  have hlt : b < w.heap.size := (Array.getElem?_eq_some_iff.1 h).1
  refine ⟨putO w b (.deferred none), ?_, ⟨rfl, rfl, rfl, by simp [putO], fun c hc => ?_⟩⟩
  · simp only [Instr.takeDeferred, Sem.run_bind, run_obj (by simp) h, Result.andThen_ok, run_setO (by simp) h, Sem.run_pure]
  · have hne : b ≠ c := fun e => hc (by simp [e])
    simp [putO, Array.getElem?_setIfInBounds_ne hne]
theorem leaves_marks {fn : Func} {tmps : Array Value} {R : Ending → World → Prop} {u : FrameMode} (hu : u ≠ .run) : ∀ {ms : List Nat} {w : World}, ms.Nodup → (∀ b ∈ ms, w.heap[b]? = some (.deferred (some []))) → (∀ w'', Shut ms w w'' → LeavesIn (Fr none) 0 P fn tmps R [] u w'') → LeavesInM (Fr none) 0 P fn tmps R (ms.map markD) u w := by
  intro ms
  induction ms with
  | nil => intro w _ _ h; exact h w ⟨rfl, rfl, rfl, rfl, fun _ _ => rfl⟩
  | cons b ms ih =>
    intro w hnd hb h
    obtain ⟨w1, h1, h2⟩ := run_take (P := P) (hb b (by simp))
    have hnd' := List.nodup_cons.1 hnd
    refine ⟨hu, .inl ⟨b, w1, rfl, h1, ih hnd'.2 (fun c hc => ?_) fun w'' hs => h w'' ⟨hs.os.trans h2.os, hs.tape.trans h2.tape, hs.output.trans h2.output, hs.size.trans h2.size, fun c hc => ?_⟩⟩⟩
    · rw [h2.block c (by simpa using fun e : c = b => hnd'.1 (e ▸ hc))]
      exact hb c (by simp [hc])
    · rw [hs.block c fun hm => hc (by simp [hm]), h2.block c fun hm => hc (by simp at hm; simp [hm])]
/-- A function is entered. -/
theorem CallOk.of_code {R : Type} {no : R} {T : R → Prop} (hno : ¬ T no) {f : FuncId} {fn : Func} {c : Code} {args : List V} {s : Sto} {K : Res → Sto → R} (hf : P.funcs[f]? = some fn) (hn : (fn.name == "runtime.NumGoroutine") = false) (hb : fn.body = some c) (hl : Nat.ble args.length fn.ntmps = true)
    (h : CodeOk P c ⟨fn.ntmps, zipArgs 0 args, s⟩ fun e st => T (bodyK no P fn K e st)) : CallOk P f args s fun r s => T (K r s) := by
  refine ⟨fun xs w => ?_, fun ρ w hr hs hbd => ?_⟩
  · simp only [callFunc, Sem.run_bind, run_program, Result.andThen_ok, hf]
    rw [if_neg (by simp [hn]), if_neg (by simp [hb])]
    rfl
  · have hle : args.length ≤ fn.ntmps := Nat.le_of_ble_eq_true hl
    have sim : Sim [] ρ ⟨fn.ntmps, zipArgs 0 args, s⟩ { tmps := (absL ρ args).toArray ++ Array.replicate (fn.ntmps - (absL ρ args).toArray.size) undef, defers := [] } w := by
      refine ⟨rfl, ?_, fun t v hv => ?_, fun t v hv => ?_, hr, hs⟩
      · simp [absL_length]; omega
      · have h2 := (find_zip hv).2
        simp only [Nat.sub_zero] at h2
        have hlt : t < args.length := (List.getElem?_eq_some_iff.1 h2).1
        rw [Array.getElem?_append_left (by simpa [absL_length] using hlt)]
        simp [absL_get, h2]
      · have h2 := (find_zip hv).2
        exact bdL_get hbd (by simpa using h2)
    have fo : Fo none w.heap.size [] ρ s w := ⟨Nat.le_refl _, ⟨[], rfl, List.nodup_nil, fun b hb => by cases hb⟩, fun l hl => by cases hl⟩
    refine callsIn_wide.1 (callsIn_of_wp_marks (F := Fr none) (n := 0) hf hb trivial (wpIn_mono (h.run none w.heap.size [] ρ _ w sim fo) ?_))
    rintro e a' w' ⟨x, st', ρ', Δ', h1, h2, h3, h4, h5⟩
    obtain ⟨ms, rfl, hnd, hms⟩ := h5.marks
    have hms' : ∀ b ∈ ms, w'.heap[b]? = some (.deferred (some [])) := fun b hb => (hms b hb).2.1
    have fin : ∀ w'', Shut ms w' w'' → Rep ρ' st'.s w'' ∧ Ext s ρ w st'.s ρ' w'' := fun w'' hs => by
      have r2 := hs.rep h3.rep fun b hb => ⟨(hms b hb).2.1, (hms b hb).2.2⟩
      refine ⟨r2, ⟨h4.len, h4.same, h4.own, hs.os.trans h4.os, hs.tape.trans h4.tape, hs.output.trans h4.output, by rw [hs.size]; exact h4.size, fun b hb hn => ?_⟩⟩
      rw [hs.block b fun hm => by have := (hms b hm).1; omega]
      exact h4.block b hb hn
    cases x <;> cases e <;> simp only [Ex.rel] at h1 <;> try exact h1.elim
    · obtain ⟨vs, hv, hk⟩ := Wi.out hno h2
      simp only [bodyPostM]
      rw [h3.defers]
      refine leaves_marks (by simp) hnd hms' fun w'' hs => ?_
      obtain ⟨q1, q2⟩ := fin w'' hs
      have h3' : Sim _ ρ' st' a' w'' := ⟨h3.defers, h3.size, h3.tmps, h3.bd, q1, h3.sb⟩
      obtain ⟨r1, r2⟩ := results_run (P := P) h3' hv
      exact ⟨_, r1, .ret (one1 vs), st'.s, ρ', rfl, hk, q1, q2, h3.sb, r2⟩
    · exact (hno h2).elim
    · exact (hno h2).elim
    · obtain ⟨vs, hv, hk⟩ := Wi.out hno h2
      simp only [bodyPostM]
      rw [h3.defers]
      refine leaves_marks (by simp) hnd hms' fun w'' hs => ?_
      obtain ⟨q1, q2⟩ := fin w'' hs
      have h3' : Sim _ ρ' st' a' w'' := ⟨h3.defers, h3.size, h3.tmps, h3.bd, q1, h3.sb⟩
      obtain ⟨r1, r2⟩ := results_run (P := P) h3' hv
      exact ⟨_, r1, .ret (one1 vs), st'.s, ρ', rfl, hk, q1, q2, h3.sb, r2⟩
    · rename_i v chain
      simp only [bodyPostM]
      rw [h3.defers]
      refine leaves_marks (by simp) hnd hms' fun w'' hs => ?_
      obtain ⟨q1, q2⟩ := fin w'' hs
      exact ⟨.pan v, st'.s, ρ', by simp [Res.ending, h1.1], h2, q1, q2, h3.sb, h1.2⟩
end

/-- A loop, from the head of a round on. -/
structure LoopOk (P : Program) (c : Code) (st : St) (K : Ex → St → Prop) : Prop where
  run : ∀ (r : Option Nat) (B : Nat) (Δ : List Deferred) (ρ : Rho) (a : Act) (w : World), Sim Δ ρ st a w → Fo r B Δ ρ st.s w → ∀ (b : Frame) (k : List Item) (cs : List Frame), b.roundOf = r →
    ∃ e a' w', lift r B st ρ w K e a' w' ∧ ArrivesIn (Machine.fenced P (Fr r)) P (lone (b.atR a (.code c :: .inLoop c :: k)) cs w) b k cs e a' w'
theorem LoopOk.code {P : Program} {c : Code} {st : St} {K : Ex → St → Prop} (h : LoopOk P c st K) : CodeOk P (.loop c) st K :=
  ⟨fun r B Δ ρ a w hs hf b k cs hro _ _ => let ⟨e, a', w', hq, harr⟩ := h.run r B Δ ρ a w hs hf b k cs hro; ⟨e, a', w', hq, .of_steps (.one (fr_fenced _ _ _) stepR_loop) harr⟩⟩
/-- One more round. -/
theorem LoopOk.next {P : Program} {c : Code} {st : St} {K : Ex → St → Prop} (h : CodeOk P c st fun e st' => match e with | .normal => LoopOk P c st' K | e => K e st') : LoopOk P c st K := by
  refine ⟨fun r B Δ ρ a w hs hf b k cs hro => ?_⟩
  obtain ⟨e, a₁, w₁, ⟨x, st', ρ', Δ', h1, h2, h3, h4, h5⟩, harr⟩ := h.run r B Δ ρ a w hs hf b (.inLoop c :: k) cs hro trivial (fr_room _ _)
  cases x <;> cases e <;> simp only [Ex.rel] at h1 <;> try exact h1.elim
  · obtain ⟨e₂, a₂, w₂, hq₂, harr₂⟩ := h2.run r B Δ' ρ' a₁ w₁ h3 h5 b k cs hro
    exact ⟨e₂, a₂, w₂, lift_mono h4 hq₂, .of_steps (StepsIn.trans harr (.one (fr_fenced _ _ _) stepR_inLoop)) harr₂⟩
  · exact ⟨.exit _, a₁, w₁, ⟨.exit _, st', ρ', Δ', h1, h2, h3, h4, h5⟩, .pass (x := .inLoop c) rfl (fun _ _ => .inl (by simp)) harr⟩
  · exact ⟨.goto _, a₁, w₁, ⟨.goto _, st', ρ', Δ', h1, h2, h3, h4, h5⟩, .pass (x := .inLoop c) rfl (fun _ _ => .inl (by simp)) harr⟩
  · exact ⟨.ret, a₁, w₁, ⟨.ret, st', ρ', Δ', trivial, h2, h3, h4, h5⟩, .pass (x := .inLoop c) rfl (fun _ _ => .inl (by simp)) harr⟩
  · exact ⟨.panic _, a₁, w₁, ⟨.panic _, st', ρ', Δ', h1, h2, h3, h4, h5⟩, .pass (x := .inLoop c) rfl (fun _ _ => .inl (by simp)) harr⟩
mutual
def V.ren (π : Nat → Nat) : V → V
  | .raw v => .raw v
  | .md k m l => .md k m l
  | .ptr i o => .ptr (π i) o
  | .sl i o n c => .sl (π i) o n c
  | .mp i => .mp (π i)
  | .yld i => .yld (π i)
  | .lst i k o e n => .lst (π i) (π k) o e n
  | .el i z k f => .el (π i) z k f
  | .sle i z k n c => .sle (π i) z k n c
  | .lse i k z e n => .lse (π i) (π k) z e n
  | .lend i k o e l z => .lend (π i) (π k) o e l z
  | .fn f a b => .fn f (renL π a) (renL π b)
  | .ifc t v => .ifc t (v.ren π)
  | .agg cs => .agg (renL π cs)
  | .tup vs => .tup (renL π vs)
def renL (π : Nat → Nat) : List V → List V
  | [] => []
  | v :: vs => v.ren π :: renL π vs
end
mutual
theorem V.abs_ren (ρ : Rho) (π : Nat → Nat) : ∀ (v : V), (v.ren π).abs ρ = v.abs (fun i => ρ (π i))
  | .raw v => rfl
  | .md k m l => rfl
  | .ptr i o => rfl
  | .sl i o n c => rfl
  | .mp i => rfl
  | .yld i => rfl
  | .lst i k o e n => rfl
  | .el i z k f => rfl
  | .sle i z k n c => rfl
  | .lse i k z e n => rfl
  | .lend i k o e l z => rfl
  | .fn f a b => by simp only [V.ren, V.abs, absL_ren ρ π a, absL_ren ρ π b]
  | .ifc t v => by simp only [V.ren, V.abs, V.abs_ren ρ π v]
  | .agg cs => by simp only [V.ren, V.abs, absL_ren ρ π cs]
  | .tup vs => by simp only [V.ren, V.abs, absL_ren ρ π vs]
theorem absL_ren (ρ : Rho) (π : Nat → Nat) : ∀ (l : List V), absL ρ (renL π l) = absL (fun i => ρ (π i)) l
  | [] => rfl
  | v :: l => by simp only [renL, absL, V.abs_ren ρ π v, absL_ren ρ π l]
end
theorem renL_map (π : Nat → Nat) (l : List V) : renL π l = l.map (V.ren π) := by
  induction l with
  | nil => rfl
  | cons v l ih => simp [renL, ih]
def renE (π : Nat → Nat) : List (Nat × V) → List (Nat × V)
  | [] => []
  | p :: l => (p.1, p.2.ren π) :: renE π l
theorem find_renE (π : Nat → Nat) (t : Nat) : ∀ (e : List (Nat × V)), find (renE π e) t = (find e t).map (V.ren π) := by
  intro e
  induction e with
  | nil => rfl
  | cons p e ih =>
    obtain ⟨k, v⟩ := p
    simp only [renE, find]
    cases Nat.beq k t
    · exact ih
    · rfl
def Ent.ren (π : Nat → Nat) : Ent → Ent
  | .own cs t => .own (renL π cs) t
  | .ro cs => .ro (renL π cs)
  | .map es c => .map (es.map fun e => (e.1.ren π, e.2.1.ren π, e.2.2)) c
  | .lst cs t k z => .lst (renL π cs) t (π k) z
  | .arr m cols n t => .arr (match m with | .ro => .ro | .own => .own | .grow k => .grow (π k)) cols n t
  | .lp e n ps asg body pend => .lp (renE π e) n ps asg body pend
  | .no => .no
theorem RepE.ren {ρ : Rho} {π : Nat → Nat} {w : World} {i : Nat} {e : Ent} (h : RepE ρ w (π i) (e.ren π)) : RepE (fun i => ρ (π i)) w i e := by
  cases e with
  | own cs t => simpa [RepE, Ent.ren, absL_ren] using h
  | ro cs =>
    refine ⟨h.1, fun j v hv => ?_⟩
    have := h.2 j (v.ren π) (by simp [renL_map, hv])
    rw [V.abs_ren] at this
    exact this
  | map es c =>
    simp only [RepE, Ent.ren] at h ⊢
    rw [h]
    simp only [List.map_map]
    congr 3
    refine List.map_congr_left fun e he => ?_
    simp [absE, V.abs_ren]
  | lst cs t k z =>
    obtain ⟨rest, h1, h2, h3⟩ := h
    rw [absL_ren] at h1
    exact ⟨rest, h1, h2, by simpa [renL_map] using h3⟩
  | lp e m ps asg body pend =>
    obtain ⟨r, h1, h2, h3, h4, h5, h6, h7, h8⟩ := h
    refine ⟨r, h1, h2, h3, h4, h5, h6, h7, fun t v hv => ?_⟩
    have := h8 t (v.ren π) (by rw [find_renE, hv]; rfl)
    rw [V.abs_ren] at this
    exact this
  | arr m cols n t =>
    obtain ⟨cs, a1, a2, a3, h0⟩ := h
    refine ⟨cs, a1, a2, a3, ?_⟩
    cases m with
    | ro => exact h0
    | own => exact h0
    | grow k => exact h0
  | no => trivial
/-- A state in which less is known, or in which blocks that are new since the first n have other numbers. -/
structure Weak (n : Nat) (st st' : St) (π : Nat → Nat) : Prop where
  num : st'.n = st.n
  le : n ≤ st'.s.length
  id : ∀ i, i < n → π i = i
  env : ∀ t v, find st'.t t = some v → find st.t t = some (v.ren π) ∧ v.bd st'.s.length
  ent : ∀ (i : Nat) e, st'.s[i]? = some e → e = .no ∨ (st.s[π i]? = some (e.ren π) ∧ e.bd st'.s.length)
  inj : ∀ (i j : Nat) e f, st'.s[i]? = some e → st'.s[j]? = some f → e.isOwn = true → f.live = true → i ≠ j → π i ≠ π j
theorem Ent.ren_own {π : Nat → Nat} {e : Ent} : (e.ren π).isOwn = e.isOwn := by
  cases e with
  | arr m cols n t => cases m <;> rfl
  | _ => rfl
theorem Ent.ren_live {π : Nat → Nat} {e : Ent} : (e.ren π).live = e.live := by cases e <;> rfl
theorem Weak.sim {n : Nat} {st st' : St} {π : Nat → Nat} (h : Weak n st st' π) {ρ : Rho} {a : Act} {w : World} (hs : Sim Δ ρ st a w) : Sim Δ (fun i => ρ (π i)) st' a w where
  defers := hs.defers
  size := by rw [h.num]; exact hs.size
  tmps t v hv := by rw [← V.abs_ren]; exact hs.tmps t _ (h.env t v hv).1
  bd t v hv := (h.env t v hv).2
  rep := by
    refine ⟨fun i e he => ?_, fun i j e f he hf ho hl hij => ?_⟩
    · rcases h.ent i e he with rfl | ⟨h1, h2⟩
      · trivial
      · exact RepE.ren (hs.rep.ent _ _ h1)
    · rcases h.ent i e he with rfl | ⟨h1, h2⟩
      · cases ho
      rcases h.ent j f hf with rfl | ⟨k1, k2⟩
      · cases hl
      exact hs.rep.sep (π i) (π j) _ _ h1 k1 (by rw [Ent.ren_own]; exact ho) (by rw [Ent.ren_live]; exact hl) (h.inj i j e f he hf ho hl hij)
  sb := by
    intro i e he
    rcases h.ent i e he with rfl | ⟨h1, h2⟩
    · trivial
    · exact h2
theorem Weak.fo {n : Nat} {st st' : St} {π : Nat → Nat} (h : Weak n st st' π) {r : Option Nat} {B : Nat} {ρ : Rho} {w : World} (hf : Fo r B Δ ρ st.s w) : Fo r B Δ (fun i => ρ (π i)) st'.s w := by
  have own : ∀ b, (∀ (i : Nat) (e : Ent), st.s[i]? = some e → e.isOwn = true → (ρ i).1 ≠ b) → ∀ (i : Nat) (e : Ent), st'.s[i]? = some e → e.isOwn = true → (ρ (π i)).1 ≠ b := fun b hb i e he ho => by
    rcases h.ent i e he with rfl | ⟨h1, h2⟩
    · cases ho
    · exact hb _ _ h1 (by rw [Ent.ren_own]; exact ho)
  refine ⟨hf.le, ?_, fun l hl => ?_⟩
  · obtain ⟨ms, h1, h2, h3⟩ := hf.marks
    exact ⟨ms, h1, h2, fun b hb => ⟨(h3 b hb).1, (h3 b hb).2.1, own b (h3 b hb).2.2⟩⟩
  · obtain ⟨rc, h1, h2⟩ := hf.round l hl
    exact ⟨rc, h1, own l h2⟩
theorem Weak.ext {n : Nat} {st st' : St} {π : Nat → Nat} (h : Weak n st st' π) {s0 : Sto} {ρ0 ρ : Rho} {w0 w : World} (hn : s0.length = n) (he : Ext s0 ρ0 w0 st.s ρ w) : Ext s0 ρ0 w0 st'.s (fun i => ρ (π i)) w where
  len := by rw [hn]; exact h.le
  same i hi := by rw [h.id i (by omega)]; exact he.same i hi
  own i e' hi ho := by
    rcases h.ent i e' hi with rfl | ⟨h1, h2⟩
    · cases ho
    rcases he.own (π i) _ h1 (by rw [Ent.ren_own]; exact ho) with ⟨j, e, h3, h4, h5⟩ | h3
    · exact .inl ⟨j, e, h3, h4, h5⟩
    · exact .inr h3
  os := he.os
  tape := he.tape
  output := he.output
  size := he.size
  block := he.block
/-- Loops and the like, met one by one. -/
def Lu (P : Program) : Lh Prop := fun c st K =>
  match c with
  | .loop b => LoopOk P b st K
  | c => CodeOk P c st K
theorem Lu.sound {P : Program} (c : Code) (st : St) (K : Ex → St → Prop) (h : Lu P c st K) : CodeOk P c st K := by
  cases c <;> first | exact LoopOk.code h | exact h
abbrev EvU (P : Program) := Ev False P (TgOk P) (Lu P)
theorem EvU.sound {P : Program} {c : Code} {st : St} {K : Ex → St → Prop} (h : EvU P c st K) : CodeOk P c st K := Ev.sound (T := fun p : Prop => p) (fun h => h) (fun _ _ _ _ h => h) (fun c st K h => Lu.sound c st K h) c st K h
/-- A function is entered, its code computed. -/
theorem CallOk.enter {P : Program} {f : FuncId} {fn : Func} {c : Code} {args : List V} {s : Sto} {K : Res → Sto → Prop} (hf : P.funcs[f]? = some fn) (hn : (fn.name == "runtime.NumGoroutine") = false) (hb : fn.body = some c) (hl : Nat.ble args.length fn.ntmps = true)
    (h : EvU P c ⟨fn.ntmps, zipArgs 0 args, s⟩ (bodyK False P fn K)) : CallOk P f args s K := CallOk.of_code (T := fun p : Prop => p) (fun h => h) hf hn hb hl (EvU.sound h)
/-- Less is asked of the store behind a call: what was there ahead of it. -/
theorem CallOk.take {P : Program} {f : FuncId} {args : List V} {s : Sto} {K : Res → Sto → Prop} (h : CallOk P f args s fun r s' => K r (s'.take s.length) ∧ r.val.bd s.length ∧ sbd (s'.take s.length)) : CallOk P f args s K := by
  refine ⟨h.plain, fun ρ w h1 h2 h3 => (h.run ρ w h1 h2 h3).mono ?_⟩
  rintro e w' ⟨r, s', ρ', rfl, ⟨k1, k2, k3⟩, r1, r2, r3, r4⟩
  have hlen : (s'.take s.length).length = s.length := by rw [List.length_take]; have := r2.len; omega
  have get : ∀ (i : Nat) e, (s'.take s.length)[i]? = some e → i < s.length ∧ s'[i]? = some e := by
    intro i e he
    have hi : i < s.length := by have := (List.getElem?_eq_some_iff.1 he).1; omega
    rw [List.getElem?_take, if_pos hi] at he
    exact ⟨hi, he⟩
  refine ⟨r, s'.take s.length, ρ', rfl, k1, ⟨fun i e he => r1.ent i e (get i e he).2, fun i j e f he hf => r1.sep i j e f (get i e he).2 (get j f hf).2⟩, ?_, k3, by rw [hlen]; exact k2⟩
  exact ⟨by omega, r2.same, fun i e' he ho => r2.own i e' (get i e' he).2 ho, r2.os, r2.tape, r2.output, r2.size, r2.block⟩
/-- What a law's row wants. -/
theorem CallOk.below {P : Program} {f : FuncId} {args : List V} {s : Sto} {r : V} {ρ : Rho} {w : World} (h : CallOk P f args s fun x _ => x = .ret r) (hr : Rep ρ s w) (hs : sbd s) (ha : bdL s.length args) (hro : ∀ (i : Nat) e, s[i]? = some e → e.isOwn = false) (hv : r.bd 0) :
    Calls P f (absL ρ args).toArray w fun e w' => e = .returned (r.abs ρ) ∧ Go.RowKit.Below w.heap.size w w' := by
  refine (h.run ρ w hr hs ha).mono ?_
  rintro e w' ⟨_, s', ρ', rfl, rfl, r1, r2, r3, r4⟩
  refine ⟨?_, r2.os, r2.tape, r2.output, r2.size, fun k hk => r2.block k hk fun i e he ho => ?_⟩
  · simp only [Res.ending]
    rw [V.abs_congr (n := 0) (fun i hi => absurd hi (by omega)) r hv]
  · rw [hro i e he] at ho; cases ho
end Go.Proofs.YtalgegmcllcnmaaRL
end
section
/- RL, ninth text: regions that draw their order: operations that change nothing, in whatever order, and one behind them all. -/
namespace Go.Proofs.YtalgegmcllcnmaaRL
open Go
set_option linter.unusedVariables false
set_option linter.unusedSimpArgs false
variable {Δ : List Deferred}
def Ent.toRo : Ent → Ent
  | .own cs _ => .ro cs
  | .ro cs => .ro cs
  | .lst cs _ _ _ => .ro cs
  | .arr _ cols n t => .arr .ro cols n t
  | _ => .no
def roS (s : Sto) : Sto := s.map Ent.toRo
theorem toRo_length (s : Sto) : (roS s).length = s.length := by simp [roS]
theorem toRo_own (s : Sto) (i : Nat) (e : Ent) (h : (roS s)[i]? = some e) : e.isOwn = false := by
  simp only [roS, List.getElem?_map] at h
  obtain ⟨f, _, rfl⟩ := Option.map_eq_some_iff.1 h
  cases f <;> rfl
theorem Rep.toRo {ρ : Rho} {s : Sto} {w : World} (h : Rep ρ s w) : Rep ρ (roS s) w := by
  refine ⟨fun i e he => ?_, fun i j e f he hf ho => ?_⟩
  · simp only [roS, List.getElem?_map] at he
    obtain ⟨f, hf, rfl⟩ := Option.map_eq_some_iff.1 he
    have := h.ent i f hf
    cases f with
    | own cs t =>
      refine ⟨⟨_, _, _, this.1⟩, fun j v hj => ?_⟩
      simp [World.cell?, this.1, this.2, absL_get, hj]
    | ro cs => exact this
    | lst cs t k z =>
      obtain ⟨rest, h1, h2, _⟩ := this
      refine ⟨⟨_, _, _, h1⟩, fun j v hj => ?_⟩
      have hlt : j < (absL ρ cs).length := by rw [absL_length]; exact (List.getElem?_eq_some_iff.1 hj).1
      simp [World.cell?, h1, h2, List.getElem?_append_left hlt, absL_get, hj]
    | arr m cols n t =>
      obtain ⟨cs, a1, a2, a3, h0⟩ := this
      refine ⟨cs, a1, a2, a3, ?_⟩
      cases m with
      | ro => exact h0
      | own =>
        refine ⟨⟨_, _, _, h0.1⟩, fun j v hj => ?_⟩
        simp [World.cell?, h0.1, h0.2, hj]
      | grow k =>
        obtain ⟨rest, h1, h2, h3⟩ := h0
        refine ⟨⟨_, _, _, h1⟩, fun j v hj => ?_⟩
        have hlt : j < cs.length := (List.getElem?_eq_some_iff.1 hj).1
        simp [World.cell?, h1, h2, List.getElem?_append_left hlt, hj]
    | map => trivial
    | lp => trivial
    | no => trivial
  · rw [toRo_own s i e he] at ho; cases ho
theorem sbd.toRo {s : Sto} (h : sbd s) : sbd (roS s) := by
  intro i e he
  rw [toRo_length]
  simp only [roS, List.getElem?_map] at he
  obtain ⟨f, hf, rfl⟩ := Option.map_eq_some_iff.1 he
  have := h i f hf
  cases f <;> first | exact this | exact this.1 | trivial
/-- Behind what only read, the store stands as it stood. -/
theorem quiet_ext {ρ ρ' : Rho} {s s' : Sto} {w w' : World} (hr : Rep ρ s w) (hs : sbd s) (he : Ext (roS s) ρ w s' ρ' w') : Rep ρ s w' ∧ Ext s ρ w s ρ w' := by
  have hblk : ∀ b, b < w.heap.size → w'.heap[b]? = w.heap[b]? := fun b hb => he.block b hb fun i e hi ho => by rw [toRo_own s i e hi] at ho; cases ho
  refine ⟨⟨fun i e hi => ?_, hr.sep⟩, ⟨Nat.le_refl _, fun _ _ => rfl, fun i e h ho => .inl ⟨i, e, h, ho, rfl⟩, he.os, he.tape, he.output, he.size, fun b hb _ => hblk b hb⟩⟩
  have h := hr.ent i e hi
  cases hl : e.live with
  | true => exact RepE.congr (n := s.length) (fun _ _ => rfl) (List.getElem?_eq_some_iff.1 hi).1 (hs i e hi) (hblk _ (h.lt hl)) he.size h
  | false => cases e <;> simp_all [Ent.live, RepE]
mutual
def V.bdb (n : Nat) : V → Bool
  | .raw _ => true
  | .md _ _ _ => true
  | .ptr i _ => Nat.blt i n
  | .sl i _ _ _ => Nat.blt i n
  | .mp i => Nat.blt i n
  | .yld i => Nat.blt i n
  | .lst i k _ _ _ => Nat.blt i n && Nat.blt k n
  | .el i _ _ _ => Nat.blt i n
  | .sle i _ _ _ _ => Nat.blt i n
  | .lse i k _ _ _ => Nat.blt i n && Nat.blt k n
  | .lend i k _ _ _ _ => Nat.blt i n && Nat.blt k n
  | .fn _ a b => bdbL n a && bdbL n b
  | .ifc _ v => v.bdb n
  | .agg cs => bdbL n cs
  | .tup vs => bdbL n vs
def bdbL (n : Nat) : List V → Bool
  | [] => true
  | v :: vs => v.bdb n && bdbL n vs
end
mutual
theorem V.bd_of {n : Nat} : ∀ (v : V), v.bdb n = true → v.bd n
  | .raw _, _ => trivial
  | .md _ _ _, _ => trivial
  | .ptr i o, h => by simp only [V.bdb, Nat.blt_eq] at h; exact h
  | .sl i o m c, h => by simp only [V.bdb, Nat.blt_eq] at h; exact h
  | .mp i, h => by simp only [V.bdb, Nat.blt_eq] at h; exact h
  | .yld i, h => by simp only [V.bdb, Nat.blt_eq] at h; exact h
  | .lst i k o e m, h => by simp only [V.bdb, Bool.and_eq_true, Nat.blt_eq] at h; exact h
  | .el i z k f, h => by simp only [V.bdb, Nat.blt_eq] at h; exact h
  | .sle i z k m c, h => by simp only [V.bdb, Nat.blt_eq] at h; exact h
  | .lse i k z e m, h => by simp only [V.bdb, Bool.and_eq_true, Nat.blt_eq] at h; exact h
  | .lend i k o e l z, h => by simp only [V.bdb, Bool.and_eq_true, Nat.blt_eq] at h; exact h
  | .fn f a b, h => by simp only [V.bdb, Bool.and_eq_true] at h; exact ⟨bdL_of a h.1, bdL_of b h.2⟩
  | .ifc t v, h => by simp only [V.bdb] at h; exact V.bd_of v h
  | .agg cs, h => by simp only [V.bdb] at h; exact bdL_of cs h
  | .tup vs, h => by simp only [V.bdb] at h; exact bdL_of vs h
theorem bdL_of {n : Nat} : ∀ (l : List V), bdbL n l = true → bdL n l
  | [], _ => trivial
  | v :: vs, h => by simp only [bdbL, Bool.and_eq_true] at h; exact ⟨V.bd_of v h.1, bdL_of vs h.2⟩
end
/-- A call that only reads: what it hands back. -/
abbrev Qh := FuncId → List V → Sto → Option V
def quietVal (P : Program) (Q : Qh) (op : Op) (e : List (Nat × V)) (s : Sto) : Option V :=
  match op with
  | .call c => match c.callee with
    | .builtin b => Wi none (getTL e c.args.toList) fun args => vBuiltin none P b c.argTypes.toList args s fun v _ => some v
    | _ => none
  | op => match stillOp op with
    | true => valOpT none P op e s fun v _ => some v
    | false => none
/-- A call that only reads does: whatever is its own in the store, it leaves. -/
def QOk (P : Program) (Q : Qh) : Prop := ∀ f args s v, Q f args s = some v → CallOk P f args (roS s) (fun r _ => r = .ret v) ∧ v.bd s.length
/-- What a step that only makes new blocks leaves. -/
structure Same (w w' : World) : Prop where
  os : w'.os = w.os
  tape : w'.tape = w.tape
  output : w'.output = w.output
  size : w.heap.size ≤ w'.heap.size
  block : ∀ b, b < w.heap.size → w'.heap[b]? = w.heap[b]?
theorem Same.refl (w : World) : Same w w := ⟨rfl, rfl, rfl, Nat.le_refl _, fun _ _ => rfl⟩
theorem Ext.same_ro {s s' : Sto} {ρ ρ' : Rho} {w w' : World} (he : Ext (roS s) ρ w s' ρ' w') : Same w w' :=
  ⟨he.os, he.tape, he.output, he.size, fun b hb => he.block b hb fun i e hi ho => by rw [toRo_own s i e hi] at ho; cases ho⟩
/-- Does an operation hand on a value, whatever the world? -/
def Gives (P : Program) (s : Sto) (o : Oper) (a : Act) (ρ : Rho) (v : V) : Prop :=
  ∀ (w : World), Rep ρ s w → ∀ (K : Act → World → Prop) (X : Exit → Act → World → Prop), (∀ w', Rep ρ s w' → Ext s ρ w s ρ w' → Same w w' → K (a.put o.dst (v.abs ρ)) w') → o.wp P a w K X
theorem quietVal_sound {P : Program} {Q : Qh} (hQ : QOk P Q) {ρ : Rho} {st : St} {a : Act} {w0 : World} (h : Sim Δ ρ st a w0) {o : Oper} {v : V} (hv : quietVal P Q o.op st.t st.s = some v) : Gives P st.s o a ρ v ∧ v.bd st.s.length := by
  have hno : ¬ ((none : Option V) = some v) := by simp
  have hsim : ∀ w, Rep ρ st.s w → Sim Δ ρ st a w := fun w hr => ⟨h.defers, h.size, h.tmps, h.bd, hr, h.sb⟩
  unfold quietVal at hv
  split at hv
  · rename_i c hc
    split at hv
    · rename_i b hb
      obtain ⟨args, ha, hv⟩ := Wi.out (T := fun x => x = some v) hno hv
      obtain ⟨f1, f2⟩ := h.evalL ha
      have hex : execOp a.eval o = (do let d ← resolve a.eval c o.type; invoke d.target d.args) := by unfold execOp; rw [hc]
      have key : ∀ cs w, Rep ρ st.s w → (builtin b c.argTypes o.type cs (absL ρ args).toArray).run P w = .ok (.value (v.abs ρ)) w ∧ v.bd st.s.length := by
        intro cs w hr
        obtain ⟨u, u1, u2, u3⟩ := builtin_sound (T := fun x => x = some v) hno (P := P) (ty := o.type) (cs := cs) hr f2 hv
        obtain rfl := Option.some.inj u2
        exact ⟨u1, u3⟩
      refine ⟨fun w hr K X hK => ?_, (key #[] w0 h.rep).2⟩
      unfold Oper.wp
      rw [hex]
      simp only [resolve, hb, toArray_eval f1, pure_bind, invoke]
      rw [(key _ w hr).1, Oper.upon_value]
      exact hK w hr (Ext.refl _ _ _) (Same.refl _)
    · cases hv
  · rename_i hnc
    split at hv
    · rename_i hs
      have key : ∀ w, Rep ρ st.s w → (execOp a.eval o).run P w = .ok (.value (v.abs ρ)) w ∧ v.bd st.s.length := by
        intro w hr
        obtain ⟨n, u, s', ρ', w', r1, r2, r3, r4, r5, r6, r7, r8⟩ := valOp_sound (T := fun x => x = some v) hno (hsim w hr) (o := o) (K := fun v _ => some v) hv
        obtain ⟨rfl, rfl, rfl, rfl⟩ := r8 hs
        obtain rfl := Option.some.inj r3
        exact ⟨r1, r7⟩
      refine ⟨fun w hr K X hK => ?_, (key w0 h.rep).2⟩
      unfold Oper.wp
      rw [(key w hr).1, Oper.upon_value]
      exact hK w hr (Ext.refl _ _ _) (Same.refl _)
    · cases hv
end Go.Proofs.YtalgegmcllcnmaaRL
end
