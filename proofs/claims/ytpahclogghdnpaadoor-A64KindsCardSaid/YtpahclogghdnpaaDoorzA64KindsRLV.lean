/- RL: clear and copy. -/
import Derived.Test.YtpahclogghdnpaaDoorzA64KindsRLH
namespace Go.Proofs.YtpahclogghdnpaaDoorRL
open Go
set_option linter.unusedVariables false
set_option linter.unusedSimpArgs false
section
variable {P : Program} {ρ : Rho} {w : World}
theorem raws_one {l : List Value} (h : ∀ u ∈ l, u.oneCell' = true) : (l.map V.raw).all V.one = true := by
  rw [List.all_eq_true]
  intro v hv
  obtain ⟨u, hu, rfl⟩ := List.mem_map.1 hv
  have := h u hu
  cases u <;> simp_all [V.one, Value.oneCell']
theorem setR_raws {cs nv : List Value} {o : Nat} (h : o + nv.length ≤ cs.length) : absL ρ (setR (cs.map V.raw) o (nv.map V.raw)) = cs.take o ++ nv ++ cs.drop (o + nv.length) := by
  rw [setR_cut _ _ _ (by simpa using h), List.length_map, ← List.map_take, ← List.map_drop, ← List.map_append, ← List.map_append, absL_raws]
/-- Elements of an array written over. -/
theorem owE_sound {s : Sto} (hr : Rep ρ s w) (hs : sbd s) {i lo n N : Nat} {m : AM} {tc bs tc' : List Col} {e : TypeId} (hi : s[i]? = some (.arr m tc N e)) (hmo : m.isOwn = true) {nv : List Value} (hone : ∀ u ∈ nv, u.oneCell' = true)
    (hnl : nv.length = n * tc.length) (hb : holdsA bs n nv) (hov : ovCs lo n tc bs = some tc') (hle : lo + n ≤ N) :
    ∃ w', (storeCells ⟨(ρ i).1, (ρ i).2 + lo * tc.length, none⟩ nv).run P w = .ok () w' ∧ Rep ρ (s.set i (.arr m tc' N e)) w' ∧ Ext s ρ w (s.set i (.arr m tc' N e)) ρ w' ∧ sbd (s.set i (.arr m tc' N e)) := by
  obtain ⟨cs, h1, h2, h3, h4⟩ := hr.ent i _ hi
  have hl2 : lo * tc.length + nv.length ≤ cs.length := by
    rw [hnl, h1, ← Nat.add_mul]
    exact Nat.mul_le_mul_right _ hle
  obtain ⟨g1, g2⟩ := ov_holds hov h3 h1 hb hnl hle
  have hones : ∀ u ∈ cs.take (lo * tc.length) ++ nv ++ cs.drop (lo * tc.length + nv.length), u.oneCell' = true := by
    intro u hu
    rcases List.mem_append.1 hu with hu | hu
    · rcases List.mem_append.1 hu with hu | hu
      · exact h2 u (List.mem_of_mem_take hu)
      · exact hone u hu
    · exact h2 u (List.mem_of_mem_drop hu)
  have hlen : (cs.take (lo * tc.length) ++ nv ++ cs.drop (lo * tc.length + nv.length)).length = N * tc'.length := by
    rw [g1, ← h1]
    simp only [List.length_append, List.length_take, List.length_drop]
    omega
  have key : ∀ rest : List Value, w.heap[(ρ i).1]? = some (.cells (cs ++ rest).toArray e (0, 0)) → (ρ i).2 = 0 →
      ∃ w', (storeCells ⟨(ρ i).1, (ρ i).2 + lo * tc.length, none⟩ nv).run P w = .ok () w' ∧ w'.heap[(ρ i).1]? = some (.cells ((cs.take (lo * tc.length) ++ nv ++ cs.drop (lo * tc.length + nv.length)) ++ rest).toArray e (0, 0)) ∧ w'.heap.size = w.heap.size ∧ w'.os = w.os ∧ w'.tape = w.tape ∧ w'.output = w.output ∧ ∀ b, b ≠ (ρ i).1 → w'.heap[b]? = w.heap[b]? := by
    intro rest hh h20
    obtain ⟨w', r1, r2, r3, r4, r5, r6, r7⟩ := run_storeCells (P := P) (ρ := ρ) (i := i) (e := e) h20 (lo * tc.length) (nv.map V.raw) 0 ((cs ++ rest).map V.raw) w (raws_one hone) (by simp; omega) (by rw [absL_raws]; exact hh)
    rw [absL_raws] at r1
    refine ⟨w', r1, ?_, r3, r4, r5, r6, r7⟩
    rw [r2, Nat.add_zero, setR_raws (by simp; omega)]
    congr 2
    rw [List.take_append_of_le_length (by omega), List.drop_append_of_le_length (by omega)]
    simp
  have hil := hs i _ hi
  cases m with
  | ro => cases hmo
  | own =>
    obtain ⟨h5, h6⟩ := h4
    obtain ⟨w', r1, r2, r3, r4, r5, r6, r7⟩ := key [] (by simpa using h5) h6
    obtain ⟨q1, q2, q3⟩ := Rep.change (e' := .arr .own tc' N e) hr hs hi rfl rfl hil ⟨_, hlen, hones, g2, by simpa using r2, h6⟩ r3 r4 r5 r6 r7
    exact ⟨w', r1, q1, q2, q3⟩
  | grow k =>
    obtain ⟨rest, h5, h6, h7⟩ := h4
    obtain ⟨w', r1, r2, r3, r4, r5, r6, r7⟩ := key rest h5 h6
    obtain ⟨q1, q2, q3⟩ := Rep.change (e' := .arr (.grow k) tc' N e) hr hs hi rfl rfl hil ⟨_, hlen, hones, g2, rest, r2, h6, by rw [hlen, g1, ← h1]; exact h7⟩ r3 r4 r5 r6 r7
    exact ⟨w', r1, q1, q2, q3⟩
/-- Cells of a block of its own written over. -/
theorem owC_sound {s : Sto} (hr : Rep ρ s w) (hs : sbd s) {i o : Nat} {cs vs : List V} {e : TypeId} (hi : s[i]? = some (.own cs e)) (hone : vs.all V.one = true) (hb : bdL s.length vs) (hle : o + vs.length ≤ cs.length) :
    ∃ w', (storeCells ⟨(ρ i).1, (ρ i).2 + o, none⟩ (absL ρ vs)).run P w = .ok () w' ∧ Rep ρ (s.set i (.own (setR cs o vs) e)) w' ∧ Ext s ρ w (s.set i (.own (setR cs o vs) e)) ρ w' ∧ sbd (s.set i (.own (setR cs o vs) e)) := by
  obtain ⟨g1, g2⟩ := hr.ent i _ hi
  obtain ⟨w', r1, r2, r3, r4, r5, r6, r7⟩ := run_storeCells (P := P) (ρ := ρ) (i := i) (e := e) g2 o vs 0 cs w hone (by omega) g1
  obtain ⟨q1, q2, q3⟩ := Rep.change (e' := .own (setR cs o vs) e) hr hs hi rfl rfl (bdL_setR hb (hs i _ hi)) ⟨by simpa using r2, g2⟩ r3 r4 r5 r6 r7
  exact ⟨w', r1, q1, q2, q3⟩
/-- So many zeros behind one another, as the machine has them. -/
theorem zeroCells_eq {v : Value} {z : List V} {n : Nat} (hz : v.cells = (absL ρ z).toArray) : Builtin.zeroCells v.cells n = (absL ρ (vZeros z z.length n)).toArray := by
  unfold Builtin.zeroCells
  have : v.cells.size = z.length := by rw [hz]; simp [absL_length]
  rw [← zeros_sound hz rfl]
  rw [this]
end
def vClear {R : Type} (no : R) (P : Program) (ts : List TypeId) (args : List V) (s : Sto) (K : Kt R) : R :=
  match ts, args with
  | t :: _, x :: _ => Wi no (P.underlying t) fun d => match d, x with
    | .slice _, .raw (.slice none _ _) => K (.tup []) s
    | .slice _, .raw (.slice _ 0 _) => K (.tup []) s
    | .slice _, .lend _ _ _ _ _ _ => K (.tup []) s
    | .slice elem, .sl i o n _ => match n with
      | 0 => K (.tup []) s
      | _ => match s[i]? with
        | some (.own cs e) => Wi no (vZero P elem) fun z => match Nat.ble (o + (vZeros z z.length n).length) cs.length && (vZeros z z.length n).all V.one with
          | true => flA (setR cs o (vZeros z z.length n)) fun cs => K (.tup []) (s.set i (.own cs e))
          | false => no
        | _ => no
    | .slice elem, .sle i z k0 n _ => match s[i]? with
      | some (.arr .own tc N e) => Wi no (vZero P elem) fun zl => Wi no (colsNE zl) fun zc => match Nat.beq z tc.length && Nat.beq zl.length z with
        | true => Br (Nat.beq n 0) (K (.tup []) s) (Br (Nat.ble (k0 + n) N) (Wi no (ovCs k0 n tc zc) fun tc' => K (.tup []) (s.set i (.arr .own tc' N e))) no)
        | false => no
      | _ => no
    | .slice elem, .lse i k z e0 n => match s[i]? with
      | some (.arr (.grow k') tc N e) => Wi no (vZero P elem) fun zl => Wi no (colsNE zl) fun zc => match Nat.beq z tc.length && Nat.beq zl.length z with
        | true => Br (Nat.beq n 0) (K (.tup []) s) (Br (Nat.ble (e0 + n) N) (Wi no (ovCs e0 n tc zc) fun tc' => K (.tup []) (s.set i (.arr (.grow k') tc' N e))) no)
        | false => no
      | _ => no
    | _, _ => no
  | _, _ => no
section
variable {P : Program} {ρ : Rho} {w : World} {R : Type} {no : R} {T : R → Prop}
theorem colsNE_of {z : List V} {cols : List Col} (h : colsNE z = some cols) : colsOf z = some cols := by
  unfold colsNE at h
  split at h
  · cases h
  · exact h
/-- Rows of zeros hold the columns of zeros. -/
theorem zeros_holds {z : List V} {cols : List Col} (h : colsOf z = some cols) (n : Nat) : (absL ρ (vZeros z z.length n)).length = n * cols.length ∧ holdsA cols n (absL ρ (vZeros z z.length n)) ∧ ∀ u ∈ absL ρ (vZeros z z.length n), u.oneCell' = true := by
  obtain ⟨h1, h2⟩ := vZeros_flat h
  have hlen : (vZeros z z.length n).length = n * z.length := by
    unfold vZeros
    split
    · rename_i h1; rw [List.length_replicate, h1, Nat.mul_one]
    · simp
  have hall : ∀ (q : Nat) v, z[q]? = some v → ∃ u, v = .raw u ∧ u.oneCell' = true := by
    clear h1 h2 hlen
    induction z generalizing cols with
    | nil => intro q v hq; simp at hq
    | cons v0 z ih =>
      intro q v hq
      simp only [colsOf] at h
      split at h
      · rename_i l hl
        cases q with
        | zero =>
          simp at hq
          subst hq
          split at h
          · exact ⟨_, rfl, rfl⟩
          · exact ⟨_, rfl, rfl⟩
          · exact ⟨_, rfl, rfl⟩
          · cases h
        | succ q => exact ih hl q v (by simpa using hq)
      · cases h
  refine ⟨by rw [absL_length, hlen, h1], fun j c col u hj hc hu => ?_, fun u hu => ?_⟩
  · have hcl : c < cols.length := (List.getElem?_eq_some_iff.1 hc).1
    rw [absL_get]
    have hq : j * cols.length + c < n * z.length := by
      have : (j + 1) * cols.length ≤ n * cols.length := Nat.mul_le_mul_right _ hj
      rw [Nat.add_mul, Nat.one_mul, h1] at this
      rw [h1]
      rw [h1] at hcl
      omega
    rw [vZeros_get rfl hq, h1, Nat.mul_comm j, Nat.mul_add_mod, Nat.mod_eq_of_lt (by omega), h2 c col j u hc hu]
    rfl
  · rw [absL_map] at hu
    obtain ⟨v, hv, rfl⟩ := List.mem_map.1 hu
    obtain ⟨q, hq, rfl⟩ := List.mem_iff_getElem.1 hv
    have h3 := vZeros_get (z := z) (size := z.length) (n := n) rfl (by rw [← hlen]; exact hq)
    rw [List.getElem?_eq_getElem hq] at h3
    obtain ⟨u, hu, h4⟩ := hall _ _ h3.symm
    rw [hu]; exact h4
theorem clear_sound (hno : ¬ T no) {ts : List TypeId} {ty : TypeId} {args : List V} {s : Sto} {K : Kt R} (hr : Rep ρ s w) (hs : sbd s) (hb : bdL s.length args) (hk : T (vClear no P ts args s K)) :
    ∃ v s' w', (Builtin.clear_ ts.toArray ty (absL ρ args).toArray).run P w = .ok (v.abs ρ) w' ∧ T (K v s') ∧ Rep ρ s' w' ∧ Ext s ρ w s' ρ w' ∧ sbd s' ∧ v.bd s'.length := by
  unfold vClear at hk
  split at hk
  case h_2 => exact (hno hk).elim
  rename_i t ts x args
  obtain ⟨d, hd, hk⟩ := Wi.out hno hk
  have plain : ∀ {K0 : Kt R}, T (K0 (.tup []) s) → (Builtin.clear_ (t :: ts).toArray ty (absL ρ (x :: args)).toArray).run P w = .ok (.tuple #[]) w → ∃ v s' w', (Builtin.clear_ (t :: ts).toArray ty (absL ρ (x :: args)).toArray).run P w = .ok (v.abs ρ) w' ∧ T (K0 v s') ∧ Rep ρ s' w' ∧ Ext s ρ w s' ρ w' ∧ sbd s' ∧ v.bd s'.length :=
    fun hk hrun => ⟨.tup [], s, w, by rw [hrun]; simp [V.abs, absL], hk, hr, Ext.refl _ _ _, hs, trivial⟩
  split at hk
  · exact plain hk (by simp [Builtin.clear_, absL, V.abs, run_underlying hd])
  · exact plain hk (by rename_i b _ _; cases b <;> simp [Builtin.clear_, absL, V.abs, run_underlying hd])
  · exact plain hk (by simp [Builtin.clear_, absL, V.abs, run_underlying hd])
  · rename_i elem i o n cap _
    split at hk
    · exact plain hk (by simp [Builtin.clear_, absL, V.abs, run_underlying hd])
    · rename_i hn
      split at hk
      case h_2 => exact (hno hk).elim
      rename_i cs e hi
      obtain ⟨z, hz, hk⟩ := Wi.out hno hk
      split at hk
      case h_2 => exact (hno hk).elim
      rename_i hc
      rw [flA_eq] at hk
      simp only [Bool.and_eq_true] at hc
      obtain ⟨v, z1, z2, z3⟩ := zero_sound (P := P) (ρ := ρ) (w := w) hz
      obtain ⟨w', r1, r2, r3, r4⟩ := owC_sound (P := P) hr hs hi hc.2 (zeros_bd (z3 _)) (Nat.le_of_ble_eq_true hc.1)
      refine ⟨.tup [], _, w', ?_, hk, r2, r3, r4, trivial⟩
      obtain ⟨q, rfl⟩ : ∃ q, n = q + 1 := ⟨n - 1, by have : n ≠ 0 := fun h => hn h; omega⟩
      simp only [Builtin.clear_, absL, V.abs, List.getElem?_toArray, List.getElem?_cons_zero, Sem.run_bind, run_underlying hd, Result.andThen_ok, z1, zeroCells_eq z2]
      rw [r1]
      simp
  · rename_i elem i z k0 n cap _
    split at hk
    case h_2 => exact (hno hk).elim
    rename_i tc N e hi
    obtain ⟨zl, hz, hk1⟩ := Wi.out hno hk
    clear hk
    obtain ⟨zc, hzc, hq⟩ := Wi.out hno hk1
    clear hk1
    split at hq
    case h_2 => exact (hno hq).elim
    rename_i hc
    simp only [Bool.and_eq_true] at hc
    obtain rfl := Nat.eq_of_beq_eq_true hc.1
    have hzl := Nat.eq_of_beq_eq_true hc.2
    rcases Br.out hq with ⟨h0, hf⟩ | ⟨h0, hf⟩
    · obtain rfl := Nat.eq_of_beq_eq_true h0
      exact plain hf (by simp [Builtin.clear_, absL, V.abs, run_underlying hd])
    · rcases Br.out hf with ⟨h1, hg⟩ | ⟨_, hg⟩
      case inr => exact (hno hg).elim
      obtain ⟨tc', hov, hl⟩ := Wi.out hno hg
      obtain ⟨v, z1, z2, z3⟩ := zero_sound (P := P) (ρ := ρ) (w := w) hz
      obtain ⟨g1, g2, g3⟩ := zeros_holds (ρ := ρ) (colsNE_of hzc) n
      obtain ⟨w', r1, r2, r3, r4⟩ := owE_sound (P := P) hr hs hi rfl g3 (by rw [g1, colsNE_len hzc, hzl]) g2 hov (Nat.le_of_ble_eq_true h1)
      refine ⟨.tup [], _, w', ?_, hl, r2, r3, r4, trivial⟩
      obtain ⟨q, rfl⟩ : ∃ q, n = q + 1 := ⟨n - 1, by have : n ≠ 0 := fun h => by subst h; cases h0
                                                     omega⟩
      simp only [Builtin.clear_, absL, V.abs, List.getElem?_toArray, List.getElem?_cons_zero, Sem.run_bind, run_underlying hd, Result.andThen_ok, z1, zeroCells_eq z2]
      rw [r1]
      simp
  · rename_i elem i k z e0 n _
    split at hk
    case h_2 => exact (hno hk).elim
    rename_i k' tc N e hi
    obtain ⟨zl, hz, hk1⟩ := Wi.out hno hk
    clear hk
    obtain ⟨zc, hzc, hq⟩ := Wi.out hno hk1
    clear hk1
    split at hq
    case h_2 => exact (hno hq).elim
    rename_i hc
    simp only [Bool.and_eq_true] at hc
    obtain rfl := Nat.eq_of_beq_eq_true hc.1
    have hzl := Nat.eq_of_beq_eq_true hc.2
    rcases Br.out hq with ⟨h0, hf⟩ | ⟨h0, hf⟩
    · obtain rfl := Nat.eq_of_beq_eq_true h0
      exact plain hf (by simp [Builtin.clear_, absL, V.abs, run_underlying hd])
    · rcases Br.out hf with ⟨h1, hg⟩ | ⟨_, hg⟩
      case inr => exact (hno hg).elim
      obtain ⟨tc', hov, hl⟩ := Wi.out hno hg
      obtain ⟨v, z1, z2, z3⟩ := zero_sound (P := P) (ρ := ρ) (w := w) hz
      obtain ⟨g1, g2, g3⟩ := zeros_holds (ρ := ρ) (colsNE_of hzc) n
      obtain ⟨w', r1, r2, r3, r4⟩ := owE_sound (P := P) hr hs hi rfl g3 (by rw [g1, colsNE_len hzc, hzl]) g2 hov (Nat.le_of_ble_eq_true h1)
      refine ⟨.tup [], _, w', ?_, hl, r2, r3, r4, trivial⟩
      obtain ⟨q, rfl⟩ : ∃ q, n = q + 1 := ⟨n - 1, by have : n ≠ 0 := fun h => by subst h; cases h0
                                                     omega⟩
      simp only [Builtin.clear_, absL, V.abs, List.getElem?_toArray, List.getElem?_cons_zero, Sem.run_bind, run_underlying hd, Result.andThen_ok, z1, zeroCells_eq z2]
      rw [r1]
      simp
  · exact (hno hk).elim
end
/-- A copy of n elements, told by columns, to where an array's part begins. -/
def cpyFin {R : Type} (no : R) (s : Sto) (i k0 len : Nat) (m : AM) (tc : List Col) (N : Nat) (e : TypeId) (K : Kt R) (n : Nat) (cols : List Col) : R :=
  Br (Nat.ble n len) (Br (Nat.ble (k0 + n) N) (Wi no (ovCs k0 n tc cols) fun tc' => K (.raw (.int .i64 n)) (s.set i (.arr m tc' N e))) no) no
def vCopy {R : Type} (no : R) (P : Program) (ts : List TypeId) (args : List V) (s : Sto) (K : Kt R) : R :=
  match ts, args with
  | [t, tx], [dv, xv] => Wi no (P.underlying t) fun d => Wi no (P.underlying tx) fun dx => match d with
    | .slice elem => Wi no (P.info? elem) fun inf => Wi no (vZero P elem) fun zl => match Nat.beq zl.length inf.size with
      | true => match dv with
        | .sle i z k0 len _ => match s[i]? with
          | some (.arr .own tc N e) => match Nat.beq z tc.length && Nat.beq inf.size z with
            | true => Wi no (colsNE zl) fun zs => vSrcE no s dx zs inf.size xv (cpyFin no s i k0 len .own tc N e K) (fun n _ c => Wi no c (cpyFin no s i k0 len .own tc N e K n))
            | false => no
          | _ => no
        | .lse i _ z e0 len => match s[i]? with
          | some (.arr (.grow k') tc N e) => match Nat.beq z tc.length && Nat.beq inf.size z with
            | true => Wi no (colsNE zl) fun zs => vSrcE no s dx zs inf.size xv (cpyFin no s i e0 len (.grow k') tc N e K) (fun n _ c => Wi no c (cpyFin no s i e0 len (.grow k') tc N e K n))
            | false => no
          | _ => no
        | .sl i o len _ => match s[i]? with
          | some (.own cs e) => Wi no (vSrc s dx inf.size xv) fun p => match Nat.ble p.1 len && Nat.ble (o + p.2.length) cs.length with
            | true => flA (setR cs o p.2) fun cs => K (.raw (.int .i64 p.1)) (s.set i (.own cs e))
            | false => no
          | _ => no
        | _ => no
      | false => no
    | _ => no
  | _, _ => no
section
variable {P : Program} {ρ : Rho} {w : World} {R : Type} {no : R} {T : R → Prop}
theorem cpyFin_sound (hno : ¬ T no) {t tx ty elem : TypeId} {inf : TypeInfo} {x : Value} {s : Sto} (hr : Rep ρ s w) (hs : sbd s) (ht : P.underlying t = some (.slice elem)) (hinf : P.info? elem = some inf) {i k0 len N cap : Nat} {m : AM} {tc : List Col} {e : TypeId} {K : Kt R} {n : Nat} {cols : List Col} {new : List Value}
    (hi : s[i]? = some (.arr m tc N e)) (hmo : m.isOwn = true) (hz : inf.size = tc.length) (hsrc : SrcE P inf.size tx x n cols new w) (hk : T (cpyFin no s i k0 len m tc N e K n cols)) :
    ∃ v s' w', (Builtin.copy_ #[t, tx] ty #[.slice (some ⟨(ρ i).1, (ρ i).2 + k0 * tc.length, none⟩) len cap, x]).run P w = .ok (v.abs ρ) w' ∧ T (K v s') ∧ Rep ρ s' w' ∧ Ext s ρ w s' ρ w' ∧ sbd s' ∧ v.bd s'.length := by
  unfold cpyFin at hk
  rcases Br.out hk with ⟨h1, hk1⟩ | ⟨_, hk1⟩
  case inr => exact (hno hk1).elim
  rcases Br.out hk1 with ⟨h2, hk2⟩ | ⟨_, hk2⟩
  case inr => exact (hno hk2).elim
  obtain ⟨tc', hov, hk3⟩ := Wi.out hno hk2
  have h1 := Nat.le_of_ble_eq_true h1
  obtain ⟨w', r1, r2, r3, r4⟩ := owE_sound (P := P) hr hs hi hmo hsrc.src.one (by rw [hsrc.len, hz]) hsrc.holds hov (Nat.le_of_ble_eq_true h2)
  refine ⟨.raw (.int .i64 n), _, w', ?_, hk3, r2, r3, r4, trivial⟩
  simp only [Builtin.copy_, List.getElem?_toArray, List.getElem?_cons_zero, List.getElem?_cons_succ, Sem.run_bind, run_underlying ht, Result.andThen_ok, hsrc.src.len, run_sizeOf hinf, Nat.min_eq_left h1, Nat.min_def, if_pos h1, hsrc.src.cells]
  rw [r1]
  simp [V.abs, goInt]
theorem copy_sound (hno : ¬ T no) {ts : List TypeId} {ty : TypeId} {args : List V} {s : Sto} {K : Kt R} (hr : Rep ρ s w) (hs : sbd s) (hb : bdL s.length args) (hk : T (vCopy no P ts args s K)) :
    ∃ v s' w', (Builtin.copy_ ts.toArray ty (absL ρ args).toArray).run P w = .ok (v.abs ρ) w' ∧ T (K v s') ∧ Rep ρ s' w' ∧ Ext s ρ w s' ρ w' ∧ sbd s' ∧ v.bd s'.length := by
  unfold vCopy at hk
  split at hk
  case h_2 => exact (hno hk).elim
  rename_i t tx dv xv
  obtain ⟨d, hd, hk1⟩ := Wi.out hno hk
  obtain ⟨dx, hdx, hk2⟩ := Wi.out hno hk1
  split at hk2
  case h_2 => exact (hno hk2).elim
  rename_i elem
  obtain ⟨inf, hinf, hk3⟩ := Wi.out hno hk2
  obtain ⟨zl, hzl, hk4⟩ := Wi.out hno hk3
  split at hk4
  case h_2 => exact (hno hk4).elim
  rename_i hz0
  have hz0 := Nat.eq_of_beq_eq_true hz0
  clear hk hk1 hk2 hk3
  split at hk4
  · rename_i i z k0 len cap
    split at hk4
    case h_2 => exact (hno hk4).elim
    rename_i tc N e hi
    split at hk4
    case h_2 => exact (hno hk4).elim
    rename_i hc
    simp only [Bool.and_eq_true] at hc
    obtain rfl := Nat.eq_of_beq_eq_true hc.1
    have hz := Nat.eq_of_beq_eq_true hc.2
    obtain ⟨zs, hzs, hk5⟩ := Wi.out hno hk4
    have fin : ∀ {n : Nat} {cols : List Col} {new : List Value}, SrcE P inf.size tx (xv.abs ρ) n cols new w → T (cpyFin no s i k0 len .own tc N e K n cols) → _ := fun h1 h2 => cpyFin_sound (ty := ty) (cap := cap) hno hr hs hd hinf hi rfl hz h1 h2
    rcases srcE_sound hno hr hs (by rw [colsNE_len hzs]; exact hz0) hdx hk5 with ⟨n, cols, new, h1, h2⟩ | ⟨n, new, c, h1, h2, h3, h4, h5, h6⟩
    · exact fin h1 h2
    · obtain ⟨cols, hcs, h7⟩ := Wi.out hno h6
      exact fin (h5 cols hcs) h7
  · rename_i i k z e0 len
    split at hk4
    case h_2 => exact (hno hk4).elim
    rename_i k' tc N e hi
    split at hk4
    case h_2 => exact (hno hk4).elim
    rename_i hc
    simp only [Bool.and_eq_true] at hc
    obtain rfl := Nat.eq_of_beq_eq_true hc.1
    have hz := Nat.eq_of_beq_eq_true hc.2
    obtain ⟨zs, hzs, hk5⟩ := Wi.out hno hk4
    have fin : ∀ {n : Nat} {cols : List Col} {new : List Value}, SrcE P inf.size tx (xv.abs ρ) n cols new w → T (cpyFin no s i e0 len (.grow k') tc N e K n cols) → _ := fun h1 h2 => cpyFin_sound (ty := ty) (cap := (ρ k).1 - e0) hno hr hs hd hinf hi rfl hz h1 h2
    rcases srcE_sound hno hr hs (by rw [colsNE_len hzs]; exact hz0) hdx hk5 with ⟨n, cols, new, h1, h2⟩ | ⟨n, new, c, h1, h2, h3, h4, h5, h6⟩
    · exact fin h1 h2
    · obtain ⟨cols, hcs, h7⟩ := Wi.out hno h6
      exact fin (h5 cols hcs) h7
  · rename_i i o len cap
    split at hk4
    case h_2 => exact (hno hk4).elim
    rename_i cs e hi
    obtain ⟨p, hp, hk5⟩ := Wi.out hno hk4
    split at hk5
    case h_2 => exact (hno hk5).elim
    rename_i hc
    rw [flA_eq] at hk5
    simp only [Bool.and_eq_true] at hc
    obtain ⟨n, new⟩ := p
    obtain ⟨h1, h2, h3, h4⟩ := src_sound hr hs hdx hp
    have hn := Nat.le_of_ble_eq_true hc.1
    obtain ⟨w', r1, r2, r3, r4⟩ := owC_sound (P := P) hr hs hi h3 h4 (Nat.le_of_ble_eq_true hc.2)
    refine ⟨.raw (.int .i64 n), _, w', ?_, hk5, r2, r3, r4, trivial⟩
    simp only [Builtin.copy_, absL, V.abs, List.getElem?_toArray, List.getElem?_cons_zero, List.getElem?_cons_succ, Sem.run_bind, run_underlying hd, Result.andThen_ok, h1.len, run_sizeOf hinf, Nat.min_def, if_pos hn, h1.cells]
    rw [r1]
    simp [goInt]
  · exact (hno hk4).elim
end
end Go.Proofs.YtpahclogghdnpaaDoorRL
