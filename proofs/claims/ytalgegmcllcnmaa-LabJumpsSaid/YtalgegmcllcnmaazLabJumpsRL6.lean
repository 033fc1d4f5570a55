/- RL, sixth text: each operation of values is what the machine does. -/
import Derived.Test.YtalgegmcllcnmaazLabJumpsRLM
namespace Go.Proofs.YtalgegmcllcnmaaRL
open Go
set_option linter.unusedVariables false
set_option linter.unusedSimpArgs false
variable {Δ : List Deferred}
section
variable {P : Program} {ρ : Rho} {w : World} {st : St} {a : Act}
theorem nilable_run {v : V} (h : v.isNilable = true) : (match v.abs ρ with
    | .pointer none | .nilIface | .nilFunc => runtimePanic .nilDeref
    | .func (.method name) first captured =>
      match (first[0]? : Option Value) with
      | some .nilIface => runtimePanic .nilDeref
      | some (.iface t w) => do
        if (← nilAhead ((← program).types.size + Made.depth) t w name) != some false then
          unsupported (.noEntry "op/nilCheck.the method's receiver behind this interface value is a nil pointer, or cannot be seen to be none, and the arguments act or may panic (ledger 612)")
        pure (Next.value (.func (.method name) first captured))
      | _ => pure (Next.value (.func (.method name) first captured))
    | x => pure (Next.value x) : Sem Next).run P w = .ok (.value (v.abs ρ)) w := by
  cases v with
  | raw u => 
    cases u <;> simp_all [V.isNilable, V.abs]
    rename_i p
    cases p <;> simp_all
  | fn f x y => cases f <;> simp_all [V.isNilable, V.abs]
  | _ => simp_all [V.isNilable, V.abs]
theorem nilM_run {v : V} (h : nilM P v = true) : (match v.abs ρ with
    | .pointer none | .nilIface | .nilFunc => runtimePanic .nilDeref
    | .func (.method name) first captured =>
      match (first[0]? : Option Value) with
      | some .nilIface => runtimePanic .nilDeref
      | some (.iface t w) => do
        if (← nilAhead ((← program).types.size + Made.depth) t w name) != some false then
          unsupported (.noEntry "op/nilCheck.the method's receiver behind this interface value is a nil pointer, or cannot be seen to be none, and the arguments act or may panic (ledger 612)")
        pure (Next.value (.func (.method name) first captured))
      | _ => pure (Next.value (.func (.method name) first captured))
    | x => pure (Next.value x) : Sem Next).run P w = .ok (.value (v.abs ρ)) w := by
  unfold nilM at h
  split at h
  case h_2 => cases h
  rename_i name x rest cap
  split at h
  case h_2 => cases h
  rename_i t u hx
  split at h
  case h_2 => cases h
  rename_i i hi
  split at h
  case h_2 => cases h
  rename_i m hm
  simp only [Bool.and_eq_true] at h
  obtain ⟨hp, hf⟩ := h
  have hx' : x.abs ρ = .iface t (u.abs ρ) := by rw [← abs_nf, hx]; rfl
  have hpath : m.path.toList = [] := by
    rw [Array.isEmpty_iff.1 hp]
  have hahead : ∀ n, (nilAhead (n + 1) t (u.abs ρ) name).run P w = .ok (some false) w := by
    intro n
    simp only [nilAhead, Sem.run_bind, run_typeInfo hi, Result.andThen_ok, hm, hpath, followBlind, Sem.run_pure]
    cases hfu : m.func with
    | none => rw [hfu] at hf; cases hf
    | some fp =>
      obtain ⟨f, pr⟩ := fp
      rw [hfu] at hf
      cases pr with
      | true => simp
      | false =>
        simp only at hf
        cases hd : P.underlying t with
        | none => rw [hd] at hf; cases hf
        | some d =>
          rw [hd] at hf
          simp only [Sem.run_bind, run_underlying hd, Result.andThen_ok]
          cases d <;> first | (cases hf; done) | rfl
  simp only [V.abs, absL, hx']
  simp only [List.getElem?_toArray, List.getElem?_cons_zero, Sem.run_bind, run_program, Result.andThen_ok]
  have hdep : P.types.size + Made.depth = (P.types.size + (Made.depth - 1)) + 1 := by
    have : 0 < Made.depth := by decide
    omega
  rw [hdep, hahead]
  simp
theorem map_alloc {K : Kt Prop} {s : Sem Value} (h : Sim Δ ρ st a w) (hr : s.run P w = .ok (.map (some w.heap.size)) (w.alloc (.map #[] 0))) (hk : K (.mp st.s.length) (st.s ++ [.map [] 0])) :
    Step false P st ρ w (do pure (Next.value (← s))) K := by
  obtain ⟨r1, r2, r3⟩ := Rep.alloc (e := .map [] 0) (o := .map #[] 0) h.rep h.sb rfl (by simp [Ent.bd]) (by
    simp only [RepE, Rho.push_at]
    show (w.heap.push _)[w.heap.size]? = _
    simp)
  exact ⟨.value (.map (some w.heap.size)), .mp st.s.length, _, _, _, by simp only [Sem.run_bind, hr, Result.andThen_ok, Sem.run_pure], .inl (by simp [V.abs, Rho.push_at]), hk, r1, r2, r3, by simp [V.bd], fun h => by cases h⟩
theorem extractOp {P : Program} {vs : List V} {ix : Nat} {v : V} (h : vs[ix]? = some v) : (Instr.extract (.tuple (absL ρ vs).toArray) ix).run P w = .ok (v.abs ρ) w := by
  simp [Instr.extract, absL_get, h]
theorem zeros_bd {z : List V} {size n m : Nat} (h : bdL m z) : bdL m (vZeros z size n) := by
  unfold vZeros
  split
  · refine bdL_iff.2 fun v hv => ?_
    have := List.eq_of_mem_replicate hv
    subst this
    cases z with
    | nil => trivial
    | cons u z => exact h.1
  · refine bdL_iff.2 fun v hv => ?_
    obtain ⟨i, _, rfl⟩ := List.mem_map.1 hv
    rw [List.getD_eq_getElem?_getD]
    cases hq : z[i % z.length]? with
    | none => trivial
    | some u => exact bdL_get h hq
end
section
variable {P : Program} {ρ : Rho} {w : World} {st : St} {a : Act} {R : Type} {no : R} {T : R → Prop} (hno : ¬ T no)
include hno
theorem vo_move {dst : Option Tmp} {type : TypeId} {pos : String} {after : Array Edge} {guard : Option (Nat × Bool)} {K : Kt R} {x : Operand} (h : Sim Δ ρ st a w) (hk : T (valOp no P (.move x) st K)) :
    Step true P st ρ w (execOp a.eval ⟨dst, .move x, type, pos, after, guard⟩) (fun v s => T (K v s)) := by
  simp only [valOp, valOpT] at hk
  obtain ⟨v, hv, hk⟩ := Wi.out hno hk
  obtain ⟨e1, e2⟩ := h.eval hv
  exact ⟨_, v, _, ρ, w, by simp only [execOp, e1]; rfl, .inl rfl, hk, h.rep, Ext.refl _ _ _, h.sb, e2, fun _ => ⟨rfl, rfl, rfl, rfl⟩⟩
theorem vo_assign {dst : Option Tmp} {type : TypeId} {pos : String} {after : Array Edge} {guard : Option (Nat × Bool)} {K : Kt R} {x : Operand} (h : Sim Δ ρ st a w) (hk : T (valOp no P (.assign x) st K)) :
    Step true P st ρ w (execOp a.eval ⟨dst, .assign x, type, pos, after, guard⟩) (fun v s => T (K v s)) := by
  simp only [valOp, valOpT] at hk
  obtain ⟨v, hv, hk⟩ := Wi.out hno hk
  obtain ⟨e1, e2⟩ := h.eval hv
  exact ⟨_, v, _, ρ, w, by simp only [execOp, e1]; rfl, .inl rfl, hk, h.rep, Ext.refl _ _ _, h.sb, e2, fun _ => ⟨rfl, rfl, rfl, rfl⟩⟩
theorem vo_pick {dst : Option Tmp} {type : TypeId} {pos : String} {after : Array Edge} {guard : Option (Nat × Bool)} {K : Kt R} {c x y : Operand} (h : Sim Δ ρ st a w) (hk : T (valOp no P (.pick c x y) st K)) :
    Step true P st ρ w (execOp a.eval ⟨dst, .pick c x y, type, pos, after, guard⟩) (fun v s => T (K v s)) := by
  simp only [valOp, valOpT] at hk
  obtain ⟨c', hc, hk⟩ := Wi.out hno hk
  obtain ⟨u, hu, hk⟩ := Wi.out hno hk
  obtain ⟨v, hv, hk⟩ := Wi.out hno hk
  obtain ⟨c1, _⟩ := h.eval hc
  obtain ⟨u1, u2⟩ := h.eval hu
  obtain ⟨v1, v2⟩ := h.eval hv
  split at hk
  · rename_i t
    simp only [V.abs] at c1
    rcases Br.out hk with ⟨rfl, hk⟩ | ⟨rfl, hk⟩
    · exact ⟨_, u, _, ρ, w, by simp only [execOp, c1, u1, v1, asBool]; rfl, .inl rfl, hk, h.rep, Ext.refl _ _ _, h.sb, u2, fun _ => ⟨rfl, rfl, rfl, rfl⟩⟩
    · exact ⟨_, v, _, ρ, w, by simp only [execOp, c1, u1, v1, asBool]; rfl, .inl rfl, hk, h.rep, Ext.refl _ _ _, h.sb, v2, fun _ => ⟨rfl, rfl, rfl, rfl⟩⟩
  · exact (hno hk).elim
theorem vo_alloc {dst : Option Tmp} {type : TypeId} {pos : String} {after : Array Edge} {guard : Option (Nat × Bool)} {K : Kt R} {t : TypeId} (h : Sim Δ ρ st a w) (hk : T (valOp no P (.alloc t) st K)) :
    Step false P st ρ w (execOp a.eval ⟨dst, .alloc t, type, pos, after, guard⟩) (fun v s => T (K v s)) := by
  simp only [valOp, valOpT] at hk
  obtain ⟨z, hz, hk⟩ := Wi.out hno hk
  obtain ⟨v, z1, z2, z3⟩ := zero_sound (ρ := ρ) (w := w) hz
  refine alloc_run (K := fun v s => T (K v s)) (s := Instr.alloc t true (.tuple #[])) h (z3 _) (v := .ptr st.s.length 0) (by simp [V.bd]) ?_ hk
  simp [Instr.alloc, z1, newVar, newRow, z2, V.abs, Rho.push_at]
theorem vo_box {dst : Option Tmp} {type : TypeId} {pos : String} {after : Array Edge} {guard : Option (Nat × Bool)} {K : Kt R} {t : TypeId} {x : Operand} (h : Sim Δ ρ st a w) (hk : T (valOp no P (.box t x) st K)) :
    Step false P st ρ w (execOp a.eval ⟨dst, .box t x, type, pos, after, guard⟩) (fun v s => T (K v s)) := by
  simp only [valOp, valOpT] at hk
  obtain ⟨v, hv, hk⟩ := Wi.out hno hk
  obtain ⟨e1, e2⟩ := h.eval hv
  refine alloc_run (K := fun v s => T (K v s)) (s := Instr.box t (a.eval x)) h (bd_cells e2) (v := .ptr st.s.length 0) (by simp [V.bd]) ?_ hk
  simp [Instr.box, e1, newVar, newRow, abs_cells, V.abs, Rho.push_at]
theorem vo_build {dst : Option Tmp} {type : TypeId} {pos : String} {after : Array Edge} {guard : Option (Nat × Bool)} {K : Kt R} {t : TypeId} {parts : Array (Nat × Operand)} (h : Sim Δ ρ st a w) (hk : T (valOp no P (.build t parts) st K)) :
    Step true P st ρ w (execOp a.eval ⟨dst, .build t parts, type, pos, after, guard⟩) (fun v s => T (K v s)) := by
  simp only [valOp, valOpT] at hk
  obtain ⟨ps, hps, hk⟩ := Wi.out hno hk
  obtain ⟨v, hv, hk⟩ := Wi.out hno hk
  obtain ⟨e1, e2⟩ := h.evalP hps
  refine Step.val (K := fun v s => T (K v s)) (s := Instr.build t (parts.map fun (i, x) => (i, a.eval x))) h ?_ (build_bd hv e2) hk
  have : (parts.map fun (i, x) => (i, a.eval x)) = (absP ρ ps).toArray := by
    apply Array.ext'
    simpa using e1
  rw [this]
  exact build_sound hv
theorem vo_buildSlice {dst : Option Tmp} {type : TypeId} {pos : String} {after : Array Edge} {guard : Option (Nat × Bool)} {K : Kt R} {t : TypeId} {len : Nat} {parts : Array (Nat × Operand)} (h : Sim Δ ρ st a w) (hk : T (valOp no P (.buildSlice t len parts) st K)) :
    Step false P st ρ w (execOp a.eval ⟨dst, .buildSlice t len parts, type, pos, after, guard⟩) (fun v s => T (K v s)) := by
  simp only [valOp, valOpT] at hk
  obtain ⟨ps, hps, hk⟩ := Wi.out hno hk
  obtain ⟨e1, e2⟩ := h.evalP hps
  split at hk
  · rename_i elem ht
    obtain ⟨i, hi, hk⟩ := Wi.out hno hk
    split at hk
    · rename_i hle
      obtain ⟨z, hz, hk⟩ := Wi.out hno hk
      split at hk
      · rename_i hzl
        obtain ⟨cs, hcs, hk⟩ := Wi.out hno hk
        obtain ⟨v, z1, z2, z3⟩ := zero_sound (ρ := ρ) (w := w) hz
        have hzl' : z.length = i.size := Nat.eq_of_beq_eq_true hzl
        have hle' : len * i.size ≤ 16777216 := Nat.le_of_ble_eq_true hle
        have hp : (parts.map fun (i, x) => (i, a.eval x)) = (absP ρ ps).toArray := by
          apply Array.ext'
          simpa using e1
        have hf := fill_sound (ρ := ρ) hcs
        have hbd := fill_bd hcs e2 (zeros_bd (size := i.size) (n := len) (z3 st.s.length))
        simp only [execOp]
        rw [hp]
        refine alloc_run (K := fun v s => T (K v s)) h hbd (v := .sl st.s.length 0 len len) (by simp [V.bd]) ?_ hk
        have hzs := zeros_sound (n := len) z2 hzl'
        simp only [Instr.buildSlice, Sem.run_bind, run_underlying ht, Result.andThen_ok, run_sizeOf hi]
        rw [if_neg (by omega)]
        by_cases h0 : len * i.size = 0
        · have : (absL ρ (vZeros z i.size len)).toArray = (Array.range (len * i.size)).map (fun k => (#[] : Array Value)[k % (#[] : Array Value).size]!) := by
            rw [← hzs, h0]; simp
          rw [this] at hf
          simp [h0] at hf
          simp [h0, hf, newRow, V.abs, Rho.push_at]
        · simp only [h0, if_false, Sem.run_bind, z1, Result.andThen_ok, Sem.run_pure]
          rw [hzs]
          simp [hf, newRow, V.abs, Rho.push_at]
      · exact (hno hk).elim
    · exact (hno hk).elim
  · exact (hno hk).elim
theorem vo_load {dst : Option Tmp} {type : TypeId} {pos : String} {after : Array Edge} {guard : Option (Nat × Bool)} {K : Kt R} {t : TypeId} {x : Operand} (h : Sim Δ ρ st a w) (hk : T (valOp no P (.load t x) st K)) :
    Step true P st ρ w (execOp a.eval ⟨dst, .load t x, type, pos, after, guard⟩) (fun v s => T (K v s)) := by
  simp only [valOp, valOpT] at hk
  obtain ⟨v, hv, hk⟩ := Wi.out hno hk
  obtain ⟨e1, e2⟩ := h.eval hv
  split at hk
  · rename_i i o
    obtain ⟨u, hu, hk⟩ := Wi.out hno hk
    refine Step.val (K := fun v s => T (K v s)) (s := Instr.loadAt t (a.eval x)) h ?_ (bd_load h.sb hu) hk
    simp [Instr.loadAt, e1, V.abs, Instr.sureAddr, run_load' h.rep hu]
  · rename_i i z k f
    obtain ⟨u, hu, hb, hk⟩ := loadE_sound hno (P := P) h.rep h.sb hk
    refine Step.val (K := fun v s => T (K v s)) (s := Instr.loadAt t (a.eval x)) h ?_ hb hk
    simp [Instr.loadAt, e1, V.abs, Instr.sureAddr, hu]
  · exact (hno hk).elim
theorem vo_store {dst : Option Tmp} {type : TypeId} {pos : String} {after : Array Edge} {guard : Option (Nat × Bool)} {K : Kt R} {t : TypeId} {x y : Operand} (h : Sim Δ ρ st a w) (hk : T (valOp no P (.store t x y) st K)) :
    Step false P st ρ w (execOp a.eval ⟨dst, .store t x y, type, pos, after, guard⟩) (fun v s => T (K v s)) := by
  simp only [valOp, valOpT] at hk
  obtain ⟨p, hp, hk⟩ := Wi.out hno hk
  obtain ⟨v, hv, hk⟩ := Wi.out hno hk
  obtain ⟨e1, e2⟩ := h.eval hp
  obtain ⟨f1, f2⟩ := h.eval hv
  split at hk
  · rename_i i o
    obtain ⟨s', hs', hk⟩ := Wi.out hno hk
    obtain ⟨w', r1, r2, r3, r4⟩ := run_store' (P := P) h.rep h.sb f2 hs'
    refine ⟨.skip, .raw undef, s', ρ, w', ?_, .inr ⟨rfl, rfl⟩, hk, r2, r3, r4, trivial, fun h => by cases h⟩
    simp [execOp, Instr.storeAt, e1, f1, V.abs, Instr.sureAddr, r1]
  · rename_i i z k f
    obtain ⟨s', w', r1, hk, r2, r3, r4⟩ := storeE_sound hno (P := P) h.rep h.sb f2 hk
    refine ⟨.skip, .raw undef, s', ρ, w', ?_, .inr ⟨rfl, rfl⟩, hk, r2, r3, r4, trivial, fun h => by cases h⟩
    simp [execOp, Instr.storeAt, e1, f1, V.abs, Instr.sureAddr, r1]
  · exact (hno hk).elim
theorem vo_nilCheck {dst : Option Tmp} {type : TypeId} {pos : String} {after : Array Edge} {guard : Option (Nat × Bool)} {K : Kt R} {x : Operand} (h : Sim Δ ρ st a w) (hk : T (valOp no P (.nilCheck x) st K)) :
    Step true P st ρ w (execOp a.eval ⟨dst, .nilCheck x, type, pos, after, guard⟩) (fun v s => T (K v s)) := by
  simp only [valOp, valOpT] at hk
  obtain ⟨v, hv, hk⟩ := Wi.out hno hk
  obtain ⟨e1, e2⟩ := h.eval hv
  split at hk
  · rename_i hn
    refine ⟨.value (v.abs ρ), v, _, ρ, w, ?_, .inl rfl, hk, h.rep, Ext.refl _ _ _, h.sb, e2, fun _ => ⟨rfl, rfl, rfl, rfl⟩⟩
    simp only [execOp, e1]
    rcases Bool.or_eq_true _ _ |>.mp hn with hn | hn
    · exact nilable_run hn
    · exact nilM_run hn
  · exact (hno hk).elim
theorem vo_binOp {dst : Option Tmp} {type : TypeId} {pos : String} {after : Array Edge} {guard : Option (Nat × Bool)} {K : Kt R} {op : BinOp} {t : TypeId} {x y : Operand} {yt : TypeId} (h : Sim Δ ρ st a w) (hk : T (valOp no P (.binOp op t x y yt) st K)) :
    Step true P st ρ w (execOp a.eval ⟨dst, .binOp op t x y yt, type, pos, after, guard⟩) (fun v s => T (K v s)) := by
  simp only [valOp, valOpT] at hk
  obtain ⟨u, hu, hk⟩ := Wi.out hno hk
  obtain ⟨v, hv, hk⟩ := Wi.out hno hk
  obtain ⟨r, r1, r2, r3⟩ := bin_sound hno (P := P) (w := w) (yt := yt) (h.eval hu).1 (h.eval hv).1 hk
  exact Step.val (K := fun v s => T (K v s)) (s := do eqGuard op t x y (a.eval x) (a.eval y); Go.binOp op t (a.eval x) (a.eval y)) h r1 (r3 _) r2
theorem vo_unOp {dst : Option Tmp} {type : TypeId} {pos : String} {after : Array Edge} {guard : Option (Nat × Bool)} {K : Kt R} {op : UnOp} {t : TypeId} {x : Operand} (h : Sim Δ ρ st a w) (hk : T (valOp no P (.unOp op t x) st K)) :
    Step true P st ρ w (execOp a.eval ⟨dst, .unOp op t x, type, pos, after, guard⟩) (fun v s => T (K v s)) := by
  simp only [valOp, valOpT] at hk
  obtain ⟨v, hv, hk⟩ := Wi.out hno hk
  obtain ⟨e1, e2⟩ := h.eval hv
  split at hk
  · exact Step.val (K := fun v s => T (K v s)) (s := Op.unary .not (a.eval x)) h (by simp [e1, V.abs, Op.unary]) (v := .raw _) trivial hk
  · exact Step.val (K := fun v s => T (K v s)) (s := Op.unary .neg (a.eval x)) h (by simp [e1, V.abs, Op.unary, Op.intArith]) (v := .raw _) trivial hk
  · exact Step.val (K := fun v s => T (K v s)) (s := Op.unary .xor (a.eval x)) h (by simp [e1, V.abs, Op.unary, Go.intBits_xor]) (v := .raw _) trivial hk
  · exact (hno hk).elim
theorem vo_convert {dst : Option Tmp} {type : TypeId} {pos : String} {after : Array Edge} {guard : Option (Nat × Bool)} {K : Kt R} {src dst' : TypeId} {x : Operand} (h : Sim Δ ρ st a w) (hk : T (valOp no P (.convert src dst' x) st K)) :
    Step true P st ρ w (execOp a.eval ⟨dst, .convert src dst' x, type, pos, after, guard⟩) (fun v s => T (K v s)) := by
  simp only [valOp, valOpT] at hk
  obtain ⟨d1, hd1, hk⟩ := Wi.out hno hk
  obtain ⟨d2, hd2, hk⟩ := Wi.out hno hk
  obtain ⟨v, hv, hk⟩ := Wi.out hno hk
  obtain ⟨e1, e2⟩ := h.eval hv
  split at hk
  · refine Step.val (K := fun v s => T (K v s)) (s := Go.convert src dst' (a.eval x)) h ?_ (v := .raw _) trivial hk
    simp only [Go.convert, Sem.run_bind, run_underlying hd1, Result.andThen_ok, run_underlying hd2, e1, V.abs]
    simp [Conv.intToInt]
  · exact (hno hk).elim
theorem vo_makeInterface {dst : Option Tmp} {type : TypeId} {pos : String} {after : Array Edge} {guard : Option (Nat × Bool)} {K : Kt R} {t : TypeId} {x : Operand} (h : Sim Δ ρ st a w) (hk : T (valOp no P (.makeInterface t x) st K)) :
    Step true P st ρ w (execOp a.eval ⟨dst, .makeInterface t x, type, pos, after, guard⟩) (fun v s => T (K v s)) := by
  simp only [valOp, valOpT] at hk
  obtain ⟨d, hd, hk⟩ := Wi.out hno hk
  obtain ⟨v, hv, hk⟩ := Wi.out hno hk
  obtain ⟨e1, e2⟩ := h.eval hv
  have hni : ∀ ms, d ≠ .interface ms := fun ms e => by subst e; exact hno hk
  have hk' : T (K (.ifc t v) st.s) := by cases d <;> first | exact hk | exact (hno hk).elim
  refine Step.val (K := fun v s => T (K v s)) (s := Instr.makeInterface t (a.eval x)) h ?_ (v := .ifc t v) e2 hk'
  simp only [Instr.makeInterface, Sem.run_bind, run_underlying hd, Result.andThen_ok, e1, V.abs]
  cases d <;> first | rfl | exact absurd rfl (hni _)
theorem vo_makeFunc {dst : Option Tmp} {type : TypeId} {pos : String} {after : Array Edge} {guard : Option (Nat × Bool)} {K : Kt R} {f : Fn} {first captured : Array Operand} (h : Sim Δ ρ st a w) (hk : T (valOp no P (.makeFunc f first captured) st K)) :
    Step true P st ρ w (execOp a.eval ⟨dst, .makeFunc f first captured, type, pos, after, guard⟩) (fun v s => T (K v s)) := by
  simp only [valOp, valOpT] at hk
  obtain ⟨xs, hx, hk⟩ := Wi.out hno hk
  obtain ⟨ys, hy, hk⟩ := Wi.out hno hk
  obtain ⟨e1, e2⟩ := h.evalL hx
  obtain ⟨f1, f2⟩ := h.evalL hy
  refine Step.val (K := fun v s => T (K v s)) (s := Instr.makeFunc f (first.map a.eval) (captured.map a.eval)) h ?_ (v := .fn f xs ys) ⟨e2, f2⟩ hk
  have g1 : first.map a.eval = (absL ρ xs).toArray := by apply Array.ext'; simpa using e1
  have g2 : captured.map a.eval = (absL ρ ys).toArray := by apply Array.ext'; simpa using f1
  simp [Instr.makeFunc, V.abs, g1, g2]
omit hno in
theorem vZeros_get {z : List V} {size n q : Nat} (hz : z.length = size) (hq : q < n * size) : (vZeros z size n)[q]? = z[q % size]? := by
  unfold vZeros
  split
  · match z, hz with
    | [u], _ =>
      simp only [Nat.mul_one] at hq
      simp [hq, Nat.mod_one]
  · have hs : 0 < size := by
      rcases Nat.eq_zero_or_pos size with h | h
      · subst h; simp at hq
      · exact h
    have hm : q % z.length < z.length := Nat.mod_lt _ (by omega)
    rw [List.getElem?_map, List.getElem?_range hq]
    subst hz
    simp only [Option.map_some, List.getD_eq_getElem?_getD, List.getElem?_eq_getElem hm, Option.getD_some]
omit hno in
/-- A new row of zeros, told by columns. -/
theorem make_arr {P : Program} {ρ : Rho} {w : World} {st : St} {q : Bool} {sm : Sem Next} {K : Kt Prop} {z : List V} {size l c : Nat} {cols : List Col} {elem : TypeId} (hz : z.length = size) (hc : colsNE z = some cols)
    (hs : Step q P st ρ w sm (fun v s => v = .sl st.s.length 0 l c ∧ s = st.s ++ [.own (vZeros z size c) elem])) (hk : K (.sle st.s.length size 0 l c) (st.s ++ [.arr .own cols c elem])) : Step q P st ρ w sm K := by
  obtain ⟨n, v, s', ρ', w', h1, h2, ⟨rfl, rfl⟩, h3, h4, h5, h6, h7⟩ := hs
  have hc' : colsOf z = some cols := by
    unfold colsNE at hc
    split at hc
    · cases hc
    · exact hc
  obtain ⟨c1, c2⟩ := vZeros_flat hc'
  have hlast : (st.s ++ [Ent.own (vZeros z size c) elem])[st.s.length]? = some (.own (vZeros z size c) elem) := by simp
  have hset : (st.s ++ [Ent.own (vZeros z size c) elem]).set st.s.length (.arr .own cols c elem) = st.s ++ [.arr .own cols c elem] := by simp [List.set_append]
  have hflat : ∀ v ∈ vZeros z size c, ∃ u : Value, v = .raw u ∧ u.oneCell' = true := by
    have hz0 : ∀ v ∈ z, ∃ u : Value, v = .raw u ∧ u.oneCell' = true := by
      have : ∀ (z : List V) (cols : List Col), colsOf z = some cols → ∀ v ∈ z, ∃ u : Value, v = .raw u ∧ u.oneCell' = true := by
        intro z
        induction z with
        | nil => intro cols _ v hv; cases hv
        | cons v z ih =>
          intro cols h
          simp only [colsOf] at h
          split at h
          · rename_i l hl
            intro u hu
            rcases List.mem_cons.1 hu with rfl | hu
            · split at h
              · exact ⟨_, rfl, rfl⟩
              · exact ⟨_, rfl, rfl⟩
              · exact ⟨_, rfl, rfl⟩
              · cases h
            · exact ih _ hl u hu
          · cases h
      exact this z cols hc'
    intro v hv
    obtain ⟨q, hq, hqv⟩ := List.mem_iff_getElem.1 hv
    have hlen : (vZeros z size c).length = c * size := by
      unfold vZeros
      split
      · simp
      · simp
    have := vZeros_get (n := c) hz (by rw [← hlen]; exact hq)
    rw [List.getElem?_eq_getElem hq, hqv] at this
    exact hz0 v (List.mem_of_getElem? this.symm)
  have hlen : (vZeros z size c).length = c * size := by
    unfold vZeros
    split
    · simp
    · simp
  have hown := h3.ent _ _ hlast
  have r1 := h3.swap (e' := .arr .own cols c elem) hlast rfl rfl (repE_arr.2 ⟨absL ρ' (vZeros z size c), by rw [absL_length, hlen, c1, hz], fun u hu => by
    rw [absL_map] at hu
    obtain ⟨v, hv, rfl⟩ := List.mem_map.1 hu
    obtain ⟨u, rfl, hu2⟩ := hflat v hv
    exact hu2, fun j k col u hj hcol hu => by
      rw [absL_get]
      have hk : k < size := by rw [← hz, ← c1]; exact (List.getElem?_eq_some_iff.1 hcol).1
      have hb : (j + 1) * size ≤ c * size := Nat.mul_le_mul_right _ hj
      rw [Nat.add_mul, Nat.one_mul] at hb
      have hcl : cols.length = size := by rw [c1, hz]
      rw [hcl, vZeros_get hz (by omega), Nat.add_comm, Nat.add_mul_mod_self_right, Nat.mod_eq_of_lt hk, c2 k col j u hcol hu]
      rfl, ⟨by rw [absL_raws]; exact hown.1, hown.2⟩⟩)
  rw [hset] at r1
  refine ⟨n, .sle st.s.length size 0 l c, _, ρ', w', h1, ?_, hk, r1, h4.conv rfl (by rw [← hset]; exact map_set_own (e' := .arr .own cols c elem) hlast rfl), ?_, ?_, fun hq => ?_⟩
  · rcases h2 with h2 | ⟨h2, h2'⟩
    · left; rw [h2]; simp [V.abs]
    · cases h2'
  · intro i e hi
    have hl : (st.s ++ [Ent.arr .own cols c elem]).length = (st.s ++ [Ent.own (vZeros z size c) elem]).length := by simp
    rw [hl]
    by_cases hil : i < st.s.length
    · rw [List.getElem?_append_left hil] at hi
      exact h5 i e (by rw [List.getElem?_append_left hil]; exact hi)
    · have := (List.getElem?_eq_some_iff.1 hi).1
      simp at this
      obtain rfl : i = st.s.length := by omega
      simp at hi
      subst hi
      trivial
  · simp [V.bd]
  · have := congrArg List.length (h7 hq).2.2.1
    simp at this
theorem vo_makeSlice {dst : Option Tmp} {type : TypeId} {pos : String} {after : Array Edge} {guard : Option (Nat × Bool)} {K : Kt R} {t : TypeId} {len cap : Operand} (h : Sim Δ ρ st a w) (hk : T (valOp no P (.makeSlice t len cap) st K)) :
    Step false P st ρ w (execOp a.eval ⟨dst, .makeSlice t len cap, type, pos, after, guard⟩) (fun v s => T (K v s)) := by
  simp only [valOp, valOpT] at hk
  obtain ⟨l, hl, hk⟩ := Wi.out hno hk
  obtain ⟨c, hc, hk⟩ := Wi.out hno hk
  obtain ⟨e1, _⟩ := h.eval hl
  obtain ⟨f1, _⟩ := h.eval hc
  split at hk
  · rename_i elem kl l kc c ht _ _ _
    obtain ⟨i, hi, hk⟩ := Wi.out hno hk
    obtain ⟨z, hz, hk⟩ := Wi.out hno hk
    split at hk
    · exact (hno hk).elim
    · rename_i hzl
      have hzl' : z.length = i.size := Nat.eq_of_beq_eq_true hzl
      rcases Br.out hk with ⟨hb, hk⟩ | ⟨_, hk⟩
      · obtain ⟨b1, b2, b3, b4⟩ := of_decide_eq_true hb
        obtain ⟨v, z1, z2, z3⟩ := zero_sound (ρ := ρ) (w := w) hz
        have hstep : ∀ K0 : Kt Prop, K0 (.sl st.s.length 0 l.toNat c.toNat) (st.s ++ [.own (vZeros z i.size c.toNat) elem]) → Step false P st ρ w (do pure (Next.value (← Instr.makeSlice t (a.eval len) (a.eval cap)))) K0 := by
         intro K0 hK0
         refine alloc_run (K := K0) (s := Instr.makeSlice t (a.eval len) (a.eval cap)) h (zeros_bd (z3 _)) (v := .sl st.s.length 0 l.toNat c.toNat) (by simp [V.bd]) ?_ hK0
         have w1 : IntKind.i64.wrap l = l := IntWalk.i64_in _ (by omega)
         have w2 : IntKind.i64.wrap c = c := IntWalk.i64_in _ (by omega)
         have hzs := zeros_sound (n := c.toNat) z2 hzl'
         simp only [Instr.makeSlice, e1, f1, V.abs, Sem.run_bind, run_underlying ht, Result.andThen_ok, asInt, asIntOf, Sem.run_pure, run_typeInfo hi, w1, w2]
         rw [if_neg (by simp; omega)]
         by_cases h0 : c.toNat * i.size = 0
         · have : (absL ρ (vZeros z i.size c.toNat)).toArray = (Array.range (c.toNat * i.size)).map (fun k => (#[] : Array Value)[k % (#[] : Array Value).size]!) := by
             rw [← hzs, h0]; simp
           simp [run_askRoom, run_sizeOf hi, h0, newRow, Rho.push_at]
           simp [h0] at this
           rw [this]
         · simp only [run_askRoom, Result.andThen_ok, run_sizeOf hi, h0, if_false, Sem.run_bind, z1, Sem.run_pure]
           rw [hzs]
           simp [newRow, Rho.push_at]
        split at hk
        · rename_i cols hcols
          exact make_arr (K := fun v s => T (K v s)) (elem := elem) (l := l.toNat) (c := c.toNat) hzl' hcols (show Step false P st ρ w (execOp a.eval ⟨dst, .makeSlice t len cap, type, pos, after, guard⟩) _ from hstep (fun v s => v = V.sl st.s.length 0 l.toNat c.toNat ∧ s = st.s ++ [Ent.own (vZeros z i.size c.toNat) elem]) ⟨rfl, rfl⟩) hk
        · exact hstep (fun v s => T (K v s)) hk
      · exact (hno hk).elim
  · exact (hno hk).elim
theorem vBoundsO_mono {x : Option V} {d y y' : Nat} {K : Nat → R} (hy : y ≤ y') (h : T (vBoundsO no x d y K)) : T (vBoundsO no x d y' K) := by
  unfold vBoundsO at h ⊢
  split at h
  · exact h
  · unfold vBounds at h ⊢
    rcases Br.out h with ⟨b1, h⟩ | ⟨_, h⟩
    · rcases Br.out h with ⟨b2, h⟩ | ⟨_, h⟩
      · have b2' := of_decide_eq_true b2
        rw [b1, decide_eq_true (show _ ≤ (y' : Int) by omega)]
        exact h
      · exact (hno h).elim
    · exact (hno h).elim
  · exact (hno h).elim
omit hno in
theorem vBoundsO_some {u : V} {d d' y : Nat} {K : Nat → R} (h : T (vBoundsO no (some u) d y K)) : T (vBoundsO no (some u) d' y K) := by
  cases u with
  | raw v => cases v <;> exact h
  | _ => exact h
omit hno in
theorem lstFits_le {s : Sto} (hr : Rep ρ s w) {i k n : Nat} (h : lstFits s i k n = true) : n ≤ (ρ k).1 := by
  unfold lstFits at h
  split at h
  · rename_i cs e k' z hi
    simp only [Bool.and_eq_true, Nat.blt_eq] at h
    obtain ⟨h1, h2, h3⟩ := h
    have h1 := Nat.eq_of_beq_eq_true h1
    subst h1
    have h3 := Nat.le_of_ble_eq_true h3
    obtain ⟨rest, _, _, g⟩ := hr.ent i _ hi
    exact Nat.le_of_mul_le_mul_right (by omega : n * z ≤ (ρ k).1 * z) h2
  · cases h
theorem vBoundsO_le {x : Option V} {d y y' : Nat} {K : Nat → R} (hd : d ≤ y) (hy : y ≤ y') (h : T (vBoundsO no x d y K)) : T (vBoundsO no x d y' fun h => match Nat.ble h y with | true => K h | false => no) := by
  unfold vBoundsO at h ⊢
  split at h
  · simp only; rw [Nat.ble_eq_true_of_le hd]; exact h
  · unfold vBounds at h ⊢
    rcases Br.out h with ⟨b1, h⟩ | ⟨_, h⟩
    · rcases Br.out h with ⟨b2, h⟩ | ⟨_, h⟩
      · have b1' := of_decide_eq_true b1
        have b2' := of_decide_eq_true b2
        rw [b1, decide_eq_true (show _ ≤ (y' : Int) by omega)]
        show T (match Nat.ble _ y with | true => K _ | false => no)
        rw [Nat.ble_eq_true_of_le (by omega)]
        exact h
      · exact (hno h).elim
    · exact (hno h).elim
  · exact (hno h).elim
theorem vBoundsO_map {x : Option V} {d y : Nat} {K K' : Nat → R} (hk : ∀ n, T (K n) → T (K' n)) (h : T (vBoundsO no x d y K)) : T (vBoundsO no x d y K') := by
  unfold vBoundsO at h ⊢
  split at h
  · exact hk _ h
  · unfold vBounds at h ⊢
    rcases Br.out h with ⟨b1, h⟩ | ⟨_, h⟩
    · rcases Br.out h with ⟨b2, h⟩ | ⟨_, h⟩
      · rw [b1, b2]; exact hk _ h
      · exact (hno h).elim
    · exact (hno h).elim
  · exact (hno h).elim
/-- The bounds of a part of a slice of len, of more room. -/
theorem cut_run {P : Program} {ρ : Rho} {w : World} {len cap : Nat} {lo hi : Option V} {K : Nat → Nat → R} (hle : len ≤ cap) (h : T (vBoundsO no hi len len fun h => vBoundsO no lo 0 h fun l => K l h)) :
    ∃ l h, (Instr.sliceBounds true len cap (lo.map (V.abs ρ)) (hi.map (V.abs ρ)) none).run P w = .ok (l, h, cap) w ∧ T (K l h) ∧ l ≤ h ∧ h ≤ len := by
  have h1 := vBoundsO_le hno (Nat.le_refl _) hle h
  have h2 : T (vBoundsO no hi len cap fun h => vBoundsO no lo 0 h fun l => match Nat.ble h len && (Nat.ble l h && Nat.beq cap cap) with | true => K l h | false => no) := by
    refine vBoundsO_map hno (fun n hn => ?_) h1
    split at hn
    · rename_i hb
      refine vBoundsO_map hno (fun l hl => ?_) (vBoundsO_le hno (Nat.zero_le _) (Nat.le_refl _) hn)
      rw [hb]
      simp only [Bool.true_and, Nat.beq_refl, Bool.and_true]
      exact hl
    · exact (hno hn).elim
  obtain ⟨l, hh, m, r1, hk⟩ := sliceBounds_run hno (P := P) (ρ := ρ) (w := w) (b := true) (len := len) (cap := cap) (lo := lo) (hi := hi) (mx := none) (K := fun l h m => match Nat.ble h len && (Nat.ble l h && Nat.beq m cap) with | true => K l h | false => no) (by simp) (by
    show T (vBoundsO no hi len cap fun h => vBoundsO no lo 0 h fun l => match Nat.ble h len && (Nat.ble l h && Nat.beq cap cap) with | true => K l h | false => no)
    exact h2)
  split at hk
  · rename_i hb
    simp only [Bool.and_eq_true] at hb
    have := Nat.eq_of_beq_eq_true hb.2.2
    subst this
    exact ⟨l, hh, r1, hk, Nat.le_of_ble_eq_true hb.2.1, Nat.le_of_ble_eq_true hb.1⟩
  · exact (hno hk).elim
omit hno in
theorem slOff_else {o l m s : Nat} (h : l = 0 ∨ m ≠ l) : slOff o l m s = o + l * s := by
  unfold slOff
  cases l with
  | zero => simp
  | succ l =>
    have : Nat.beq m (l + 1) = false := by
      cases hb : Nat.beq m (l + 1) with
      | false => rfl
      | true => exact absurd (Nat.eq_of_beq_eq_true hb) (by rcases h with h | h; · cases h
                                                            · exact h)
    show (match Nat.beq m (l + 1) with | true => _ | false => _) = _
    rw [this]
omit hno in
theorem slOff_if {o l m s : Nat} : slOff o l m s = if m = l then (if l = 0 then o + l * s else o) else o + l * s := by
  by_cases h : m = l
  · rw [if_pos h]
    subst h
    unfold slOff
    cases m with
    | zero => simp
    | succ m =>
      show (match Nat.beq (m + 1) (m + 1) with | true => _ | false => _) = _
      simp [Nat.beq_refl]
  · rw [if_neg h, slOff_else (.inr h)]
omit hno in
theorem lseFits_out {s : Sto} (hr : Rep ρ s w) {i k z n : Nat} {K : R} (h : T (lseFits no s i k z n K)) (hno : ¬ T no) : n ≤ (ρ k).1 ∧ T K := by
  unfold lseFits at h
  split at h
  · rename_i k' cols N e hi
    split at h
    · rename_i hb
      simp only [Bool.and_eq_true, Nat.blt_eq] at hb
      obtain ⟨h1, h2, h3⟩ := hb
      have h1 := Nat.eq_of_beq_eq_true h1
      subst h1
      have h2 := Nat.eq_of_beq_eq_true h2
      subst h2
      rcases Br.out h with ⟨h4, h⟩ | ⟨_, h⟩
      · have h4 := Nat.le_of_ble_eq_true h4
        obtain ⟨cs, g1, _, _, rest, _, _, g2⟩ := hr.ent i _ hi
        refine ⟨Nat.le_of_mul_le_mul_right (c := cols.length) (?_ : n * cols.length ≤ (ρ k).1 * cols.length) h3, h⟩
        have : n * cols.length ≤ N * cols.length := Nat.mul_le_mul_right _ h4
        omega
      · exact (hno h).elim
    · exact (hno h).elim
  · exact (hno h).elim
theorem vo_slice {dst : Option Tmp} {type : TypeId} {pos : String} {after : Array Edge} {guard : Option (Nat × Bool)} {K : Kt R} {t : TypeId} {x : Operand} {lo hi mx : Option Operand} (h : Sim Δ ρ st a w) (hk : T (valOp no P (.slice t x lo hi mx) st K)) :
    Step true P st ρ w (execOp a.eval ⟨dst, .slice t x lo hi mx, type, pos, after, guard⟩) (fun v s => T (K v s)) := by
  simp only [valOp, valOpT] at hk
  obtain ⟨d, hd, hk⟩ := Wi.out hno hk
  obtain ⟨v, hv, hk⟩ := Wi.out hno hk
  obtain ⟨e1, e2⟩ := h.eval hv
  obtain ⟨lo', hlo, hk⟩ := vOpt_out hno h hk
  obtain ⟨hi', hhi, hk⟩ := vOpt_out hno h hk
  obtain ⟨mx', hmx, hk⟩ := vOpt_out hno h hk
  split at hk
  · rename_i s _ _ _ _
    cases mx' with
    | some _ => exact (hno hk).elim
    | none =>
      obtain ⟨l, hh, m, r1, hk⟩ := sliceBounds_run hno (P := P) (ρ := ρ) (w := w) (b := false) (len := s.size) (cap := s.size) (lo := lo') (hi := hi') (mx := none) (K := fun l h m => K (.raw (.string (s.extract l h))) st.s) (by simp) hk
      refine Step.val (K := fun v s => T (K v s)) (s := Instr.sliceAt t (a.eval x) (lo.map a.eval) (hi.map a.eval) (mx.map a.eval)) h ?_ (v := .raw _) trivial hk
      simp only [Option.map_none] at r1 hmx
      simp only [Instr.sliceAt, Sem.run_bind, run_underlying hd, Result.andThen_ok, Instr.slice, e1, V.abs, hlo, hhi, hmx]
      simp [r1]
  · rename_i elem i o len cap _ _ _ _
    obtain ⟨inf, hinf, hk⟩ := Wi.out hno hk
    have hk' : (mx'.isSome = true → hi'.isSome = true) ∧ T (vBoundsO no mx' cap cap fun m => vBoundsO no hi' len (mxCap mx' m cap) fun h => vBoundsO no lo' 0 h fun l =>
        K (.sl i (slOff o l m inf.size) (h - l) (m - l)) st.s) := by
      cases mx' <;> cases hi' <;> first | exact (hno hk).elim | exact ⟨by simp, hk⟩
    obtain ⟨l, hh, m, r1, hk⟩ := sliceBounds_run hno (P := P) (ρ := ρ) (w := w) (b := true) (K := fun l h m => K (.sl i (slOff o l m inf.size) (h - l) (m - l)) st.s) hk'.1 hk'.2
    refine Step.val (K := fun v s => T (K v s)) (s := Instr.sliceAt t (a.eval x) (lo.map a.eval) (hi.map a.eval) (mx.map a.eval)) h ?_ (v := .sl i _ (hh - l) (m - l)) e2 hk
    simp only [Instr.sliceAt, Sem.run_bind, run_underlying hd, Result.andThen_ok, Instr.slice, e1, V.abs, hlo, hhi, hmx, r1, run_sizeOf hinf, Sem.run_pure, Option.map_some]
    have := addr_part (ρ i).1 ((ρ i).2 + o) l inf.size m
    rw [off_part, ← this]
    split <;> rfl
  · rename_i elem i k o e len _ _ _ _
    obtain ⟨inf, hinf, hk⟩ := Wi.out hno hk
    cases mx' with
    | some _ => exact (hno hk).elim
    | none =>
      cases hfit : lstFits st.s i k (e + len) with
      | false => rw [hfit] at hk; exact (hno hk).elim
      | true =>
        rw [hfit] at hk
        have hle := lstFits_le h.rep hfit
        obtain ⟨l, hh, r1, hk, hlh, hhl⟩ := cut_run hno (P := P) (ρ := ρ) (w := w) (len := len) (cap := (ρ k).1 - e) (lo := lo') (hi := hi') (K := fun l h => match Nat.blt l len || Nat.beq l 0 with | true => K (.lst i k (o + l * inf.size) (e + l) (h - l)) st.s | false => K (.lend i k o e l inf.size) st.s) (by omega) hk
        have hrun : ∀ v : V, v.abs ρ = .slice (some ⟨(ρ i).1, slOff ((ρ i).2 + o) l ((ρ k).1 - e) inf.size, none⟩) (hh - l) ((ρ k).1 - e - l) → (Instr.sliceAt t (a.eval x) (lo.map a.eval) (hi.map a.eval) (mx.map a.eval)).run P w = .ok (v.abs ρ) w := by
          intro v hv
          rw [hv]
          simp only [Option.map_none] at hmx
          simp only [Instr.sliceAt, Sem.run_bind, run_underlying hd, Result.andThen_ok, Instr.slice, e1, V.abs, hlo, hhi, hmx, r1, run_sizeOf hinf, Sem.run_pure, Option.map_some]
          rw [← addr_part]
          split <;> rfl
        split at hk
        · rename_i hl
          refine Step.val (K := fun v s => T (K v s)) (s := Instr.sliceAt t (a.eval x) (lo.map a.eval) (hi.map a.eval) (mx.map a.eval)) h (hrun (.lst i k _ _ (hh - l)) ?_) e2 hk
          simp only [V.abs]
          rw [slOff_else (by
            rcases Bool.or_eq_true _ _ |>.mp hl with h1 | h1
            · rw [Nat.blt_eq] at h1; exact .inr (by omega)
            · exact .inl (Nat.eq_of_beq_eq_true h1)), Nat.add_assoc, show (ρ k).1 - (e + l) = (ρ k).1 - e - l by omega]
        · rename_i hl
          have hl' : ¬ l < len ∧ l ≠ 0 := by
            constructor
            · intro h1; rw [show Nat.blt l len = true by rw [Nat.blt_eq]; exact h1] at hl; cases hl
            · intro h1; rw [h1, Nat.beq_refl, Bool.or_true] at hl; cases hl
          refine Step.val (K := fun v s => T (K v s)) (s := Instr.sliceAt t (a.eval x) (lo.map a.eval) (hi.map a.eval) (mx.map a.eval)) h (hrun (.lend i k o e l inf.size) ?_) e2 hk
          simp only [V.abs]
          rw [slOff_if, show hh - l = 0 by omega, if_neg hl'.2]
          congr 2
          split <;> simp [Nat.add_assoc]
  · rename_i elem i z k0 len cap _ _ _ _
    obtain ⟨inf, hinf, hk⟩ := Wi.out hno hk
    split at hk
    case h_2 => exact (hno hk).elim
    rename_i hz
    have hz := Nat.eq_of_beq_eq_true hz
    subst hz
    have hk' : (mx'.isSome = true → hi'.isSome = true) ∧ T (vBoundsO no mx' cap cap fun m => vBoundsO no hi' len (mxCap mx' m cap) fun h => vBoundsO no lo' 0 h fun l =>
        Br (Nat.beq l 0) (K (.sle i inf.size k0 h m) st.s) (Br (Nat.beq m l) (K (.sle i inf.size k0 (h - l) (m - l)) st.s) (K (.sle i inf.size (l + k0) (h - l) (m - l)) st.s))) := by
      unfold sleCut at hk
      cases mx' <;> cases hi' <;> first | exact (hno hk).elim | exact ⟨by simp, hk⟩
    obtain ⟨l, hh, m, r1, hk⟩ := sliceBounds_run hno (P := P) (ρ := ρ) (w := w) (b := true) (K := fun l h m => Br (Nat.beq l 0) (K (.sle i inf.size k0 h m) st.s) (Br (Nat.beq m l) (K (.sle i inf.size k0 (h - l) (m - l)) st.s) (K (.sle i inf.size (l + k0) (h - l) (m - l)) st.s))) hk'.1 hk'.2
    have hrun : ∀ v : V, v.abs ρ = .slice (some ⟨(ρ i).1, slOff ((ρ i).2 + k0 * inf.size) l m inf.size, none⟩) (hh - l) (m - l) → (Instr.sliceAt t (a.eval x) (lo.map a.eval) (hi.map a.eval) (mx.map a.eval)).run P w = .ok (v.abs ρ) w := by
      intro v hv
      rw [hv]
      simp only [Instr.sliceAt, Sem.run_bind, run_underlying hd, Result.andThen_ok, Instr.slice, e1, V.abs, hlo, hhi, hmx, r1, run_sizeOf hinf, Sem.run_pure, Option.map_some]
      rw [← addr_part]
      split <;> rfl
    rcases Br.out hk with ⟨hl, hk⟩ | ⟨hl, hk⟩
    · have hl := Nat.eq_of_beq_eq_true hl
      subst hl
      exact Step.val (K := fun v s => T (K v s)) (s := Instr.sliceAt t (a.eval x) (lo.map a.eval) (hi.map a.eval) (mx.map a.eval)) h (hrun (.sle i inf.size k0 hh m) (by simp [V.abs, slOff])) e2 hk
    · have hl0 : l ≠ 0 := fun e => by subst e; simp at hl
      rcases Br.out hk with ⟨hm, hk⟩ | ⟨hm, hk⟩
      · have hm := Nat.eq_of_beq_eq_true hm
        subst hm
        refine Step.val (K := fun v s => T (K v s)) (s := Instr.sliceAt t (a.eval x) (lo.map a.eval) (hi.map a.eval) (mx.map a.eval)) h (hrun (.sle i inf.size k0 (hh - m) (m - m)) ?_) e2 hk
        simp only [V.abs]
        rw [slOff_if, if_pos rfl, if_neg hl0]
      · have hm : m ≠ l := fun e => by subst e; simp at hm
        refine Step.val (K := fun v s => T (K v s)) (s := Instr.sliceAt t (a.eval x) (lo.map a.eval) (hi.map a.eval) (mx.map a.eval)) h (hrun (.sle i inf.size (l + k0) (hh - l) (m - l)) ?_) e2 hk
        simp only [V.abs]
        rw [slOff_else (.inr hm), Nat.add_comm l k0, Nat.add_mul, Nat.add_assoc]
  · rename_i elem i k z e len _ _ _ _
    obtain ⟨inf, hinf, hk⟩ := Wi.out hno hk
    cases mx' with
    | some u =>
      simp only at hk
      split at hk
      case h_2 => exact (hno hk).elim
      rename_i hz
      have hz := Nat.eq_of_beq_eq_true hz
      subst hz
      obtain ⟨hle, hk⟩ := lseFits_out h.rep hk hno
      have hk' : ((some u).isSome = true → hi'.isSome = true) ∧ T (vBoundsO no (some u) ((ρ k).1 - e) ((ρ k).1 - e) fun m => vBoundsO no hi' len (mxCap (some u) m ((ρ k).1 - e)) fun h => vBoundsO no lo' 0 h fun l =>
          Br (Nat.beq l 0) (K (.sle i inf.size e h m) st.s) (Br (Nat.beq m l) (K (.sle i inf.size e (h - l) (m - l)) st.s) (K (.sle i inf.size (l + e) (h - l) (m - l)) st.s))) := by
        unfold sleCut at hk
        cases hi' with
        | none => exact (hno hk).elim
        | some q =>
          have hk2 : T (vBoundsO no (some u) len len fun m => vBoundsO no (some q) len (mxCap (some u) m ((ρ k).1 - e)) fun h => vBoundsO no lo' 0 h fun l =>
            Br (Nat.beq l 0) (K (.sle i inf.size e h m) st.s) (Br (Nat.beq m l) (K (.sle i inf.size e (h - l) (m - l)) st.s) (K (.sle i inf.size (l + e) (h - l) (m - l)) st.s))) := hk
          exact ⟨fun _ => rfl, vBoundsO_some (vBoundsO_mono hno (y := len) (by omega) hk2)⟩
      obtain ⟨l, hh, m, r1, hk⟩ := sliceBounds_run hno (P := P) (ρ := ρ) (w := w) (b := true) (K := fun l h m => Br (Nat.beq l 0) (K (.sle i inf.size e h m) st.s) (Br (Nat.beq m l) (K (.sle i inf.size e (h - l) (m - l)) st.s) (K (.sle i inf.size (l + e) (h - l) (m - l)) st.s))) hk'.1 hk'.2
      have hrun : ∀ v : V, v.abs ρ = .slice (some ⟨(ρ i).1, slOff ((ρ i).2 + e * inf.size) l m inf.size, none⟩) (hh - l) (m - l) → (Instr.sliceAt t (a.eval x) (lo.map a.eval) (hi.map a.eval) (mx.map a.eval)).run P w = .ok (v.abs ρ) w := by
        intro v hv
        rw [hv]
        simp only [Option.map_some] at r1 hmx
        simp only [Instr.sliceAt, Sem.run_bind, run_underlying hd, Result.andThen_ok, Instr.slice, e1, V.abs, hlo, hhi, hmx, r1, run_sizeOf hinf, Sem.run_pure, Option.map_some]
        rw [← addr_part]
        split <;> rfl
      rcases Br.out hk with ⟨hl, hk⟩ | ⟨hl, hk⟩
      · have hl := Nat.eq_of_beq_eq_true hl
        subst hl
        exact Step.val (K := fun v s => T (K v s)) (s := Instr.sliceAt t (a.eval x) (lo.map a.eval) (hi.map a.eval) (mx.map a.eval)) h (hrun (.sle i inf.size e hh m) (by simp [V.abs, slOff])) e2.1 hk
      · have hl0 : l ≠ 0 := fun e => by subst e; simp at hl
        rcases Br.out hk with ⟨hm, hk⟩ | ⟨hm, hk⟩
        · have hm := Nat.eq_of_beq_eq_true hm
          subst hm
          refine Step.val (K := fun v s => T (K v s)) (s := Instr.sliceAt t (a.eval x) (lo.map a.eval) (hi.map a.eval) (mx.map a.eval)) h (hrun (.sle i inf.size e (hh - m) (m - m)) ?_) e2.1 hk
          simp only [V.abs]
          rw [slOff_if, if_pos rfl, if_neg hl0]
        · have hm : m ≠ l := fun e => by subst e; simp at hm
          refine Step.val (K := fun v s => T (K v s)) (s := Instr.sliceAt t (a.eval x) (lo.map a.eval) (hi.map a.eval) (mx.map a.eval)) h (hrun (.sle i inf.size (l + e) (hh - l) (m - l)) ?_) e2.1 hk
          simp only [V.abs]
          rw [slOff_else (.inr hm), Nat.add_comm l e, Nat.add_mul, Nat.add_assoc]
    | none =>
      simp only at hk
      split at hk
      case h_2 => exact (hno hk).elim
      rename_i hz
      have hz := Nat.eq_of_beq_eq_true hz
      subst hz
      obtain ⟨hle, hk⟩ := lseFits_out h.rep hk hno
      obtain ⟨l, hh, r1, hk, hlh, hhl⟩ := cut_run hno (P := P) (ρ := ρ) (w := w) (len := len) (cap := (ρ k).1 - e) (lo := lo') (hi := hi') (K := fun l h => Br (Nat.beq l 0) (K (.lse i k inf.size e h) st.s) (Br (Nat.blt l len) (K (.lse i k inf.size (l + e) (h - l)) st.s) (K (.lend i k (e * inf.size) e l inf.size) st.s))) (by omega) hk
      have hrun : ∀ v : V, v.abs ρ = .slice (some ⟨(ρ i).1, slOff ((ρ i).2 + e * inf.size) l ((ρ k).1 - e) inf.size, none⟩) (hh - l) ((ρ k).1 - e - l) → (Instr.sliceAt t (a.eval x) (lo.map a.eval) (hi.map a.eval) (mx.map a.eval)).run P w = .ok (v.abs ρ) w := by
        intro v hv
        rw [hv]
        simp only [Option.map_none] at hmx
        simp only [Instr.sliceAt, Sem.run_bind, run_underlying hd, Result.andThen_ok, Instr.slice, e1, V.abs, hlo, hhi, hmx, r1, run_sizeOf hinf, Sem.run_pure, Option.map_some]
        rw [← addr_part]
        split <;> rfl
      rcases Br.out hk with ⟨hl, hk⟩ | ⟨hl, hk⟩
      · have hl := Nat.eq_of_beq_eq_true hl
        subst hl
        exact Step.val (K := fun v s => T (K v s)) (s := Instr.sliceAt t (a.eval x) (lo.map a.eval) (hi.map a.eval) (mx.map a.eval)) h (hrun (.lse i k inf.size e hh) (by simp [V.abs, slOff])) e2 hk
      · have hl0 : l ≠ 0 := fun e => by subst e; simp at hl
        rcases Br.out hk with ⟨hm, hk⟩ | ⟨hm, hk⟩
        · rw [Nat.blt_eq] at hm
          refine Step.val (K := fun v s => T (K v s)) (s := Instr.sliceAt t (a.eval x) (lo.map a.eval) (hi.map a.eval) (mx.map a.eval)) h (hrun (.lse i k inf.size (l + e) (hh - l)) ?_) e2 hk
          simp only [V.abs]
          rw [slOff_else (.inr (by omega)), Nat.add_comm l e, Nat.add_mul, Nat.add_assoc, show (ρ k).1 - (e + l) = (ρ k).1 - e - l by omega]
        · have hm : ¬ l < len := fun h1 => by rw [← Nat.blt_eq, hm] at h1; cases h1
          refine Step.val (K := fun v s => T (K v s)) (s := Instr.sliceAt t (a.eval x) (lo.map a.eval) (hi.map a.eval) (mx.map a.eval)) h (hrun (.lend i k (e * inf.size) e l inf.size) ?_) e2 hk
          simp only [V.abs]
          rw [slOff_if, show hh - l = 0 by omega, if_neg hl0]
          congr 2
          split <;> simp [Nat.add_assoc]
  · rename_i n elem i o _ _ _ _
    obtain ⟨inf, hinf, hk⟩ := Wi.out hno hk
    cases mx' with
    | some _ => exact (hno hk).elim
    | none =>
      obtain ⟨l, hh, m, r1, hk⟩ := sliceBounds_run hno (P := P) (ρ := ρ) (w := w) (b := false) (len := n) (cap := n) (lo := lo') (hi := hi') (mx := none) (K := fun l h m => K (.sl i (slOff o l m inf.size) (h - l) (m - l)) st.s) (by simp) hk
      refine Step.val (K := fun v s => T (K v s)) (s := Instr.sliceAt t (a.eval x) (lo.map a.eval) (hi.map a.eval) (mx.map a.eval)) h ?_ (v := .sl i _ (hh - l) (m - l)) e2 hk
      simp only [Option.map_none] at r1 hmx
      simp only [Instr.sliceAt, Sem.run_bind, run_underlying hd, Result.andThen_ok, e1, V.abs, Instr.sureAddr, hlo, hhi, hmx, r1, run_sizeOf hinf, Sem.run_pure]
      have := addr_part (ρ i).1 ((ρ i).2 + o) l inf.size m
      rw [off_part, ← this]
  · exact (hno hk).elim
theorem vo_fieldAddr {dst : Option Tmp} {type : TypeId} {pos : String} {after : Array Edge} {guard : Option (Nat × Bool)} {K : Kt R} {t : TypeId} {x : Operand} {f : Nat} (h : Sim Δ ρ st a w) (hk : T (valOp no P (.fieldAddr t x f) st K)) :
    Step true P st ρ w (execOp a.eval ⟨dst, .fieldAddr t x f, type, pos, after, guard⟩) (fun v s => T (K v s)) := by
  simp only [valOp, valOpT] at hk
  split at hk
  · rename_i fields ht
    obtain ⟨fd, hfd, hk⟩ := Wi.out hno hk
    obtain ⟨i, hi, hk⟩ := Wi.out hno hk
    obtain ⟨v, hv, hk⟩ := Wi.out hno hk
    obtain ⟨e1, e2⟩ := h.eval hv
    split at hk
    · rename_i j o
      split at hk
      · exact (hno hk).elim
      · rename_i hz
        refine Step.val (K := fun v s => T (K v s)) (s := Instr.fieldAt t (a.eval x) f) h ?_ (v := .ptr j (o + fd.offset)) e2 hk
        have hz' : i.size ≠ 0 := fun e => by rw [e] at hz; cases hz
        simp only [Instr.fieldAt, Sem.run_bind, run_underlying ht, Result.andThen_ok, hfd, e1, V.abs, Instr.sureAddr, Sem.run_pure, fieldPlace, run_sizeOf hi]
        rw [if_neg hz']
        simp [Addr.add]
        split
        · rename_i h0; simp [h0]
        · simp [Nat.add_assoc]
    · rename_i j z k o
      split at hk
      · exact (hno hk).elim
      · rename_i hz
        refine Step.val (K := fun v s => T (K v s)) (s := Instr.fieldAt t (a.eval x) f) h ?_ (v := .el j z k (o + fd.offset)) e2 hk
        have hz' : i.size ≠ 0 := fun e => by rw [e] at hz; cases hz
        simp only [Instr.fieldAt, Sem.run_bind, run_underlying ht, Result.andThen_ok, hfd, e1, V.abs, Instr.sureAddr, Sem.run_pure, fieldPlace, run_sizeOf hi]
        rw [if_neg hz']
        simp [Addr.add]
        split
        · rename_i h0; simp [h0]
        · simp [Nat.add_assoc]
    · exact (hno hk).elim
  · exact (hno hk).elim
theorem vo_field {dst : Option Tmp} {type : TypeId} {pos : String} {after : Array Edge} {guard : Option (Nat × Bool)} {K : Kt R} {t : TypeId} {x : Operand} {f : Nat} (h : Sim Δ ρ st a w) (hk : T (valOp no P (.field t x f) st K)) :
    Step true P st ρ w (execOp a.eval ⟨dst, .field t x f, type, pos, after, guard⟩) (fun v s => T (K v s)) := by
  simp only [valOp, valOpT] at hk
  split at hk
  · rename_i fields ht
    obtain ⟨fd, hfd, hk⟩ := Wi.out hno hk
    obtain ⟨v, hv, hk⟩ := Wi.out hno hk
    obtain ⟨e1, e2⟩ := h.eval hv
    split at hk
    · obtain ⟨u, hu, hk⟩ := Wi.out hno hk
      refine Step.val (K := fun v s => T (K v s)) (s := Instr.field t (a.eval x) f) h ?_ (bd_part hu e2) hk
      simp [Instr.field, run_underlying ht, hfd, e1, V.abs, asAgg, run_part hu]
    · exact (hno hk).elim
  · exact (hno hk).elim
theorem vo_indexAddr {dst : Option Tmp} {type : TypeId} {pos : String} {after : Array Edge} {guard : Option (Nat × Bool)} {K : Kt R} {t : TypeId} {x ix : Operand} (h : Sim Δ ρ st a w) (hk : T (valOp no P (.indexAddr t x ix) st K)) :
    Step true P st ρ w (execOp a.eval ⟨dst, .indexAddr t x ix, type, pos, after, guard⟩) (fun v s => T (K v s)) := by
  simp only [valOp, valOpT] at hk
  obtain ⟨d, hd, hk⟩ := Wi.out hno hk
  obtain ⟨v, hv, hk⟩ := Wi.out hno hk
  obtain ⟨u, hu, hk⟩ := Wi.out hno hk
  obtain ⟨e1, e2⟩ := h.eval hv
  obtain ⟨f1, f2⟩ := h.eval hu
  split at hk
  · rename_i len elem j o k i _ _
    obtain ⟨inf, hinf, hk⟩ := Wi.out hno hk
    rcases Br.out hk with ⟨b1, hk⟩ | ⟨_, hk⟩
    · rcases Br.out hk with ⟨b2, hk⟩ | ⟨_, hk⟩
      · have b1' : 0 ≤ i := of_decide_eq_true b1
        have b2' : i < (len : Int) := of_decide_eq_true b2
        replace hk : T (K (.ptr j (o + i.toNat * inf.size)) st.s) := by
          split at hk
          · refine splI_out (K := fun r => K (.ptr j (o + r * inf.size)) st.s) (by omega) ?_ hk
            show i ≤ ((0 + (len - 1) : Nat) : Int)
            omega
          · exact hk
        refine Step.val (K := fun v s => T (K v s)) (s := Instr.indexAt t (a.eval x) (a.eval ix)) h ?_ (v := .ptr j (o + i.toNat * inf.size)) e2 hk
        simp [Instr.indexAt, f1, e1, V.abs, asIntOf, run_underlying hd, Instr.sureAddr, b1', b2', run_sizeOf hinf, Addr.add]
        split
        · rename_i h0; simp [h0]
        · simp [Nat.add_assoc]
      · exact (hno hk).elim
    · exact (hno hk).elim
  · rename_i elem j o len cap k i _ _
    obtain ⟨inf, hinf, hk⟩ := Wi.out hno hk
    rcases Br.out hk with ⟨b1, hk⟩ | ⟨_, hk⟩
    · rcases Br.out hk with ⟨b2, hk⟩ | ⟨_, hk⟩
      · have b1' : 0 ≤ i := of_decide_eq_true b1
        have b2' : i < (len : Int) := of_decide_eq_true b2
        refine Step.val (K := fun v s => T (K v s)) (s := Instr.indexAt t (a.eval x) (a.eval ix)) h ?_ (v := .ptr j (o + i.toNat * inf.size)) e2 hk
        simp [Instr.indexAt, f1, e1, V.abs, asIntOf, run_underlying hd, Instr.sureAddr, b1', b2', run_sizeOf hinf, Addr.add]
        split
        · rename_i h0; simp [h0]
        · simp [Nat.add_assoc]
      · exact (hno hk).elim
    · exact (hno hk).elim
  · rename_i elem j kk o ee len k i _ _
    obtain ⟨inf, hinf, hk⟩ := Wi.out hno hk
    rcases Br.out hk with ⟨b1, hk⟩ | ⟨_, hk⟩
    · rcases Br.out hk with ⟨b2, hk⟩ | ⟨_, hk⟩
      · have b1' : 0 ≤ i := of_decide_eq_true b1
        have b2' : i < (len : Int) := of_decide_eq_true b2
        refine Step.val (K := fun v s => T (K v s)) (s := Instr.indexAt t (a.eval x) (a.eval ix)) h ?_ (v := .ptr j (o + i.toNat * inf.size)) e2.1 hk
        simp [Instr.indexAt, f1, e1, V.abs, asIntOf, run_underlying hd, Instr.sureAddr, b1', b2', run_sizeOf hinf, Addr.add]
        split
        · rename_i h0; simp [h0]
        · simp [Nat.add_assoc]
      · exact (hno hk).elim
    · exact (hno hk).elim
  · rename_i elem j z k0 len cap k i _ _
    obtain ⟨inf, hinf, hk⟩ := Wi.out hno hk
    split at hk
    case h_2 => exact (hno hk).elim
    rename_i hz
    have hz := Nat.eq_of_beq_eq_true hz
    subst hz
    rcases Br.out hk with ⟨b1, hk⟩ | ⟨_, hk⟩
    · rcases Br.out hk with ⟨b2, hk⟩ | ⟨_, hk⟩
      · have b1' : 0 ≤ i := of_decide_eq_true b1
        have b2' : i < (len : Int) := of_decide_eq_true b2
        refine Step.val (K := fun v s => T (K v s)) (s := Instr.indexAt t (a.eval x) (a.eval ix)) h ?_ (v := .el j inf.size (i.toNat + k0) 0) e2 hk
        simp [Instr.indexAt, f1, e1, V.abs, asIntOf, run_underlying hd, Instr.sureAddr, b1', b2', run_sizeOf hinf, Addr.add, Nat.add_mul]
        split
        · rename_i h0; simp [h0]
        · simp [Nat.add_assoc]; omega
      · exact (hno hk).elim
    · exact (hno hk).elim
  · rename_i elem j kk z e len k i _ _
    obtain ⟨inf, hinf, hk⟩ := Wi.out hno hk
    split at hk
    case h_2 => exact (hno hk).elim
    rename_i hz
    have hz := Nat.eq_of_beq_eq_true hz
    subst hz
    rcases Br.out hk with ⟨b1, hk⟩ | ⟨_, hk⟩
    · rcases Br.out hk with ⟨b2, hk⟩ | ⟨_, hk⟩
      · have b1' : 0 ≤ i := of_decide_eq_true b1
        have b2' : i < (len : Int) := of_decide_eq_true b2
        refine Step.val (K := fun v s => T (K v s)) (s := Instr.indexAt t (a.eval x) (a.eval ix)) h ?_ (v := .el j inf.size (i.toNat + e) 0) e2.1 hk
        simp [Instr.indexAt, f1, e1, V.abs, asIntOf, run_underlying hd, Instr.sureAddr, b1', b2', run_sizeOf hinf, Addr.add, Nat.add_mul]
        split
        · rename_i h0; simp [h0]
        · simp [Nat.add_assoc]; omega
      · exact (hno hk).elim
    · exact (hno hk).elim
  · rename_i len elem j z q o k i _ _
    obtain ⟨inf, hinf, hk⟩ := Wi.out hno hk
    rcases Br.out hk with ⟨b1, hk⟩ | ⟨_, hk⟩
    · rcases Br.out hk with ⟨b2, hk⟩ | ⟨_, hk⟩
      · have b1' : 0 ≤ i := of_decide_eq_true b1
        have b2' : i < (len : Int) := of_decide_eq_true b2
        replace hk : T (K (.el j z q (o + i.toNat * inf.size)) st.s) := by
          split at hk
          · refine splI_out (K := fun r => K (.el j z q (o + r * inf.size)) st.s) (by omega) ?_ hk
            show i ≤ ((0 + (len - 1) : Nat) : Int)
            omega
          · exact hk
        refine Step.val (K := fun v s => T (K v s)) (s := Instr.indexAt t (a.eval x) (a.eval ix)) h ?_ (v := .el j z q (o + i.toNat * inf.size)) e2 hk
        simp [Instr.indexAt, f1, e1, V.abs, asIntOf, run_underlying hd, Instr.sureAddr, b1', b2', run_sizeOf hinf, Addr.add]
        split
        · rename_i h0; simp [h0]
        · simp [Nat.add_assoc]
      · exact (hno hk).elim
    · exact (hno hk).elim
  · exact (hno hk).elim
theorem vo_index {dst : Option Tmp} {type : TypeId} {pos : String} {after : Array Edge} {guard : Option (Nat × Bool)} {K : Kt R} {t : TypeId} {x ix : Operand} (h : Sim Δ ρ st a w) (hk : T (valOp no P (.index t x ix) st K)) :
    Step true P st ρ w (execOp a.eval ⟨dst, .index t x ix, type, pos, after, guard⟩) (fun v s => T (K v s)) := by
  simp only [valOp, valOpT] at hk
  obtain ⟨d, hd, hk⟩ := Wi.out hno hk
  obtain ⟨v, hv, hk⟩ := Wi.out hno hk
  obtain ⟨u, hu, hk⟩ := Wi.out hno hk
  obtain ⟨e1, e2⟩ := h.eval hv
  obtain ⟨f1, f2⟩ := h.eval hu
  split at hk
  · rename_i len elem cs k i _ _
    obtain ⟨inf, hinf, hk⟩ := Wi.out hno hk
    rcases Br.out hk with ⟨b1, hk⟩ | ⟨_, hk⟩
    · rcases Br.out hk with ⟨b2, hk⟩ | ⟨_, hk⟩
      · have b1' : 0 ≤ i := of_decide_eq_true b1
        have b2' : i < (len : Int) := of_decide_eq_true b2
        replace hk : T (Wi no (vPart P elem cs (i.toNat * inf.size)) fun v => K v st.s) := by
          split at hk
          · refine splI_out (K := fun r => Wi no (vPart P elem cs (r * inf.size)) fun v => K v st.s) (by omega) ?_ hk
            show i ≤ ((0 + (len - 1) : Nat) : Int)
            omega
          · exact hk
        obtain ⟨r, hr, hk⟩ := Wi.out hno hk
        refine Step.val (K := fun v s => T (K v s)) (s := Instr.index t (a.eval x) (a.eval ix)) h ?_ (bd_part hr e2) hk
        simp [Instr.index, f1, e1, V.abs, asIntOf, run_underlying hd, b1', b2', run_sizeOf hinf, run_part hr]
      · exact (hno hk).elim
    · exact (hno hk).elim
  · rename_i s k i _ _
    rcases Br.out hk with ⟨b1, hk⟩ | ⟨_, hk⟩
    · have b1' : 0 ≤ i := of_decide_eq_true b1
      rcases Br.out hk with ⟨b2, hk⟩ | ⟨_, hk⟩
      · have b2' : i < (s.size : Int) := of_decide_eq_true b2
        have hlt : i.toNat < s.size := by omega
        have hr : s[i.toNat]? = some (s.get! i.toNat) := by
          rw [getElem?_pos s i.toNat hlt]
          congr 1
          show s.data[i.toNat] = s.data[i.toNat]!
          rw [getElem!_pos s.data i.toNat hlt]
        refine Step.val (K := fun v s => T (K v s)) (s := Instr.index t (a.eval x) (a.eval ix)) h ?_ (v := .raw _) trivial hk
        simp [Instr.index, f1, e1, V.abs, asIntOf, run_underlying hd, b1', hr]
      · exact (hno hk).elim
    · exact (hno hk).elim
  · exact (hno hk).elim
theorem vo_typeAssert {dst : Option Tmp} {type : TypeId} {pos : String} {after : Array Edge} {guard : Option (Nat × Bool)} {K : Kt R} {x : Operand} {xType asserted : TypeId} {ok : Bool} (h : Sim Δ ρ st a w) (hk : T (valOp no P (.typeAssert x xType asserted ok) st K)) :
    Step true P st ρ w (execOp a.eval ⟨dst, .typeAssert x xType asserted ok, type, pos, after, guard⟩) (fun v s => T (K v s)) := by
  simp only [valOp, valOpT] at hk
  obtain ⟨d, hd, hk0⟩ := Wi.out hno hk
  clear hk
  obtain ⟨v, hv, hk⟩ := Wi.out hno hk0
  clear hk0
  obtain ⟨e1, e2⟩ := h.eval hv
  have hnf : a.eval x = v.nf.abs ρ := by rw [abs_nf, e1]
  have hnb : v.nf.bd st.s.length := bd_nf e2
  have fails : ∀ {tt : TypeId} {u : V}, T (Br ok (Wi no (P.info? asserted) fun j => Wi no j.zero fun z => K (.tup [ofVal z, .raw (.bool false)]) st.s) no) → ok = true ∧ ∃ z, (zeroValue asserted).run P w = .ok z w ∧ T (K (.tup [ofVal z, .raw (.bool false)]) st.s) := by
    intro _ _ hf
    cases ok with
    | false => exact (hno hf).elim
    | true =>
      obtain ⟨j, hj, hf⟩ := Wi.out hno hf
      obtain ⟨z, hz, hf⟩ := Wi.out hno hf
      exact ⟨rfl, z, by simp [zeroValue, run_typeInfo hj, hz], hf⟩
  split at hk
  · rename_i want tt u hv'
    obtain ⟨i, hi, hk⟩ := Wi.out hno hk
    rw [← hasAll_ok] at hk
    cases hm' : Instr.missingMethod want i.methods with
    | none =>
      rw [hm'] at hk
      refine Step.val (K := fun v s => T (K v s)) (s := Instr.typeAssert (a.eval x) xType asserted ok) h ?_ (v := if ok then .tup [v, .raw (.bool true)] else v) (by cases ok <;> simp [V.bd, bdL, e2]) hk
      rw [hv'] at hnf
      simp only [V.abs] at hnf
      simp only [Instr.typeAssert, Sem.run_bind, run_underlying hd, Result.andThen_ok, hnf, run_typeInfo hi, hm']
      cases ok <;> simp [V.abs, absL, ← e1, hnf]
    | some m =>
        rw [hm'] at hk
        obtain ⟨rfl, z, hz, hk⟩ := fails (tt := 0) (u := v) (by cases ok <;> first | exact hk | exact (hno hk).elim)
        refine Step.val (K := fun v s => T (K v s)) (s := Instr.typeAssert (a.eval x) xType asserted true) h ?_ (v := .tup [ofVal z, .raw (.bool false)]) (by simp [V.bd, bdL, bd_ofVal]) hk
        rw [hv'] at hnf
        simp only [V.abs] at hnf
        simp only [Instr.typeAssert, Sem.run_bind, run_underlying hd, Result.andThen_ok, hnf, run_typeInfo hi, hm']
        simp [hz, V.abs, absL, abs_ofVal]
  · exact (hno hk).elim
  · rename_i d tt u hni hv'
    rw [hv'] at hnf hnb
    simp only [V.abs] at hnf
    have hrun : (Instr.typeAssert (a.eval x) xType asserted ok).run P w = ((if tt = asserted then pure (if ok then .tuple #[u.abs ρ, .bool true] else u.abs ρ) else (if ok then do pure (.tuple #[← zeroValue asserted, .bool false]) else runtimePanic (.typeAssertion (some xType) (some tt) asserted "")) : Sem Value)).run P w := by
      simp only [Instr.typeAssert, Sem.run_bind, run_underlying hd, Result.andThen_ok, hnf]
    split at hk
    · rename_i hb
      have hb' : tt = asserted := Nat.eq_of_beq_eq_true hb
      refine Step.val (K := fun v s => T (K v s)) (s := Instr.typeAssert (a.eval x) xType asserted ok) h ?_ (v := if ok then .tup [u, .raw (.bool true)] else u) (by cases ok <;> simp [V.bd, bdL] <;> exact hnb) hk
      rw [hrun, if_pos hb']
      cases ok <;> simp [V.abs, absL]
    · rename_i hb
      obtain ⟨rfl, z, hz, hk⟩ := fails (tt := 0) (u := v) (by cases ok <;> first | exact hk | exact (hno hk).elim)
      refine Step.val (K := fun v s => T (K v s)) (s := Instr.typeAssert (a.eval x) xType asserted true) h ?_ (v := .tup [ofVal z, .raw (.bool false)]) (by simp [V.bd, bdL, bd_ofVal]) hk
      rw [hrun, if_neg (fun e => by subst e; simp at hb)]
      simp [hz, V.abs, absL, abs_ofVal]
  · exact (hno hk).elim
theorem vo_extract {dst : Option Tmp} {type : TypeId} {pos : String} {after : Array Edge} {guard : Option (Nat × Bool)} {K : Kt R} {t : Operand} {ix : Nat} (h : Sim Δ ρ st a w) (hk : T (valOp no P (.extract t ix) st K)) :
    Step true P st ρ w (execOp a.eval ⟨dst, .extract t ix, type, pos, after, guard⟩) (fun v s => T (K v s)) := by
  simp only [valOp, valOpT] at hk
  obtain ⟨v, hv, hk⟩ := Wi.out hno hk
  obtain ⟨e1, e2⟩ := h.eval hv
  split at hk
  · obtain ⟨u, hu, hk⟩ := Wi.out hno hk
    refine Step.val (K := fun v s => T (K v s)) (s := Instr.extract (a.eval t) ix) h ?_ (bdL_get e2 hu) hk
    rw [e1]
    exact extractOp hu
  · exact (hno hk).elim
theorem vo_makeMap {dst : Option Tmp} {type : TypeId} {pos : String} {after : Array Edge} {guard : Option (Nat × Bool)} {K : Kt R} {t : TypeId} {r : Option Operand} (h : Sim Δ ρ st a w) (hk : T (valOp no P (.makeMap t r) st K)) :
    Step false P st ρ w (execOp a.eval ⟨dst, .makeMap t r, type, pos, after, guard⟩) (fun v s => T (K v s)) := by
  simp only [valOp, valOpT] at hk
  cases r with
  | none =>
    refine map_alloc (K := fun v s => T (K v s)) (s := Instr.makeMap t (Option.map a.eval none)) h ?_ hk
    simp [Instr.makeMap]
  | some r =>
    simp only [valOp, valOpT] at hk
    split at hk
    · rename_i k e ht
      obtain ⟨v, hv, hk⟩ := Wi.out hno hk
      obtain ⟨e1, e2⟩ := h.eval hv
      split at hk
      · refine map_alloc (K := fun v s => T (K v s)) (s := Instr.makeMap t (Option.map a.eval (some r))) h ?_ hk
        simp [Instr.makeMap, run_underlying ht, e1, V.abs, asInt, asIntOf]
      · exact (hno hk).elim
    · exact (hno hk).elim
omit hno in
theorem vEntries_out {s : Sto} {m : V} {es : List (V × V × Nat)} (h : vEntries s m = some es) : (m = .raw (.map none) ∧ es = []) ∨ ∃ i c, m = .mp i ∧ s[i]? = some (.map es c) := by
  unfold vEntries at h
  split at h
  · cases h; exact .inl ⟨rfl, rfl⟩
  · split at h
    · rename_i hi
      cases h
      exact .inr ⟨_, _, rfl, hi⟩
    · cases h
  · cases h
theorem vo_lookup {dst : Option Tmp} {type : TypeId} {pos : String} {after : Array Edge} {guard : Option (Nat × Bool)} {K : Kt R} {t : TypeId} {x ix : Operand} {ok : Bool} (h : Sim Δ ρ st a w) (hk : T (valOp no P (.lookup t x ix ok) st K)) :
    Step true P st ρ w (execOp a.eval ⟨dst, .lookup t x ix ok, type, pos, after, guard⟩) (fun v s => T (K v s)) := by
  simp only [valOp, valOpT] at hk
  split at hk
  · rename_i kt el ht
    obtain ⟨m, hm, hk⟩ := Wi.out hno hk
    obtain ⟨k, hkk, hk⟩ := Wi.out hno hk
    obtain ⟨es, hes, hk⟩ := Wi.out hno hk
    obtain ⟨d, hd, hk⟩ := Wi.out hno hk
    obtain ⟨e1, e2⟩ := h.eval hm
    obtain ⟨f1, f2⟩ := h.eval hkk
    split at hk
    · rename_i hc
      obtain ⟨r, r1, r2⟩ := findKey_sound (ρ := ρ) (w := w) hno hd hk
      have hck : ∀ em, (Instr.checkKey em 10000 kt (k.abs ρ)).run P w = .ok () w := fun em => check_sound em 10 kt k hc 9990
      have hbd : ∀ (j : Nat) (e : V × V × Nat), es[j]? = some e → e.2.1.bd st.s.length := by
        intro j e hj
        rcases vEntries_out hes with ⟨_, h2⟩ | ⟨i, c, _, hi⟩
        · rw [h2] at hj; simp at hj
        · exact (h.sb _ _ hi e (List.mem_of_getElem? hj)).2
      have hrun : (Instr.lookup t (a.eval x) (a.eval ix) ok).run P w = (do
          let (v, ok') ← match r with
            | some (_, v) => pure (v, true)
            | none => do pure (← zeroValue el, false)
          pure (if ok then .tuple #[v, .bool ok'] else v) : Sem Value).run P w := by
        rcases vEntries_out hes with ⟨h1, h2⟩ | ⟨i, c, h1, hi⟩
        · rw [h1] at e1
          rw [h2] at r1
          simp only [Instr.lookup, Sem.run_bind, run_underlying ht, Result.andThen_ok, e1, f1, V.abs, Sem.run_pure, hck]
          simp only [List.map_nil] at r1
          rw [r1]
          rfl
        · rw [h1] at e1
          have hobj : (getObj (ρ i).1).run P w = .ok (.map (es.map (absE ρ)).toArray c) w := by
            have := h.rep.ent i _ hi
            simp only [RepE] at this
            simp [getObj, Sem.run, this]
          simp only [Instr.lookup, Sem.run_bind, run_underlying ht, Result.andThen_ok, e1, f1, V.abs, hobj, Sem.run_pure, hck]
          rw [r1]
          rfl
      rcases r2 with ⟨rfl, hk⟩ | ⟨j, e, hj, rfl, hk⟩
      · obtain ⟨inf, hinf, hk⟩ := Wi.out hno hk
        obtain ⟨z, hz, hk⟩ := Wi.out hno hk
        have hzr : (zeroValue el).run P w = .ok z w := by simp [zeroValue, run_typeInfo hinf, hz]
        refine Step.val (K := fun v s => T (K v s)) (s := Instr.lookup t (a.eval x) (a.eval ix) ok) h ?_ (v := if ok then .tup [ofVal z, .raw (.bool false)] else ofVal z) (by cases ok <;> simp [V.bd, bdL, bd_ofVal]) hk
        rw [hrun]
        cases ok <;> simp [hzr, V.abs, absL, abs_ofVal]
      · refine Step.val (K := fun v s => T (K v s)) (s := Instr.lookup t (a.eval x) (a.eval ix) ok) h ?_ (v := if ok then .tup [e.2.1, .raw (.bool true)] else e.2.1) (by cases ok <;> simp [V.bd, bdL] <;> exact hbd j e hj) hk
        rw [hrun]
        cases ok <;> simp [V.abs, absL]
    · exact (hno hk).elim
  · exact (hno hk).elim
omit hno in
theorem run_setObj' {r : Nat} {o o' : Obj} (h : w.heap[r]? = some o) (hm : ∀ c e f, o ≠ .cells c e f) : ∃ w', (setObj r o').run P w = .ok () w' ∧ w'.heap[r]? = some o' ∧ w'.heap.size = w.heap.size ∧ w'.os = w.os ∧ w'.tape = w.tape ∧ w'.output = w.output ∧ ∀ b, b ≠ r → w'.heap[b]? = w.heap[b]? := by
  have hlt := (Array.getElem?_eq_some_iff.1 h).1
  refine ⟨{ w with heap := w.heap.setIfInBounds r o' }, ?_, ?_, ?_, rfl, rfl, rfl, fun b hb => ?_⟩
  · simp only [setObj, Sem.run, h]
  · simp [hlt]
  · simp
  · simp [Array.getElem?_setIfInBounds, Ne.symm hb]
theorem mapUpdate_run {K : Kt R} {t : TypeId} {m k x : Operand} (h : Sim Δ ρ st a w) (hk : T (valOp no P (.mapUpdate t m k x) st K)) :
    ∃ s' w', (Instr.mapUpdate t (a.eval m) (a.eval k) (a.eval x)).run P w = .ok () w' ∧ T (K (.raw undef) s') ∧ Rep ρ s' w' ∧ Ext st.s ρ w s' ρ w' ∧ sbd s' := by
  simp only [valOp, valOpT] at hk
  split at hk
  · rename_i kt el ht
    obtain ⟨mv, hm, hk⟩ := Wi.out hno hk
    obtain ⟨kv, hkk, hk⟩ := Wi.out hno hk
    obtain ⟨xv, hx, hk⟩ := Wi.out hno hk
    obtain ⟨d, hd, hk⟩ := Wi.out hno hk
    obtain ⟨e1, e2⟩ := h.eval hm
    obtain ⟨f1, f2⟩ := h.eval hkk
    obtain ⟨g1, g2⟩ := h.eval hx
    cases mv with
    | mp i =>
      simp only at hk
      split at hk
      · rename_i es c hi
        split at hk
        · rename_i hc
          obtain ⟨r, r1, r2⟩ := findKey_sound (ρ := ρ) (w := w) hno hd hk
          have hck : ∀ em, (Instr.checkKey em 10000 kt (kv.abs ρ)).run P w = .ok () w := fun em => check_sound em 10 kt kv hc 9990
          have hheap : w.heap[(ρ i).1]? = some (.map (es.map (absE ρ)).toArray c) := h.rep.ent i _ hi
          have hbd := h.sb _ _ hi
          have hobj : (getObj (ρ i).1).run P w = .ok (.map (es.map (absE ρ)).toArray c) w := by simp [getObj, Sem.run, hheap]
          rcases r2 with ⟨rfl, hk⟩ | ⟨j, e, hj, rfl, hk⟩
          · obtain ⟨w', s1, s2, s3, s4, s5, s6, s7⟩ := run_setObj' (P := P) (o' := .map ((es ++ [(kv, xv, c)]).map (absE ρ)).toArray (c + 1)) hheap (fun _ _ _ hh => by cases hh)
            obtain ⟨q1, q2, q3⟩ := Rep.change (e' := .map (es ++ [(kv, xv, c)]) (c + 1)) h.rep h.sb hi rfl rfl (fun y hy => by
              rcases List.mem_append.1 hy with hy | hy
              · exact hbd y hy
              · simp at hy; subst hy; exact ⟨f2, g2⟩) s2 s3 s4 s5 s6 s7
            refine ⟨_, w', ?_, hk, q1, q2, q3⟩
            have hpush : (es.map (absE ρ)).toArray.push { key := kv.abs ρ, val := xv.abs ρ, born := c } = ((es ++ [(kv, xv, c)]).map (absE ρ)).toArray := by simp [absE]
            simp only [Instr.mapUpdate, Sem.run_bind, run_underlying ht, Result.andThen_ok, e1, f1, g1, V.abs, hobj, hck, r1, hpush]
            exact s1
          · split at hk
            · rename_i hbits
              obtain ⟨w', s1, s2, s3, s4, s5, s6, s7⟩ := run_setObj' (P := P) (o' := .map ((es.set j (kv, xv, e.2.2)).map (absE ρ)).toArray c) hheap (fun _ _ _ hh => by cases hh)
              obtain ⟨q1, q2, q3⟩ := Rep.change (e' := .map (es.set j (kv, xv, e.2.2)) c) h.rep h.sb hi rfl rfl (fun y hy => by
                rcases List.mem_or_eq_of_mem_set hy with hy | rfl
                · exact hbd y hy
                · exact ⟨f2, g2⟩) s2 s3 s4 s5 s6 s7
              refine ⟨_, w', ?_, hk, q1, q2, q3⟩
              have hkey : (((es.map (absE ρ)).toArray[j]?).map (·.key)).getD (kv.abs ρ) = e.1.abs ρ := by simp [hj, absE]
              have hstay : (Instr.keyThatStays (e.1.abs ρ) (kv.abs ρ)).run P w = .ok (kv.abs ρ) w := by
                simp only [Instr.keyThatStays]
                rw [if_pos (bits_sound hbits 9999)]
                simp
              have hmod : ((es.map (absE ρ)).toArray.modify j fun e => { e with key := kv.abs ρ, val := xv.abs ρ }) = ((es.set j (kv, xv, e.2.2)).map (absE ρ)).toArray := by
                apply Array.ext'
                apply List.ext_getElem?
                intro q
                rw [Array.getElem?_toList, Array.getElem?_modify]
                simp only [List.getElem?_toArray, List.getElem?_map, List.getElem?_set]
                by_cases hq : j = q
                · subst hq
                  have hlt := (List.getElem?_eq_some_iff.1 hj).1
                  have hje : es[j] = e := (List.getElem?_eq_some_iff.1 hj).2
                  simp [hj, hlt, absE, hje]
                · simp [hq]
              simp only [Instr.mapUpdate, Sem.run_bind, run_underlying ht, Result.andThen_ok, e1, f1, g1, V.abs, hobj, hck, r1, hkey, hstay, hmod]
              exact s1
            · exact (hno hk).elim
        · exact (hno hk).elim
      · exact (hno hk).elim
    | _ => exact (hno hk).elim
  · exact (hno hk).elim
theorem vo_mapUpdate {dst : Option Tmp} {type : TypeId} {pos : String} {after : Array Edge} {guard : Option (Nat × Bool)} {K : Kt R} {t : TypeId} {m k x : Operand} (h : Sim Δ ρ st a w) (hk : T (valOp no P (.mapUpdate t m k x) st K)) :
    Step false P st ρ w (execOp a.eval ⟨dst, .mapUpdate t m k x, type, pos, after, guard⟩) (fun v s => T (K v s)) := by
  obtain ⟨s', w', r1, hk, r2, r3, r4⟩ := mapUpdate_run hno h hk
  refine ⟨.skip, .raw undef, s', ρ, w', ?_, .inr ⟨rfl, rfl⟩, hk, r2, r3, r4, trivial, fun h => by cases h⟩
  simp [execOp, r1]
theorem vo_insert {dst : Option Tmp} {type : TypeId} {pos : String} {after : Array Edge} {guard : Option (Nat × Bool)} {K : Kt R} {t : TypeId} {m k x : Operand} (h : Sim Δ ρ st a w) (hk : T (valOp no P (.insert t m k x) st K)) :
    Step false P st ρ w (execOp a.eval ⟨dst, .insert t m k x, type, pos, after, guard⟩) (fun v s => T (K v s)) := by
  obtain ⟨s', w', r1, hk, r2, r3, r4⟩ := mapUpdate_run hno (t := t) (m := m) (k := k) (x := x) h hk
  refine ⟨.skip, .raw undef, s', ρ, w', ?_, .inr ⟨rfl, rfl⟩, hk, r2, r3, r4, trivial, fun h => by cases h⟩
  simp [execOp, r1]
theorem valOp_sound {o : Oper} {K : Kt R} (h : Sim Δ ρ st a w) (hk : T (valOp no P o.op st K)) : Step (stillOp o.op) P st ρ w (execOp a.eval o) (fun v s => T (K v s)) := by
  obtain ⟨dst, op, type, pos, after, guard⟩ := o
  simp only at hk
  cases op with
  | move => exact vo_move hno h hk
  | assign => exact vo_assign hno h hk
  | pick => exact vo_pick hno h hk
  | alloc => exact vo_alloc hno h hk
  | box => exact vo_box hno h hk
  | build => exact vo_build hno h hk
  | buildSlice => exact vo_buildSlice hno h hk
  | load => exact vo_load hno h hk
  | store => exact vo_store hno h hk
  | nilCheck => exact vo_nilCheck hno h hk
  | binOp => exact vo_binOp hno h hk
  | unOp => exact vo_unOp hno h hk
  | convert => exact vo_convert hno h hk
  | makeInterface => exact vo_makeInterface hno h hk
  | makeFunc => exact vo_makeFunc hno h hk
  | makeSlice => exact vo_makeSlice hno h hk
  | slice => exact vo_slice hno h hk
  | fieldAddr => exact vo_fieldAddr hno h hk
  | field => exact vo_field hno h hk
  | indexAddr => exact vo_indexAddr hno h hk
  | index => exact vo_index hno h hk
  | typeAssert => exact vo_typeAssert hno h hk
  | extract => exact vo_extract hno h hk
  | makeMap => exact vo_makeMap hno h hk
  | lookup => exact vo_lookup hno h hk
  | mapUpdate => exact vo_mapUpdate hno h hk
  | insert => exact vo_insert hno h hk
  | _ => exact (hno hk).elim
end
end Go.Proofs.YtalgegmcllcnmaaRL
