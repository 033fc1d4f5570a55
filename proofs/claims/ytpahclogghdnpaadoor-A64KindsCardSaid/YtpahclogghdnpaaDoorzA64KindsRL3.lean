/- RL, third text: the operations of a region but calls. -/
import Derived.Test.YtpahclogghdnpaaDoorzA64KindsRL2
import Derived.Laws.StructEq
namespace Go.Proofs.YtpahclogghdnpaaDoorRL
open Go
set_option linter.unusedVariables false
set_option linter.unusedSimpArgs false
variable {Δ : List Deferred}
abbrev Kt (R : Type) := V → Sto → R
/-- An operation comes to a value and a store of which K holds; one that is still (q) leaves the world alone. -/
def Step (q : Bool) (P : Program) (st : St) (ρ : Rho) (w : World) (s : Sem Next) (K : Kt Prop) : Prop :=
  ∃ n v s' ρ' w', s.run P w = .ok n w' ∧ (n = .value (v.abs ρ') ∨ (n = .skip ∧ v = .raw undef)) ∧ K v s' ∧ Rep ρ' s' w' ∧ Ext st.s ρ w s' ρ' w' ∧ sbd s' ∧ v.bd s'.length ∧ (q = true → w' = w ∧ ρ' = ρ ∧ s' = st.s ∧ n = .value (v.abs ρ'))
theorem Step.val {q : Bool} {P : Program} {st : St} {ρ : Rho} {a : Act} {w : World} {s : Sem Value} {K : Kt Prop} {v : V} (h : Sim Δ ρ st a w) (hr : s.run P w = .ok (v.abs ρ) w) (hb : v.bd st.s.length) (hk : K v st.s) :
    Step q P st ρ w (do pure (Next.value (← s))) K :=
  ⟨.value (v.abs ρ), v, st.s, ρ, w, by simp [hr], .inl rfl, hk, h.rep, Ext.refl _ _ _, h.sb, hb, fun _ => ⟨rfl, rfl, rfl, rfl⟩⟩
theorem Step.alloc {P : Program} {st : St} {ρ : Rho} {a : Act} {w : World} {s : Sem Value} {K : Kt Prop} {v : V} {cs : List V} {elem : TypeId} (h : Sim Δ ρ st a w) (hb : bdL st.s.length cs)
    (hv : v.bd (st.s.length + 1)) (hr : s.run P w = .ok (v.abs (ρ.push st.s.length w.heap.size)) (w.alloc (.cells (absL ρ cs).toArray elem))) (hk : K v (st.s ++ [.own cs elem])) :
    Step false P st ρ w (do pure (Next.value (← s))) K := by
  have hρ : ∀ j, j < st.s.length → (ρ.push st.s.length w.heap.size) j = ρ j := fun j hj => Rho.push_lt hj
  obtain ⟨r1, r2, r3⟩ := Rep.alloc (e := .own cs elem) (o := .cells (absL ρ cs).toArray elem) h.rep h.sb rfl hb (by
    refine ⟨?_, by rw [Rho.push_at]⟩
    rw [absL_congr hρ cs hb, Rho.push_at]
    show (w.heap.push _)[w.heap.size]? = _
    simp)
  exact ⟨_, v, _, _, _, by simp only [Sem.run_bind, hr, Result.andThen_ok, Sem.run_pure], .inl rfl, hk, r1, r2, r3, by simpa using hv, fun h => by cases h⟩
def bop (op : BinOp) (k : IntKind) (a b : Int) : Option Value :=
  match op with
  | .add => some (.int k (k.wrap (a + b)))
  | .sub => some (.int k (k.wrap (a - b)))
  | .mul => some (.int k (k.wrap (a * b)))
  | .and => some (.int k (Go.bits .and k a b))
  | .or => some (.int k (Go.bits .or k a b))
  | .xor => some (.int k (Go.bits .xor k a b))
  | .andNot => some (.int k (Go.bits .andNot k a b))
  | .eql => some (.bool (a == b))
  | .neq => some (.bool (a != b))
  | .lss => some (.bool (decide (a < b)))
  | .leq => some (.bool (decide (a ≤ b)))
  | .gtr => some (.bool (decide (a > b)))
  | .geq => some (.bool (decide (a ≥ b)))
  | _ => none
def kindEq : IntKind → IntKind → Bool
  | .i8, .i8 | .i16, .i16 | .i32, .i32 | .i64, .i64 | .u8, .u8 | .u16, .u16 | .u32, .u32 | .u64, .u64 => true
  | _, _ => false
theorem kindEq_eq {a b : IntKind} (h : kindEq a b = true) : a = b := by cases a <;> cases b <;> first | rfl | cases h
/-- Are two values of a type equal? -/
def vEqF (eq : TypeId → V → V → Option Bool) (P : Program) (xs ys : List V) : List Field → Option Bool
  | [] => some true
  | f :: fs =>
    match f.name == "_" with
    | true => vEqF eq P xs ys fs
    | false => match vPart P f.type xs f.offset, vPart P f.type ys f.offset with
      | some a, some b => match eq f.type a b, vEqF eq P xs ys fs with
        | some p, some q => some (p && q)
        | _, _ => none
      | _, _ => none
def vEqA (eq : TypeId → V → V → Option Bool) (P : Program) (e : TypeId) (n : Nat) (xs ys : List V) : Nat → Nat → Option Bool
  | 0, _ => some true
  | k + 1, i => match vPart P e xs (i * n), vPart P e ys (i * n) with
    | some a, some b => match eq e a b, vEqA eq P e n xs ys k (i + 1) with
      | some p, some q => some (p && q)
      | _, _ => none
    | _, _ => none
def vEq (P : Program) : Nat → TypeId → V → V → Option Bool
  | 0, _, _, _ => none
  | d + 1, t, x, y =>
    match P.underlying t with
    | some .bool => match x, y with
      | .raw (.bool a), .raw (.bool b) => some (a == b)
      | _, _ => none
    | some (.int _) => match x, y with
      | .raw (.int k a), .raw (.int k' b) => match kindEq k k' with
        | true => some (a == b)
        | false => none
      | _, _ => none
    | some .string => match x, y with
      | .raw (.string a), .raw (.string b) => some (a == b)
      | _, _ => none
    | some (.struct fs) => match x, y with
      | .agg xs, .agg ys => match P.stoodInHeld t with
        | true => none
        | false => vEqF (vEq P d) P xs ys fs.toList
      | _, _ => none
    | some (.array len e) => match x, y with
      | .agg xs, .agg ys => match P.info? e with
        | some i => vEqA (vEq P d) P e i.size xs ys len 0
        | none => none
      | _, _ => none
    | some (.pointer _) => match x, y with
      | .ptr _ _, .raw (.pointer none) | .raw (.pointer none), .ptr _ _ => some false
      | .el _ _ _ _, .raw (.pointer none) | .raw (.pointer none), .el _ _ _ _ => some false
      | .raw (.pointer none), .raw (.pointer none) => some true
      | _, _ => none
    | some (.slice _) => match x, y with
      | .sl _ _ _ _, .raw (.slice none _ _) | .raw (.slice none _ _), .sl _ _ _ _ => some false
      | .lst _ _ _ _ _, .raw (.slice none _ _) | .raw (.slice none _ _), .lst _ _ _ _ _ => some false
      | .sle _ _ _ _ _, .raw (.slice none _ _) | .raw (.slice none _ _), .sle _ _ _ _ _ => some false
      | .lse _ _ _ _ _, .raw (.slice none _ _) | .raw (.slice none _ _), .lse _ _ _ _ _ => some false
      | .raw (.slice none _ _), .raw (.slice none _ _) => some true
      | _, _ => none
    | some (.map _ _) => match x, y with
      | .mp _, .raw (.map none) | .raw (.map none), .mp _ => some false
      | .raw (.map none), .raw (.map none) => some true
      | _, _ => none
    | some (.func _ _ _) => match x, y with
      | .fn _ _ _, .raw .nilFunc | .raw .nilFunc, .fn _ _ _ => some false
      | .raw .nilFunc, .raw .nilFunc => some true
      | _, _ => none
    | some (.interface _) => match x, y with
      | .ifc _ _, .raw .nilIface | .raw .nilIface, .ifc _ _ => some false
      | _, _ => none
    | _ => none
def eqBad (P : Program) (t : TypeId) (x y : V) : Bool :=
  match x with
  | .agg _ => match y with
    | .agg _ => P.eqGuardType P.depth t
    | _ => false
  | _ => false
/-- Two operands, an operator. -/
def vBin {R : Type} (no : R) (P : Program) (op : BinOp) (t : TypeId) (x y : V) (K : V → R) : R :=
  match x, y with
  | .raw (.int k a), .raw (.int k' b) =>
    match op with
    | .shl => Br (decide (0 ≤ b)) (K (.raw (.int k (k.wrap (a * 2 ^ (min b.toNat k.bits)))))) no
    | .shr => Br (decide (0 ≤ b)) (K (.raw (.int k (a.fdiv (2 ^ (min b.toNat k.bits)))))) no
    | .quo => match kindEq k k' with
      | true => Br (b != 0) (K (.raw (.int k (k.wrap (a.tdiv b))))) no
      | false => no
    | .rem => match kindEq k k' with
      | true => Br (b != 0) (K (.raw (.int k (a.tmod b)))) no
      | false => no
    | _ => match kindEq k k' with
      | true => Wi no (bop op k a b) fun v => K (.raw v)
      | false => no
  | .md k m ((r, d) :: l), .raw (.int k' b) => match kindEq k k' with
    | true => match op with
     | .lss => match decide (b = 0) with
       | true => K (.raw (.bool false))
       | false => no
     | op => match decide (b = (d : Int)) && Nat.blt r d with
      | true => match op with
        | .quo => Br (decide (k.wrap ((mdVal m l : Nat) : Int) = ((mdVal m l : Nat) : Int))) (K (.md k m l)) no
        | .rem => K (.raw (.int k (r : Int)))
        | _ => no
      | false => no
    | false => no
  | .raw (.string a), .raw (.string b) =>
    match op with
    | .eql => K (.raw (.bool (a == b)))
    | .neq => K (.raw (.bool (!(a == b))))
    | _ => no
  | x, y =>
    match op with
    | .eql => Br (eqBad P t x y) no (Wi no (vEq P 10000 t x y) fun b => K (.raw (.bool b)))
    | .neq => Br (eqBad P t x y) no (Wi no (vEq P 10000 t x y) fun b => K (.raw (.bool (!b))))
    | _ => no
section
variable {P : Program} {ρ : Rho} {w : World}
theorem bop_sound {op : BinOp} {t : TypeId} {k : IntKind} {a b : Int} {v : Value} (h : bop op k a b = some v) : binOp op t (.int k a) (.int k b) = pure v := by
  unfold bop at h
  split at h <;> first
    | (simp only [Option.some.injEq] at h; subst h; simp [binOp, Op.intArith, Op.intCmp, Op.intBits, Go.bits]; done)
    | cases h
theorem eqFs_sound {d : Nat} {eq : TypeId → V → V → Option Bool} (ih : ∀ t x y b, eq t x y = some b → ∀ w, (Op.equalIn d t (x.abs ρ) (y.abs ρ)).run P w = .ok b w) (xs ys : List V) :
    ∀ (fs : List Field) (b : Bool) (w : World), vEqF eq P xs ys fs = some b → (Op.eqFields d (absL ρ xs).toArray (absL ρ ys).toArray fs).run P w = .ok b w := by
  intro fs
  induction fs with
  | nil => intro b w h; simp only [vEqF, Option.some.injEq] at h; subst h; simp [Op.eqFields]
  | cons f fs ihf =>
    intro b w h
    simp only [vEqF] at h
    split at h
    · rename_i hn
      have hn' : f.name = "_" := by simpa using hn
      simp only [Op.eqFields, hn', ne_eq, not_true_eq_false, if_false]
      exact ihf b w h
    · rename_i hn
      have hn' : f.name ≠ "_" := by simpa using hn
      split at h
      · rename_i p q hp hq
        split at h
        · rename_i r1 r2 h1 h2
          simp only [Option.some.injEq] at h
          subst h
          simp only [Op.eqFields, ne_eq, hn', not_false_eq_true, if_true, Sem.run_bind, run_part hp, run_part hq, Result.andThen_ok, ih _ _ _ _ h1]
          cases r1 with
          | false => simp
          | true => simpa using ihf r2 w h2
        · cases h
      · cases h
theorem eqAs_sound {d : Nat} {eq : TypeId → V → V → Option Bool} (ih : ∀ t x y b, eq t x y = some b → ∀ w, (Op.equalIn d t (x.abs ρ) (y.abs ρ)).run P w = .ok b w) (e : TypeId) (n : Nat) (xs ys : List V) (he : (sizeOf e).run P w = .ok n w) :
    ∀ (k i : Nat) (b : Bool) , vEqA eq P e n xs ys k i = some b →
      (((forIn (List.range' i k) ((none, ()) : Option Bool × Unit) fun i r => do
          let a ← part e (absL ρ xs).toArray (i * n)
          let b ← part e (absL ρ ys).toArray (i * n)
          let c ← Op.equalIn d e a b
          if (!c) = true then pure (ForInStep.done (some false, ())) else pure (ForInStep.yield (none, ()))) : Sem (Option Bool × Unit)).run P w) = .ok (if b then (none, ()) else (some false, ())) w := by
  intro k
  induction k with
  | zero => intro i b h; simp only [vEqA, Option.some.injEq] at h; subst h; simp
  | succ k ihk =>
    intro i b h
    simp only [vEqA] at h
    split at h
    · rename_i p q hp hq
      split at h
      · rename_i r1 r2 h1 h2
        simp only [Option.some.injEq] at h
        subst h
        simp only [List.range'_succ, List.forIn_cons, Sem.run_bind, run_part hp, run_part hq, Result.andThen_ok, ih _ _ _ _ h1]
        cases r1 with
        | false => simp
        | true => simpa using ihk (i + 1) r2 h2
      · cases h
    · cases h
set_option maxHeartbeats 2000000 in
theorem vEq_sound : ∀ (d : Nat) (t : TypeId) (x y : V) (b : Bool), vEq P d t x y = some b → ∀ w, (Op.equalIn d t (x.abs ρ) (y.abs ρ)).run P w = .ok b w := by
  intro d
  induction d with
  | zero => intro t x y b h; simp [vEq] at h
  | succ d ih =>
    intro t x y b h w
    simp only [vEq] at h
    split at h
    case h_1 ht => 
      split at h
      · simp only [Option.some.injEq] at h; subst h; simp [V.abs, Op.equalIn, run_underlying ht]
      · cases h
    case h_2 ht =>
      split at h
      · split at h
        · rename_i hk
          simp only [Option.some.injEq] at h; subst h; simp [V.abs, Op.equalIn, run_underlying ht, kindEq_eq hk]
        · cases h
      · cases h
    case h_3 ht =>
      split at h
      · simp only [Option.some.injEq] at h; subst h; simp [V.abs, Op.equalIn, run_underlying ht]
      · cases h
    case h_4 fs ht =>
      split at h
      · rename_i xs ys
        split at h
        · cases h
        · rename_i hp
          have hfo : P.fieldsOf t = fs := by simp [Program.fieldsOf, ht]
          have := run_equalIn_struct (P := P) w d t (absL ρ xs).toArray (absL ρ ys).toArray (by rw [hfo]; exact ht) hp
          simp only [V.abs, this, hfo]
          exact eqFs_sound ih xs ys fs.toList b w h
      · cases h
    case h_5 len e ht =>
      split at h
      · rename_i xs ys
        split at h
        · rename_i inf hinf
          have := eqAs_sound (w := w) ih e inf.size xs ys (run_sizeOf hinf) len 0 b h
          simp only [V.abs, Op.equalIn, Sem.run_bind, run_underlying ht, Result.andThen_ok, run_sizeOf hinf]
          simp only [Std.Legacy.Range.forIn_eq_forIn_range', Std.Legacy.Range.size, Nat.sub_zero, Nat.add_sub_cancel, Nat.div_one]
          rw [this]
          cases b <;> simp
        · cases h
      · cases h
    case h_6 ht => 
      split at h <;> first | (simp only [Option.some.injEq] at h; subst h; simp [V.abs, Op.equalIn, run_underlying ht]; done) | cases h
    case h_7 ht => 
      split at h <;> first | (simp only [Option.some.injEq] at h; subst h; simp [V.abs, Op.equalIn, run_underlying ht]; done) | cases h
    case h_8 ht => 
      split at h <;> first | (simp only [Option.some.injEq] at h; subst h; simp [V.abs, Op.equalIn, run_underlying ht]; done) | cases h
    case h_9 ht => 
      split at h <;> first | (simp only [Option.some.injEq] at h; subst h; simp [V.abs, Op.equalIn, run_underlying ht]; done) | cases h
    case h_10 ht => 
      split at h <;> first | (simp only [Option.some.injEq] at h; subst h; simp [V.abs, Op.equalIn, run_underlying ht]; done) | cases h
    case h_11 => cases h
end
end Go.Proofs.YtpahclogghdnpaaDoorRL
