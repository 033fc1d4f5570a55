/- RL, seventh text: calls, and code. -/
import Derived.Test.YtpahclogghdnpaaDoorzA64KindsRLV
namespace Go.Proofs.YtpahclogghdnpaaDoorRL
open Go
set_option linter.unusedVariables false
set_option linter.unusedSimpArgs false
variable {Δ : List Deferred}
/-- How a call ends. -/
inductive Res where
  | ret (v : V)
  | pan (v : V)
def Res.val : Res → V
  | .ret v | .pan v => v
def Res.ending (ρ : Rho) : Res → Ending
  | .ret v => .returned (v.abs ρ)
  | .pan v => .panicked [{ v := v.abs ρ, recovered := false }]
/-- A call, from a store on: it comes to an end of which K holds. -/
structure CallOk (P : Program) (f : FuncId) (args : List V) (s : Sto) (K : Res → Sto → Prop) : Prop where
  plain : ∀ (xs : Array Value) (w : World), (callFunc f xs).run P w = .ok (.enter f xs) w
  run : ∀ (ρ : Rho) (w : World), Rep ρ s w → sbd s → bdL s.length args → Calls P f (absL ρ args).toArray w fun e w' =>
    ∃ r s' ρ', e = Res.ending ρ' r ∧ K r s' ∧ Rep ρ' s' w' ∧ Ext s ρ w s' ρ' w' ∧ sbd s' ∧ r.val.bd s'.length
theorem CallOk.mono {P : Program} {f : FuncId} {args : List V} {s : Sto} {K K' : Res → Sto → Prop} (h : CallOk P f args s K) (hk : ∀ r s, K r s → K' r s) : CallOk P f args s K' :=
  ⟨h.plain, fun ρ w h1 h2 h3 => (h.run ρ w h1 h2 h3).mono fun e w' ⟨r, s', ρ', e1, e2, e3⟩ => ⟨r, s', ρ', e1, hk _ _ e2, e3⟩⟩
/-- The fence that lets everything in, at a round of loop r or at none. -/
def Fr (r : Option Nat) : Fence := { fn := fun _ => True, depth := none, alive := false, round := r }
theorem fr_fenced (P : Program) (r : Option Nat) (m : Machine) : Machine.fenced P (Fr r) m := fenced_wide P m
theorem fr_room (r : Option Nat) (n : Nat) : (Fr r).room n := fun _ h => by cases h
theorem callsIn_fr {r : Option Nat} {n : Nat} {P : Program} {f : FuncId} {args : Array Value} {w : World} {R : Ending → World → Prop} : CallsIn (Fr r) n P f args w R ↔ Calls P f args w R := callsIn_wide
theorem rowsIn_fr {r : Option Nat} {n : Nat} {P : Program} {row : String} {args : Array Value} {w : World} {R : Value → World → Prop} (h : Rows P row args w R) : RowsIn (Fr r) n P row args w R :=
  fun c cs _ => let ⟨v, w', r1, s⟩ := h c cs; ⟨v, w', r1, stepsIn_wide.2 s⟩
/-- A round of the loop whose record is i's. -/
def YldOk (P : Program) (i : Nat) (args : List V) (s : Sto) (K : Res → Sto → Prop) : Prop := ∀ (ρ : Rho) (w : World), Rep ρ s w → sbd s → bdL s.length args →
  ∃ rc : Loop, w.heap[(ρ i).1]? = some (.loop rc) ∧ args.length = rc.params.size ∧ RoundIn (Fr none) 0 P (ρ i).1 rc.fn ((rc.params.zip (absL ρ args).toArray).foldl (fun tmps x => tmps.setIfInBounds x.1 x.2) rc.tmps) rc.assign rc.body w fun e w' =>
    ∃ r s' ρ', e = Res.ending ρ' r ∧ K r s' ∧ Rep ρ' s' w' ∧ Ext s ρ w s' ρ' w' ∧ sbd s' ∧ r.val.bd s'.length
/-- A call of a function, or (behind their number) of the yield of a loop. -/
structure TgOk (P : Program) (f : FuncId) (args : List V) (s : Sto) (K : Res → Sto → Prop) : Prop where
  call : f < P.funcs.size → CallOk P f args s K
  round : P.funcs.size < f → YldOk P (f - P.funcs.size - 1) args s K
theorem CallOk.lt {P : Program} {f : FuncId} {args : List V} {s : Sto} {K : Res → Sto → Prop} (h : CallOk P f args s K) : f < P.funcs.size := by
  have := h.plain #[] default
  rcases Nat.lt_or_ge f P.funcs.size with hlt | hge
  · exact hlt
  · simp [callFunc, Sem.run_bind, run_program, Array.getElem?_eq_none hge] at this
theorem CallOk.tg {P : Program} {f : FuncId} {args : List V} {s : Sto} {K : Res → Sto → Prop} (h : CallOk P f args s K) : TgOk P f args s K := ⟨fun _ => h, fun hf => absurd hf (Nat.lt_asymm h.lt)⟩
/-- The row of a method for a type. -/
def vMethod (P : Program) (t : TypeId) (v : V) (name : String) : Option (FuncId × V) :=
  match P.info? t with
  | some i => match i.methods.find? (·.name == name) with
    | some m => match m.path.isEmpty, m.func with
      | true, some (f, pr) => match P.underlying t with
        | some (.pointer _) => match pr with
          | true => some (f, v)
          | false => none
        | some _ => match pr with
          | true => none
          | false => some (f, v)
        | none => none
      | _, _ => none
    | none => none
  | none => none
def vMax (op : Bool) (x y : V) : Option V :=
  match x, y with
  | .raw (.int k x), .raw (.int _ y) => match op with
    | true => some (.raw (.int k (if y > x then y else x)))
    | false => some (.raw (.int k (if y < x then y else x)))
  | _, _ => none
def vBuiltin {R : Type} (no : R) (P : Program) (b : Builtin) (ts : List TypeId) (args : List V) (s : Sto) (K : Kt R) : R :=
  match b, ts, args with
  | .len, t :: _, x :: _ => Wi no (P.underlying t) fun d => match d, x with
    | .string, .raw (.string y) => K (.raw (.int .i64 y.size)) s
    | .array n _, _ => K (.raw (.int .i64 n)) s
    | .slice _, .sl _ _ n _ => K (.raw (.int .i64 n)) s
    | .slice _, .raw (.slice _ n _) => K (.raw (.int .i64 n)) s
    | .slice _, .lst _ _ _ _ n => K (.raw (.int .i64 n)) s
    | .slice _, .sle _ _ _ n _ => K (.raw (.int .i64 n)) s
    | .slice _, .lse _ _ _ _ n => K (.raw (.int .i64 n)) s
    | .slice _, .lend _ _ _ _ _ _ => K (.raw (.int .i64 0)) s
    | .map _ _, .raw (.map none) => K (.raw (.int .i64 0)) s
    | .map _ _, .mp i => match s[i]? with
      | some (.map es _) => K (.raw (.int .i64 es.length)) s
      | _ => no
    | _, _ => no
  | .cap, t :: _, x :: _ => Wi no (P.underlying t) fun d => match d, x with
    | .slice _, .sl _ _ _ c => K (.raw (.int .i64 c)) s
    | .slice _, .sle _ _ _ _ c => K (.raw (.int .i64 c)) s
    | .slice _, .raw (.slice _ _ c) => K (.raw (.int .i64 c)) s
    | _, _ => no
  | .max, _, [x, y] => Wi no (vMax true x y) fun v => K v s
  | .min, _, [x, y] => Wi no (vMax false x y) fun v => K v s
  | _, _, _ => no
/-- Builtins, those that change something among them. -/
def vBuiltinE {R : Type} (no : R) (P : Program) (b : Builtin) (ts : List TypeId) (args : List V) (s : Sto) (K : Kt R) : R :=
  match b with
  | .append => vAppendE no P ts args s K
  | .clear => vClear no P ts args s K
  | .copy => vCopy no P ts args s K
  | b => vBuiltin no P b ts args s K
def resK {R : Type} (K : Kt R) (Kp : Kt R) : Res → Sto → R
  | .ret v, s => K v s
  | .pan v, s => Kp v s
abbrev Ch (R : Type) := FuncId → List V → Sto → (Res → Sto → R) → R
def callxT {R : Type} (no : R) (P : Program) (C : Ch R) (c : Call) (e : List (Nat × V)) (s : Sto) (K Kp : Kt R) : R :=
  match c.callee with
  | .value f => Wi no (getT e f) fun fv => Wi no (getTL e c.args.toList) fun args => match fv.nf with
    | .fn (.func g) first cap => match Nat.blt g P.funcs.size with
      | true => C g (first ++ args ++ cap) s (resK K Kp)
      | false => no
    | .yld i => C (P.funcs.size + 1 + i) args s (resK K Kp)
    | _ => no
  | .invoke recv name => Wi no (getT e recv) fun r => Wi no (getTL e c.args.toList) fun args => match r.nf with
    | .ifc t v => Wi no (vMethod P t v name) fun m => match Nat.blt m.1 P.funcs.size with
      | true => C m.1 (m.2 :: args) s (resK K Kp)
      | false => no
    | _ => no
  | .builtin b => Wi no (getTL e c.args.toList) fun args => vBuiltinE no P b c.argTypes.toList args s K
def callx {R : Type} (no : R) (P : Program) (C : Ch R) (c : Call) (st : St) (K Kp : Kt R) : R := callxT no P C c st.t st.s K Kp
def opxT {R : Type} (no : R) (P : Program) (C : Ch R) (op : Op) (e : List (Nat × V)) (s : Sto) (K Kp : Kt R) : R :=
  match op with
  | .call c => callxT no P C c e s K Kp
  | .panic x => Wi no (getT e x) fun v => match v.nf with
    | .ifc t u => Kp (.ifc t u) s
    | _ => no
  | op => valOpT no P op e s K
def opx {R : Type} (no : R) (P : Program) (C : Ch R) (op : Op) (st : St) (K Kp : Kt R) : R := opxT no P C op st.t st.s K Kp
/-- Is an operation wanted, by its guard? -/
def vWantedT {R : Type} (no : R) (ops : List Oper) (o : Oper) (e : List (Nat × V)) (A B : List (Nat × V) → R) : R :=
  match o.guard with
  | none => A e
  | some (j, want) => match ops[j]? with
    | some oj => match oj.dst with
      | some t => Wi no (find e t) fun v => match v with
        | .raw (.bool b) => match want with
          | true => Br b (A ((t, .raw (.bool true)) :: e)) (B ((t, .raw (.bool false)) :: e))
          | false => Br b (B ((t, .raw (.bool true)) :: e)) (A ((t, .raw (.bool false)) :: e))
        | .raw (.tuple _) => B e
        | _ => no
      | none => B e
    | none => B e
inductive Ex where
  | normal
  | exit (id : Nat)
  | goto (l : Nat)
  | ret
  | panic (v : V)
def fl {R : Type} {α : Type} (l : List α) (K : List α → R) : R :=
  match l with
  | [] => K []
  | a :: l => K (a :: l)
theorem fl_eq {R : Type} {α : Type} (l : List α) (K : List α → R) : fl l K = K l := by cases l <;> rfl
def evOpsT {R : Type} (no : R) (P : Program) (C : Ch R) (ops : List Oper) (K : Ex → St → R) (n : Nat) : List Oper → List (Nat × V) → Sto → R 
  | [], e, s => K .normal ⟨n, e, s⟩
  | o :: os, e, s => vWantedT no ops o e
      (fun e => opxT no P C o.op e s (fun v s => fl (putT n e o.dst v) fun e => evOpsT no P C ops K n os e s) (fun v s => K (.panic v) ⟨n, e, s⟩))
      (fun e => fl (putT n e o.dst (.raw undef)) fun e => evOpsT no P C ops K n os e s)
def evOps {R : Type} (no : R) (P : Program) (C : Ch R) (ops : List Oper) (K : Ex → St → R) (os : List Oper) (st : St) : R := evOpsT no P C ops K st.n os st.t st.s
def Ex.rel (ρ : Rho) (n : Nat) : Ex → Exit → Prop
  | .normal, .normal => True
  | .exit i, .exit j => i = j
  | .goto i, .goto j => i = j
  | .ret, .ret => True
  | .panic v, .panic c => c = [{ v := v.abs ρ, recovered := false }] ∧ v.bd n
  | _, _ => False
/-- An operation that defers nothing does the same in a round. -/
theorem wpIn_fr {r : Option Nat} {P : Program} {o : Oper} {a : Act} {w : World} {K : Act → World → Prop} {X : Exit → Act → World → Prop} (hnd : ∀ c, o.op ≠ .defer c) (h : o.wp P a w K X) : o.wpIn (Fr r) 0 P a w K X := by
  unfold Oper.wp at h
  refine ⟨fun _ _ => trivial, ?_⟩
  rw [Oper.semAt_eq _ _ _ hnd]
  generalize (execOp a.eval o).run P w = x at h
  cases x with
  | ok n w' =>
    cases n <;> simp only [Oper.upon, Oper.uponIn] at h ⊢ <;>
      first
        | exact h
        | exact ⟨fun hh => (by cases hh), callsIn_fr.2 (h.mono fun e w'' he => by cases e <;> exact he)⟩
        | exact ⟨fun hh => (by cases hh), rowsIn_fr h⟩
  | halt x w' => cases x <;> simp only [Oper.upon, Oper.uponIn] at h ⊢ <;> exact h
/-- The mark of a block for deferred calls. -/
def markD (b : Nat) : Deferred := { target := .collected b, args := #[] }
/-- What else a frame has: blocks for the deferred calls of rounds, none of them the store's; the record of the loop whose round it is in. -/
structure Fo (r : Option Nat) (B : Nat) (Δ : List Deferred) (ρ : Rho) (s : Sto) (w : World) : Prop where
  le : B ≤ w.heap.size
  marks : ∃ ms : List Nat, Δ = ms.map markD ∧ ms.Nodup ∧ ∀ b ∈ ms, B ≤ b ∧ w.heap[b]? = some (.deferred (some [])) ∧ ∀ (i : Nat) (e : Ent), s[i]? = some e → e.isOwn = true → (ρ i).1 ≠ b
  round : ∀ l, r = some l → ∃ rc, w.heap[l]? = some (.loop rc) ∧ ∀ (i : Nat) (e : Ent), s[i]? = some e → e.isOwn = true → (ρ i).1 ≠ l
theorem Ext.away {s s' : Sto} {ρ ρ' : Rho} {w w' : World} (he : Ext s ρ w s' ρ' w') {b : Nat} (hb : b < w.heap.size) (hn : ∀ (i : Nat) (e : Ent), s[i]? = some e → e.isOwn = true → (ρ i).1 ≠ b) : w'.heap[b]? = w.heap[b]? ∧ ∀ (i : Nat) (e : Ent), s'[i]? = some e → e.isOwn = true → (ρ' i).1 ≠ b := by
  refine ⟨he.block b hb hn, fun i e hi ho => ?_⟩
  rcases he.own i e hi ho with ⟨j, e0, h1, h2, h3⟩ | h1
  · rw [← h3]; exact hn j e0 h1 h2
  · omega
theorem Fo.ext {r : Option Nat} {B : Nat} {ρ ρ' : Rho} {s s' : Sto} {w w' : World} (h : Fo r B Δ ρ s w) (he : Ext s ρ w s' ρ' w') : Fo r B Δ ρ' s' w' := by
  refine ⟨Nat.le_trans h.le he.size, ?_, fun l hl => ?_⟩
  · obtain ⟨ms, h1, h2, h3⟩ := h.marks
    refine ⟨ms, h1, h2, fun b hb => ?_⟩
    obtain ⟨k1, k2, k3⟩ := h3 b hb
    obtain ⟨e1, e2⟩ := he.away (Array.getElem?_eq_some_iff.1 k2).1 k3
    exact ⟨k1, by rw [e1]; exact k2, e2⟩
  · obtain ⟨rc, k2, k3⟩ := h.round l hl
    obtain ⟨e1, e2⟩ := he.away (Array.getElem?_eq_some_iff.1 k2).1 k3
    exact ⟨rc, by rw [e1]; exact k2, e2⟩
def lift (r : Option Nat) (B : Nat) (st : St) (ρ : Rho) (w : World) (K : Ex → St → Prop) : Exit → Act → World → Prop :=
  fun e a' w' => ∃ x st' ρ' Δ', x.rel ρ' st'.s.length e ∧ K x st' ∧ Sim Δ' ρ' st' a' w' ∧ Ext st.s ρ w st'.s ρ' w' ∧ Fo r B Δ' ρ' st'.s w'
/-- Code, from a state on: it comes to an end of which K holds. -/
structure CodeOk (P : Program) (c : Code) (st : St) (K : Ex → St → Prop) : Prop where
  run : ∀ (r : Option Nat) (B : Nat) (Δ : List Deferred) (ρ : Rho) (a : Act) (w : World), Sim Δ ρ st a w → Fo r B Δ ρ st.s w → c.wpIn (Fr r) 0 P (lift r B st ρ w K) a w
abbrev Lh (R : Type) := Code → St → (Ex → St → R) → R
/-- A test that has been made is known. -/
def knows (c : Operand) (b : Bool) (e : List (Nat × V)) : List (Nat × V) :=
  match c with
  | .tmp t => (t, .raw (.bool b)) :: e
  | _ => e
/-- Code, computed; calls are met by C, loops and what else is not straight by L. -/
def Ev {R : Type} (no : R) (P : Program) (C : Ch R) (L : Lh R) : Code → St → (Ex → St → R) → R 
  | .skip, st, K => K .normal st
  | .label _, st, K => K .normal st
  | .seq a b, st, K => Ev no P C L a st fun e st' => match e with
    | .normal => Ev no P C L b st' K
    | e => K e st'
  | .cond c x y, st, K => Wi no (st.get c) fun v => match v with
    | .raw (.bool b) => match st with
      | ⟨n, e, s⟩ => Br b (Ev no P C L x ⟨n, knows c true e, s⟩ K) (Ev no P C L y ⟨n, knows c false e, s⟩ K)
    | _ => no
  | .block id c, st, K => Ev no P C L c st fun e st' => match e with
    | .exit i => match Nat.beq i id with
      | true => K .normal st'
      | false => K (.exit i) st'
    | e => K e st'
  | .scope c, st, K => Ev no P C L c st fun e st' => match e with
    | .goto _ => no
    | e => K e st'
  | .exit id, st, K => K (.exit id) st
  | .goto l, st, K => K (.goto l) st
  | .ret, st, K => K .ret st
  | .region id ops draw, st, K => match draw with
    | false => match st with | ⟨n, e, s⟩ => evOpsT no P C ops.toList K n ops.toList e s
    | true => L (.region id ops true) st K
  | .loop c, st, K => L (.loop c) st K
  | .rangeFunc f ps x y, st, K => L (.rangeFunc f ps x y) st K
  | .refuse _, _, _ => no
section
variable {P : Program} {ρ : Rho} {w : World} {st : St} {a : Act}
theorem method_sound {t : TypeId} {v : V} {name : String} {m : FuncId × V} (h : vMethod P t v name = some m) (k : Nat) : (method (k + 1) t (v.abs ρ) name).run P w = .ok (m.1, m.2.abs ρ) w ∧ m.2 = v := by
  unfold vMethod at h
  split at h
  · rename_i i hi
    split at h
    · rename_i mm hm
      split at h
      · rename_i f pr hpath hfunc
        have hp : mm.path.toList = [] := by simpa using hpath
        split at h
        · rename_i e ht
          split at h
          · simp only [Option.some.injEq] at h
            subst h
            refine ⟨?_, rfl⟩
            simp [method, run_typeInfo hi, hm, hp, follow, hfunc, receiverAt, run_underlying ht, Place.get]
          · cases h
        · rename_i d hnp ht
          split at h
          · cases h
          · simp only [Option.some.injEq] at h
            subst h
            refine ⟨?_, rfl⟩
            simp only [method, Sem.run_bind, run_typeInfo hi, Result.andThen_ok, hm, hp, follow, Sem.run_pure, hfunc, receiverAt, run_underlying ht]
            cases d <;> first | exact absurd rfl (hnp _) | simp [Place.get]
        · cases h
      · cases h
    · cases h
  · cases h
end
section
variable {P : Program} {ρ : Rho} {w : World} {st : St} {a : Act} {R : Type} {no : R} {T : R → Prop} (hno : ¬ T no)
include hno
theorem builtin_sound {b : Builtin} {ts : Array TypeId} {ty : TypeId} {cs : Array Bool} {args : List V} {K : Kt R} (hr : Rep ρ st.s w) (hb : bdL st.s.length args) (hk : T (vBuiltin no P b ts.toList args st.s K)) :
    ∃ v, (builtin b ts ty cs (absL ρ args).toArray).run P w = .ok (.value (v.abs ρ)) w ∧ T (K v st.s) ∧ v.bd st.s.length := by
  unfold vBuiltin at hk
  split at hk
  · rename_i t tr x xr h1
    have ht : ts[0]? = some t := by rw [← Array.getElem?_toList, h1]; rfl
    obtain ⟨d, hd, hk⟩ := Wi.out hno hk
    split at hk
    · exact ⟨.raw _, by simp [builtin, Builtin.len_, ht, absL, run_underlying hd, V.abs, goInt], hk, trivial⟩
    · exact ⟨.raw _, by simp [builtin, Builtin.len_, ht, absL, run_underlying hd, V.abs, goInt], hk, trivial⟩
    · exact ⟨.raw _, by simp [builtin, Builtin.len_, ht, absL, run_underlying hd, V.abs, goInt], hk, trivial⟩
    · exact ⟨.raw _, by simp [builtin, Builtin.len_, ht, absL, run_underlying hd, V.abs, goInt], hk, trivial⟩
    · exact ⟨.raw _, by simp [builtin, Builtin.len_, ht, absL, run_underlying hd, V.abs, goInt], hk, trivial⟩
    · exact ⟨.raw _, by simp [builtin, Builtin.len_, ht, absL, run_underlying hd, V.abs, goInt], hk, trivial⟩
    · exact ⟨.raw _, by simp [builtin, Builtin.len_, ht, absL, run_underlying hd, V.abs, goInt], hk, trivial⟩
    · exact ⟨.raw _, by simp [builtin, Builtin.len_, ht, absL, run_underlying hd, V.abs, goInt], hk, trivial⟩
    · exact ⟨.raw _, by simp [builtin, Builtin.len_, ht, absL, run_underlying hd, V.abs, goInt], hk, trivial⟩
    · rename_i i _
      split at hk
      · rename_i es c hes
        have := hr.ent i _ hes
        simp only [RepE] at this
        exact ⟨.raw _, by simp [builtin, Builtin.len_, ht, absL, run_underlying hd, V.abs, goInt, getObj, Sem.run, this], hk, trivial⟩
      · exact (hno hk).elim
    · exact (hno hk).elim
  · rename_i t tr x xr h1
    have ht : ts[0]? = some t := by rw [← Array.getElem?_toList, h1]; rfl
    obtain ⟨d, hd, hk⟩ := Wi.out hno hk
    split at hk
    · exact ⟨.raw _, by simp [builtin, Builtin.cap_, ht, absL, run_underlying hd, V.abs, goInt], hk, trivial⟩
    · exact ⟨.raw _, by simp [builtin, Builtin.cap_, ht, absL, run_underlying hd, V.abs, goInt], hk, trivial⟩
    · exact ⟨.raw _, by simp [builtin, Builtin.cap_, ht, absL, run_underlying hd, V.abs, goInt], hk, trivial⟩
    · exact (hno hk).elim
  · obtain ⟨v, hv, hk⟩ := Wi.out hno hk
    unfold vMax at hv
    split at hv
    · simp only [Option.some.injEq] at hv
      subst hv
      exact ⟨.raw _, by simp [builtin, Builtin.max_, absL, V.abs, Builtin.max2], hk, trivial⟩
    · cases hv
  · obtain ⟨v, hv, hk⟩ := Wi.out hno hk
    unfold vMax at hv
    split at hv
    · simp only [Option.some.injEq] at hv
      subst hv
      exact ⟨.raw _, by simp [builtin, Builtin.min_, absL, V.abs, Builtin.min2], hk, trivial⟩
    · cases hv
  · exact (hno hk).elim
theorem builtinE_sound {b : Builtin} {ts : Array TypeId} {ty : TypeId} {cs : Array Bool} {args : List V} {K : Kt R} (hr : Rep ρ st.s w) (hs : sbd st.s) (hb : bdL st.s.length args) (hk : T (vBuiltinE no P b ts.toList args st.s K)) :
    ∃ v s' ρ' w', (builtin b ts ty cs (absL ρ args).toArray).run P w = .ok (.value (v.abs ρ')) w' ∧ T (K v s') ∧ Rep ρ' s' w' ∧ Ext st.s ρ w s' ρ' w' ∧ sbd s' ∧ v.bd s'.length := by
  unfold vBuiltinE at hk
  split at hk
  · obtain ⟨v, s', ρ', w', h1, h2, h3, h4, h5, h6⟩ := appendE_sound (ty := ty) hno hr hs hb hk
    refine ⟨v, s', ρ', w', ?_, h2, h3, h4, h5, h6⟩
    show (do pure (Next.value (← Builtin.append_ ts ty (absL ρ args).toArray)) : Sem Next).run P w = _
    rw [Sem.run_bind, h1]
    simp
  · obtain ⟨v, s', w', h1, h2, h3, h4, h5, h6⟩ := clear_sound (ty := ty) hno hr hs hb hk
    refine ⟨v, s', ρ, w', ?_, h2, h3, h4, h5, h6⟩
    show (do pure (Next.value (← Builtin.clear_ ts ty (absL ρ args).toArray)) : Sem Next).run P w = _
    rw [Sem.run_bind, h1]
    simp
  · obtain ⟨v, s', w', h1, h2, h3, h4, h5, h6⟩ := copy_sound (ty := ty) hno hr hs hb hk
    refine ⟨v, s', ρ, w', ?_, h2, h3, h4, h5, h6⟩
    show (do pure (Next.value (← Builtin.copy_ ts ty (absL ρ args).toArray)) : Sem Next).run P w = _
    rw [Sem.run_bind, h1]
    simp
  · obtain ⟨v, v1, v2, v3⟩ := builtin_sound hno (ty := ty) (cs := cs) hr hb hk
    exact ⟨v, _, ρ, w, v1, v2, hr, Ext.refl _ _ _, hs, v3⟩
end

section
variable {P : Program} {ρ : Rho} {w : World} {st : St} {a : Act}
/-- The end of a call, put into the frame. -/
theorem Sim.ret {ρ' : Rho} {w' : World} (h : Sim Δ ρ st a w) {dst : Option Tmp} {v : V} {s : Sto} (hr : Rep ρ' s w') (hs : sbd s) (he : Ext st.s ρ w s ρ' w') (hv : v.bd s.length) : Sim Δ ρ' (st.put dst v s) (a.put dst (v.abs ρ')) w' :=
  h.put hr hs he hv
theorem Sim.pan {ρ' : Rho} {w' : World} (h : Sim Δ ρ st a w) {s : Sto} (hr : Rep ρ' s w') (hs : sbd s) (he : Ext st.s ρ w s ρ' w') : Sim Δ ρ' ⟨st.n, st.t, s⟩ a w' :=
  ⟨h.defers, h.size, fun t u hu => by rw [V.abs_congr he.same u (h.bd t u hu)]; exact h.tmps t u hu, fun t u hu => V.bd_mono he.len u (h.bd t u hu), hr, hs⟩
/-- What an operation leaves: a value for the frame, or a panic. -/
structure Leaves (st : St) (ρ : Rho) (a : Act) (w : World) (dst : Option Tmp) (K Kp : Kt Prop) (next : Act → World → Prop) (Q : Exit → Act → World → Prop) : Prop where
  go : ∀ v s ρ' w', K v s → Rep ρ' s w' → Ext st.s ρ w s ρ' w' → sbd s → v.bd s.length → next (a.put dst (v.abs ρ')) w'
  pan : ∀ v s ρ' w', Kp v s → Rep ρ' s w' → Ext st.s ρ w s ρ' w' → sbd s → v.bd s.length → Q (.panic [{ v := v.abs ρ', recovered := false }]) a w'
theorem CallOk.upon {r : Option Nat} {f : FuncId} {args : List V} {K Kp : Kt Prop} {o : Oper} {next : Act → World → Prop} {Q : Exit → Act → World → Prop} (h : Sim Δ ρ st a w) (hL : Leaves st ρ a w o.dst K Kp next Q) (hk : CallOk P f args st.s (resK K Kp)) (hb : bdL st.s.length args)
    (hnd : ∀ c, o.op ≠ .defer c) (hrun : (execOp a.eval o).run P w = .ok (.enter f (absL ρ args).toArray) w) : o.wpIn (Fr r) 0 P a w next Q := by
  refine wpIn_fr hnd ?_
  unfold Oper.wp
  rw [hrun, Oper.upon_enter]
  refine (hk.run ρ w h.rep h.sb hb).mono ?_
  rintro e w' ⟨r, s', ρ', rfl, hK, hr, he, hs, hv⟩
  cases r with
  | ret v => exact hL.go v s' ρ' w' hK hr he hs hv
  | pan v => exact hL.pan v s' ρ' w' hK hr he hs hv
theorem lift_mono {r : Option Nat} {B : Nat} {st st' : St} {ρ ρ' : Rho} {w w' : World} {K : Ex → St → Prop} (he : Ext st.s ρ w st'.s ρ' w') {e : Exit} {a2 : Act} {w2 : World} (h : lift r B st' ρ' w' K e a2 w2) : lift r B st ρ w K e a2 w2 :=
  let ⟨x, st2, ρ2, Δ2, h1, h2, h3, h4, h5⟩ := h; ⟨x, st2, ρ2, Δ2, h1, h2, h3, he.trans h4, h5⟩
theorem Sim.know {t : Nat} {b : Bool} (h : Sim Δ ρ st a w) (ht : find st.t t = some (.raw (.bool b))) : Sim Δ ρ ⟨st.n, (t, .raw (.bool b)) :: st.t, st.s⟩ a w := by
  refine ⟨h.defers, h.size, fun k v hv => ?_, fun k v hv => ?_, h.rep, h.sb⟩
  · simp only [find] at hv
    split at hv
    · rename_i hb
      have := Nat.eq_of_beq_eq_true hb
      subst this
      obtain rfl := Option.some.inj hv
      exact h.tmps t _ ht
    · exact h.tmps k v hv
  · simp only [find] at hv
    split at hv
    · obtain rfl := Option.some.inj hv; trivial
    · exact h.bd k v hv
theorem Sim.knows {c : Operand} {b : Bool} (h : Sim Δ ρ st a w) (hc : st.get c = some (.raw (.bool b))) : Sim Δ ρ ⟨st.n, knows c b st.t, st.s⟩ a w := by
  cases c with
  | tmp t => exact h.know hc
  | _ => exact h
theorem toArray_eval {xs : Array Operand} {vs : List V} (h : xs.toList.map a.eval = absL ρ vs) : xs.map a.eval = (absL ρ vs).toArray := by
  apply Array.ext'
  simpa using h
variable {R : Type} {no : R} {T : R → Prop} (hno : ¬ T no)
include hno
theorem callx_sound {r : Option Nat} {C : Ch R} {K Kp : Kt R} (hC : ∀ f args, T (C f args st.s (resK K Kp)) → TgOk P f args st.s fun r s => T (resK K Kp r s)) {o : Oper} {c : Call} {next : Act → World → Prop} {Q : Exit → Act → World → Prop} (h : Sim Δ ρ st a w) (hL : Leaves st ρ a w o.dst (fun v s => T (K v s)) (fun v s => T (Kp v s)) next Q) (ho : o.op = .call c) (hk : T (callx no P C c st K Kp)) : o.wpIn (Fr r) 0 P a w next Q := by
  have hnd : ∀ c, o.op ≠ .defer c := fun c hc => by rw [ho] at hc; cases hc
  have hex : execOp a.eval o = (do let d ← resolve a.eval c o.type; invoke d.target d.args) := by
    unfold execOp; rw [ho]
  unfold callx callxT at hk
  split at hk
  · rename_i f hc
    obtain ⟨fv, hf, hk⟩ := Wi.out hno hk
    obtain ⟨args, ha, hk⟩ := Wi.out hno hk
    obtain ⟨e1, e2⟩ := h.eval hf
    obtain ⟨f1, f2⟩ := h.evalL ha
    split at hk
    · rename_i g first cap hnf
      split at hk
      · rename_i hlt
        have hlt : g < P.funcs.size := by simpa using hlt
        have e3 : a.eval f = .func (.func g) (absL ρ first).toArray (absL ρ cap).toArray := by rw [e1, ← abs_nf, hnf]; rfl
        have hb : bdL st.s.length first ∧ bdL st.s.length cap := by have := bd_nf e2; rw [hnf] at this; exact this
        replace hk := ((hC _ _ hk).call hlt).mono (K' := resK (fun v s => T (K v s)) fun v s => T (Kp v s)) fun r s h => by cases r <;> exact h
        refine CallOk.upon h hL hk (bdL_append.2 ⟨bdL_append.2 ⟨hb.1, f2⟩, hb.2⟩) hnd ?_
        rw [hex]
        simp only [resolve, hc, e3, toArray_eval f1, Deferred.ofValue, pure_bind, invoke]
        have : (absL ρ first).toArray ++ (absL ρ args).toArray ++ (absL ρ cap).toArray = (absL ρ (first ++ args ++ cap)).toArray := by simp [absL_append]
        rw [this]
        exact hk.plain _ _
      · exact (hno hk).elim
    · rename_i i hnf
      have e3 : a.eval f = .func (.yield (ρ i).1) #[] #[] := by rw [e1, ← abs_nf, hnf]; rfl
      have hi : i < st.s.length := by have := bd_nf e2; rw [hnf] at this; exact this
      obtain ⟨rc, h1, h2, h3⟩ := (hC _ _ hk).round (by omega) ρ w h.rep h.sb f2
      rw [show P.funcs.size + 1 + i - P.funcs.size - 1 = i by omega] at h1 h3
      refine ⟨fun _ _ => trivial, ?_⟩
      rw [Oper.semAt_eq _ _ _ hnd, hex]
      simp only [resolve, hc, e3, toArray_eval f1, Deferred.ofValue, pure_bind, invoke]
      have hrun : (Instr.yield (ρ i).1 (absL ρ args).toArray).run P w = .ok (.round (ρ i).1 rc.fn ((rc.params.zip (absL ρ args).toArray).foldl (fun tmps x => tmps.setIfInBounds x.1 x.2) rc.tmps) rc.assign rc.body) w := by
        have hl : (Instr.getLoop (ρ i).1).run P w = .ok rc w := by simp [Instr.getLoop, getObj, Sem.run, h1]
        simp only [Instr.yield, Sem.run_bind, hl, Result.andThen_ok]
        rw [if_neg (by simp [absL_length, h2])]
        rfl
      simp only [Array.append_empty, Array.empty_append] at hrun ⊢
      rw [hrun, Oper.uponIn_round]
      refine ⟨fun hh => (by cases hh), RoundIn.mono h3 ?_⟩
      rintro e w' ⟨r, s', ρ', rfl, hK, hr, he, hs, hv⟩
      cases r with
      | ret v => exact hL.go v s' ρ' w' hK hr he hs hv
      | pan v => exact hL.pan v s' ρ' w' hK hr he hs hv
    · exact (hno hk).elim
  · rename_i recv name hc
    obtain ⟨r, hr, hk⟩ := Wi.out hno hk
    obtain ⟨args, ha, hk⟩ := Wi.out hno hk
    obtain ⟨e1, e2⟩ := h.eval hr
    obtain ⟨f1, f2⟩ := h.evalL ha
    split at hk
    · rename_i t v hnf
      obtain ⟨m, hm, hk⟩ := Wi.out hno hk
      split at hk
      · rename_i hlt
        have hlt : m.1 < P.funcs.size := by simpa using hlt
        have e3 : a.eval recv = .iface t (v.abs ρ) := by rw [e1, ← abs_nf, hnf]; rfl
        have hb : v.bd st.s.length := by have := bd_nf e2; rw [hnf] at this; exact this
        obtain ⟨m1, m2⟩ := method_sound (ρ := ρ) (w := w) hm (P.types.size + (Made.depth - 1))
        have hd1 : 1 ≤ Made.depth := by decide
        have hd : P.types.size + Made.depth = P.types.size + (Made.depth - 1) + 1 := by omega
        replace hk := ((hC _ _ hk).call hlt).mono (K' := resK (fun v s => T (K v s)) fun v s => T (Kp v s)) fun r s h => by cases r <;> exact h
        refine CallOk.upon h hL hk ⟨by rw [m2]; exact hb, f2⟩ hnd ?_
        rw [hex]
        simp only [resolve, hc, e3, toArray_eval f1, pure_bind, invoke]
        simp only [List.append_toArray, List.cons_append, List.nil_append, List.getElem?_toArray, List.getElem?_cons_zero, callMethod, Sem.run_bind, run_program, Result.andThen_ok, hd, m1]
        have : #[m.2.abs ρ] ++ (Value.iface t (v.abs ρ) :: absL ρ args).toArray.extract 1 (Value.iface t (v.abs ρ) :: absL ρ args).toArray.size = (absL ρ (m.2 :: args)).toArray := by
          apply Array.ext'
          simp [absL, List.extract_eq_take_drop, absL_length, List.take_of_length_le]
        rw [this]
        exact hk.plain _ _
      · exact (hno hk).elim
    · exact (hno hk).elim
  · rename_i b hc
    obtain ⟨args, ha, hk⟩ := Wi.out hno hk
    obtain ⟨f1, f2⟩ := h.evalL ha
    refine wpIn_fr hnd ?_
    unfold Oper.wp
    rw [hex]
    simp only [resolve, hc, toArray_eval f1, pure_bind, invoke]
    obtain ⟨v, s', ρ', w', v1, v2, v3, v4, v5, v6⟩ := builtinE_sound hno (ty := o.type) (cs := _) h.rep h.sb f2 hk
    rw [v1, Oper.upon_value]
    exact hL.go v s' ρ' w' v2 v3 v4 v5 v6
theorem opx_sound {r : Option Nat} {C : Ch R} (hC : ∀ f args s K, T (C f args s K) → TgOk P f args s fun r s => T (K r s)) {o : Oper} {K Kp : Kt R} {next : Act → World → Prop} {Q : Exit → Act → World → Prop} (h : Sim Δ ρ st a w) (hL : Leaves st ρ a w o.dst (fun v s => T (K v s)) (fun v s => T (Kp v s)) next Q) (hk : T (opx no P C o.op st K Kp)) : o.wpIn (Fr r) 0 P a w next Q := by
  unfold opx opxT at hk
  split at hk
  · rename_i c hc
    exact callx_sound hno (fun f args => hC f args _ _) h hL hc hk
  · rename_i x hx
    obtain ⟨v, hv, hk⟩ := Wi.out hno hk
    obtain ⟨e1, e2⟩ := h.eval hv
    split at hk
    · rename_i t u hnf
      have e3 : a.eval x = .iface t (u.abs ρ) := by rw [e1, ← abs_nf, hnf]; rfl
      have hb : (V.ifc t u).bd st.s.length := by have := bd_nf e2; rw [hnf] at this; exact this
      refine wpIn_fr (fun c hc => by rw [hx] at hc; cases hc) ?_
      unfold Oper.wp
      have : (execOp a.eval o).run P w = .halt (.panic (.iface t (u.abs ρ))) w := by
        unfold execOp; rw [hx]; simp [Instr.panic, e3]
      rw [this, Oper.upon_panic]
      exact hL.pan (.ifc t u) st.s ρ w hk h.rep (Ext.refl _ _ _) h.sb hb
    · exact (hno hk).elim
  · obtain ⟨n, v, s', ρ', w', r1, r2, r3, r4, r5, r6, r7, _⟩ := valOp_sound hno h hk
    refine wpIn_fr (fun c hc => ?_) ?_
    · rw [hc] at hk; exact hno hk
    unfold Oper.wp
    rw [r1]
    rcases r2 with rfl | ⟨rfl, rfl⟩
    · exact hL.go v s' ρ' w' r3 r4 r5 r6 r7
    · exact hL.go (.raw undef) s' ρ' w' r3 r4 r5 r6 r7
theorem wanted_sound {ops : Array Oper} {o : Oper} {A B : List (Nat × V) → R} (h : Sim Δ ρ st a w) (hk : T (vWantedT no ops.toList o st.t A B)) :
    (Region.wanted o (yielded ops a.tmps) = true ∧ ∃ e, T (A e) ∧ Sim Δ ρ ⟨st.n, e, st.s⟩ a w) ∨ (Region.wanted o (yielded ops a.tmps) = false ∧ ∃ e, T (B e) ∧ Sim Δ ρ ⟨st.n, e, st.s⟩ a w) := by
  unfold vWantedT at hk
  split at hk
  · rename_i hg; exact .inl ⟨by simp [Region.wanted, hg], _, hk, h⟩
  · rename_i j want hg
    split at hk
    · rename_i oj hoj
      have hoj' : ops[j]? = some oj := by rw [← Array.getElem?_toList]; exact hoj
      split at hk
      · rename_i t ht
        obtain ⟨v, hv, hk⟩ := Wi.out hno hk
        have hcell := h.tmps t v hv
        split at hk
        · rename_i b
          have hy : yielded ops a.tmps j = some b := by simp [yielded, hoj', ht, hcell, V.abs]
          split at hk
          · rcases Br.out hk with ⟨rfl, hk⟩ | ⟨rfl, hk⟩
            · exact .inl ⟨by simp [Region.wanted, hg, hy], _, hk, h.know hv⟩
            · exact .inr ⟨by simp [Region.wanted, hg, hy], _, hk, h.know hv⟩
          · rcases Br.out hk with ⟨rfl, hk⟩ | ⟨rfl, hk⟩
            · exact .inr ⟨by simp [Region.wanted, hg, hy], _, hk, h.know hv⟩
            · exact .inl ⟨by simp [Region.wanted, hg, hy], _, hk, h.know hv⟩
        · rename_i vs
          have hy : yielded ops a.tmps j = none := by simp [yielded, hoj', ht, hcell, V.abs]
          exact .inr ⟨by simp [Region.wanted, hg, hy], _, hk, h⟩
        · exact (hno hk).elim
      · rename_i ht
        have hy : yielded ops a.tmps j = none := by simp [yielded, hoj', ht]
        exact .inr ⟨by simp [Region.wanted, hg, hy], _, hk, h⟩
    · rename_i hoj
      have hoj' : ops[j]? = none := by rw [← Array.getElem?_toList]; exact hoj
      have hy : yielded ops a.tmps j = none := by simp [yielded, hoj']
      exact .inr ⟨by simp [Region.wanted, hg, hy], _, hk, h⟩
theorem evOps_sound {r : Option Nat} {B : Nat} {C : Ch R} (hC : ∀ f args s K, T (C f args s K) → TgOk P f args s fun r s => T (K r s)) {ops : Array Oper} {K : Ex → St → R} {st0 : St} {ρ0 : Rho} {w0 : World} (hfo : Fo r B Δ ρ0 st0.s w0) : ∀ (l : List Oper) (st : St) (ρ : Rho) (a : Act) (w : World), Sim Δ ρ st a w → Ext st0.s ρ0 w0 st.s ρ w → T (evOps no P C ops.toList K l st) → wpListIn (Fr r) 0 P ops (lift r B st0 ρ0 w0 fun e s => T (K e s)) l a w := by
  intro l
  induction l with
  | nil => intro st ρ a w h he hk; exact ⟨.normal, st, ρ, Δ, trivial, hk, h, he, hfo.ext he⟩
  | cons o os ih =>
    intro st ρ a w h he hk
    obtain ⟨sn, stt, ss⟩ := st
    simp only [evOps, evOpsT, fl_eq] at hk
    rcases wanted_sound hno (st := ⟨sn, stt, ss⟩) h hk with ⟨hw, e, hk, h⟩ | ⟨hw, e, hk, h⟩
    · refine wpListIn_step fun K' hK' => ?_
      rw [if_pos hw]
      refine opx_sound hno hC h (K := fun v s => evOpsT no P C ops.toList K sn os (putT sn e o.dst v) s) (Kp := fun v s => K (.panic v) ⟨sn, e, s⟩) ⟨fun v s ρ' w' k1 k2 k3 k4 k5 => hK' _ _ ?_, fun v s ρ' w' k1 k2 k3 k4 k5 => ?_⟩ hk
      · exact ih ⟨sn, putT sn e o.dst v, s⟩ _ _ _ (h.put (dst := o.dst) k2 k4 k3 k5) (he.trans k3) k1
      · exact ⟨.panic v, _, ρ', Δ, ⟨rfl, k5⟩, k1, h.pan k2 k4 k3, he.trans k3, hfo.ext (he.trans k3)⟩
    · refine wpListIn_step fun K' hK' => ?_
      rw [if_neg (by simp [hw])]
      refine ⟨fun _ _ => trivial, hK' _ _ ?_⟩
      exact ih ⟨sn, putT sn e o.dst (.raw undef), ss⟩ _ _ _ (h.put (dst := o.dst) (v := .raw undef) h.rep h.sb (Ext.refl _ _ _) trivial) he hk
omit hno in
theorem stepR_scope {b : Frame} {k : List Item} {cs : List Frame} {c : Code} : step P (lone (b.atR a (.code (.scope c) :: k)) cs w) = .next (lone (b.atR a (.code c :: .inScope c :: k)) cs w) :=
  step_lone_go (by simp [stepG, stepG.exec, Frame.atR])
omit hno in
theorem stepR_inScope {b : Frame} {k : List Item} {cs : List Frame} {c : Code} : step P (lone (b.atR a (.inScope c :: k)) cs w) = .next (lone (b.atR a k) cs w) :=
  step_lone_go (by simp [stepG, stepG.exec, Frame.atR])
omit hno in
theorem wpIn_scope {r : Option Nat} {c : Code} {Q : Exit → Act → World → Prop} (h : c.wpIn (Fr r) 0 P (Exit.noGoto Q) a w) : (Code.scope c).wpIn (Fr r) 0 P Q a w := by
  intro b k cs hro hb hr
  obtain ⟨e, a₁, w₁, hq, harr⟩ := h b (.inScope c :: k) cs hro hb hr
  have s1 : StepsIn (Machine.fenced P (Fr r)) P (lone (b.atR a (.code (.scope c) :: k)) cs w) (lone (b.atR a (.code c :: .inScope c :: k)) cs w) := .one (fr_fenced _ _ _) stepR_scope
  cases e with
  | normal => exact ⟨.normal, a₁, w₁, hq, s1.trans (StepsIn.trans harr (.one (fr_fenced _ _ _) stepR_inScope))⟩
  | exit id => exact ⟨.exit id, a₁, w₁, hq, fun k' hk => s1.trans (harr.1 k' (by simp [exitTo, hk])), fun hr hk => let ⟨k₁, h1, h2⟩ := harr.2 hr (by simp [exitTo, hk]); ⟨k₁, h1, s1.trans h2⟩⟩
  | goto l => exact hq.elim
  | ret => exact ⟨_, a₁, w₁, hq, .of_steps s1 harr⟩
  | panic ch => exact ⟨_, a₁, w₁, hq, .of_steps s1 harr⟩
  | outgrown => exact ⟨_, a₁, w₁, hq, .of_steps s1 harr⟩
theorem Ev.sound {C : Ch R} {L : Lh R} (hC : ∀ f args s K, T (C f args s K) → TgOk P f args s fun r s => T (K r s)) (hL : ∀ c st K, T (L c st K) → CodeOk P c st fun e s => T (K e s)) : ∀ (c : Code) (st : St) (K : Ex → St → R), T (Ev no P C L c st K) → CodeOk P c st fun e s => T (K e s) := by
  intro c
  induction c with
  | skip => intro st K hk; exact ⟨fun r B Δ ρ a w h hf => wpIn_skip ⟨.normal, st, ρ, Δ, trivial, hk, h, Ext.refl _ _ _, hf⟩⟩
  | label l => intro st K hk; exact ⟨fun r B Δ ρ a w h hf => wpIn_label ⟨.normal, st, ρ, Δ, trivial, hk, h, Ext.refl _ _ _, hf⟩⟩
  | seq x y ihx ihy =>
    intro st K hk
    refine ⟨fun r B Δ ρ a w h hf => wpIn_seq (wpIn_mono ((ihx _ _ hk).run r B Δ ρ a w h hf) ?_)⟩
    rintro e a' w' ⟨x', st', ρ', Δ', h1, h2, h3, h4, h5⟩
    cases x' <;> cases e <;> simp only [Ex.rel] at h1 <;> try exact h1.elim
    · exact wpIn_mono ((ihy _ _ h2).run r B Δ' ρ' a' w' h3 h5) fun e a w hl => lift_mono h4 hl
    all_goals exact ⟨_, st', ρ', Δ', by exact h1, h2, h3, h4, h5⟩
  | cond c x y ihx ihy =>
    intro st K hk0
    obtain ⟨v, hv, hk⟩ := Wi.out hno hk0
    clear hk0
    refine ⟨fun r B Δ ρ a w h hf => ?_⟩
    obtain ⟨e1, e2⟩ := h.eval hv
    split at hk
    · rename_i b
      obtain ⟨sn, se, ss⟩ := st
      refine wpIn_cond_split (t := b) e1 (fun hb => ?_) (fun hb => ?_)
      · subst hb; exact (ihx ⟨sn, knows c true se, ss⟩ _ hk).run r B Δ ρ a w (h.knows hv) hf
      · subst hb; exact (ihy ⟨sn, knows c false se, ss⟩ _ hk).run r B Δ ρ a w (h.knows hv) hf
    · exact (hno hk).elim
  | block id c ih =>
    intro st K hk
    refine ⟨fun r B Δ ρ a w h hf => wpIn_block (wpIn_mono ((ih _ _ hk).run r B Δ ρ a w h hf) ?_)⟩
    rintro e a' w' ⟨x', st', ρ', Δ', h1, h2, h3, h4, h5⟩
    cases x' <;> cases e <;> simp only [Ex.rel] at h1 <;> try exact h1.elim
    · exact ⟨.normal, st', ρ', Δ', trivial, h2, h3, h4, h5⟩
    · rename_i i j
      subst h1
      simp only at h2
      split at h2
      · rename_i hb
        have := Nat.eq_of_beq_eq_true hb
        subst this
        simp only [Exit.inBlock, if_true]
        exact ⟨.normal, st', ρ', Δ', trivial, h2, h3, h4, h5⟩
      · rename_i hb
        simp only [Exit.inBlock]
        rw [if_neg (fun e => by subst e; simp at hb)]
        exact ⟨.exit i, st', ρ', Δ', rfl, h2, h3, h4, h5⟩
    · exact ⟨_, st', ρ', Δ', by exact h1, h2, h3, h4, h5⟩
    · exact ⟨_, st', ρ', Δ', by exact h1, h2, h3, h4, h5⟩
    · exact ⟨_, st', ρ', Δ', by exact h1, h2, h3, h4, h5⟩
  | scope c ih =>
    intro st K hk
    refine ⟨fun r B Δ ρ a w h hf => wpIn_scope (wpIn_mono ((ih _ _ hk).run r B Δ ρ a w h hf) ?_)⟩
    rintro e a' w' ⟨x', st', ρ', Δ', h1, h2, h3, h4, h5⟩
    cases x' <;> cases e <;> simp only [Ex.rel] at h1 <;> first | exact h1.elim | exact (hno h2).elim | exact ⟨_, st', ρ', Δ', by exact h1, h2, h3, h4, h5⟩
  | exit id => intro st K hk; exact ⟨fun r B Δ ρ a w h hf => wpIn_exit ⟨.exit id, st, ρ, Δ, rfl, hk, h, Ext.refl _ _ _, hf⟩⟩
  | goto l => intro st K hk; exact ⟨fun r B Δ ρ a w h hf => wpIn_goto ⟨.goto l, st, ρ, Δ, rfl, hk, h, Ext.refl _ _ _, hf⟩⟩
  | ret => intro st K hk; exact ⟨fun r B Δ ρ a w h hf => wpIn_ret ⟨.ret, st, ρ, Δ, trivial, hk, h, Ext.refl _ _ _, hf⟩⟩
  | region id ops draw =>
    intro st K hk
    cases draw with
    | true => exact hL _ _ _ hk
    | false => exact ⟨fun r B Δ ρ a w h hf => wpIn_region_list (evOps_sound hno hC hf ops.toList st ρ a w h (Ext.refl _ _ _) hk)⟩
  | loop c => intro st K hk; exact hL _ _ _ hk
  | rangeFunc f ps x y => intro st K hk; exact hL _ _ _ hk
  | refuse => intro st K hk; exact (hno hk).elim
end
end Go.Proofs.YtpahclogghdnpaaDoorRL
