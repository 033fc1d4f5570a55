/- Parts of the proof, one behind the other. -/
import Derived.Test.YtalgegmcllcnmaazLabJumpsIIns
import Derived.Test.YtalgegmcllcnmaazLabJumpsRLRow4
import Derived.Test.YtalgegmcllcnmaazLabJumpsRLX
import Derived.Test.YtalgegmcllcnmaazLabJumpsJWalk
section
/- formulas; printed by fm.py out of fm2.Ytalgegmcllcnmaa.spec. -/
namespace Go.Proofs.Ytalgegmcllcnmaa.encWords
open Go Go.Proofs Go.Proofs.YtalgegmcllcnmaaRL  Go.Proofs.Ytalgegmcllcnmaa.isa
set_option linter.unusedVariables false
noncomputable def EW : Eh := specE 55 wordG noE
def live : List Nat := [2,3,4,9,10,11]
noncomputable def p1 : List Nat := pathTo 3 (codeOf Try.prog 39)
noncomputable def c1 : Code := subAt (p1.dropLast.dropLast.dropLast ++ [0]) (codeOf Try.prog 39)
def S0 (I : InsC) (n N cap : Nat) (t : TypeId) : St := ⟨29, [(2, .raw (.slice none 0 0)), (3, .raw (.int .i64 0)), (4, .raw (.slice none 0 0)), (9, .sle 0 7 0 n cap), (10, .raw (.int .i64 (n : Nat))), (11, .raw (.int .i64 0))], [.arr .ro I.cols N t]⟩
def S1 (I : InsC) (n N cap : Nat) (t : TypeId) (b : Nat → Int) (i : Nat) : St := ⟨29, [(2, .raw (.slice none 0 0)), (3, .raw (.int .i64 0)), (4, .lse 2 1 1 0 (i + 1)), (9, .sle 0 7 0 n cap), (10, .raw (.int .i64 (n : Nat))), (11, .raw (.int .i64 (i + 1 : Nat)))], [.arr .ro I.cols N t, .no, .arr (.grow 1) [.int .u32 b] (i + 1) 53]⟩

def pre_f (I : InsC) (n N cap : Nat) (t : TypeId) (K : Res → Sto → Prop) (Z : St → Prop) : Prop :=
Z (St.mk 29 [(2, V.raw (Value.slice none 0 0)), (3, V.raw (Value.int IntKind.i64 0)), (4, V.raw (Value.slice none 0 0)), (9, V.sle 0 7 0 n cap), (10, V.raw (Value.int IntKind.i64 (↑n : Int))), (11, V.raw (Value.int IntKind.i64 0))] [Ent.arr AM.ro [Col.int IntKind.i64 I.op, Col.int IntKind.i64 I.d, Col.int IntKind.i64 I.n, Col.int IntKind.i64 I.m, Col.int IntKind.i64 I.a, Col.int IntKind.i64 I.c, Col.int IntKind.i64 I.im] N t])
set_option maxRecDepth 1000000 in
theorem pre_eq (I : InsC) (n N cap : Nat) (t : TypeId) (K : Res → Sto → Prop) (Z : St → Prop) : evTo Try.prog EW 40 1 (fun st => Z (gcSt 1 live st)) p1 (codeOf Try.prog 39) ⟨(funcOf Try.prog 39).ntmps, zipArgs 0 [.sle 0 7 0 n cap], [.arr .ro I.cols N t]⟩ (bodyK False Try.prog (funcOf Try.prog 39) K) = pre_f I  n N cap  t  K  Z := by kernel_rfl
def body0_f (I : InsC) (n N cap : Nat) (t : TypeId) (K : Ex → St → Prop) : Prop :=
(match decide (0 < (↑n : Int)) with
| true => (match decide (0 < (↑n : Int)) with
 | true => (match Nat.blt 0 N with
  | true => (match chkV (I.op 0) (I.d 0) (I.n 0) (I.m 0) (I.a 0) (I.c 0) (I.im 0) != 0 with
   | true => K Ex.ret (St.mk 29 [(2, V.raw (Value.slice none 0 0)), (3, V.raw (Value.int IntKind.i64 (chkV (I.op 0) (I.d 0) (I.n 0) (I.m 0) (I.a 0) (I.c 0) (I.im 0)))), (4, V.raw (Value.slice none 0 0)), (9, V.sle 0 7 0 n cap), (10, V.raw (Value.int IntKind.i64 (↑n : Int))), (11, V.raw (Value.int IntKind.i64 0))] [Ent.arr AM.ro [Col.int IntKind.i64 I.op, Col.int IntKind.i64 I.d, Col.int IntKind.i64 I.n, Col.int IntKind.i64 I.m, Col.int IntKind.i64 I.a, Col.int IntKind.i64 I.c, Col.int IntKind.i64 I.im] N t])
   | false => K Ex.normal (St.mk 29 [(2, V.raw (Value.slice none 0 0)), (3, V.raw (Value.int IntKind.i64 0)), (4, V.lse 2 1 1 0 1), (9, V.sle 0 7 0 n cap), (10, V.raw (Value.int IntKind.i64 (↑n : Int))), (11, V.raw (Value.int IntKind.i64 1))] [Ent.arr AM.ro [Col.int IntKind.i64 I.op, Col.int IntKind.i64 I.d, Col.int IntKind.i64 I.n, Col.int IntKind.i64 I.m, Col.int IntKind.i64 I.a, Col.int IntKind.i64 I.c, Col.int IntKind.i64 I.im] N t, Ent.no, Ent.arr (AM.grow 1) [Col.int IntKind.u32 fun j ↦ [wordV (I.op 0) (I.d 0) (I.n 0) (I.m 0) (I.a 0) (I.c 0) (I.im 0)].getD j 0] 1 53]))
  | false => False)
 | false => False)
| false => K (Ex.exit 0) (St.mk 29 [(2, V.raw (Value.slice none 0 0)), (3, V.raw (Value.int IntKind.i64 0)), (4, V.raw (Value.slice none 0 0)), (9, V.sle 0 7 0 n cap), (10, V.raw (Value.int IntKind.i64 (↑n : Int))), (11, V.raw (Value.int IntKind.i64 0))] [Ent.arr AM.ro [Col.int IntKind.i64 I.op, Col.int IntKind.i64 I.d, Col.int IntKind.i64 I.n, Col.int IntKind.i64 I.m, Col.int IntKind.i64 I.a, Col.int IntKind.i64 I.c, Col.int IntKind.i64 I.im] N t]))
set_option maxRecDepth 1000000 in
theorem body0_eq (I : InsC) (n N cap : Nat) (t : TypeId) (K : Ex → St → Prop) : evG Try.prog EW 40 (lft (subAt p1 (codeOf Try.prog 39))) (S0 I n N cap t) (fun e st => K e (gcSt 1 live st)) = body0_f I  n N cap  t  K := by kernel_rfl
def body1_f (I : InsC) (n N cap : Nat) (t : TypeId) (b : Nat → Int) (i : Nat) (K : Ex → St → Prop) : Prop :=
(match decide ((↑(i + 1) : Int) < (↑n : Int)) with
| true => (match decide ((↑(i + 1) : Int) < (↑n : Int)) with
 | true => (match ((↑(i + 1) : Int).toNat + 0).blt N with
  | true => (match chkV (I.op ((↑(i + 1) : Int).toNat + 0)) (I.d ((↑(i + 1) : Int).toNat + 0)) (I.n ((↑(i + 1) : Int).toNat + 0)) (I.m ((↑(i + 1) : Int).toNat + 0)) (I.a ((↑(i + 1) : Int).toNat + 0)) (I.c ((↑(i + 1) : Int).toNat + 0)) (I.im ((↑(i + 1) : Int).toNat + 0)) != 0 with
   | true => K Ex.ret (St.mk 29 [(2, V.raw (Value.slice none 0 0)), (3, V.raw (Value.int IntKind.i64 (chkV (I.op ((↑(i + 1) : Int).toNat + 0)) (I.d ((↑(i + 1) : Int).toNat + 0)) (I.n ((↑(i + 1) : Int).toNat + 0)) (I.m ((↑(i + 1) : Int).toNat + 0)) (I.a ((↑(i + 1) : Int).toNat + 0)) (I.c ((↑(i + 1) : Int).toNat + 0)) (I.im ((↑(i + 1) : Int).toNat + 0))))), (4, V.lse 2 1 1 0 (i + 1)), (9, V.sle 0 7 0 n cap), (10, V.raw (Value.int IntKind.i64 (↑n : Int))), (11, V.raw (Value.int IntKind.i64 (↑(i + 1) : Int)))] [Ent.arr AM.ro [Col.int IntKind.i64 I.op, Col.int IntKind.i64 I.d, Col.int IntKind.i64 I.n, Col.int IntKind.i64 I.m, Col.int IntKind.i64 I.a, Col.int IntKind.i64 I.c, Col.int IntKind.i64 I.im] N t, Ent.no, Ent.arr (AM.grow 1) [Col.int IntKind.u32 b] (i + 1) 53])
   | false => (match (i + 1).ble (i + 1) with
    | true => (match growOk (i + 1 + 1) 4 with
     | true => K Ex.normal (St.mk 29 [(2, V.raw (Value.slice none 0 0)), (3, V.raw (Value.int IntKind.i64 0)), (4, V.lse 2 1 1 0 (i + 1 + 1)), (9, V.sle 0 7 0 n cap), (10, V.raw (Value.int IntKind.i64 (↑n : Int))), (11, V.raw (Value.int IntKind.i64 (IntKind.i64.wrap ((↑(i + 1) : Int) + 1))))] [Ent.arr AM.ro [Col.int IntKind.i64 I.op, Col.int IntKind.i64 I.d, Col.int IntKind.i64 I.n, Col.int IntKind.i64 I.m, Col.int IntKind.i64 I.a, Col.int IntKind.i64 I.c, Col.int IntKind.i64 I.im] N t, Ent.no, Ent.arr (AM.grow 1) [Col.int IntKind.u32 fun j ↦ match j.blt (i + 1) with | true => b j | false => [wordV (I.op ((↑(i + 1) : Int).toNat + 0)) (I.d ((↑(i + 1) : Int).toNat + 0)) (I.n ((↑(i + 1) : Int).toNat + 0)) (I.m ((↑(i + 1) : Int).toNat + 0)) (I.a ((↑(i + 1) : Int).toNat + 0)) (I.c ((↑(i + 1) : Int).toNat + 0)) (I.im ((↑(i + 1) : Int).toNat + 0))].getD (j - (i + 1)) 0] (i + 1 + 1) 53])
     | false => False)
    | false => False))
  | false => False)
 | false => False)
| false => K (Ex.exit 0) (St.mk 29 [(2, V.raw (Value.slice none 0 0)), (3, V.raw (Value.int IntKind.i64 0)), (4, V.lse 2 1 1 0 (i + 1)), (9, V.sle 0 7 0 n cap), (10, V.raw (Value.int IntKind.i64 (↑n : Int))), (11, V.raw (Value.int IntKind.i64 (↑(i + 1) : Int)))] [Ent.arr AM.ro [Col.int IntKind.i64 I.op, Col.int IntKind.i64 I.d, Col.int IntKind.i64 I.n, Col.int IntKind.i64 I.m, Col.int IntKind.i64 I.a, Col.int IntKind.i64 I.c, Col.int IntKind.i64 I.im] N t, Ent.no, Ent.arr (AM.grow 1) [Col.int IntKind.u32 b] (i + 1) 53]))
set_option maxRecDepth 1000000 in
theorem body1_eq (I : InsC) (n N cap : Nat) (t : TypeId) (b : Nat → Int) (i : Nat) (K : Ex → St → Prop) : evG Try.prog EW 40 (lft (subAt p1 (codeOf Try.prog 39))) (S1 I n N cap t b i) (fun e st => K e (gcSt 1 live st)) = body1_f I  n N cap  t  b  i  K := by kernel_rfl
def post0_f (I : InsC) (n N cap : Nat) (t : TypeId) (K : Res → Sto → Prop) : Prop :=
K (Res.ret (V.tup [V.raw (Value.slice none 0 0), V.raw (Value.int IntKind.i64 0)])) [Ent.arr AM.ro [Col.int IntKind.i64 I.op, Col.int IntKind.i64 I.d, Col.int IntKind.i64 I.n, Col.int IntKind.i64 I.m, Col.int IntKind.i64 I.a, Col.int IntKind.i64 I.c, Col.int IntKind.i64 I.im] N t]
set_option maxRecDepth 1000000 in
theorem post0_eq (I : InsC) (n N cap : Nat) (t : TypeId) (K : Res → Sto → Prop) : evG Try.prog EW 40 c1 (S0 I n N cap t) (bodyK False Try.prog (funcOf Try.prog 39) K) = post0_f I  n N cap  t  K := by kernel_rfl
def post1_f (I : InsC) (n N cap : Nat) (t : TypeId) (b : Nat → Int) (i : Nat) (K : Res → Sto → Prop) : Prop :=
K (Res.ret (V.tup [V.lse 2 1 1 0 (i + 1), V.raw (Value.int IntKind.i64 0)])) [Ent.arr AM.ro [Col.int IntKind.i64 I.op, Col.int IntKind.i64 I.d, Col.int IntKind.i64 I.n, Col.int IntKind.i64 I.m, Col.int IntKind.i64 I.a, Col.int IntKind.i64 I.c, Col.int IntKind.i64 I.im] N t, Ent.no, Ent.arr (AM.grow 1) [Col.int IntKind.u32 b] (i + 1) 53]
set_option maxRecDepth 1000000 in
theorem post1_eq (I : InsC) (n N cap : Nat) (t : TypeId) (b : Nat → Int) (i : Nat) (K : Res → Sto → Prop) : evG Try.prog EW 40 c1 (S1 I n N cap t b i) (bodyK False Try.prog (funcOf Try.prog 39) K) = post1_f I  n N cap  t  b  i  K := by kernel_rfl
def onret_f (v2 v3 v4 v9 v10 v11 : V) (s : Sto) (K : Res → Sto → Prop) : Prop :=
K (Res.ret (V.tup [v2, v3])) s
set_option maxRecDepth 1000000 in
theorem onret_eq (v2 v3 v4 v9 v10 v11 : V) (s : Sto) (K : Res → Sto → Prop) : ctxK Try.prog 1 p1 (codeOf Try.prog 39) (bodyK False Try.prog (funcOf Try.prog 39) K) .ret ⟨29, [(2, v2), (3, v3), (4, v4), (9, v9), (10, v10), (11, v11)], s⟩ = onret_f v2 v3 v4 v9 v10 v11  s  K := by kernel_rfl
end Go.Proofs.Ytalgegmcllcnmaa.encWords
end
section
/- enc.Words: the words of a row of instructions, or the first one's error. -/
namespace Go.Proofs.Ytalgegmcllcnmaa.encWords
open Go Go.Proofs Go.Proofs.YtalgegmcllcnmaaRL Go.Proofs.Ytalgegmcllcnmaa.isa
set_option linter.unusedVariables false
set_option maxRecDepth 1000000
set_option linter.unusedSimpArgs false
abbrev nilS : V := .raw (.slice none 0 0)
theorem EW_ok : EOk Try.prog EW := wordG_ok noE_ok
/-- What enc.Words leaves. -/
def KW (I : InsC) (n : Nat) (s : Sto) (r : Res) (s' : Sto) : Prop :=
  (I.all n → n = 0 → r = .ret (.tup [nilS, .raw (.int .i64 0)]) ∧ s' = s) ∧
  (I.all n → 0 < n → r = .ret (.tup [.lse 2 1 1 0 n, .raw (.int .i64 0)]) ∧ ∃ b, (∀ j, j < n → b j = I.W j) ∧ s' = s ++ [.no, .arr (.grow 1) [.int .u32 b] n 53]) ∧
  (¬ I.all n → r = .ret (.tup [nilS, .raw (.int .i64 1)]) ∧ (s' = s ∨ ∃ b i, s' = s ++ [.no, .arr (.grow 1) [.int .u32 b] i 53]))
theorem E_not {I : InsC} {j : Nat} (h : ¬ I.E j = 0) : I.E j = 1 := (E_01 I j).resolve_left h
theorem after1 (K : Ex → St → Prop) (st : St) : ctxK Try.prog 1 p1 (codeOf Try.prog 39) K (.exit 0) st = CodeB Try.prog 1 c1 st K := by kernel_rfl
section
variable (I : InsC) (n N cap : Nat) (t : TypeId)
abbrev s0 : Sto := [.arr .ro I.cols N t]
def SS : Option (Nat × (Nat → Int)) → St
  | none => S0 I n N cap t
  | some (i, b) => S1 I n N cap t b i
def II : Option (Nat × (Nat → Int)) → Prop
  | none => True
  | some (i, b) => i + 1 ≤ n ∧ ∀ j, j ≤ i → b j = I.W j ∧ I.E j = 0
def MU : Option (Nat × (Nat → Int)) → Nat
  | none => n + 1
  | some (i, b) => n - i
abbrev KB : Ex → St → Prop := bodyK False Try.prog (funcOf Try.prog 39) (KW I n (s0 I N t))
abbrev KC : Ex → St → Prop := ctxK Try.prog 1 p1 (codeOf Try.prog 39) (KB I n N t)
theorem end0 (h : n = 0) : KC I n N t (.exit 0) (S0 I n N cap t) := by
  unfold KC
  rw [after1]
  refine CodeB.of (evG_ok EW_ok names mixed (n := 40) ?_)
  have hp := post0_eq I n N cap t (KW I n (s0 I N t))
  unfold KB
  rw [hp]
  subst h
  exact ⟨fun _ _ => ⟨rfl, rfl⟩, fun _ h => absurd h (by omega), fun h => absurd (fun j hj => absurd hj (by omega)) h⟩
theorem end1 (i : Nat) (b : Nat → Int) (h : i + 1 = n) (hb : ∀ j, j ≤ i → b j = I.W j ∧ I.E j = 0) : KC I n N t (.exit 0) (S1 I n N cap t b i) := by
  unfold KC
  rw [after1]
  refine CodeB.of (evG_ok EW_ok names mixed (n := 40) ?_)
  have hp := post1_eq I n N cap t b i (KW I n (s0 I N t))
  unfold KB
  rw [hp]
  subst h
  exact ⟨fun _ h => absurd h (by omega), fun _ _ => ⟨rfl, b, fun j hj => (hb j (by omega)).1, rfl⟩, fun h => absurd (fun j hj => (hb j (by omega)).2) h⟩
theorem bad (v4 v9 v10 v11 : V) (s' : Sto) (h : ¬ I.all n) (hs : s' = s0 I N t ∨ ∃ b i, s' = s0 I N t ++ [.no, .arr (.grow 1) [.int .u32 b] i 53]) : KC I n N t .ret ⟨29, [(2, nilS), (3, .raw (.int .i64 1)), (4, v4), (9, v9), (10, v10), (11, v11)], s'⟩ := by
  have hp := onret_eq nilS (.raw (.int .i64 1)) v4 v9 v10 v11 s' (KW I n (s0 I N t))
  unfold KC KB
  rw [hp]
  exact ⟨fun h' => absurd h' h, fun h' => absurd h' h, fun _ => ⟨rfl, hs⟩⟩
theorem round0 (hN : n ≤ N) : body0_f I n N cap t (RK 1 (SS I n N cap t) (II I n) (MU n) none (KC I n N t)) := by
  unfold body0_f
  by_cases h0 : n = 0
  · subst h0
    exact end0 I 0 N cap t rfl
  · have c1 : decide ((0 : Int) < (n : Int)) = true := decide_eq_true (by omega)
    have c2 : Nat.blt 0 N = true := blt_yes (by omega)
    simp only [c1, c2]
    by_cases he : I.E 0 = 0
    · have e1 : chkV (I.op 0) (I.d 0) (I.n 0) (I.m 0) (I.a 0) (I.c 0) (I.im 0) = 0 := he
      simp only [e1, bne_self_eq_false]
      refine RK.go (y := some (0, _)) rfl ⟨by omega, fun j hj => ?_⟩ (by show n - 0 < n + 1; omega)
      obtain rfl : j = 0 := by omega
      exact ⟨rfl, he⟩
    · have e1 : chkV (I.op 0) (I.d 0) (I.n 0) (I.m 0) (I.a 0) (I.c 0) (I.im 0) = 1 := E_not he
      simp only [e1]
      exact bad I n N t _ _ _ _ _ (fun h => he (h 0 (by omega))) (.inl rfl)
theorem round1 (i : Nat) (b : Nat → Int) (hN : n ≤ N) (hn : n ≤ 1000000) (hi : i + 1 ≤ n) (hb : ∀ j, j ≤ i → b j = I.W j ∧ I.E j = 0) : body1_f I n N cap t b i (RK 1 (SS I n N cap t) (II I n) (MU n) (some (i, b)) (KC I n N t)) := by
  unfold body1_f
  simp only [toNat0]
  by_cases h0 : i + 1 = n
  · have c1 : decide (((i + 1 : Nat) : Int) < (n : Int)) = false := decide_eq_false (by omega)
    simp only [c1]
    exact end1 I n N cap t i b h0 hb
  · have c1 : decide (((i + 1 : Nat) : Int) < (n : Int)) = true := decide_eq_true (by omega)
    have c2 : Nat.blt (i + 1) N = true := blt_yes (by omega)
    have c3 := ble_self (i + 1)
    have c4 : growOk (i + 1 + 1) 4 = true := grow_ok (by omega) (by omega)
    have c5 := wrap_next (i := i + 1) (by omega)
    simp only [c1, c2, c3, c4, c5]
    by_cases he : I.E (i + 1) = 0
    · have e1 : chkV (I.op (i + 1)) (I.d (i + 1)) (I.n (i + 1)) (I.m (i + 1)) (I.a (i + 1)) (I.c (i + 1)) (I.im (i + 1)) = 0 := he
      simp only [e1, bne_self_eq_false]
      refine RK.go (y := some (i + 1, _)) rfl ⟨by omega, fun j hj => ?_⟩ (by show n - (i + 1) < n - i; omega)
      by_cases hj2 : j ≤ i
      · have : Nat.blt j (i + 1) = true := blt_yes (by omega)
        exact ⟨by simp only [this]; exact (hb j hj2).1, (hb j hj2).2⟩
      · obtain rfl : j = i + 1 := by omega
        have : Nat.blt (i + 1) (i + 1) = false := by
          cases h : Nat.blt (i + 1) (i + 1) with
          | true => rw [Nat.blt_eq] at h; omega
          | false => rfl
        refine ⟨?_, he⟩
        simp only [this, Nat.sub_self]
        rfl
    · have e1 : chkV (I.op (i + 1)) (I.d (i + 1)) (I.n (i + 1)) (I.m (i + 1)) (I.a (i + 1)) (I.c (i + 1)) (I.im (i + 1)) = 1 := E_not he
      simp only [e1]
      exact bad I n N t _ _ _ _ _ (fun h => he (h (i + 1) (by omega))) (.inr ⟨_, _, rfl⟩)
theorem words_call (hN : n ≤ N) (hn : n ≤ 1000000) : CallOk Try.prog 39 [.sle 0 7 0 n cap] (s0 I N t) (KW I n (s0 I N t)) := by
  refine CallOk.fnB names (by kernel_rfl) ?_
  refine evTo_ok EW_ok names mixed (n := 40) (b := 1) (Z := fun st => gcSt 1 live st = S0 I n N cap t) p1 _ _ _ (fun st hz => ?_) ?_
  · refine CodeB.lop (by kernel_rfl) (LoopB.byE EW_ok names mixed (N := 40) (SS I n N cap t) (II I n) (MU n) live (fun x hi => ?_) st none (by have h := gc_tells 1 live st; rw [hz] at h; exact h) trivial)
    cases x with
    | none =>
      have hp := body0_eq I n N cap t (RK 1 (SS I n N cap t) (II I n) (MU n) none (KC I n N t))
      exact hp.mpr (round0 I n N cap t hN)
    | some y =>
      obtain ⟨i, b⟩ := y
      have hp := body1_eq I n N cap t b i (RK 1 (SS I n N cap t) (II I n) (MU n) (some (i, b)) (KC I n N t))
      exact hp.mpr (round1 I n N cap t i b hN hn hi.1 hi.2)
  · have hp := pre_eq I n N cap t (KW I n (s0 I N t)) fun st => st = S0 I n N cap t
    exact hp.mpr rfl
end
end Go.Proofs.Ytalgegmcllcnmaa.encWords
namespace Go.Proofs.Ytalgegmcllcnmaa.encWords
open Go Go.Proofs Go.Proofs.YtalgegmcllcnmaaRL Go.Proofs.Ytalgegmcllcnmaa.isa
/-- enc.Words, as a table's line. -/
def wordsA : List V → Sto → Option Ans := fun args s => match args with
  | [.sle i 7 0 n _] => match s[i]? with
    | some (.arr _ cols N _) => match readInsC cols with
      | some I => some (.br (Nat.ble n N) (.br (Nat.ble n 1000000) (.br (Nat.beq n 0) .no (.br (decide (I.all n)) (.one (.ret (.tup [.lse (s.length + 1) s.length 1 0 n, .raw (.int .i64 0)])) (s ++ [.no, .arr (.grow s.length) [.int .u32 I.W] n 53])) (.one (.ret (.tup [nilS, .raw (.int .i64 1)])) s))) .no) .no)
      | none => none
    | _ => none
  | _ => none
theorem wordsA_call {args : List V} {s : Sto} {a : Ans} (h : wordsA args s = some a) (hf : a.fine) : CallOk Try.prog 39 args s fun r s' => a.is r s' := by
  unfold wordsA at h
  split at h
  · rename_i i n cap
    split at h
    · rename_i m cols N t hi
      split at h
      · rename_i I hr
        cases h
        obtain rfl := readInsC_eq hr
        rcases hf with ⟨c1, hf⟩ | ⟨_, hf⟩
        · rcases hf with ⟨c2, hf⟩ | ⟨_, hf⟩
          · rcases hf with ⟨_, hf⟩ | ⟨c3, _⟩
            · exact hf.elim
            · have hN : n ≤ N := Nat.le_of_ble_eq_true c1
              have hn : n ≤ 1000000 := Nat.le_of_ble_eq_true c2
              have h0 : n ≠ 0 := fun e => by subst e; cases c3
              have hc := words_call I n N cap t hN hn
              by_cases ha : I.all n
              · refine CallOk.mono (K := fun r s' => r = .ret (.tup [.lse (s.length + 1) s.length 1 0 n, .raw (.int .i64 0)]) ∧ s' = s ++ [.no, .arr (.grow s.length) [.int .u32 I.W] n 53]) ?_ fun r s' ⟨h1, h2⟩ => .inl ⟨c1, .inl ⟨c2, .inr ⟨c3, .inl ⟨decide_eq_true ha, h1, h2⟩⟩⟩⟩
                refine CallOk.frame1 (args0 := [.sle 0 7 0 n cap]) hi ⟨Nat.zero_lt_one, trivial⟩ (CallOk.eqv (hc.mono fun r s' hk => ?_))
                obtain ⟨h1, b, h2, h3⟩ := hk.2.1 ha (by omega)
                subst h1 h3
                refine ⟨[.arr .ro I.cols N t, .no, .arr (.grow 1) [.int .u32 I.W] n 53], ⟨.inl rfl, .inl rfl, .inr ⟨rfl, .inl rfl, rfl, ⟨rfl, h2⟩, trivial⟩, trivial⟩, [.no, .arr (.grow 1) [.int .u32 I.W] n 53], rfl, rfl, ?_, ?_⟩
                · simp [Res.ren, V.ren, renL, piX_11, piX_12]
                · simp [Ent.ren, piX_11]
              · refine CallOk.mono (K := fun r s' => r = .ret (.tup [nilS, .raw (.int .i64 1)]) ∧ s' = s) ?_ fun r s' ⟨h1, h2⟩ => .inl ⟨c1, .inl ⟨c2, .inr ⟨c3, .inr ⟨decide_eq_false ha, h1, h2⟩⟩⟩⟩
                refine CallOk.frame1 (args0 := [.sle 0 7 0 n cap]) hi ⟨Nat.zero_lt_one, trivial⟩ (CallOk.take (hc.mono fun r s' hk => ?_))
                obtain ⟨h1, h2⟩ := hk.2.2 ha
                subst h1
                have hs : s'.take 1 = [.arr .ro I.cols N t] := by rcases h2 with rfl | ⟨_, _, rfl⟩ <;> rfl
                refine ⟨⟨[], by show s'.take 1 = _; rw [hs]; rfl, rfl, ?_, ?_⟩, ⟨trivial, trivial, trivial⟩, ?_⟩
                · simp [Res.ren, V.ren, renL, nilS]
                · simp
                · show sbd (s'.take 1)
                  rw [hs]
                  intro j e he
                  cases j with
                  | zero => simp at he; subst he; trivial
                  | succ j => simp at he
          · exact hf.elim
        · exact hf.elim
      · cases h
    · cases h
  · cases h
/-- The same of a growing row. -/
def wordsB : List V → Sto → Option Ans := fun args s => match args with
  | [.lse i _ 7 0 n] => wordsA [.sle i 7 0 n 0] s
  | _ => none
theorem wordsA_cap {i n c c' : Nat} {s : Sto} : wordsA [.sle i 7 0 n c] s = wordsA [.sle i 7 0 n c'] s := rfl
theorem wordsB_ok {E : Eh} (hE : EOk Try.prog E) : EOk Try.prog (addE 39 wordsB E) := by
  refine addE_ok hE fun args s a h hf => ?_
  unfold wordsB at h
  split at h
  · exact CallOk.lse1 (a := []) (b := []) fun cap => wordsA_call (wordsA_cap.trans h) hf
  · cases h
end Go.Proofs.Ytalgegmcllcnmaa.encWords
end
section
/- LabJumps: the tail of the walk. Printed by genjw.py. -/
set_option linter.unusedVariables false
set_option linter.unusedSimpArgs false
set_option maxRecDepth 1000000
namespace Go.Proofs.Ytalgegmcllcnmaa.labJumps
open Go Go.Proofs Go.Proofs.YtalgegmcllcnmaaRL Go.Proofs.Ytalgegmcllcnmaa.isa
noncomputable def EX : Eh := addE 39 Go.Proofs.Ytalgegmcllcnmaa.encWords.wordsB (addE 27 decA EW)
theorem EX_ok : EOk Try.prog EX := Go.Proofs.Ytalgegmcllcnmaa.encWords.wordsB_ok (decA_ok EW_ok)
def WJ (C : InsC) (k : Nat) (v : Int) : InsC := ⟨C.op, C.d, C.n, C.m, C.a, C.c, fun j => match Nat.beq j k with | true => v | false => C.im j⟩
def IXJ (k : Int) (n : Nat) (P : Prop) : Prop := Br (decide (0 ≤ k)) (Br (decide (k < n)) (Br (Nat.blt (k.toNat + 0) n) P False) False) False
def nn (fr : Int) : Int := w64 ((w64 (fr - 1048576)).tdiv 4)
def decM (I : InsC) (j : Nat) (P : Prop) : Prop := Br (decide (0 ≤ I.W j ∧ I.W j < 4294967296)) P False
def t8M (op : Int) (I : InsC) (k q : Nat) (A fr : Int) (K : V → Prop) : Prop :=
  IXJ (k : Int) q (IXJ (k : Int) q (Br (I.E k != 0) (K (bV false)) (Br (Nat.ble q q) (Br (Nat.ble q 1000000) (Br (Nat.beq q 0) False (Br (decide (I.all q)) (Br (decide (nn fr < w64 (q : Int))) (IXJ (nn fr) q (decM I ((nn fr).toNat + 0) (Br (w64 (fr + w64 (decI (I.W ((nn fr).toNat + 0))).im) == A) (IXJ (nn fr) q (decM I ((nn fr).toNat + 0) (K (bV ((decI (I.W ((nn fr).toNat + 0))).op == op))))) (K (bV false))))) (K (bV false))) (K (bV false)))) False) False)))
section
variable (x y A h fr ix : Int) (k : Nat) (bk : Bool) (C : InsC) (q : Nat) (K : V → Prop) (Z : St → Prop)
theorem t8_0 : evG Try.prog EX 200 c21 (SK x y bk 0 fr (sC h (k : Int) (M1 A) C q)) (KJ K) = t8M (opN 0) (WJ C k (IntKind.i64.wrap (w64 (A - h)))) k q A fr K := by kernel_rfl
theorem t8_1 : evG Try.prog EX 200 c21 (SK x y bk 1 fr (sC h (k : Int) (M1 A) C q)) (KJ K) = t8M (opN 1) (WJ C k (IntKind.i64.wrap (w64 (A - h)))) k q A fr K := by kernel_rfl
theorem t8_2 : evG Try.prog EX 200 c21 (SK x y bk 2 fr (sC h (k : Int) (M1 A) C q)) (KJ K) = t8M (opN 2) (WJ C k (IntKind.i64.wrap (w64 (A - h)))) k q A fr K := by kernel_rfl
theorem t8_3 : evG Try.prog EX 200 c21 (SK x y bk 3 fr (sC h (k : Int) (M1 A) C q)) (KJ K) = t8M (opN 3) (WJ C k (IntKind.i64.wrap (w64 (A - h)))) k q A fr K := by kernel_rfl
theorem t8_4 : evG Try.prog EX 200 c21 (SK x y bk 4 fr (sC h (k : Int) (M1 A) C q)) (KJ K) = t8M (opN 4) (WJ C k (IntKind.i64.wrap (w64 (A - h)))) k q A fr K := by kernel_rfl
theorem t0 : TO Z [0,0,0,0,0,0,0] cj ⟨(funcOf Try.prog F).ntmps, zipArgs 0 [.raw (.int .i64 x), .raw (.int .i64 y), .raw (.bool bk), .raw (.int .i64 ix)], []⟩ (KJ K) = Br (decide (x < 0)) (K (bV true)) (Br (decide (x > 3000)) (K (bV true)) (Br (decide (y < 0)) (K (bV true)) (Br (decide (y > 3000)) (K (bV true)) (Br (decide (ix < 0)) (K (bV true)) (Br (decide (ix ≥ 5)) (K (bV true)) (Z (SJ x y bk ix (sA M0)))))))) := by kernel_rfl
end
section
variable (K : Ex → St → Prop)
theorem k_cj : ctxK Try.prog 0 [0,0,0,0,0,0,0] cj K = K := by kernel_rfl
theorem k_c11 : ctxK Try.prog 0 [0] c11 K = K := by kernel_rfl
theorem k_c12 : ctxK Try.prog 0 [0] c12 K = K := by kernel_rfl
theorem k_c14 : ctxK Try.prog 0 [0] c14 K = K := by kernel_rfl
theorem k_c15 : ctxK Try.prog 0 [0,0] c15 K = K := by kernel_rfl
theorem k_c17 : ctxK Try.prog 0 [0] c17 K = K := by kernel_rfl
theorem k_c18 : ctxK Try.prog 0 [0] c18 K = K := by kernel_rfl
theorem k_c20 : ctxK Try.prog 0 [0] c20 K = K := by kernel_rfl
end
end Go.Proofs.Ytalgegmcllcnmaa.labJumps
end
section
/- LabJumps: the law's function tells true. -/
set_option linter.unusedVariables false
set_option linter.unusedSimpArgs false
set_option maxRecDepth 100000
namespace Go.Proofs.Ytalgegmcllcnmaa.labJumps
open Go Go.Proofs Go.Proofs.YtalgegmcllcnmaaRL Go.Proofs.Ytalgegmcllcnmaa.isa
abbrev isT : V → Prop := fun v => v = bV true
theorem rK_ok {K : V → Prop} {r : Res} {s : Sto} (h : rK K r s) : ∃ v, r = .ret v ∧ K v := by
  cases r with
  | ret v => exact ⟨v, rfl, h⟩
  | pan _ => exact h.elim
/-- All but row k are NOPs; row k is the jump. -/
def Row (C : InsC) (q k i : Nat) : Prop := k < q ∧ rowI C k = insJ i ∧ ∀ j, j < q → j ≠ k → rowI C j = nopL
def Row0 (C : InsC) (q : Nat) : Prop := ∀ j, j < q → rowI C j = nopL
theorem row_eq {C : InsC} {j : Nat} {a b c d e f g : Int} (h : rowI C j = [a, b, c, d, e, f, g]) : C.op j = a ∧ C.d j = b ∧ C.n j = c ∧ C.m j = d ∧ C.a j = e ∧ C.c j = f ∧ C.im j = g := by
  unfold rowI at h
  simp only [List.cons.injEq, and_true] at h
  exact h
theorem w64_in {v : Int} (h0 : 0 ≤ v) (h1 : v < 18446744073709551616) : w64 v = v := by
  unfold w64
  rw [wrap_u64]
  omega
theorem hx_eq {q : Nat} (h : q ≤ 20000) : hx q = 1048576 + 4 * (q : Int) := by
  show w64 (1048576 + w64 (4 * w64 (q : Int))) = _
  rw [w64_in (v := (q : Int)) (by omega) (by omega), w64_in (v := 4 * (q : Int)) (by omega) (by omega), w64_in (by omega) (by omega)]
theorem nn_eq {k : Nat} (h : k ≤ 20000) : nn (1048576 + 4 * (k : Int)) = (k : Int) := by
  unfold nn
  rw [show 1048576 + 4 * (k : Int) - 1048576 = 4 * (k : Int) by omega, w64_in (v := 4 * (k : Int)) (by omega) (by omega), Int.mul_tdiv_cancel_left _ (by decide), w64_in (by omega) (by omega)]
theorem IXJ_ok {k n : Nat} {P : Prop} (h : k < n) (hp : P) : IXJ (k : Int) n P := by
  unfold IXJ
  rw [decide_eq_true (show (0 : Int) ≤ (k : Int) by omega), decide_eq_true (show (k : Int) < (n : Int) by omega), show (k : Int).toNat + 0 = k from rfl, show Nat.blt k n = true from by rw [Nat.blt_eq]; exact h]
  exact hp
theorem ok_jump {i : Nat} (hi : i < 5) {v : Int} (h4 : v % 4 = 0) (h0 : -1048576 ≤ v) (h1 : v < 1048576) : okI (opN i) 0 0 0 0 0 v := by
  match i, hi with
  | 0, _ => exact ⟨⟨by decide, by decide⟩, by decide, by decide, by decide, by decide, by decide, trivial, ⟨h4, by omega, by omega⟩⟩
  | 1, _ => exact ⟨⟨by decide, by decide⟩, by decide, by decide, by decide, by decide, by decide, trivial, ⟨h4, by omega, by omega⟩⟩
  | 2, _ => exact ⟨⟨by decide, by decide⟩, by decide, by decide, by decide, by decide, by decide, trivial, ⟨h4, by omega, by omega⟩⟩
  | 3, _ => exact ⟨⟨by decide, by decide⟩, by decide, by decide, by decide, by decide, by decide, trivial, ⟨h4, by omega, by omega⟩⟩
  | 4, _ => exact ⟨⟨by decide, by decide⟩, by decide, by decide, by decide, by decide, by decide, trivial, ⟨h4, by omega, by omega, by decide⟩⟩
theorem t8_ok {C : InsC} {q k a i : Nat} (hi : i < 5) (hR : Row C q k i) (hq : q ≤ 20000) (ha : a ≤ 20000) :
    t8M (opN i) (WJ C k (IntKind.i64.wrap (w64 (1048576 + 4 * (a : Int) - (1048576 + 4 * (k : Int)))))) k q (1048576 + 4 * (a : Int)) (1048576 + 4 * (k : Int)) isT := by
  obtain ⟨hk, hJ, hN⟩ := hR
  have hv : IntKind.i64.wrap (w64 (1048576 + 4 * (a : Int) - (1048576 + 4 * (k : Int)))) = 4 * (a : Int) - 4 * (k : Int) := by
    unfold w64; rw [wrap_i64, wrap_u64]; omega
  rw [hv]
  generalize hI : WJ C k (4 * (a : Int) - 4 * (k : Int)) = I
  have im_k : I.im k = 4 * (a : Int) - 4 * (k : Int) := by
    subst hI
    show (match Nat.beq k k with | true => _ | false => C.im k) = _
    rw [show Nat.beq k k = true from Nat.beq_refl k]
  have im_j (j : Nat) (h : j ≠ k) : I.im j = C.im j := by
    subst hI
    show (match Nat.beq j k with | true => _ | false => C.im j) = _
    rw [show Nat.beq j k = false from by
      cases hb : Nat.beq j k with
      | true => exact absurd (Nat.eq_of_beq_eq_true hb) h
      | false => rfl]
  obtain ⟨j1, j2, j3, j4, j5, j6, _⟩ := row_eq hJ
  have r1 : I.op k = opN i := by rw [← j1, ← hI]; rfl
  have r2 : I.d k = 0 := by rw [← j2, ← hI]; rfl
  have r3 : I.n k = 0 := by rw [← j3, ← hI]; rfl
  have r4 : I.m k = 0 := by rw [← j4, ← hI]; rfl
  have r5 : I.a k = 0 := by rw [← j5, ← hI]; rfl
  have r6 : I.c k = 0 := by rw [← j6, ← hI]; rfl
  have hok : okI (I.op k) (I.d k) (I.n k) (I.m k) (I.a k) (I.c k) (I.im k) := by
    rw [r1, r2, r3, r4, r5, r6, im_k]
    exact ok_jump hi (by omega) (by omega) (by omega)
  have hE : I.E k = 0 := if_pos hok
  have hall : I.all q := fun j hj => by
    by_cases h : j = k
    · subst h; exact hE
    · obtain ⟨n1, n2, n3, n4, n5, n6, n7⟩ := row_eq (hN j hj h)
      show chkV (I.op j) (I.d j) (I.n j) (I.m j) (I.a j) (I.c j) (I.im j) = 0
      rw [im_j j h, ← hI]
      show chkV (C.op j) (C.d j) (C.n j) (C.m j) (C.a j) (C.c j) (C.im j) = 0
      rw [n1, n2, n3, n4, n5, n6, n7]
      decide
  have hd : decI (I.W k) = ⟨I.op k, I.d k, I.n k, I.m k, I.a k, I.c k, I.im k⟩ := dec_word' (i := ⟨I.op k, I.d k, I.n k, I.m k, I.a k, I.c k, I.im k⟩) hok
  have hw : 0 ≤ I.W k ∧ I.W k < 4294967296 := wordV_lt ..
  have hdm (P : Prop) (h : P) : decM I k P := by
    unfold decM; rw [decide_eq_true hw]; exact h
  unfold t8M
  refine IXJ_ok hk (IXJ_ok hk ?_)
  rw [hE, nn_eq (by omega), show (k : Int).toNat + 0 = k from rfl, Nat.ble_eq_true_of_le (Nat.le_refl q), Nat.ble_eq_true_of_le (show q ≤ 1000000 by omega), decide_eq_true hall, w64_in (v := (q : Int)) (by omega) (by omega), decide_eq_true (show (k : Int) < (q : Int) by omega),
    show Nat.beq q 0 = false from by
      cases hb : Nat.beq q 0 with
      | true => have := Nat.eq_of_beq_eq_true hb; omega
      | false => rfl]
  refine IXJ_ok hk (hdm _ ?_)
  have hto : w64 (1048576 + 4 * (k : Int) + w64 (decI (I.W k)).im) = 1048576 + 4 * (a : Int) := by
    rw [hd]
    show w64 (1048576 + 4 * (k : Int) + w64 (I.im k)) = _
    rw [im_k]; unfold w64; rw [wrap_u64, wrap_u64]; omega
  rw [hto, show ((1048576 + 4 * (a : Int)) == 1048576 + 4 * (a : Int)) = true from beq_self_eq_true _]
  refine IXJ_ok hk (hdm _ ?_)
  rw [hd]
  show bV (I.op k == opN i) = bV true
  rw [r1, beq_self_eq_true]
theorem piece {Z : St → Prop} {ds : List Nat} {c : Code} {S : St} {K : Ex → St → Prop} (h : TO Z ds c S K) (next : ∀ S', Z S' → CodeB Try.prog 0 (subAt ds c) S' (ctxK Try.prog 0 ds c K)) : CodeB Try.prog 0 c S K :=
  evTo_ok EW_ok names mixed ds c S K (fun st hz => CodeB.tell (gc_tells 0 lvJ st) (next _ hz)) h
section
variable {x y : Int} {bk : Bool} {i : Nat} (hi : i < 5) (y0 : 0 ≤ y) (y1 : y ≤ 3000) (x0 : 0 ≤ x) (x1 : x ≤ 3000)
abbrev fr (k : Nat) : Int := 1048576 + 4 * (k : Int)
theorem T8 {A h fr : Int} {k q : Nat} {C : InsC} {K : V → Prop} (hi : i < 5) : evG Try.prog EX 200 c21 (SK x y bk i fr (sC h (k : Int) (M1 A) C q)) (KJ K) = t8M (opN i) (WJ C k (IntKind.i64.wrap (w64 (A - h)))) k q A fr K := by
  match i, hi with
  | 0, _ => exact t8_0 ..
  | 1, _ => exact t8_1 ..
  | 2, _ => exact t8_2 ..
  | 3, _ => exact t8_3 ..
  | 4, _ => exact t8_4 ..
include hi in
theorem s21 {C : InsC} {q k a : Nat} (hR : Row C q k i) (hq : q ≤ 20000) (ha : a ≤ 20000) : CodeB Try.prog 0 c21 (SK x y bk i (fr k) (sC (fr k) (k : Int) (M1 (fr a)) C q)) (KJ isT) := by
  refine CodeB.of (evG_ok EX_ok names mixed (n := 200) ?_)
  have h := t8_ok hi hR hq ha
  rw [T8 hi]; exact h
theorem small_yes {q : Nat} (h : q ≤ 20000) : (Nat.beq q q && small q) = true := by
  rw [show Nat.beq q q = true from Nat.beq_refl q]
  exact Nat.ble_eq_true_of_le (by omega)
include hi in
theorem s20 {C : InsC} {q k a : Nat} (hR : Row C q k i) (hq : q + 1 ≤ 20000) (ha : a ≤ 20000) : CodeB Try.prog 0 c20 (SK x y bk i (fr k) (sC (fr k) (k : Int) (M1 (fr a)) C q)) (KJ isT) := by
  refine piece (Z := fun st => st = SK x y bk i (fr k) (sC (fr k) (k : Int) (M1 (fr a)) (apI C q nopL) (q + 1))) (ds := [0]) ?_ fun S' hS => ?_
  · rw [t7, small_yes (by omega)]; exact rfl
  · subst hS
    rw [k_c20]
    obtain ⟨h1, h2, h3⟩ := hR
    refine s21 hi (C := apI C q nopL) ⟨by omega, by rw [row_lt h1]; exact h2, fun j hj hjk => ?_⟩ hq ha
    by_cases h : j < q
    · rw [row_lt h]; exact h3 j h hjk
    · obtain rfl : j = q := by omega
      exact row_at
/-- The labels, as far as they are told. -/
def LM (bk : Bool) (M : Ent) (a : Nat) : Prop := (bk = true ∧ M = M1 (fr a)) ∨ (bk = false ∧ M = M0)
include hi in
theorem s18 {C : InsC} {q k a : Nat} {M : Ent} (hM : LM bk M a) (hR : Row C q k i) (hq : q + 1 ≤ 20000) (ha : a ≤ 20000) : CodeB Try.prog 0 c18 (SK x y bk i (fr k) (sC (fr k) (k : Int) M C q)) (KJ isT) := by
  rcases hM with ⟨rfl, rfl⟩ | ⟨rfl, rfl⟩
  · refine piece (Z := fun st => st = SK x y true i (fr k) (sC (fr k) (k : Int) (M1 (fr a)) C q)) (ds := [0]) ?_ fun S' hS => ?_
    · rw [t6_t]
    · subst hS
      rw [k_c18]
      exact s20 hi hR hq ha
  · refine piece (Z := fun st => st = SK x y false i (fr k) (sC (fr k) (k : Int) (M1 (fr q)) C q)) (ds := [0]) ?_ fun S' hS => ?_
    · rw [t6_f, hx_eq (by omega)]
    · subst hS
      rw [k_c18]
      exact s20 hi hR hq (by omega)
theorem okF_yes {n : Int} {q : Nat} (h0 : 0 ≤ n) (h1 : n ≤ 3000) (h : q ≤ 20000) : okF n q = true := decide_eq_true ⟨h0, h1, by omega⟩
include hi y0 y1 in
theorem s17 {C : InsC} {q k a : Nat} {M : Ent} (hM : LM bk M a) (hR : Row C q k i) (hq : q + 1 ≤ 10000) (ha : a ≤ 20000) : CodeB Try.prog 0 c17 (SK x y bk i (fr k) (sC (fr k) (k : Int) M C q)) (KJ isT) := by
  have key : TO (fun st => ∃ C' q', st = SK x y bk i (fr k) (sC (fr k) (k : Int) M C' q') ∧ Row C' q' k i ∧ q' ≤ q + 3000) [0] c17 (SK x y bk i (fr k) (sC (fr k) (k : Int) M C q)) (KJ isT) := by
    have fin : Br (decide (y = 0)) (∃ C' q', SK x y bk i (fr k) (sC (fr k) (k : Int) M C q) = SK x y bk i (fr k) (sC (fr k) (k : Int) M C' q') ∧ Row C' q' k i ∧ q' ≤ q + 3000) (∃ C' q', SK x y bk i (fr k) (sC (fr k) (k : Int) M (nopC C q) (q + y.toNat)) = SK x y bk i (fr k) (sC (fr k) (k : Int) M C' q') ∧ Row C' q' k i ∧ q' ≤ q + 3000) := by
      by_cases h : y = 0
      · rw [decide_eq_true h]
        exact ⟨C, q, rfl, hR, by omega⟩
      · rw [decide_eq_false h]
        obtain ⟨h1, h2, h3⟩ := hR
        refine ⟨nopC C q, q + y.toNat, rfl, ⟨by omega, by rw [nop_lt h1]; exact h2, fun j hj hjk => ?_⟩, by omega⟩
        by_cases hj2 : j < q
        · rw [nop_lt hj2]; exact h3 j hj2 hjk
        · exact nop_ge (by omega)
    rcases hM with ⟨rfl, rfl⟩ | ⟨rfl, rfl⟩
    · rw [t5_1, show Nat.beq q q = true from Nat.beq_refl q, okF_yes y0 y1 (by omega)]; exact fin
    · rw [t5_0, show Nat.beq q q = true from Nat.beq_refl q, okF_yes y0 y1 (by omega)]; exact fin
  refine piece key fun S' hS => ?_
  obtain ⟨C', q', rfl, hR', hq'⟩ := hS
  rw [k_c17]
  exact s18 hi hM hR' (by omega) ha
/-- The store ahead of the jump: q rows that do nothing. -/
def Pre (M : Ent) (s : Sto) (q : Nat) : Prop := (q = 0 ∧ s = sA M) ∨ ∃ C, s = sB M C q ∧ Row0 C q
theorem T4A {M : Ent} {a : Nat} (hM : LM bk M a) {K : Ex → St → Prop} {Z : St → Prop} (hi : i < 5) : TO Z [0,0] c15 (SJ x y bk i (sA M)) K = Z (SK x y bk i at0 (sC at0 0 M (oneI (insJ i)) 1)) := by
  rcases hM with ⟨rfl, rfl⟩ | ⟨rfl, rfl⟩
  · match i, hi with
    | 0, _ => exact t4A_1_0 ..
    | 1, _ => exact t4A_1_1 ..
    | 2, _ => exact t4A_1_2 ..
    | 3, _ => exact t4A_1_3 ..
    | 4, _ => exact t4A_1_4 ..
  · match i, hi with
    | 0, _ => exact t4A_0_0 ..
    | 1, _ => exact t4A_0_1 ..
    | 2, _ => exact t4A_0_2 ..
    | 3, _ => exact t4A_0_3 ..
    | 4, _ => exact t4A_0_4 ..
theorem T4B {M : Ent} {a : Nat} (hM : LM bk M a) {C : InsC} {q : Nat} {K : Ex → St → Prop} {Z : St → Prop} (hi : i < 5) : TO Z [0,0] c15 (SJ x y bk i (sB M C q)) K = Br (Nat.beq q q && small q) (Br (((q + 1 : Nat) : Int) == ((q : Nat) : Int)) (Z (SK x y bk i (hx q) (sB M (apI C q (insJ i)) (q + 1)))) (Z (SK x y bk i (hx q) (sC (hx q) (q : Nat) M (apI C q (insJ i)) (q + 1))))) False := by
  rcases hM with ⟨rfl, rfl⟩ | ⟨rfl, rfl⟩
  · match i, hi with
    | 0, _ => exact t4B_1_0 ..
    | 1, _ => exact t4B_1_1 ..
    | 2, _ => exact t4B_1_2 ..
    | 3, _ => exact t4B_1_3 ..
    | 4, _ => exact t4B_1_4 ..
  · match i, hi with
    | 0, _ => exact t4B_0_0 ..
    | 1, _ => exact t4B_0_1 ..
    | 2, _ => exact t4B_0_2 ..
    | 3, _ => exact t4B_0_3 ..
    | 4, _ => exact t4B_0_4 ..
theorem at_ap {C : InsC} {q i : Nat} : rowI (apI C q (insJ i)) q = insJ i := row_at
include hi y0 y1 in
theorem s15 {q a : Nat} {M : Ent} {s : Sto} (hM : LM bk M a) (hP : Pre M s q) (hq : q + 1 ≤ 9000) (ha : a ≤ 20000) : CodeB Try.prog 0 c15 (SJ x y bk i s) (KJ isT) := by
  have key : TO (fun st => ∃ C' q' k', st = SK x y bk i (fr k') (sC (fr k') (k' : Nat) M C' q') ∧ Row C' q' k' i ∧ q' ≤ q + 1) [0,0] c15 (SJ x y bk i s) (KJ isT) := by
    rcases hP with ⟨rfl, rfl⟩ | ⟨C, rfl, h0⟩
    · rw [T4A hM hi]
      refine ⟨oneI (insJ i), 1, 0, rfl, ⟨by omega, rfl, fun j hj hjk => by omega⟩, by omega⟩
    · rw [T4B hM hi, small_yes (by omega), show (((q + 1 : Nat) : Int) == ((q : Nat) : Int)) = false from by rw [beq_eq_false_iff_ne]; omega, hx_eq (by omega)]
      refine ⟨apI C q (insJ i), q + 1, q, rfl, ⟨by omega, at_ap, fun j hj hjk => ?_⟩, by omega⟩
      rw [row_lt (by omega)]
      exact h0 j (by omega)
  refine piece key fun S' hS => ?_
  obtain ⟨C', q', k', rfl, hR', hq'⟩ := hS
  rw [k_c15]
  exact s17 hi y0 y1 hM hR' (by omega) ha
theorem pre_nop {n : Int} {q : Nat} {C : InsC} (h0 : Row0 C q) : Row0 (nopC C q) (q + n.toNat) := fun j hj => by
  by_cases h : j < q
  · rw [nop_lt h]; exact h0 j h
  · exact nop_ge (by omega)
include hi y0 y1 in
theorem s14 {q a : Nat} {M : Ent} {s : Sto} (hM : LM bk M a) (hP : Pre M s q) (hq : q ≤ 3000) (ha : a ≤ 20000) : CodeB Try.prog 0 c14 (SJ x y bk i s) (KJ isT) := by
  have key : TO (fun st => ∃ s' q', st = SJ x y bk i s' ∧ Pre M s' q' ∧ q' ≤ q + 3000) [0] c14 (SJ x y bk i s) (KJ isT) := by
    rcases hP with ⟨rfl, rfl⟩ | ⟨C, rfl, h0⟩
    · have fin : Br (decide (y = 0)) (∃ s' q', SJ x y bk i (sA M) = SJ x y bk i s' ∧ Pre M s' q' ∧ q' ≤ 0 + 3000) (∃ s' q', SJ x y bk i (sB M (nopC zC 0) (0 + y.toNat)) = SJ x y bk i s' ∧ Pre M s' q' ∧ q' ≤ 0 + 3000) := by
        by_cases h : y = 0
        · rw [decide_eq_true h]
          exact ⟨_, 0, rfl, .inl ⟨rfl, rfl⟩, by omega⟩
        · rw [decide_eq_false h]
          exact ⟨_, 0 + y.toNat, rfl, .inr ⟨_, rfl, pre_nop fun j hj => absurd hj (Nat.not_lt_zero j)⟩, by omega⟩
      rcases hM with ⟨rfl, rfl⟩ | ⟨rfl, rfl⟩
      · rw [t3A_1, okF_yes y0 y1 (by omega)]; exact fin
      · rw [t3A_0, okF_yes y0 y1 (by omega)]; exact fin
    · have fin : Br (decide (y = 0)) (∃ s' q', SJ x y bk i (sB M C q) = SJ x y bk i s' ∧ Pre M s' q' ∧ q' ≤ q + 3000) (∃ s' q', SJ x y bk i (sB M (nopC C q) (q + y.toNat)) = SJ x y bk i s' ∧ Pre M s' q' ∧ q' ≤ q + 3000) := by
        by_cases h : y = 0
        · rw [decide_eq_true h]
          exact ⟨_, q, rfl, .inr ⟨C, rfl, h0⟩, by omega⟩
        · rw [decide_eq_false h]
          exact ⟨_, q + y.toNat, rfl, .inr ⟨_, rfl, pre_nop h0⟩, by omega⟩
      rcases hM with ⟨rfl, rfl⟩ | ⟨rfl, rfl⟩
      · rw [t3B_1, show Nat.beq q q = true from Nat.beq_refl q, okF_yes y0 y1 (by omega)]; exact fin
      · rw [t3B_0, show Nat.beq q q = true from Nat.beq_refl q, okF_yes y0 y1 (by omega)]; exact fin
  refine piece key fun S' hS => ?_
  obtain ⟨s', q', rfl, hP', hq'⟩ := hS
  rw [k_c14]
  exact s15 hi y0 y1 hM hP' (by omega) ha
include hi y0 y1 in
theorem s12 {q : Nat} {s : Sto} (hP : Pre M0 s q) (hq : q ≤ 3000) : CodeB Try.prog 0 c12 (SJ x y bk i s) (KJ isT) := by
  have key : TO (fun st => ∃ M a s', st = SJ x y bk i s' ∧ LM bk M a ∧ Pre M s' q ∧ a ≤ 20000) [0] c12 (SJ x y bk i s) (KJ isT) := by
    rcases hP with ⟨rfl, rfl⟩ | ⟨C, rfl, h0⟩
    · cases bk with
      | true => rw [t2A_t]; exact ⟨M1 (fr 0), 0, _, rfl, .inl ⟨rfl, rfl⟩, .inl ⟨rfl, rfl⟩, by omega⟩
      | false => rw [t2A_f]; exact ⟨M0, 0, _, rfl, .inr ⟨rfl, rfl⟩, .inl ⟨rfl, rfl⟩, by omega⟩
    · cases bk with
      | true => rw [t2B_t, hx_eq (by omega)]; exact ⟨M1 (fr q), q, _, rfl, .inl ⟨rfl, rfl⟩, .inr ⟨C, rfl, h0⟩, by omega⟩
      | false => rw [t2B_f]; exact ⟨M0, 0, _, rfl, .inr ⟨rfl, rfl⟩, .inr ⟨C, rfl, h0⟩, by omega⟩
  refine piece key fun S' hS => ?_
  obtain ⟨M, a, s', rfl, hM, hP', ha⟩ := hS
  rw [k_c12]
  exact s14 hi y0 y1 hM hP' hq ha
include hi y0 y1 x0 x1 in
theorem s11 : CodeB Try.prog 0 c11 (SJ x y bk i (sA M0)) (KJ isT) := by
  have key : TO (fun st => ∃ s' q', st = SJ x y bk i s' ∧ Pre M0 s' q' ∧ q' ≤ 3000) [0] c11 (SJ x y bk i (sA M0)) (KJ isT) := by
    rw [t1, okF_yes x0 x1 (by omega)]
    by_cases h : x = 0
    · rw [decide_eq_true h]
      exact ⟨_, 0, rfl, .inl ⟨rfl, rfl⟩, by omega⟩
    · rw [decide_eq_false h]
      exact ⟨_, 0 + x.toNat, rfl, .inr ⟨_, rfl, pre_nop fun j hj => absurd hj (Nat.not_lt_zero j)⟩, by omega⟩
  refine piece key fun S' hS => ?_
  obtain ⟨s', q', rfl, hP', hq'⟩ := hS
  rw [k_c11]
  exact s12 hi y0 y1 hP' hq'
end
theorem law_ok (x y : Int) (bk : Bool) (ix : Int) : CallOk Try.prog F [.raw (.int .i64 x), .raw (.int .i64 y), .raw (.bool bk), .raw (.int .i64 ix)] [] fun q _ => q = .ret (bV true) := by
  refine CallOk.mono (K := rK isT) (CallOk.fnB names (by kernel_rfl) ?_) fun r s h => ?_
  · refine piece (Z := fun st => st = SJ x y bk ix (sA M0) ∧ 0 ≤ x ∧ x ≤ 3000 ∧ 0 ≤ y ∧ y ≤ 3000 ∧ 0 ≤ ix ∧ ix < 5) (ds := [0,0,0,0,0,0,0]) ?_ fun S' hS => ?_
    · rw [t0]
      by_cases h1 : x < 0
      · rw [decide_eq_true h1]; exact rfl
      rw [decide_eq_false h1]
      by_cases h2 : x > 3000
      · rw [decide_eq_true h2]; exact rfl
      rw [decide_eq_false h2]
      by_cases h3 : y < 0
      · rw [decide_eq_true h3]; exact rfl
      rw [decide_eq_false h3]
      by_cases h4 : y > 3000
      · rw [decide_eq_true h4]; exact rfl
      rw [decide_eq_false h4]
      by_cases h5 : ix < 0
      · rw [decide_eq_true h5]; exact rfl
      rw [decide_eq_false h5]
      by_cases h6 : ix ≥ 5
      · rw [decide_eq_true h6]; exact rfl
      rw [decide_eq_false h6]
      exact ⟨rfl, by omega, by omega, by omega, by omega, by omega, by omega⟩
    · obtain ⟨rfl, x0, x1, y0, y1, i0, i1⟩ := hS
      rw [k_cj]
      obtain ⟨i, rfl⟩ := Int.eq_ofNat_of_zero_le i0
      exact s11 (by omega) y0 y1 x0 x1
  · obtain ⟨v, rfl, hv⟩ := rK_ok h
    rw [hv]
def aks : List AK := [.one (.int .i64), .one (.int .i64), .one .bool, .one (.int .i64)]
theorem law_call (args : List V) (h : argsOk aks args) : CallOk Try.prog F args [] fun r _ => r = .ret (.raw (.bool true)) := by
  obtain ⟨x, r1, rfl, _, h1⟩ := argsOk_int h
  obtain ⟨y, r2, rfl, _, h2⟩ := argsOk_int h1
  obtain ⟨bk, r3, rfl, h3⟩ := argsOk_bool h2
  obtain ⟨ix, r4, rfl, _, h4⟩ := argsOk_int h3
  cases argsOk_nil h4
  exact law_ok x y bk ix
end Go.Proofs.Ytalgegmcllcnmaa.labJumps
end
