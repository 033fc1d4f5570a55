/- Parts of the proof, one behind the other. -/
import Derived.Test.YtolohpkjpgbahaaProg
import Derived.Test.YtolohpkjpgbahaazSemFramesRL14
import Derived.Test.YtolohpkjpgbahaazSemFramesRLT
section
/- Two facts of the program. -/
namespace Go.Proofs.YtolohpkjpgbahaaRL
open Go
theorem names : namesOk Try.prog = true := by kernel_rfl
theorem mixed : Try.prog.follows .mixedOrders = true := by kernel_rfl
end Go.Proofs.YtolohpkjpgbahaaRL
end
section
/- a64.plain: registers in order, each once, without 31. -/
set_option linter.unusedVariables false
set_option linter.unusedSimpArgs false
namespace Go.Proofs.Ytolohpkjpgbahaa.isa
open Go Go.Proofs Go.Proofs.YtolohpkjpgbahaaRL
/-- Two or three numbers in order, as they are put there. -/
def sortL : List Int → List Int
  | [a, b] => if b < a then [b, a] else [a, b]
  | [a, b, c] => if b < a then (if c < a then (if c < b then [c, b, a] else [b, c, a]) else [b, a, c]) else (if c < b then (if c < a then [c, a, b] else [a, c, b]) else [a, b, c])
  | l => l
def filtL (l : List Int) : List Int := l.filter fun x => !(x == 31)
def dedL : List Int → List Int
  | [a, b] => if b = a then [a] else [a, b]
  | [a, b, c] => if b = a then (if c = b then [a] else [a, c]) else (if c = b then [a, b] else [a, b, c])
  | l => l
def plainL (l : List Int) : List Int := filtL (dedL (sortL l))
def lessG : List V → Option V
  | [.raw (.int .i64 a), .raw (.int .i64 b)] => some (.raw (.bool (decide (a < b))))
  | _ => none
def AR (g : Nat → Int) (n : Nat) (t : TypeId) : Sto := [.no, .arr (.grow 0) [.int .i64 g] n t]
def lc (l : List Int) : Nat → Int := fun j => l.getD j 0
def gl (g : Nat → Int) : Nat → List Int
  | 1 => [g 0]
  | 2 => [g 0, g 1]
  | 3 => [g 0, g 1, g 2]
  | _ => []
theorem less_run (a b : Int) (K : Res → Prop) : callG Try.prog noE 100 61 [.raw (.int .i64 a), .raw (.int .i64 b)] [] (fun r _ => K r) = Br (a != a) (Br (!(b != b)) (K (.ret (.raw (.bool true)))) (K (.ret (.raw (.bool (decide (a < b))))))) (K (.ret (.raw (.bool (decide (a < b)))))) := by kernel_rfl
theorem lessG_ok {E : Eh} (hE : EOk Try.prog E) : EOk Try.prog (specE 61 lessG E) := by
  refine specE_ok hE fun args v h => ?_
  unfold lessG at h
  split at h
  · rename_i a b
    cases h
    refine ⟨⟨trivial, trivial, trivial⟩, trivial, callG_ok noE_ok names mixed (n := 100) ?_⟩
    have hp := less_run a b fun r => r = .ret (.raw (.bool (decide (a < b))))
    refine hp.mpr ?_
    rw [bne_self_eq_false]
    exact rfl
  · cases h
noncomputable def ELs : Eh := specE 61 lessG noE
theorem ELs_ok : EOk Try.prog ELs := lessG_ok noE_ok
end Go.Proofs.Ytolohpkjpgbahaa.isa
end
section
/- formulas; printed by fm.py out of fm2.Ytolohpkjpgbahaa.spec. -/
namespace Go.Proofs.Ytolohpkjpgbahaa.plainF
open Go Go.Proofs Go.Proofs.YtolohpkjpgbahaaRL  Go.Proofs.Ytolohpkjpgbahaa.isa
set_option linter.unusedVariables false
def s1_f (g : Nat → Int) (t : TypeId) (K : Res → Sto → Prop) : Prop :=
K (Res.ret (V.tup [])) [Ent.no, Ent.arr (AM.grow 0) [Col.int IntKind.i64 g] 1 t]
set_option maxRecDepth 1000000 in
theorem s1_eq (g : Nat → Int) (t : TypeId) (K : Res → Sto → Prop) : callG Try.prog ELs 100 35 [.lse 1 0 1 0 1] (AR g 1 t) K = s1_f g  t  K := by kernel_rfl
def s2_f (g : Nat → Int) (t : TypeId) (K : Res → Sto → Prop) : Prop :=
(match decide (g 1 < g 0) with
| true => K (Res.ret (V.tup [])) [Ent.no, Ent.arr (AM.grow 0) [Col.int IntKind.i64 fun j ↦ match j.beq 0 with | true => g 1 | false => match j.beq 1 with | true => g 0 | false => g j] 2 t]
| false => K (Res.ret (V.tup [])) [Ent.no, Ent.arr (AM.grow 0) [Col.int IntKind.i64 g] 2 t])
set_option maxRecDepth 1000000 in
theorem s2_eq (g : Nat → Int) (t : TypeId) (K : Res → Sto → Prop) : callG Try.prog ELs 100 35 [.lse 1 0 1 0 2] (AR g 2 t) K = s2_f g  t  K := by kernel_rfl
def s3_f (g : Nat → Int) (t : TypeId) (K : Res → Sto → Prop) : Prop :=
(match decide (g 1 < g 0) with
| true => (match decide (g 2 < g 0) with
 | true => (match decide (g 2 < g 1) with
  | true => K (Res.ret (V.tup [])) [Ent.no, Ent.arr (AM.grow 0) [Col.int IntKind.i64 fun j ↦ match j.beq 0 with | true => g 2 | false => match j.beq 1 with | true => g 1 | false => match j.beq 1 with | true => g 2 | false => match j.beq 2 with | true => g 0 | false => match j.beq 0 with | true => g 1 | false => match j.beq 1 with | true => g 0 | false => g j] 3 t]
  | false => K (Res.ret (V.tup [])) [Ent.no, Ent.arr (AM.grow 0) [Col.int IntKind.i64 fun j ↦ match j.beq 1 with | true => g 2 | false => match j.beq 2 with | true => g 0 | false => match j.beq 0 with | true => g 1 | false => match j.beq 1 with | true => g 0 | false => g j] 3 t])
 | false => K (Res.ret (V.tup [])) [Ent.no, Ent.arr (AM.grow 0) [Col.int IntKind.i64 fun j ↦ match j.beq 0 with | true => g 1 | false => match j.beq 1 with | true => g 0 | false => g j] 3 t])
| false => (match decide (g 2 < g 1) with
 | true => (match decide (g 2 < g 0) with
  | true => K (Res.ret (V.tup [])) [Ent.no, Ent.arr (AM.grow 0) [Col.int IntKind.i64 fun j ↦ match j.beq 0 with | true => g 2 | false => match j.beq 1 with | true => g 0 | false => match j.beq 1 with | true => g 2 | false => match j.beq 2 with | true => g 1 | false => g j] 3 t]
  | false => K (Res.ret (V.tup [])) [Ent.no, Ent.arr (AM.grow 0) [Col.int IntKind.i64 fun j ↦ match j.beq 1 with | true => g 2 | false => match j.beq 2 with | true => g 1 | false => g j] 3 t])
 | false => K (Res.ret (V.tup [])) [Ent.no, Ent.arr (AM.grow 0) [Col.int IntKind.i64 g] 3 t]))
set_option maxRecDepth 1000000 in
theorem s3_eq (g : Nat → Int) (t : TypeId) (K : Res → Sto → Prop) : callG Try.prog ELs 100 35 [.lse 1 0 1 0 3] (AR g 3 t) K = s3_f g  t  K := by kernel_rfl
def c1_f (g : Nat → Int) (t : TypeId) (K : Res → Sto → Prop) : Prop :=
K (Res.ret (V.lse 1 0 1 0 1)) [Ent.no, Ent.arr (AM.grow 0) [Col.int IntKind.i64 g] 1 t]
set_option maxRecDepth 1000000 in
theorem c1_eq (g : Nat → Int) (t : TypeId) (K : Res → Sto → Prop) : callG Try.prog ELs 100 37 [.lse 1 0 1 0 1] (AR g 1 t) K = c1_f g  t  K := by kernel_rfl
def c2_f (g : Nat → Int) (t : TypeId) (K : Res → Sto → Prop) : Prop :=
(match g 1 == g 0 with
| true => K (Res.ret (V.lse 1 0 1 0 1)) [Ent.no, Ent.arr (AM.grow 0) [Col.int IntKind.i64 fun j ↦ match Nat.ble 1 j && j.blt 2 with | true => 0 | false => g j] 2 t]
| false => K (Res.ret (V.lse 1 0 1 0 2)) [Ent.no, Ent.arr (AM.grow 0) [Col.int IntKind.i64 g] 2 t])
set_option maxRecDepth 1000000 in
theorem c2_eq (g : Nat → Int) (t : TypeId) (K : Res → Sto → Prop) : callG Try.prog ELs 100 37 [.lse 1 0 1 0 2] (AR g 2 t) K = c2_f g  t  K := by kernel_rfl
def c3_f (g : Nat → Int) (t : TypeId) (K : Res → Sto → Prop) : Prop :=
(match g 1 == g 0 with
| true => (match g 2 != g 1 with
 | true => K (Res.ret (V.lse 1 0 1 0 2)) [Ent.no, Ent.arr (AM.grow 0) [Col.int IntKind.i64 fun j ↦ match Nat.ble 2 j && j.blt 3 with | true => 0 | false => match j.beq 1 with | true => g 2 | false => g j] 3 t]
 | false => K (Res.ret (V.lse 1 0 1 0 1)) [Ent.no, Ent.arr (AM.grow 0) [Col.int IntKind.i64 fun j ↦ match Nat.ble 1 j && j.blt 3 with | true => 0 | false => g j] 3 t])
| false => (match g 2 == g 1 with
 | true => K (Res.ret (V.lse 1 0 1 0 2)) [Ent.no, Ent.arr (AM.grow 0) [Col.int IntKind.i64 fun j ↦ match Nat.ble 2 j && j.blt 3 with | true => 0 | false => g j] 3 t]
 | false => K (Res.ret (V.lse 1 0 1 0 3)) [Ent.no, Ent.arr (AM.grow 0) [Col.int IntKind.i64 g] 3 t]))
set_option maxRecDepth 1000000 in
theorem c3_eq (g : Nat → Int) (t : TypeId) (K : Res → Sto → Prop) : callG Try.prog ELs 100 37 [.lse 1 0 1 0 3] (AR g 3 t) K = c3_f g  t  K := by kernel_rfl
def d1_f (g : Nat → Int) (t : TypeId) (K : Res → Sto → Prop) : Prop :=
(match g 0 == 31 with
| true => K (Res.ret (V.lse 1 0 1 0 0)) [Ent.no, Ent.arr (AM.grow 0) [Col.int IntKind.i64 fun j ↦ match true && j.blt 1 with | true => 0 | false => g j] 1 t]
| false => K (Res.ret (V.lse 1 0 1 0 1)) [Ent.no, Ent.arr (AM.grow 0) [Col.int IntKind.i64 g] 1 t])
set_option maxRecDepth 1000000 in
theorem d1_eq (g : Nat → Int) (t : TypeId) (K : Res → Sto → Prop) : callG Try.prog ELs 100 36 [.lse 1 0 1 0 1, .fn (.func 38) [] []] (AR g 1 t) K = d1_f g  t  K := by kernel_rfl
def d2_f (g : Nat → Int) (t : TypeId) (K : Res → Sto → Prop) : Prop :=
(match g 0 == 31 with
| true => (match !g 1 == 31 with
 | true => K (Res.ret (V.lse 1 0 1 0 1)) [Ent.no, Ent.arr (AM.grow 0) [Col.int IntKind.i64 fun j ↦ match Nat.ble 1 j && j.blt 2 with | true => 0 | false => match j.beq 0 with | true => g 1 | false => g j] 2 t]
 | false => K (Res.ret (V.lse 1 0 1 0 0)) [Ent.no, Ent.arr (AM.grow 0) [Col.int IntKind.i64 fun j ↦ match true && j.blt 2 with | true => 0 | false => g j] 2 t])
| false => (match g 1 == 31 with
 | true => K (Res.ret (V.lse 1 0 1 0 1)) [Ent.no, Ent.arr (AM.grow 0) [Col.int IntKind.i64 fun j ↦ match Nat.ble 1 j && j.blt 2 with | true => 0 | false => g j] 2 t]
 | false => K (Res.ret (V.lse 1 0 1 0 2)) [Ent.no, Ent.arr (AM.grow 0) [Col.int IntKind.i64 g] 2 t]))
set_option maxRecDepth 1000000 in
theorem d2_eq (g : Nat → Int) (t : TypeId) (K : Res → Sto → Prop) : callG Try.prog ELs 100 36 [.lse 1 0 1 0 2, .fn (.func 38) [] []] (AR g 2 t) K = d2_f g  t  K := by kernel_rfl
def d3_f (g : Nat → Int) (t : TypeId) (K : Res → Sto → Prop) : Prop :=
(match g 0 == 31 with
| true => (match !g 1 == 31 with
 | true => (match !g 2 == 31 with
  | true => K (Res.ret (V.lse 1 0 1 0 2)) [Ent.no, Ent.arr (AM.grow 0) [Col.int IntKind.i64 fun j ↦ match Nat.ble 2 j && j.blt 3 with | true => 0 | false => match j.beq 1 with | true => g 2 | false => match j.beq 0 with | true => g 1 | false => g j] 3 t]
  | false => K (Res.ret (V.lse 1 0 1 0 1)) [Ent.no, Ent.arr (AM.grow 0) [Col.int IntKind.i64 fun j ↦ match Nat.ble 1 j && j.blt 3 with | true => 0 | false => match j.beq 0 with | true => g 1 | false => g j] 3 t])
 | false => (match !g 2 == 31 with
  | true => K (Res.ret (V.lse 1 0 1 0 1)) [Ent.no, Ent.arr (AM.grow 0) [Col.int IntKind.i64 fun j ↦ match Nat.ble 1 j && j.blt 3 with | true => 0 | false => match j.beq 0 with | true => g 2 | false => g j] 3 t]
  | false => K (Res.ret (V.lse 1 0 1 0 0)) [Ent.no, Ent.arr (AM.grow 0) [Col.int IntKind.i64 fun j ↦ match true && j.blt 3 with | true => 0 | false => g j] 3 t]))
| false => (match g 1 == 31 with
 | true => (match !g 2 == 31 with
  | true => K (Res.ret (V.lse 1 0 1 0 2)) [Ent.no, Ent.arr (AM.grow 0) [Col.int IntKind.i64 fun j ↦ match Nat.ble 2 j && j.blt 3 with | true => 0 | false => match j.beq 1 with | true => g 2 | false => g j] 3 t]
  | false => K (Res.ret (V.lse 1 0 1 0 1)) [Ent.no, Ent.arr (AM.grow 0) [Col.int IntKind.i64 fun j ↦ match Nat.ble 1 j && j.blt 3 with | true => 0 | false => g j] 3 t])
 | false => (match g 2 == 31 with
  | true => K (Res.ret (V.lse 1 0 1 0 2)) [Ent.no, Ent.arr (AM.grow 0) [Col.int IntKind.i64 fun j ↦ match Nat.ble 2 j && j.blt 3 with | true => 0 | false => g j] 3 t]
  | false => K (Res.ret (V.lse 1 0 1 0 3)) [Ent.no, Ent.arr (AM.grow 0) [Col.int IntKind.i64 g] 3 t])))
set_option maxRecDepth 1000000 in
theorem d3_eq (g : Nat → Int) (t : TypeId) (K : Res → Sto → Prop) : callG Try.prog ELs 100 36 [.lse 1 0 1 0 3, .fn (.func 38) [] []] (AR g 3 t) K = d3_f g  t  K := by kernel_rfl
end Go.Proofs.Ytolohpkjpgbahaa.plainF
end
section
/- a64.plain, as a table's line. -/
set_option linter.unusedVariables false
set_option linter.unusedSimpArgs false
namespace Go.Proofs.Ytolohpkjpgbahaa.isa
open Go Go.Proofs Go.Proofs.YtolohpkjpgbahaaRL
open Go.Proofs.Ytolohpkjpgbahaa.plainF
theorem leafS {c : Nat → Int} {l : List Int} {n N : Nat} {t : TypeId} (hn : n ≤ N) (h : ∀ j, j < n → c j = lc l j) : stoEqv [.no, .arr (.grow 0) [.int .i64 c] N t] (AR (lc l) n t) :=
  ⟨.inl rfl, .inr ⟨rfl, .inr ⟨⟨0, rfl⟩, hn⟩, rfl, ⟨rfl, h⟩, trivial⟩, trivial⟩
theorem lt1 {p : Nat → Prop} (h0 : p 0) : ∀ j, j < 1 → p j := fun j hj => by
  obtain rfl : j = 0 := by omega
  exact h0
theorem lt2 {p : Nat → Prop} (h0 : p 0) (h1 : p 1) : ∀ j, j < 2 → p j := fun j hj => by
  rcases (show j = 0 ∨ j = 1 by omega) with rfl | rfl
  · exact h0
  · exact h1
theorem lt3 {p : Nat → Prop} (h0 : p 0) (h1 : p 1) (h2 : p 2) : ∀ j, j < 3 → p j := fun j hj => by
  rcases (show j = 0 ∨ j = 1 ∨ j = 2 by omega) with rfl | rfl | rfl
  · exact h0
  · exact h1
  · exact h2
abbrev KS (l : List Int) (n : Nat) (v : V) (t : TypeId) : Res → Sto → Prop := fun r s => ∃ s'', stoEqv s s'' ∧ r = .ret v ∧ s'' = AR (lc l) n t
set_option maxRecDepth 100000 in
theorem sort_ok (g : Nat → Int) (t : TypeId) : ∀ n, 0 < n → n < 4 → CallOk Try.prog 35 [.lse 1 0 1 0 n] (AR g n t) fun r s' => r = .ret (.tup []) ∧ s' = AR (lc (sortL (gl g n))) n t
  | 0, h, _ => absurd h (by omega)
  | 1, _, _ => by
    refine CallOk.eqv (callG_ok ELs_ok names mixed (n := 100) ?_)
    have hp := s1_eq g t (KS (sortL (gl g 1)) 1 (.tup []) t)
    exact hp.mpr ⟨_, leafS (Nat.le_refl _) (lt1 rfl), rfl, rfl⟩
  | 2, _, _ => by
    refine CallOk.eqv (callG_ok ELs_ok names mixed (n := 100) ?_)
    have hp := s2_eq g t (KS (sortL (gl g 2)) 2 (.tup []) t)
    refine hp.mpr ?_
    unfold s2_f
    by_cases h1 : g 1 < g 0
    · have hs : sortL (gl g 2) = [g 1, g 0] := if_pos h1
      simp only [decide_eq_true h1]
      exact ⟨_, leafS (Nat.le_refl _) (by rw [hs]; exact lt2 rfl rfl), rfl, rfl⟩
    · have hs : sortL (gl g 2) = [g 0, g 1] := if_neg h1
      simp only [decide_eq_false h1]
      exact ⟨_, leafS (Nat.le_refl _) (by rw [hs]; exact lt2 rfl rfl), rfl, rfl⟩
  | 3, _, _ => by
    refine CallOk.eqv (callG_ok ELs_ok names mixed (n := 100) ?_)
    have hp := s3_eq g t (KS (sortL (gl g 3)) 3 (.tup []) t)
    refine hp.mpr ?_
    unfold s3_f
    have e : sortL (gl g 3) = if g 1 < g 0 then (if g 2 < g 0 then (if g 2 < g 1 then [g 2, g 1, g 0] else [g 1, g 2, g 0]) else [g 1, g 0, g 2]) else (if g 2 < g 1 then (if g 2 < g 0 then [g 2, g 0, g 1] else [g 0, g 2, g 1]) else [g 0, g 1, g 2]) := rfl
    by_cases h1 : g 1 < g 0
    · by_cases h2 : g 2 < g 0
      · by_cases h3 : g 2 < g 1
        · simp only [decide_eq_true h1, decide_eq_true h2, decide_eq_true h3]
          rw [if_pos h1, if_pos h2, if_pos h3] at e
          exact ⟨_, leafS (Nat.le_refl _) (by rw [e]; exact lt3 rfl rfl rfl), rfl, rfl⟩
        · simp only [decide_eq_true h1, decide_eq_true h2, decide_eq_false h3]
          rw [if_pos h1, if_pos h2, if_neg h3] at e
          exact ⟨_, leafS (Nat.le_refl _) (by rw [e]; exact lt3 rfl rfl rfl), rfl, rfl⟩
      · simp only [decide_eq_true h1, decide_eq_false h2]
        rw [if_pos h1, if_neg h2] at e
        exact ⟨_, leafS (Nat.le_refl _) (by rw [e]; exact lt3 rfl rfl rfl), rfl, rfl⟩
    · by_cases h2 : g 2 < g 1
      · by_cases h3 : g 2 < g 0
        · simp only [decide_eq_false h1, decide_eq_true h2, decide_eq_true h3]
          rw [if_neg h1, if_pos h2, if_pos h3] at e
          exact ⟨_, leafS (Nat.le_refl _) (by rw [e]; exact lt3 rfl rfl rfl), rfl, rfl⟩
        · simp only [decide_eq_false h1, decide_eq_true h2, decide_eq_false h3]
          rw [if_neg h1, if_pos h2, if_neg h3] at e
          exact ⟨_, leafS (Nat.le_refl _) (by rw [e]; exact lt3 rfl rfl rfl), rfl, rfl⟩
      · simp only [decide_eq_false h1, decide_eq_false h2]
        rw [if_neg h1, if_neg h2] at e
        exact ⟨_, leafS (Nat.le_refl _) (by rw [e]; exact lt3 rfl rfl rfl), rfl, rfl⟩
  | n + 4, _, h => absurd h (by omega)
abbrev AV (n : Nat) : V := .lse 1 0 1 0 n
set_option maxRecDepth 100000 in
theorem comp_ok (g : Nat → Int) (t : TypeId) : ∀ n, 0 < n → n < 4 → CallOk Try.prog 37 [AV n] (AR g n t) fun r s' => r = .ret (AV (dedL (gl g n)).length) ∧ s' = AR (lc (dedL (gl g n))) (dedL (gl g n)).length t
  | 0, h, _ => absurd h (by omega)
  | 1, _, _ => by
    refine CallOk.eqv (callG_ok ELs_ok names mixed (n := 100) ?_)
    have hp := c1_eq g t (KS (dedL (gl g 1)) (dedL (gl g 1)).length (AV (dedL (gl g 1)).length) t)
    exact hp.mpr ⟨_, leafS (Nat.le_refl _) (lt1 rfl), rfl, rfl⟩
  | 2, _, _ => by
    refine CallOk.eqv (callG_ok ELs_ok names mixed (n := 100) ?_)
    have hp := c2_eq g t (KS (dedL (gl g 2)) (dedL (gl g 2)).length (AV (dedL (gl g 2)).length) t)
    refine hp.mpr ?_
    unfold c2_f
    by_cases h1 : g 1 = g 0
    · have hs : dedL (gl g 2) = [g 0] := if_pos h1
      rw [hs]
      have b1 : (g 1 == g 0) = true := by rw [h1, beq_self_eq_true]
      simp only [b1]
      exact ⟨_, leafS (by decide) (lt1 rfl), rfl, rfl⟩
    · have hs : dedL (gl g 2) = [g 0, g 1] := if_neg h1
      rw [hs]
      have b1 : (g 1 == g 0) = false := by simp [h1]
      simp only [b1]
      exact ⟨_, leafS (by decide) (lt2 rfl rfl), rfl, rfl⟩
  | 3, _, _ => by
    refine CallOk.eqv (callG_ok ELs_ok names mixed (n := 100) ?_)
    have hp := c3_eq g t (KS (dedL (gl g 3)) (dedL (gl g 3)).length (AV (dedL (gl g 3)).length) t)
    refine hp.mpr ?_
    unfold c3_f
    have e : dedL (gl g 3) = if g 1 = g 0 then (if g 2 = g 1 then [g 0] else [g 0, g 2]) else (if g 2 = g 1 then [g 0, g 1] else [g 0, g 1, g 2]) := rfl
    by_cases h1 : g 1 = g 0
    · have b1 : (g 1 == g 0) = true := by rw [h1, beq_self_eq_true]
      by_cases h2 : g 2 = g 1
      · have b2 : (g 2 != g 1) = false := by rw [h2, bne_self_eq_false]
        rw [if_pos h1, if_pos h2] at e
        rw [e]
        simp only [b1, b2]
        exact ⟨_, leafS (by decide) (lt1 rfl), rfl, rfl⟩
      · have b2 : (g 2 != g 1) = true := by simp [h2]
        rw [if_pos h1, if_neg h2] at e
        rw [e]
        simp only [b1, b2]
        exact ⟨_, leafS (by decide) (lt2 rfl rfl), rfl, rfl⟩
    · have b1 : (g 1 == g 0) = false := by simp [h1]
      by_cases h2 : g 2 = g 1
      · have b2 : (g 2 == g 1) = true := by rw [h2, beq_self_eq_true]
        rw [if_neg h1, if_pos h2] at e
        rw [e]
        simp only [b1, b2]
        exact ⟨_, leafS (by decide) (lt2 rfl rfl), rfl, rfl⟩
      · have b2 : (g 2 == g 1) = false := by simp [h2]
        rw [if_neg h1, if_neg h2] at e
        rw [e]
        simp only [b1, b2]
        exact ⟨_, leafS (by decide) (lt3 rfl rfl rfl), rfl, rfl⟩
  | n + 4, _, h => absurd h (by omega)
theorem filt_t {x : Int} {l : List Int} (h : (x == 31) = true) : filtL (x :: l) = filtL l := by simp [filtL, h]
theorem filt_f {x : Int} {l : List Int} (h : (x == 31) = false) : filtL (x :: l) = x :: filtL l := by
  unfold filtL
  rw [List.filter_cons_of_pos (by simpa using h)]
set_option maxRecDepth 100000 in
theorem del_ok (g : Nat → Int) (t : TypeId) : ∀ n, 0 < n → n < 4 → CallOk Try.prog 36 [AV n, .fn (.func 38) [] []] (AR g n t) fun r s' => r = .ret (AV (filtL (gl g n)).length) ∧ s' = AR (lc (filtL (gl g n))) (filtL (gl g n)).length t
  | 0, h, _ => absurd h (by omega)
  | 1, _, _ => by
    refine CallOk.eqv (callG_ok ELs_ok names mixed (n := 100) ?_)
    have hp := d1_eq g t (KS (filtL (gl g 1)) (filtL (gl g 1)).length (AV (filtL (gl g 1)).length) t)
    refine hp.mpr ?_
    unfold d1_f
    cases b0 : (g 0 == 31)
    · have e : filtL (gl g 1) = [g 0] := filt_f b0
      rw [e]
      exact ⟨_, leafS (by decide) (lt1 rfl), rfl, rfl⟩
    · have e : filtL (gl g 1) = [] := filt_t b0
      rw [e]
      exact ⟨_, leafS (by decide) (fun j hj => absurd hj (by simp)), rfl, rfl⟩
  | 2, _, _ => by
    refine CallOk.eqv (callG_ok ELs_ok names mixed (n := 100) ?_)
    have hp := d2_eq g t (KS (filtL (gl g 2)) (filtL (gl g 2)).length (AV (filtL (gl g 2)).length) t)
    refine hp.mpr ?_
    unfold d2_f
    cases b0 : (g 0 == 31) <;> cases b1 : (g 1 == 31)
    · have e : filtL (gl g 2) = [g 0, g 1] := (filt_f b0).trans (by rw [filt_f b1]; rfl)
      rw [e]
      exact ⟨_, leafS (by decide) (lt2 rfl rfl), rfl, rfl⟩
    · have e : filtL (gl g 2) = [g 0] := (filt_f b0).trans (by rw [filt_t b1]; rfl)
      rw [e]
      exact ⟨_, leafS (by decide) (lt1 rfl), rfl, rfl⟩
    · have e : filtL (gl g 2) = [g 1] := (filt_t b0).trans (by rw [filt_f b1]; rfl)
      rw [e]
      exact ⟨_, leafS (by decide) (lt1 rfl), rfl, rfl⟩
    · have e : filtL (gl g 2) = [] := (filt_t b0).trans (by rw [filt_t b1]; rfl)
      rw [e]
      exact ⟨_, leafS (by decide) (fun j hj => absurd hj (by simp)), rfl, rfl⟩
  | 3, _, _ => by
    refine CallOk.eqv (callG_ok ELs_ok names mixed (n := 100) ?_)
    have hp := d3_eq g t (KS (filtL (gl g 3)) (filtL (gl g 3)).length (AV (filtL (gl g 3)).length) t)
    refine hp.mpr ?_
    unfold d3_f
    cases b0 : (g 0 == 31) <;> cases b1 : (g 1 == 31) <;> cases b2 : (g 2 == 31)
    · have e : filtL (gl g 3) = [g 0, g 1, g 2] := (filt_f b0).trans (by rw [filt_f b1, filt_f b2]; rfl)
      rw [e]
      exact ⟨_, leafS (by decide) (lt3 rfl rfl rfl), rfl, rfl⟩
    · have e : filtL (gl g 3) = [g 0, g 1] := (filt_f b0).trans (by rw [filt_f b1, filt_t b2]; rfl)
      rw [e]
      exact ⟨_, leafS (by decide) (lt2 rfl rfl), rfl, rfl⟩
    · have e : filtL (gl g 3) = [g 0, g 2] := (filt_f b0).trans (by rw [filt_t b1, filt_f b2]; rfl)
      rw [e]
      exact ⟨_, leafS (by decide) (lt2 rfl rfl), rfl, rfl⟩
    · have e : filtL (gl g 3) = [g 0] := (filt_f b0).trans (by rw [filt_t b1, filt_t b2]; rfl)
      rw [e]
      exact ⟨_, leafS (by decide) (lt1 rfl), rfl, rfl⟩
    · have e : filtL (gl g 3) = [g 1, g 2] := (filt_t b0).trans (by rw [filt_f b1, filt_f b2]; rfl)
      rw [e]
      exact ⟨_, leafS (by decide) (lt2 rfl rfl), rfl, rfl⟩
    · have e : filtL (gl g 3) = [g 1] := (filt_t b0).trans (by rw [filt_f b1, filt_t b2]; rfl)
      rw [e]
      exact ⟨_, leafS (by decide) (lt1 rfl), rfl, rfl⟩
    · have e : filtL (gl g 3) = [g 2] := (filt_t b0).trans (by rw [filt_t b1, filt_f b2]; rfl)
      rw [e]
      exact ⟨_, leafS (by decide) (lt1 rfl), rfl, rfl⟩
    · have e : filtL (gl g 3) = [] := (filt_t b0).trans (by rw [filt_t b1, filt_t b2]; rfl)
      rw [e]
      exact ⟨_, leafS (by decide) (fun j hj => absurd hj (by simp)), rfl, rfl⟩
  | n + 4, _, h => absurd h (by omega)
end Go.Proofs.Ytolohpkjpgbahaa.isa
end
section
/- a64.plain of at most three registers, at a small store. -/
set_option linter.unusedVariables false
set_option linter.unusedSimpArgs false
namespace Go.Proofs.Ytolohpkjpgbahaa.isa
open Go Go.Proofs Go.Proofs.YtolohpkjpgbahaaRL
def lit3 {α : Type} (n : Nat) (f : Nat → α) (d : α) : α := match n with
  | 1 => f 1
  | 2 => f 2
  | 3 => f 3
  | _ => d
theorem lit3_some {α : Type} {n : Nat} {f : Nat → α} {a : α} (h : lit3 n (fun n => some (f n)) none = some a) : 0 < n ∧ n < 4 ∧ f n = a := by
  unfold lit3 at h
  split at h
  · cases h; exact ⟨by decide, by decide, rfl⟩
  · cases h; exact ⟨by decide, by decide, rfl⟩
  · cases h; exact ⟨by decide, by decide, rfl⟩
  · cases h
def atAR (G : Nat → (Nat → Int) → TypeId → Ans) : List V → Sto → Option Ans
  | .lse 1 0 1 0 n :: _, [.no, .arr (.grow 0) [.int .i64 g] m t] => match Nat.beq n m with
    | true => lit3 n (fun n => some (G n g t)) none
    | false => none
  | _, _ => none
theorem atAR_some {G : Nat → (Nat → Int) → TypeId → Ans} {args : List V} {s : Sto} {a : Ans} (h : atAR G args s = some a) : ∃ n g t b, 0 < n ∧ n < 4 ∧ args = .lse 1 0 1 0 n :: b ∧ s = AR g n t ∧ a = G n g t := by
  unfold atAR at h
  split at h
  · split at h
    · rename_i n b g m t _ hb
      obtain ⟨h1, h2, h3⟩ := lit3_some h
      obtain rfl := Nat.eq_of_beq_eq_true hb
      exact ⟨n, g, t, b, h1, h2, rfl, rfl, h3.symm⟩
    · cases h
  · cases h
/-- A list of at most three, by its length. -/
def byLen (l : List Int) (t : TypeId) : Ans := .br (Nat.beq l.length 1) (.one (.ret (AV 1)) (AR (lc l) 1 t)) (.br (Nat.beq l.length 2) (.one (.ret (AV 2)) (AR (lc l) 2 t)) (.br (Nat.beq l.length 3) (.one (.ret (AV 3)) (AR (lc l) 3 t)) .no))
theorem byLen_is {l : List Int} {t : TypeId} (hf : (byLen l t).fine) {r : Res} {s : Sto} (h : r = .ret (AV l.length) ∧ s = AR (lc l) l.length t) : (byLen l t).is r s := by
  obtain ⟨rfl, rfl⟩ := h
  unfold byLen at hf ⊢
  rcases hf with ⟨h1, _⟩ | ⟨h1, ⟨h2, _⟩ | ⟨h2, ⟨h3, _⟩ | ⟨_, h3⟩⟩⟩
  · refine .inl ⟨h1, ?_⟩
    rw [Nat.eq_of_beq_eq_true h1]
    exact ⟨rfl, rfl⟩
  · refine .inr ⟨h1, .inl ⟨h2, ?_⟩⟩
    rw [Nat.eq_of_beq_eq_true h2]
    exact ⟨rfl, rfl⟩
  · refine .inr ⟨h1, .inr ⟨h2, .inl ⟨h3, ?_⟩⟩⟩
    rw [Nat.eq_of_beq_eq_true h3]
    exact ⟨rfl, rfl⟩
  · exact h3.elim
def sortA : List V → Sto → Option Ans
  | [a], s => atAR (fun n g t => .one (.ret (.tup [])) (AR (lc (sortL (gl g n))) n t)) [a] s
  | _, _ => none
def compA : List V → Sto → Option Ans
  | [a], s => atAR (fun n g t => byLen (dedL (gl g n)) t) [a] s
  | _, _ => none
def delA : List V → Sto → Option Ans
  | [a, .fn (.func f) [] []], s => match Nat.beq f 38 with
    | true => atAR (fun n g t => .one (.ret (AV (filtL (gl g n)).length)) (AR (lc (filtL (gl g n))) (filtL (gl g n)).length t)) [a] s
    | false => none
  | _, _ => none
noncomputable def EPl : Eh := addE 35 sortA (addE 37 compA (addE 36 delA noE))
theorem EPl_ok : EOk Try.prog EPl := by
  refine addE_ok (addE_ok (addE_ok noE_ok ?_) ?_) ?_
  · intro args s a h hf
    unfold delA at h
    split at h
    · split at h
      · rename_i a' f hb
        obtain ⟨n, g, t, b, h1, h2, h3, rfl, rfl⟩ := atAR_some h
        cases h3
        obtain rfl := Nat.eq_of_beq_eq_true hb
        exact del_ok g t n h1 h2
      · cases h
    · cases h
  · intro args s a h hf
    unfold compA at h
    split at h
    · obtain ⟨n, g, t, b, h1, h2, h3, rfl, rfl⟩ := atAR_some h
      cases h3
      exact (comp_ok g t n h1 h2).mono fun r s' hk => byLen_is hf hk
    · cases h
  · intro args s a h hf
    unfold sortA at h
    split at h
    · obtain ⟨n, g, t, b, h1, h2, h3, rfl, rfl⟩ := atAR_some h
      cases h3
      exact sort_ok g t n h1 h2
    · cases h
end Go.Proofs.Ytolohpkjpgbahaa.isa
end
