/- Parts of the proof, one behind the other. -/
import Derived.Test.YtolohpkjpgbahaazSemFramesIInT
import Derived.Test.YtolohpkjpgbahaazSemFramesRLX
section
/- formulas; printed by fm.py out of fm2.Ytolohpkjpgbahaa.spec. -/
namespace Go.Proofs.Ytolohpkjpgbahaa.hasF
open Go Go.Proofs Go.Proofs.YtolohpkjpgbahaaRL 
set_option linter.unusedVariables false
def c0_f (g : Nat → Int) (t : TypeId) (N cap : Nat) (x : Int) (K : V → Prop) : Prop :=
K (V.raw (Value.bool false))
set_option maxRecDepth 1000000 in
theorem c0_eq (g : Nat → Int) (t : TypeId) (N cap : Nat) (x : Int) (K : V → Prop) : callG Try.prog noE 100 20 [.sle 0 1 0 0 cap, .raw (.int .i64 x)] [.arr .ro [.int .i64 g] N t] (fun r _ => match r with | .ret v => K v | .pan _ => False) = c0_f g  t  N cap  x  K := by kernel_rfl
def c1_f (g : Nat → Int) (t : TypeId) (N cap : Nat) (x : Int) (K : V → Prop) : Prop :=
(match Nat.blt 0 N with
| true => (match g 0 == x with
 | true => K (V.raw (Value.bool true))
 | false => K (V.raw (Value.bool false)))
| false => False)
set_option maxRecDepth 1000000 in
theorem c1_eq (g : Nat → Int) (t : TypeId) (N cap : Nat) (x : Int) (K : V → Prop) : callG Try.prog noE 100 20 [.sle 0 1 0 1 cap, .raw (.int .i64 x)] [.arr .ro [.int .i64 g] N t] (fun r _ => match r with | .ret v => K v | .pan _ => False) = c1_f g  t  N cap  x  K := by kernel_rfl
def c2_f (g : Nat → Int) (t : TypeId) (N cap : Nat) (x : Int) (K : V → Prop) : Prop :=
(match Nat.blt 0 N with
| true => (match g 0 == x with
 | true => K (V.raw (Value.bool true))
 | false => (match Nat.blt 1 N with
  | true => (match g 1 == x with
   | true => K (V.raw (Value.bool true))
   | false => K (V.raw (Value.bool false)))
  | false => False))
| false => False)
set_option maxRecDepth 1000000 in
theorem c2_eq (g : Nat → Int) (t : TypeId) (N cap : Nat) (x : Int) (K : V → Prop) : callG Try.prog noE 100 20 [.sle 0 1 0 2 cap, .raw (.int .i64 x)] [.arr .ro [.int .i64 g] N t] (fun r _ => match r with | .ret v => K v | .pan _ => False) = c2_f g  t  N cap  x  K := by kernel_rfl
def c3_f (g : Nat → Int) (t : TypeId) (N cap : Nat) (x : Int) (K : V → Prop) : Prop :=
(match Nat.blt 0 N with
| true => (match g 0 == x with
 | true => K (V.raw (Value.bool true))
 | false => (match Nat.blt 1 N with
  | true => (match g 1 == x with
   | true => K (V.raw (Value.bool true))
   | false => (match Nat.blt 2 N with
    | true => (match g 2 == x with
     | true => K (V.raw (Value.bool true))
     | false => K (V.raw (Value.bool false)))
    | false => False))
  | false => False))
| false => False)
set_option maxRecDepth 1000000 in
theorem c3_eq (g : Nat → Int) (t : TypeId) (N cap : Nat) (x : Int) (K : V → Prop) : callG Try.prog noE 100 20 [.sle 0 1 0 3 cap, .raw (.int .i64 x)] [.arr .ro [.int .i64 g] N t] (fun r _ => match r with | .ret v => K v | .pan _ => False) = c3_f g  t  N cap  x  K := by kernel_rfl
def cn_f (x : Int) (K : V → Prop) : Prop :=
K (V.raw (Value.bool false))
set_option maxRecDepth 1000000 in
theorem cn_eq (x : Int) (K : V → Prop) : callG Try.prog noE 100 20 [.raw (.slice none 0 0), .raw (.int .i64 x)] [] (fun r _ => match r with | .ret v => K v | .pan _ => False) = cn_f x  K := by kernel_rfl
end Go.Proofs.Ytolohpkjpgbahaa.hasF
end
section
/- brazierlaw6.has, of at most three, as a table's line. -/
set_option linter.unusedVariables false
set_option linter.unusedSimpArgs false
set_option maxRecDepth 100000
namespace Go.Proofs.Ytolohpkjpgbahaa.semFrames
open Go Go.Proofs Go.Proofs.YtolohpkjpgbahaaRL Go.Proofs.Ytolohpkjpgbahaa.isa Go.Proofs.Ytolohpkjpgbahaa.hasF
def hasG (g : Nat → Int) (n : Nat) (x : Int) : Bool := ((List.range n).map g).any fun y => y == x
abbrev rK (K : V → Prop) : Res → Sto → Prop := fun r _ => match r with | .ret v => K v | .pan _ => False
theorem rK_ok {u : V} : ∀ (r : Res) (s : Sto), rK (fun v => v = u) r s → r = .ret u
  | .ret v, s, h => congrArg Res.ret h
  | .pan v, s, h => h.elim
theorem blt_lt {a b : Nat} (h : a < b) : Nat.blt a b = true := by rw [Nat.blt_eq]; exact h
theorem has_ok (g : Nat → Int) (t : TypeId) (N cap : Nat) (x : Int) : ∀ n, n ≤ N → n < 4 → CallOk Try.prog 20 [.sle 0 1 0 n cap, .raw (.int .i64 x)] [.arr .ro [.int .i64 g] N t] fun r _ => r = .ret (.raw (.bool (hasG g n x)))
  | 0, _, _ => by
    refine (callG_ok noE_ok names mixed (n := 100) (K := rK fun v => v = .raw (.bool (hasG g 0 x))) ?_).mono rK_ok
    have hp := c0_eq g t N cap x fun v => v = .raw (.bool (hasG g 0 x))
    exact hp.mpr rfl
  | 1, h, _ => by
    refine (callG_ok noE_ok names mixed (n := 100) (K := rK fun v => v = .raw (.bool (hasG g 1 x))) ?_).mono rK_ok
    have hp := c1_eq g t N cap x fun v => v = .raw (.bool (hasG g 1 x))
    refine hp.mpr ?_
    have e : hasG g 1 x = ((g 0 == x) || false) := rfl
    unfold c1_f
    rw [e, blt_lt (show 0 < N by omega)]
    cases g 0 == x <;> rfl
  | 2, h, _ => by
    refine (callG_ok noE_ok names mixed (n := 100) (K := rK fun v => v = .raw (.bool (hasG g 2 x))) ?_).mono rK_ok
    have hp := c2_eq g t N cap x fun v => v = .raw (.bool (hasG g 2 x))
    refine hp.mpr ?_
    have e : hasG g 2 x = ((g 0 == x) || ((g 1 == x) || false)) := rfl
    unfold c2_f
    rw [e, blt_lt (show 0 < N by omega), blt_lt (show 1 < N by omega)]
    cases g 0 == x <;> cases g 1 == x <;> rfl
  | 3, h, _ => by
    refine (callG_ok noE_ok names mixed (n := 100) (K := rK fun v => v = .raw (.bool (hasG g 3 x))) ?_).mono rK_ok
    have hp := c3_eq g t N cap x fun v => v = .raw (.bool (hasG g 3 x))
    refine hp.mpr ?_
    have e : hasG g 3 x = ((g 0 == x) || ((g 1 == x) || ((g 2 == x) || false))) := rfl
    unfold c3_f
    rw [e, blt_lt (show 0 < N by omega), blt_lt (show 1 < N by omega), blt_lt (show 2 < N by omega)]
    cases g 0 == x <;> cases g 1 == x <;> cases g 2 == x <;> rfl
  | n + 4, _, h => absurd h (by omega)
def hasA : List V → Sto → Option Ans
  | [.raw (.slice none 0 0), .raw (.int .i64 x)], s => some (.one (.ret (.raw (.bool false))) s)
  | [.lse i k 1 0 n, .raw (.int .i64 x)], s => match s[i]? with
    | some (.arr m [.int .i64 g] N t) => some (.br (Nat.blt n 4) (.br (Nat.ble n N) (.one (.ret (.raw (.bool (hasG g n x)))) s) .no) .no)
    | _ => none
  | _, _ => none
theorem hasA_ok {E : Eh} (hE : EOk Try.prog E) : EOk Try.prog (addE 20 hasA E) := by
  refine addE_ok hE fun args s a h hf => ?_
  unfold hasA at h
  split at h
  · rename_i x
    cases h
    refine CallOk.anywhere ?_ ⟨trivial, trivial, trivial⟩ trivial
    refine (callG_ok noE_ok names mixed (n := 100) (K := rK fun v => v = .raw (.bool false)) ?_).mono rK_ok
    have hp := cn_eq x fun v => v = .raw (.bool false)
    exact hp.mpr rfl
  · split at h
    · rename_i i k n x _ m g N t hi
      cases h
      rcases hf with ⟨h1, hf⟩ | ⟨_, hf⟩
      · rcases hf with ⟨h2, _⟩ | ⟨_, hf⟩
        · rw [Nat.blt_eq] at h1
          have h2' := Nat.le_of_ble_eq_true h2
          refine CallOk.mono (K := fun r s' => r = .ret (.raw (.bool (hasG g n x))) ∧ s' = s) ?_ fun r s' h => .inl ⟨by rw [Nat.blt_eq]; exact h1, .inl ⟨h2, h⟩⟩
          exact CallOk.lse1 (a := []) fun cap => CallOk.reads1 (args0 := [.sle 0 1 0 n cap, .raw (.int .i64 x)]) hi ⟨Nat.zero_lt_one, trivial, trivial⟩ trivial (has_ok g t N cap x n h2' h1)
        · exact hf.elim
      · exact hf.elim
    · cases h
  · cases h
end Go.Proofs.Ytolohpkjpgbahaa.semFrames
end
