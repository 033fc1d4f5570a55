/- Rows of instructions, by columns. -/
import Derived.Test.YtbjikmepfpkmjaazEncRowsIWord
namespace Go.Proofs.Ytbjikmepfpkmjaa.isa
open Go Go.Proofs Go.Proofs.YtbjikmepfpkmjaaRL
set_option linter.unusedVariables false
structure InsC where
  op : Nat → Int
  d : Nat → Int
  n : Nat → Int
  m : Nat → Int
  a : Nat → Int
  c : Nat → Int
  im : Nat → Int
def InsC.cols (I : InsC) : List Col := [.int .i64 I.op, .int .i64 I.d, .int .i64 I.n, .int .i64 I.m, .int .i64 I.a, .int .i64 I.c, .int .i64 I.im]
def InsC.E (I : InsC) (j : Nat) : Int := chkV (I.op j) (I.d j) (I.n j) (I.m j) (I.a j) (I.c j) (I.im j)
def InsC.W (I : InsC) (j : Nat) : Int := wordV (I.op j) (I.d j) (I.n j) (I.m j) (I.a j) (I.c j) (I.im j)
/-- Are the first n right? -/
def InsC.all (I : InsC) (n : Nat) : Prop := ∀ j, j < n → I.E j = 0
instance (I : InsC) (n : Nat) : Decidable (I.all n) := by unfold InsC.all; infer_instance
theorem E_01 (I : InsC) (j : Nat) : I.E j = 0 ∨ I.E j = 1 := by
  unfold InsC.E chkV
  split
  · exact .inl rfl
  · exact .inr rfl
def readInsC : List Col → Option InsC
  | [.int .i64 op, .int .i64 d, .int .i64 n, .int .i64 m, .int .i64 a, .int .i64 c, .int .i64 im] => some ⟨op, d, n, m, a, c, im⟩
  | _ => none
theorem readInsC_eq {cols : List Col} {I : InsC} (h : readInsC cols = some I) : cols = I.cols := by
  unfold readInsC at h
  split at h
  · cases h; rfl
  · cases h
theorem blt_yes {a b : Nat} (h : a < b) : Nat.blt a b = true := by rw [Nat.blt_eq]; exact h
theorem wrap_next {i : Nat} (h : i ≤ 1000000) : IntKind.i64.wrap ((i : Int) + 1) = ((i + 1 : Nat) : Int) := by rw [wrap_i64_in (by omega) (by omega)]; rfl
theorem grow_ok {n b : Nat} (h : n ≤ 1000000) (hb : b ≤ 1000) : growOk n b = true := by
  have h1 : n * b ≤ 1000000 * 1000 := Nat.mul_le_mul h hb
  unfold growOk
  rw [Nat.ble_eq_true_of_le (by omega), Nat.ble_eq_true_of_le (by omega)]; rfl
theorem toNat0 (i : Nat) : ((i : Int)).toNat + 0 = i := rfl
theorem ble_self (i : Nat) : Nat.ble i i = true := Nat.ble_eq_true_of_le (Nat.le_refl _)
end Go.Proofs.Ytbjikmepfpkmjaa.isa
