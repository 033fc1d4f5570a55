/- CacheOwn: plain facts of numbers. -/
import Derived.Test.YtaefmkabflkpjaazCacheOwnRLRow4
namespace Go.Proofs.Ytaefmkabflkpjaa.cacheOwn
open Go Go.Proofs Go.Proofs.YtaefmkabflkpjaaRL
set_option linter.unusedVariables false
set_option linter.unusedSimpArgs false
theorem blt_yes {a b : Nat} (h : a < b) : Nat.blt a b = true := by rw [Nat.blt_eq]; exact h
theorem w64 {x : Int} (h1 : -9223372036854775808 ≤ x) (h2 : x ≤ 9223372036854775807) : IntKind.i64.wrap x = x := IntWalk.i64_in _ (by omega)
theorem wrap_next {i : Nat} (h : i ≤ 1000) : IntKind.i64.wrap ((i : Int) + 1) = ((i + 1 : Nat) : Int) := by rw [w64 (by omega) (by omega)]; rfl
theorem grow_ok {n : Nat} (h : n ≤ 1000) : growOk n 4 = true := by
  unfold growOk
  rw [Nat.ble_eq_true_of_le (by omega), Nat.ble_eq_true_of_le (by omega)]; rfl
theorem taken_ge {x : Int} (h : 1 ≤ x ∧ x ≤ 1000) : decide (x > IntKind.i64.wrap (IntKind.i64.wrap ((IntKind.i64.wrap (IntKind.i64.wrap (x + 16) - 1)).tdiv 16) * 16)) = false := by
  refine decide_eq_false ?_
  rw [w64 (x := x + 16) (by omega) (by omega), w64 (x := x + 16 - 1) (by omega) (by omega), Int.tdiv_eq_ediv_of_nonneg (by omega), w64 (x := (x + 16 - 1) / 16) (by omega) (by omega), w64 (by omega) (by omega)]
  omega
theorem bytes_pos {n : Nat} (h : 0 < n) (h2 : n ≤ 1000) : decide (0 < IntKind.u64.wrap (4 * IntKind.u64.wrap (n : Int))) = true := by
  refine decide_eq_true ?_
  rw [IntWalk.u64_in (n : Int) (by omega), IntWalk.u64_in (4 * (n : Int)) (by omega)]
  omega
end Go.Proofs.Ytaefmkabflkpjaa.cacheOwn
