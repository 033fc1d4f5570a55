/- A64Kinds: the law's function tells true. -/
import Derived.Test.YtpahclogghdnpaaDoorzA64KindsAKn
set_option linter.unusedVariables false
set_option linter.unusedSimpArgs false
set_option maxRecDepth 1000000
namespace Go.Proofs.YtpahclogghdnpaaDoor.a64Kinds
open Go Go.Proofs Go.Proofs.YtpahclogghdnpaaDoorRL Go.Proofs.YtpahclogghdnpaaDoor.isa Go.Proofs.YtpahclogghdnpaaDoor.a64
noncomputable def EN : Eh := addE 7 knA (addE 15 nameA noE)
theorem EN_ok : EOk Try.prog EN := knA_ok (nameA_ok noE_ok)
noncomputable abbrev cd : Code := codeOf Try.prog 6
noncomputable def c5 : Code := subAt [0,0,0,0,0] cd
noncomputable def c7 : Code := subAt [0,0] c5
abbrev KB (K : V → Prop) : Ex → St → Prop := bodyK False Try.prog (funcOf Try.prog 6) (rK K)
def live : List Nat := [3,4,5,6]
def SP (stop : Int) : St := ⟨75, [(3, .ptr 1 0), (4, .ptr 2 0), (5, .fn (.func 39) [] []), (6, .ptr 3 0)], [gE, .own [.raw (.int .i64 stop)] 3, .own [bV false] 4, .own [.raw (.int .i64 0)] 3]⟩
noncomputable abbrev st0 (op stop : Int) : St := ⟨(funcOf Try.prog 6).ntmps, zipArgs 0 [.raw (.int .i64 op), .raw (.int .i64 stop)], [gE]⟩
def brk (stop : Int) (Z : Prop) : Nat → Nat → Prop
  | _, 0 => Z
  | k, f + 1 => Br (decide ((k : Int) + 1 > stop)) Z (brk stop Z (k + 1) f)
section
variable (stop : Int) (K : V → Prop) (Z : St → Prop)
theorem a_lit : ∀ k : Nat, k < 43 → evTo Try.prog EN 400 1 (fun st => Z (gcSt 1 live st)) [0,0,0,0,0] cd (st0 (k : Nat) stop) (KB K) = Z (SP stop)
  | 0, _ => by kernel_rfl
  | 1, _ => by kernel_rfl
  | 2, _ => by kernel_rfl
  | 3, _ => by kernel_rfl
  | 4, _ => by kernel_rfl
  | 5, _ => by kernel_rfl
  | 6, _ => by kernel_rfl
  | 7, _ => by kernel_rfl
  | 8, _ => by kernel_rfl
  | 9, _ => by kernel_rfl
  | 10, _ => by kernel_rfl
  | 11, _ => by kernel_rfl
  | 12, _ => by kernel_rfl
  | 13, _ => by kernel_rfl
  | 14, _ => by kernel_rfl
  | 15, _ => by kernel_rfl
  | 16, _ => by kernel_rfl
  | 17, _ => by kernel_rfl
  | 18, _ => by kernel_rfl
  | 19, _ => by kernel_rfl
  | 20, _ => by kernel_rfl
  | 21, _ => by kernel_rfl
  | 22, _ => by kernel_rfl
  | 23, _ => by kernel_rfl
  | 24, _ => by kernel_rfl
  | 25, _ => by kernel_rfl
  | 26, _ => by kernel_rfl
  | 27, _ => by kernel_rfl
  | 28, _ => by kernel_rfl
  | 29, _ => by kernel_rfl
  | 30, _ => by kernel_rfl
  | 31, _ => by kernel_rfl
  | 32, _ => by kernel_rfl
  | 33, _ => by kernel_rfl
  | 34, _ => by kernel_rfl
  | 35, _ => by kernel_rfl
  | 36, _ => by kernel_rfl
  | 37, _ => by kernel_rfl
  | 38, _ => by kernel_rfl
  | 39, _ => by kernel_rfl
  | 40, _ => by kernel_rfl
  | 41, _ => by kernel_rfl
  | 42, _ => by kernel_rfl
  | k + 43, h => absurd h (by omega)
theorem a_neg (k : Nat) : evTo Try.prog EN 400 1 (fun st => Z (gcSt 1 live st)) [0,0,0,0,0] cd (st0 (Int.negSucc k) stop) (KB K) = Br (decide (Int.negSucc k < 0)) (Z (SP stop)) False := by kernel_rfl
theorem a_big (k : Nat) : evTo Try.prog EN 400 1 (fun st => Z (gcSt 1 live st)) [0,0,0,0,0] cd (st0 (Int.ofNat (k + 43)) stop) (KB K) = Br (decide (Int.ofNat (k + 43) ≥ 43)) (Z (SP stop)) False := by kernel_rfl
theorem b_eq : evTo Try.prog EN 400 1 (fun st => Z (gcSt 1 live st)) [0,0] c5 (SP stop) (KB K) = brk stop (Z (SP stop)) 0 43 := by kernel_rfl
theorem c_eq : evG Try.prog EN 400 c7 (SP stop) (KB K) = K (bV true) := by kernel_rfl
end
theorem brk_ok {stop : Int} {Z : Prop} (h : Z) : ∀ f k, brk stop Z k f
  | 0, _ => h
  | f + 1, k => by
    unfold brk
    cases decide ((k : Int) + 1 > stop)
    · exact brk_ok h f (k + 1)
    · exact h
abbrev isT : V → Prop := fun v => v = bV true
theorem c_ok (stop : Int) (st : St) (hz : gcSt 1 live st = SP stop) : CodeB Try.prog 1 c7 st (KB isT) := by
  have ht := gc_tells 1 live st
  rw [hz] at ht
  refine CodeB.tell ht (CodeB.of (evG_ok EN_ok names mixed (n := 400) ?_))
  rw [c_eq]
theorem b_ok (stop : Int) (st : St) (hz : gcSt 1 live st = SP stop) : CodeB Try.prog 1 c5 st (KB isT) := by
  have ht := gc_tells 1 live st
  rw [hz] at ht
  refine CodeB.tell ht ?_
  refine evTo_ok EN_ok names mixed (n := 400) (b := 1) (Z := fun st => gcSt 1 live st = SP stop) [0,0] _ _ _ (fun st hz => c_ok stop st hz) ?_
  rw [b_eq stop isT fun st => st = SP stop]
  exact brk_ok rfl 43 0
theorem law_ok (op stop : Int) : CallOk Try.prog 6 [.raw (.int .i64 op), .raw (.int .i64 stop)] [gE] fun r _ => r = .ret (bV true) := by
  refine CallOk.mono (K := rK isT) (CallOk.fnB names (by kernel_rfl) ?_) rK_ok
  refine evTo_ok EN_ok names mixed (n := 400) (b := 1) (Z := fun st => gcSt 1 live st = SP stop) [0,0,0,0,0] _ _ _ (fun st hz => b_ok stop st hz) ?_
  rcases op with k | k
  · by_cases hk : k < 43
    · rw [show Int.ofNat k = ((k : Nat) : Int) from rfl, a_lit stop isT (fun st => st = SP stop) k hk]
    · obtain ⟨j, rfl⟩ : ∃ j, k = j + 43 := ⟨k - 43, by omega⟩
      rw [a_big stop isT (fun st => st = SP stop), decide_eq_true (show Int.ofNat (j + 43) ≥ 43 by show ((j + 43 : Nat) : Int) ≥ 43; omega)]
      exact rfl
  · rw [a_neg stop isT (fun st => st = SP stop), decide_eq_true (Int.negSucc_lt_zero k)]
    exact rfl
def aks : List AK := [.one (.int .i64), .one (.int .i64)]
theorem law_call (args : List V) (h : argsOk aks args) : CallOk Try.prog 6 args [gE] fun r _ => r = .ret (.raw (.bool true)) := by
  obtain ⟨a, r1, rfl, _, h1⟩ := argsOk_int h
  obtain ⟨b, r2, rfl, _, h2⟩ := argsOk_int h1
  cases argsOk_nil h2
  exact law_ok a b
end Go.Proofs.YtpahclogghdnpaaDoor.a64Kinds
