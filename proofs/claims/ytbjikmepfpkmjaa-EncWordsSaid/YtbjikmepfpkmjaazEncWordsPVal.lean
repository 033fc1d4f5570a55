/- The word of each instruction, the program's and the reference's. Written by genval.py. -/
import Derived.Test.YtbjikmepfpkmjaazEncWordsPFld
import Derived.Test.YtbjikmepfpkmjaazEncWordsXWords
import Derived.Test.YtbjikmepfpkmjaazEncWordsXRef1
import Derived.Test.YtbjikmepfpkmjaazEncWordsXRef2
import Derived.Test.YtbjikmepfpkmjaazEncWordsXRef3
import Derived.Test.YtbjikmepfpkmjaazEncWordsXRef4
namespace Go.Proofs.Ytbjikmepfpkmjaa.X
set_option linter.unusedVariables false
set_option linter.unusedSimpArgs false
open Go.RowKit Go.Proofs.YtbjikmepfpkmjaaW.PrintWords Go.Proofs.YtbjikmepfpkmjaaW.PrintLast Go.Proofs.YtbjikmepfpkmjaaW.PrintMore Go.Proofs.Ytbjikmepfpkmjaa.Q
theorem word_bad' {op d n m a c imm : Int} (hk : a64_Check.f 40 op d n m a c imm = some 1) : enc_Word.f op d n m a c imm = some (0, 1) := by
  unfold enc_Word.f
  rw [hk]
  rfl
theorem word_good {op d n m a c imm b r : Int} (hk : a64_Check.f 40 op d n m a c imm = some 0) (hb : enc_Base.f op = some b) (hr : putAll (lays op d n m a c imm) b = some r) : enc_Word.f op d n m a c imm = some (r, 0) := by
  unfold enc_Word.f
  rw [hk, Option.bind_some, if_pos rfl, hb, Option.bind_some, hr]
  rfl
set_option maxRecDepth 10000 in
theorem pval_0 (d n m a c imm : Int) (g : (d = 0) ∧ (n = 0) ∧ (m = 0) ∧ (a = 0) ∧ (c = 0) ∧ (0 ≤ imm ∧ imm ≤ 65535)) : enc_Word.f 0 d n m a c imm = some (0 + imm * 1, 0) := by
  have hk := chk_0 0 d n m a c imm
  rw [Nat.zero_add, if_pos g] at hk
  refine word_good (b := 0) hk (by kernel_rfl) ?_
  show putAll [(0, 16, imm)] 0 = some (0 + imm * 1)
  have s0 : put1 (0) ((0 : Nat) : Int) ((16 : Nat) : Int) (imm) = some (0 + imm * 1) := put1x 0 16 1 65536 (0) (imm) (imm) (by rfl) (by rfl) (by omega) (by omega) (by omega) (by omega) (by omega) (by omega) (by omega)
  refine (congrArg (fun z => Option.bind z _) s0).trans ?_
  simp only [Option.bind_some]
  exact congrArg some (by omega)
set_option maxRecDepth 10000 in
theorem exval_0 (d n m a c imm : Int) (g : (d = 0) ∧ (n = 0) ∧ (m = 0) ∧ (a = 0) ∧ (c = 0) ∧ (0 ≤ imm ∧ imm ≤ 65535)) : imm % 4294967296 = 0 + imm * 1 := by
  omega
set_option maxRecDepth 10000 in
theorem pval_1 (d n m a c imm : Int) (g : (d = 0) ∧ (n = 0) ∧ (m = 0) ∧ (a = 0) ∧ (c = 0) ∧ (imm = 0)) : enc_Word.f 1 d n m a c imm = some (3573751839, 0) := by
  have hk := chk_1 0 d n m a c imm
  rw [Nat.zero_add, if_pos g] at hk
  refine word_good (b := 3573751839) hk (by kernel_rfl) ?_
  show putAll [] 3573751839 = some (3573751839)
  exact congrArg some (by omega)
set_option maxRecDepth 10000 in
theorem pval_2 (d n m a c imm : Int) (g : ((0 ≤ d ∧ d ≤ 31)) ∧ (n = 0) ∧ ((0 ≤ m ∧ m ≤ 31)) ∧ (a = 0) ∧ (c = 0) ∧ ((0 ≤ imm ∧ imm ≤ 65535) ∧ m ≤ 3)) : enc_Word.f 2 d n m a c imm = some (3531603968 + m * 2097152 + imm * 32 + d * 1, 0) := by
  have hk := chk_2 0 d n m a c imm
  rw [Nat.zero_add, if_pos g] at hk
  refine word_good (b := 3531603968) hk (by kernel_rfl) ?_
  show putAll [(21, 2, m), (5, 16, imm), (0, 5, d)] 3531603968 = some (3531603968 + m * 2097152 + imm * 32 + d * 1)
  have s21 : put1 (3531603968) ((21 : Nat) : Int) ((2 : Nat) : Int) (m) = some (3531603968 + m * 2097152) := put1x 21 2 2097152 4 (3531603968) (m) (m) (by rfl) (by rfl) (by omega) (by omega) (by omega) (by omega) (by omega) (by omega) (by omega)
  have s5 : put1 (3531603968 + m * 2097152) ((5 : Nat) : Int) ((16 : Nat) : Int) (imm) = some (3531603968 + m * 2097152 + imm * 32) := put1x 5 16 32 65536 (3531603968 + m * 2097152) (imm) (imm) (by rfl) (by rfl) (by omega) (by omega) (by omega) (by omega) (by omega) (by omega) (by omega)
  have s0 : put1 (3531603968 + m * 2097152 + imm * 32) ((0 : Nat) : Int) ((5 : Nat) : Int) (d) = some (3531603968 + m * 2097152 + imm * 32 + d * 1) := put1x 0 5 1 32 (3531603968 + m * 2097152 + imm * 32) (d) (d) (by rfl) (by rfl) (by omega) (by omega) (by omega) (by omega) (by omega) (by omega) (by omega)
  refine (congrArg (fun z => Option.bind z _) s21).trans ?_
  simp only [Option.bind_some]
  refine (congrArg (fun z => Option.bind z _) s5).trans ?_
  simp only [Option.bind_some]
  refine (congrArg (fun z => Option.bind z _) s0).trans ?_
  simp only [Option.bind_some]
  exact congrArg some (by omega)
set_option maxRecDepth 10000 in
theorem exval_2 (d n m a c imm : Int) (g : ((0 ≤ d ∧ d ≤ 31)) ∧ (n = 0) ∧ ((0 ≤ m ∧ m ≤ 31)) ∧ (a = 0) ∧ (c = 0) ∧ ((0 ≤ imm ∧ imm ≤ 65535) ∧ m ≤ 3)) : Go.bits .or .u32 (Go.bits .or .u32 (Go.bits .or .u32 (3531603968) (m % 4294967296 * 2097152 % 4294967296)) (imm % 4294967296 * 32 % 4294967296)) (d % 4294967296) = 3531603968 + m * 2097152 + imm * 32 + d * 1 := by
  have t21 : m % 4294967296 * 2097152 % 4294967296 = m * 2097152 := by omega
  rw [orx 21 2 2097152 4 (m) (3531603968) (m % 4294967296 * 2097152 % 4294967296) (by rfl) (by rfl) (by omega) (by omega) (by omega) (by omega) (by omega) (by omega) t21, t21]
  have t5 : imm % 4294967296 * 32 % 4294967296 = imm * 32 := by omega
  rw [orx 5 16 32 65536 (imm) (3531603968 + m * 2097152) (imm % 4294967296 * 32 % 4294967296) (by rfl) (by rfl) (by omega) (by omega) (by omega) (by omega) (by omega) (by omega) t5, t5]
  have t0 : d % 4294967296 = d * 1 := by omega
  rw [orx 0 5 1 32 (d) (3531603968 + m * 2097152 + imm * 32) (d % 4294967296) (by rfl) (by rfl) (by omega) (by omega) (by omega) (by omega) (by omega) (by omega) t0, t0]
  try omega
set_option maxRecDepth 10000 in
theorem pval_3 (d n m a c imm : Int) (g : ((0 ≤ d ∧ d ≤ 31)) ∧ (n = 0) ∧ ((0 ≤ m ∧ m ≤ 31)) ∧ (a = 0) ∧ (c = 0) ∧ ((0 ≤ imm ∧ imm ≤ 65535) ∧ m ≤ 3)) : enc_Word.f 3 d n m a c imm = some (4068474880 + m * 2097152 + imm * 32 + d * 1, 0) := by
  have hk := chk_3 0 d n m a c imm
  rw [Nat.zero_add, if_pos g] at hk
  refine word_good (b := 4068474880) hk (by kernel_rfl) ?_
  show putAll [(21, 2, m), (5, 16, imm), (0, 5, d)] 4068474880 = some (4068474880 + m * 2097152 + imm * 32 + d * 1)
  have s21 : put1 (4068474880) ((21 : Nat) : Int) ((2 : Nat) : Int) (m) = some (4068474880 + m * 2097152) := put1x 21 2 2097152 4 (4068474880) (m) (m) (by rfl) (by rfl) (by omega) (by omega) (by omega) (by omega) (by omega) (by omega) (by omega)
  have s5 : put1 (4068474880 + m * 2097152) ((5 : Nat) : Int) ((16 : Nat) : Int) (imm) = some (4068474880 + m * 2097152 + imm * 32) := put1x 5 16 32 65536 (4068474880 + m * 2097152) (imm) (imm) (by rfl) (by rfl) (by omega) (by omega) (by omega) (by omega) (by omega) (by omega) (by omega)
  have s0 : put1 (4068474880 + m * 2097152 + imm * 32) ((0 : Nat) : Int) ((5 : Nat) : Int) (d) = some (4068474880 + m * 2097152 + imm * 32 + d * 1) := put1x 0 5 1 32 (4068474880 + m * 2097152 + imm * 32) (d) (d) (by rfl) (by rfl) (by omega) (by omega) (by omega) (by omega) (by omega) (by omega) (by omega)
  refine (congrArg (fun z => Option.bind z _) s21).trans ?_
  simp only [Option.bind_some]
  refine (congrArg (fun z => Option.bind z _) s5).trans ?_
  simp only [Option.bind_some]
  refine (congrArg (fun z => Option.bind z _) s0).trans ?_
  simp only [Option.bind_some]
  exact congrArg some (by omega)
set_option maxRecDepth 10000 in
theorem exval_3 (d n m a c imm : Int) (g : ((0 ≤ d ∧ d ≤ 31)) ∧ (n = 0) ∧ ((0 ≤ m ∧ m ≤ 31)) ∧ (a = 0) ∧ (c = 0) ∧ ((0 ≤ imm ∧ imm ≤ 65535) ∧ m ≤ 3)) : Go.bits .or .u32 (Go.bits .or .u32 (Go.bits .or .u32 (4068474880) (m % 4294967296 * 2097152 % 4294967296)) (imm % 4294967296 * 32 % 4294967296)) (d % 4294967296) = 4068474880 + m * 2097152 + imm * 32 + d * 1 := by
  have t21 : m % 4294967296 * 2097152 % 4294967296 = m * 2097152 := by omega
  rw [orx 21 2 2097152 4 (m) (4068474880) (m % 4294967296 * 2097152 % 4294967296) (by rfl) (by rfl) (by omega) (by omega) (by omega) (by omega) (by omega) (by omega) t21, t21]
  have t5 : imm % 4294967296 * 32 % 4294967296 = imm * 32 := by omega
  rw [orx 5 16 32 65536 (imm) (4068474880 + m * 2097152) (imm % 4294967296 * 32 % 4294967296) (by rfl) (by rfl) (by omega) (by omega) (by omega) (by omega) (by omega) (by omega) t5, t5]
  have t0 : d % 4294967296 = d * 1 := by omega
  rw [orx 0 5 1 32 (d) (4068474880 + m * 2097152 + imm * 32) (d % 4294967296) (by rfl) (by rfl) (by omega) (by omega) (by omega) (by omega) (by omega) (by omega) t0, t0]
  try omega
set_option maxRecDepth 10000 in
theorem pval_4 (d n m a c imm : Int) (g : ((0 ≤ d ∧ d ≤ 31)) ∧ ((0 ≤ n ∧ n ≤ 31)) ∧ (m = 0) ∧ (a = 0) ∧ (c = 0) ∧ (0 ≤ imm ∧ imm ≤ 4095)) : enc_Word.f 4 d n m a c imm = some (2432696320 + imm * 1024 + n * 32 + d * 1, 0) := by
  have hk := chk_4 0 d n m a c imm
  rw [Nat.zero_add, if_pos g] at hk
  refine word_good (b := 2432696320) hk (by kernel_rfl) ?_
  show putAll [(5, 5, n), (10, 12, imm), (0, 5, d)] 2432696320 = some (2432696320 + imm * 1024 + n * 32 + d * 1)
  have s5 : put1 (2432696320) ((5 : Nat) : Int) ((5 : Nat) : Int) (n) = some (2432696320 + n * 32) := put1x 5 5 32 32 (2432696320) (n) (n) (by rfl) (by rfl) (by omega) (by omega) (by omega) (by omega) (by omega) (by omega) (by omega)
  have s10 : put1 (2432696320 + n * 32) ((10 : Nat) : Int) ((12 : Nat) : Int) (imm) = some (2432696320 + n * 32 + imm * 1024) := put1x 10 12 1024 4096 (2432696320 + n * 32) (imm) (imm) (by rfl) (by rfl) (by omega) (by omega) (by omega) (by omega) (by omega) (by omega) (by omega)
  have s0 : put1 (2432696320 + n * 32 + imm * 1024) ((0 : Nat) : Int) ((5 : Nat) : Int) (d) = some (2432696320 + n * 32 + imm * 1024 + d * 1) := put1x 0 5 1 32 (2432696320 + n * 32 + imm * 1024) (d) (d) (by rfl) (by rfl) (by omega) (by omega) (by omega) (by omega) (by omega) (by omega) (by omega)
  refine (congrArg (fun z => Option.bind z _) s5).trans ?_
  simp only [Option.bind_some]
  refine (congrArg (fun z => Option.bind z _) s10).trans ?_
  simp only [Option.bind_some]
  refine (congrArg (fun z => Option.bind z _) s0).trans ?_
  simp only [Option.bind_some]
  exact congrArg some (by omega)
set_option maxRecDepth 10000 in
theorem exval_4 (d n m a c imm : Int) (g : ((0 ≤ d ∧ d ≤ 31)) ∧ ((0 ≤ n ∧ n ≤ 31)) ∧ (m = 0) ∧ (a = 0) ∧ (c = 0) ∧ (0 ≤ imm ∧ imm ≤ 4095)) : Go.bits .or .u32 (Go.bits .or .u32 (Go.bits .or .u32 (2432696320) (imm % 4294967296 * 1024 % 4294967296)) (n % 4294967296 * 32 % 4294967296)) (d % 4294967296) = 2432696320 + imm * 1024 + n * 32 + d * 1 := by
  have t10 : imm % 4294967296 * 1024 % 4294967296 = imm * 1024 := by omega
  rw [orx 10 12 1024 4096 (imm) (2432696320) (imm % 4294967296 * 1024 % 4294967296) (by rfl) (by rfl) (by omega) (by omega) (by omega) (by omega) (by omega) (by omega) t10, t10]
  have t5 : n % 4294967296 * 32 % 4294967296 = n * 32 := by omega
  rw [orx 5 5 32 32 (n) (2432696320 + imm * 1024) (n % 4294967296 * 32 % 4294967296) (by rfl) (by rfl) (by omega) (by omega) (by omega) (by omega) (by omega) (by omega) t5, t5]
  have t0 : d % 4294967296 = d * 1 := by omega
  rw [orx 0 5 1 32 (d) (2432696320 + imm * 1024 + n * 32) (d % 4294967296) (by rfl) (by rfl) (by omega) (by omega) (by omega) (by omega) (by omega) (by omega) t0, t0]
  try omega
set_option maxRecDepth 10000 in
theorem pval_5 (d n m a c imm : Int) (g : ((0 ≤ d ∧ d ≤ 31)) ∧ ((0 ≤ n ∧ n ≤ 31)) ∧ (m = 0) ∧ (a = 0) ∧ (c = 0) ∧ (0 ≤ imm ∧ imm ≤ 4095)) : enc_Word.f 5 d n m a c imm = some (3506438144 + imm * 1024 + n * 32 + d * 1, 0) := by
  have hk := chk_5 0 d n m a c imm
  rw [Nat.zero_add, if_pos g] at hk
  refine word_good (b := 3506438144) hk (by kernel_rfl) ?_
  show putAll [(5, 5, n), (10, 12, imm), (0, 5, d)] 3506438144 = some (3506438144 + imm * 1024 + n * 32 + d * 1)
  have s5 : put1 (3506438144) ((5 : Nat) : Int) ((5 : Nat) : Int) (n) = some (3506438144 + n * 32) := put1x 5 5 32 32 (3506438144) (n) (n) (by rfl) (by rfl) (by omega) (by omega) (by omega) (by omega) (by omega) (by omega) (by omega)
  have s10 : put1 (3506438144 + n * 32) ((10 : Nat) : Int) ((12 : Nat) : Int) (imm) = some (3506438144 + n * 32 + imm * 1024) := put1x 10 12 1024 4096 (3506438144 + n * 32) (imm) (imm) (by rfl) (by rfl) (by omega) (by omega) (by omega) (by omega) (by omega) (by omega) (by omega)
  have s0 : put1 (3506438144 + n * 32 + imm * 1024) ((0 : Nat) : Int) ((5 : Nat) : Int) (d) = some (3506438144 + n * 32 + imm * 1024 + d * 1) := put1x 0 5 1 32 (3506438144 + n * 32 + imm * 1024) (d) (d) (by rfl) (by rfl) (by omega) (by omega) (by omega) (by omega) (by omega) (by omega) (by omega)
  refine (congrArg (fun z => Option.bind z _) s5).trans ?_
  simp only [Option.bind_some]
  refine (congrArg (fun z => Option.bind z _) s10).trans ?_
  simp only [Option.bind_some]
  refine (congrArg (fun z => Option.bind z _) s0).trans ?_
  simp only [Option.bind_some]
  exact congrArg some (by omega)
set_option maxRecDepth 10000 in
theorem exval_5 (d n m a c imm : Int) (g : ((0 ≤ d ∧ d ≤ 31)) ∧ ((0 ≤ n ∧ n ≤ 31)) ∧ (m = 0) ∧ (a = 0) ∧ (c = 0) ∧ (0 ≤ imm ∧ imm ≤ 4095)) : Go.bits .or .u32 (Go.bits .or .u32 (Go.bits .or .u32 (3506438144) (imm % 4294967296 * 1024 % 4294967296)) (n % 4294967296 * 32 % 4294967296)) (d % 4294967296) = 3506438144 + imm * 1024 + n * 32 + d * 1 := by
  have t10 : imm % 4294967296 * 1024 % 4294967296 = imm * 1024 := by omega
  rw [orx 10 12 1024 4096 (imm) (3506438144) (imm % 4294967296 * 1024 % 4294967296) (by rfl) (by rfl) (by omega) (by omega) (by omega) (by omega) (by omega) (by omega) t10, t10]
  have t5 : n % 4294967296 * 32 % 4294967296 = n * 32 := by omega
  rw [orx 5 5 32 32 (n) (3506438144 + imm * 1024) (n % 4294967296 * 32 % 4294967296) (by rfl) (by rfl) (by omega) (by omega) (by omega) (by omega) (by omega) (by omega) t5, t5]
  have t0 : d % 4294967296 = d * 1 := by omega
  rw [orx 0 5 1 32 (d) (3506438144 + imm * 1024 + n * 32) (d % 4294967296) (by rfl) (by rfl) (by omega) (by omega) (by omega) (by omega) (by omega) (by omega) t0, t0]
  try omega
set_option maxRecDepth 10000 in
theorem pval_6 (d n m a c imm : Int) (g : ((0 ≤ d ∧ d ≤ 31)) ∧ ((0 ≤ n ∧ n ≤ 31)) ∧ (m = 0) ∧ (a = 0) ∧ (c = 0) ∧ (0 ≤ imm ∧ imm ≤ 4095)) : enc_Word.f 6 d n m a c imm = some (4043309056 + imm * 1024 + n * 32 + d * 1, 0) := by
  have hk := chk_6 0 d n m a c imm
  rw [Nat.zero_add, if_pos g] at hk
  refine word_good (b := 4043309056) hk (by kernel_rfl) ?_
  show putAll [(5, 5, n), (10, 12, imm), (0, 5, d)] 4043309056 = some (4043309056 + imm * 1024 + n * 32 + d * 1)
  have s5 : put1 (4043309056) ((5 : Nat) : Int) ((5 : Nat) : Int) (n) = some (4043309056 + n * 32) := put1x 5 5 32 32 (4043309056) (n) (n) (by rfl) (by rfl) (by omega) (by omega) (by omega) (by omega) (by omega) (by omega) (by omega)
  have s10 : put1 (4043309056 + n * 32) ((10 : Nat) : Int) ((12 : Nat) : Int) (imm) = some (4043309056 + n * 32 + imm * 1024) := put1x 10 12 1024 4096 (4043309056 + n * 32) (imm) (imm) (by rfl) (by rfl) (by omega) (by omega) (by omega) (by omega) (by omega) (by omega) (by omega)
  have s0 : put1 (4043309056 + n * 32 + imm * 1024) ((0 : Nat) : Int) ((5 : Nat) : Int) (d) = some (4043309056 + n * 32 + imm * 1024 + d * 1) := put1x 0 5 1 32 (4043309056 + n * 32 + imm * 1024) (d) (d) (by rfl) (by rfl) (by omega) (by omega) (by omega) (by omega) (by omega) (by omega) (by omega)
  refine (congrArg (fun z => Option.bind z _) s5).trans ?_
  simp only [Option.bind_some]
  refine (congrArg (fun z => Option.bind z _) s10).trans ?_
  simp only [Option.bind_some]
  refine (congrArg (fun z => Option.bind z _) s0).trans ?_
  simp only [Option.bind_some]
  exact congrArg some (by omega)
set_option maxRecDepth 10000 in
theorem exval_6 (d n m a c imm : Int) (g : ((0 ≤ d ∧ d ≤ 31)) ∧ ((0 ≤ n ∧ n ≤ 31)) ∧ (m = 0) ∧ (a = 0) ∧ (c = 0) ∧ (0 ≤ imm ∧ imm ≤ 4095)) : Go.bits .or .u32 (Go.bits .or .u32 (Go.bits .or .u32 (4043309056) (imm % 4294967296 * 1024 % 4294967296)) (n % 4294967296 * 32 % 4294967296)) (d % 4294967296) = 4043309056 + imm * 1024 + n * 32 + d * 1 := by
  have t10 : imm % 4294967296 * 1024 % 4294967296 = imm * 1024 := by omega
  rw [orx 10 12 1024 4096 (imm) (4043309056) (imm % 4294967296 * 1024 % 4294967296) (by rfl) (by rfl) (by omega) (by omega) (by omega) (by omega) (by omega) (by omega) t10, t10]
  have t5 : n % 4294967296 * 32 % 4294967296 = n * 32 := by omega
  rw [orx 5 5 32 32 (n) (4043309056 + imm * 1024) (n % 4294967296 * 32 % 4294967296) (by rfl) (by rfl) (by omega) (by omega) (by omega) (by omega) (by omega) (by omega) t5, t5]
  have t0 : d % 4294967296 = d * 1 := by omega
  rw [orx 0 5 1 32 (d) (4043309056 + imm * 1024 + n * 32) (d % 4294967296) (by rfl) (by rfl) (by omega) (by omega) (by omega) (by omega) (by omega) (by omega) t0, t0]
  try omega
set_option maxRecDepth 10000 in
theorem pval_7 (d n m a c imm : Int) (g : ((0 ≤ d ∧ d ≤ 31)) ∧ ((0 ≤ n ∧ n ≤ 31)) ∧ ((0 ≤ m ∧ m ≤ 31)) ∧ (a = 0) ∧ (c = 0) ∧ (imm = 0)) : enc_Word.f 7 d n m a c imm = some (2332033024 + m * 65536 + n * 32 + d * 1, 0) := by
  have hk := chk_7 0 d n m a c imm
  rw [Nat.zero_add, if_pos g] at hk
  refine word_good (b := 2332033024) hk (by kernel_rfl) ?_
  show putAll [(5, 5, n), (16, 5, m), (0, 5, d)] 2332033024 = some (2332033024 + m * 65536 + n * 32 + d * 1)
  have s5 : put1 (2332033024) ((5 : Nat) : Int) ((5 : Nat) : Int) (n) = some (2332033024 + n * 32) := put1x 5 5 32 32 (2332033024) (n) (n) (by rfl) (by rfl) (by omega) (by omega) (by omega) (by omega) (by omega) (by omega) (by omega)
  have s16 : put1 (2332033024 + n * 32) ((16 : Nat) : Int) ((5 : Nat) : Int) (m) = some (2332033024 + n * 32 + m * 65536) := put1x 16 5 65536 32 (2332033024 + n * 32) (m) (m) (by rfl) (by rfl) (by omega) (by omega) (by omega) (by omega) (by omega) (by omega) (by omega)
  have s0 : put1 (2332033024 + n * 32 + m * 65536) ((0 : Nat) : Int) ((5 : Nat) : Int) (d) = some (2332033024 + n * 32 + m * 65536 + d * 1) := put1x 0 5 1 32 (2332033024 + n * 32 + m * 65536) (d) (d) (by rfl) (by rfl) (by omega) (by omega) (by omega) (by omega) (by omega) (by omega) (by omega)
  refine (congrArg (fun z => Option.bind z _) s5).trans ?_
  simp only [Option.bind_some]
  refine (congrArg (fun z => Option.bind z _) s16).trans ?_
  simp only [Option.bind_some]
  refine (congrArg (fun z => Option.bind z _) s0).trans ?_
  simp only [Option.bind_some]
  exact congrArg some (by omega)
set_option maxRecDepth 10000 in
theorem exval_7 (d n m a c imm : Int) (g : ((0 ≤ d ∧ d ≤ 31)) ∧ ((0 ≤ n ∧ n ≤ 31)) ∧ ((0 ≤ m ∧ m ≤ 31)) ∧ (a = 0) ∧ (c = 0) ∧ (imm = 0)) : Go.bits .or .u32 (Go.bits .or .u32 (Go.bits .or .u32 (2332033024) (m % 4294967296 * 65536 % 4294967296)) (n % 4294967296 * 32 % 4294967296)) (d % 4294967296) = 2332033024 + m * 65536 + n * 32 + d * 1 := by
  have t16 : m % 4294967296 * 65536 % 4294967296 = m * 65536 := by omega
  rw [orx 16 5 65536 32 (m) (2332033024) (m % 4294967296 * 65536 % 4294967296) (by rfl) (by rfl) (by omega) (by omega) (by omega) (by omega) (by omega) (by omega) t16, t16]
  have t5 : n % 4294967296 * 32 % 4294967296 = n * 32 := by omega
  rw [orx 5 5 32 32 (n) (2332033024 + m * 65536) (n % 4294967296 * 32 % 4294967296) (by rfl) (by rfl) (by omega) (by omega) (by omega) (by omega) (by omega) (by omega) t5, t5]
  have t0 : d % 4294967296 = d * 1 := by omega
  rw [orx 0 5 1 32 (d) (2332033024 + m * 65536 + n * 32) (d % 4294967296) (by rfl) (by rfl) (by omega) (by omega) (by omega) (by omega) (by omega) (by omega) t0, t0]
  try omega
set_option maxRecDepth 10000 in
theorem pval_8 (d n m a c imm : Int) (g : ((0 ≤ d ∧ d ≤ 31)) ∧ ((0 ≤ n ∧ n ≤ 31)) ∧ ((0 ≤ m ∧ m ≤ 31)) ∧ (a = 0) ∧ (c = 0) ∧ (imm = 0)) : enc_Word.f 8 d n m a c imm = some (3405774848 + m * 65536 + n * 32 + d * 1, 0) := by
  have hk := chk_8 0 d n m a c imm
  rw [Nat.zero_add, if_pos g] at hk
  refine word_good (b := 3405774848) hk (by kernel_rfl) ?_
  show putAll [(5, 5, n), (16, 5, m), (0, 5, d)] 3405774848 = some (3405774848 + m * 65536 + n * 32 + d * 1)
  have s5 : put1 (3405774848) ((5 : Nat) : Int) ((5 : Nat) : Int) (n) = some (3405774848 + n * 32) := put1x 5 5 32 32 (3405774848) (n) (n) (by rfl) (by rfl) (by omega) (by omega) (by omega) (by omega) (by omega) (by omega) (by omega)
  have s16 : put1 (3405774848 + n * 32) ((16 : Nat) : Int) ((5 : Nat) : Int) (m) = some (3405774848 + n * 32 + m * 65536) := put1x 16 5 65536 32 (3405774848 + n * 32) (m) (m) (by rfl) (by rfl) (by omega) (by omega) (by omega) (by omega) (by omega) (by omega) (by omega)
  have s0 : put1 (3405774848 + n * 32 + m * 65536) ((0 : Nat) : Int) ((5 : Nat) : Int) (d) = some (3405774848 + n * 32 + m * 65536 + d * 1) := put1x 0 5 1 32 (3405774848 + n * 32 + m * 65536) (d) (d) (by rfl) (by rfl) (by omega) (by omega) (by omega) (by omega) (by omega) (by omega) (by omega)
  refine (congrArg (fun z => Option.bind z _) s5).trans ?_
  simp only [Option.bind_some]
  refine (congrArg (fun z => Option.bind z _) s16).trans ?_
  simp only [Option.bind_some]
  refine (congrArg (fun z => Option.bind z _) s0).trans ?_
  simp only [Option.bind_some]
  exact congrArg some (by omega)
set_option maxRecDepth 10000 in
theorem exval_8 (d n m a c imm : Int) (g : ((0 ≤ d ∧ d ≤ 31)) ∧ ((0 ≤ n ∧ n ≤ 31)) ∧ ((0 ≤ m ∧ m ≤ 31)) ∧ (a = 0) ∧ (c = 0) ∧ (imm = 0)) : Go.bits .or .u32 (Go.bits .or .u32 (Go.bits .or .u32 (3405774848) (m % 4294967296 * 65536 % 4294967296)) (n % 4294967296 * 32 % 4294967296)) (d % 4294967296) = 3405774848 + m * 65536 + n * 32 + d * 1 := by
  have t16 : m % 4294967296 * 65536 % 4294967296 = m * 65536 := by omega
  rw [orx 16 5 65536 32 (m) (3405774848) (m % 4294967296 * 65536 % 4294967296) (by rfl) (by rfl) (by omega) (by omega) (by omega) (by omega) (by omega) (by omega) t16, t16]
  have t5 : n % 4294967296 * 32 % 4294967296 = n * 32 := by omega
  rw [orx 5 5 32 32 (n) (3405774848 + m * 65536) (n % 4294967296 * 32 % 4294967296) (by rfl) (by rfl) (by omega) (by omega) (by omega) (by omega) (by omega) (by omega) t5, t5]
  have t0 : d % 4294967296 = d * 1 := by omega
  rw [orx 0 5 1 32 (d) (3405774848 + m * 65536 + n * 32) (d % 4294967296) (by rfl) (by rfl) (by omega) (by omega) (by omega) (by omega) (by omega) (by omega) t0, t0]
  try omega
set_option maxRecDepth 10000 in
theorem pval_9 (d n m a c imm : Int) (g : ((0 ≤ d ∧ d ≤ 31)) ∧ ((0 ≤ n ∧ n ≤ 31)) ∧ ((0 ≤ m ∧ m ≤ 31)) ∧ (a = 0) ∧ (c = 0) ∧ (imm = 0)) : enc_Word.f 9 d n m a c imm = some (3942645760 + m * 65536 + n * 32 + d * 1, 0) := by
  have hk := chk_9 0 d n m a c imm
  rw [Nat.zero_add, if_pos g] at hk
  refine word_good (b := 3942645760) hk (by kernel_rfl) ?_
  show putAll [(5, 5, n), (16, 5, m), (0, 5, d)] 3942645760 = some (3942645760 + m * 65536 + n * 32 + d * 1)
  have s5 : put1 (3942645760) ((5 : Nat) : Int) ((5 : Nat) : Int) (n) = some (3942645760 + n * 32) := put1x 5 5 32 32 (3942645760) (n) (n) (by rfl) (by rfl) (by omega) (by omega) (by omega) (by omega) (by omega) (by omega) (by omega)
  have s16 : put1 (3942645760 + n * 32) ((16 : Nat) : Int) ((5 : Nat) : Int) (m) = some (3942645760 + n * 32 + m * 65536) := put1x 16 5 65536 32 (3942645760 + n * 32) (m) (m) (by rfl) (by rfl) (by omega) (by omega) (by omega) (by omega) (by omega) (by omega) (by omega)
  have s0 : put1 (3942645760 + n * 32 + m * 65536) ((0 : Nat) : Int) ((5 : Nat) : Int) (d) = some (3942645760 + n * 32 + m * 65536 + d * 1) := put1x 0 5 1 32 (3942645760 + n * 32 + m * 65536) (d) (d) (by rfl) (by rfl) (by omega) (by omega) (by omega) (by omega) (by omega) (by omega) (by omega)
  refine (congrArg (fun z => Option.bind z _) s5).trans ?_
  simp only [Option.bind_some]
  refine (congrArg (fun z => Option.bind z _) s16).trans ?_
  simp only [Option.bind_some]
  refine (congrArg (fun z => Option.bind z _) s0).trans ?_
  simp only [Option.bind_some]
  exact congrArg some (by omega)
set_option maxRecDepth 10000 in
theorem exval_9 (d n m a c imm : Int) (g : ((0 ≤ d ∧ d ≤ 31)) ∧ ((0 ≤ n ∧ n ≤ 31)) ∧ ((0 ≤ m ∧ m ≤ 31)) ∧ (a = 0) ∧ (c = 0) ∧ (imm = 0)) : Go.bits .or .u32 (Go.bits .or .u32 (Go.bits .or .u32 (3942645760) (m % 4294967296 * 65536 % 4294967296)) (n % 4294967296 * 32 % 4294967296)) (d % 4294967296) = 3942645760 + m * 65536 + n * 32 + d * 1 := by
  have t16 : m % 4294967296 * 65536 % 4294967296 = m * 65536 := by omega
  rw [orx 16 5 65536 32 (m) (3942645760) (m % 4294967296 * 65536 % 4294967296) (by rfl) (by rfl) (by omega) (by omega) (by omega) (by omega) (by omega) (by omega) t16, t16]
  have t5 : n % 4294967296 * 32 % 4294967296 = n * 32 := by omega
  rw [orx 5 5 32 32 (n) (3942645760 + m * 65536) (n % 4294967296 * 32 % 4294967296) (by rfl) (by rfl) (by omega) (by omega) (by omega) (by omega) (by omega) (by omega) t5, t5]
  have t0 : d % 4294967296 = d * 1 := by omega
  rw [orx 0 5 1 32 (d) (3942645760 + m * 65536 + n * 32) (d % 4294967296) (by rfl) (by rfl) (by omega) (by omega) (by omega) (by omega) (by omega) (by omega) t0, t0]
  try omega
set_option maxRecDepth 10000 in
theorem pval_10 (d n m a c imm : Int) (g : ((0 ≤ d ∧ d ≤ 31)) ∧ ((0 ≤ n ∧ n ≤ 31)) ∧ ((0 ≤ m ∧ m ≤ 31)) ∧ (a = 0) ∧ (c = 0) ∧ (imm = 0)) : enc_Word.f 10 d n m a c imm = some (2315255808 + m * 65536 + n * 32 + d * 1, 0) := by
  have hk := chk_10 0 d n m a c imm
  rw [Nat.zero_add, if_pos g] at hk
  refine word_good (b := 2315255808) hk (by kernel_rfl) ?_
  show putAll [(5, 5, n), (16, 5, m), (0, 5, d)] 2315255808 = some (2315255808 + m * 65536 + n * 32 + d * 1)
  have s5 : put1 (2315255808) ((5 : Nat) : Int) ((5 : Nat) : Int) (n) = some (2315255808 + n * 32) := put1x 5 5 32 32 (2315255808) (n) (n) (by rfl) (by rfl) (by omega) (by omega) (by omega) (by omega) (by omega) (by omega) (by omega)
  have s16 : put1 (2315255808 + n * 32) ((16 : Nat) : Int) ((5 : Nat) : Int) (m) = some (2315255808 + n * 32 + m * 65536) := put1x 16 5 65536 32 (2315255808 + n * 32) (m) (m) (by rfl) (by rfl) (by omega) (by omega) (by omega) (by omega) (by omega) (by omega) (by omega)
  have s0 : put1 (2315255808 + n * 32 + m * 65536) ((0 : Nat) : Int) ((5 : Nat) : Int) (d) = some (2315255808 + n * 32 + m * 65536 + d * 1) := put1x 0 5 1 32 (2315255808 + n * 32 + m * 65536) (d) (d) (by rfl) (by rfl) (by omega) (by omega) (by omega) (by omega) (by omega) (by omega) (by omega)
  refine (congrArg (fun z => Option.bind z _) s5).trans ?_
  simp only [Option.bind_some]
  refine (congrArg (fun z => Option.bind z _) s16).trans ?_
  simp only [Option.bind_some]
  refine (congrArg (fun z => Option.bind z _) s0).trans ?_
  simp only [Option.bind_some]
  exact congrArg some (by omega)
set_option maxRecDepth 10000 in
theorem exval_10 (d n m a c imm : Int) (g : ((0 ≤ d ∧ d ≤ 31)) ∧ ((0 ≤ n ∧ n ≤ 31)) ∧ ((0 ≤ m ∧ m ≤ 31)) ∧ (a = 0) ∧ (c = 0) ∧ (imm = 0)) : Go.bits .or .u32 (Go.bits .or .u32 (Go.bits .or .u32 (2315255808) (m % 4294967296 * 65536 % 4294967296)) (n % 4294967296 * 32 % 4294967296)) (d % 4294967296) = 2315255808 + m * 65536 + n * 32 + d * 1 := by
  have t16 : m % 4294967296 * 65536 % 4294967296 = m * 65536 := by omega
  rw [orx 16 5 65536 32 (m) (2315255808) (m % 4294967296 * 65536 % 4294967296) (by rfl) (by rfl) (by omega) (by omega) (by omega) (by omega) (by omega) (by omega) t16, t16]
  have t5 : n % 4294967296 * 32 % 4294967296 = n * 32 := by omega
  rw [orx 5 5 32 32 (n) (2315255808 + m * 65536) (n % 4294967296 * 32 % 4294967296) (by rfl) (by rfl) (by omega) (by omega) (by omega) (by omega) (by omega) (by omega) t5, t5]
  have t0 : d % 4294967296 = d * 1 := by omega
  rw [orx 0 5 1 32 (d) (2315255808 + m * 65536 + n * 32) (d % 4294967296) (by rfl) (by rfl) (by omega) (by omega) (by omega) (by omega) (by omega) (by omega) t0, t0]
  try omega
set_option maxRecDepth 10000 in
theorem pval_11 (d n m a c imm : Int) (g : ((0 ≤ d ∧ d ≤ 31)) ∧ ((0 ≤ n ∧ n ≤ 31)) ∧ ((0 ≤ m ∧ m ≤ 31)) ∧ (a = 0) ∧ (c = 0) ∧ (imm = 0)) : enc_Word.f 11 d n m a c imm = some (2852126720 + m * 65536 + n * 32 + d * 1, 0) := by
  have hk := chk_11 0 d n m a c imm
  rw [Nat.zero_add, if_pos g] at hk
  refine word_good (b := 2852126720) hk (by kernel_rfl) ?_
  show putAll [(5, 5, n), (16, 5, m), (0, 5, d)] 2852126720 = some (2852126720 + m * 65536 + n * 32 + d * 1)
  have s5 : put1 (2852126720) ((5 : Nat) : Int) ((5 : Nat) : Int) (n) = some (2852126720 + n * 32) := put1x 5 5 32 32 (2852126720) (n) (n) (by rfl) (by rfl) (by omega) (by omega) (by omega) (by omega) (by omega) (by omega) (by omega)
  have s16 : put1 (2852126720 + n * 32) ((16 : Nat) : Int) ((5 : Nat) : Int) (m) = some (2852126720 + n * 32 + m * 65536) := put1x 16 5 65536 32 (2852126720 + n * 32) (m) (m) (by rfl) (by rfl) (by omega) (by omega) (by omega) (by omega) (by omega) (by omega) (by omega)
  have s0 : put1 (2852126720 + n * 32 + m * 65536) ((0 : Nat) : Int) ((5 : Nat) : Int) (d) = some (2852126720 + n * 32 + m * 65536 + d * 1) := put1x 0 5 1 32 (2852126720 + n * 32 + m * 65536) (d) (d) (by rfl) (by rfl) (by omega) (by omega) (by omega) (by omega) (by omega) (by omega) (by omega)
  refine (congrArg (fun z => Option.bind z _) s5).trans ?_
  simp only [Option.bind_some]
  refine (congrArg (fun z => Option.bind z _) s16).trans ?_
  simp only [Option.bind_some]
  refine (congrArg (fun z => Option.bind z _) s0).trans ?_
  simp only [Option.bind_some]
  exact congrArg some (by omega)
set_option maxRecDepth 10000 in
theorem exval_11 (d n m a c imm : Int) (g : ((0 ≤ d ∧ d ≤ 31)) ∧ ((0 ≤ n ∧ n ≤ 31)) ∧ ((0 ≤ m ∧ m ≤ 31)) ∧ (a = 0) ∧ (c = 0) ∧ (imm = 0)) : Go.bits .or .u32 (Go.bits .or .u32 (Go.bits .or .u32 (2852126720) (m % 4294967296 * 65536 % 4294967296)) (n % 4294967296 * 32 % 4294967296)) (d % 4294967296) = 2852126720 + m * 65536 + n * 32 + d * 1 := by
  have t16 : m % 4294967296 * 65536 % 4294967296 = m * 65536 := by omega
  rw [orx 16 5 65536 32 (m) (2852126720) (m % 4294967296 * 65536 % 4294967296) (by rfl) (by rfl) (by omega) (by omega) (by omega) (by omega) (by omega) (by omega) t16, t16]
  have t5 : n % 4294967296 * 32 % 4294967296 = n * 32 := by omega
  rw [orx 5 5 32 32 (n) (2852126720 + m * 65536) (n % 4294967296 * 32 % 4294967296) (by rfl) (by rfl) (by omega) (by omega) (by omega) (by omega) (by omega) (by omega) t5, t5]
  have t0 : d % 4294967296 = d * 1 := by omega
  rw [orx 0 5 1 32 (d) (2852126720 + m * 65536 + n * 32) (d % 4294967296) (by rfl) (by rfl) (by omega) (by omega) (by omega) (by omega) (by omega) (by omega) t0, t0]
  try omega
set_option maxRecDepth 10000 in
theorem pval_12 (d n m a c imm : Int) (g : ((0 ≤ d ∧ d ≤ 31)) ∧ ((0 ≤ n ∧ n ≤ 31)) ∧ ((0 ≤ m ∧ m ≤ 31)) ∧ (a = 0) ∧ (c = 0) ∧ (imm = 0)) : enc_Word.f 12 d n m a c imm = some (3388997632 + m * 65536 + n * 32 + d * 1, 0) := by
  have hk := chk_12 0 d n m a c imm
  rw [Nat.zero_add, if_pos g] at hk
  refine word_good (b := 3388997632) hk (by kernel_rfl) ?_
  show putAll [(5, 5, n), (16, 5, m), (0, 5, d)] 3388997632 = some (3388997632 + m * 65536 + n * 32 + d * 1)
  have s5 : put1 (3388997632) ((5 : Nat) : Int) ((5 : Nat) : Int) (n) = some (3388997632 + n * 32) := put1x 5 5 32 32 (3388997632) (n) (n) (by rfl) (by rfl) (by omega) (by omega) (by omega) (by omega) (by omega) (by omega) (by omega)
  have s16 : put1 (3388997632 + n * 32) ((16 : Nat) : Int) ((5 : Nat) : Int) (m) = some (3388997632 + n * 32 + m * 65536) := put1x 16 5 65536 32 (3388997632 + n * 32) (m) (m) (by rfl) (by rfl) (by omega) (by omega) (by omega) (by omega) (by omega) (by omega) (by omega)
  have s0 : put1 (3388997632 + n * 32 + m * 65536) ((0 : Nat) : Int) ((5 : Nat) : Int) (d) = some (3388997632 + n * 32 + m * 65536 + d * 1) := put1x 0 5 1 32 (3388997632 + n * 32 + m * 65536) (d) (d) (by rfl) (by rfl) (by omega) (by omega) (by omega) (by omega) (by omega) (by omega) (by omega)
  refine (congrArg (fun z => Option.bind z _) s5).trans ?_
  simp only [Option.bind_some]
  refine (congrArg (fun z => Option.bind z _) s16).trans ?_
  simp only [Option.bind_some]
  refine (congrArg (fun z => Option.bind z _) s0).trans ?_
  simp only [Option.bind_some]
  exact congrArg some (by omega)
set_option maxRecDepth 10000 in
theorem exval_12 (d n m a c imm : Int) (g : ((0 ≤ d ∧ d ≤ 31)) ∧ ((0 ≤ n ∧ n ≤ 31)) ∧ ((0 ≤ m ∧ m ≤ 31)) ∧ (a = 0) ∧ (c = 0) ∧ (imm = 0)) : Go.bits .or .u32 (Go.bits .or .u32 (Go.bits .or .u32 (3388997632) (m % 4294967296 * 65536 % 4294967296)) (n % 4294967296 * 32 % 4294967296)) (d % 4294967296) = 3388997632 + m * 65536 + n * 32 + d * 1 := by
  have t16 : m % 4294967296 * 65536 % 4294967296 = m * 65536 := by omega
  rw [orx 16 5 65536 32 (m) (3388997632) (m % 4294967296 * 65536 % 4294967296) (by rfl) (by rfl) (by omega) (by omega) (by omega) (by omega) (by omega) (by omega) t16, t16]
  have t5 : n % 4294967296 * 32 % 4294967296 = n * 32 := by omega
  rw [orx 5 5 32 32 (n) (3388997632 + m * 65536) (n % 4294967296 * 32 % 4294967296) (by rfl) (by rfl) (by omega) (by omega) (by omega) (by omega) (by omega) (by omega) t5, t5]
  have t0 : d % 4294967296 = d * 1 := by omega
  rw [orx 0 5 1 32 (d) (3388997632 + m * 65536 + n * 32) (d % 4294967296) (by rfl) (by rfl) (by omega) (by omega) (by omega) (by omega) (by omega) (by omega) t0, t0]
  try omega
set_option maxRecDepth 10000 in
theorem pval_13 (d n m a c imm : Int) (g : ((0 ≤ d ∧ d ≤ 31)) ∧ ((0 ≤ n ∧ n ≤ 31)) ∧ ((0 ≤ m ∧ m ≤ 31)) ∧ ((0 ≤ a ∧ a ≤ 31)) ∧ (c = 0) ∧ (imm = 0)) : enc_Word.f 13 d n m a c imm = some (2600468480 + m * 65536 + a * 1024 + n * 32 + d * 1, 0) := by
  have hk := chk_13 0 d n m a c imm
  rw [Nat.zero_add, if_pos g] at hk
  refine word_good (b := 2600468480) hk (by kernel_rfl) ?_
  show putAll [(5, 5, n), (16, 5, m), (10, 5, a), (0, 5, d)] 2600468480 = some (2600468480 + m * 65536 + a * 1024 + n * 32 + d * 1)
  have s5 : put1 (2600468480) ((5 : Nat) : Int) ((5 : Nat) : Int) (n) = some (2600468480 + n * 32) := put1x 5 5 32 32 (2600468480) (n) (n) (by rfl) (by rfl) (by omega) (by omega) (by omega) (by omega) (by omega) (by omega) (by omega)
  have s16 : put1 (2600468480 + n * 32) ((16 : Nat) : Int) ((5 : Nat) : Int) (m) = some (2600468480 + n * 32 + m * 65536) := put1x 16 5 65536 32 (2600468480 + n * 32) (m) (m) (by rfl) (by rfl) (by omega) (by omega) (by omega) (by omega) (by omega) (by omega) (by omega)
  have s10 : put1 (2600468480 + n * 32 + m * 65536) ((10 : Nat) : Int) ((5 : Nat) : Int) (a) = some (2600468480 + n * 32 + m * 65536 + a * 1024) := put1x 10 5 1024 32 (2600468480 + n * 32 + m * 65536) (a) (a) (by rfl) (by rfl) (by omega) (by omega) (by omega) (by omega) (by omega) (by omega) (by omega)
  have s0 : put1 (2600468480 + n * 32 + m * 65536 + a * 1024) ((0 : Nat) : Int) ((5 : Nat) : Int) (d) = some (2600468480 + n * 32 + m * 65536 + a * 1024 + d * 1) := put1x 0 5 1 32 (2600468480 + n * 32 + m * 65536 + a * 1024) (d) (d) (by rfl) (by rfl) (by omega) (by omega) (by omega) (by omega) (by omega) (by omega) (by omega)
  refine (congrArg (fun z => Option.bind z _) s5).trans ?_
  simp only [Option.bind_some]
  refine (congrArg (fun z => Option.bind z _) s16).trans ?_
  simp only [Option.bind_some]
  refine (congrArg (fun z => Option.bind z _) s10).trans ?_
  simp only [Option.bind_some]
  refine (congrArg (fun z => Option.bind z _) s0).trans ?_
  simp only [Option.bind_some]
  exact congrArg some (by omega)
set_option maxRecDepth 10000 in
theorem exval_13 (d n m a c imm : Int) (g : ((0 ≤ d ∧ d ≤ 31)) ∧ ((0 ≤ n ∧ n ≤ 31)) ∧ ((0 ≤ m ∧ m ≤ 31)) ∧ ((0 ≤ a ∧ a ≤ 31)) ∧ (c = 0) ∧ (imm = 0)) : Go.bits .or .u32 (Go.bits .or .u32 (Go.bits .or .u32 (Go.bits .or .u32 (2600468480) (m % 4294967296 * 65536 % 4294967296)) (a % 4294967296 * 1024 % 4294967296)) (n % 4294967296 * 32 % 4294967296)) (d % 4294967296) = 2600468480 + m * 65536 + a * 1024 + n * 32 + d * 1 := by
  have t16 : m % 4294967296 * 65536 % 4294967296 = m * 65536 := by omega
  rw [orx 16 5 65536 32 (m) (2600468480) (m % 4294967296 * 65536 % 4294967296) (by rfl) (by rfl) (by omega) (by omega) (by omega) (by omega) (by omega) (by omega) t16, t16]
  have t10 : a % 4294967296 * 1024 % 4294967296 = a * 1024 := by omega
  rw [orx 10 5 1024 32 (a) (2600468480 + m * 65536) (a % 4294967296 * 1024 % 4294967296) (by rfl) (by rfl) (by omega) (by omega) (by omega) (by omega) (by omega) (by omega) t10, t10]
  have t5 : n % 4294967296 * 32 % 4294967296 = n * 32 := by omega
  rw [orx 5 5 32 32 (n) (2600468480 + m * 65536 + a * 1024) (n % 4294967296 * 32 % 4294967296) (by rfl) (by rfl) (by omega) (by omega) (by omega) (by omega) (by omega) (by omega) t5, t5]
  have t0 : d % 4294967296 = d * 1 := by omega
  rw [orx 0 5 1 32 (d) (2600468480 + m * 65536 + a * 1024 + n * 32) (d % 4294967296) (by rfl) (by rfl) (by omega) (by omega) (by omega) (by omega) (by omega) (by omega) t0, t0]
  try omega
set_option maxRecDepth 10000 in
theorem pval_14 (d n m a c imm : Int) (g : ((0 ≤ d ∧ d ≤ 31)) ∧ ((0 ≤ n ∧ n ≤ 31)) ∧ ((0 ≤ m ∧ m ≤ 31)) ∧ ((0 ≤ a ∧ a ≤ 31)) ∧ (c = 0) ∧ (imm = 0)) : enc_Word.f 14 d n m a c imm = some (2600501248 + m * 65536 + a * 1024 + n * 32 + d * 1, 0) := by
  have hk := chk_14 0 d n m a c imm
  rw [Nat.zero_add, if_pos g] at hk
  refine word_good (b := 2600501248) hk (by kernel_rfl) ?_
  show putAll [(5, 5, n), (16, 5, m), (10, 5, a), (0, 5, d)] 2600501248 = some (2600501248 + m * 65536 + a * 1024 + n * 32 + d * 1)
  have s5 : put1 (2600501248) ((5 : Nat) : Int) ((5 : Nat) : Int) (n) = some (2600501248 + n * 32) := put1x 5 5 32 32 (2600501248) (n) (n) (by rfl) (by rfl) (by omega) (by omega) (by omega) (by omega) (by omega) (by omega) (by omega)
  have s16 : put1 (2600501248 + n * 32) ((16 : Nat) : Int) ((5 : Nat) : Int) (m) = some (2600501248 + n * 32 + m * 65536) := put1x 16 5 65536 32 (2600501248 + n * 32) (m) (m) (by rfl) (by rfl) (by omega) (by omega) (by omega) (by omega) (by omega) (by omega) (by omega)
  have s10 : put1 (2600501248 + n * 32 + m * 65536) ((10 : Nat) : Int) ((5 : Nat) : Int) (a) = some (2600501248 + n * 32 + m * 65536 + a * 1024) := put1x 10 5 1024 32 (2600501248 + n * 32 + m * 65536) (a) (a) (by rfl) (by rfl) (by omega) (by omega) (by omega) (by omega) (by omega) (by omega) (by omega)
  have s0 : put1 (2600501248 + n * 32 + m * 65536 + a * 1024) ((0 : Nat) : Int) ((5 : Nat) : Int) (d) = some (2600501248 + n * 32 + m * 65536 + a * 1024 + d * 1) := put1x 0 5 1 32 (2600501248 + n * 32 + m * 65536 + a * 1024) (d) (d) (by rfl) (by rfl) (by omega) (by omega) (by omega) (by omega) (by omega) (by omega) (by omega)
  refine (congrArg (fun z => Option.bind z _) s5).trans ?_
  simp only [Option.bind_some]
  refine (congrArg (fun z => Option.bind z _) s16).trans ?_
  simp only [Option.bind_some]
  refine (congrArg (fun z => Option.bind z _) s10).trans ?_
  simp only [Option.bind_some]
  refine (congrArg (fun z => Option.bind z _) s0).trans ?_
  simp only [Option.bind_some]
  exact congrArg some (by omega)
set_option maxRecDepth 10000 in
theorem exval_14 (d n m a c imm : Int) (g : ((0 ≤ d ∧ d ≤ 31)) ∧ ((0 ≤ n ∧ n ≤ 31)) ∧ ((0 ≤ m ∧ m ≤ 31)) ∧ ((0 ≤ a ∧ a ≤ 31)) ∧ (c = 0) ∧ (imm = 0)) : Go.bits .or .u32 (Go.bits .or .u32 (Go.bits .or .u32 (Go.bits .or .u32 (2600501248) (m % 4294967296 * 65536 % 4294967296)) (a % 4294967296 * 1024 % 4294967296)) (n % 4294967296 * 32 % 4294967296)) (d % 4294967296) = 2600501248 + m * 65536 + a * 1024 + n * 32 + d * 1 := by
  have t16 : m % 4294967296 * 65536 % 4294967296 = m * 65536 := by omega
  rw [orx 16 5 65536 32 (m) (2600501248) (m % 4294967296 * 65536 % 4294967296) (by rfl) (by rfl) (by omega) (by omega) (by omega) (by omega) (by omega) (by omega) t16, t16]
  have t10 : a % 4294967296 * 1024 % 4294967296 = a * 1024 := by omega
  rw [orx 10 5 1024 32 (a) (2600501248 + m * 65536) (a % 4294967296 * 1024 % 4294967296) (by rfl) (by rfl) (by omega) (by omega) (by omega) (by omega) (by omega) (by omega) t10, t10]
  have t5 : n % 4294967296 * 32 % 4294967296 = n * 32 := by omega
  rw [orx 5 5 32 32 (n) (2600501248 + m * 65536 + a * 1024) (n % 4294967296 * 32 % 4294967296) (by rfl) (by rfl) (by omega) (by omega) (by omega) (by omega) (by omega) (by omega) t5, t5]
  have t0 : d % 4294967296 = d * 1 := by omega
  rw [orx 0 5 1 32 (d) (2600501248 + m * 65536 + a * 1024 + n * 32) (d % 4294967296) (by rfl) (by rfl) (by omega) (by omega) (by omega) (by omega) (by omega) (by omega) t0, t0]
  try omega
set_option maxRecDepth 10000 in
theorem pval_15 (d n m a c imm : Int) (g : ((0 ≤ d ∧ d ≤ 31)) ∧ ((0 ≤ n ∧ n ≤ 31)) ∧ ((0 ≤ m ∧ m ≤ 31)) ∧ (a = 0) ∧ (c = 0) ∧ (imm = 0)) : enc_Word.f 15 d n m a c imm = some (2596277248 + m * 65536 + n * 32 + d * 1, 0) := by
  have hk := chk_15 0 d n m a c imm
  rw [Nat.zero_add, if_pos g] at hk
  refine word_good (b := 2596277248) hk (by kernel_rfl) ?_
  show putAll [(5, 5, n), (16, 5, m), (0, 5, d)] 2596277248 = some (2596277248 + m * 65536 + n * 32 + d * 1)
  have s5 : put1 (2596277248) ((5 : Nat) : Int) ((5 : Nat) : Int) (n) = some (2596277248 + n * 32) := put1x 5 5 32 32 (2596277248) (n) (n) (by rfl) (by rfl) (by omega) (by omega) (by omega) (by omega) (by omega) (by omega) (by omega)
  have s16 : put1 (2596277248 + n * 32) ((16 : Nat) : Int) ((5 : Nat) : Int) (m) = some (2596277248 + n * 32 + m * 65536) := put1x 16 5 65536 32 (2596277248 + n * 32) (m) (m) (by rfl) (by rfl) (by omega) (by omega) (by omega) (by omega) (by omega) (by omega) (by omega)
  have s0 : put1 (2596277248 + n * 32 + m * 65536) ((0 : Nat) : Int) ((5 : Nat) : Int) (d) = some (2596277248 + n * 32 + m * 65536 + d * 1) := put1x 0 5 1 32 (2596277248 + n * 32 + m * 65536) (d) (d) (by rfl) (by rfl) (by omega) (by omega) (by omega) (by omega) (by omega) (by omega) (by omega)
  refine (congrArg (fun z => Option.bind z _) s5).trans ?_
  simp only [Option.bind_some]
  refine (congrArg (fun z => Option.bind z _) s16).trans ?_
  simp only [Option.bind_some]
  refine (congrArg (fun z => Option.bind z _) s0).trans ?_
  simp only [Option.bind_some]
  exact congrArg some (by omega)
set_option maxRecDepth 10000 in
theorem exval_15 (d n m a c imm : Int) (g : ((0 ≤ d ∧ d ≤ 31)) ∧ ((0 ≤ n ∧ n ≤ 31)) ∧ ((0 ≤ m ∧ m ≤ 31)) ∧ (a = 0) ∧ (c = 0) ∧ (imm = 0)) : Go.bits .or .u32 (Go.bits .or .u32 (Go.bits .or .u32 (2596277248) (m % 4294967296 * 65536 % 4294967296)) (n % 4294967296 * 32 % 4294967296)) (d % 4294967296) = 2596277248 + m * 65536 + n * 32 + d * 1 := by
  have t16 : m % 4294967296 * 65536 % 4294967296 = m * 65536 := by omega
  rw [orx 16 5 65536 32 (m) (2596277248) (m % 4294967296 * 65536 % 4294967296) (by rfl) (by rfl) (by omega) (by omega) (by omega) (by omega) (by omega) (by omega) t16, t16]
  have t5 : n % 4294967296 * 32 % 4294967296 = n * 32 := by omega
  rw [orx 5 5 32 32 (n) (2596277248 + m * 65536) (n % 4294967296 * 32 % 4294967296) (by rfl) (by rfl) (by omega) (by omega) (by omega) (by omega) (by omega) (by omega) t5, t5]
  have t0 : d % 4294967296 = d * 1 := by omega
  rw [orx 0 5 1 32 (d) (2596277248 + m * 65536 + n * 32) (d % 4294967296) (by rfl) (by rfl) (by omega) (by omega) (by omega) (by omega) (by omega) (by omega) t0, t0]
  try omega
set_option maxRecDepth 10000 in
theorem pval_16 (d n m a c imm : Int) (g : ((0 ≤ d ∧ d ≤ 31)) ∧ ((0 ≤ n ∧ n ≤ 31)) ∧ ((0 ≤ m ∧ m ≤ 31)) ∧ (a = 0) ∧ (c = 0) ∧ (imm = 0)) : enc_Word.f 16 d n m a c imm = some (2596282368 + m * 65536 + n * 32 + d * 1, 0) := by
  have hk := chk_16 0 d n m a c imm
  rw [Nat.zero_add, if_pos g] at hk
  refine word_good (b := 2596282368) hk (by kernel_rfl) ?_
  show putAll [(5, 5, n), (16, 5, m), (0, 5, d)] 2596282368 = some (2596282368 + m * 65536 + n * 32 + d * 1)
  have s5 : put1 (2596282368) ((5 : Nat) : Int) ((5 : Nat) : Int) (n) = some (2596282368 + n * 32) := put1x 5 5 32 32 (2596282368) (n) (n) (by rfl) (by rfl) (by omega) (by omega) (by omega) (by omega) (by omega) (by omega) (by omega)
  have s16 : put1 (2596282368 + n * 32) ((16 : Nat) : Int) ((5 : Nat) : Int) (m) = some (2596282368 + n * 32 + m * 65536) := put1x 16 5 65536 32 (2596282368 + n * 32) (m) (m) (by rfl) (by rfl) (by omega) (by omega) (by omega) (by omega) (by omega) (by omega) (by omega)
  have s0 : put1 (2596282368 + n * 32 + m * 65536) ((0 : Nat) : Int) ((5 : Nat) : Int) (d) = some (2596282368 + n * 32 + m * 65536 + d * 1) := put1x 0 5 1 32 (2596282368 + n * 32 + m * 65536) (d) (d) (by rfl) (by rfl) (by omega) (by omega) (by omega) (by omega) (by omega) (by omega) (by omega)
  refine (congrArg (fun z => Option.bind z _) s5).trans ?_
  simp only [Option.bind_some]
  refine (congrArg (fun z => Option.bind z _) s16).trans ?_
  simp only [Option.bind_some]
  refine (congrArg (fun z => Option.bind z _) s0).trans ?_
  simp only [Option.bind_some]
  exact congrArg some (by omega)
set_option maxRecDepth 10000 in
theorem exval_16 (d n m a c imm : Int) (g : ((0 ≤ d ∧ d ≤ 31)) ∧ ((0 ≤ n ∧ n ≤ 31)) ∧ ((0 ≤ m ∧ m ≤ 31)) ∧ (a = 0) ∧ (c = 0) ∧ (imm = 0)) : Go.bits .or .u32 (Go.bits .or .u32 (Go.bits .or .u32 (2596282368) (m % 4294967296 * 65536 % 4294967296)) (n % 4294967296 * 32 % 4294967296)) (d % 4294967296) = 2596282368 + m * 65536 + n * 32 + d * 1 := by
  have t16 : m % 4294967296 * 65536 % 4294967296 = m * 65536 := by omega
  rw [orx 16 5 65536 32 (m) (2596282368) (m % 4294967296 * 65536 % 4294967296) (by rfl) (by rfl) (by omega) (by omega) (by omega) (by omega) (by omega) (by omega) t16, t16]
  have t5 : n % 4294967296 * 32 % 4294967296 = n * 32 := by omega
  rw [orx 5 5 32 32 (n) (2596282368 + m * 65536) (n % 4294967296 * 32 % 4294967296) (by rfl) (by rfl) (by omega) (by omega) (by omega) (by omega) (by omega) (by omega) t5, t5]
  have t0 : d % 4294967296 = d * 1 := by omega
  rw [orx 0 5 1 32 (d) (2596282368 + m * 65536 + n * 32) (d % 4294967296) (by rfl) (by rfl) (by omega) (by omega) (by omega) (by omega) (by omega) (by omega) t0, t0]
  try omega
set_option maxRecDepth 10000 in
theorem pval_17 (d n m a c imm : Int) (g : ((0 ≤ d ∧ d ≤ 31)) ∧ ((0 ≤ n ∧ n ≤ 31)) ∧ ((0 ≤ m ∧ m ≤ 31)) ∧ (a = 0) ∧ (c = 0) ∧ (imm = 0)) : enc_Word.f 17 d n m a c imm = some (2596283392 + m * 65536 + n * 32 + d * 1, 0) := by
  have hk := chk_17 0 d n m a c imm
  rw [Nat.zero_add, if_pos g] at hk
  refine word_good (b := 2596283392) hk (by kernel_rfl) ?_
  show putAll [(5, 5, n), (16, 5, m), (0, 5, d)] 2596283392 = some (2596283392 + m * 65536 + n * 32 + d * 1)
  have s5 : put1 (2596283392) ((5 : Nat) : Int) ((5 : Nat) : Int) (n) = some (2596283392 + n * 32) := put1x 5 5 32 32 (2596283392) (n) (n) (by rfl) (by rfl) (by omega) (by omega) (by omega) (by omega) (by omega) (by omega) (by omega)
  have s16 : put1 (2596283392 + n * 32) ((16 : Nat) : Int) ((5 : Nat) : Int) (m) = some (2596283392 + n * 32 + m * 65536) := put1x 16 5 65536 32 (2596283392 + n * 32) (m) (m) (by rfl) (by rfl) (by omega) (by omega) (by omega) (by omega) (by omega) (by omega) (by omega)
  have s0 : put1 (2596283392 + n * 32 + m * 65536) ((0 : Nat) : Int) ((5 : Nat) : Int) (d) = some (2596283392 + n * 32 + m * 65536 + d * 1) := put1x 0 5 1 32 (2596283392 + n * 32 + m * 65536) (d) (d) (by rfl) (by rfl) (by omega) (by omega) (by omega) (by omega) (by omega) (by omega) (by omega)
  refine (congrArg (fun z => Option.bind z _) s5).trans ?_
  simp only [Option.bind_some]
  refine (congrArg (fun z => Option.bind z _) s16).trans ?_
  simp only [Option.bind_some]
  refine (congrArg (fun z => Option.bind z _) s0).trans ?_
  simp only [Option.bind_some]
  exact congrArg some (by omega)
set_option maxRecDepth 10000 in
theorem exval_17 (d n m a c imm : Int) (g : ((0 ≤ d ∧ d ≤ 31)) ∧ ((0 ≤ n ∧ n ≤ 31)) ∧ ((0 ≤ m ∧ m ≤ 31)) ∧ (a = 0) ∧ (c = 0) ∧ (imm = 0)) : Go.bits .or .u32 (Go.bits .or .u32 (Go.bits .or .u32 (2596283392) (m % 4294967296 * 65536 % 4294967296)) (n % 4294967296 * 32 % 4294967296)) (d % 4294967296) = 2596283392 + m * 65536 + n * 32 + d * 1 := by
  have t16 : m % 4294967296 * 65536 % 4294967296 = m * 65536 := by omega
  rw [orx 16 5 65536 32 (m) (2596283392) (m % 4294967296 * 65536 % 4294967296) (by rfl) (by rfl) (by omega) (by omega) (by omega) (by omega) (by omega) (by omega) t16, t16]
  have t5 : n % 4294967296 * 32 % 4294967296 = n * 32 := by omega
  rw [orx 5 5 32 32 (n) (2596283392 + m * 65536) (n % 4294967296 * 32 % 4294967296) (by rfl) (by rfl) (by omega) (by omega) (by omega) (by omega) (by omega) (by omega) t5, t5]
  have t0 : d % 4294967296 = d * 1 := by omega
  rw [orx 0 5 1 32 (d) (2596283392 + m * 65536 + n * 32) (d % 4294967296) (by rfl) (by rfl) (by omega) (by omega) (by omega) (by omega) (by omega) (by omega) t0, t0]
  try omega
set_option maxRecDepth 10000 in
theorem pval_18 (d n m a c imm : Int) (g : ((0 ≤ d ∧ d ≤ 31)) ∧ ((0 ≤ n ∧ n ≤ 31)) ∧ ((0 ≤ m ∧ m ≤ 31)) ∧ (a = 0) ∧ (c = 0) ∧ (imm = 0)) : enc_Word.f 18 d n m a c imm = some (2596284416 + m * 65536 + n * 32 + d * 1, 0) := by
  have hk := chk_18 0 d n m a c imm
  rw [Nat.zero_add, if_pos g] at hk
  refine word_good (b := 2596284416) hk (by kernel_rfl) ?_
  show putAll [(5, 5, n), (16, 5, m), (0, 5, d)] 2596284416 = some (2596284416 + m * 65536 + n * 32 + d * 1)
  have s5 : put1 (2596284416) ((5 : Nat) : Int) ((5 : Nat) : Int) (n) = some (2596284416 + n * 32) := put1x 5 5 32 32 (2596284416) (n) (n) (by rfl) (by rfl) (by omega) (by omega) (by omega) (by omega) (by omega) (by omega) (by omega)
  have s16 : put1 (2596284416 + n * 32) ((16 : Nat) : Int) ((5 : Nat) : Int) (m) = some (2596284416 + n * 32 + m * 65536) := put1x 16 5 65536 32 (2596284416 + n * 32) (m) (m) (by rfl) (by rfl) (by omega) (by omega) (by omega) (by omega) (by omega) (by omega) (by omega)
  have s0 : put1 (2596284416 + n * 32 + m * 65536) ((0 : Nat) : Int) ((5 : Nat) : Int) (d) = some (2596284416 + n * 32 + m * 65536 + d * 1) := put1x 0 5 1 32 (2596284416 + n * 32 + m * 65536) (d) (d) (by rfl) (by rfl) (by omega) (by omega) (by omega) (by omega) (by omega) (by omega) (by omega)
  refine (congrArg (fun z => Option.bind z _) s5).trans ?_
  simp only [Option.bind_some]
  refine (congrArg (fun z => Option.bind z _) s16).trans ?_
  simp only [Option.bind_some]
  refine (congrArg (fun z => Option.bind z _) s0).trans ?_
  simp only [Option.bind_some]
  exact congrArg some (by omega)
set_option maxRecDepth 10000 in
theorem exval_18 (d n m a c imm : Int) (g : ((0 ≤ d ∧ d ≤ 31)) ∧ ((0 ≤ n ∧ n ≤ 31)) ∧ ((0 ≤ m ∧ m ≤ 31)) ∧ (a = 0) ∧ (c = 0) ∧ (imm = 0)) : Go.bits .or .u32 (Go.bits .or .u32 (Go.bits .or .u32 (2596284416) (m % 4294967296 * 65536 % 4294967296)) (n % 4294967296 * 32 % 4294967296)) (d % 4294967296) = 2596284416 + m * 65536 + n * 32 + d * 1 := by
  have t16 : m % 4294967296 * 65536 % 4294967296 = m * 65536 := by omega
  rw [orx 16 5 65536 32 (m) (2596284416) (m % 4294967296 * 65536 % 4294967296) (by rfl) (by rfl) (by omega) (by omega) (by omega) (by omega) (by omega) (by omega) t16, t16]
  have t5 : n % 4294967296 * 32 % 4294967296 = n * 32 := by omega
  rw [orx 5 5 32 32 (n) (2596284416 + m * 65536) (n % 4294967296 * 32 % 4294967296) (by rfl) (by rfl) (by omega) (by omega) (by omega) (by omega) (by omega) (by omega) t5, t5]
  have t0 : d % 4294967296 = d * 1 := by omega
  rw [orx 0 5 1 32 (d) (2596284416 + m * 65536 + n * 32) (d % 4294967296) (by rfl) (by rfl) (by omega) (by omega) (by omega) (by omega) (by omega) (by omega) t0, t0]
  try omega
set_option maxRecDepth 10000 in
theorem pval_19 (d n m a c imm : Int) (g : ((0 ≤ d ∧ d ≤ 31)) ∧ ((0 ≤ n ∧ n ≤ 31)) ∧ ((0 ≤ m ∧ m ≤ 31)) ∧ (a = 0) ∧ ((0 ≤ c ∧ c ≤ 15)) ∧ (imm = 0)) : enc_Word.f 19 d n m a c imm = some (2592080896 + m * 65536 + c * 4096 + n * 32 + d * 1, 0) := by
  have hk := chk_19 0 d n m a c imm
  rw [Nat.zero_add, if_pos g] at hk
  refine word_good (b := 2592080896) hk (by kernel_rfl) ?_
  show putAll [(5, 5, n), (12, 4, c), (16, 5, m), (0, 5, d)] 2592080896 = some (2592080896 + m * 65536 + c * 4096 + n * 32 + d * 1)
  have s5 : put1 (2592080896) ((5 : Nat) : Int) ((5 : Nat) : Int) (n) = some (2592080896 + n * 32) := put1x 5 5 32 32 (2592080896) (n) (n) (by rfl) (by rfl) (by omega) (by omega) (by omega) (by omega) (by omega) (by omega) (by omega)
  have s12 : put1 (2592080896 + n * 32) ((12 : Nat) : Int) ((4 : Nat) : Int) (c) = some (2592080896 + n * 32 + c * 4096) := put1x 12 4 4096 16 (2592080896 + n * 32) (c) (c) (by rfl) (by rfl) (by omega) (by omega) (by omega) (by omega) (by omega) (by omega) (by omega)
  have s16 : put1 (2592080896 + n * 32 + c * 4096) ((16 : Nat) : Int) ((5 : Nat) : Int) (m) = some (2592080896 + n * 32 + c * 4096 + m * 65536) := put1x 16 5 65536 32 (2592080896 + n * 32 + c * 4096) (m) (m) (by rfl) (by rfl) (by omega) (by omega) (by omega) (by omega) (by omega) (by omega) (by omega)
  have s0 : put1 (2592080896 + n * 32 + c * 4096 + m * 65536) ((0 : Nat) : Int) ((5 : Nat) : Int) (d) = some (2592080896 + n * 32 + c * 4096 + m * 65536 + d * 1) := put1x 0 5 1 32 (2592080896 + n * 32 + c * 4096 + m * 65536) (d) (d) (by rfl) (by rfl) (by omega) (by omega) (by omega) (by omega) (by omega) (by omega) (by omega)
  refine (congrArg (fun z => Option.bind z _) s5).trans ?_
  simp only [Option.bind_some]
  refine (congrArg (fun z => Option.bind z _) s12).trans ?_
  simp only [Option.bind_some]
  refine (congrArg (fun z => Option.bind z _) s16).trans ?_
  simp only [Option.bind_some]
  refine (congrArg (fun z => Option.bind z _) s0).trans ?_
  simp only [Option.bind_some]
  exact congrArg some (by omega)
set_option maxRecDepth 10000 in
theorem exval_19 (d n m a c imm : Int) (g : ((0 ≤ d ∧ d ≤ 31)) ∧ ((0 ≤ n ∧ n ≤ 31)) ∧ ((0 ≤ m ∧ m ≤ 31)) ∧ (a = 0) ∧ ((0 ≤ c ∧ c ≤ 15)) ∧ (imm = 0)) : Go.bits .or .u32 (Go.bits .or .u32 (Go.bits .or .u32 (Go.bits .or .u32 (2592080896) (m % 4294967296 * 65536 % 4294967296)) (c % 4294967296 * 4096 % 4294967296)) (n % 4294967296 * 32 % 4294967296)) (d % 4294967296) = 2592080896 + m * 65536 + c * 4096 + n * 32 + d * 1 := by
  have t16 : m % 4294967296 * 65536 % 4294967296 = m * 65536 := by omega
  rw [orx 16 5 65536 32 (m) (2592080896) (m % 4294967296 * 65536 % 4294967296) (by rfl) (by rfl) (by omega) (by omega) (by omega) (by omega) (by omega) (by omega) t16, t16]
  have t12 : c % 4294967296 * 4096 % 4294967296 = c * 4096 := by omega
  rw [orx 12 4 4096 16 (c) (2592080896 + m * 65536) (c % 4294967296 * 4096 % 4294967296) (by rfl) (by rfl) (by omega) (by omega) (by omega) (by omega) (by omega) (by omega) t12, t12]
  have t5 : n % 4294967296 * 32 % 4294967296 = n * 32 := by omega
  rw [orx 5 5 32 32 (n) (2592080896 + m * 65536 + c * 4096) (n % 4294967296 * 32 % 4294967296) (by rfl) (by rfl) (by omega) (by omega) (by omega) (by omega) (by omega) (by omega) t5, t5]
  have t0 : d % 4294967296 = d * 1 := by omega
  rw [orx 0 5 1 32 (d) (2592080896 + m * 65536 + c * 4096 + n * 32) (d % 4294967296) (by rfl) (by rfl) (by omega) (by omega) (by omega) (by omega) (by omega) (by omega) t0, t0]
  try omega
set_option maxRecDepth 10000 in
theorem pval_20 (d n m a c imm q : Int) (g : (d = 0) ∧ (n = 0) ∧ (m = 0) ∧ (a = 0) ∧ (c = 0) ∧ ((-134217728 ≤ imm ∧ imm ≤ 134217724) ∧ Int.tmod imm 4 = 0)) (hq : imm = 4 * q) (hq2 : Int.tdiv imm 4 = q) : enc_Word.f 20 d n m a c imm = some (335544320 + (q % 67108864) * 1, 0) := by
  have hk := chk_20 0 d n m a c imm
  rw [Nat.zero_add, if_pos g] at hk
  refine word_good (b := 335544320) hk (by kernel_rfl) ?_
  show putAll [(0, 26, (Int.tdiv imm 4))] 335544320 = some (335544320 + (q % 67108864) * 1)
  rw [hq2]
  have s0 : put1 (335544320) ((0 : Nat) : Int) ((26 : Nat) : Int) (q) = some (335544320 + (q % 67108864) * 1) := put1x 0 26 1 67108864 (335544320) (q) ((q % 67108864)) (by rfl) (by rfl) (by omega) (by omega) (by omega) (by omega) (by omega) (by omega) (by omega)
  refine (congrArg (fun z => Option.bind z _) s0).trans ?_
  simp only [Option.bind_some]
  exact congrArg some (by omega)
set_option maxRecDepth 10000 in
theorem exval_20 (d n m a c imm q : Int) (g : (d = 0) ∧ (n = 0) ∧ (m = 0) ∧ (a = 0) ∧ (c = 0) ∧ ((-134217728 ≤ imm ∧ imm ≤ 134217724) ∧ Int.tmod imm 4 = 0)) (hq : imm = 4 * q) (hq2 : Int.tdiv imm 4 = q) : Go.bits .or .u32 (335544320) ((Go.bits .and .u32 (wrap64 (Int.tdiv imm 4) % 4294967296) 67108863)) = 335544320 + (q % 67108864) * 1 := by
  rw [hq2]
  have hw : wrap64 q = q := by unfold wrap64; omega
  rw [hw, andx 26 67108863 67108864 (q % 4294967296) (by rfl) (by rfl) (by omega) (by omega) (by omega)]
  have t0 : (q % 4294967296 % 67108864) = (q % 67108864) * 1 := by omega
  rw [orx 0 26 1 67108864 ((q % 67108864)) (335544320) ((q % 4294967296 % 67108864)) (by rfl) (by rfl) (by omega) (by omega) (by omega) (by omega) (by omega) (by omega) t0, t0]
  try omega
set_option maxRecDepth 10000 in
theorem pval_21 (d n m a c imm q : Int) (g : (d = 0) ∧ (n = 0) ∧ (m = 0) ∧ (a = 0) ∧ ((0 ≤ c ∧ c ≤ 15)) ∧ (((-1048576 ≤ imm ∧ imm ≤ 1048572) ∧ Int.tmod imm 4 = 0) ∧ c ≤ 13)) (hq : imm = 4 * q) (hq2 : Int.tdiv imm 4 = q) : enc_Word.f 21 d n m a c imm = some (1409286144 + (q % 524288) * 32 + c * 1, 0) := by
  have hk := chk_21 0 d n m a c imm
  rw [Nat.zero_add, if_pos g] at hk
  refine word_good (b := 1409286144) hk (by kernel_rfl) ?_
  show putAll [(5, 19, (Int.tdiv imm 4)), (0, 4, c)] 1409286144 = some (1409286144 + (q % 524288) * 32 + c * 1)
  rw [hq2]
  have s5 : put1 (1409286144) ((5 : Nat) : Int) ((19 : Nat) : Int) (q) = some (1409286144 + (q % 524288) * 32) := put1x 5 19 32 524288 (1409286144) (q) ((q % 524288)) (by rfl) (by rfl) (by omega) (by omega) (by omega) (by omega) (by omega) (by omega) (by omega)
  have s0 : put1 (1409286144 + (q % 524288) * 32) ((0 : Nat) : Int) ((4 : Nat) : Int) (c) = some (1409286144 + (q % 524288) * 32 + c * 1) := put1x 0 4 1 16 (1409286144 + (q % 524288) * 32) (c) (c) (by rfl) (by rfl) (by omega) (by omega) (by omega) (by omega) (by omega) (by omega) (by omega)
  refine (congrArg (fun z => Option.bind z _) s5).trans ?_
  simp only [Option.bind_some]
  refine (congrArg (fun z => Option.bind z _) s0).trans ?_
  simp only [Option.bind_some]
  exact congrArg some (by omega)
set_option maxRecDepth 10000 in
theorem exval_21 (d n m a c imm q : Int) (g : (d = 0) ∧ (n = 0) ∧ (m = 0) ∧ (a = 0) ∧ ((0 ≤ c ∧ c ≤ 15)) ∧ (((-1048576 ≤ imm ∧ imm ≤ 1048572) ∧ Int.tmod imm 4 = 0) ∧ c ≤ 13)) (hq : imm = 4 * q) (hq2 : Int.tdiv imm 4 = q) : Go.bits .or .u32 (Go.bits .or .u32 (1409286144) ((Go.bits .and .u32 (wrap64 (Int.tdiv imm 4) % 4294967296) 524287) * 32 % 4294967296)) (c % 4294967296) = 1409286144 + (q % 524288) * 32 + c * 1 := by
  rw [hq2]
  have hw : wrap64 q = q := by unfold wrap64; omega
  rw [hw, andx 19 524287 524288 (q % 4294967296) (by rfl) (by rfl) (by omega) (by omega) (by omega)]
  have t5 : (q % 4294967296 % 524288) * 32 % 4294967296 = (q % 524288) * 32 := by omega
  rw [orx 5 19 32 524288 ((q % 524288)) (1409286144) ((q % 4294967296 % 524288) * 32 % 4294967296) (by rfl) (by rfl) (by omega) (by omega) (by omega) (by omega) (by omega) (by omega) t5, t5]
  have t0 : c % 4294967296 = c * 1 := by omega
  rw [orx 0 4 1 16 (c) (1409286144 + (q % 524288) * 32) (c % 4294967296) (by rfl) (by rfl) (by omega) (by omega) (by omega) (by omega) (by omega) (by omega) t0, t0]
  try omega
set_option maxRecDepth 10000 in
theorem pval_22 (d n m a c imm q : Int) (g : ((0 ≤ d ∧ d ≤ 31)) ∧ (n = 0) ∧ (m = 0) ∧ (a = 0) ∧ (c = 0) ∧ ((-1048576 ≤ imm ∧ imm ≤ 1048572) ∧ Int.tmod imm 4 = 0)) (hq : imm = 4 * q) (hq2 : Int.tdiv imm 4 = q) : enc_Word.f 22 d n m a c imm = some (3019898880 + (q % 524288) * 32 + d * 1, 0) := by
  have hk := chk_22 0 d n m a c imm
  rw [Nat.zero_add, if_pos g] at hk
  refine word_good (b := 3019898880) hk (by kernel_rfl) ?_
  show putAll [(5, 19, (Int.tdiv imm 4)), (0, 5, d)] 3019898880 = some (3019898880 + (q % 524288) * 32 + d * 1)
  rw [hq2]
  have s5 : put1 (3019898880) ((5 : Nat) : Int) ((19 : Nat) : Int) (q) = some (3019898880 + (q % 524288) * 32) := put1x 5 19 32 524288 (3019898880) (q) ((q % 524288)) (by rfl) (by rfl) (by omega) (by omega) (by omega) (by omega) (by omega) (by omega) (by omega)
  have s0 : put1 (3019898880 + (q % 524288) * 32) ((0 : Nat) : Int) ((5 : Nat) : Int) (d) = some (3019898880 + (q % 524288) * 32 + d * 1) := put1x 0 5 1 32 (3019898880 + (q % 524288) * 32) (d) (d) (by rfl) (by rfl) (by omega) (by omega) (by omega) (by omega) (by omega) (by omega) (by omega)
  refine (congrArg (fun z => Option.bind z _) s5).trans ?_
  simp only [Option.bind_some]
  refine (congrArg (fun z => Option.bind z _) s0).trans ?_
  simp only [Option.bind_some]
  exact congrArg some (by omega)
set_option maxRecDepth 10000 in
theorem exval_22 (d n m a c imm q : Int) (g : ((0 ≤ d ∧ d ≤ 31)) ∧ (n = 0) ∧ (m = 0) ∧ (a = 0) ∧ (c = 0) ∧ ((-1048576 ≤ imm ∧ imm ≤ 1048572) ∧ Int.tmod imm 4 = 0)) (hq : imm = 4 * q) (hq2 : Int.tdiv imm 4 = q) : Go.bits .or .u32 (Go.bits .or .u32 (3019898880) ((Go.bits .and .u32 (wrap64 (Int.tdiv imm 4) % 4294967296) 524287) * 32 % 4294967296)) (d % 4294967296) = 3019898880 + (q % 524288) * 32 + d * 1 := by
  rw [hq2]
  have hw : wrap64 q = q := by unfold wrap64; omega
  rw [hw, andx 19 524287 524288 (q % 4294967296) (by rfl) (by rfl) (by omega) (by omega) (by omega)]
  have t5 : (q % 4294967296 % 524288) * 32 % 4294967296 = (q % 524288) * 32 := by omega
  rw [orx 5 19 32 524288 ((q % 524288)) (3019898880) ((q % 4294967296 % 524288) * 32 % 4294967296) (by rfl) (by rfl) (by omega) (by omega) (by omega) (by omega) (by omega) (by omega) t5, t5]
  have t0 : d % 4294967296 = d * 1 := by omega
  rw [orx 0 5 1 32 (d) (3019898880 + (q % 524288) * 32) (d % 4294967296) (by rfl) (by rfl) (by omega) (by omega) (by omega) (by omega) (by omega) (by omega) t0, t0]
  try omega
set_option maxRecDepth 10000 in
theorem pval_23 (d n m a c imm q : Int) (g : ((0 ≤ d ∧ d ≤ 31)) ∧ (n = 0) ∧ (m = 0) ∧ (a = 0) ∧ (c = 0) ∧ ((-1048576 ≤ imm ∧ imm ≤ 1048572) ∧ Int.tmod imm 4 = 0)) (hq : imm = 4 * q) (hq2 : Int.tdiv imm 4 = q) : enc_Word.f 23 d n m a c imm = some (3036676096 + (q % 524288) * 32 + d * 1, 0) := by
  have hk := chk_23 0 d n m a c imm
  rw [Nat.zero_add, if_pos g] at hk
  refine word_good (b := 3036676096) hk (by kernel_rfl) ?_
  show putAll [(5, 19, (Int.tdiv imm 4)), (0, 5, d)] 3036676096 = some (3036676096 + (q % 524288) * 32 + d * 1)
  rw [hq2]
  have s5 : put1 (3036676096) ((5 : Nat) : Int) ((19 : Nat) : Int) (q) = some (3036676096 + (q % 524288) * 32) := put1x 5 19 32 524288 (3036676096) (q) ((q % 524288)) (by rfl) (by rfl) (by omega) (by omega) (by omega) (by omega) (by omega) (by omega) (by omega)
  have s0 : put1 (3036676096 + (q % 524288) * 32) ((0 : Nat) : Int) ((5 : Nat) : Int) (d) = some (3036676096 + (q % 524288) * 32 + d * 1) := put1x 0 5 1 32 (3036676096 + (q % 524288) * 32) (d) (d) (by rfl) (by rfl) (by omega) (by omega) (by omega) (by omega) (by omega) (by omega) (by omega)
  refine (congrArg (fun z => Option.bind z _) s5).trans ?_
  simp only [Option.bind_some]
  refine (congrArg (fun z => Option.bind z _) s0).trans ?_
  simp only [Option.bind_some]
  exact congrArg some (by omega)
set_option maxRecDepth 10000 in
theorem exval_23 (d n m a c imm q : Int) (g : ((0 ≤ d ∧ d ≤ 31)) ∧ (n = 0) ∧ (m = 0) ∧ (a = 0) ∧ (c = 0) ∧ ((-1048576 ≤ imm ∧ imm ≤ 1048572) ∧ Int.tmod imm 4 = 0)) (hq : imm = 4 * q) (hq2 : Int.tdiv imm 4 = q) : Go.bits .or .u32 (Go.bits .or .u32 (3036676096) ((Go.bits .and .u32 (wrap64 (Int.tdiv imm 4) % 4294967296) 524287) * 32 % 4294967296)) (d % 4294967296) = 3036676096 + (q % 524288) * 32 + d * 1 := by
  rw [hq2]
  have hw : wrap64 q = q := by unfold wrap64; omega
  rw [hw, andx 19 524287 524288 (q % 4294967296) (by rfl) (by rfl) (by omega) (by omega) (by omega)]
  have t5 : (q % 4294967296 % 524288) * 32 % 4294967296 = (q % 524288) * 32 := by omega
  rw [orx 5 19 32 524288 ((q % 524288)) (3036676096) ((q % 4294967296 % 524288) * 32 % 4294967296) (by rfl) (by rfl) (by omega) (by omega) (by omega) (by omega) (by omega) (by omega) t5, t5]
  have t0 : d % 4294967296 = d * 1 := by omega
  rw [orx 0 5 1 32 (d) (3036676096 + (q % 524288) * 32) (d % 4294967296) (by rfl) (by rfl) (by omega) (by omega) (by omega) (by omega) (by omega) (by omega) t0, t0]
  try omega
set_option maxRecDepth 10000 in
theorem pval_24 (d n m a c imm q : Int) (g : (d = 0) ∧ (n = 0) ∧ (m = 0) ∧ (a = 0) ∧ (c = 0) ∧ ((-134217728 ≤ imm ∧ imm ≤ 134217724) ∧ Int.tmod imm 4 = 0)) (hq : imm = 4 * q) (hq2 : Int.tdiv imm 4 = q) : enc_Word.f 24 d n m a c imm = some (2483027968 + (q % 67108864) * 1, 0) := by
  have hk := chk_24 0 d n m a c imm
  rw [Nat.zero_add, if_pos g] at hk
  refine word_good (b := 2483027968) hk (by kernel_rfl) ?_
  show putAll [(0, 26, (Int.tdiv imm 4))] 2483027968 = some (2483027968 + (q % 67108864) * 1)
  rw [hq2]
  have s0 : put1 (2483027968) ((0 : Nat) : Int) ((26 : Nat) : Int) (q) = some (2483027968 + (q % 67108864) * 1) := put1x 0 26 1 67108864 (2483027968) (q) ((q % 67108864)) (by rfl) (by rfl) (by omega) (by omega) (by omega) (by omega) (by omega) (by omega) (by omega)
  refine (congrArg (fun z => Option.bind z _) s0).trans ?_
  simp only [Option.bind_some]
  exact congrArg some (by omega)
set_option maxRecDepth 10000 in
theorem exval_24 (d n m a c imm q : Int) (g : (d = 0) ∧ (n = 0) ∧ (m = 0) ∧ (a = 0) ∧ (c = 0) ∧ ((-134217728 ≤ imm ∧ imm ≤ 134217724) ∧ Int.tmod imm 4 = 0)) (hq : imm = 4 * q) (hq2 : Int.tdiv imm 4 = q) : Go.bits .or .u32 (2483027968) ((Go.bits .and .u32 (wrap64 (Int.tdiv imm 4) % 4294967296) 67108863)) = 2483027968 + (q % 67108864) * 1 := by
  rw [hq2]
  have hw : wrap64 q = q := by unfold wrap64; omega
  rw [hw, andx 26 67108863 67108864 (q % 4294967296) (by rfl) (by rfl) (by omega) (by omega) (by omega)]
  have t0 : (q % 4294967296 % 67108864) = (q % 67108864) * 1 := by omega
  rw [orx 0 26 1 67108864 ((q % 67108864)) (2483027968) ((q % 4294967296 % 67108864)) (by rfl) (by rfl) (by omega) (by omega) (by omega) (by omega) (by omega) (by omega) t0, t0]
  try omega
set_option maxRecDepth 10000 in
theorem pval_25 (d n m a c imm : Int) (g : (d = 0) ∧ ((0 ≤ n ∧ n ≤ 31)) ∧ (m = 0) ∧ (a = 0) ∧ (c = 0) ∧ (imm = 0)) : enc_Word.f 25 d n m a c imm = some (3592355840 + n * 32, 0) := by
  have hk := chk_25 0 d n m a c imm
  rw [Nat.zero_add, if_pos g] at hk
  refine word_good (b := 3592355840) hk (by kernel_rfl) ?_
  show putAll [(5, 5, n)] 3592355840 = some (3592355840 + n * 32)
  have s5 : put1 (3592355840) ((5 : Nat) : Int) ((5 : Nat) : Int) (n) = some (3592355840 + n * 32) := put1x 5 5 32 32 (3592355840) (n) (n) (by rfl) (by rfl) (by omega) (by omega) (by omega) (by omega) (by omega) (by omega) (by omega)
  refine (congrArg (fun z => Option.bind z _) s5).trans ?_
  simp only [Option.bind_some]
  exact congrArg some (by omega)
set_option maxRecDepth 10000 in
theorem exval_25 (d n m a c imm : Int) (g : (d = 0) ∧ ((0 ≤ n ∧ n ≤ 31)) ∧ (m = 0) ∧ (a = 0) ∧ (c = 0) ∧ (imm = 0)) : Go.bits .or .u32 (3592355840) (n % 4294967296 * 32 % 4294967296) = 3592355840 + n * 32 := by
  have t5 : n % 4294967296 * 32 % 4294967296 = n * 32 := by omega
  rw [orx 5 5 32 32 (n) (3592355840) (n % 4294967296 * 32 % 4294967296) (by rfl) (by rfl) (by omega) (by omega) (by omega) (by omega) (by omega) (by omega) t5, t5]
  try omega
set_option maxRecDepth 10000 in
theorem pval_26 (d n m a c imm : Int) (g : (d = 0) ∧ ((0 ≤ n ∧ n ≤ 31)) ∧ (m = 0) ∧ (a = 0) ∧ (c = 0) ∧ (imm = 0)) : enc_Word.f 26 d n m a c imm = some (3594452992 + n * 32, 0) := by
  have hk := chk_26 0 d n m a c imm
  rw [Nat.zero_add, if_pos g] at hk
  refine word_good (b := 3594452992) hk (by kernel_rfl) ?_
  show putAll [(5, 5, n)] 3594452992 = some (3594452992 + n * 32)
  have s5 : put1 (3594452992) ((5 : Nat) : Int) ((5 : Nat) : Int) (n) = some (3594452992 + n * 32) := put1x 5 5 32 32 (3594452992) (n) (n) (by rfl) (by rfl) (by omega) (by omega) (by omega) (by omega) (by omega) (by omega) (by omega)
  refine (congrArg (fun z => Option.bind z _) s5).trans ?_
  simp only [Option.bind_some]
  exact congrArg some (by omega)
set_option maxRecDepth 10000 in
theorem exval_26 (d n m a c imm : Int) (g : (d = 0) ∧ ((0 ≤ n ∧ n ≤ 31)) ∧ (m = 0) ∧ (a = 0) ∧ (c = 0) ∧ (imm = 0)) : Go.bits .or .u32 (3594452992) (n % 4294967296 * 32 % 4294967296) = 3594452992 + n * 32 := by
  have t5 : n % 4294967296 * 32 % 4294967296 = n * 32 := by omega
  rw [orx 5 5 32 32 (n) (3594452992) (n % 4294967296 * 32 % 4294967296) (by rfl) (by rfl) (by omega) (by omega) (by omega) (by omega) (by omega) (by omega) t5, t5]
  try omega
set_option maxRecDepth 10000 in
theorem pval_27 (d n m a c imm : Int) (g : (d = 0) ∧ ((0 ≤ n ∧ n ≤ 31)) ∧ (m = 0) ∧ (a = 0) ∧ (c = 0) ∧ (imm = 0)) : enc_Word.f 27 d n m a c imm = some (3596550144 + n * 32, 0) := by
  have hk := chk_27 0 d n m a c imm
  rw [Nat.zero_add, if_pos g] at hk
  refine word_good (b := 3596550144) hk (by kernel_rfl) ?_
  show putAll [(5, 5, n)] 3596550144 = some (3596550144 + n * 32)
  have s5 : put1 (3596550144) ((5 : Nat) : Int) ((5 : Nat) : Int) (n) = some (3596550144 + n * 32) := put1x 5 5 32 32 (3596550144) (n) (n) (by rfl) (by rfl) (by omega) (by omega) (by omega) (by omega) (by omega) (by omega) (by omega)
  refine (congrArg (fun z => Option.bind z _) s5).trans ?_
  simp only [Option.bind_some]
  exact congrArg some (by omega)
set_option maxRecDepth 10000 in
theorem exval_27 (d n m a c imm : Int) (g : (d = 0) ∧ ((0 ≤ n ∧ n ≤ 31)) ∧ (m = 0) ∧ (a = 0) ∧ (c = 0) ∧ (imm = 0)) : Go.bits .or .u32 (3596550144) (n % 4294967296 * 32 % 4294967296) = 3596550144 + n * 32 := by
  have t5 : n % 4294967296 * 32 % 4294967296 = n * 32 := by omega
  rw [orx 5 5 32 32 (n) (3596550144) (n % 4294967296 * 32 % 4294967296) (by rfl) (by rfl) (by omega) (by omega) (by omega) (by omega) (by omega) (by omega) t5, t5]
  try omega
set_option maxRecDepth 10000 in
theorem pval_28 (d n m a c imm q : Int) (g : ((0 ≤ d ∧ d ≤ 31)) ∧ ((0 ≤ n ∧ n ≤ 31)) ∧ (m = 0) ∧ (a = 0) ∧ (c = 0) ∧ ((0 ≤ imm ∧ imm ≤ 32760) ∧ Int.tmod imm 8 = 0)) (hq : imm = 8 * q) (hq2 : Int.tdiv imm 8 = q) : enc_Word.f 28 d n m a c imm = some (4181721088 + q * 1024 + n * 32 + d * 1, 0) := by
  have hk := chk_28 0 d n m a c imm
  rw [Nat.zero_add, if_pos g] at hk
  refine word_good (b := 4181721088) hk (by kernel_rfl) ?_
  show putAll [(5, 5, n), (10, 12, (Int.tdiv imm 8)), (0, 5, d)] 4181721088 = some (4181721088 + q * 1024 + n * 32 + d * 1)
  rw [hq2]
  have s5 : put1 (4181721088) ((5 : Nat) : Int) ((5 : Nat) : Int) (n) = some (4181721088 + n * 32) := put1x 5 5 32 32 (4181721088) (n) (n) (by rfl) (by rfl) (by omega) (by omega) (by omega) (by omega) (by omega) (by omega) (by omega)
  have s10 : put1 (4181721088 + n * 32) ((10 : Nat) : Int) ((12 : Nat) : Int) (q) = some (4181721088 + n * 32 + q * 1024) := put1x 10 12 1024 4096 (4181721088 + n * 32) (q) (q) (by rfl) (by rfl) (by omega) (by omega) (by omega) (by omega) (by omega) (by omega) (by omega)
  have s0 : put1 (4181721088 + n * 32 + q * 1024) ((0 : Nat) : Int) ((5 : Nat) : Int) (d) = some (4181721088 + n * 32 + q * 1024 + d * 1) := put1x 0 5 1 32 (4181721088 + n * 32 + q * 1024) (d) (d) (by rfl) (by rfl) (by omega) (by omega) (by omega) (by omega) (by omega) (by omega) (by omega)
  refine (congrArg (fun z => Option.bind z _) s5).trans ?_
  simp only [Option.bind_some]
  refine (congrArg (fun z => Option.bind z _) s10).trans ?_
  simp only [Option.bind_some]
  refine (congrArg (fun z => Option.bind z _) s0).trans ?_
  simp only [Option.bind_some]
  exact congrArg some (by omega)
set_option maxRecDepth 10000 in
theorem exval_28 (d n m a c imm q : Int) (g : ((0 ≤ d ∧ d ≤ 31)) ∧ ((0 ≤ n ∧ n ≤ 31)) ∧ (m = 0) ∧ (a = 0) ∧ (c = 0) ∧ ((0 ≤ imm ∧ imm ≤ 32760) ∧ Int.tmod imm 8 = 0)) (hq : imm = 8 * q) (hq2 : Int.tdiv imm 8 = q) : Go.bits .or .u32 (Go.bits .or .u32 (Go.bits .or .u32 (4181721088) (imm % 4294967296 / 8 * 1024 % 4294967296)) (n % 4294967296 * 32 % 4294967296)) (d % 4294967296) = 4181721088 + q * 1024 + n * 32 + d * 1 := by
  have t10 : imm % 4294967296 / 8 * 1024 % 4294967296 = q * 1024 := by omega
  rw [orx 10 12 1024 4096 (q) (4181721088) (imm % 4294967296 / 8 * 1024 % 4294967296) (by rfl) (by rfl) (by omega) (by omega) (by omega) (by omega) (by omega) (by omega) t10, t10]
  have t5 : n % 4294967296 * 32 % 4294967296 = n * 32 := by omega
  rw [orx 5 5 32 32 (n) (4181721088 + q * 1024) (n % 4294967296 * 32 % 4294967296) (by rfl) (by rfl) (by omega) (by omega) (by omega) (by omega) (by omega) (by omega) t5, t5]
  have t0 : d % 4294967296 = d * 1 := by omega
  rw [orx 0 5 1 32 (d) (4181721088 + q * 1024 + n * 32) (d % 4294967296) (by rfl) (by rfl) (by omega) (by omega) (by omega) (by omega) (by omega) (by omega) t0, t0]
  try omega
set_option maxRecDepth 10000 in
theorem pval_29 (d n m a c imm q : Int) (g : ((0 ≤ d ∧ d ≤ 31)) ∧ ((0 ≤ n ∧ n ≤ 31)) ∧ (m = 0) ∧ (a = 0) ∧ (c = 0) ∧ ((0 ≤ imm ∧ imm ≤ 32760) ∧ Int.tmod imm 8 = 0)) (hq : imm = 8 * q) (hq2 : Int.tdiv imm 8 = q) : enc_Word.f 29 d n m a c imm = some (4177526784 + q * 1024 + n * 32 + d * 1, 0) := by
  have hk := chk_29 0 d n m a c imm
  rw [Nat.zero_add, if_pos g] at hk
  refine word_good (b := 4177526784) hk (by kernel_rfl) ?_
  show putAll [(5, 5, n), (10, 12, (Int.tdiv imm 8)), (0, 5, d)] 4177526784 = some (4177526784 + q * 1024 + n * 32 + d * 1)
  rw [hq2]
  have s5 : put1 (4177526784) ((5 : Nat) : Int) ((5 : Nat) : Int) (n) = some (4177526784 + n * 32) := put1x 5 5 32 32 (4177526784) (n) (n) (by rfl) (by rfl) (by omega) (by omega) (by omega) (by omega) (by omega) (by omega) (by omega)
  have s10 : put1 (4177526784 + n * 32) ((10 : Nat) : Int) ((12 : Nat) : Int) (q) = some (4177526784 + n * 32 + q * 1024) := put1x 10 12 1024 4096 (4177526784 + n * 32) (q) (q) (by rfl) (by rfl) (by omega) (by omega) (by omega) (by omega) (by omega) (by omega) (by omega)
  have s0 : put1 (4177526784 + n * 32 + q * 1024) ((0 : Nat) : Int) ((5 : Nat) : Int) (d) = some (4177526784 + n * 32 + q * 1024 + d * 1) := put1x 0 5 1 32 (4177526784 + n * 32 + q * 1024) (d) (d) (by rfl) (by rfl) (by omega) (by omega) (by omega) (by omega) (by omega) (by omega) (by omega)
  refine (congrArg (fun z => Option.bind z _) s5).trans ?_
  simp only [Option.bind_some]
  refine (congrArg (fun z => Option.bind z _) s10).trans ?_
  simp only [Option.bind_some]
  refine (congrArg (fun z => Option.bind z _) s0).trans ?_
  simp only [Option.bind_some]
  exact congrArg some (by omega)
set_option maxRecDepth 10000 in
theorem exval_29 (d n m a c imm q : Int) (g : ((0 ≤ d ∧ d ≤ 31)) ∧ ((0 ≤ n ∧ n ≤ 31)) ∧ (m = 0) ∧ (a = 0) ∧ (c = 0) ∧ ((0 ≤ imm ∧ imm ≤ 32760) ∧ Int.tmod imm 8 = 0)) (hq : imm = 8 * q) (hq2 : Int.tdiv imm 8 = q) : Go.bits .or .u32 (Go.bits .or .u32 (Go.bits .or .u32 (4177526784) (imm % 4294967296 / 8 * 1024 % 4294967296)) (n % 4294967296 * 32 % 4294967296)) (d % 4294967296) = 4177526784 + q * 1024 + n * 32 + d * 1 := by
  have t10 : imm % 4294967296 / 8 * 1024 % 4294967296 = q * 1024 := by omega
  rw [orx 10 12 1024 4096 (q) (4177526784) (imm % 4294967296 / 8 * 1024 % 4294967296) (by rfl) (by rfl) (by omega) (by omega) (by omega) (by omega) (by omega) (by omega) t10, t10]
  have t5 : n % 4294967296 * 32 % 4294967296 = n * 32 := by omega
  rw [orx 5 5 32 32 (n) (4177526784 + q * 1024) (n % 4294967296 * 32 % 4294967296) (by rfl) (by rfl) (by omega) (by omega) (by omega) (by omega) (by omega) (by omega) t5, t5]
  have t0 : d % 4294967296 = d * 1 := by omega
  rw [orx 0 5 1 32 (d) (4177526784 + q * 1024 + n * 32) (d % 4294967296) (by rfl) (by rfl) (by omega) (by omega) (by omega) (by omega) (by omega) (by omega) t0, t0]
  try omega
set_option maxRecDepth 10000 in
theorem pval_30 (d n m a c imm : Int) (g : ((0 ≤ d ∧ d ≤ 31)) ∧ ((0 ≤ n ∧ n ≤ 31)) ∧ (m = 0) ∧ (a = 0) ∧ (c = 0) ∧ (0 ≤ imm ∧ imm ≤ 4095)) : enc_Word.f 30 d n m a c imm = some (960495616 + imm * 1024 + n * 32 + d * 1, 0) := by
  have hk := chk_30 0 d n m a c imm
  rw [Nat.zero_add, if_pos g] at hk
  refine word_good (b := 960495616) hk (by kernel_rfl) ?_
  show putAll [(5, 5, n), (10, 12, imm), (0, 5, d)] 960495616 = some (960495616 + imm * 1024 + n * 32 + d * 1)
  have s5 : put1 (960495616) ((5 : Nat) : Int) ((5 : Nat) : Int) (n) = some (960495616 + n * 32) := put1x 5 5 32 32 (960495616) (n) (n) (by rfl) (by rfl) (by omega) (by omega) (by omega) (by omega) (by omega) (by omega) (by omega)
  have s10 : put1 (960495616 + n * 32) ((10 : Nat) : Int) ((12 : Nat) : Int) (imm) = some (960495616 + n * 32 + imm * 1024) := put1x 10 12 1024 4096 (960495616 + n * 32) (imm) (imm) (by rfl) (by rfl) (by omega) (by omega) (by omega) (by omega) (by omega) (by omega) (by omega)
  have s0 : put1 (960495616 + n * 32 + imm * 1024) ((0 : Nat) : Int) ((5 : Nat) : Int) (d) = some (960495616 + n * 32 + imm * 1024 + d * 1) := put1x 0 5 1 32 (960495616 + n * 32 + imm * 1024) (d) (d) (by rfl) (by rfl) (by omega) (by omega) (by omega) (by omega) (by omega) (by omega) (by omega)
  refine (congrArg (fun z => Option.bind z _) s5).trans ?_
  simp only [Option.bind_some]
  refine (congrArg (fun z => Option.bind z _) s10).trans ?_
  simp only [Option.bind_some]
  refine (congrArg (fun z => Option.bind z _) s0).trans ?_
  simp only [Option.bind_some]
  exact congrArg some (by omega)
set_option maxRecDepth 10000 in
theorem exval_30 (d n m a c imm : Int) (g : ((0 ≤ d ∧ d ≤ 31)) ∧ ((0 ≤ n ∧ n ≤ 31)) ∧ (m = 0) ∧ (a = 0) ∧ (c = 0) ∧ (0 ≤ imm ∧ imm ≤ 4095)) : Go.bits .or .u32 (Go.bits .or .u32 (Go.bits .or .u32 (960495616) (imm % 4294967296 * 1024 % 4294967296)) (n % 4294967296 * 32 % 4294967296)) (d % 4294967296) = 960495616 + imm * 1024 + n * 32 + d * 1 := by
  have t10 : imm % 4294967296 * 1024 % 4294967296 = imm * 1024 := by omega
  rw [orx 10 12 1024 4096 (imm) (960495616) (imm % 4294967296 * 1024 % 4294967296) (by rfl) (by rfl) (by omega) (by omega) (by omega) (by omega) (by omega) (by omega) t10, t10]
  have t5 : n % 4294967296 * 32 % 4294967296 = n * 32 := by omega
  rw [orx 5 5 32 32 (n) (960495616 + imm * 1024) (n % 4294967296 * 32 % 4294967296) (by rfl) (by rfl) (by omega) (by omega) (by omega) (by omega) (by omega) (by omega) t5, t5]
  have t0 : d % 4294967296 = d * 1 := by omega
  rw [orx 0 5 1 32 (d) (960495616 + imm * 1024 + n * 32) (d % 4294967296) (by rfl) (by rfl) (by omega) (by omega) (by omega) (by omega) (by omega) (by omega) t0, t0]
  try omega
set_option maxRecDepth 10000 in
theorem pval_31 (d n m a c imm : Int) (g : ((0 ≤ d ∧ d ≤ 31)) ∧ ((0 ≤ n ∧ n ≤ 31)) ∧ ((0 ≤ m ∧ m ≤ 31)) ∧ (a = 0) ∧ (c = 0) ∧ (imm = 0)) : enc_Word.f 31 d n m a c imm = some (4167071744 + m * 65536 + n * 32 + d * 1, 0) := by
  have hk := chk_31 0 d n m a c imm
  rw [Nat.zero_add, if_pos g] at hk
  refine word_good (b := 4167071744) hk (by kernel_rfl) ?_
  show putAll [(5, 5, n), (16, 5, m), (0, 5, d)] 4167071744 = some (4167071744 + m * 65536 + n * 32 + d * 1)
  have s5 : put1 (4167071744) ((5 : Nat) : Int) ((5 : Nat) : Int) (n) = some (4167071744 + n * 32) := put1x 5 5 32 32 (4167071744) (n) (n) (by rfl) (by rfl) (by omega) (by omega) (by omega) (by omega) (by omega) (by omega) (by omega)
  have s16 : put1 (4167071744 + n * 32) ((16 : Nat) : Int) ((5 : Nat) : Int) (m) = some (4167071744 + n * 32 + m * 65536) := put1x 16 5 65536 32 (4167071744 + n * 32) (m) (m) (by rfl) (by rfl) (by omega) (by omega) (by omega) (by omega) (by omega) (by omega) (by omega)
  have s0 : put1 (4167071744 + n * 32 + m * 65536) ((0 : Nat) : Int) ((5 : Nat) : Int) (d) = some (4167071744 + n * 32 + m * 65536 + d * 1) := put1x 0 5 1 32 (4167071744 + n * 32 + m * 65536) (d) (d) (by rfl) (by rfl) (by omega) (by omega) (by omega) (by omega) (by omega) (by omega) (by omega)
  refine (congrArg (fun z => Option.bind z _) s5).trans ?_
  simp only [Option.bind_some]
  refine (congrArg (fun z => Option.bind z _) s16).trans ?_
  simp only [Option.bind_some]
  refine (congrArg (fun z => Option.bind z _) s0).trans ?_
  simp only [Option.bind_some]
  exact congrArg some (by omega)
set_option maxRecDepth 10000 in
theorem exval_31 (d n m a c imm : Int) (g : ((0 ≤ d ∧ d ≤ 31)) ∧ ((0 ≤ n ∧ n ≤ 31)) ∧ ((0 ≤ m ∧ m ≤ 31)) ∧ (a = 0) ∧ (c = 0) ∧ (imm = 0)) : Go.bits .or .u32 (Go.bits .or .u32 (Go.bits .or .u32 (4167071744) (m % 4294967296 * 65536 % 4294967296)) (n % 4294967296 * 32 % 4294967296)) (d % 4294967296) = 4167071744 + m * 65536 + n * 32 + d * 1 := by
  have t16 : m % 4294967296 * 65536 % 4294967296 = m * 65536 := by omega
  rw [orx 16 5 65536 32 (m) (4167071744) (m % 4294967296 * 65536 % 4294967296) (by rfl) (by rfl) (by omega) (by omega) (by omega) (by omega) (by omega) (by omega) t16, t16]
  have t5 : n % 4294967296 * 32 % 4294967296 = n * 32 := by omega
  rw [orx 5 5 32 32 (n) (4167071744 + m * 65536) (n % 4294967296 * 32 % 4294967296) (by rfl) (by rfl) (by omega) (by omega) (by omega) (by omega) (by omega) (by omega) t5, t5]
  have t0 : d % 4294967296 = d * 1 := by omega
  rw [orx 0 5 1 32 (d) (4167071744 + m * 65536 + n * 32) (d % 4294967296) (by rfl) (by rfl) (by omega) (by omega) (by omega) (by omega) (by omega) (by omega) t0, t0]
  try omega
set_option maxRecDepth 10000 in
theorem pval_32 (d n m a c imm : Int) (g : ((0 ≤ d ∧ d ≤ 31)) ∧ ((0 ≤ n ∧ n ≤ 31)) ∧ ((0 ≤ m ∧ m ≤ 31)) ∧ (a = 0) ∧ (c = 0) ∧ (imm = 0)) : enc_Word.f 32 d n m a c imm = some (4162877440 + m * 65536 + n * 32 + d * 1, 0) := by
  have hk := chk_32 0 d n m a c imm
  rw [Nat.zero_add, if_pos g] at hk
  refine word_good (b := 4162877440) hk (by kernel_rfl) ?_
  show putAll [(5, 5, n), (16, 5, m), (0, 5, d)] 4162877440 = some (4162877440 + m * 65536 + n * 32 + d * 1)
  have s5 : put1 (4162877440) ((5 : Nat) : Int) ((5 : Nat) : Int) (n) = some (4162877440 + n * 32) := put1x 5 5 32 32 (4162877440) (n) (n) (by rfl) (by rfl) (by omega) (by omega) (by omega) (by omega) (by omega) (by omega) (by omega)
  have s16 : put1 (4162877440 + n * 32) ((16 : Nat) : Int) ((5 : Nat) : Int) (m) = some (4162877440 + n * 32 + m * 65536) := put1x 16 5 65536 32 (4162877440 + n * 32) (m) (m) (by rfl) (by rfl) (by omega) (by omega) (by omega) (by omega) (by omega) (by omega) (by omega)
  have s0 : put1 (4162877440 + n * 32 + m * 65536) ((0 : Nat) : Int) ((5 : Nat) : Int) (d) = some (4162877440 + n * 32 + m * 65536 + d * 1) := put1x 0 5 1 32 (4162877440 + n * 32 + m * 65536) (d) (d) (by rfl) (by rfl) (by omega) (by omega) (by omega) (by omega) (by omega) (by omega) (by omega)
  refine (congrArg (fun z => Option.bind z _) s5).trans ?_
  simp only [Option.bind_some]
  refine (congrArg (fun z => Option.bind z _) s16).trans ?_
  simp only [Option.bind_some]
  refine (congrArg (fun z => Option.bind z _) s0).trans ?_
  simp only [Option.bind_some]
  exact congrArg some (by omega)
set_option maxRecDepth 10000 in
theorem exval_32 (d n m a c imm : Int) (g : ((0 ≤ d ∧ d ≤ 31)) ∧ ((0 ≤ n ∧ n ≤ 31)) ∧ ((0 ≤ m ∧ m ≤ 31)) ∧ (a = 0) ∧ (c = 0) ∧ (imm = 0)) : Go.bits .or .u32 (Go.bits .or .u32 (Go.bits .or .u32 (4162877440) (m % 4294967296 * 65536 % 4294967296)) (n % 4294967296 * 32 % 4294967296)) (d % 4294967296) = 4162877440 + m * 65536 + n * 32 + d * 1 := by
  have t16 : m % 4294967296 * 65536 % 4294967296 = m * 65536 := by omega
  rw [orx 16 5 65536 32 (m) (4162877440) (m % 4294967296 * 65536 % 4294967296) (by rfl) (by rfl) (by omega) (by omega) (by omega) (by omega) (by omega) (by omega) t16, t16]
  have t5 : n % 4294967296 * 32 % 4294967296 = n * 32 := by omega
  rw [orx 5 5 32 32 (n) (4162877440 + m * 65536) (n % 4294967296 * 32 % 4294967296) (by rfl) (by rfl) (by omega) (by omega) (by omega) (by omega) (by omega) (by omega) t5, t5]
  have t0 : d % 4294967296 = d * 1 := by omega
  rw [orx 0 5 1 32 (d) (4162877440 + m * 65536 + n * 32) (d % 4294967296) (by rfl) (by rfl) (by omega) (by omega) (by omega) (by omega) (by omega) (by omega) t0, t0]
  try omega
set_option maxRecDepth 10000 in
theorem pval_33 (d n m a c imm : Int) (g : ((0 ≤ d ∧ d ≤ 31)) ∧ ((0 ≤ n ∧ n ≤ 31)) ∧ (m = 0) ∧ (a = 0) ∧ (c = 0) ∧ (imm = 0)) : enc_Word.f 33 d n m a c imm = some (3370122240 + n * 32 + d * 1, 0) := by
  have hk := chk_33 0 d n m a c imm
  rw [Nat.zero_add, if_pos g] at hk
  refine word_good (b := 3370122240) hk (by kernel_rfl) ?_
  show putAll [(5, 5, n), (0, 5, d)] 3370122240 = some (3370122240 + n * 32 + d * 1)
  have s5 : put1 (3370122240) ((5 : Nat) : Int) ((5 : Nat) : Int) (n) = some (3370122240 + n * 32) := put1x 5 5 32 32 (3370122240) (n) (n) (by rfl) (by rfl) (by omega) (by omega) (by omega) (by omega) (by omega) (by omega) (by omega)
  have s0 : put1 (3370122240 + n * 32) ((0 : Nat) : Int) ((5 : Nat) : Int) (d) = some (3370122240 + n * 32 + d * 1) := put1x 0 5 1 32 (3370122240 + n * 32) (d) (d) (by rfl) (by rfl) (by omega) (by omega) (by omega) (by omega) (by omega) (by omega) (by omega)
  refine (congrArg (fun z => Option.bind z _) s5).trans ?_
  simp only [Option.bind_some]
  refine (congrArg (fun z => Option.bind z _) s0).trans ?_
  simp only [Option.bind_some]
  exact congrArg some (by omega)
set_option maxRecDepth 10000 in
theorem exval_33 (d n m a c imm : Int) (g : ((0 ≤ d ∧ d ≤ 31)) ∧ ((0 ≤ n ∧ n ≤ 31)) ∧ (m = 0) ∧ (a = 0) ∧ (c = 0) ∧ (imm = 0)) : Go.bits .or .u32 (Go.bits .or .u32 (3370122240) (n % 4294967296 * 32 % 4294967296)) (d % 4294967296) = 3370122240 + n * 32 + d * 1 := by
  have t5 : n % 4294967296 * 32 % 4294967296 = n * 32 := by omega
  rw [orx 5 5 32 32 (n) (3370122240) (n % 4294967296 * 32 % 4294967296) (by rfl) (by rfl) (by omega) (by omega) (by omega) (by omega) (by omega) (by omega) t5, t5]
  have t0 : d % 4294967296 = d * 1 := by omega
  rw [orx 0 5 1 32 (d) (3370122240 + n * 32) (d % 4294967296) (by rfl) (by rfl) (by omega) (by omega) (by omega) (by omega) (by omega) (by omega) t0, t0]
  try omega
set_option maxRecDepth 10000 in
theorem pval_34 (d n m a c imm : Int) (g : ((0 ≤ d ∧ d ≤ 31)) ∧ ((0 ≤ n ∧ n ≤ 31)) ∧ (m = 0) ∧ (a = 0) ∧ (c = 0) ∧ (imm = 0)) : enc_Word.f 34 d n m a c imm = some (3365927936 + n * 32 + d * 1, 0) := by
  have hk := chk_34 0 d n m a c imm
  rw [Nat.zero_add, if_pos g] at hk
  refine word_good (b := 3365927936) hk (by kernel_rfl) ?_
  show putAll [(5, 5, n), (0, 5, d)] 3365927936 = some (3365927936 + n * 32 + d * 1)
  have s5 : put1 (3365927936) ((5 : Nat) : Int) ((5 : Nat) : Int) (n) = some (3365927936 + n * 32) := put1x 5 5 32 32 (3365927936) (n) (n) (by rfl) (by rfl) (by omega) (by omega) (by omega) (by omega) (by omega) (by omega) (by omega)
  have s0 : put1 (3365927936 + n * 32) ((0 : Nat) : Int) ((5 : Nat) : Int) (d) = some (3365927936 + n * 32 + d * 1) := put1x 0 5 1 32 (3365927936 + n * 32) (d) (d) (by rfl) (by rfl) (by omega) (by omega) (by omega) (by omega) (by omega) (by omega) (by omega)
  refine (congrArg (fun z => Option.bind z _) s5).trans ?_
  simp only [Option.bind_some]
  refine (congrArg (fun z => Option.bind z _) s0).trans ?_
  simp only [Option.bind_some]
  exact congrArg some (by omega)
set_option maxRecDepth 10000 in
theorem exval_34 (d n m a c imm : Int) (g : ((0 ≤ d ∧ d ≤ 31)) ∧ ((0 ≤ n ∧ n ≤ 31)) ∧ (m = 0) ∧ (a = 0) ∧ (c = 0) ∧ (imm = 0)) : Go.bits .or .u32 (Go.bits .or .u32 (3365927936) (n % 4294967296 * 32 % 4294967296)) (d % 4294967296) = 3365927936 + n * 32 + d * 1 := by
  have t5 : n % 4294967296 * 32 % 4294967296 = n * 32 := by omega
  rw [orx 5 5 32 32 (n) (3365927936) (n % 4294967296 * 32 % 4294967296) (by rfl) (by rfl) (by omega) (by omega) (by omega) (by omega) (by omega) (by omega) t5, t5]
  have t0 : d % 4294967296 = d * 1 := by omega
  rw [orx 0 5 1 32 (d) (3365927936 + n * 32) (d % 4294967296) (by rfl) (by rfl) (by omega) (by omega) (by omega) (by omega) (by omega) (by omega) t0, t0]
  try omega
set_option maxRecDepth 10000 in
theorem pval_35 (d n m a c imm : Int) (g : ((0 ≤ d ∧ d ≤ 31)) ∧ ((0 ≤ n ∧ n ≤ 31)) ∧ (m = 0) ∧ (a = 0) ∧ (c = 0) ∧ (imm = 0)) : enc_Word.f 35 d n m a c imm = some (3361700864 + n * 32 + d * 1, 0) := by
  have hk := chk_35 0 d n m a c imm
  rw [Nat.zero_add, if_pos g] at hk
  refine word_good (b := 3361700864) hk (by kernel_rfl) ?_
  show putAll [(5, 5, n), (0, 5, d)] 3361700864 = some (3361700864 + n * 32 + d * 1)
  have s5 : put1 (3361700864) ((5 : Nat) : Int) ((5 : Nat) : Int) (n) = some (3361700864 + n * 32) := put1x 5 5 32 32 (3361700864) (n) (n) (by rfl) (by rfl) (by omega) (by omega) (by omega) (by omega) (by omega) (by omega) (by omega)
  have s0 : put1 (3361700864 + n * 32) ((0 : Nat) : Int) ((5 : Nat) : Int) (d) = some (3361700864 + n * 32 + d * 1) := put1x 0 5 1 32 (3361700864 + n * 32) (d) (d) (by rfl) (by rfl) (by omega) (by omega) (by omega) (by omega) (by omega) (by omega) (by omega)
  refine (congrArg (fun z => Option.bind z _) s5).trans ?_
  simp only [Option.bind_some]
  refine (congrArg (fun z => Option.bind z _) s0).trans ?_
  simp only [Option.bind_some]
  exact congrArg some (by omega)
set_option maxRecDepth 10000 in
theorem exval_35 (d n m a c imm : Int) (g : ((0 ≤ d ∧ d ≤ 31)) ∧ ((0 ≤ n ∧ n ≤ 31)) ∧ (m = 0) ∧ (a = 0) ∧ (c = 0) ∧ (imm = 0)) : Go.bits .or .u32 (Go.bits .or .u32 (3361700864) (n % 4294967296 * 32 % 4294967296)) (d % 4294967296) = 3361700864 + n * 32 + d * 1 := by
  have t5 : n % 4294967296 * 32 % 4294967296 = n * 32 := by omega
  rw [orx 5 5 32 32 (n) (3361700864) (n % 4294967296 * 32 % 4294967296) (by rfl) (by rfl) (by omega) (by omega) (by omega) (by omega) (by omega) (by omega) t5, t5]
  have t0 : d % 4294967296 = d * 1 := by omega
  rw [orx 0 5 1 32 (d) (3361700864 + n * 32) (d % 4294967296) (by rfl) (by rfl) (by omega) (by omega) (by omega) (by omega) (by omega) (by omega) t0, t0]
  try omega
set_option maxRecDepth 10000 in
theorem pval_36 (d n m a c imm : Int) (g : ((0 ≤ d ∧ d ≤ 31)) ∧ ((0 ≤ n ∧ n ≤ 31)) ∧ ((0 ≤ m ∧ m ≤ 31)) ∧ (a = 0) ∧ (c = 0) ∧ (imm = 0)) : enc_Word.f 36 d n m a c imm = some (3355474944 + d * 65536 + n * 32 + m * 1, 0) := by
  have hk := chk_36 0 d n m a c imm
  rw [Nat.zero_add, if_pos g] at hk
  refine word_good (b := 3355474944) hk (by kernel_rfl) ?_
  show putAll [(16, 5, d), (5, 5, n), (0, 5, m)] 3355474944 = some (3355474944 + d * 65536 + n * 32 + m * 1)
  have s16 : put1 (3355474944) ((16 : Nat) : Int) ((5 : Nat) : Int) (d) = some (3355474944 + d * 65536) := put1x 16 5 65536 32 (3355474944) (d) (d) (by rfl) (by rfl) (by omega) (by omega) (by omega) (by omega) (by omega) (by omega) (by omega)
  have s5 : put1 (3355474944 + d * 65536) ((5 : Nat) : Int) ((5 : Nat) : Int) (n) = some (3355474944 + d * 65536 + n * 32) := put1x 5 5 32 32 (3355474944 + d * 65536) (n) (n) (by rfl) (by rfl) (by omega) (by omega) (by omega) (by omega) (by omega) (by omega) (by omega)
  have s0 : put1 (3355474944 + d * 65536 + n * 32) ((0 : Nat) : Int) ((5 : Nat) : Int) (m) = some (3355474944 + d * 65536 + n * 32 + m * 1) := put1x 0 5 1 32 (3355474944 + d * 65536 + n * 32) (m) (m) (by rfl) (by rfl) (by omega) (by omega) (by omega) (by omega) (by omega) (by omega) (by omega)
  refine (congrArg (fun z => Option.bind z _) s16).trans ?_
  simp only [Option.bind_some]
  refine (congrArg (fun z => Option.bind z _) s5).trans ?_
  simp only [Option.bind_some]
  refine (congrArg (fun z => Option.bind z _) s0).trans ?_
  simp only [Option.bind_some]
  exact congrArg some (by omega)
set_option maxRecDepth 10000 in
theorem exval_36 (d n m a c imm : Int) (g : ((0 ≤ d ∧ d ≤ 31)) ∧ ((0 ≤ n ∧ n ≤ 31)) ∧ ((0 ≤ m ∧ m ≤ 31)) ∧ (a = 0) ∧ (c = 0) ∧ (imm = 0)) : Go.bits .or .u32 (Go.bits .or .u32 (Go.bits .or .u32 (3355474944) (d % 4294967296 * 65536 % 4294967296)) (n % 4294967296 * 32 % 4294967296)) (m % 4294967296) = 3355474944 + d * 65536 + n * 32 + m * 1 := by
  have t16 : d % 4294967296 * 65536 % 4294967296 = d * 65536 := by omega
  rw [orx 16 5 65536 32 (d) (3355474944) (d % 4294967296 * 65536 % 4294967296) (by rfl) (by rfl) (by omega) (by omega) (by omega) (by omega) (by omega) (by omega) t16, t16]
  have t5 : n % 4294967296 * 32 % 4294967296 = n * 32 := by omega
  rw [orx 5 5 32 32 (n) (3355474944 + d * 65536) (n % 4294967296 * 32 % 4294967296) (by rfl) (by rfl) (by omega) (by omega) (by omega) (by omega) (by omega) (by omega) t5, t5]
  have t0 : m % 4294967296 = m * 1 := by omega
  rw [orx 0 5 1 32 (m) (3355474944 + d * 65536 + n * 32) (m % 4294967296) (by rfl) (by rfl) (by omega) (by omega) (by omega) (by omega) (by omega) (by omega) t0, t0]
  try omega
set_option maxRecDepth 10000 in
theorem pval_38 (d n m a c imm : Int) (g : (d = 0) ∧ (n = 0) ∧ (m = 0) ∧ (a = 0) ∧ (c = 0) ∧ (imm = 0)) : enc_Word.f 38 d n m a c imm = some (3573758879, 0) := by
  have hk := chk_38 0 d n m a c imm
  rw [Nat.zero_add, if_pos g] at hk
  refine word_good (b := 3573758879) hk (by kernel_rfl) ?_
  show putAll [] 3573758879 = some (3573758879)
  exact congrArg some (by omega)
set_option maxRecDepth 10000 in
theorem pval_39 (d n m a c imm : Int) (g : (d = 0) ∧ (n = 0) ∧ (m = 0) ∧ (a = 0) ∧ (c = 0) ∧ (imm = 0)) : enc_Word.f 39 d n m a c imm = some (3573759967, 0) := by
  have hk := chk_39 0 d n m a c imm
  rw [Nat.zero_add, if_pos g] at hk
  refine word_good (b := 3573759967) hk (by kernel_rfl) ?_
  show putAll [] 3573759967 = some (3573759967)
  exact congrArg some (by omega)
set_option maxRecDepth 10000 in
theorem pval_40 (d n m a c imm : Int) (g : (d = 0) ∧ ((0 ≤ n ∧ n ≤ 31)) ∧ (m = 0) ∧ (a = 0) ∧ (c = 0) ∧ (imm = 0)) : enc_Word.f 40 d n m a c imm = some (3574299424 + n * 1, 0) := by
  have hk := chk_40 0 d n m a c imm
  rw [Nat.zero_add, if_pos g] at hk
  refine word_good (b := 3574299424) hk (by kernel_rfl) ?_
  show putAll [(0, 5, n)] 3574299424 = some (3574299424 + n * 1)
  have s0 : put1 (3574299424) ((0 : Nat) : Int) ((5 : Nat) : Int) (n) = some (3574299424 + n * 1) := put1x 0 5 1 32 (3574299424) (n) (n) (by rfl) (by rfl) (by omega) (by omega) (by omega) (by omega) (by omega) (by omega) (by omega)
  refine (congrArg (fun z => Option.bind z _) s0).trans ?_
  simp only [Option.bind_some]
  exact congrArg some (by omega)
set_option maxRecDepth 10000 in
theorem exval_40 (d n m a c imm : Int) (g : (d = 0) ∧ ((0 ≤ n ∧ n ≤ 31)) ∧ (m = 0) ∧ (a = 0) ∧ (c = 0) ∧ (imm = 0)) : Go.bits .or .u32 (3574299424) (n % 4294967296) = 3574299424 + n * 1 := by
  have t0 : n % 4294967296 = n * 1 := by omega
  rw [orx 0 5 1 32 (n) (3574299424) (n % 4294967296) (by rfl) (by rfl) (by omega) (by omega) (by omega) (by omega) (by omega) (by omega) t0, t0]
  try omega
set_option maxRecDepth 10000 in
theorem pval_41 (d n m a c imm : Int) (g : (d = 0) ∧ ((0 ≤ n ∧ n ≤ 31)) ∧ (m = 0) ∧ (a = 0) ∧ (c = 0) ∧ (imm = 0)) : enc_Word.f 41 d n m a c imm = some (3574297888 + n * 1, 0) := by
  have hk := chk_41 0 d n m a c imm
  rw [Nat.zero_add, if_pos g] at hk
  refine word_good (b := 3574297888) hk (by kernel_rfl) ?_
  show putAll [(0, 5, n)] 3574297888 = some (3574297888 + n * 1)
  have s0 : put1 (3574297888) ((0 : Nat) : Int) ((5 : Nat) : Int) (n) = some (3574297888 + n * 1) := put1x 0 5 1 32 (3574297888) (n) (n) (by rfl) (by rfl) (by omega) (by omega) (by omega) (by omega) (by omega) (by omega) (by omega)
  refine (congrArg (fun z => Option.bind z _) s0).trans ?_
  simp only [Option.bind_some]
  exact congrArg some (by omega)
set_option maxRecDepth 10000 in
theorem exval_41 (d n m a c imm : Int) (g : (d = 0) ∧ ((0 ≤ n ∧ n ≤ 31)) ∧ (m = 0) ∧ (a = 0) ∧ (c = 0) ∧ (imm = 0)) : Go.bits .or .u32 (3574297888) (n % 4294967296) = 3574297888 + n * 1 := by
  have t0 : n % 4294967296 = n * 1 := by omega
  rw [orx 0 5 1 32 (n) (3574297888) (n % 4294967296) (by rfl) (by rfl) (by omega) (by omega) (by omega) (by omega) (by omega) (by omega) t0, t0]
  try omega
set_option maxRecDepth 10000 in
theorem pval_42 (d n m a c imm : Int) (g : (d = 0) ∧ (n = 0) ∧ (m = 0) ∧ (a = 0) ∧ (c = 0) ∧ (0 ≤ imm ∧ imm ≤ 65535)) : enc_Word.f 42 d n m a c imm = some (3556769793 + imm * 32, 0) := by
  have hk := chk_42 0 d n m a c imm
  rw [Nat.zero_add, if_pos g] at hk
  refine word_good (b := 3556769793) hk (by kernel_rfl) ?_
  show putAll [(5, 16, imm)] 3556769793 = some (3556769793 + imm * 32)
  have s5 : put1 (3556769793) ((5 : Nat) : Int) ((16 : Nat) : Int) (imm) = some (3556769793 + imm * 32) := put1x 5 16 32 65536 (3556769793) (imm) (imm) (by rfl) (by rfl) (by omega) (by omega) (by omega) (by omega) (by omega) (by omega) (by omega)
  refine (congrArg (fun z => Option.bind z _) s5).trans ?_
  simp only [Option.bind_some]
  exact congrArg some (by omega)
set_option maxRecDepth 10000 in
theorem exval_42 (d n m a c imm : Int) (g : (d = 0) ∧ (n = 0) ∧ (m = 0) ∧ (a = 0) ∧ (c = 0) ∧ (0 ≤ imm ∧ imm ≤ 65535)) : Go.bits .or .u32 (3556769793) (imm % 4294967296 * 32 % 4294967296) = 3556769793 + imm * 32 := by
  have t5 : imm % 4294967296 * 32 % 4294967296 = imm * 32 := by omega
  rw [orx 5 16 32 65536 (imm) (3556769793) (imm % 4294967296 * 32 % 4294967296) (by rfl) (by rfl) (by omega) (by omega) (by omega) (by omega) (by omega) (by omega) t5, t5]
  try omega
set_option maxRecDepth 10000 in
theorem pval_37_0 : enc_Word.f 37 0 0 0 0 0 0 = some (3573758911, 0) := by kernel_rfl
set_option maxRecDepth 10000 in
theorem pval_37_1 : enc_Word.f 37 0 0 0 0 0 1 = some (3573758399, 0) := by kernel_rfl
set_option maxRecDepth 10000 in
theorem pval_37_2 : enc_Word.f 37 0 0 0 0 0 2 = some (3573758655, 0) := by kernel_rfl
def brazierref3_Word.f (op d n m a c imm : Int) : Option (Int × Int) := enc_Word.f op d n m a c imm
set_option maxHeartbeats 2000000 in
set_option maxRecDepth 100000 in
theorem rbad_calls (op d n m a c imm : Int) (w : World) (hch : brazierref2_Check.f 40 op d n m a c imm = some 1) :
    Calls Try.prog 8 #[.agg #[.int .i64 op, .int .i64 d, .int .i64 n, .int .i64 m, .int .i64 a, .int .i64 c, .int .i64 imm]] w fun e w' => e = .returned (.tuple #[.int .u32 0, .int .i64 1]) ∧ Below w.heap.size w w' := by
  have HC := Lib.hid hch
  clear hch
  go_enter Try.func8, Try.ntmps8
  go_wp2_with fail
  refine (brazierref2_Check.calls 40 op d n m a c imm 1 _ HC.out).mono ?_
  rintro e w1 ⟨rfl, hb1⟩
  have HBW := Aside0.mk (((Below.refl w.heap.size w).alloc (Nat.le_refl _) _).trans (hb1.mono (by simp)))
  clear hb1
  go_wp2_with fail
  go_ret2
  exact ⟨rfl, by repeat (first | exact HBW.out | apply pw_below_drewN | apply below_alloc | apply below_drew1)⟩
set_option maxRecDepth 10000 in
/-- The reference's word is the program's. -/
theorem brazierref3_Word.calls (op d n m a c imm r1 r2 : Int) (w : World) (h : brazierref3_Word.f op d n m a c imm = some (r1, r2)) :
    Calls Try.prog 8 #[.agg #[.int .i64 op, .int .i64 d, .int .i64 n, .int .i64 m, .int .i64 a, .int .i64 c, .int .i64 imm]] w fun e w' => e = .returned (.tuple #[.int .u32 r1, .int .i64 r2]) ∧ Below w.heap.size w w' := by
  have h : enc_Word.f op d n m a c imm = some (r1, r2) := h
  by_cases ho : op < 0 ∨ 42 < op
  · have hk := chk_out op d n m a c imm 0 ho
    rw [Nat.zero_add] at hk
    have hk2 := rchk_out op d n m a c imm 0 ho
    rw [Nat.zero_add] at hk2
    obtain ⟨rfl, rfl⟩ := word_bad hk h
    exact rbad_calls op d n m a c imm w hk2
  have hc : op = 0 ∨ op = 1 ∨ op = 2 ∨ op = 3 ∨ op = 4 ∨ op = 5 ∨ op = 6 ∨ op = 7 ∨ op = 8 ∨ op = 9 ∨ op = 10 ∨ op = 11 ∨ op = 12 ∨ op = 13 ∨ op = 14 ∨ op = 15 ∨ op = 16 ∨ op = 17 ∨ op = 18 ∨ op = 19 ∨ op = 20 ∨ op = 21 ∨ op = 22 ∨ op = 23 ∨ op = 24 ∨ op = 25 ∨ op = 26 ∨ op = 27 ∨ op = 28 ∨ op = 29 ∨ op = 30 ∨ op = 31 ∨ op = 32 ∨ op = 33 ∨ op = 34 ∨ op = 35 ∨ op = 36 ∨ op = 37 ∨ op = 38 ∨ op = 39 ∨ op = 40 ∨ op = 41 ∨ op = 42 := by omega
  rcases hc with rfl | rfl | rfl | rfl | rfl | rfl | rfl | rfl | rfl | rfl | rfl | rfl | rfl | rfl | rfl | rfl | rfl | rfl | rfl | rfl | rfl | rfl | rfl | rfl | rfl | rfl | rfl | rfl | rfl | rfl | rfl | rfl | rfl | rfl | rfl | rfl | rfl | rfl | rfl | rfl | rfl | rfl | rfl
  · have hk := rchk_0 0 d n m a c imm
    rw [Nat.zero_add] at hk
    by_cases g : (d = 0) ∧ (n = 0) ∧ (m = 0) ∧ (a = 0) ∧ (c = 0) ∧ (0 ≤ imm ∧ imm ≤ 65535)
    · rw [if_pos g] at hk
      obtain ⟨rfl, rfl⟩ := Prod.mk.inj (Option.some.inj ((pval_0 d n m a c imm g).symm.trans h))
      have hw := ref_0 d n m a c imm w hk
      rw [exval_0 d n m a c imm g] at hw
      exact hw
    · rw [if_neg g] at hk
      have hk2 := chk_0 0 d n m a c imm
      rw [Nat.zero_add, if_neg g] at hk2
      obtain ⟨rfl, rfl⟩ := word_bad hk2 h
      exact rbad_calls _ _ _ _ _ _ _ w hk
  · have hk := rchk_1 0 d n m a c imm
    rw [Nat.zero_add] at hk
    by_cases g : (d = 0) ∧ (n = 0) ∧ (m = 0) ∧ (a = 0) ∧ (c = 0) ∧ (imm = 0)
    · rw [if_pos g] at hk
      obtain ⟨rfl, rfl⟩ := Prod.mk.inj (Option.some.inj ((pval_1 d n m a c imm g).symm.trans h))
      have hw := ref_1 d n m a c imm w hk
      skip
      exact hw
    · rw [if_neg g] at hk
      have hk2 := chk_1 0 d n m a c imm
      rw [Nat.zero_add, if_neg g] at hk2
      obtain ⟨rfl, rfl⟩ := word_bad hk2 h
      exact rbad_calls _ _ _ _ _ _ _ w hk
  · have hk := rchk_2 0 d n m a c imm
    rw [Nat.zero_add] at hk
    by_cases g : ((0 ≤ d ∧ d ≤ 31)) ∧ (n = 0) ∧ ((0 ≤ m ∧ m ≤ 31)) ∧ (a = 0) ∧ (c = 0) ∧ ((0 ≤ imm ∧ imm ≤ 65535) ∧ m ≤ 3)
    · rw [if_pos g] at hk
      obtain ⟨rfl, rfl⟩ := Prod.mk.inj (Option.some.inj ((pval_2 d n m a c imm g).symm.trans h))
      have hw := ref_2 d n m a c imm w hk
      rw [exval_2 d n m a c imm g] at hw
      exact hw
    · rw [if_neg g] at hk
      have hk2 := chk_2 0 d n m a c imm
      rw [Nat.zero_add, if_neg g] at hk2
      obtain ⟨rfl, rfl⟩ := word_bad hk2 h
      exact rbad_calls _ _ _ _ _ _ _ w hk
  · have hk := rchk_3 0 d n m a c imm
    rw [Nat.zero_add] at hk
    by_cases g : ((0 ≤ d ∧ d ≤ 31)) ∧ (n = 0) ∧ ((0 ≤ m ∧ m ≤ 31)) ∧ (a = 0) ∧ (c = 0) ∧ ((0 ≤ imm ∧ imm ≤ 65535) ∧ m ≤ 3)
    · rw [if_pos g] at hk
      obtain ⟨rfl, rfl⟩ := Prod.mk.inj (Option.some.inj ((pval_3 d n m a c imm g).symm.trans h))
      have hw := ref_3 d n m a c imm w hk
      rw [exval_3 d n m a c imm g] at hw
      exact hw
    · rw [if_neg g] at hk
      have hk2 := chk_3 0 d n m a c imm
      rw [Nat.zero_add, if_neg g] at hk2
      obtain ⟨rfl, rfl⟩ := word_bad hk2 h
      exact rbad_calls _ _ _ _ _ _ _ w hk
  · have hk := rchk_4 0 d n m a c imm
    rw [Nat.zero_add] at hk
    by_cases g : ((0 ≤ d ∧ d ≤ 31)) ∧ ((0 ≤ n ∧ n ≤ 31)) ∧ (m = 0) ∧ (a = 0) ∧ (c = 0) ∧ (0 ≤ imm ∧ imm ≤ 4095)
    · rw [if_pos g] at hk
      obtain ⟨rfl, rfl⟩ := Prod.mk.inj (Option.some.inj ((pval_4 d n m a c imm g).symm.trans h))
      have hw := ref_4 d n m a c imm w hk
      rw [exval_4 d n m a c imm g] at hw
      exact hw
    · rw [if_neg g] at hk
      have hk2 := chk_4 0 d n m a c imm
      rw [Nat.zero_add, if_neg g] at hk2
      obtain ⟨rfl, rfl⟩ := word_bad hk2 h
      exact rbad_calls _ _ _ _ _ _ _ w hk
  · have hk := rchk_5 0 d n m a c imm
    rw [Nat.zero_add] at hk
    by_cases g : ((0 ≤ d ∧ d ≤ 31)) ∧ ((0 ≤ n ∧ n ≤ 31)) ∧ (m = 0) ∧ (a = 0) ∧ (c = 0) ∧ (0 ≤ imm ∧ imm ≤ 4095)
    · rw [if_pos g] at hk
      obtain ⟨rfl, rfl⟩ := Prod.mk.inj (Option.some.inj ((pval_5 d n m a c imm g).symm.trans h))
      have hw := ref_5 d n m a c imm w hk
      rw [exval_5 d n m a c imm g] at hw
      exact hw
    · rw [if_neg g] at hk
      have hk2 := chk_5 0 d n m a c imm
      rw [Nat.zero_add, if_neg g] at hk2
      obtain ⟨rfl, rfl⟩ := word_bad hk2 h
      exact rbad_calls _ _ _ _ _ _ _ w hk
  · have hk := rchk_6 0 d n m a c imm
    rw [Nat.zero_add] at hk
    by_cases g : ((0 ≤ d ∧ d ≤ 31)) ∧ ((0 ≤ n ∧ n ≤ 31)) ∧ (m = 0) ∧ (a = 0) ∧ (c = 0) ∧ (0 ≤ imm ∧ imm ≤ 4095)
    · rw [if_pos g] at hk
      obtain ⟨rfl, rfl⟩ := Prod.mk.inj (Option.some.inj ((pval_6 d n m a c imm g).symm.trans h))
      have hw := ref_6 d n m a c imm w hk
      rw [exval_6 d n m a c imm g] at hw
      exact hw
    · rw [if_neg g] at hk
      have hk2 := chk_6 0 d n m a c imm
      rw [Nat.zero_add, if_neg g] at hk2
      obtain ⟨rfl, rfl⟩ := word_bad hk2 h
      exact rbad_calls _ _ _ _ _ _ _ w hk
  · have hk := rchk_7 0 d n m a c imm
    rw [Nat.zero_add] at hk
    by_cases g : ((0 ≤ d ∧ d ≤ 31)) ∧ ((0 ≤ n ∧ n ≤ 31)) ∧ ((0 ≤ m ∧ m ≤ 31)) ∧ (a = 0) ∧ (c = 0) ∧ (imm = 0)
    · rw [if_pos g] at hk
      obtain ⟨rfl, rfl⟩ := Prod.mk.inj (Option.some.inj ((pval_7 d n m a c imm g).symm.trans h))
      have hw := ref_7 d n m a c imm w hk
      rw [exval_7 d n m a c imm g] at hw
      exact hw
    · rw [if_neg g] at hk
      have hk2 := chk_7 0 d n m a c imm
      rw [Nat.zero_add, if_neg g] at hk2
      obtain ⟨rfl, rfl⟩ := word_bad hk2 h
      exact rbad_calls _ _ _ _ _ _ _ w hk
  · have hk := rchk_8 0 d n m a c imm
    rw [Nat.zero_add] at hk
    by_cases g : ((0 ≤ d ∧ d ≤ 31)) ∧ ((0 ≤ n ∧ n ≤ 31)) ∧ ((0 ≤ m ∧ m ≤ 31)) ∧ (a = 0) ∧ (c = 0) ∧ (imm = 0)
    · rw [if_pos g] at hk
      obtain ⟨rfl, rfl⟩ := Prod.mk.inj (Option.some.inj ((pval_8 d n m a c imm g).symm.trans h))
      have hw := ref_8 d n m a c imm w hk
      rw [exval_8 d n m a c imm g] at hw
      exact hw
    · rw [if_neg g] at hk
      have hk2 := chk_8 0 d n m a c imm
      rw [Nat.zero_add, if_neg g] at hk2
      obtain ⟨rfl, rfl⟩ := word_bad hk2 h
      exact rbad_calls _ _ _ _ _ _ _ w hk
  · have hk := rchk_9 0 d n m a c imm
    rw [Nat.zero_add] at hk
    by_cases g : ((0 ≤ d ∧ d ≤ 31)) ∧ ((0 ≤ n ∧ n ≤ 31)) ∧ ((0 ≤ m ∧ m ≤ 31)) ∧ (a = 0) ∧ (c = 0) ∧ (imm = 0)
    · rw [if_pos g] at hk
      obtain ⟨rfl, rfl⟩ := Prod.mk.inj (Option.some.inj ((pval_9 d n m a c imm g).symm.trans h))
      have hw := ref_9 d n m a c imm w hk
      rw [exval_9 d n m a c imm g] at hw
      exact hw
    · rw [if_neg g] at hk
      have hk2 := chk_9 0 d n m a c imm
      rw [Nat.zero_add, if_neg g] at hk2
      obtain ⟨rfl, rfl⟩ := word_bad hk2 h
      exact rbad_calls _ _ _ _ _ _ _ w hk
  · have hk := rchk_10 0 d n m a c imm
    rw [Nat.zero_add] at hk
    by_cases g : ((0 ≤ d ∧ d ≤ 31)) ∧ ((0 ≤ n ∧ n ≤ 31)) ∧ ((0 ≤ m ∧ m ≤ 31)) ∧ (a = 0) ∧ (c = 0) ∧ (imm = 0)
    · rw [if_pos g] at hk
      obtain ⟨rfl, rfl⟩ := Prod.mk.inj (Option.some.inj ((pval_10 d n m a c imm g).symm.trans h))
      have hw := ref_10 d n m a c imm w hk
      rw [exval_10 d n m a c imm g] at hw
      exact hw
    · rw [if_neg g] at hk
      have hk2 := chk_10 0 d n m a c imm
      rw [Nat.zero_add, if_neg g] at hk2
      obtain ⟨rfl, rfl⟩ := word_bad hk2 h
      exact rbad_calls _ _ _ _ _ _ _ w hk
  · have hk := rchk_11 0 d n m a c imm
    rw [Nat.zero_add] at hk
    by_cases g : ((0 ≤ d ∧ d ≤ 31)) ∧ ((0 ≤ n ∧ n ≤ 31)) ∧ ((0 ≤ m ∧ m ≤ 31)) ∧ (a = 0) ∧ (c = 0) ∧ (imm = 0)
    · rw [if_pos g] at hk
      obtain ⟨rfl, rfl⟩ := Prod.mk.inj (Option.some.inj ((pval_11 d n m a c imm g).symm.trans h))
      have hw := ref_11 d n m a c imm w hk
      rw [exval_11 d n m a c imm g] at hw
      exact hw
    · rw [if_neg g] at hk
      have hk2 := chk_11 0 d n m a c imm
      rw [Nat.zero_add, if_neg g] at hk2
      obtain ⟨rfl, rfl⟩ := word_bad hk2 h
      exact rbad_calls _ _ _ _ _ _ _ w hk
  · have hk := rchk_12 0 d n m a c imm
    rw [Nat.zero_add] at hk
    by_cases g : ((0 ≤ d ∧ d ≤ 31)) ∧ ((0 ≤ n ∧ n ≤ 31)) ∧ ((0 ≤ m ∧ m ≤ 31)) ∧ (a = 0) ∧ (c = 0) ∧ (imm = 0)
    · rw [if_pos g] at hk
      obtain ⟨rfl, rfl⟩ := Prod.mk.inj (Option.some.inj ((pval_12 d n m a c imm g).symm.trans h))
      have hw := ref_12 d n m a c imm w hk
      rw [exval_12 d n m a c imm g] at hw
      exact hw
    · rw [if_neg g] at hk
      have hk2 := chk_12 0 d n m a c imm
      rw [Nat.zero_add, if_neg g] at hk2
      obtain ⟨rfl, rfl⟩ := word_bad hk2 h
      exact rbad_calls _ _ _ _ _ _ _ w hk
  · have hk := rchk_13 0 d n m a c imm
    rw [Nat.zero_add] at hk
    by_cases g : ((0 ≤ d ∧ d ≤ 31)) ∧ ((0 ≤ n ∧ n ≤ 31)) ∧ ((0 ≤ m ∧ m ≤ 31)) ∧ ((0 ≤ a ∧ a ≤ 31)) ∧ (c = 0) ∧ (imm = 0)
    · rw [if_pos g] at hk
      obtain ⟨rfl, rfl⟩ := Prod.mk.inj (Option.some.inj ((pval_13 d n m a c imm g).symm.trans h))
      have hw := ref_13 d n m a c imm w hk
      rw [exval_13 d n m a c imm g] at hw
      exact hw
    · rw [if_neg g] at hk
      have hk2 := chk_13 0 d n m a c imm
      rw [Nat.zero_add, if_neg g] at hk2
      obtain ⟨rfl, rfl⟩ := word_bad hk2 h
      exact rbad_calls _ _ _ _ _ _ _ w hk
  · have hk := rchk_14 0 d n m a c imm
    rw [Nat.zero_add] at hk
    by_cases g : ((0 ≤ d ∧ d ≤ 31)) ∧ ((0 ≤ n ∧ n ≤ 31)) ∧ ((0 ≤ m ∧ m ≤ 31)) ∧ ((0 ≤ a ∧ a ≤ 31)) ∧ (c = 0) ∧ (imm = 0)
    · rw [if_pos g] at hk
      obtain ⟨rfl, rfl⟩ := Prod.mk.inj (Option.some.inj ((pval_14 d n m a c imm g).symm.trans h))
      have hw := ref_14 d n m a c imm w hk
      rw [exval_14 d n m a c imm g] at hw
      exact hw
    · rw [if_neg g] at hk
      have hk2 := chk_14 0 d n m a c imm
      rw [Nat.zero_add, if_neg g] at hk2
      obtain ⟨rfl, rfl⟩ := word_bad hk2 h
      exact rbad_calls _ _ _ _ _ _ _ w hk
  · have hk := rchk_15 0 d n m a c imm
    rw [Nat.zero_add] at hk
    by_cases g : ((0 ≤ d ∧ d ≤ 31)) ∧ ((0 ≤ n ∧ n ≤ 31)) ∧ ((0 ≤ m ∧ m ≤ 31)) ∧ (a = 0) ∧ (c = 0) ∧ (imm = 0)
    · rw [if_pos g] at hk
      obtain ⟨rfl, rfl⟩ := Prod.mk.inj (Option.some.inj ((pval_15 d n m a c imm g).symm.trans h))
      have hw := ref_15 d n m a c imm w hk
      rw [exval_15 d n m a c imm g] at hw
      exact hw
    · rw [if_neg g] at hk
      have hk2 := chk_15 0 d n m a c imm
      rw [Nat.zero_add, if_neg g] at hk2
      obtain ⟨rfl, rfl⟩ := word_bad hk2 h
      exact rbad_calls _ _ _ _ _ _ _ w hk
  · have hk := rchk_16 0 d n m a c imm
    rw [Nat.zero_add] at hk
    by_cases g : ((0 ≤ d ∧ d ≤ 31)) ∧ ((0 ≤ n ∧ n ≤ 31)) ∧ ((0 ≤ m ∧ m ≤ 31)) ∧ (a = 0) ∧ (c = 0) ∧ (imm = 0)
    · rw [if_pos g] at hk
      obtain ⟨rfl, rfl⟩ := Prod.mk.inj (Option.some.inj ((pval_16 d n m a c imm g).symm.trans h))
      have hw := ref_16 d n m a c imm w hk
      rw [exval_16 d n m a c imm g] at hw
      exact hw
    · rw [if_neg g] at hk
      have hk2 := chk_16 0 d n m a c imm
      rw [Nat.zero_add, if_neg g] at hk2
      obtain ⟨rfl, rfl⟩ := word_bad hk2 h
      exact rbad_calls _ _ _ _ _ _ _ w hk
  · have hk := rchk_17 0 d n m a c imm
    rw [Nat.zero_add] at hk
    by_cases g : ((0 ≤ d ∧ d ≤ 31)) ∧ ((0 ≤ n ∧ n ≤ 31)) ∧ ((0 ≤ m ∧ m ≤ 31)) ∧ (a = 0) ∧ (c = 0) ∧ (imm = 0)
    · rw [if_pos g] at hk
      obtain ⟨rfl, rfl⟩ := Prod.mk.inj (Option.some.inj ((pval_17 d n m a c imm g).symm.trans h))
      have hw := ref_17 d n m a c imm w hk
      rw [exval_17 d n m a c imm g] at hw
      exact hw
    · rw [if_neg g] at hk
      have hk2 := chk_17 0 d n m a c imm
      rw [Nat.zero_add, if_neg g] at hk2
      obtain ⟨rfl, rfl⟩ := word_bad hk2 h
      exact rbad_calls _ _ _ _ _ _ _ w hk
  · have hk := rchk_18 0 d n m a c imm
    rw [Nat.zero_add] at hk
    by_cases g : ((0 ≤ d ∧ d ≤ 31)) ∧ ((0 ≤ n ∧ n ≤ 31)) ∧ ((0 ≤ m ∧ m ≤ 31)) ∧ (a = 0) ∧ (c = 0) ∧ (imm = 0)
    · rw [if_pos g] at hk
      obtain ⟨rfl, rfl⟩ := Prod.mk.inj (Option.some.inj ((pval_18 d n m a c imm g).symm.trans h))
      have hw := ref_18 d n m a c imm w hk
      rw [exval_18 d n m a c imm g] at hw
      exact hw
    · rw [if_neg g] at hk
      have hk2 := chk_18 0 d n m a c imm
      rw [Nat.zero_add, if_neg g] at hk2
      obtain ⟨rfl, rfl⟩ := word_bad hk2 h
      exact rbad_calls _ _ _ _ _ _ _ w hk
  · have hk := rchk_19 0 d n m a c imm
    rw [Nat.zero_add] at hk
    by_cases g : ((0 ≤ d ∧ d ≤ 31)) ∧ ((0 ≤ n ∧ n ≤ 31)) ∧ ((0 ≤ m ∧ m ≤ 31)) ∧ (a = 0) ∧ ((0 ≤ c ∧ c ≤ 15)) ∧ (imm = 0)
    · rw [if_pos g] at hk
      obtain ⟨rfl, rfl⟩ := Prod.mk.inj (Option.some.inj ((pval_19 d n m a c imm g).symm.trans h))
      have hw := ref_19 d n m a c imm w hk
      rw [exval_19 d n m a c imm g] at hw
      exact hw
    · rw [if_neg g] at hk
      have hk2 := chk_19 0 d n m a c imm
      rw [Nat.zero_add, if_neg g] at hk2
      obtain ⟨rfl, rfl⟩ := word_bad hk2 h
      exact rbad_calls _ _ _ _ _ _ _ w hk
  · have hk := rchk_20 0 d n m a c imm
    rw [Nat.zero_add] at hk
    by_cases g : (d = 0) ∧ (n = 0) ∧ (m = 0) ∧ (a = 0) ∧ (c = 0) ∧ ((-134217728 ≤ imm ∧ imm ≤ 134217724) ∧ Int.tmod imm 4 = 0)
    · rw [if_pos g] at hk
      have ht : Int.tmod imm 4 = 0 := by simp_all
      obtain ⟨q, hq, hq2⟩ := quo (b := 4) (by omega) ht
      obtain ⟨rfl, rfl⟩ := Prod.mk.inj (Option.some.inj ((pval_20 d n m a c imm q g hq hq2).symm.trans h))
      have hw := ref_20 d n m a c imm w hk
      rw [exval_20 d n m a c imm q g hq hq2] at hw
      exact hw
    · rw [if_neg g] at hk
      have hk2 := chk_20 0 d n m a c imm
      rw [Nat.zero_add, if_neg g] at hk2
      obtain ⟨rfl, rfl⟩ := word_bad hk2 h
      exact rbad_calls _ _ _ _ _ _ _ w hk
  · have hk := rchk_21 0 d n m a c imm
    rw [Nat.zero_add] at hk
    by_cases g : (d = 0) ∧ (n = 0) ∧ (m = 0) ∧ (a = 0) ∧ ((0 ≤ c ∧ c ≤ 15)) ∧ (((-1048576 ≤ imm ∧ imm ≤ 1048572) ∧ Int.tmod imm 4 = 0) ∧ c ≤ 13)
    · rw [if_pos g] at hk
      have ht : Int.tmod imm 4 = 0 := by simp_all
      obtain ⟨q, hq, hq2⟩ := quo (b := 4) (by omega) ht
      obtain ⟨rfl, rfl⟩ := Prod.mk.inj (Option.some.inj ((pval_21 d n m a c imm q g hq hq2).symm.trans h))
      have hw := ref_21 d n m a c imm w hk
      rw [exval_21 d n m a c imm q g hq hq2] at hw
      exact hw
    · rw [if_neg g] at hk
      have hk2 := chk_21 0 d n m a c imm
      rw [Nat.zero_add, if_neg g] at hk2
      obtain ⟨rfl, rfl⟩ := word_bad hk2 h
      exact rbad_calls _ _ _ _ _ _ _ w hk
  · have hk := rchk_22 0 d n m a c imm
    rw [Nat.zero_add] at hk
    by_cases g : ((0 ≤ d ∧ d ≤ 31)) ∧ (n = 0) ∧ (m = 0) ∧ (a = 0) ∧ (c = 0) ∧ ((-1048576 ≤ imm ∧ imm ≤ 1048572) ∧ Int.tmod imm 4 = 0)
    · rw [if_pos g] at hk
      have ht : Int.tmod imm 4 = 0 := by simp_all
      obtain ⟨q, hq, hq2⟩ := quo (b := 4) (by omega) ht
      obtain ⟨rfl, rfl⟩ := Prod.mk.inj (Option.some.inj ((pval_22 d n m a c imm q g hq hq2).symm.trans h))
      have hw := ref_22 d n m a c imm w hk
      rw [exval_22 d n m a c imm q g hq hq2] at hw
      exact hw
    · rw [if_neg g] at hk
      have hk2 := chk_22 0 d n m a c imm
      rw [Nat.zero_add, if_neg g] at hk2
      obtain ⟨rfl, rfl⟩ := word_bad hk2 h
      exact rbad_calls _ _ _ _ _ _ _ w hk
  · have hk := rchk_23 0 d n m a c imm
    rw [Nat.zero_add] at hk
    by_cases g : ((0 ≤ d ∧ d ≤ 31)) ∧ (n = 0) ∧ (m = 0) ∧ (a = 0) ∧ (c = 0) ∧ ((-1048576 ≤ imm ∧ imm ≤ 1048572) ∧ Int.tmod imm 4 = 0)
    · rw [if_pos g] at hk
      have ht : Int.tmod imm 4 = 0 := by simp_all
      obtain ⟨q, hq, hq2⟩ := quo (b := 4) (by omega) ht
      obtain ⟨rfl, rfl⟩ := Prod.mk.inj (Option.some.inj ((pval_23 d n m a c imm q g hq hq2).symm.trans h))
      have hw := ref_23 d n m a c imm w hk
      rw [exval_23 d n m a c imm q g hq hq2] at hw
      exact hw
    · rw [if_neg g] at hk
      have hk2 := chk_23 0 d n m a c imm
      rw [Nat.zero_add, if_neg g] at hk2
      obtain ⟨rfl, rfl⟩ := word_bad hk2 h
      exact rbad_calls _ _ _ _ _ _ _ w hk
  · have hk := rchk_24 0 d n m a c imm
    rw [Nat.zero_add] at hk
    by_cases g : (d = 0) ∧ (n = 0) ∧ (m = 0) ∧ (a = 0) ∧ (c = 0) ∧ ((-134217728 ≤ imm ∧ imm ≤ 134217724) ∧ Int.tmod imm 4 = 0)
    · rw [if_pos g] at hk
      have ht : Int.tmod imm 4 = 0 := by simp_all
      obtain ⟨q, hq, hq2⟩ := quo (b := 4) (by omega) ht
      obtain ⟨rfl, rfl⟩ := Prod.mk.inj (Option.some.inj ((pval_24 d n m a c imm q g hq hq2).symm.trans h))
      have hw := ref_24 d n m a c imm w hk
      rw [exval_24 d n m a c imm q g hq hq2] at hw
      exact hw
    · rw [if_neg g] at hk
      have hk2 := chk_24 0 d n m a c imm
      rw [Nat.zero_add, if_neg g] at hk2
      obtain ⟨rfl, rfl⟩ := word_bad hk2 h
      exact rbad_calls _ _ _ _ _ _ _ w hk
  · have hk := rchk_25 0 d n m a c imm
    rw [Nat.zero_add] at hk
    by_cases g : (d = 0) ∧ ((0 ≤ n ∧ n ≤ 31)) ∧ (m = 0) ∧ (a = 0) ∧ (c = 0) ∧ (imm = 0)
    · rw [if_pos g] at hk
      obtain ⟨rfl, rfl⟩ := Prod.mk.inj (Option.some.inj ((pval_25 d n m a c imm g).symm.trans h))
      have hw := ref_25 d n m a c imm w hk
      rw [exval_25 d n m a c imm g] at hw
      exact hw
    · rw [if_neg g] at hk
      have hk2 := chk_25 0 d n m a c imm
      rw [Nat.zero_add, if_neg g] at hk2
      obtain ⟨rfl, rfl⟩ := word_bad hk2 h
      exact rbad_calls _ _ _ _ _ _ _ w hk
  · have hk := rchk_26 0 d n m a c imm
    rw [Nat.zero_add] at hk
    by_cases g : (d = 0) ∧ ((0 ≤ n ∧ n ≤ 31)) ∧ (m = 0) ∧ (a = 0) ∧ (c = 0) ∧ (imm = 0)
    · rw [if_pos g] at hk
      obtain ⟨rfl, rfl⟩ := Prod.mk.inj (Option.some.inj ((pval_26 d n m a c imm g).symm.trans h))
      have hw := ref_26 d n m a c imm w hk
      rw [exval_26 d n m a c imm g] at hw
      exact hw
    · rw [if_neg g] at hk
      have hk2 := chk_26 0 d n m a c imm
      rw [Nat.zero_add, if_neg g] at hk2
      obtain ⟨rfl, rfl⟩ := word_bad hk2 h
      exact rbad_calls _ _ _ _ _ _ _ w hk
  · have hk := rchk_27 0 d n m a c imm
    rw [Nat.zero_add] at hk
    by_cases g : (d = 0) ∧ ((0 ≤ n ∧ n ≤ 31)) ∧ (m = 0) ∧ (a = 0) ∧ (c = 0) ∧ (imm = 0)
    · rw [if_pos g] at hk
      obtain ⟨rfl, rfl⟩ := Prod.mk.inj (Option.some.inj ((pval_27 d n m a c imm g).symm.trans h))
      have hw := ref_27 d n m a c imm w hk
      rw [exval_27 d n m a c imm g] at hw
      exact hw
    · rw [if_neg g] at hk
      have hk2 := chk_27 0 d n m a c imm
      rw [Nat.zero_add, if_neg g] at hk2
      obtain ⟨rfl, rfl⟩ := word_bad hk2 h
      exact rbad_calls _ _ _ _ _ _ _ w hk
  · have hk := rchk_28 0 d n m a c imm
    rw [Nat.zero_add] at hk
    by_cases g : ((0 ≤ d ∧ d ≤ 31)) ∧ ((0 ≤ n ∧ n ≤ 31)) ∧ (m = 0) ∧ (a = 0) ∧ (c = 0) ∧ ((0 ≤ imm ∧ imm ≤ 32760) ∧ Int.tmod imm 8 = 0)
    · rw [if_pos g] at hk
      have ht : Int.tmod imm 8 = 0 := by simp_all
      obtain ⟨q, hq, hq2⟩ := quo (b := 8) (by omega) ht
      obtain ⟨rfl, rfl⟩ := Prod.mk.inj (Option.some.inj ((pval_28 d n m a c imm q g hq hq2).symm.trans h))
      have hw := ref_28 d n m a c imm w hk
      rw [exval_28 d n m a c imm q g hq hq2] at hw
      exact hw
    · rw [if_neg g] at hk
      have hk2 := chk_28 0 d n m a c imm
      rw [Nat.zero_add, if_neg g] at hk2
      obtain ⟨rfl, rfl⟩ := word_bad hk2 h
      exact rbad_calls _ _ _ _ _ _ _ w hk
  · have hk := rchk_29 0 d n m a c imm
    rw [Nat.zero_add] at hk
    by_cases g : ((0 ≤ d ∧ d ≤ 31)) ∧ ((0 ≤ n ∧ n ≤ 31)) ∧ (m = 0) ∧ (a = 0) ∧ (c = 0) ∧ ((0 ≤ imm ∧ imm ≤ 32760) ∧ Int.tmod imm 8 = 0)
    · rw [if_pos g] at hk
      have ht : Int.tmod imm 8 = 0 := by simp_all
      obtain ⟨q, hq, hq2⟩ := quo (b := 8) (by omega) ht
      obtain ⟨rfl, rfl⟩ := Prod.mk.inj (Option.some.inj ((pval_29 d n m a c imm q g hq hq2).symm.trans h))
      have hw := ref_29 d n m a c imm w hk
      rw [exval_29 d n m a c imm q g hq hq2] at hw
      exact hw
    · rw [if_neg g] at hk
      have hk2 := chk_29 0 d n m a c imm
      rw [Nat.zero_add, if_neg g] at hk2
      obtain ⟨rfl, rfl⟩ := word_bad hk2 h
      exact rbad_calls _ _ _ _ _ _ _ w hk
  · have hk := rchk_30 0 d n m a c imm
    rw [Nat.zero_add] at hk
    by_cases g : ((0 ≤ d ∧ d ≤ 31)) ∧ ((0 ≤ n ∧ n ≤ 31)) ∧ (m = 0) ∧ (a = 0) ∧ (c = 0) ∧ (0 ≤ imm ∧ imm ≤ 4095)
    · rw [if_pos g] at hk
      obtain ⟨rfl, rfl⟩ := Prod.mk.inj (Option.some.inj ((pval_30 d n m a c imm g).symm.trans h))
      have hw := ref_30 d n m a c imm w hk
      rw [exval_30 d n m a c imm g] at hw
      exact hw
    · rw [if_neg g] at hk
      have hk2 := chk_30 0 d n m a c imm
      rw [Nat.zero_add, if_neg g] at hk2
      obtain ⟨rfl, rfl⟩ := word_bad hk2 h
      exact rbad_calls _ _ _ _ _ _ _ w hk
  · have hk := rchk_31 0 d n m a c imm
    rw [Nat.zero_add] at hk
    by_cases g : ((0 ≤ d ∧ d ≤ 31)) ∧ ((0 ≤ n ∧ n ≤ 31)) ∧ ((0 ≤ m ∧ m ≤ 31)) ∧ (a = 0) ∧ (c = 0) ∧ (imm = 0)
    · rw [if_pos g] at hk
      obtain ⟨rfl, rfl⟩ := Prod.mk.inj (Option.some.inj ((pval_31 d n m a c imm g).symm.trans h))
      have hw := ref_31 d n m a c imm w hk
      rw [exval_31 d n m a c imm g] at hw
      exact hw
    · rw [if_neg g] at hk
      have hk2 := chk_31 0 d n m a c imm
      rw [Nat.zero_add, if_neg g] at hk2
      obtain ⟨rfl, rfl⟩ := word_bad hk2 h
      exact rbad_calls _ _ _ _ _ _ _ w hk
  · have hk := rchk_32 0 d n m a c imm
    rw [Nat.zero_add] at hk
    by_cases g : ((0 ≤ d ∧ d ≤ 31)) ∧ ((0 ≤ n ∧ n ≤ 31)) ∧ ((0 ≤ m ∧ m ≤ 31)) ∧ (a = 0) ∧ (c = 0) ∧ (imm = 0)
    · rw [if_pos g] at hk
      obtain ⟨rfl, rfl⟩ := Prod.mk.inj (Option.some.inj ((pval_32 d n m a c imm g).symm.trans h))
      have hw := ref_32 d n m a c imm w hk
      rw [exval_32 d n m a c imm g] at hw
      exact hw
    · rw [if_neg g] at hk
      have hk2 := chk_32 0 d n m a c imm
      rw [Nat.zero_add, if_neg g] at hk2
      obtain ⟨rfl, rfl⟩ := word_bad hk2 h
      exact rbad_calls _ _ _ _ _ _ _ w hk
  · have hk := rchk_33 0 d n m a c imm
    rw [Nat.zero_add] at hk
    by_cases g : ((0 ≤ d ∧ d ≤ 31)) ∧ ((0 ≤ n ∧ n ≤ 31)) ∧ (m = 0) ∧ (a = 0) ∧ (c = 0) ∧ (imm = 0)
    · rw [if_pos g] at hk
      obtain ⟨rfl, rfl⟩ := Prod.mk.inj (Option.some.inj ((pval_33 d n m a c imm g).symm.trans h))
      have hw := ref_33 d n m a c imm w hk
      rw [exval_33 d n m a c imm g] at hw
      exact hw
    · rw [if_neg g] at hk
      have hk2 := chk_33 0 d n m a c imm
      rw [Nat.zero_add, if_neg g] at hk2
      obtain ⟨rfl, rfl⟩ := word_bad hk2 h
      exact rbad_calls _ _ _ _ _ _ _ w hk
  · have hk := rchk_34 0 d n m a c imm
    rw [Nat.zero_add] at hk
    by_cases g : ((0 ≤ d ∧ d ≤ 31)) ∧ ((0 ≤ n ∧ n ≤ 31)) ∧ (m = 0) ∧ (a = 0) ∧ (c = 0) ∧ (imm = 0)
    · rw [if_pos g] at hk
      obtain ⟨rfl, rfl⟩ := Prod.mk.inj (Option.some.inj ((pval_34 d n m a c imm g).symm.trans h))
      have hw := ref_34 d n m a c imm w hk
      rw [exval_34 d n m a c imm g] at hw
      exact hw
    · rw [if_neg g] at hk
      have hk2 := chk_34 0 d n m a c imm
      rw [Nat.zero_add, if_neg g] at hk2
      obtain ⟨rfl, rfl⟩ := word_bad hk2 h
      exact rbad_calls _ _ _ _ _ _ _ w hk
  · have hk := rchk_35 0 d n m a c imm
    rw [Nat.zero_add] at hk
    by_cases g : ((0 ≤ d ∧ d ≤ 31)) ∧ ((0 ≤ n ∧ n ≤ 31)) ∧ (m = 0) ∧ (a = 0) ∧ (c = 0) ∧ (imm = 0)
    · rw [if_pos g] at hk
      obtain ⟨rfl, rfl⟩ := Prod.mk.inj (Option.some.inj ((pval_35 d n m a c imm g).symm.trans h))
      have hw := ref_35 d n m a c imm w hk
      rw [exval_35 d n m a c imm g] at hw
      exact hw
    · rw [if_neg g] at hk
      have hk2 := chk_35 0 d n m a c imm
      rw [Nat.zero_add, if_neg g] at hk2
      obtain ⟨rfl, rfl⟩ := word_bad hk2 h
      exact rbad_calls _ _ _ _ _ _ _ w hk
  · have hk := rchk_36 0 d n m a c imm
    rw [Nat.zero_add] at hk
    by_cases g : ((0 ≤ d ∧ d ≤ 31)) ∧ ((0 ≤ n ∧ n ≤ 31)) ∧ ((0 ≤ m ∧ m ≤ 31)) ∧ (a = 0) ∧ (c = 0) ∧ (imm = 0)
    · rw [if_pos g] at hk
      obtain ⟨rfl, rfl⟩ := Prod.mk.inj (Option.some.inj ((pval_36 d n m a c imm g).symm.trans h))
      have hw := ref_36 d n m a c imm w hk
      rw [exval_36 d n m a c imm g] at hw
      exact hw
    · rw [if_neg g] at hk
      have hk2 := chk_36 0 d n m a c imm
      rw [Nat.zero_add, if_neg g] at hk2
      obtain ⟨rfl, rfl⟩ := word_bad hk2 h
      exact rbad_calls _ _ _ _ _ _ _ w hk
  · have hk := rchk_37 0 d n m a c imm
    rw [Nat.zero_add] at hk
    by_cases g : (d = 0) ∧ (n = 0) ∧ (m = 0) ∧ (a = 0) ∧ (c = 0) ∧ (0 ≤ imm ∧ imm ≤ 2)
    · rw [if_pos g] at hk
      have hw := ref_37 d n m a c imm w (by omega) (by omega) hk
      have hi : imm = 0 ∨ imm = 1 ∨ imm = 2 := by omega
      obtain ⟨rfl, rfl, rfl, rfl, rfl, _⟩ := g
      rcases hi with rfl | rfl | rfl
      · obtain ⟨rfl, rfl⟩ := Prod.mk.inj (Option.some.inj ((pval_37_0).symm.trans h))
        exact hw
      · obtain ⟨rfl, rfl⟩ := Prod.mk.inj (Option.some.inj ((pval_37_1).symm.trans h))
        exact hw
      · obtain ⟨rfl, rfl⟩ := Prod.mk.inj (Option.some.inj ((pval_37_2).symm.trans h))
        exact hw
    · rw [if_neg g] at hk
      have hk2 := chk_37 0 d n m a c imm
      rw [Nat.zero_add, if_neg g] at hk2
      obtain ⟨rfl, rfl⟩ := word_bad hk2 h
      exact rbad_calls _ _ _ _ _ _ _ w hk
  · have hk := rchk_38 0 d n m a c imm
    rw [Nat.zero_add] at hk
    by_cases g : (d = 0) ∧ (n = 0) ∧ (m = 0) ∧ (a = 0) ∧ (c = 0) ∧ (imm = 0)
    · rw [if_pos g] at hk
      obtain ⟨rfl, rfl⟩ := Prod.mk.inj (Option.some.inj ((pval_38 d n m a c imm g).symm.trans h))
      have hw := ref_38 d n m a c imm w hk
      skip
      exact hw
    · rw [if_neg g] at hk
      have hk2 := chk_38 0 d n m a c imm
      rw [Nat.zero_add, if_neg g] at hk2
      obtain ⟨rfl, rfl⟩ := word_bad hk2 h
      exact rbad_calls _ _ _ _ _ _ _ w hk
  · have hk := rchk_39 0 d n m a c imm
    rw [Nat.zero_add] at hk
    by_cases g : (d = 0) ∧ (n = 0) ∧ (m = 0) ∧ (a = 0) ∧ (c = 0) ∧ (imm = 0)
    · rw [if_pos g] at hk
      obtain ⟨rfl, rfl⟩ := Prod.mk.inj (Option.some.inj ((pval_39 d n m a c imm g).symm.trans h))
      have hw := ref_39 d n m a c imm w hk
      skip
      exact hw
    · rw [if_neg g] at hk
      have hk2 := chk_39 0 d n m a c imm
      rw [Nat.zero_add, if_neg g] at hk2
      obtain ⟨rfl, rfl⟩ := word_bad hk2 h
      exact rbad_calls _ _ _ _ _ _ _ w hk
  · have hk := rchk_40 0 d n m a c imm
    rw [Nat.zero_add] at hk
    by_cases g : (d = 0) ∧ ((0 ≤ n ∧ n ≤ 31)) ∧ (m = 0) ∧ (a = 0) ∧ (c = 0) ∧ (imm = 0)
    · rw [if_pos g] at hk
      obtain ⟨rfl, rfl⟩ := Prod.mk.inj (Option.some.inj ((pval_40 d n m a c imm g).symm.trans h))
      have hw := ref_40 d n m a c imm w hk
      rw [exval_40 d n m a c imm g] at hw
      exact hw
    · rw [if_neg g] at hk
      have hk2 := chk_40 0 d n m a c imm
      rw [Nat.zero_add, if_neg g] at hk2
      obtain ⟨rfl, rfl⟩ := word_bad hk2 h
      exact rbad_calls _ _ _ _ _ _ _ w hk
  · have hk := rchk_41 0 d n m a c imm
    rw [Nat.zero_add] at hk
    by_cases g : (d = 0) ∧ ((0 ≤ n ∧ n ≤ 31)) ∧ (m = 0) ∧ (a = 0) ∧ (c = 0) ∧ (imm = 0)
    · rw [if_pos g] at hk
      obtain ⟨rfl, rfl⟩ := Prod.mk.inj (Option.some.inj ((pval_41 d n m a c imm g).symm.trans h))
      have hw := ref_41 d n m a c imm w hk
      rw [exval_41 d n m a c imm g] at hw
      exact hw
    · rw [if_neg g] at hk
      have hk2 := chk_41 0 d n m a c imm
      rw [Nat.zero_add, if_neg g] at hk2
      obtain ⟨rfl, rfl⟩ := word_bad hk2 h
      exact rbad_calls _ _ _ _ _ _ _ w hk
  · have hk := rchk_42 0 d n m a c imm
    rw [Nat.zero_add] at hk
    by_cases g : (d = 0) ∧ (n = 0) ∧ (m = 0) ∧ (a = 0) ∧ (c = 0) ∧ (0 ≤ imm ∧ imm ≤ 65535)
    · rw [if_pos g] at hk
      obtain ⟨rfl, rfl⟩ := Prod.mk.inj (Option.some.inj ((pval_42 d n m a c imm g).symm.trans h))
      have hw := ref_42 d n m a c imm w hk
      rw [exval_42 d n m a c imm g] at hw
      exact hw
    · rw [if_neg g] at hk
      have hk2 := chk_42 0 d n m a c imm
      rw [Nat.zero_add, if_neg g] at hk2
      obtain ⟨rfl, rfl⟩ := word_bad hk2 h
      exact rbad_calls _ _ _ _ _ _ _ w hk
theorem word_some (op d n m a c imm : Int) (o1 : 0 ≤ op) (o2 : op ≤ 42) : ∃ w e, enc_Word.f op d n m a c imm = some (w, e) := by
  have hc : op = 0 ∨ op = 1 ∨ op = 2 ∨ op = 3 ∨ op = 4 ∨ op = 5 ∨ op = 6 ∨ op = 7 ∨ op = 8 ∨ op = 9 ∨ op = 10 ∨ op = 11 ∨ op = 12 ∨ op = 13 ∨ op = 14 ∨ op = 15 ∨ op = 16 ∨ op = 17 ∨ op = 18 ∨ op = 19 ∨ op = 20 ∨ op = 21 ∨ op = 22 ∨ op = 23 ∨ op = 24 ∨ op = 25 ∨ op = 26 ∨ op = 27 ∨ op = 28 ∨ op = 29 ∨ op = 30 ∨ op = 31 ∨ op = 32 ∨ op = 33 ∨ op = 34 ∨ op = 35 ∨ op = 36 ∨ op = 37 ∨ op = 38 ∨ op = 39 ∨ op = 40 ∨ op = 41 ∨ op = 42 := by omega
  rcases hc with rfl | rfl | rfl | rfl | rfl | rfl | rfl | rfl | rfl | rfl | rfl | rfl | rfl | rfl | rfl | rfl | rfl | rfl | rfl | rfl | rfl | rfl | rfl | rfl | rfl | rfl | rfl | rfl | rfl | rfl | rfl | rfl | rfl | rfl | rfl | rfl | rfl | rfl | rfl | rfl | rfl | rfl | rfl
  · by_cases g : (d = 0) ∧ (n = 0) ∧ (m = 0) ∧ (a = 0) ∧ (c = 0) ∧ (0 ≤ imm ∧ imm ≤ 65535)
    · exact ⟨_, _, pval_0 d n m a c imm g⟩
    · have hk := chk_0 0 d n m a c imm
      rw [Nat.zero_add, if_neg g] at hk
      exact ⟨0, 1, word_bad' hk⟩
  · by_cases g : (d = 0) ∧ (n = 0) ∧ (m = 0) ∧ (a = 0) ∧ (c = 0) ∧ (imm = 0)
    · exact ⟨_, _, pval_1 d n m a c imm g⟩
    · have hk := chk_1 0 d n m a c imm
      rw [Nat.zero_add, if_neg g] at hk
      exact ⟨0, 1, word_bad' hk⟩
  · by_cases g : ((0 ≤ d ∧ d ≤ 31)) ∧ (n = 0) ∧ ((0 ≤ m ∧ m ≤ 31)) ∧ (a = 0) ∧ (c = 0) ∧ ((0 ≤ imm ∧ imm ≤ 65535) ∧ m ≤ 3)
    · exact ⟨_, _, pval_2 d n m a c imm g⟩
    · have hk := chk_2 0 d n m a c imm
      rw [Nat.zero_add, if_neg g] at hk
      exact ⟨0, 1, word_bad' hk⟩
  · by_cases g : ((0 ≤ d ∧ d ≤ 31)) ∧ (n = 0) ∧ ((0 ≤ m ∧ m ≤ 31)) ∧ (a = 0) ∧ (c = 0) ∧ ((0 ≤ imm ∧ imm ≤ 65535) ∧ m ≤ 3)
    · exact ⟨_, _, pval_3 d n m a c imm g⟩
    · have hk := chk_3 0 d n m a c imm
      rw [Nat.zero_add, if_neg g] at hk
      exact ⟨0, 1, word_bad' hk⟩
  · by_cases g : ((0 ≤ d ∧ d ≤ 31)) ∧ ((0 ≤ n ∧ n ≤ 31)) ∧ (m = 0) ∧ (a = 0) ∧ (c = 0) ∧ (0 ≤ imm ∧ imm ≤ 4095)
    · exact ⟨_, _, pval_4 d n m a c imm g⟩
    · have hk := chk_4 0 d n m a c imm
      rw [Nat.zero_add, if_neg g] at hk
      exact ⟨0, 1, word_bad' hk⟩
  · by_cases g : ((0 ≤ d ∧ d ≤ 31)) ∧ ((0 ≤ n ∧ n ≤ 31)) ∧ (m = 0) ∧ (a = 0) ∧ (c = 0) ∧ (0 ≤ imm ∧ imm ≤ 4095)
    · exact ⟨_, _, pval_5 d n m a c imm g⟩
    · have hk := chk_5 0 d n m a c imm
      rw [Nat.zero_add, if_neg g] at hk
      exact ⟨0, 1, word_bad' hk⟩
  · by_cases g : ((0 ≤ d ∧ d ≤ 31)) ∧ ((0 ≤ n ∧ n ≤ 31)) ∧ (m = 0) ∧ (a = 0) ∧ (c = 0) ∧ (0 ≤ imm ∧ imm ≤ 4095)
    · exact ⟨_, _, pval_6 d n m a c imm g⟩
    · have hk := chk_6 0 d n m a c imm
      rw [Nat.zero_add, if_neg g] at hk
      exact ⟨0, 1, word_bad' hk⟩
  · by_cases g : ((0 ≤ d ∧ d ≤ 31)) ∧ ((0 ≤ n ∧ n ≤ 31)) ∧ ((0 ≤ m ∧ m ≤ 31)) ∧ (a = 0) ∧ (c = 0) ∧ (imm = 0)
    · exact ⟨_, _, pval_7 d n m a c imm g⟩
    · have hk := chk_7 0 d n m a c imm
      rw [Nat.zero_add, if_neg g] at hk
      exact ⟨0, 1, word_bad' hk⟩
  · by_cases g : ((0 ≤ d ∧ d ≤ 31)) ∧ ((0 ≤ n ∧ n ≤ 31)) ∧ ((0 ≤ m ∧ m ≤ 31)) ∧ (a = 0) ∧ (c = 0) ∧ (imm = 0)
    · exact ⟨_, _, pval_8 d n m a c imm g⟩
    · have hk := chk_8 0 d n m a c imm
      rw [Nat.zero_add, if_neg g] at hk
      exact ⟨0, 1, word_bad' hk⟩
  · by_cases g : ((0 ≤ d ∧ d ≤ 31)) ∧ ((0 ≤ n ∧ n ≤ 31)) ∧ ((0 ≤ m ∧ m ≤ 31)) ∧ (a = 0) ∧ (c = 0) ∧ (imm = 0)
    · exact ⟨_, _, pval_9 d n m a c imm g⟩
    · have hk := chk_9 0 d n m a c imm
      rw [Nat.zero_add, if_neg g] at hk
      exact ⟨0, 1, word_bad' hk⟩
  · by_cases g : ((0 ≤ d ∧ d ≤ 31)) ∧ ((0 ≤ n ∧ n ≤ 31)) ∧ ((0 ≤ m ∧ m ≤ 31)) ∧ (a = 0) ∧ (c = 0) ∧ (imm = 0)
    · exact ⟨_, _, pval_10 d n m a c imm g⟩
    · have hk := chk_10 0 d n m a c imm
      rw [Nat.zero_add, if_neg g] at hk
      exact ⟨0, 1, word_bad' hk⟩
  · by_cases g : ((0 ≤ d ∧ d ≤ 31)) ∧ ((0 ≤ n ∧ n ≤ 31)) ∧ ((0 ≤ m ∧ m ≤ 31)) ∧ (a = 0) ∧ (c = 0) ∧ (imm = 0)
    · exact ⟨_, _, pval_11 d n m a c imm g⟩
    · have hk := chk_11 0 d n m a c imm
      rw [Nat.zero_add, if_neg g] at hk
      exact ⟨0, 1, word_bad' hk⟩
  · by_cases g : ((0 ≤ d ∧ d ≤ 31)) ∧ ((0 ≤ n ∧ n ≤ 31)) ∧ ((0 ≤ m ∧ m ≤ 31)) ∧ (a = 0) ∧ (c = 0) ∧ (imm = 0)
    · exact ⟨_, _, pval_12 d n m a c imm g⟩
    · have hk := chk_12 0 d n m a c imm
      rw [Nat.zero_add, if_neg g] at hk
      exact ⟨0, 1, word_bad' hk⟩
  · by_cases g : ((0 ≤ d ∧ d ≤ 31)) ∧ ((0 ≤ n ∧ n ≤ 31)) ∧ ((0 ≤ m ∧ m ≤ 31)) ∧ ((0 ≤ a ∧ a ≤ 31)) ∧ (c = 0) ∧ (imm = 0)
    · exact ⟨_, _, pval_13 d n m a c imm g⟩
    · have hk := chk_13 0 d n m a c imm
      rw [Nat.zero_add, if_neg g] at hk
      exact ⟨0, 1, word_bad' hk⟩
  · by_cases g : ((0 ≤ d ∧ d ≤ 31)) ∧ ((0 ≤ n ∧ n ≤ 31)) ∧ ((0 ≤ m ∧ m ≤ 31)) ∧ ((0 ≤ a ∧ a ≤ 31)) ∧ (c = 0) ∧ (imm = 0)
    · exact ⟨_, _, pval_14 d n m a c imm g⟩
    · have hk := chk_14 0 d n m a c imm
      rw [Nat.zero_add, if_neg g] at hk
      exact ⟨0, 1, word_bad' hk⟩
  · by_cases g : ((0 ≤ d ∧ d ≤ 31)) ∧ ((0 ≤ n ∧ n ≤ 31)) ∧ ((0 ≤ m ∧ m ≤ 31)) ∧ (a = 0) ∧ (c = 0) ∧ (imm = 0)
    · exact ⟨_, _, pval_15 d n m a c imm g⟩
    · have hk := chk_15 0 d n m a c imm
      rw [Nat.zero_add, if_neg g] at hk
      exact ⟨0, 1, word_bad' hk⟩
  · by_cases g : ((0 ≤ d ∧ d ≤ 31)) ∧ ((0 ≤ n ∧ n ≤ 31)) ∧ ((0 ≤ m ∧ m ≤ 31)) ∧ (a = 0) ∧ (c = 0) ∧ (imm = 0)
    · exact ⟨_, _, pval_16 d n m a c imm g⟩
    · have hk := chk_16 0 d n m a c imm
      rw [Nat.zero_add, if_neg g] at hk
      exact ⟨0, 1, word_bad' hk⟩
  · by_cases g : ((0 ≤ d ∧ d ≤ 31)) ∧ ((0 ≤ n ∧ n ≤ 31)) ∧ ((0 ≤ m ∧ m ≤ 31)) ∧ (a = 0) ∧ (c = 0) ∧ (imm = 0)
    · exact ⟨_, _, pval_17 d n m a c imm g⟩
    · have hk := chk_17 0 d n m a c imm
      rw [Nat.zero_add, if_neg g] at hk
      exact ⟨0, 1, word_bad' hk⟩
  · by_cases g : ((0 ≤ d ∧ d ≤ 31)) ∧ ((0 ≤ n ∧ n ≤ 31)) ∧ ((0 ≤ m ∧ m ≤ 31)) ∧ (a = 0) ∧ (c = 0) ∧ (imm = 0)
    · exact ⟨_, _, pval_18 d n m a c imm g⟩
    · have hk := chk_18 0 d n m a c imm
      rw [Nat.zero_add, if_neg g] at hk
      exact ⟨0, 1, word_bad' hk⟩
  · by_cases g : ((0 ≤ d ∧ d ≤ 31)) ∧ ((0 ≤ n ∧ n ≤ 31)) ∧ ((0 ≤ m ∧ m ≤ 31)) ∧ (a = 0) ∧ ((0 ≤ c ∧ c ≤ 15)) ∧ (imm = 0)
    · exact ⟨_, _, pval_19 d n m a c imm g⟩
    · have hk := chk_19 0 d n m a c imm
      rw [Nat.zero_add, if_neg g] at hk
      exact ⟨0, 1, word_bad' hk⟩
  · by_cases g : (d = 0) ∧ (n = 0) ∧ (m = 0) ∧ (a = 0) ∧ (c = 0) ∧ ((-134217728 ≤ imm ∧ imm ≤ 134217724) ∧ Int.tmod imm 4 = 0)
    · have ht : Int.tmod imm 4 = 0 := by simp_all
      obtain ⟨q, hq, hq2⟩ := quo (b := 4) (by omega) ht
      exact ⟨_, _, pval_20 d n m a c imm q g hq hq2⟩
    · have hk := chk_20 0 d n m a c imm
      rw [Nat.zero_add, if_neg g] at hk
      exact ⟨0, 1, word_bad' hk⟩
  · by_cases g : (d = 0) ∧ (n = 0) ∧ (m = 0) ∧ (a = 0) ∧ ((0 ≤ c ∧ c ≤ 15)) ∧ (((-1048576 ≤ imm ∧ imm ≤ 1048572) ∧ Int.tmod imm 4 = 0) ∧ c ≤ 13)
    · have ht : Int.tmod imm 4 = 0 := by simp_all
      obtain ⟨q, hq, hq2⟩ := quo (b := 4) (by omega) ht
      exact ⟨_, _, pval_21 d n m a c imm q g hq hq2⟩
    · have hk := chk_21 0 d n m a c imm
      rw [Nat.zero_add, if_neg g] at hk
      exact ⟨0, 1, word_bad' hk⟩
  · by_cases g : ((0 ≤ d ∧ d ≤ 31)) ∧ (n = 0) ∧ (m = 0) ∧ (a = 0) ∧ (c = 0) ∧ ((-1048576 ≤ imm ∧ imm ≤ 1048572) ∧ Int.tmod imm 4 = 0)
    · have ht : Int.tmod imm 4 = 0 := by simp_all
      obtain ⟨q, hq, hq2⟩ := quo (b := 4) (by omega) ht
      exact ⟨_, _, pval_22 d n m a c imm q g hq hq2⟩
    · have hk := chk_22 0 d n m a c imm
      rw [Nat.zero_add, if_neg g] at hk
      exact ⟨0, 1, word_bad' hk⟩
  · by_cases g : ((0 ≤ d ∧ d ≤ 31)) ∧ (n = 0) ∧ (m = 0) ∧ (a = 0) ∧ (c = 0) ∧ ((-1048576 ≤ imm ∧ imm ≤ 1048572) ∧ Int.tmod imm 4 = 0)
    · have ht : Int.tmod imm 4 = 0 := by simp_all
      obtain ⟨q, hq, hq2⟩ := quo (b := 4) (by omega) ht
      exact ⟨_, _, pval_23 d n m a c imm q g hq hq2⟩
    · have hk := chk_23 0 d n m a c imm
      rw [Nat.zero_add, if_neg g] at hk
      exact ⟨0, 1, word_bad' hk⟩
  · by_cases g : (d = 0) ∧ (n = 0) ∧ (m = 0) ∧ (a = 0) ∧ (c = 0) ∧ ((-134217728 ≤ imm ∧ imm ≤ 134217724) ∧ Int.tmod imm 4 = 0)
    · have ht : Int.tmod imm 4 = 0 := by simp_all
      obtain ⟨q, hq, hq2⟩ := quo (b := 4) (by omega) ht
      exact ⟨_, _, pval_24 d n m a c imm q g hq hq2⟩
    · have hk := chk_24 0 d n m a c imm
      rw [Nat.zero_add, if_neg g] at hk
      exact ⟨0, 1, word_bad' hk⟩
  · by_cases g : (d = 0) ∧ ((0 ≤ n ∧ n ≤ 31)) ∧ (m = 0) ∧ (a = 0) ∧ (c = 0) ∧ (imm = 0)
    · exact ⟨_, _, pval_25 d n m a c imm g⟩
    · have hk := chk_25 0 d n m a c imm
      rw [Nat.zero_add, if_neg g] at hk
      exact ⟨0, 1, word_bad' hk⟩
  · by_cases g : (d = 0) ∧ ((0 ≤ n ∧ n ≤ 31)) ∧ (m = 0) ∧ (a = 0) ∧ (c = 0) ∧ (imm = 0)
    · exact ⟨_, _, pval_26 d n m a c imm g⟩
    · have hk := chk_26 0 d n m a c imm
      rw [Nat.zero_add, if_neg g] at hk
      exact ⟨0, 1, word_bad' hk⟩
  · by_cases g : (d = 0) ∧ ((0 ≤ n ∧ n ≤ 31)) ∧ (m = 0) ∧ (a = 0) ∧ (c = 0) ∧ (imm = 0)
    · exact ⟨_, _, pval_27 d n m a c imm g⟩
    · have hk := chk_27 0 d n m a c imm
      rw [Nat.zero_add, if_neg g] at hk
      exact ⟨0, 1, word_bad' hk⟩
  · by_cases g : ((0 ≤ d ∧ d ≤ 31)) ∧ ((0 ≤ n ∧ n ≤ 31)) ∧ (m = 0) ∧ (a = 0) ∧ (c = 0) ∧ ((0 ≤ imm ∧ imm ≤ 32760) ∧ Int.tmod imm 8 = 0)
    · have ht : Int.tmod imm 8 = 0 := by simp_all
      obtain ⟨q, hq, hq2⟩ := quo (b := 8) (by omega) ht
      exact ⟨_, _, pval_28 d n m a c imm q g hq hq2⟩
    · have hk := chk_28 0 d n m a c imm
      rw [Nat.zero_add, if_neg g] at hk
      exact ⟨0, 1, word_bad' hk⟩
  · by_cases g : ((0 ≤ d ∧ d ≤ 31)) ∧ ((0 ≤ n ∧ n ≤ 31)) ∧ (m = 0) ∧ (a = 0) ∧ (c = 0) ∧ ((0 ≤ imm ∧ imm ≤ 32760) ∧ Int.tmod imm 8 = 0)
    · have ht : Int.tmod imm 8 = 0 := by simp_all
      obtain ⟨q, hq, hq2⟩ := quo (b := 8) (by omega) ht
      exact ⟨_, _, pval_29 d n m a c imm q g hq hq2⟩
    · have hk := chk_29 0 d n m a c imm
      rw [Nat.zero_add, if_neg g] at hk
      exact ⟨0, 1, word_bad' hk⟩
  · by_cases g : ((0 ≤ d ∧ d ≤ 31)) ∧ ((0 ≤ n ∧ n ≤ 31)) ∧ (m = 0) ∧ (a = 0) ∧ (c = 0) ∧ (0 ≤ imm ∧ imm ≤ 4095)
    · exact ⟨_, _, pval_30 d n m a c imm g⟩
    · have hk := chk_30 0 d n m a c imm
      rw [Nat.zero_add, if_neg g] at hk
      exact ⟨0, 1, word_bad' hk⟩
  · by_cases g : ((0 ≤ d ∧ d ≤ 31)) ∧ ((0 ≤ n ∧ n ≤ 31)) ∧ ((0 ≤ m ∧ m ≤ 31)) ∧ (a = 0) ∧ (c = 0) ∧ (imm = 0)
    · exact ⟨_, _, pval_31 d n m a c imm g⟩
    · have hk := chk_31 0 d n m a c imm
      rw [Nat.zero_add, if_neg g] at hk
      exact ⟨0, 1, word_bad' hk⟩
  · by_cases g : ((0 ≤ d ∧ d ≤ 31)) ∧ ((0 ≤ n ∧ n ≤ 31)) ∧ ((0 ≤ m ∧ m ≤ 31)) ∧ (a = 0) ∧ (c = 0) ∧ (imm = 0)
    · exact ⟨_, _, pval_32 d n m a c imm g⟩
    · have hk := chk_32 0 d n m a c imm
      rw [Nat.zero_add, if_neg g] at hk
      exact ⟨0, 1, word_bad' hk⟩
  · by_cases g : ((0 ≤ d ∧ d ≤ 31)) ∧ ((0 ≤ n ∧ n ≤ 31)) ∧ (m = 0) ∧ (a = 0) ∧ (c = 0) ∧ (imm = 0)
    · exact ⟨_, _, pval_33 d n m a c imm g⟩
    · have hk := chk_33 0 d n m a c imm
      rw [Nat.zero_add, if_neg g] at hk
      exact ⟨0, 1, word_bad' hk⟩
  · by_cases g : ((0 ≤ d ∧ d ≤ 31)) ∧ ((0 ≤ n ∧ n ≤ 31)) ∧ (m = 0) ∧ (a = 0) ∧ (c = 0) ∧ (imm = 0)
    · exact ⟨_, _, pval_34 d n m a c imm g⟩
    · have hk := chk_34 0 d n m a c imm
      rw [Nat.zero_add, if_neg g] at hk
      exact ⟨0, 1, word_bad' hk⟩
  · by_cases g : ((0 ≤ d ∧ d ≤ 31)) ∧ ((0 ≤ n ∧ n ≤ 31)) ∧ (m = 0) ∧ (a = 0) ∧ (c = 0) ∧ (imm = 0)
    · exact ⟨_, _, pval_35 d n m a c imm g⟩
    · have hk := chk_35 0 d n m a c imm
      rw [Nat.zero_add, if_neg g] at hk
      exact ⟨0, 1, word_bad' hk⟩
  · by_cases g : ((0 ≤ d ∧ d ≤ 31)) ∧ ((0 ≤ n ∧ n ≤ 31)) ∧ ((0 ≤ m ∧ m ≤ 31)) ∧ (a = 0) ∧ (c = 0) ∧ (imm = 0)
    · exact ⟨_, _, pval_36 d n m a c imm g⟩
    · have hk := chk_36 0 d n m a c imm
      rw [Nat.zero_add, if_neg g] at hk
      exact ⟨0, 1, word_bad' hk⟩
  · by_cases g : (d = 0) ∧ (n = 0) ∧ (m = 0) ∧ (a = 0) ∧ (c = 0) ∧ (0 ≤ imm ∧ imm ≤ 2)
    · have hi : imm = 0 ∨ imm = 1 ∨ imm = 2 := by omega
      obtain ⟨rfl, rfl, rfl, rfl, rfl, _⟩ := g
      rcases hi with rfl | rfl | rfl
      · exact ⟨_, _, pval_37_0⟩
      · exact ⟨_, _, pval_37_1⟩
      · exact ⟨_, _, pval_37_2⟩
    · have hk := chk_37 0 d n m a c imm
      rw [Nat.zero_add, if_neg g] at hk
      exact ⟨0, 1, word_bad' hk⟩
  · by_cases g : (d = 0) ∧ (n = 0) ∧ (m = 0) ∧ (a = 0) ∧ (c = 0) ∧ (imm = 0)
    · exact ⟨_, _, pval_38 d n m a c imm g⟩
    · have hk := chk_38 0 d n m a c imm
      rw [Nat.zero_add, if_neg g] at hk
      exact ⟨0, 1, word_bad' hk⟩
  · by_cases g : (d = 0) ∧ (n = 0) ∧ (m = 0) ∧ (a = 0) ∧ (c = 0) ∧ (imm = 0)
    · exact ⟨_, _, pval_39 d n m a c imm g⟩
    · have hk := chk_39 0 d n m a c imm
      rw [Nat.zero_add, if_neg g] at hk
      exact ⟨0, 1, word_bad' hk⟩
  · by_cases g : (d = 0) ∧ ((0 ≤ n ∧ n ≤ 31)) ∧ (m = 0) ∧ (a = 0) ∧ (c = 0) ∧ (imm = 0)
    · exact ⟨_, _, pval_40 d n m a c imm g⟩
    · have hk := chk_40 0 d n m a c imm
      rw [Nat.zero_add, if_neg g] at hk
      exact ⟨0, 1, word_bad' hk⟩
  · by_cases g : (d = 0) ∧ ((0 ≤ n ∧ n ≤ 31)) ∧ (m = 0) ∧ (a = 0) ∧ (c = 0) ∧ (imm = 0)
    · exact ⟨_, _, pval_41 d n m a c imm g⟩
    · have hk := chk_41 0 d n m a c imm
      rw [Nat.zero_add, if_neg g] at hk
      exact ⟨0, 1, word_bad' hk⟩
  · by_cases g : (d = 0) ∧ (n = 0) ∧ (m = 0) ∧ (a = 0) ∧ (c = 0) ∧ (0 ≤ imm ∧ imm ≤ 65535)
    · exact ⟨_, _, pval_42 d n m a c imm g⟩
    · have hk := chk_42 0 d n m a c imm
      rw [Nat.zero_add, if_neg g] at hk
      exact ⟨0, 1, word_bad' hk⟩
end Go.Proofs.Ytbjikmepfpkmjaa.X
