/- An instruction out of its word: no two right instructions have one word. Written by gendec.py. -/
import Derived.Test.YtbjikmepfpkmjaazEncUnlikePVal
namespace Go.Proofs.Ytbjikmepfpkmjaa.X
set_option linter.unusedVariables false
set_option linter.unusedSimpArgs false
open Go.RowKit Go.Proofs.YtbjikmepfpkmjaaW.PrintWords Go.Proofs.YtbjikmepfpkmjaaW.PrintLast Go.Proofs.YtbjikmepfpkmjaaW.PrintMore Go.Proofs.Ytbjikmepfpkmjaa.Q
/-- Which instruction a word is of. -/
def opOf (w : Int) : Int := if w / 134217728 % 2 = 1 then (if w / 1073741824 % 2 = 1 then (if w / 536870912 % 2 = 1 then (if w / 4194304 % 2 = 1 then (if w / 16777216 % 2 = 1 then 28 else 31) else (if w / 16777216 % 2 = 1 then (if w / 33554432 % 2 = 1 then 9 else 29) else 32)) else (if w / 1024 % 2 = 1 then (if w / 32768 % 2 = 1 then (if w / 4194304 % 2 = 1 then 33 else 34) else (if w / 4194304 % 2 = 1 then 35 else 36)) else (if w / 16777216 % 2 = 1 then 8 else 12))) else (if w / 4194304 % 2 = 1 then (if w / 8388608 % 2 = 1 then (if w / 1024 % 2 = 1 then (if w / 2048 % 2 = 1 then 15 else 17) else (if w / 2048 % 2 = 1 then 18 else 16)) else 30) else (if w / 16777216 % 2 = 1 then (if w / 32768 % 2 = 1 then 14 else (if w / 268435456 % 2 = 1 then 13 else 7)) else (if w / 1024 % 2 = 1 then 19 else (if w / 536870912 % 2 = 1 then 11 else 10))))) else (if w / 67108864 % 2 = 1 then (if w / 1073741824 % 2 = 1 then (if w / 16777216 % 2 = 1 then (if w / 32 % 2 = 1 then (if w / 128 % 2 = 1 then 37 else (if w / 512 % 2 = 1 then 40 else 41)) else (if w / 64 % 2 = 1 then 39 else (if w / 128 % 2 = 1 then 38 else 1))) else (if w / 33554432 % 2 = 1 then (if w / 2097152 % 2 = 1 then 26 else (if w / 4194304 % 2 = 1 then 27 else 25)) else (if w / 2147483648 % 2 = 1 then 42 else 21))) else (if w / 536870912 % 2 = 1 then (if w / 16777216 % 2 = 1 then 23 else 22) else (if w / 2147483648 % 2 = 1 then 24 else 20))) else (if w / 16777216 % 2 = 1 then (if w / 536870912 % 2 = 1 then 6 else (if w / 1073741824 % 2 = 1 then 5 else 4)) else (if w / 8388608 % 2 = 1 then (if w / 536870912 % 2 = 1 then 3 else 2) else 0)))
set_option maxRecDepth 10000 in
theorem dec_0 (d n m a c imm : Int) (g : (d = 0) ∧ (n = 0) ∧ (m = 0) ∧ (a = 0) ∧ (c = 0) ∧ (0 ≤ imm ∧ imm ≤ 65535)) : opOf (0 + imm * 1) = 0 := by
  unfold opOf
  rw [if_neg (by omega), if_neg (by omega), if_neg (by omega), if_neg (by omega)]
set_option maxRecDepth 10000 in
theorem fld_0 (d n m a c imm d' n' m' a' c' imm' : Int) (g : (d = 0) ∧ (n = 0) ∧ (m = 0) ∧ (a = 0) ∧ (c = 0) ∧ (0 ≤ imm ∧ imm ≤ 65535)) (g' : (d' = 0) ∧ (n' = 0) ∧ (m' = 0) ∧ (a' = 0) ∧ (c' = 0) ∧ (0 ≤ imm' ∧ imm' ≤ 65535)) (h : 0 + imm * 1 = 0 + imm' * 1) : d = d' ∧ n = n' ∧ m = m' ∧ a = a' ∧ c = c' ∧ imm = imm' := by
  omega
set_option maxRecDepth 10000 in
theorem dec_1 (d n m a c imm : Int) (g : (d = 0) ∧ (n = 0) ∧ (m = 0) ∧ (a = 0) ∧ (c = 0) ∧ (imm = 0)) : opOf (3573751839) = 1 := by
  unfold opOf
  rw [if_neg (by omega), if_pos (by omega), if_pos (by omega), if_pos (by omega), if_neg (by omega), if_neg (by omega), if_neg (by omega)]
set_option maxRecDepth 10000 in
theorem fld_1 (d n m a c imm d' n' m' a' c' imm' : Int) (g : (d = 0) ∧ (n = 0) ∧ (m = 0) ∧ (a = 0) ∧ (c = 0) ∧ (imm = 0)) (g' : (d' = 0) ∧ (n' = 0) ∧ (m' = 0) ∧ (a' = 0) ∧ (c' = 0) ∧ (imm' = 0)) (h : 3573751839 = 3573751839) : d = d' ∧ n = n' ∧ m = m' ∧ a = a' ∧ c = c' ∧ imm = imm' := by
  omega
set_option maxRecDepth 10000 in
theorem dec_2 (d n m a c imm : Int) (g : ((0 ≤ d ∧ d ≤ 31)) ∧ (n = 0) ∧ ((0 ≤ m ∧ m ≤ 31)) ∧ (a = 0) ∧ (c = 0) ∧ ((0 ≤ imm ∧ imm ≤ 65535) ∧ m ≤ 3)) : opOf (3531603968 + m * 2097152 + imm * 32 + d * 1) = 2 := by
  unfold opOf
  rw [if_neg (by omega), if_neg (by omega), if_neg (by omega), if_pos (by omega), if_neg (by omega)]
set_option maxRecDepth 10000 in
theorem fld_2 (d n m a c imm d' n' m' a' c' imm' : Int) (g : ((0 ≤ d ∧ d ≤ 31)) ∧ (n = 0) ∧ ((0 ≤ m ∧ m ≤ 31)) ∧ (a = 0) ∧ (c = 0) ∧ ((0 ≤ imm ∧ imm ≤ 65535) ∧ m ≤ 3)) (g' : ((0 ≤ d' ∧ d' ≤ 31)) ∧ (n' = 0) ∧ ((0 ≤ m' ∧ m' ≤ 31)) ∧ (a' = 0) ∧ (c' = 0) ∧ ((0 ≤ imm' ∧ imm' ≤ 65535) ∧ m' ≤ 3)) (h : 3531603968 + m * 2097152 + imm * 32 + d * 1 = 3531603968 + m' * 2097152 + imm' * 32 + d' * 1) : d = d' ∧ n = n' ∧ m = m' ∧ a = a' ∧ c = c' ∧ imm = imm' := by
  omega
set_option maxRecDepth 10000 in
theorem dec_3 (d n m a c imm : Int) (g : ((0 ≤ d ∧ d ≤ 31)) ∧ (n = 0) ∧ ((0 ≤ m ∧ m ≤ 31)) ∧ (a = 0) ∧ (c = 0) ∧ ((0 ≤ imm ∧ imm ≤ 65535) ∧ m ≤ 3)) : opOf (4068474880 + m * 2097152 + imm * 32 + d * 1) = 3 := by
  unfold opOf
  rw [if_neg (by omega), if_neg (by omega), if_neg (by omega), if_pos (by omega), if_pos (by omega)]
set_option maxRecDepth 10000 in
theorem fld_3 (d n m a c imm d' n' m' a' c' imm' : Int) (g : ((0 ≤ d ∧ d ≤ 31)) ∧ (n = 0) ∧ ((0 ≤ m ∧ m ≤ 31)) ∧ (a = 0) ∧ (c = 0) ∧ ((0 ≤ imm ∧ imm ≤ 65535) ∧ m ≤ 3)) (g' : ((0 ≤ d' ∧ d' ≤ 31)) ∧ (n' = 0) ∧ ((0 ≤ m' ∧ m' ≤ 31)) ∧ (a' = 0) ∧ (c' = 0) ∧ ((0 ≤ imm' ∧ imm' ≤ 65535) ∧ m' ≤ 3)) (h : 4068474880 + m * 2097152 + imm * 32 + d * 1 = 4068474880 + m' * 2097152 + imm' * 32 + d' * 1) : d = d' ∧ n = n' ∧ m = m' ∧ a = a' ∧ c = c' ∧ imm = imm' := by
  omega
set_option maxRecDepth 10000 in
theorem dec_4 (d n m a c imm : Int) (g : ((0 ≤ d ∧ d ≤ 31)) ∧ ((0 ≤ n ∧ n ≤ 31)) ∧ (m = 0) ∧ (a = 0) ∧ (c = 0) ∧ (0 ≤ imm ∧ imm ≤ 4095)) : opOf (2432696320 + imm * 1024 + n * 32 + d * 1) = 4 := by
  unfold opOf
  rw [if_neg (by omega), if_neg (by omega), if_pos (by omega), if_neg (by omega), if_neg (by omega)]
set_option maxRecDepth 10000 in
theorem fld_4 (d n m a c imm d' n' m' a' c' imm' : Int) (g : ((0 ≤ d ∧ d ≤ 31)) ∧ ((0 ≤ n ∧ n ≤ 31)) ∧ (m = 0) ∧ (a = 0) ∧ (c = 0) ∧ (0 ≤ imm ∧ imm ≤ 4095)) (g' : ((0 ≤ d' ∧ d' ≤ 31)) ∧ ((0 ≤ n' ∧ n' ≤ 31)) ∧ (m' = 0) ∧ (a' = 0) ∧ (c' = 0) ∧ (0 ≤ imm' ∧ imm' ≤ 4095)) (h : 2432696320 + imm * 1024 + n * 32 + d * 1 = 2432696320 + imm' * 1024 + n' * 32 + d' * 1) : d = d' ∧ n = n' ∧ m = m' ∧ a = a' ∧ c = c' ∧ imm = imm' := by
  omega
set_option maxRecDepth 10000 in
theorem dec_5 (d n m a c imm : Int) (g : ((0 ≤ d ∧ d ≤ 31)) ∧ ((0 ≤ n ∧ n ≤ 31)) ∧ (m = 0) ∧ (a = 0) ∧ (c = 0) ∧ (0 ≤ imm ∧ imm ≤ 4095)) : opOf (3506438144 + imm * 1024 + n * 32 + d * 1) = 5 := by
  unfold opOf
  rw [if_neg (by omega), if_neg (by omega), if_pos (by omega), if_neg (by omega), if_pos (by omega)]
set_option maxRecDepth 10000 in
theorem fld_5 (d n m a c imm d' n' m' a' c' imm' : Int) (g : ((0 ≤ d ∧ d ≤ 31)) ∧ ((0 ≤ n ∧ n ≤ 31)) ∧ (m = 0) ∧ (a = 0) ∧ (c = 0) ∧ (0 ≤ imm ∧ imm ≤ 4095)) (g' : ((0 ≤ d' ∧ d' ≤ 31)) ∧ ((0 ≤ n' ∧ n' ≤ 31)) ∧ (m' = 0) ∧ (a' = 0) ∧ (c' = 0) ∧ (0 ≤ imm' ∧ imm' ≤ 4095)) (h : 3506438144 + imm * 1024 + n * 32 + d * 1 = 3506438144 + imm' * 1024 + n' * 32 + d' * 1) : d = d' ∧ n = n' ∧ m = m' ∧ a = a' ∧ c = c' ∧ imm = imm' := by
  omega
set_option maxRecDepth 10000 in
theorem dec_6 (d n m a c imm : Int) (g : ((0 ≤ d ∧ d ≤ 31)) ∧ ((0 ≤ n ∧ n ≤ 31)) ∧ (m = 0) ∧ (a = 0) ∧ (c = 0) ∧ (0 ≤ imm ∧ imm ≤ 4095)) : opOf (4043309056 + imm * 1024 + n * 32 + d * 1) = 6 := by
  unfold opOf
  rw [if_neg (by omega), if_neg (by omega), if_pos (by omega), if_pos (by omega)]
set_option maxRecDepth 10000 in
theorem fld_6 (d n m a c imm d' n' m' a' c' imm' : Int) (g : ((0 ≤ d ∧ d ≤ 31)) ∧ ((0 ≤ n ∧ n ≤ 31)) ∧ (m = 0) ∧ (a = 0) ∧ (c = 0) ∧ (0 ≤ imm ∧ imm ≤ 4095)) (g' : ((0 ≤ d' ∧ d' ≤ 31)) ∧ ((0 ≤ n' ∧ n' ≤ 31)) ∧ (m' = 0) ∧ (a' = 0) ∧ (c' = 0) ∧ (0 ≤ imm' ∧ imm' ≤ 4095)) (h : 4043309056 + imm * 1024 + n * 32 + d * 1 = 4043309056 + imm' * 1024 + n' * 32 + d' * 1) : d = d' ∧ n = n' ∧ m = m' ∧ a = a' ∧ c = c' ∧ imm = imm' := by
  omega
set_option maxRecDepth 10000 in
theorem dec_7 (d n m a c imm : Int) (g : ((0 ≤ d ∧ d ≤ 31)) ∧ ((0 ≤ n ∧ n ≤ 31)) ∧ ((0 ≤ m ∧ m ≤ 31)) ∧ (a = 0) ∧ (c = 0) ∧ (imm = 0)) : opOf (2332033024 + m * 65536 + n * 32 + d * 1) = 7 := by
  unfold opOf
  rw [if_pos (by omega), if_neg (by omega), if_neg (by omega), if_pos (by omega), if_neg (by omega), if_neg (by omega)]
set_option maxRecDepth 10000 in
theorem fld_7 (d n m a c imm d' n' m' a' c' imm' : Int) (g : ((0 ≤ d ∧ d ≤ 31)) ∧ ((0 ≤ n ∧ n ≤ 31)) ∧ ((0 ≤ m ∧ m ≤ 31)) ∧ (a = 0) ∧ (c = 0) ∧ (imm = 0)) (g' : ((0 ≤ d' ∧ d' ≤ 31)) ∧ ((0 ≤ n' ∧ n' ≤ 31)) ∧ ((0 ≤ m' ∧ m' ≤ 31)) ∧ (a' = 0) ∧ (c' = 0) ∧ (imm' = 0)) (h : 2332033024 + m * 65536 + n * 32 + d * 1 = 2332033024 + m' * 65536 + n' * 32 + d' * 1) : d = d' ∧ n = n' ∧ m = m' ∧ a = a' ∧ c = c' ∧ imm = imm' := by
  omega
set_option maxRecDepth 10000 in
theorem dec_8 (d n m a c imm : Int) (g : ((0 ≤ d ∧ d ≤ 31)) ∧ ((0 ≤ n ∧ n ≤ 31)) ∧ ((0 ≤ m ∧ m ≤ 31)) ∧ (a = 0) ∧ (c = 0) ∧ (imm = 0)) : opOf (3405774848 + m * 65536 + n * 32 + d * 1) = 8 := by
  unfold opOf
  rw [if_pos (by omega), if_pos (by omega), if_neg (by omega), if_neg (by omega), if_pos (by omega)]
set_option maxRecDepth 10000 in
theorem fld_8 (d n m a c imm d' n' m' a' c' imm' : Int) (g : ((0 ≤ d ∧ d ≤ 31)) ∧ ((0 ≤ n ∧ n ≤ 31)) ∧ ((0 ≤ m ∧ m ≤ 31)) ∧ (a = 0) ∧ (c = 0) ∧ (imm = 0)) (g' : ((0 ≤ d' ∧ d' ≤ 31)) ∧ ((0 ≤ n' ∧ n' ≤ 31)) ∧ ((0 ≤ m' ∧ m' ≤ 31)) ∧ (a' = 0) ∧ (c' = 0) ∧ (imm' = 0)) (h : 3405774848 + m * 65536 + n * 32 + d * 1 = 3405774848 + m' * 65536 + n' * 32 + d' * 1) : d = d' ∧ n = n' ∧ m = m' ∧ a = a' ∧ c = c' ∧ imm = imm' := by
  omega
set_option maxRecDepth 10000 in
theorem dec_9 (d n m a c imm : Int) (g : ((0 ≤ d ∧ d ≤ 31)) ∧ ((0 ≤ n ∧ n ≤ 31)) ∧ ((0 ≤ m ∧ m ≤ 31)) ∧ (a = 0) ∧ (c = 0) ∧ (imm = 0)) : opOf (3942645760 + m * 65536 + n * 32 + d * 1) = 9 := by
  unfold opOf
  rw [if_pos (by omega), if_pos (by omega), if_pos (by omega), if_neg (by omega), if_pos (by omega), if_pos (by omega)]
set_option maxRecDepth 10000 in
theorem fld_9 (d n m a c imm d' n' m' a' c' imm' : Int) (g : ((0 ≤ d ∧ d ≤ 31)) ∧ ((0 ≤ n ∧ n ≤ 31)) ∧ ((0 ≤ m ∧ m ≤ 31)) ∧ (a = 0) ∧ (c = 0) ∧ (imm = 0)) (g' : ((0 ≤ d' ∧ d' ≤ 31)) ∧ ((0 ≤ n' ∧ n' ≤ 31)) ∧ ((0 ≤ m' ∧ m' ≤ 31)) ∧ (a' = 0) ∧ (c' = 0) ∧ (imm' = 0)) (h : 3942645760 + m * 65536 + n * 32 + d * 1 = 3942645760 + m' * 65536 + n' * 32 + d' * 1) : d = d' ∧ n = n' ∧ m = m' ∧ a = a' ∧ c = c' ∧ imm = imm' := by
  omega
set_option maxRecDepth 10000 in
theorem dec_10 (d n m a c imm : Int) (g : ((0 ≤ d ∧ d ≤ 31)) ∧ ((0 ≤ n ∧ n ≤ 31)) ∧ ((0 ≤ m ∧ m ≤ 31)) ∧ (a = 0) ∧ (c = 0) ∧ (imm = 0)) : opOf (2315255808 + m * 65536 + n * 32 + d * 1) = 10 := by
  unfold opOf
  rw [if_pos (by omega), if_neg (by omega), if_neg (by omega), if_neg (by omega), if_neg (by omega), if_neg (by omega)]
set_option maxRecDepth 10000 in
theorem fld_10 (d n m a c imm d' n' m' a' c' imm' : Int) (g : ((0 ≤ d ∧ d ≤ 31)) ∧ ((0 ≤ n ∧ n ≤ 31)) ∧ ((0 ≤ m ∧ m ≤ 31)) ∧ (a = 0) ∧ (c = 0) ∧ (imm = 0)) (g' : ((0 ≤ d' ∧ d' ≤ 31)) ∧ ((0 ≤ n' ∧ n' ≤ 31)) ∧ ((0 ≤ m' ∧ m' ≤ 31)) ∧ (a' = 0) ∧ (c' = 0) ∧ (imm' = 0)) (h : 2315255808 + m * 65536 + n * 32 + d * 1 = 2315255808 + m' * 65536 + n' * 32 + d' * 1) : d = d' ∧ n = n' ∧ m = m' ∧ a = a' ∧ c = c' ∧ imm = imm' := by
  omega
set_option maxRecDepth 10000 in
theorem dec_11 (d n m a c imm : Int) (g : ((0 ≤ d ∧ d ≤ 31)) ∧ ((0 ≤ n ∧ n ≤ 31)) ∧ ((0 ≤ m ∧ m ≤ 31)) ∧ (a = 0) ∧ (c = 0) ∧ (imm = 0)) : opOf (2852126720 + m * 65536 + n * 32 + d * 1) = 11 := by
  unfold opOf
  rw [if_pos (by omega), if_neg (by omega), if_neg (by omega), if_neg (by omega), if_neg (by omega), if_pos (by omega)]
set_option maxRecDepth 10000 in
theorem fld_11 (d n m a c imm d' n' m' a' c' imm' : Int) (g : ((0 ≤ d ∧ d ≤ 31)) ∧ ((0 ≤ n ∧ n ≤ 31)) ∧ ((0 ≤ m ∧ m ≤ 31)) ∧ (a = 0) ∧ (c = 0) ∧ (imm = 0)) (g' : ((0 ≤ d' ∧ d' ≤ 31)) ∧ ((0 ≤ n' ∧ n' ≤ 31)) ∧ ((0 ≤ m' ∧ m' ≤ 31)) ∧ (a' = 0) ∧ (c' = 0) ∧ (imm' = 0)) (h : 2852126720 + m * 65536 + n * 32 + d * 1 = 2852126720 + m' * 65536 + n' * 32 + d' * 1) : d = d' ∧ n = n' ∧ m = m' ∧ a = a' ∧ c = c' ∧ imm = imm' := by
  omega
set_option maxRecDepth 10000 in
theorem dec_12 (d n m a c imm : Int) (g : ((0 ≤ d ∧ d ≤ 31)) ∧ ((0 ≤ n ∧ n ≤ 31)) ∧ ((0 ≤ m ∧ m ≤ 31)) ∧ (a = 0) ∧ (c = 0) ∧ (imm = 0)) : opOf (3388997632 + m * 65536 + n * 32 + d * 1) = 12 := by
  unfold opOf
  rw [if_pos (by omega), if_pos (by omega), if_neg (by omega), if_neg (by omega), if_neg (by omega)]
set_option maxRecDepth 10000 in
theorem fld_12 (d n m a c imm d' n' m' a' c' imm' : Int) (g : ((0 ≤ d ∧ d ≤ 31)) ∧ ((0 ≤ n ∧ n ≤ 31)) ∧ ((0 ≤ m ∧ m ≤ 31)) ∧ (a = 0) ∧ (c = 0) ∧ (imm = 0)) (g' : ((0 ≤ d' ∧ d' ≤ 31)) ∧ ((0 ≤ n' ∧ n' ≤ 31)) ∧ ((0 ≤ m' ∧ m' ≤ 31)) ∧ (a' = 0) ∧ (c' = 0) ∧ (imm' = 0)) (h : 3388997632 + m * 65536 + n * 32 + d * 1 = 3388997632 + m' * 65536 + n' * 32 + d' * 1) : d = d' ∧ n = n' ∧ m = m' ∧ a = a' ∧ c = c' ∧ imm = imm' := by
  omega
set_option maxRecDepth 10000 in
theorem dec_13 (d n m a c imm : Int) (g : ((0 ≤ d ∧ d ≤ 31)) ∧ ((0 ≤ n ∧ n ≤ 31)) ∧ ((0 ≤ m ∧ m ≤ 31)) ∧ ((0 ≤ a ∧ a ≤ 31)) ∧ (c = 0) ∧ (imm = 0)) : opOf (2600468480 + m * 65536 + a * 1024 + n * 32 + d * 1) = 13 := by
  unfold opOf
  rw [if_pos (by omega), if_neg (by omega), if_neg (by omega), if_pos (by omega), if_neg (by omega), if_pos (by omega)]
set_option maxRecDepth 10000 in
theorem fld_13 (d n m a c imm d' n' m' a' c' imm' : Int) (g : ((0 ≤ d ∧ d ≤ 31)) ∧ ((0 ≤ n ∧ n ≤ 31)) ∧ ((0 ≤ m ∧ m ≤ 31)) ∧ ((0 ≤ a ∧ a ≤ 31)) ∧ (c = 0) ∧ (imm = 0)) (g' : ((0 ≤ d' ∧ d' ≤ 31)) ∧ ((0 ≤ n' ∧ n' ≤ 31)) ∧ ((0 ≤ m' ∧ m' ≤ 31)) ∧ ((0 ≤ a' ∧ a' ≤ 31)) ∧ (c' = 0) ∧ (imm' = 0)) (h : 2600468480 + m * 65536 + a * 1024 + n * 32 + d * 1 = 2600468480 + m' * 65536 + a' * 1024 + n' * 32 + d' * 1) : d = d' ∧ n = n' ∧ m = m' ∧ a = a' ∧ c = c' ∧ imm = imm' := by
  omega
set_option maxRecDepth 10000 in
theorem dec_14 (d n m a c imm : Int) (g : ((0 ≤ d ∧ d ≤ 31)) ∧ ((0 ≤ n ∧ n ≤ 31)) ∧ ((0 ≤ m ∧ m ≤ 31)) ∧ ((0 ≤ a ∧ a ≤ 31)) ∧ (c = 0) ∧ (imm = 0)) : opOf (2600501248 + m * 65536 + a * 1024 + n * 32 + d * 1) = 14 := by
  unfold opOf
  rw [if_pos (by omega), if_neg (by omega), if_neg (by omega), if_pos (by omega), if_pos (by omega)]
set_option maxRecDepth 10000 in
theorem fld_14 (d n m a c imm d' n' m' a' c' imm' : Int) (g : ((0 ≤ d ∧ d ≤ 31)) ∧ ((0 ≤ n ∧ n ≤ 31)) ∧ ((0 ≤ m ∧ m ≤ 31)) ∧ ((0 ≤ a ∧ a ≤ 31)) ∧ (c = 0) ∧ (imm = 0)) (g' : ((0 ≤ d' ∧ d' ≤ 31)) ∧ ((0 ≤ n' ∧ n' ≤ 31)) ∧ ((0 ≤ m' ∧ m' ≤ 31)) ∧ ((0 ≤ a' ∧ a' ≤ 31)) ∧ (c' = 0) ∧ (imm' = 0)) (h : 2600501248 + m * 65536 + a * 1024 + n * 32 + d * 1 = 2600501248 + m' * 65536 + a' * 1024 + n' * 32 + d' * 1) : d = d' ∧ n = n' ∧ m = m' ∧ a = a' ∧ c = c' ∧ imm = imm' := by
  omega
set_option maxRecDepth 10000 in
theorem dec_15 (d n m a c imm : Int) (g : ((0 ≤ d ∧ d ≤ 31)) ∧ ((0 ≤ n ∧ n ≤ 31)) ∧ ((0 ≤ m ∧ m ≤ 31)) ∧ (a = 0) ∧ (c = 0) ∧ (imm = 0)) : opOf (2596277248 + m * 65536 + n * 32 + d * 1) = 15 := by
  unfold opOf
  rw [if_pos (by omega), if_neg (by omega), if_pos (by omega), if_pos (by omega), if_pos (by omega), if_pos (by omega)]
set_option maxRecDepth 10000 in
theorem fld_15 (d n m a c imm d' n' m' a' c' imm' : Int) (g : ((0 ≤ d ∧ d ≤ 31)) ∧ ((0 ≤ n ∧ n ≤ 31)) ∧ ((0 ≤ m ∧ m ≤ 31)) ∧ (a = 0) ∧ (c = 0) ∧ (imm = 0)) (g' : ((0 ≤ d' ∧ d' ≤ 31)) ∧ ((0 ≤ n' ∧ n' ≤ 31)) ∧ ((0 ≤ m' ∧ m' ≤ 31)) ∧ (a' = 0) ∧ (c' = 0) ∧ (imm' = 0)) (h : 2596277248 + m * 65536 + n * 32 + d * 1 = 2596277248 + m' * 65536 + n' * 32 + d' * 1) : d = d' ∧ n = n' ∧ m = m' ∧ a = a' ∧ c = c' ∧ imm = imm' := by
  omega
set_option maxRecDepth 10000 in
theorem dec_16 (d n m a c imm : Int) (g : ((0 ≤ d ∧ d ≤ 31)) ∧ ((0 ≤ n ∧ n ≤ 31)) ∧ ((0 ≤ m ∧ m ≤ 31)) ∧ (a = 0) ∧ (c = 0) ∧ (imm = 0)) : opOf (2596282368 + m * 65536 + n * 32 + d * 1) = 16 := by
  unfold opOf
  rw [if_pos (by omega), if_neg (by omega), if_pos (by omega), if_pos (by omega), if_neg (by omega), if_neg (by omega)]
set_option maxRecDepth 10000 in
theorem fld_16 (d n m a c imm d' n' m' a' c' imm' : Int) (g : ((0 ≤ d ∧ d ≤ 31)) ∧ ((0 ≤ n ∧ n ≤ 31)) ∧ ((0 ≤ m ∧ m ≤ 31)) ∧ (a = 0) ∧ (c = 0) ∧ (imm = 0)) (g' : ((0 ≤ d' ∧ d' ≤ 31)) ∧ ((0 ≤ n' ∧ n' ≤ 31)) ∧ ((0 ≤ m' ∧ m' ≤ 31)) ∧ (a' = 0) ∧ (c' = 0) ∧ (imm' = 0)) (h : 2596282368 + m * 65536 + n * 32 + d * 1 = 2596282368 + m' * 65536 + n' * 32 + d' * 1) : d = d' ∧ n = n' ∧ m = m' ∧ a = a' ∧ c = c' ∧ imm = imm' := by
  omega
set_option maxRecDepth 10000 in
theorem dec_17 (d n m a c imm : Int) (g : ((0 ≤ d ∧ d ≤ 31)) ∧ ((0 ≤ n ∧ n ≤ 31)) ∧ ((0 ≤ m ∧ m ≤ 31)) ∧ (a = 0) ∧ (c = 0) ∧ (imm = 0)) : opOf (2596283392 + m * 65536 + n * 32 + d * 1) = 17 := by
  unfold opOf
  rw [if_pos (by omega), if_neg (by omega), if_pos (by omega), if_pos (by omega), if_pos (by omega), if_neg (by omega)]
set_option maxRecDepth 10000 in
theorem fld_17 (d n m a c imm d' n' m' a' c' imm' : Int) (g : ((0 ≤ d ∧ d ≤ 31)) ∧ ((0 ≤ n ∧ n ≤ 31)) ∧ ((0 ≤ m ∧ m ≤ 31)) ∧ (a = 0) ∧ (c = 0) ∧ (imm = 0)) (g' : ((0 ≤ d' ∧ d' ≤ 31)) ∧ ((0 ≤ n' ∧ n' ≤ 31)) ∧ ((0 ≤ m' ∧ m' ≤ 31)) ∧ (a' = 0) ∧ (c' = 0) ∧ (imm' = 0)) (h : 2596283392 + m * 65536 + n * 32 + d * 1 = 2596283392 + m' * 65536 + n' * 32 + d' * 1) : d = d' ∧ n = n' ∧ m = m' ∧ a = a' ∧ c = c' ∧ imm = imm' := by
  omega
set_option maxRecDepth 10000 in
theorem dec_18 (d n m a c imm : Int) (g : ((0 ≤ d ∧ d ≤ 31)) ∧ ((0 ≤ n ∧ n ≤ 31)) ∧ ((0 ≤ m ∧ m ≤ 31)) ∧ (a = 0) ∧ (c = 0) ∧ (imm = 0)) : opOf (2596284416 + m * 65536 + n * 32 + d * 1) = 18 := by
  unfold opOf
  rw [if_pos (by omega), if_neg (by omega), if_pos (by omega), if_pos (by omega), if_neg (by omega), if_pos (by omega)]
set_option maxRecDepth 10000 in
theorem fld_18 (d n m a c imm d' n' m' a' c' imm' : Int) (g : ((0 ≤ d ∧ d ≤ 31)) ∧ ((0 ≤ n ∧ n ≤ 31)) ∧ ((0 ≤ m ∧ m ≤ 31)) ∧ (a = 0) ∧ (c = 0) ∧ (imm = 0)) (g' : ((0 ≤ d' ∧ d' ≤ 31)) ∧ ((0 ≤ n' ∧ n' ≤ 31)) ∧ ((0 ≤ m' ∧ m' ≤ 31)) ∧ (a' = 0) ∧ (c' = 0) ∧ (imm' = 0)) (h : 2596284416 + m * 65536 + n * 32 + d * 1 = 2596284416 + m' * 65536 + n' * 32 + d' * 1) : d = d' ∧ n = n' ∧ m = m' ∧ a = a' ∧ c = c' ∧ imm = imm' := by
  omega
set_option maxRecDepth 10000 in
theorem dec_19 (d n m a c imm : Int) (g : ((0 ≤ d ∧ d ≤ 31)) ∧ ((0 ≤ n ∧ n ≤ 31)) ∧ ((0 ≤ m ∧ m ≤ 31)) ∧ (a = 0) ∧ ((0 ≤ c ∧ c ≤ 15)) ∧ (imm = 0)) : opOf (2592080896 + m * 65536 + c * 4096 + n * 32 + d * 1) = 19 := by
  unfold opOf
  rw [if_pos (by omega), if_neg (by omega), if_neg (by omega), if_neg (by omega), if_pos (by omega)]
set_option maxRecDepth 10000 in
theorem fld_19 (d n m a c imm d' n' m' a' c' imm' : Int) (g : ((0 ≤ d ∧ d ≤ 31)) ∧ ((0 ≤ n ∧ n ≤ 31)) ∧ ((0 ≤ m ∧ m ≤ 31)) ∧ (a = 0) ∧ ((0 ≤ c ∧ c ≤ 15)) ∧ (imm = 0)) (g' : ((0 ≤ d' ∧ d' ≤ 31)) ∧ ((0 ≤ n' ∧ n' ≤ 31)) ∧ ((0 ≤ m' ∧ m' ≤ 31)) ∧ (a' = 0) ∧ ((0 ≤ c' ∧ c' ≤ 15)) ∧ (imm' = 0)) (h : 2592080896 + m * 65536 + c * 4096 + n * 32 + d * 1 = 2592080896 + m' * 65536 + c' * 4096 + n' * 32 + d' * 1) : d = d' ∧ n = n' ∧ m = m' ∧ a = a' ∧ c = c' ∧ imm = imm' := by
  omega
set_option maxRecDepth 10000 in
theorem dec_20 (d n m a c imm q : Int) (g : (d = 0) ∧ (n = 0) ∧ (m = 0) ∧ (a = 0) ∧ (c = 0) ∧ ((-134217728 ≤ imm ∧ imm ≤ 134217724) ∧ Int.tmod imm 4 = 0)) (hq : imm = 4 * q) : opOf (335544320 + (q % 67108864) * 1) = 20 := by
  unfold opOf
  rw [if_neg (by omega), if_pos (by omega), if_neg (by omega), if_neg (by omega), if_neg (by omega)]
set_option maxRecDepth 10000 in
theorem fld_20 (d n m a c imm q d' n' m' a' c' imm' q' : Int) (g : (d = 0) ∧ (n = 0) ∧ (m = 0) ∧ (a = 0) ∧ (c = 0) ∧ ((-134217728 ≤ imm ∧ imm ≤ 134217724) ∧ Int.tmod imm 4 = 0)) (hq : imm = 4 * q) (g' : (d' = 0) ∧ (n' = 0) ∧ (m' = 0) ∧ (a' = 0) ∧ (c' = 0) ∧ ((-134217728 ≤ imm' ∧ imm' ≤ 134217724) ∧ Int.tmod imm' 4 = 0)) (hq' : imm' = 4 * q') (h : 335544320 + (q % 67108864) * 1 = 335544320 + (q' % 67108864) * 1) : d = d' ∧ n = n' ∧ m = m' ∧ a = a' ∧ c = c' ∧ imm = imm' := by
  omega
set_option maxRecDepth 10000 in
theorem dec_21 (d n m a c imm q : Int) (g : (d = 0) ∧ (n = 0) ∧ (m = 0) ∧ (a = 0) ∧ ((0 ≤ c ∧ c ≤ 15)) ∧ (((-1048576 ≤ imm ∧ imm ≤ 1048572) ∧ Int.tmod imm 4 = 0) ∧ c ≤ 13)) (hq : imm = 4 * q) : opOf (1409286144 + (q % 524288) * 32 + c * 1) = 21 := by
  unfold opOf
  rw [if_neg (by omega), if_pos (by omega), if_pos (by omega), if_neg (by omega), if_neg (by omega), if_neg (by omega)]
set_option maxRecDepth 10000 in
theorem fld_21 (d n m a c imm q d' n' m' a' c' imm' q' : Int) (g : (d = 0) ∧ (n = 0) ∧ (m = 0) ∧ (a = 0) ∧ ((0 ≤ c ∧ c ≤ 15)) ∧ (((-1048576 ≤ imm ∧ imm ≤ 1048572) ∧ Int.tmod imm 4 = 0) ∧ c ≤ 13)) (hq : imm = 4 * q) (g' : (d' = 0) ∧ (n' = 0) ∧ (m' = 0) ∧ (a' = 0) ∧ ((0 ≤ c' ∧ c' ≤ 15)) ∧ (((-1048576 ≤ imm' ∧ imm' ≤ 1048572) ∧ Int.tmod imm' 4 = 0) ∧ c' ≤ 13)) (hq' : imm' = 4 * q') (h : 1409286144 + (q % 524288) * 32 + c * 1 = 1409286144 + (q' % 524288) * 32 + c' * 1) : d = d' ∧ n = n' ∧ m = m' ∧ a = a' ∧ c = c' ∧ imm = imm' := by
  omega
set_option maxRecDepth 10000 in
theorem dec_22 (d n m a c imm q : Int) (g : ((0 ≤ d ∧ d ≤ 31)) ∧ (n = 0) ∧ (m = 0) ∧ (a = 0) ∧ (c = 0) ∧ ((-1048576 ≤ imm ∧ imm ≤ 1048572) ∧ Int.tmod imm 4 = 0)) (hq : imm = 4 * q) : opOf (3019898880 + (q % 524288) * 32 + d * 1) = 22 := by
  unfold opOf
  rw [if_neg (by omega), if_pos (by omega), if_neg (by omega), if_pos (by omega), if_neg (by omega)]
set_option maxRecDepth 10000 in
theorem fld_22 (d n m a c imm q d' n' m' a' c' imm' q' : Int) (g : ((0 ≤ d ∧ d ≤ 31)) ∧ (n = 0) ∧ (m = 0) ∧ (a = 0) ∧ (c = 0) ∧ ((-1048576 ≤ imm ∧ imm ≤ 1048572) ∧ Int.tmod imm 4 = 0)) (hq : imm = 4 * q) (g' : ((0 ≤ d' ∧ d' ≤ 31)) ∧ (n' = 0) ∧ (m' = 0) ∧ (a' = 0) ∧ (c' = 0) ∧ ((-1048576 ≤ imm' ∧ imm' ≤ 1048572) ∧ Int.tmod imm' 4 = 0)) (hq' : imm' = 4 * q') (h : 3019898880 + (q % 524288) * 32 + d * 1 = 3019898880 + (q' % 524288) * 32 + d' * 1) : d = d' ∧ n = n' ∧ m = m' ∧ a = a' ∧ c = c' ∧ imm = imm' := by
  omega
set_option maxRecDepth 10000 in
theorem dec_23 (d n m a c imm q : Int) (g : ((0 ≤ d ∧ d ≤ 31)) ∧ (n = 0) ∧ (m = 0) ∧ (a = 0) ∧ (c = 0) ∧ ((-1048576 ≤ imm ∧ imm ≤ 1048572) ∧ Int.tmod imm 4 = 0)) (hq : imm = 4 * q) : opOf (3036676096 + (q % 524288) * 32 + d * 1) = 23 := by
  unfold opOf
  rw [if_neg (by omega), if_pos (by omega), if_neg (by omega), if_pos (by omega), if_pos (by omega)]
set_option maxRecDepth 10000 in
theorem fld_23 (d n m a c imm q d' n' m' a' c' imm' q' : Int) (g : ((0 ≤ d ∧ d ≤ 31)) ∧ (n = 0) ∧ (m = 0) ∧ (a = 0) ∧ (c = 0) ∧ ((-1048576 ≤ imm ∧ imm ≤ 1048572) ∧ Int.tmod imm 4 = 0)) (hq : imm = 4 * q) (g' : ((0 ≤ d' ∧ d' ≤ 31)) ∧ (n' = 0) ∧ (m' = 0) ∧ (a' = 0) ∧ (c' = 0) ∧ ((-1048576 ≤ imm' ∧ imm' ≤ 1048572) ∧ Int.tmod imm' 4 = 0)) (hq' : imm' = 4 * q') (h : 3036676096 + (q % 524288) * 32 + d * 1 = 3036676096 + (q' % 524288) * 32 + d' * 1) : d = d' ∧ n = n' ∧ m = m' ∧ a = a' ∧ c = c' ∧ imm = imm' := by
  omega
set_option maxRecDepth 10000 in
theorem dec_24 (d n m a c imm q : Int) (g : (d = 0) ∧ (n = 0) ∧ (m = 0) ∧ (a = 0) ∧ (c = 0) ∧ ((-134217728 ≤ imm ∧ imm ≤ 134217724) ∧ Int.tmod imm 4 = 0)) (hq : imm = 4 * q) : opOf (2483027968 + (q % 67108864) * 1) = 24 := by
  unfold opOf
  rw [if_neg (by omega), if_pos (by omega), if_neg (by omega), if_neg (by omega), if_pos (by omega)]
set_option maxRecDepth 10000 in
theorem fld_24 (d n m a c imm q d' n' m' a' c' imm' q' : Int) (g : (d = 0) ∧ (n = 0) ∧ (m = 0) ∧ (a = 0) ∧ (c = 0) ∧ ((-134217728 ≤ imm ∧ imm ≤ 134217724) ∧ Int.tmod imm 4 = 0)) (hq : imm = 4 * q) (g' : (d' = 0) ∧ (n' = 0) ∧ (m' = 0) ∧ (a' = 0) ∧ (c' = 0) ∧ ((-134217728 ≤ imm' ∧ imm' ≤ 134217724) ∧ Int.tmod imm' 4 = 0)) (hq' : imm' = 4 * q') (h : 2483027968 + (q % 67108864) * 1 = 2483027968 + (q' % 67108864) * 1) : d = d' ∧ n = n' ∧ m = m' ∧ a = a' ∧ c = c' ∧ imm = imm' := by
  omega
set_option maxRecDepth 10000 in
theorem dec_25 (d n m a c imm : Int) (g : (d = 0) ∧ ((0 ≤ n ∧ n ≤ 31)) ∧ (m = 0) ∧ (a = 0) ∧ (c = 0) ∧ (imm = 0)) : opOf (3592355840 + n * 32) = 25 := by
  unfold opOf
  rw [if_neg (by omega), if_pos (by omega), if_pos (by omega), if_neg (by omega), if_pos (by omega), if_neg (by omega), if_neg (by omega)]
set_option maxRecDepth 10000 in
theorem fld_25 (d n m a c imm d' n' m' a' c' imm' : Int) (g : (d = 0) ∧ ((0 ≤ n ∧ n ≤ 31)) ∧ (m = 0) ∧ (a = 0) ∧ (c = 0) ∧ (imm = 0)) (g' : (d' = 0) ∧ ((0 ≤ n' ∧ n' ≤ 31)) ∧ (m' = 0) ∧ (a' = 0) ∧ (c' = 0) ∧ (imm' = 0)) (h : 3592355840 + n * 32 = 3592355840 + n' * 32) : d = d' ∧ n = n' ∧ m = m' ∧ a = a' ∧ c = c' ∧ imm = imm' := by
  omega
set_option maxRecDepth 10000 in
theorem dec_26 (d n m a c imm : Int) (g : (d = 0) ∧ ((0 ≤ n ∧ n ≤ 31)) ∧ (m = 0) ∧ (a = 0) ∧ (c = 0) ∧ (imm = 0)) : opOf (3594452992 + n * 32) = 26 := by
  unfold opOf
  rw [if_neg (by omega), if_pos (by omega), if_pos (by omega), if_neg (by omega), if_pos (by omega), if_pos (by omega)]
set_option maxRecDepth 10000 in
theorem fld_26 (d n m a c imm d' n' m' a' c' imm' : Int) (g : (d = 0) ∧ ((0 ≤ n ∧ n ≤ 31)) ∧ (m = 0) ∧ (a = 0) ∧ (c = 0) ∧ (imm = 0)) (g' : (d' = 0) ∧ ((0 ≤ n' ∧ n' ≤ 31)) ∧ (m' = 0) ∧ (a' = 0) ∧ (c' = 0) ∧ (imm' = 0)) (h : 3594452992 + n * 32 = 3594452992 + n' * 32) : d = d' ∧ n = n' ∧ m = m' ∧ a = a' ∧ c = c' ∧ imm = imm' := by
  omega
set_option maxRecDepth 10000 in
theorem dec_27 (d n m a c imm : Int) (g : (d = 0) ∧ ((0 ≤ n ∧ n ≤ 31)) ∧ (m = 0) ∧ (a = 0) ∧ (c = 0) ∧ (imm = 0)) : opOf (3596550144 + n * 32) = 27 := by
  unfold opOf
  rw [if_neg (by omega), if_pos (by omega), if_pos (by omega), if_neg (by omega), if_pos (by omega), if_neg (by omega), if_pos (by omega)]
set_option maxRecDepth 10000 in
theorem fld_27 (d n m a c imm d' n' m' a' c' imm' : Int) (g : (d = 0) ∧ ((0 ≤ n ∧ n ≤ 31)) ∧ (m = 0) ∧ (a = 0) ∧ (c = 0) ∧ (imm = 0)) (g' : (d' = 0) ∧ ((0 ≤ n' ∧ n' ≤ 31)) ∧ (m' = 0) ∧ (a' = 0) ∧ (c' = 0) ∧ (imm' = 0)) (h : 3596550144 + n * 32 = 3596550144 + n' * 32) : d = d' ∧ n = n' ∧ m = m' ∧ a = a' ∧ c = c' ∧ imm = imm' := by
  omega
set_option maxRecDepth 10000 in
theorem dec_28 (d n m a c imm q : Int) (g : ((0 ≤ d ∧ d ≤ 31)) ∧ ((0 ≤ n ∧ n ≤ 31)) ∧ (m = 0) ∧ (a = 0) ∧ (c = 0) ∧ ((0 ≤ imm ∧ imm ≤ 32760) ∧ Int.tmod imm 8 = 0)) (hq : imm = 8 * q) : opOf (4181721088 + q * 1024 + n * 32 + d * 1) = 28 := by
  unfold opOf
  rw [if_pos (by omega), if_pos (by omega), if_pos (by omega), if_pos (by omega), if_pos (by omega)]
set_option maxRecDepth 10000 in
theorem fld_28 (d n m a c imm q d' n' m' a' c' imm' q' : Int) (g : ((0 ≤ d ∧ d ≤ 31)) ∧ ((0 ≤ n ∧ n ≤ 31)) ∧ (m = 0) ∧ (a = 0) ∧ (c = 0) ∧ ((0 ≤ imm ∧ imm ≤ 32760) ∧ Int.tmod imm 8 = 0)) (hq : imm = 8 * q) (g' : ((0 ≤ d' ∧ d' ≤ 31)) ∧ ((0 ≤ n' ∧ n' ≤ 31)) ∧ (m' = 0) ∧ (a' = 0) ∧ (c' = 0) ∧ ((0 ≤ imm' ∧ imm' ≤ 32760) ∧ Int.tmod imm' 8 = 0)) (hq' : imm' = 8 * q') (h : 4181721088 + q * 1024 + n * 32 + d * 1 = 4181721088 + q' * 1024 + n' * 32 + d' * 1) : d = d' ∧ n = n' ∧ m = m' ∧ a = a' ∧ c = c' ∧ imm = imm' := by
  omega
set_option maxRecDepth 10000 in
theorem dec_29 (d n m a c imm q : Int) (g : ((0 ≤ d ∧ d ≤ 31)) ∧ ((0 ≤ n ∧ n ≤ 31)) ∧ (m = 0) ∧ (a = 0) ∧ (c = 0) ∧ ((0 ≤ imm ∧ imm ≤ 32760) ∧ Int.tmod imm 8 = 0)) (hq : imm = 8 * q) : opOf (4177526784 + q * 1024 + n * 32 + d * 1) = 29 := by
  unfold opOf
  rw [if_pos (by omega), if_pos (by omega), if_pos (by omega), if_neg (by omega), if_pos (by omega), if_neg (by omega)]
set_option maxRecDepth 10000 in
theorem fld_29 (d n m a c imm q d' n' m' a' c' imm' q' : Int) (g : ((0 ≤ d ∧ d ≤ 31)) ∧ ((0 ≤ n ∧ n ≤ 31)) ∧ (m = 0) ∧ (a = 0) ∧ (c = 0) ∧ ((0 ≤ imm ∧ imm ≤ 32760) ∧ Int.tmod imm 8 = 0)) (hq : imm = 8 * q) (g' : ((0 ≤ d' ∧ d' ≤ 31)) ∧ ((0 ≤ n' ∧ n' ≤ 31)) ∧ (m' = 0) ∧ (a' = 0) ∧ (c' = 0) ∧ ((0 ≤ imm' ∧ imm' ≤ 32760) ∧ Int.tmod imm' 8 = 0)) (hq' : imm' = 8 * q') (h : 4177526784 + q * 1024 + n * 32 + d * 1 = 4177526784 + q' * 1024 + n' * 32 + d' * 1) : d = d' ∧ n = n' ∧ m = m' ∧ a = a' ∧ c = c' ∧ imm = imm' := by
  omega
set_option maxRecDepth 10000 in
theorem dec_30 (d n m a c imm : Int) (g : ((0 ≤ d ∧ d ≤ 31)) ∧ ((0 ≤ n ∧ n ≤ 31)) ∧ (m = 0) ∧ (a = 0) ∧ (c = 0) ∧ (0 ≤ imm ∧ imm ≤ 4095)) : opOf (960495616 + imm * 1024 + n * 32 + d * 1) = 30 := by
  unfold opOf
  rw [if_pos (by omega), if_neg (by omega), if_pos (by omega), if_neg (by omega)]
set_option maxRecDepth 10000 in
theorem fld_30 (d n m a c imm d' n' m' a' c' imm' : Int) (g : ((0 ≤ d ∧ d ≤ 31)) ∧ ((0 ≤ n ∧ n ≤ 31)) ∧ (m = 0) ∧ (a = 0) ∧ (c = 0) ∧ (0 ≤ imm ∧ imm ≤ 4095)) (g' : ((0 ≤ d' ∧ d' ≤ 31)) ∧ ((0 ≤ n' ∧ n' ≤ 31)) ∧ (m' = 0) ∧ (a' = 0) ∧ (c' = 0) ∧ (0 ≤ imm' ∧ imm' ≤ 4095)) (h : 960495616 + imm * 1024 + n * 32 + d * 1 = 960495616 + imm' * 1024 + n' * 32 + d' * 1) : d = d' ∧ n = n' ∧ m = m' ∧ a = a' ∧ c = c' ∧ imm = imm' := by
  omega
set_option maxRecDepth 10000 in
theorem dec_31 (d n m a c imm : Int) (g : ((0 ≤ d ∧ d ≤ 31)) ∧ ((0 ≤ n ∧ n ≤ 31)) ∧ ((0 ≤ m ∧ m ≤ 31)) ∧ (a = 0) ∧ (c = 0) ∧ (imm = 0)) : opOf (4167071744 + m * 65536 + n * 32 + d * 1) = 31 := by
  unfold opOf
  rw [if_pos (by omega), if_pos (by omega), if_pos (by omega), if_pos (by omega), if_neg (by omega)]
set_option maxRecDepth 10000 in
theorem fld_31 (d n m a c imm d' n' m' a' c' imm' : Int) (g : ((0 ≤ d ∧ d ≤ 31)) ∧ ((0 ≤ n ∧ n ≤ 31)) ∧ ((0 ≤ m ∧ m ≤ 31)) ∧ (a = 0) ∧ (c = 0) ∧ (imm = 0)) (g' : ((0 ≤ d' ∧ d' ≤ 31)) ∧ ((0 ≤ n' ∧ n' ≤ 31)) ∧ ((0 ≤ m' ∧ m' ≤ 31)) ∧ (a' = 0) ∧ (c' = 0) ∧ (imm' = 0)) (h : 4167071744 + m * 65536 + n * 32 + d * 1 = 4167071744 + m' * 65536 + n' * 32 + d' * 1) : d = d' ∧ n = n' ∧ m = m' ∧ a = a' ∧ c = c' ∧ imm = imm' := by
  omega
set_option maxRecDepth 10000 in
theorem dec_32 (d n m a c imm : Int) (g : ((0 ≤ d ∧ d ≤ 31)) ∧ ((0 ≤ n ∧ n ≤ 31)) ∧ ((0 ≤ m ∧ m ≤ 31)) ∧ (a = 0) ∧ (c = 0) ∧ (imm = 0)) : opOf (4162877440 + m * 65536 + n * 32 + d * 1) = 32 := by
  unfold opOf
  rw [if_pos (by omega), if_pos (by omega), if_pos (by omega), if_neg (by omega), if_neg (by omega)]
set_option maxRecDepth 10000 in
theorem fld_32 (d n m a c imm d' n' m' a' c' imm' : Int) (g : ((0 ≤ d ∧ d ≤ 31)) ∧ ((0 ≤ n ∧ n ≤ 31)) ∧ ((0 ≤ m ∧ m ≤ 31)) ∧ (a = 0) ∧ (c = 0) ∧ (imm = 0)) (g' : ((0 ≤ d' ∧ d' ≤ 31)) ∧ ((0 ≤ n' ∧ n' ≤ 31)) ∧ ((0 ≤ m' ∧ m' ≤ 31)) ∧ (a' = 0) ∧ (c' = 0) ∧ (imm' = 0)) (h : 4162877440 + m * 65536 + n * 32 + d * 1 = 4162877440 + m' * 65536 + n' * 32 + d' * 1) : d = d' ∧ n = n' ∧ m = m' ∧ a = a' ∧ c = c' ∧ imm = imm' := by
  omega
set_option maxRecDepth 10000 in
theorem dec_33 (d n m a c imm : Int) (g : ((0 ≤ d ∧ d ≤ 31)) ∧ ((0 ≤ n ∧ n ≤ 31)) ∧ (m = 0) ∧ (a = 0) ∧ (c = 0) ∧ (imm = 0)) : opOf (3370122240 + n * 32 + d * 1) = 33 := by
  unfold opOf
  rw [if_pos (by omega), if_pos (by omega), if_neg (by omega), if_pos (by omega), if_pos (by omega), if_pos (by omega)]
set_option maxRecDepth 10000 in
theorem fld_33 (d n m a c imm d' n' m' a' c' imm' : Int) (g : ((0 ≤ d ∧ d ≤ 31)) ∧ ((0 ≤ n ∧ n ≤ 31)) ∧ (m = 0) ∧ (a = 0) ∧ (c = 0) ∧ (imm = 0)) (g' : ((0 ≤ d' ∧ d' ≤ 31)) ∧ ((0 ≤ n' ∧ n' ≤ 31)) ∧ (m' = 0) ∧ (a' = 0) ∧ (c' = 0) ∧ (imm' = 0)) (h : 3370122240 + n * 32 + d * 1 = 3370122240 + n' * 32 + d' * 1) : d = d' ∧ n = n' ∧ m = m' ∧ a = a' ∧ c = c' ∧ imm = imm' := by
  omega
set_option maxRecDepth 10000 in
theorem dec_34 (d n m a c imm : Int) (g : ((0 ≤ d ∧ d ≤ 31)) ∧ ((0 ≤ n ∧ n ≤ 31)) ∧ (m = 0) ∧ (a = 0) ∧ (c = 0) ∧ (imm = 0)) : opOf (3365927936 + n * 32 + d * 1) = 34 := by
  unfold opOf
  rw [if_pos (by omega), if_pos (by omega), if_neg (by omega), if_pos (by omega), if_pos (by omega), if_neg (by omega)]
set_option maxRecDepth 10000 in
theorem fld_34 (d n m a c imm d' n' m' a' c' imm' : Int) (g : ((0 ≤ d ∧ d ≤ 31)) ∧ ((0 ≤ n ∧ n ≤ 31)) ∧ (m = 0) ∧ (a = 0) ∧ (c = 0) ∧ (imm = 0)) (g' : ((0 ≤ d' ∧ d' ≤ 31)) ∧ ((0 ≤ n' ∧ n' ≤ 31)) ∧ (m' = 0) ∧ (a' = 0) ∧ (c' = 0) ∧ (imm' = 0)) (h : 3365927936 + n * 32 + d * 1 = 3365927936 + n' * 32 + d' * 1) : d = d' ∧ n = n' ∧ m = m' ∧ a = a' ∧ c = c' ∧ imm = imm' := by
  omega
set_option maxRecDepth 10000 in
theorem dec_35 (d n m a c imm : Int) (g : ((0 ≤ d ∧ d ≤ 31)) ∧ ((0 ≤ n ∧ n ≤ 31)) ∧ (m = 0) ∧ (a = 0) ∧ (c = 0) ∧ (imm = 0)) : opOf (3361700864 + n * 32 + d * 1) = 35 := by
  unfold opOf
  rw [if_pos (by omega), if_pos (by omega), if_neg (by omega), if_pos (by omega), if_neg (by omega), if_pos (by omega)]
set_option maxRecDepth 10000 in
theorem fld_35 (d n m a c imm d' n' m' a' c' imm' : Int) (g : ((0 ≤ d ∧ d ≤ 31)) ∧ ((0 ≤ n ∧ n ≤ 31)) ∧ (m = 0) ∧ (a = 0) ∧ (c = 0) ∧ (imm = 0)) (g' : ((0 ≤ d' ∧ d' ≤ 31)) ∧ ((0 ≤ n' ∧ n' ≤ 31)) ∧ (m' = 0) ∧ (a' = 0) ∧ (c' = 0) ∧ (imm' = 0)) (h : 3361700864 + n * 32 + d * 1 = 3361700864 + n' * 32 + d' * 1) : d = d' ∧ n = n' ∧ m = m' ∧ a = a' ∧ c = c' ∧ imm = imm' := by
  omega
set_option maxRecDepth 10000 in
theorem dec_36 (d n m a c imm : Int) (g : ((0 ≤ d ∧ d ≤ 31)) ∧ ((0 ≤ n ∧ n ≤ 31)) ∧ ((0 ≤ m ∧ m ≤ 31)) ∧ (a = 0) ∧ (c = 0) ∧ (imm = 0)) : opOf (3355474944 + d * 65536 + n * 32 + m * 1) = 36 := by
  unfold opOf
  rw [if_pos (by omega), if_pos (by omega), if_neg (by omega), if_pos (by omega), if_neg (by omega), if_neg (by omega)]
set_option maxRecDepth 10000 in
theorem fld_36 (d n m a c imm d' n' m' a' c' imm' : Int) (g : ((0 ≤ d ∧ d ≤ 31)) ∧ ((0 ≤ n ∧ n ≤ 31)) ∧ ((0 ≤ m ∧ m ≤ 31)) ∧ (a = 0) ∧ (c = 0) ∧ (imm = 0)) (g' : ((0 ≤ d' ∧ d' ≤ 31)) ∧ ((0 ≤ n' ∧ n' ≤ 31)) ∧ ((0 ≤ m' ∧ m' ≤ 31)) ∧ (a' = 0) ∧ (c' = 0) ∧ (imm' = 0)) (h : 3355474944 + d * 65536 + n * 32 + m * 1 = 3355474944 + d' * 65536 + n' * 32 + m' * 1) : d = d' ∧ n = n' ∧ m = m' ∧ a = a' ∧ c = c' ∧ imm = imm' := by
  omega
set_option maxRecDepth 10000 in
theorem dec_38 (d n m a c imm : Int) (g : (d = 0) ∧ (n = 0) ∧ (m = 0) ∧ (a = 0) ∧ (c = 0) ∧ (imm = 0)) : opOf (3573758879) = 38 := by
  unfold opOf
  rw [if_neg (by omega), if_pos (by omega), if_pos (by omega), if_pos (by omega), if_neg (by omega), if_neg (by omega), if_pos (by omega)]
set_option maxRecDepth 10000 in
theorem fld_38 (d n m a c imm d' n' m' a' c' imm' : Int) (g : (d = 0) ∧ (n = 0) ∧ (m = 0) ∧ (a = 0) ∧ (c = 0) ∧ (imm = 0)) (g' : (d' = 0) ∧ (n' = 0) ∧ (m' = 0) ∧ (a' = 0) ∧ (c' = 0) ∧ (imm' = 0)) (h : 3573758879 = 3573758879) : d = d' ∧ n = n' ∧ m = m' ∧ a = a' ∧ c = c' ∧ imm = imm' := by
  omega
set_option maxRecDepth 10000 in
theorem dec_39 (d n m a c imm : Int) (g : (d = 0) ∧ (n = 0) ∧ (m = 0) ∧ (a = 0) ∧ (c = 0) ∧ (imm = 0)) : opOf (3573759967) = 39 := by
  unfold opOf
  rw [if_neg (by omega), if_pos (by omega), if_pos (by omega), if_pos (by omega), if_neg (by omega), if_pos (by omega)]
set_option maxRecDepth 10000 in
theorem fld_39 (d n m a c imm d' n' m' a' c' imm' : Int) (g : (d = 0) ∧ (n = 0) ∧ (m = 0) ∧ (a = 0) ∧ (c = 0) ∧ (imm = 0)) (g' : (d' = 0) ∧ (n' = 0) ∧ (m' = 0) ∧ (a' = 0) ∧ (c' = 0) ∧ (imm' = 0)) (h : 3573759967 = 3573759967) : d = d' ∧ n = n' ∧ m = m' ∧ a = a' ∧ c = c' ∧ imm = imm' := by
  omega
set_option maxRecDepth 10000 in
theorem dec_40 (d n m a c imm : Int) (g : (d = 0) ∧ ((0 ≤ n ∧ n ≤ 31)) ∧ (m = 0) ∧ (a = 0) ∧ (c = 0) ∧ (imm = 0)) : opOf (3574299424 + n * 1) = 40 := by
  unfold opOf
  rw [if_neg (by omega), if_pos (by omega), if_pos (by omega), if_pos (by omega), if_pos (by omega), if_neg (by omega), if_pos (by omega)]
set_option maxRecDepth 10000 in
theorem fld_40 (d n m a c imm d' n' m' a' c' imm' : Int) (g : (d = 0) ∧ ((0 ≤ n ∧ n ≤ 31)) ∧ (m = 0) ∧ (a = 0) ∧ (c = 0) ∧ (imm = 0)) (g' : (d' = 0) ∧ ((0 ≤ n' ∧ n' ≤ 31)) ∧ (m' = 0) ∧ (a' = 0) ∧ (c' = 0) ∧ (imm' = 0)) (h : 3574299424 + n * 1 = 3574299424 + n' * 1) : d = d' ∧ n = n' ∧ m = m' ∧ a = a' ∧ c = c' ∧ imm = imm' := by
  omega
set_option maxRecDepth 10000 in
theorem dec_41 (d n m a c imm : Int) (g : (d = 0) ∧ ((0 ≤ n ∧ n ≤ 31)) ∧ (m = 0) ∧ (a = 0) ∧ (c = 0) ∧ (imm = 0)) : opOf (3574297888 + n * 1) = 41 := by
  unfold opOf
  rw [if_neg (by omega), if_pos (by omega), if_pos (by omega), if_pos (by omega), if_pos (by omega), if_neg (by omega), if_neg (by omega)]
set_option maxRecDepth 10000 in
theorem fld_41 (d n m a c imm d' n' m' a' c' imm' : Int) (g : (d = 0) ∧ ((0 ≤ n ∧ n ≤ 31)) ∧ (m = 0) ∧ (a = 0) ∧ (c = 0) ∧ (imm = 0)) (g' : (d' = 0) ∧ ((0 ≤ n' ∧ n' ≤ 31)) ∧ (m' = 0) ∧ (a' = 0) ∧ (c' = 0) ∧ (imm' = 0)) (h : 3574297888 + n * 1 = 3574297888 + n' * 1) : d = d' ∧ n = n' ∧ m = m' ∧ a = a' ∧ c = c' ∧ imm = imm' := by
  omega
set_option maxRecDepth 10000 in
theorem dec_42 (d n m a c imm : Int) (g : (d = 0) ∧ (n = 0) ∧ (m = 0) ∧ (a = 0) ∧ (c = 0) ∧ (0 ≤ imm ∧ imm ≤ 65535)) : opOf (3556769793 + imm * 32) = 42 := by
  unfold opOf
  rw [if_neg (by omega), if_pos (by omega), if_pos (by omega), if_neg (by omega), if_neg (by omega), if_pos (by omega)]
set_option maxRecDepth 10000 in
theorem fld_42 (d n m a c imm d' n' m' a' c' imm' : Int) (g : (d = 0) ∧ (n = 0) ∧ (m = 0) ∧ (a = 0) ∧ (c = 0) ∧ (0 ≤ imm ∧ imm ≤ 65535)) (g' : (d' = 0) ∧ (n' = 0) ∧ (m' = 0) ∧ (a' = 0) ∧ (c' = 0) ∧ (0 ≤ imm' ∧ imm' ≤ 65535)) (h : 3556769793 + imm * 32 = 3556769793 + imm' * 32) : d = d' ∧ n = n' ∧ m = m' ∧ a = a' ∧ c = c' ∧ imm = imm' := by
  omega
theorem good_of {op d n m a c imm w : Int} (h : enc_Word.f op d n m a c imm = some (w, 0)) : a64_Check.f 40 op d n m a c imm = some 0 := by
  unfold enc_Word.f at h
  obtain ⟨e, he, h⟩ := Option.bind_eq_some_iff.1 h
  by_cases h0 : e = 0
  · rw [he, h0]
  · rw [if_neg h0] at h
    exact absurd (congrArg Prod.snd (Option.some.inj h)) h0
theorem dec {op d n m a c imm w : Int} (h : enc_Word.f op d n m a c imm = some (w, 0)) : opOf w = op := by
  have hk := good_of h
  obtain ⟨o1, o2⟩ := chk_some op d n m a c imm 0 hk
  have hc : op = 0 ∨ op = 1 ∨ op = 2 ∨ op = 3 ∨ op = 4 ∨ op = 5 ∨ op = 6 ∨ op = 7 ∨ op = 8 ∨ op = 9 ∨ op = 10 ∨ op = 11 ∨ op = 12 ∨ op = 13 ∨ op = 14 ∨ op = 15 ∨ op = 16 ∨ op = 17 ∨ op = 18 ∨ op = 19 ∨ op = 20 ∨ op = 21 ∨ op = 22 ∨ op = 23 ∨ op = 24 ∨ op = 25 ∨ op = 26 ∨ op = 27 ∨ op = 28 ∨ op = 29 ∨ op = 30 ∨ op = 31 ∨ op = 32 ∨ op = 33 ∨ op = 34 ∨ op = 35 ∨ op = 36 ∨ op = 37 ∨ op = 38 ∨ op = 39 ∨ op = 40 ∨ op = 41 ∨ op = 42 := by omega
  rcases hc with rfl | rfl | rfl | rfl | rfl | rfl | rfl | rfl | rfl | rfl | rfl | rfl | rfl | rfl | rfl | rfl | rfl | rfl | rfl | rfl | rfl | rfl | rfl | rfl | rfl | rfl | rfl | rfl | rfl | rfl | rfl | rfl | rfl | rfl | rfl | rfl | rfl | rfl | rfl | rfl | rfl | rfl | rfl
  ·
    have hk2 := chk_0 0 d n m a c imm
    rw [Nat.zero_add, hk] at hk2
    split at hk2
    case isFalse => exact absurd (Option.some.inj hk2) (by omega)
    rename_i g
    obtain ⟨rfl, _⟩ := Prod.mk.inj (Option.some.inj ((pval_0 d n m a c imm g).symm.trans h))
    exact dec_0 d n m a c imm g
  ·
    have hk2 := chk_1 0 d n m a c imm
    rw [Nat.zero_add, hk] at hk2
    split at hk2
    case isFalse => exact absurd (Option.some.inj hk2) (by omega)
    rename_i g
    obtain ⟨rfl, _⟩ := Prod.mk.inj (Option.some.inj ((pval_1 d n m a c imm g).symm.trans h))
    exact dec_1 d n m a c imm g
  ·
    have hk2 := chk_2 0 d n m a c imm
    rw [Nat.zero_add, hk] at hk2
    split at hk2
    case isFalse => exact absurd (Option.some.inj hk2) (by omega)
    rename_i g
    obtain ⟨rfl, _⟩ := Prod.mk.inj (Option.some.inj ((pval_2 d n m a c imm g).symm.trans h))
    exact dec_2 d n m a c imm g
  ·
    have hk2 := chk_3 0 d n m a c imm
    rw [Nat.zero_add, hk] at hk2
    split at hk2
    case isFalse => exact absurd (Option.some.inj hk2) (by omega)
    rename_i g
    obtain ⟨rfl, _⟩ := Prod.mk.inj (Option.some.inj ((pval_3 d n m a c imm g).symm.trans h))
    exact dec_3 d n m a c imm g
  ·
    have hk2 := chk_4 0 d n m a c imm
    rw [Nat.zero_add, hk] at hk2
    split at hk2
    case isFalse => exact absurd (Option.some.inj hk2) (by omega)
    rename_i g
    obtain ⟨rfl, _⟩ := Prod.mk.inj (Option.some.inj ((pval_4 d n m a c imm g).symm.trans h))
    exact dec_4 d n m a c imm g
  ·
    have hk2 := chk_5 0 d n m a c imm
    rw [Nat.zero_add, hk] at hk2
    split at hk2
    case isFalse => exact absurd (Option.some.inj hk2) (by omega)
    rename_i g
    obtain ⟨rfl, _⟩ := Prod.mk.inj (Option.some.inj ((pval_5 d n m a c imm g).symm.trans h))
    exact dec_5 d n m a c imm g
  ·
    have hk2 := chk_6 0 d n m a c imm
    rw [Nat.zero_add, hk] at hk2
    split at hk2
    case isFalse => exact absurd (Option.some.inj hk2) (by omega)
    rename_i g
    obtain ⟨rfl, _⟩ := Prod.mk.inj (Option.some.inj ((pval_6 d n m a c imm g).symm.trans h))
    exact dec_6 d n m a c imm g
  ·
    have hk2 := chk_7 0 d n m a c imm
    rw [Nat.zero_add, hk] at hk2
    split at hk2
    case isFalse => exact absurd (Option.some.inj hk2) (by omega)
    rename_i g
    obtain ⟨rfl, _⟩ := Prod.mk.inj (Option.some.inj ((pval_7 d n m a c imm g).symm.trans h))
    exact dec_7 d n m a c imm g
  ·
    have hk2 := chk_8 0 d n m a c imm
    rw [Nat.zero_add, hk] at hk2
    split at hk2
    case isFalse => exact absurd (Option.some.inj hk2) (by omega)
    rename_i g
    obtain ⟨rfl, _⟩ := Prod.mk.inj (Option.some.inj ((pval_8 d n m a c imm g).symm.trans h))
    exact dec_8 d n m a c imm g
  ·
    have hk2 := chk_9 0 d n m a c imm
    rw [Nat.zero_add, hk] at hk2
    split at hk2
    case isFalse => exact absurd (Option.some.inj hk2) (by omega)
    rename_i g
    obtain ⟨rfl, _⟩ := Prod.mk.inj (Option.some.inj ((pval_9 d n m a c imm g).symm.trans h))
    exact dec_9 d n m a c imm g
  ·
    have hk2 := chk_10 0 d n m a c imm
    rw [Nat.zero_add, hk] at hk2
    split at hk2
    case isFalse => exact absurd (Option.some.inj hk2) (by omega)
    rename_i g
    obtain ⟨rfl, _⟩ := Prod.mk.inj (Option.some.inj ((pval_10 d n m a c imm g).symm.trans h))
    exact dec_10 d n m a c imm g
  ·
    have hk2 := chk_11 0 d n m a c imm
    rw [Nat.zero_add, hk] at hk2
    split at hk2
    case isFalse => exact absurd (Option.some.inj hk2) (by omega)
    rename_i g
    obtain ⟨rfl, _⟩ := Prod.mk.inj (Option.some.inj ((pval_11 d n m a c imm g).symm.trans h))
    exact dec_11 d n m a c imm g
  ·
    have hk2 := chk_12 0 d n m a c imm
    rw [Nat.zero_add, hk] at hk2
    split at hk2
    case isFalse => exact absurd (Option.some.inj hk2) (by omega)
    rename_i g
    obtain ⟨rfl, _⟩ := Prod.mk.inj (Option.some.inj ((pval_12 d n m a c imm g).symm.trans h))
    exact dec_12 d n m a c imm g
  ·
    have hk2 := chk_13 0 d n m a c imm
    rw [Nat.zero_add, hk] at hk2
    split at hk2
    case isFalse => exact absurd (Option.some.inj hk2) (by omega)
    rename_i g
    obtain ⟨rfl, _⟩ := Prod.mk.inj (Option.some.inj ((pval_13 d n m a c imm g).symm.trans h))
    exact dec_13 d n m a c imm g
  ·
    have hk2 := chk_14 0 d n m a c imm
    rw [Nat.zero_add, hk] at hk2
    split at hk2
    case isFalse => exact absurd (Option.some.inj hk2) (by omega)
    rename_i g
    obtain ⟨rfl, _⟩ := Prod.mk.inj (Option.some.inj ((pval_14 d n m a c imm g).symm.trans h))
    exact dec_14 d n m a c imm g
  ·
    have hk2 := chk_15 0 d n m a c imm
    rw [Nat.zero_add, hk] at hk2
    split at hk2
    case isFalse => exact absurd (Option.some.inj hk2) (by omega)
    rename_i g
    obtain ⟨rfl, _⟩ := Prod.mk.inj (Option.some.inj ((pval_15 d n m a c imm g).symm.trans h))
    exact dec_15 d n m a c imm g
  ·
    have hk2 := chk_16 0 d n m a c imm
    rw [Nat.zero_add, hk] at hk2
    split at hk2
    case isFalse => exact absurd (Option.some.inj hk2) (by omega)
    rename_i g
    obtain ⟨rfl, _⟩ := Prod.mk.inj (Option.some.inj ((pval_16 d n m a c imm g).symm.trans h))
    exact dec_16 d n m a c imm g
  ·
    have hk2 := chk_17 0 d n m a c imm
    rw [Nat.zero_add, hk] at hk2
    split at hk2
    case isFalse => exact absurd (Option.some.inj hk2) (by omega)
    rename_i g
    obtain ⟨rfl, _⟩ := Prod.mk.inj (Option.some.inj ((pval_17 d n m a c imm g).symm.trans h))
    exact dec_17 d n m a c imm g
  ·
    have hk2 := chk_18 0 d n m a c imm
    rw [Nat.zero_add, hk] at hk2
    split at hk2
    case isFalse => exact absurd (Option.some.inj hk2) (by omega)
    rename_i g
    obtain ⟨rfl, _⟩ := Prod.mk.inj (Option.some.inj ((pval_18 d n m a c imm g).symm.trans h))
    exact dec_18 d n m a c imm g
  ·
    have hk2 := chk_19 0 d n m a c imm
    rw [Nat.zero_add, hk] at hk2
    split at hk2
    case isFalse => exact absurd (Option.some.inj hk2) (by omega)
    rename_i g
    obtain ⟨rfl, _⟩ := Prod.mk.inj (Option.some.inj ((pval_19 d n m a c imm g).symm.trans h))
    exact dec_19 d n m a c imm g
  ·
    have hk2 := chk_20 0 d n m a c imm
    rw [Nat.zero_add, hk] at hk2
    split at hk2
    case isFalse => exact absurd (Option.some.inj hk2) (by omega)
    rename_i g
    have ht : Int.tmod imm 4 = 0 := by simp_all
    obtain ⟨q, hq, hq2⟩ := quo (b := 4) (by omega) ht
    obtain ⟨rfl, _⟩ := Prod.mk.inj (Option.some.inj ((pval_20 d n m a c imm q g hq hq2).symm.trans h))
    exact dec_20 d n m a c imm q g hq
  ·
    have hk2 := chk_21 0 d n m a c imm
    rw [Nat.zero_add, hk] at hk2
    split at hk2
    case isFalse => exact absurd (Option.some.inj hk2) (by omega)
    rename_i g
    have ht : Int.tmod imm 4 = 0 := by simp_all
    obtain ⟨q, hq, hq2⟩ := quo (b := 4) (by omega) ht
    obtain ⟨rfl, _⟩ := Prod.mk.inj (Option.some.inj ((pval_21 d n m a c imm q g hq hq2).symm.trans h))
    exact dec_21 d n m a c imm q g hq
  ·
    have hk2 := chk_22 0 d n m a c imm
    rw [Nat.zero_add, hk] at hk2
    split at hk2
    case isFalse => exact absurd (Option.some.inj hk2) (by omega)
    rename_i g
    have ht : Int.tmod imm 4 = 0 := by simp_all
    obtain ⟨q, hq, hq2⟩ := quo (b := 4) (by omega) ht
    obtain ⟨rfl, _⟩ := Prod.mk.inj (Option.some.inj ((pval_22 d n m a c imm q g hq hq2).symm.trans h))
    exact dec_22 d n m a c imm q g hq
  ·
    have hk2 := chk_23 0 d n m a c imm
    rw [Nat.zero_add, hk] at hk2
    split at hk2
    case isFalse => exact absurd (Option.some.inj hk2) (by omega)
    rename_i g
    have ht : Int.tmod imm 4 = 0 := by simp_all
    obtain ⟨q, hq, hq2⟩ := quo (b := 4) (by omega) ht
    obtain ⟨rfl, _⟩ := Prod.mk.inj (Option.some.inj ((pval_23 d n m a c imm q g hq hq2).symm.trans h))
    exact dec_23 d n m a c imm q g hq
  ·
    have hk2 := chk_24 0 d n m a c imm
    rw [Nat.zero_add, hk] at hk2
    split at hk2
    case isFalse => exact absurd (Option.some.inj hk2) (by omega)
    rename_i g
    have ht : Int.tmod imm 4 = 0 := by simp_all
    obtain ⟨q, hq, hq2⟩ := quo (b := 4) (by omega) ht
    obtain ⟨rfl, _⟩ := Prod.mk.inj (Option.some.inj ((pval_24 d n m a c imm q g hq hq2).symm.trans h))
    exact dec_24 d n m a c imm q g hq
  ·
    have hk2 := chk_25 0 d n m a c imm
    rw [Nat.zero_add, hk] at hk2
    split at hk2
    case isFalse => exact absurd (Option.some.inj hk2) (by omega)
    rename_i g
    obtain ⟨rfl, _⟩ := Prod.mk.inj (Option.some.inj ((pval_25 d n m a c imm g).symm.trans h))
    exact dec_25 d n m a c imm g
  ·
    have hk2 := chk_26 0 d n m a c imm
    rw [Nat.zero_add, hk] at hk2
    split at hk2
    case isFalse => exact absurd (Option.some.inj hk2) (by omega)
    rename_i g
    obtain ⟨rfl, _⟩ := Prod.mk.inj (Option.some.inj ((pval_26 d n m a c imm g).symm.trans h))
    exact dec_26 d n m a c imm g
  ·
    have hk2 := chk_27 0 d n m a c imm
    rw [Nat.zero_add, hk] at hk2
    split at hk2
    case isFalse => exact absurd (Option.some.inj hk2) (by omega)
    rename_i g
    obtain ⟨rfl, _⟩ := Prod.mk.inj (Option.some.inj ((pval_27 d n m a c imm g).symm.trans h))
    exact dec_27 d n m a c imm g
  ·
    have hk2 := chk_28 0 d n m a c imm
    rw [Nat.zero_add, hk] at hk2
    split at hk2
    case isFalse => exact absurd (Option.some.inj hk2) (by omega)
    rename_i g
    have ht : Int.tmod imm 8 = 0 := by simp_all
    obtain ⟨q, hq, hq2⟩ := quo (b := 8) (by omega) ht
    obtain ⟨rfl, _⟩ := Prod.mk.inj (Option.some.inj ((pval_28 d n m a c imm q g hq hq2).symm.trans h))
    exact dec_28 d n m a c imm q g hq
  ·
    have hk2 := chk_29 0 d n m a c imm
    rw [Nat.zero_add, hk] at hk2
    split at hk2
    case isFalse => exact absurd (Option.some.inj hk2) (by omega)
    rename_i g
    have ht : Int.tmod imm 8 = 0 := by simp_all
    obtain ⟨q, hq, hq2⟩ := quo (b := 8) (by omega) ht
    obtain ⟨rfl, _⟩ := Prod.mk.inj (Option.some.inj ((pval_29 d n m a c imm q g hq hq2).symm.trans h))
    exact dec_29 d n m a c imm q g hq
  ·
    have hk2 := chk_30 0 d n m a c imm
    rw [Nat.zero_add, hk] at hk2
    split at hk2
    case isFalse => exact absurd (Option.some.inj hk2) (by omega)
    rename_i g
    obtain ⟨rfl, _⟩ := Prod.mk.inj (Option.some.inj ((pval_30 d n m a c imm g).symm.trans h))
    exact dec_30 d n m a c imm g
  ·
    have hk2 := chk_31 0 d n m a c imm
    rw [Nat.zero_add, hk] at hk2
    split at hk2
    case isFalse => exact absurd (Option.some.inj hk2) (by omega)
    rename_i g
    obtain ⟨rfl, _⟩ := Prod.mk.inj (Option.some.inj ((pval_31 d n m a c imm g).symm.trans h))
    exact dec_31 d n m a c imm g
  ·
    have hk2 := chk_32 0 d n m a c imm
    rw [Nat.zero_add, hk] at hk2
    split at hk2
    case isFalse => exact absurd (Option.some.inj hk2) (by omega)
    rename_i g
    obtain ⟨rfl, _⟩ := Prod.mk.inj (Option.some.inj ((pval_32 d n m a c imm g).symm.trans h))
    exact dec_32 d n m a c imm g
  ·
    have hk2 := chk_33 0 d n m a c imm
    rw [Nat.zero_add, hk] at hk2
    split at hk2
    case isFalse => exact absurd (Option.some.inj hk2) (by omega)
    rename_i g
    obtain ⟨rfl, _⟩ := Prod.mk.inj (Option.some.inj ((pval_33 d n m a c imm g).symm.trans h))
    exact dec_33 d n m a c imm g
  ·
    have hk2 := chk_34 0 d n m a c imm
    rw [Nat.zero_add, hk] at hk2
    split at hk2
    case isFalse => exact absurd (Option.some.inj hk2) (by omega)
    rename_i g
    obtain ⟨rfl, _⟩ := Prod.mk.inj (Option.some.inj ((pval_34 d n m a c imm g).symm.trans h))
    exact dec_34 d n m a c imm g
  ·
    have hk2 := chk_35 0 d n m a c imm
    rw [Nat.zero_add, hk] at hk2
    split at hk2
    case isFalse => exact absurd (Option.some.inj hk2) (by omega)
    rename_i g
    obtain ⟨rfl, _⟩ := Prod.mk.inj (Option.some.inj ((pval_35 d n m a c imm g).symm.trans h))
    exact dec_35 d n m a c imm g
  ·
    have hk2 := chk_36 0 d n m a c imm
    rw [Nat.zero_add, hk] at hk2
    split at hk2
    case isFalse => exact absurd (Option.some.inj hk2) (by omega)
    rename_i g
    obtain ⟨rfl, _⟩ := Prod.mk.inj (Option.some.inj ((pval_36 d n m a c imm g).symm.trans h))
    exact dec_36 d n m a c imm g
  ·
    have hk2 := chk_37 0 d n m a c imm
    rw [Nat.zero_add, hk] at hk2
    split at hk2
    case isFalse => exact absurd (Option.some.inj hk2) (by omega)
    rename_i g
    have hi : imm = 0 ∨ imm = 1 ∨ imm = 2 := by omega
    obtain ⟨rfl, rfl, rfl, rfl, rfl, _⟩ := g
    rcases hi with rfl | rfl | rfl
    · obtain ⟨rfl, _⟩ := Prod.mk.inj (Option.some.inj ((pval_37_0).symm.trans h))
      rfl
    · obtain ⟨rfl, _⟩ := Prod.mk.inj (Option.some.inj ((pval_37_1).symm.trans h))
      rfl
    · obtain ⟨rfl, _⟩ := Prod.mk.inj (Option.some.inj ((pval_37_2).symm.trans h))
      rfl
  ·
    have hk2 := chk_38 0 d n m a c imm
    rw [Nat.zero_add, hk] at hk2
    split at hk2
    case isFalse => exact absurd (Option.some.inj hk2) (by omega)
    rename_i g
    obtain ⟨rfl, _⟩ := Prod.mk.inj (Option.some.inj ((pval_38 d n m a c imm g).symm.trans h))
    exact dec_38 d n m a c imm g
  ·
    have hk2 := chk_39 0 d n m a c imm
    rw [Nat.zero_add, hk] at hk2
    split at hk2
    case isFalse => exact absurd (Option.some.inj hk2) (by omega)
    rename_i g
    obtain ⟨rfl, _⟩ := Prod.mk.inj (Option.some.inj ((pval_39 d n m a c imm g).symm.trans h))
    exact dec_39 d n m a c imm g
  ·
    have hk2 := chk_40 0 d n m a c imm
    rw [Nat.zero_add, hk] at hk2
    split at hk2
    case isFalse => exact absurd (Option.some.inj hk2) (by omega)
    rename_i g
    obtain ⟨rfl, _⟩ := Prod.mk.inj (Option.some.inj ((pval_40 d n m a c imm g).symm.trans h))
    exact dec_40 d n m a c imm g
  ·
    have hk2 := chk_41 0 d n m a c imm
    rw [Nat.zero_add, hk] at hk2
    split at hk2
    case isFalse => exact absurd (Option.some.inj hk2) (by omega)
    rename_i g
    obtain ⟨rfl, _⟩ := Prod.mk.inj (Option.some.inj ((pval_41 d n m a c imm g).symm.trans h))
    exact dec_41 d n m a c imm g
  ·
    have hk2 := chk_42 0 d n m a c imm
    rw [Nat.zero_add, hk] at hk2
    split at hk2
    case isFalse => exact absurd (Option.some.inj hk2) (by omega)
    rename_i g
    obtain ⟨rfl, _⟩ := Prod.mk.inj (Option.some.inj ((pval_42 d n m a c imm g).symm.trans h))
    exact dec_42 d n m a c imm g
/-- No two right instructions have one word. -/
theorem one_word {op d n m a c imm op' d' n' m' a' c' imm' w : Int} (h : enc_Word.f op d n m a c imm = some (w, 0)) (h' : enc_Word.f op' d' n' m' a' c' imm' = some (w, 0)) :
    op = op' ∧ d = d' ∧ n = n' ∧ m = m' ∧ a = a' ∧ c = c' ∧ imm = imm' := by
  obtain rfl : op = op' := (dec h).symm.trans (dec h')
  refine ⟨rfl, ?_⟩
  have hk := good_of h
  have hk' := good_of h'
  obtain ⟨o1, o2⟩ := chk_some op d n m a c imm 0 hk
  have hc : op = 0 ∨ op = 1 ∨ op = 2 ∨ op = 3 ∨ op = 4 ∨ op = 5 ∨ op = 6 ∨ op = 7 ∨ op = 8 ∨ op = 9 ∨ op = 10 ∨ op = 11 ∨ op = 12 ∨ op = 13 ∨ op = 14 ∨ op = 15 ∨ op = 16 ∨ op = 17 ∨ op = 18 ∨ op = 19 ∨ op = 20 ∨ op = 21 ∨ op = 22 ∨ op = 23 ∨ op = 24 ∨ op = 25 ∨ op = 26 ∨ op = 27 ∨ op = 28 ∨ op = 29 ∨ op = 30 ∨ op = 31 ∨ op = 32 ∨ op = 33 ∨ op = 34 ∨ op = 35 ∨ op = 36 ∨ op = 37 ∨ op = 38 ∨ op = 39 ∨ op = 40 ∨ op = 41 ∨ op = 42 := by omega
  rcases hc with rfl | rfl | rfl | rfl | rfl | rfl | rfl | rfl | rfl | rfl | rfl | rfl | rfl | rfl | rfl | rfl | rfl | rfl | rfl | rfl | rfl | rfl | rfl | rfl | rfl | rfl | rfl | rfl | rfl | rfl | rfl | rfl | rfl | rfl | rfl | rfl | rfl | rfl | rfl | rfl | rfl | rfl | rfl
  ·
    have hk2 := chk_0 0 d n m a c imm
    rw [Nat.zero_add, hk] at hk2
    split at hk2
    case isFalse => exact absurd (Option.some.inj hk2) (by omega)
    rename_i g
    have hk'2 := chk_0 0 d' n' m' a' c' imm'
    rw [Nat.zero_add, hk'] at hk'2
    split at hk'2
    case isFalse => exact absurd (Option.some.inj hk'2) (by omega)
    rename_i g'
    have e := (pval_0 d n m a c imm g).symm.trans h
    have e' := (pval_0 d' n' m' a' c' imm' g').symm.trans h'
    have e2 := (Prod.mk.inj (Option.some.inj e)).1.trans (Prod.mk.inj (Option.some.inj e')).1.symm
    exact fld_0 d n m a c imm d' n' m' a' c' imm' g g' e2
  ·
    have hk2 := chk_1 0 d n m a c imm
    rw [Nat.zero_add, hk] at hk2
    split at hk2
    case isFalse => exact absurd (Option.some.inj hk2) (by omega)
    rename_i g
    have hk'2 := chk_1 0 d' n' m' a' c' imm'
    rw [Nat.zero_add, hk'] at hk'2
    split at hk'2
    case isFalse => exact absurd (Option.some.inj hk'2) (by omega)
    rename_i g'
    have e := (pval_1 d n m a c imm g).symm.trans h
    have e' := (pval_1 d' n' m' a' c' imm' g').symm.trans h'
    have e2 := (Prod.mk.inj (Option.some.inj e)).1.trans (Prod.mk.inj (Option.some.inj e')).1.symm
    exact fld_1 d n m a c imm d' n' m' a' c' imm' g g' rfl
  ·
    have hk2 := chk_2 0 d n m a c imm
    rw [Nat.zero_add, hk] at hk2
    split at hk2
    case isFalse => exact absurd (Option.some.inj hk2) (by omega)
    rename_i g
    have hk'2 := chk_2 0 d' n' m' a' c' imm'
    rw [Nat.zero_add, hk'] at hk'2
    split at hk'2
    case isFalse => exact absurd (Option.some.inj hk'2) (by omega)
    rename_i g'
    have e := (pval_2 d n m a c imm g).symm.trans h
    have e' := (pval_2 d' n' m' a' c' imm' g').symm.trans h'
    have e2 := (Prod.mk.inj (Option.some.inj e)).1.trans (Prod.mk.inj (Option.some.inj e')).1.symm
    exact fld_2 d n m a c imm d' n' m' a' c' imm' g g' e2
  ·
    have hk2 := chk_3 0 d n m a c imm
    rw [Nat.zero_add, hk] at hk2
    split at hk2
    case isFalse => exact absurd (Option.some.inj hk2) (by omega)
    rename_i g
    have hk'2 := chk_3 0 d' n' m' a' c' imm'
    rw [Nat.zero_add, hk'] at hk'2
    split at hk'2
    case isFalse => exact absurd (Option.some.inj hk'2) (by omega)
    rename_i g'
    have e := (pval_3 d n m a c imm g).symm.trans h
    have e' := (pval_3 d' n' m' a' c' imm' g').symm.trans h'
    have e2 := (Prod.mk.inj (Option.some.inj e)).1.trans (Prod.mk.inj (Option.some.inj e')).1.symm
    exact fld_3 d n m a c imm d' n' m' a' c' imm' g g' e2
  ·
    have hk2 := chk_4 0 d n m a c imm
    rw [Nat.zero_add, hk] at hk2
    split at hk2
    case isFalse => exact absurd (Option.some.inj hk2) (by omega)
    rename_i g
    have hk'2 := chk_4 0 d' n' m' a' c' imm'
    rw [Nat.zero_add, hk'] at hk'2
    split at hk'2
    case isFalse => exact absurd (Option.some.inj hk'2) (by omega)
    rename_i g'
    have e := (pval_4 d n m a c imm g).symm.trans h
    have e' := (pval_4 d' n' m' a' c' imm' g').symm.trans h'
    have e2 := (Prod.mk.inj (Option.some.inj e)).1.trans (Prod.mk.inj (Option.some.inj e')).1.symm
    exact fld_4 d n m a c imm d' n' m' a' c' imm' g g' e2
  ·
    have hk2 := chk_5 0 d n m a c imm
    rw [Nat.zero_add, hk] at hk2
    split at hk2
    case isFalse => exact absurd (Option.some.inj hk2) (by omega)
    rename_i g
    have hk'2 := chk_5 0 d' n' m' a' c' imm'
    rw [Nat.zero_add, hk'] at hk'2
    split at hk'2
    case isFalse => exact absurd (Option.some.inj hk'2) (by omega)
    rename_i g'
    have e := (pval_5 d n m a c imm g).symm.trans h
    have e' := (pval_5 d' n' m' a' c' imm' g').symm.trans h'
    have e2 := (Prod.mk.inj (Option.some.inj e)).1.trans (Prod.mk.inj (Option.some.inj e')).1.symm
    exact fld_5 d n m a c imm d' n' m' a' c' imm' g g' e2
  ·
    have hk2 := chk_6 0 d n m a c imm
    rw [Nat.zero_add, hk] at hk2
    split at hk2
    case isFalse => exact absurd (Option.some.inj hk2) (by omega)
    rename_i g
    have hk'2 := chk_6 0 d' n' m' a' c' imm'
    rw [Nat.zero_add, hk'] at hk'2
    split at hk'2
    case isFalse => exact absurd (Option.some.inj hk'2) (by omega)
    rename_i g'
    have e := (pval_6 d n m a c imm g).symm.trans h
    have e' := (pval_6 d' n' m' a' c' imm' g').symm.trans h'
    have e2 := (Prod.mk.inj (Option.some.inj e)).1.trans (Prod.mk.inj (Option.some.inj e')).1.symm
    exact fld_6 d n m a c imm d' n' m' a' c' imm' g g' e2
  ·
    have hk2 := chk_7 0 d n m a c imm
    rw [Nat.zero_add, hk] at hk2
    split at hk2
    case isFalse => exact absurd (Option.some.inj hk2) (by omega)
    rename_i g
    have hk'2 := chk_7 0 d' n' m' a' c' imm'
    rw [Nat.zero_add, hk'] at hk'2
    split at hk'2
    case isFalse => exact absurd (Option.some.inj hk'2) (by omega)
    rename_i g'
    have e := (pval_7 d n m a c imm g).symm.trans h
    have e' := (pval_7 d' n' m' a' c' imm' g').symm.trans h'
    have e2 := (Prod.mk.inj (Option.some.inj e)).1.trans (Prod.mk.inj (Option.some.inj e')).1.symm
    exact fld_7 d n m a c imm d' n' m' a' c' imm' g g' e2
  ·
    have hk2 := chk_8 0 d n m a c imm
    rw [Nat.zero_add, hk] at hk2
    split at hk2
    case isFalse => exact absurd (Option.some.inj hk2) (by omega)
    rename_i g
    have hk'2 := chk_8 0 d' n' m' a' c' imm'
    rw [Nat.zero_add, hk'] at hk'2
    split at hk'2
    case isFalse => exact absurd (Option.some.inj hk'2) (by omega)
    rename_i g'
    have e := (pval_8 d n m a c imm g).symm.trans h
    have e' := (pval_8 d' n' m' a' c' imm' g').symm.trans h'
    have e2 := (Prod.mk.inj (Option.some.inj e)).1.trans (Prod.mk.inj (Option.some.inj e')).1.symm
    exact fld_8 d n m a c imm d' n' m' a' c' imm' g g' e2
  ·
    have hk2 := chk_9 0 d n m a c imm
    rw [Nat.zero_add, hk] at hk2
    split at hk2
    case isFalse => exact absurd (Option.some.inj hk2) (by omega)
    rename_i g
    have hk'2 := chk_9 0 d' n' m' a' c' imm'
    rw [Nat.zero_add, hk'] at hk'2
    split at hk'2
    case isFalse => exact absurd (Option.some.inj hk'2) (by omega)
    rename_i g'
    have e := (pval_9 d n m a c imm g).symm.trans h
    have e' := (pval_9 d' n' m' a' c' imm' g').symm.trans h'
    have e2 := (Prod.mk.inj (Option.some.inj e)).1.trans (Prod.mk.inj (Option.some.inj e')).1.symm
    exact fld_9 d n m a c imm d' n' m' a' c' imm' g g' e2
  ·
    have hk2 := chk_10 0 d n m a c imm
    rw [Nat.zero_add, hk] at hk2
    split at hk2
    case isFalse => exact absurd (Option.some.inj hk2) (by omega)
    rename_i g
    have hk'2 := chk_10 0 d' n' m' a' c' imm'
    rw [Nat.zero_add, hk'] at hk'2
    split at hk'2
    case isFalse => exact absurd (Option.some.inj hk'2) (by omega)
    rename_i g'
    have e := (pval_10 d n m a c imm g).symm.trans h
    have e' := (pval_10 d' n' m' a' c' imm' g').symm.trans h'
    have e2 := (Prod.mk.inj (Option.some.inj e)).1.trans (Prod.mk.inj (Option.some.inj e')).1.symm
    exact fld_10 d n m a c imm d' n' m' a' c' imm' g g' e2
  ·
    have hk2 := chk_11 0 d n m a c imm
    rw [Nat.zero_add, hk] at hk2
    split at hk2
    case isFalse => exact absurd (Option.some.inj hk2) (by omega)
    rename_i g
    have hk'2 := chk_11 0 d' n' m' a' c' imm'
    rw [Nat.zero_add, hk'] at hk'2
    split at hk'2
    case isFalse => exact absurd (Option.some.inj hk'2) (by omega)
    rename_i g'
    have e := (pval_11 d n m a c imm g).symm.trans h
    have e' := (pval_11 d' n' m' a' c' imm' g').symm.trans h'
    have e2 := (Prod.mk.inj (Option.some.inj e)).1.trans (Prod.mk.inj (Option.some.inj e')).1.symm
    exact fld_11 d n m a c imm d' n' m' a' c' imm' g g' e2
  ·
    have hk2 := chk_12 0 d n m a c imm
    rw [Nat.zero_add, hk] at hk2
    split at hk2
    case isFalse => exact absurd (Option.some.inj hk2) (by omega)
    rename_i g
    have hk'2 := chk_12 0 d' n' m' a' c' imm'
    rw [Nat.zero_add, hk'] at hk'2
    split at hk'2
    case isFalse => exact absurd (Option.some.inj hk'2) (by omega)
    rename_i g'
    have e := (pval_12 d n m a c imm g).symm.trans h
    have e' := (pval_12 d' n' m' a' c' imm' g').symm.trans h'
    have e2 := (Prod.mk.inj (Option.some.inj e)).1.trans (Prod.mk.inj (Option.some.inj e')).1.symm
    exact fld_12 d n m a c imm d' n' m' a' c' imm' g g' e2
  ·
    have hk2 := chk_13 0 d n m a c imm
    rw [Nat.zero_add, hk] at hk2
    split at hk2
    case isFalse => exact absurd (Option.some.inj hk2) (by omega)
    rename_i g
    have hk'2 := chk_13 0 d' n' m' a' c' imm'
    rw [Nat.zero_add, hk'] at hk'2
    split at hk'2
    case isFalse => exact absurd (Option.some.inj hk'2) (by omega)
    rename_i g'
    have e := (pval_13 d n m a c imm g).symm.trans h
    have e' := (pval_13 d' n' m' a' c' imm' g').symm.trans h'
    have e2 := (Prod.mk.inj (Option.some.inj e)).1.trans (Prod.mk.inj (Option.some.inj e')).1.symm
    exact fld_13 d n m a c imm d' n' m' a' c' imm' g g' e2
  ·
    have hk2 := chk_14 0 d n m a c imm
    rw [Nat.zero_add, hk] at hk2
    split at hk2
    case isFalse => exact absurd (Option.some.inj hk2) (by omega)
    rename_i g
    have hk'2 := chk_14 0 d' n' m' a' c' imm'
    rw [Nat.zero_add, hk'] at hk'2
    split at hk'2
    case isFalse => exact absurd (Option.some.inj hk'2) (by omega)
    rename_i g'
    have e := (pval_14 d n m a c imm g).symm.trans h
    have e' := (pval_14 d' n' m' a' c' imm' g').symm.trans h'
    have e2 := (Prod.mk.inj (Option.some.inj e)).1.trans (Prod.mk.inj (Option.some.inj e')).1.symm
    exact fld_14 d n m a c imm d' n' m' a' c' imm' g g' e2
  ·
    have hk2 := chk_15 0 d n m a c imm
    rw [Nat.zero_add, hk] at hk2
    split at hk2
    case isFalse => exact absurd (Option.some.inj hk2) (by omega)
    rename_i g
    have hk'2 := chk_15 0 d' n' m' a' c' imm'
    rw [Nat.zero_add, hk'] at hk'2
    split at hk'2
    case isFalse => exact absurd (Option.some.inj hk'2) (by omega)
    rename_i g'
    have e := (pval_15 d n m a c imm g).symm.trans h
    have e' := (pval_15 d' n' m' a' c' imm' g').symm.trans h'
    have e2 := (Prod.mk.inj (Option.some.inj e)).1.trans (Prod.mk.inj (Option.some.inj e')).1.symm
    exact fld_15 d n m a c imm d' n' m' a' c' imm' g g' e2
  ·
    have hk2 := chk_16 0 d n m a c imm
    rw [Nat.zero_add, hk] at hk2
    split at hk2
    case isFalse => exact absurd (Option.some.inj hk2) (by omega)
    rename_i g
    have hk'2 := chk_16 0 d' n' m' a' c' imm'
    rw [Nat.zero_add, hk'] at hk'2
    split at hk'2
    case isFalse => exact absurd (Option.some.inj hk'2) (by omega)
    rename_i g'
    have e := (pval_16 d n m a c imm g).symm.trans h
    have e' := (pval_16 d' n' m' a' c' imm' g').symm.trans h'
    have e2 := (Prod.mk.inj (Option.some.inj e)).1.trans (Prod.mk.inj (Option.some.inj e')).1.symm
    exact fld_16 d n m a c imm d' n' m' a' c' imm' g g' e2
  ·
    have hk2 := chk_17 0 d n m a c imm
    rw [Nat.zero_add, hk] at hk2
    split at hk2
    case isFalse => exact absurd (Option.some.inj hk2) (by omega)
    rename_i g
    have hk'2 := chk_17 0 d' n' m' a' c' imm'
    rw [Nat.zero_add, hk'] at hk'2
    split at hk'2
    case isFalse => exact absurd (Option.some.inj hk'2) (by omega)
    rename_i g'
    have e := (pval_17 d n m a c imm g).symm.trans h
    have e' := (pval_17 d' n' m' a' c' imm' g').symm.trans h'
    have e2 := (Prod.mk.inj (Option.some.inj e)).1.trans (Prod.mk.inj (Option.some.inj e')).1.symm
    exact fld_17 d n m a c imm d' n' m' a' c' imm' g g' e2
  ·
    have hk2 := chk_18 0 d n m a c imm
    rw [Nat.zero_add, hk] at hk2
    split at hk2
    case isFalse => exact absurd (Option.some.inj hk2) (by omega)
    rename_i g
    have hk'2 := chk_18 0 d' n' m' a' c' imm'
    rw [Nat.zero_add, hk'] at hk'2
    split at hk'2
    case isFalse => exact absurd (Option.some.inj hk'2) (by omega)
    rename_i g'
    have e := (pval_18 d n m a c imm g).symm.trans h
    have e' := (pval_18 d' n' m' a' c' imm' g').symm.trans h'
    have e2 := (Prod.mk.inj (Option.some.inj e)).1.trans (Prod.mk.inj (Option.some.inj e')).1.symm
    exact fld_18 d n m a c imm d' n' m' a' c' imm' g g' e2
  ·
    have hk2 := chk_19 0 d n m a c imm
    rw [Nat.zero_add, hk] at hk2
    split at hk2
    case isFalse => exact absurd (Option.some.inj hk2) (by omega)
    rename_i g
    have hk'2 := chk_19 0 d' n' m' a' c' imm'
    rw [Nat.zero_add, hk'] at hk'2
    split at hk'2
    case isFalse => exact absurd (Option.some.inj hk'2) (by omega)
    rename_i g'
    have e := (pval_19 d n m a c imm g).symm.trans h
    have e' := (pval_19 d' n' m' a' c' imm' g').symm.trans h'
    have e2 := (Prod.mk.inj (Option.some.inj e)).1.trans (Prod.mk.inj (Option.some.inj e')).1.symm
    exact fld_19 d n m a c imm d' n' m' a' c' imm' g g' e2
  ·
    have hk2 := chk_20 0 d n m a c imm
    rw [Nat.zero_add, hk] at hk2
    split at hk2
    case isFalse => exact absurd (Option.some.inj hk2) (by omega)
    rename_i g
    have hk'2 := chk_20 0 d' n' m' a' c' imm'
    rw [Nat.zero_add, hk'] at hk'2
    split at hk'2
    case isFalse => exact absurd (Option.some.inj hk'2) (by omega)
    rename_i g'
    have ht : Int.tmod imm 4 = 0 := by simp_all
    obtain ⟨q, hq, hq2⟩ := quo (b := 4) (by omega) ht
    have ht' : Int.tmod imm' 4 = 0 := by simp_all
    obtain ⟨q', hq', hq2'⟩ := quo (b := 4) (by omega) ht'
    have e := (pval_20 d n m a c imm q g hq hq2).symm.trans h
    have e' := (pval_20 d' n' m' a' c' imm' q' g' hq' hq2').symm.trans h'
    have e2 := (Prod.mk.inj (Option.some.inj e)).1.trans (Prod.mk.inj (Option.some.inj e')).1.symm
    exact fld_20 d n m a c imm q d' n' m' a' c' imm' q' g hq g' hq' e2
  ·
    have hk2 := chk_21 0 d n m a c imm
    rw [Nat.zero_add, hk] at hk2
    split at hk2
    case isFalse => exact absurd (Option.some.inj hk2) (by omega)
    rename_i g
    have hk'2 := chk_21 0 d' n' m' a' c' imm'
    rw [Nat.zero_add, hk'] at hk'2
    split at hk'2
    case isFalse => exact absurd (Option.some.inj hk'2) (by omega)
    rename_i g'
    have ht : Int.tmod imm 4 = 0 := by simp_all
    obtain ⟨q, hq, hq2⟩ := quo (b := 4) (by omega) ht
    have ht' : Int.tmod imm' 4 = 0 := by simp_all
    obtain ⟨q', hq', hq2'⟩ := quo (b := 4) (by omega) ht'
    have e := (pval_21 d n m a c imm q g hq hq2).symm.trans h
    have e' := (pval_21 d' n' m' a' c' imm' q' g' hq' hq2').symm.trans h'
    have e2 := (Prod.mk.inj (Option.some.inj e)).1.trans (Prod.mk.inj (Option.some.inj e')).1.symm
    exact fld_21 d n m a c imm q d' n' m' a' c' imm' q' g hq g' hq' e2
  ·
    have hk2 := chk_22 0 d n m a c imm
    rw [Nat.zero_add, hk] at hk2
    split at hk2
    case isFalse => exact absurd (Option.some.inj hk2) (by omega)
    rename_i g
    have hk'2 := chk_22 0 d' n' m' a' c' imm'
    rw [Nat.zero_add, hk'] at hk'2
    split at hk'2
    case isFalse => exact absurd (Option.some.inj hk'2) (by omega)
    rename_i g'
    have ht : Int.tmod imm 4 = 0 := by simp_all
    obtain ⟨q, hq, hq2⟩ := quo (b := 4) (by omega) ht
    have ht' : Int.tmod imm' 4 = 0 := by simp_all
    obtain ⟨q', hq', hq2'⟩ := quo (b := 4) (by omega) ht'
    have e := (pval_22 d n m a c imm q g hq hq2).symm.trans h
    have e' := (pval_22 d' n' m' a' c' imm' q' g' hq' hq2').symm.trans h'
    have e2 := (Prod.mk.inj (Option.some.inj e)).1.trans (Prod.mk.inj (Option.some.inj e')).1.symm
    exact fld_22 d n m a c imm q d' n' m' a' c' imm' q' g hq g' hq' e2
  ·
    have hk2 := chk_23 0 d n m a c imm
    rw [Nat.zero_add, hk] at hk2
    split at hk2
    case isFalse => exact absurd (Option.some.inj hk2) (by omega)
    rename_i g
    have hk'2 := chk_23 0 d' n' m' a' c' imm'
    rw [Nat.zero_add, hk'] at hk'2
    split at hk'2
    case isFalse => exact absurd (Option.some.inj hk'2) (by omega)
    rename_i g'
    have ht : Int.tmod imm 4 = 0 := by simp_all
    obtain ⟨q, hq, hq2⟩ := quo (b := 4) (by omega) ht
    have ht' : Int.tmod imm' 4 = 0 := by simp_all
    obtain ⟨q', hq', hq2'⟩ := quo (b := 4) (by omega) ht'
    have e := (pval_23 d n m a c imm q g hq hq2).symm.trans h
    have e' := (pval_23 d' n' m' a' c' imm' q' g' hq' hq2').symm.trans h'
    have e2 := (Prod.mk.inj (Option.some.inj e)).1.trans (Prod.mk.inj (Option.some.inj e')).1.symm
    exact fld_23 d n m a c imm q d' n' m' a' c' imm' q' g hq g' hq' e2
  ·
    have hk2 := chk_24 0 d n m a c imm
    rw [Nat.zero_add, hk] at hk2
    split at hk2
    case isFalse => exact absurd (Option.some.inj hk2) (by omega)
    rename_i g
    have hk'2 := chk_24 0 d' n' m' a' c' imm'
    rw [Nat.zero_add, hk'] at hk'2
    split at hk'2
    case isFalse => exact absurd (Option.some.inj hk'2) (by omega)
    rename_i g'
    have ht : Int.tmod imm 4 = 0 := by simp_all
    obtain ⟨q, hq, hq2⟩ := quo (b := 4) (by omega) ht
    have ht' : Int.tmod imm' 4 = 0 := by simp_all
    obtain ⟨q', hq', hq2'⟩ := quo (b := 4) (by omega) ht'
    have e := (pval_24 d n m a c imm q g hq hq2).symm.trans h
    have e' := (pval_24 d' n' m' a' c' imm' q' g' hq' hq2').symm.trans h'
    have e2 := (Prod.mk.inj (Option.some.inj e)).1.trans (Prod.mk.inj (Option.some.inj e')).1.symm
    exact fld_24 d n m a c imm q d' n' m' a' c' imm' q' g hq g' hq' e2
  ·
    have hk2 := chk_25 0 d n m a c imm
    rw [Nat.zero_add, hk] at hk2
    split at hk2
    case isFalse => exact absurd (Option.some.inj hk2) (by omega)
    rename_i g
    have hk'2 := chk_25 0 d' n' m' a' c' imm'
    rw [Nat.zero_add, hk'] at hk'2
    split at hk'2
    case isFalse => exact absurd (Option.some.inj hk'2) (by omega)
    rename_i g'
    have e := (pval_25 d n m a c imm g).symm.trans h
    have e' := (pval_25 d' n' m' a' c' imm' g').symm.trans h'
    have e2 := (Prod.mk.inj (Option.some.inj e)).1.trans (Prod.mk.inj (Option.some.inj e')).1.symm
    exact fld_25 d n m a c imm d' n' m' a' c' imm' g g' e2
  ·
    have hk2 := chk_26 0 d n m a c imm
    rw [Nat.zero_add, hk] at hk2
    split at hk2
    case isFalse => exact absurd (Option.some.inj hk2) (by omega)
    rename_i g
    have hk'2 := chk_26 0 d' n' m' a' c' imm'
    rw [Nat.zero_add, hk'] at hk'2
    split at hk'2
    case isFalse => exact absurd (Option.some.inj hk'2) (by omega)
    rename_i g'
    have e := (pval_26 d n m a c imm g).symm.trans h
    have e' := (pval_26 d' n' m' a' c' imm' g').symm.trans h'
    have e2 := (Prod.mk.inj (Option.some.inj e)).1.trans (Prod.mk.inj (Option.some.inj e')).1.symm
    exact fld_26 d n m a c imm d' n' m' a' c' imm' g g' e2
  ·
    have hk2 := chk_27 0 d n m a c imm
    rw [Nat.zero_add, hk] at hk2
    split at hk2
    case isFalse => exact absurd (Option.some.inj hk2) (by omega)
    rename_i g
    have hk'2 := chk_27 0 d' n' m' a' c' imm'
    rw [Nat.zero_add, hk'] at hk'2
    split at hk'2
    case isFalse => exact absurd (Option.some.inj hk'2) (by omega)
    rename_i g'
    have e := (pval_27 d n m a c imm g).symm.trans h
    have e' := (pval_27 d' n' m' a' c' imm' g').symm.trans h'
    have e2 := (Prod.mk.inj (Option.some.inj e)).1.trans (Prod.mk.inj (Option.some.inj e')).1.symm
    exact fld_27 d n m a c imm d' n' m' a' c' imm' g g' e2
  ·
    have hk2 := chk_28 0 d n m a c imm
    rw [Nat.zero_add, hk] at hk2
    split at hk2
    case isFalse => exact absurd (Option.some.inj hk2) (by omega)
    rename_i g
    have hk'2 := chk_28 0 d' n' m' a' c' imm'
    rw [Nat.zero_add, hk'] at hk'2
    split at hk'2
    case isFalse => exact absurd (Option.some.inj hk'2) (by omega)
    rename_i g'
    have ht : Int.tmod imm 8 = 0 := by simp_all
    obtain ⟨q, hq, hq2⟩ := quo (b := 8) (by omega) ht
    have ht' : Int.tmod imm' 8 = 0 := by simp_all
    obtain ⟨q', hq', hq2'⟩ := quo (b := 8) (by omega) ht'
    have e := (pval_28 d n m a c imm q g hq hq2).symm.trans h
    have e' := (pval_28 d' n' m' a' c' imm' q' g' hq' hq2').symm.trans h'
    have e2 := (Prod.mk.inj (Option.some.inj e)).1.trans (Prod.mk.inj (Option.some.inj e')).1.symm
    exact fld_28 d n m a c imm q d' n' m' a' c' imm' q' g hq g' hq' e2
  ·
    have hk2 := chk_29 0 d n m a c imm
    rw [Nat.zero_add, hk] at hk2
    split at hk2
    case isFalse => exact absurd (Option.some.inj hk2) (by omega)
    rename_i g
    have hk'2 := chk_29 0 d' n' m' a' c' imm'
    rw [Nat.zero_add, hk'] at hk'2
    split at hk'2
    case isFalse => exact absurd (Option.some.inj hk'2) (by omega)
    rename_i g'
    have ht : Int.tmod imm 8 = 0 := by simp_all
    obtain ⟨q, hq, hq2⟩ := quo (b := 8) (by omega) ht
    have ht' : Int.tmod imm' 8 = 0 := by simp_all
    obtain ⟨q', hq', hq2'⟩ := quo (b := 8) (by omega) ht'
    have e := (pval_29 d n m a c imm q g hq hq2).symm.trans h
    have e' := (pval_29 d' n' m' a' c' imm' q' g' hq' hq2').symm.trans h'
    have e2 := (Prod.mk.inj (Option.some.inj e)).1.trans (Prod.mk.inj (Option.some.inj e')).1.symm
    exact fld_29 d n m a c imm q d' n' m' a' c' imm' q' g hq g' hq' e2
  ·
    have hk2 := chk_30 0 d n m a c imm
    rw [Nat.zero_add, hk] at hk2
    split at hk2
    case isFalse => exact absurd (Option.some.inj hk2) (by omega)
    rename_i g
    have hk'2 := chk_30 0 d' n' m' a' c' imm'
    rw [Nat.zero_add, hk'] at hk'2
    split at hk'2
    case isFalse => exact absurd (Option.some.inj hk'2) (by omega)
    rename_i g'
    have e := (pval_30 d n m a c imm g).symm.trans h
    have e' := (pval_30 d' n' m' a' c' imm' g').symm.trans h'
    have e2 := (Prod.mk.inj (Option.some.inj e)).1.trans (Prod.mk.inj (Option.some.inj e')).1.symm
    exact fld_30 d n m a c imm d' n' m' a' c' imm' g g' e2
  ·
    have hk2 := chk_31 0 d n m a c imm
    rw [Nat.zero_add, hk] at hk2
    split at hk2
    case isFalse => exact absurd (Option.some.inj hk2) (by omega)
    rename_i g
    have hk'2 := chk_31 0 d' n' m' a' c' imm'
    rw [Nat.zero_add, hk'] at hk'2
    split at hk'2
    case isFalse => exact absurd (Option.some.inj hk'2) (by omega)
    rename_i g'
    have e := (pval_31 d n m a c imm g).symm.trans h
    have e' := (pval_31 d' n' m' a' c' imm' g').symm.trans h'
    have e2 := (Prod.mk.inj (Option.some.inj e)).1.trans (Prod.mk.inj (Option.some.inj e')).1.symm
    exact fld_31 d n m a c imm d' n' m' a' c' imm' g g' e2
  ·
    have hk2 := chk_32 0 d n m a c imm
    rw [Nat.zero_add, hk] at hk2
    split at hk2
    case isFalse => exact absurd (Option.some.inj hk2) (by omega)
    rename_i g
    have hk'2 := chk_32 0 d' n' m' a' c' imm'
    rw [Nat.zero_add, hk'] at hk'2
    split at hk'2
    case isFalse => exact absurd (Option.some.inj hk'2) (by omega)
    rename_i g'
    have e := (pval_32 d n m a c imm g).symm.trans h
    have e' := (pval_32 d' n' m' a' c' imm' g').symm.trans h'
    have e2 := (Prod.mk.inj (Option.some.inj e)).1.trans (Prod.mk.inj (Option.some.inj e')).1.symm
    exact fld_32 d n m a c imm d' n' m' a' c' imm' g g' e2
  ·
    have hk2 := chk_33 0 d n m a c imm
    rw [Nat.zero_add, hk] at hk2
    split at hk2
    case isFalse => exact absurd (Option.some.inj hk2) (by omega)
    rename_i g
    have hk'2 := chk_33 0 d' n' m' a' c' imm'
    rw [Nat.zero_add, hk'] at hk'2
    split at hk'2
    case isFalse => exact absurd (Option.some.inj hk'2) (by omega)
    rename_i g'
    have e := (pval_33 d n m a c imm g).symm.trans h
    have e' := (pval_33 d' n' m' a' c' imm' g').symm.trans h'
    have e2 := (Prod.mk.inj (Option.some.inj e)).1.trans (Prod.mk.inj (Option.some.inj e')).1.symm
    exact fld_33 d n m a c imm d' n' m' a' c' imm' g g' e2
  ·
    have hk2 := chk_34 0 d n m a c imm
    rw [Nat.zero_add, hk] at hk2
    split at hk2
    case isFalse => exact absurd (Option.some.inj hk2) (by omega)
    rename_i g
    have hk'2 := chk_34 0 d' n' m' a' c' imm'
    rw [Nat.zero_add, hk'] at hk'2
    split at hk'2
    case isFalse => exact absurd (Option.some.inj hk'2) (by omega)
    rename_i g'
    have e := (pval_34 d n m a c imm g).symm.trans h
    have e' := (pval_34 d' n' m' a' c' imm' g').symm.trans h'
    have e2 := (Prod.mk.inj (Option.some.inj e)).1.trans (Prod.mk.inj (Option.some.inj e')).1.symm
    exact fld_34 d n m a c imm d' n' m' a' c' imm' g g' e2
  ·
    have hk2 := chk_35 0 d n m a c imm
    rw [Nat.zero_add, hk] at hk2
    split at hk2
    case isFalse => exact absurd (Option.some.inj hk2) (by omega)
    rename_i g
    have hk'2 := chk_35 0 d' n' m' a' c' imm'
    rw [Nat.zero_add, hk'] at hk'2
    split at hk'2
    case isFalse => exact absurd (Option.some.inj hk'2) (by omega)
    rename_i g'
    have e := (pval_35 d n m a c imm g).symm.trans h
    have e' := (pval_35 d' n' m' a' c' imm' g').symm.trans h'
    have e2 := (Prod.mk.inj (Option.some.inj e)).1.trans (Prod.mk.inj (Option.some.inj e')).1.symm
    exact fld_35 d n m a c imm d' n' m' a' c' imm' g g' e2
  ·
    have hk2 := chk_36 0 d n m a c imm
    rw [Nat.zero_add, hk] at hk2
    split at hk2
    case isFalse => exact absurd (Option.some.inj hk2) (by omega)
    rename_i g
    have hk'2 := chk_36 0 d' n' m' a' c' imm'
    rw [Nat.zero_add, hk'] at hk'2
    split at hk'2
    case isFalse => exact absurd (Option.some.inj hk'2) (by omega)
    rename_i g'
    have e := (pval_36 d n m a c imm g).symm.trans h
    have e' := (pval_36 d' n' m' a' c' imm' g').symm.trans h'
    have e2 := (Prod.mk.inj (Option.some.inj e)).1.trans (Prod.mk.inj (Option.some.inj e')).1.symm
    exact fld_36 d n m a c imm d' n' m' a' c' imm' g g' e2
  ·
    have hk2 := chk_37 0 d n m a c imm
    rw [Nat.zero_add, hk] at hk2
    split at hk2
    case isFalse => exact absurd (Option.some.inj hk2) (by omega)
    rename_i g
    have hk'2 := chk_37 0 d' n' m' a' c' imm'
    rw [Nat.zero_add, hk'] at hk'2
    split at hk'2
    case isFalse => exact absurd (Option.some.inj hk'2) (by omega)
    rename_i g'
    have hi : imm = 0 ∨ imm = 1 ∨ imm = 2 := by omega
    have hi' : imm' = 0 ∨ imm' = 1 ∨ imm' = 2 := by omega
    obtain ⟨rfl, rfl, rfl, rfl, rfl, _⟩ := g
    obtain ⟨rfl, rfl, rfl, rfl, rfl, _⟩ := g'
    have e : ∀ i j : Int, (i = 0 ∨ i = 1 ∨ i = 2) → (j = 0 ∨ j = 1 ∨ j = 2) → enc_Word.f 37 0 0 0 0 0 i = some (w, 0) → enc_Word.f 37 0 0 0 0 0 j = some (w, 0) → i = j := by
      rintro i j (rfl | rfl | rfl) (rfl | rfl | rfl) a b <;> first | rfl | (exfalso; simp only [pval_37_0, pval_37_1, pval_37_2, Option.some.injEq, Prod.mk.injEq] at a b; omega)
    exact ⟨rfl, rfl, rfl, rfl, rfl, e _ _ hi hi' h h'⟩
  ·
    have hk2 := chk_38 0 d n m a c imm
    rw [Nat.zero_add, hk] at hk2
    split at hk2
    case isFalse => exact absurd (Option.some.inj hk2) (by omega)
    rename_i g
    have hk'2 := chk_38 0 d' n' m' a' c' imm'
    rw [Nat.zero_add, hk'] at hk'2
    split at hk'2
    case isFalse => exact absurd (Option.some.inj hk'2) (by omega)
    rename_i g'
    have e := (pval_38 d n m a c imm g).symm.trans h
    have e' := (pval_38 d' n' m' a' c' imm' g').symm.trans h'
    have e2 := (Prod.mk.inj (Option.some.inj e)).1.trans (Prod.mk.inj (Option.some.inj e')).1.symm
    exact fld_38 d n m a c imm d' n' m' a' c' imm' g g' rfl
  ·
    have hk2 := chk_39 0 d n m a c imm
    rw [Nat.zero_add, hk] at hk2
    split at hk2
    case isFalse => exact absurd (Option.some.inj hk2) (by omega)
    rename_i g
    have hk'2 := chk_39 0 d' n' m' a' c' imm'
    rw [Nat.zero_add, hk'] at hk'2
    split at hk'2
    case isFalse => exact absurd (Option.some.inj hk'2) (by omega)
    rename_i g'
    have e := (pval_39 d n m a c imm g).symm.trans h
    have e' := (pval_39 d' n' m' a' c' imm' g').symm.trans h'
    have e2 := (Prod.mk.inj (Option.some.inj e)).1.trans (Prod.mk.inj (Option.some.inj e')).1.symm
    exact fld_39 d n m a c imm d' n' m' a' c' imm' g g' rfl
  ·
    have hk2 := chk_40 0 d n m a c imm
    rw [Nat.zero_add, hk] at hk2
    split at hk2
    case isFalse => exact absurd (Option.some.inj hk2) (by omega)
    rename_i g
    have hk'2 := chk_40 0 d' n' m' a' c' imm'
    rw [Nat.zero_add, hk'] at hk'2
    split at hk'2
    case isFalse => exact absurd (Option.some.inj hk'2) (by omega)
    rename_i g'
    have e := (pval_40 d n m a c imm g).symm.trans h
    have e' := (pval_40 d' n' m' a' c' imm' g').symm.trans h'
    have e2 := (Prod.mk.inj (Option.some.inj e)).1.trans (Prod.mk.inj (Option.some.inj e')).1.symm
    exact fld_40 d n m a c imm d' n' m' a' c' imm' g g' e2
  ·
    have hk2 := chk_41 0 d n m a c imm
    rw [Nat.zero_add, hk] at hk2
    split at hk2
    case isFalse => exact absurd (Option.some.inj hk2) (by omega)
    rename_i g
    have hk'2 := chk_41 0 d' n' m' a' c' imm'
    rw [Nat.zero_add, hk'] at hk'2
    split at hk'2
    case isFalse => exact absurd (Option.some.inj hk'2) (by omega)
    rename_i g'
    have e := (pval_41 d n m a c imm g).symm.trans h
    have e' := (pval_41 d' n' m' a' c' imm' g').symm.trans h'
    have e2 := (Prod.mk.inj (Option.some.inj e)).1.trans (Prod.mk.inj (Option.some.inj e')).1.symm
    exact fld_41 d n m a c imm d' n' m' a' c' imm' g g' e2
  ·
    have hk2 := chk_42 0 d n m a c imm
    rw [Nat.zero_add, hk] at hk2
    split at hk2
    case isFalse => exact absurd (Option.some.inj hk2) (by omega)
    rename_i g
    have hk'2 := chk_42 0 d' n' m' a' c' imm'
    rw [Nat.zero_add, hk'] at hk'2
    split at hk'2
    case isFalse => exact absurd (Option.some.inj hk'2) (by omega)
    rename_i g'
    have e := (pval_42 d n m a c imm g).symm.trans h
    have e' := (pval_42 d' n' m' a' c' imm' g').symm.trans h'
    have e2 := (Prod.mk.inj (Option.some.inj e)).1.trans (Prod.mk.inj (Option.some.inj e')).1.symm
    exact fld_42 d n m a c imm d' n' m' a' c' imm' g g' e2
end Go.Proofs.Ytbjikmepfpkmjaa.X
