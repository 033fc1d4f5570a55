/- Words as instructions, in numbers. Printed by gendec.py. -/
import Derived.Test.YtalgegmcllcnmaazLabJumpsIWordL
namespace Go.Proofs.Ytalgegmcllcnmaa.isa
open Go Go.Proofs Go.Proofs.YtalgegmcllcnmaaRL
set_option linter.unusedVariables false
set_option linter.unusedSimpArgs false
@[ext] structure I7 where
  op : Int
  d : Int
  n : Int
  m : Int
  a : Int
  c : Int
  im : Int
  deriving DecidableEq
def I7.ok (i : I7) : Prop := okI i.op i.d i.n i.m i.a i.c i.im
instance (i : I7) : Decidable i.ok := by unfold I7.ok; infer_instance
def I7.word (i : I7) : Int := wordV i.op i.d i.n i.m i.a i.c i.im
def I7.v (i : I7) : V := insV i.op i.d i.n i.m i.a i.c i.im
/-- A number of fewer bits, with its sign; M: 2 to their number. -/
def sx (M x : Int) : Int := if x ≥ M / 2 then x - M else x
def dmb (x : Int) : Int := if x = 0 then 3 else if x = 1 then 1 else if x = 2 then 2 else 0
/-- What a word looks like. -/
def kindN (w : Int) : Nat :=
  if w / 67108864 = 5 then 20 else
  if w / 67108864 = 37 then 24 else
  if w / 16777216 = 84 then 21 else
  if w / 16777216 = 180 then 22 else
  if w / 16777216 = 181 then 23 else
  if w / 8388608 = 421 then 2 else
  if w / 8388608 = 485 then 3 else
  if w / 2097152 = 1696 then 42 else
  if w = 3573751839 then 1 else
  if w / 4194304 = 580 then 4 else
  if w / 4194304 = 836 then 5 else
  if w / 4194304 = 964 then 6 else
  if w / 2097152 = 1112 ∧ w / 1024 % 64 = 0 then 7 else
  if w / 2097152 = 1624 ∧ w / 1024 % 64 = 0 then 8 else
  if w / 2097152 = 1880 ∧ w / 1024 % 64 = 0 then 9 else
  if w / 2097152 = 1104 ∧ w / 1024 % 64 = 0 then 10 else
  if w / 2097152 = 1360 ∧ w / 1024 % 64 = 0 then 11 else
  if w / 2097152 = 1616 ∧ w / 1024 % 64 = 0 then 12 else
  if w / 2097152 = 1240 ∧ w / 32768 % 2 = 0 then 13 else
  if w / 2097152 = 1240 ∧ w / 32768 % 2 = 1 then 14 else
  if w / 2097152 = 1238 ∧ w / 1024 % 64 = 3 then 15 else
  if w / 2097152 = 1238 ∧ w / 1024 % 64 = 8 then 16 else
  if w / 2097152 = 1238 ∧ w / 1024 % 64 = 9 then 17 else
  if w / 2097152 = 1238 ∧ w / 1024 % 64 = 10 then 18 else
  if w / 2097152 = 1236 ∧ w / 1024 % 4 = 1 then 19 else
  if w / 1024 = 3508160 ∧ w % 32 = 0 then 25 else
  if w / 1024 = 3510208 ∧ w % 32 = 0 then 26 else
  if w / 1024 = 3512256 ∧ w % 32 = 0 then 27 else
  if w / 4194304 = 997 then 28 else
  if w / 4194304 = 996 then 29 else
  if w / 4194304 = 229 then 30 else
  if w / 2097152 = 1987 ∧ w / 1024 % 64 = 30 then 31 else
  if w / 2097152 = 1985 ∧ w / 1024 % 64 = 30 then 32 else
  if w / 1024 = 3291135 then 33 else
  if w / 1024 = 3287039 then 34 else
  if w / 1024 = 3282911 then 35 else
  if w / 2097152 = 1600 ∧ w / 1024 % 64 = 31 then 36 else
  if w / 4096 = 872499 ∧ w % 256 = 191 then 37 else
  if w = 3573758879 then 38 else
  if w = 3573759967 then 39 else
  if w / 32 = 111696857 then 40 else
  if w / 32 = 111696809 then 41 else
  0
/-- The fields of a word as op k has them. -/
def decF (k : Nat) (w : Int) : I7 := match k with
  | 0 => ⟨0, 0, 0, 0, 0, 0, 0⟩
  | 1 => ⟨1, 0, 0, 0, 0, 0, 0⟩
  | 2 => ⟨2, w % 32, 0, w / 2097152 % 4, 0, 0, w / 32 % 65536⟩
  | 3 => ⟨3, w % 32, 0, w / 2097152 % 4, 0, 0, w / 32 % 65536⟩
  | 4 => ⟨4, w % 32, w / 32 % 32, 0, 0, 0, w / 1024 % 4096⟩
  | 5 => ⟨5, w % 32, w / 32 % 32, 0, 0, 0, w / 1024 % 4096⟩
  | 6 => ⟨6, w % 32, w / 32 % 32, 0, 0, 0, w / 1024 % 4096⟩
  | 7 => ⟨7, w % 32, w / 32 % 32, w / 65536 % 32, 0, 0, 0⟩
  | 8 => ⟨8, w % 32, w / 32 % 32, w / 65536 % 32, 0, 0, 0⟩
  | 9 => ⟨9, w % 32, w / 32 % 32, w / 65536 % 32, 0, 0, 0⟩
  | 10 => ⟨10, w % 32, w / 32 % 32, w / 65536 % 32, 0, 0, 0⟩
  | 11 => ⟨11, w % 32, w / 32 % 32, w / 65536 % 32, 0, 0, 0⟩
  | 12 => ⟨12, w % 32, w / 32 % 32, w / 65536 % 32, 0, 0, 0⟩
  | 13 => ⟨13, w % 32, w / 32 % 32, w / 65536 % 32, w / 1024 % 32, 0, 0⟩
  | 14 => ⟨14, w % 32, w / 32 % 32, w / 65536 % 32, w / 1024 % 32, 0, 0⟩
  | 15 => ⟨15, w % 32, w / 32 % 32, w / 65536 % 32, 0, 0, 0⟩
  | 16 => ⟨16, w % 32, w / 32 % 32, w / 65536 % 32, 0, 0, 0⟩
  | 17 => ⟨17, w % 32, w / 32 % 32, w / 65536 % 32, 0, 0, 0⟩
  | 18 => ⟨18, w % 32, w / 32 % 32, w / 65536 % 32, 0, 0, 0⟩
  | 19 => ⟨19, w % 32, w / 32 % 32, w / 65536 % 32, 0, w / 4096 % 16, 0⟩
  | 20 => ⟨20, 0, 0, 0, 0, 0, 4 * sx 67108864 (w % 67108864)⟩
  | 21 => ⟨21, 0, 0, 0, 0, w % 16, 4 * sx 524288 (w / 32 % 524288)⟩
  | 22 => ⟨22, w % 32, 0, 0, 0, 0, 4 * sx 524288 (w / 32 % 524288)⟩
  | 23 => ⟨23, w % 32, 0, 0, 0, 0, 4 * sx 524288 (w / 32 % 524288)⟩
  | 24 => ⟨24, 0, 0, 0, 0, 0, 4 * sx 67108864 (w % 67108864)⟩
  | 25 => ⟨25, 0, w / 32 % 32, 0, 0, 0, 0⟩
  | 26 => ⟨26, 0, w / 32 % 32, 0, 0, 0, 0⟩
  | 27 => ⟨27, 0, w / 32 % 32, 0, 0, 0, 0⟩
  | 28 => ⟨28, w % 32, w / 32 % 32, 0, 0, 0, 8 * (w / 1024 % 4096)⟩
  | 29 => ⟨29, w % 32, w / 32 % 32, 0, 0, 0, 8 * (w / 1024 % 4096)⟩
  | 30 => ⟨30, w % 32, w / 32 % 32, 0, 0, 0, w / 1024 % 4096⟩
  | 31 => ⟨31, w % 32, w / 32 % 32, w / 65536 % 32, 0, 0, 0⟩
  | 32 => ⟨32, w % 32, w / 32 % 32, w / 65536 % 32, 0, 0, 0⟩
  | 33 => ⟨33, w % 32, w / 32 % 32, 0, 0, 0, 0⟩
  | 34 => ⟨34, w % 32, w / 32 % 32, 0, 0, 0, 0⟩
  | 35 => ⟨35, w % 32, w / 32 % 32, 0, 0, 0, 0⟩
  | 36 => ⟨36, w / 65536 % 32, w / 32 % 32, w % 32, 0, 0, 0⟩
  | 37 => ⟨37, 0, 0, 0, 0, 0, dmb (w / 256 % 4)⟩
  | 38 => ⟨38, 0, 0, 0, 0, 0, 0⟩
  | 39 => ⟨39, 0, 0, 0, 0, 0, 0⟩
  | 40 => ⟨40, 0, w % 32, 0, 0, 0, 0⟩
  | 41 => ⟨41, 0, w % 32, 0, 0, 0, 0⟩
  | 42 => ⟨42, 0, 0, 0, 0, 0, w / 32 % 65536⟩
  | _ => ⟨0, 0, 0, 0, 0, 0, 0⟩
def udf (w : Int) : I7 := ⟨0, 0, 0, 0, 0, 0, w % 65536⟩
/-- A word's instruction. -/
def decI (w : Int) : I7 := if kindN w ≠ 0 ∧ (decF (kindN w) w).ok ∧ (decF (kindN w) w).word = w then decF (kindN w) w else udf w
set_option maxHeartbeats 4000000 in
theorem kind_1 {d n m a c imm w : Int} (h : okP 1 d n m a c imm) (hw : w = 3573751839) : kindN w = 1 := by
  obtain ⟨hd, hn, hm, ha, hc, hz, hi⟩ : d = 0 ∧ n = 0 ∧ m = 0 ∧ a = 0 ∧ c = 0 ∧ imm = 0 ∧ (True) := h
  unfold kindN
  rw [if_neg (show ¬ (w / 67108864 = 5) by omega)]
  rw [if_neg (show ¬ (w / 67108864 = 37) by omega)]
  rw [if_neg (show ¬ (w / 16777216 = 84) by omega)]
  rw [if_neg (show ¬ (w / 16777216 = 180) by omega)]
  rw [if_neg (show ¬ (w / 16777216 = 181) by omega)]
  rw [if_neg (show ¬ (w / 8388608 = 421) by omega)]
  rw [if_neg (show ¬ (w / 8388608 = 485) by omega)]
  rw [if_neg (show ¬ (w / 2097152 = 1696) by omega)]
  rw [if_pos (show w = 3573751839 by omega)]
set_option maxHeartbeats 4000000 in
theorem kind_2 {d n m a c imm w : Int} (h : okP 2 d n m a c imm) (hw : w = 3531603968 + m * 2097152 + imm * 32 + d) : kindN w = 2 := by
  obtain ⟨hd, hn, hm, ha, hc, hz, hi⟩ : (0 ≤ d ∧ d ≤ 31) ∧ n = 0 ∧ (0 ≤ m ∧ m ≤ 31) ∧ a = 0 ∧ c = 0 ∧ True ∧ (0 ≤ imm ∧ imm < 65536 ∧ m ≤ 3) := h
  unfold kindN
  rw [if_neg (show ¬ (w / 67108864 = 5) by omega)]
  rw [if_neg (show ¬ (w / 67108864 = 37) by omega)]
  rw [if_neg (show ¬ (w / 16777216 = 84) by omega)]
  rw [if_neg (show ¬ (w / 16777216 = 180) by omega)]
  rw [if_neg (show ¬ (w / 16777216 = 181) by omega)]
  rw [if_pos (show w / 8388608 = 421 by omega)]
set_option maxHeartbeats 4000000 in
theorem kind_3 {d n m a c imm w : Int} (h : okP 3 d n m a c imm) (hw : w = 4068474880 + m * 2097152 + imm * 32 + d) : kindN w = 3 := by
  obtain ⟨hd, hn, hm, ha, hc, hz, hi⟩ : (0 ≤ d ∧ d ≤ 31) ∧ n = 0 ∧ (0 ≤ m ∧ m ≤ 31) ∧ a = 0 ∧ c = 0 ∧ True ∧ (0 ≤ imm ∧ imm < 65536 ∧ m ≤ 3) := h
  unfold kindN
  rw [if_neg (show ¬ (w / 67108864 = 5) by omega)]
  rw [if_neg (show ¬ (w / 67108864 = 37) by omega)]
  rw [if_neg (show ¬ (w / 16777216 = 84) by omega)]
  rw [if_neg (show ¬ (w / 16777216 = 180) by omega)]
  rw [if_neg (show ¬ (w / 16777216 = 181) by omega)]
  rw [if_neg (show ¬ (w / 8388608 = 421) by omega)]
  rw [if_pos (show w / 8388608 = 485 by omega)]
set_option maxHeartbeats 4000000 in
theorem kind_4 {d n m a c imm w : Int} (h : okP 4 d n m a c imm) (hw : w = 2432696320 + n * 32 + imm * 1024 + d) : kindN w = 4 := by
  obtain ⟨hd, hn, hm, ha, hc, hz, hi⟩ : (0 ≤ d ∧ d ≤ 31) ∧ (0 ≤ n ∧ n ≤ 31) ∧ m = 0 ∧ a = 0 ∧ c = 0 ∧ True ∧ (0 ≤ imm ∧ imm < 4096) := h
  unfold kindN
  rw [if_neg (show ¬ (w / 67108864 = 5) by omega)]
  rw [if_neg (show ¬ (w / 67108864 = 37) by omega)]
  rw [if_neg (show ¬ (w / 16777216 = 84) by omega)]
  rw [if_neg (show ¬ (w / 16777216 = 180) by omega)]
  rw [if_neg (show ¬ (w / 16777216 = 181) by omega)]
  rw [if_neg (show ¬ (w / 8388608 = 421) by omega)]
  rw [if_neg (show ¬ (w / 8388608 = 485) by omega)]
  rw [if_neg (show ¬ (w / 2097152 = 1696) by omega)]
  rw [if_neg (show ¬ (w = 3573751839) by omega)]
  rw [if_pos (show w / 4194304 = 580 by omega)]
set_option maxHeartbeats 4000000 in
theorem kind_5 {d n m a c imm w : Int} (h : okP 5 d n m a c imm) (hw : w = 3506438144 + n * 32 + imm * 1024 + d) : kindN w = 5 := by
  obtain ⟨hd, hn, hm, ha, hc, hz, hi⟩ : (0 ≤ d ∧ d ≤ 31) ∧ (0 ≤ n ∧ n ≤ 31) ∧ m = 0 ∧ a = 0 ∧ c = 0 ∧ True ∧ (0 ≤ imm ∧ imm < 4096) := h
  unfold kindN
  rw [if_neg (show ¬ (w / 67108864 = 5) by omega)]
  rw [if_neg (show ¬ (w / 67108864 = 37) by omega)]
  rw [if_neg (show ¬ (w / 16777216 = 84) by omega)]
  rw [if_neg (show ¬ (w / 16777216 = 180) by omega)]
  rw [if_neg (show ¬ (w / 16777216 = 181) by omega)]
  rw [if_neg (show ¬ (w / 8388608 = 421) by omega)]
  rw [if_neg (show ¬ (w / 8388608 = 485) by omega)]
  rw [if_neg (show ¬ (w / 2097152 = 1696) by omega)]
  rw [if_neg (show ¬ (w = 3573751839) by omega)]
  rw [if_neg (show ¬ (w / 4194304 = 580) by omega)]
  rw [if_pos (show w / 4194304 = 836 by omega)]
set_option maxHeartbeats 4000000 in
theorem kind_6 {d n m a c imm w : Int} (h : okP 6 d n m a c imm) (hw : w = 4043309056 + n * 32 + imm * 1024 + d) : kindN w = 6 := by
  obtain ⟨hd, hn, hm, ha, hc, hz, hi⟩ : (0 ≤ d ∧ d ≤ 31) ∧ (0 ≤ n ∧ n ≤ 31) ∧ m = 0 ∧ a = 0 ∧ c = 0 ∧ True ∧ (0 ≤ imm ∧ imm < 4096) := h
  unfold kindN
  rw [if_neg (show ¬ (w / 67108864 = 5) by omega)]
  rw [if_neg (show ¬ (w / 67108864 = 37) by omega)]
  rw [if_neg (show ¬ (w / 16777216 = 84) by omega)]
  rw [if_neg (show ¬ (w / 16777216 = 180) by omega)]
  rw [if_neg (show ¬ (w / 16777216 = 181) by omega)]
  rw [if_neg (show ¬ (w / 8388608 = 421) by omega)]
  rw [if_neg (show ¬ (w / 8388608 = 485) by omega)]
  rw [if_neg (show ¬ (w / 2097152 = 1696) by omega)]
  rw [if_neg (show ¬ (w = 3573751839) by omega)]
  rw [if_neg (show ¬ (w / 4194304 = 580) by omega)]
  rw [if_neg (show ¬ (w / 4194304 = 836) by omega)]
  rw [if_pos (show w / 4194304 = 964 by omega)]
set_option maxHeartbeats 4000000 in
theorem kind_7 {d n m a c imm w : Int} (h : okP 7 d n m a c imm) (hw : w = 2332033024 + n * 32 + m * 65536 + d) : kindN w = 7 := by
  obtain ⟨hd, hn, hm, ha, hc, hz, hi⟩ : (0 ≤ d ∧ d ≤ 31) ∧ (0 ≤ n ∧ n ≤ 31) ∧ (0 ≤ m ∧ m ≤ 31) ∧ a = 0 ∧ c = 0 ∧ imm = 0 ∧ (True) := h
  unfold kindN
  rw [if_neg (show ¬ (w / 67108864 = 5) by omega)]
  rw [if_neg (show ¬ (w / 67108864 = 37) by omega)]
  rw [if_neg (show ¬ (w / 16777216 = 84) by omega)]
  rw [if_neg (show ¬ (w / 16777216 = 180) by omega)]
  rw [if_neg (show ¬ (w / 16777216 = 181) by omega)]
  rw [if_neg (show ¬ (w / 8388608 = 421) by omega)]
  rw [if_neg (show ¬ (w / 8388608 = 485) by omega)]
  rw [if_neg (show ¬ (w / 2097152 = 1696) by omega)]
  rw [if_neg (show ¬ (w = 3573751839) by omega)]
  rw [if_neg (show ¬ (w / 4194304 = 580) by omega)]
  rw [if_neg (show ¬ (w / 4194304 = 836) by omega)]
  rw [if_neg (show ¬ (w / 4194304 = 964) by omega)]
  rw [if_pos (show w / 2097152 = 1112 ∧ w / 1024 % 64 = 0 by omega)]
set_option maxHeartbeats 4000000 in
theorem kind_8 {d n m a c imm w : Int} (h : okP 8 d n m a c imm) (hw : w = 3405774848 + n * 32 + m * 65536 + d) : kindN w = 8 := by
  obtain ⟨hd, hn, hm, ha, hc, hz, hi⟩ : (0 ≤ d ∧ d ≤ 31) ∧ (0 ≤ n ∧ n ≤ 31) ∧ (0 ≤ m ∧ m ≤ 31) ∧ a = 0 ∧ c = 0 ∧ imm = 0 ∧ (True) := h
  unfold kindN
  rw [if_neg (show ¬ (w / 67108864 = 5) by omega)]
  rw [if_neg (show ¬ (w / 67108864 = 37) by omega)]
  rw [if_neg (show ¬ (w / 16777216 = 84) by omega)]
  rw [if_neg (show ¬ (w / 16777216 = 180) by omega)]
  rw [if_neg (show ¬ (w / 16777216 = 181) by omega)]
  rw [if_neg (show ¬ (w / 8388608 = 421) by omega)]
  rw [if_neg (show ¬ (w / 8388608 = 485) by omega)]
  rw [if_neg (show ¬ (w / 2097152 = 1696) by omega)]
  rw [if_neg (show ¬ (w = 3573751839) by omega)]
  rw [if_neg (show ¬ (w / 4194304 = 580) by omega)]
  rw [if_neg (show ¬ (w / 4194304 = 836) by omega)]
  rw [if_neg (show ¬ (w / 4194304 = 964) by omega)]
  rw [if_neg (show ¬ (w / 2097152 = 1112 ∧ w / 1024 % 64 = 0) by omega)]
  rw [if_pos (show w / 2097152 = 1624 ∧ w / 1024 % 64 = 0 by omega)]
set_option maxHeartbeats 4000000 in
theorem kind_9 {d n m a c imm w : Int} (h : okP 9 d n m a c imm) (hw : w = 3942645760 + n * 32 + m * 65536 + d) : kindN w = 9 := by
  obtain ⟨hd, hn, hm, ha, hc, hz, hi⟩ : (0 ≤ d ∧ d ≤ 31) ∧ (0 ≤ n ∧ n ≤ 31) ∧ (0 ≤ m ∧ m ≤ 31) ∧ a = 0 ∧ c = 0 ∧ imm = 0 ∧ (True) := h
  unfold kindN
  rw [if_neg (show ¬ (w / 67108864 = 5) by omega)]
  rw [if_neg (show ¬ (w / 67108864 = 37) by omega)]
  rw [if_neg (show ¬ (w / 16777216 = 84) by omega)]
  rw [if_neg (show ¬ (w / 16777216 = 180) by omega)]
  rw [if_neg (show ¬ (w / 16777216 = 181) by omega)]
  rw [if_neg (show ¬ (w / 8388608 = 421) by omega)]
  rw [if_neg (show ¬ (w / 8388608 = 485) by omega)]
  rw [if_neg (show ¬ (w / 2097152 = 1696) by omega)]
  rw [if_neg (show ¬ (w = 3573751839) by omega)]
  rw [if_neg (show ¬ (w / 4194304 = 580) by omega)]
  rw [if_neg (show ¬ (w / 4194304 = 836) by omega)]
  rw [if_neg (show ¬ (w / 4194304 = 964) by omega)]
  rw [if_neg (show ¬ (w / 2097152 = 1112 ∧ w / 1024 % 64 = 0) by omega)]
  rw [if_neg (show ¬ (w / 2097152 = 1624 ∧ w / 1024 % 64 = 0) by omega)]
  rw [if_pos (show w / 2097152 = 1880 ∧ w / 1024 % 64 = 0 by omega)]
set_option maxHeartbeats 4000000 in
theorem kind_10 {d n m a c imm w : Int} (h : okP 10 d n m a c imm) (hw : w = 2315255808 + n * 32 + m * 65536 + d) : kindN w = 10 := by
  obtain ⟨hd, hn, hm, ha, hc, hz, hi⟩ : (0 ≤ d ∧ d ≤ 31) ∧ (0 ≤ n ∧ n ≤ 31) ∧ (0 ≤ m ∧ m ≤ 31) ∧ a = 0 ∧ c = 0 ∧ imm = 0 ∧ (True) := h
  unfold kindN
  rw [if_neg (show ¬ (w / 67108864 = 5) by omega)]
  rw [if_neg (show ¬ (w / 67108864 = 37) by omega)]
  rw [if_neg (show ¬ (w / 16777216 = 84) by omega)]
  rw [if_neg (show ¬ (w / 16777216 = 180) by omega)]
  rw [if_neg (show ¬ (w / 16777216 = 181) by omega)]
  rw [if_neg (show ¬ (w / 8388608 = 421) by omega)]
  rw [if_neg (show ¬ (w / 8388608 = 485) by omega)]
  rw [if_neg (show ¬ (w / 2097152 = 1696) by omega)]
  rw [if_neg (show ¬ (w = 3573751839) by omega)]
  rw [if_neg (show ¬ (w / 4194304 = 580) by omega)]
  rw [if_neg (show ¬ (w / 4194304 = 836) by omega)]
  rw [if_neg (show ¬ (w / 4194304 = 964) by omega)]
  rw [if_neg (show ¬ (w / 2097152 = 1112 ∧ w / 1024 % 64 = 0) by omega)]
  rw [if_neg (show ¬ (w / 2097152 = 1624 ∧ w / 1024 % 64 = 0) by omega)]
  rw [if_neg (show ¬ (w / 2097152 = 1880 ∧ w / 1024 % 64 = 0) by omega)]
  rw [if_pos (show w / 2097152 = 1104 ∧ w / 1024 % 64 = 0 by omega)]
set_option maxHeartbeats 4000000 in
theorem kind_11 {d n m a c imm w : Int} (h : okP 11 d n m a c imm) (hw : w = 2852126720 + n * 32 + m * 65536 + d) : kindN w = 11 := by
  obtain ⟨hd, hn, hm, ha, hc, hz, hi⟩ : (0 ≤ d ∧ d ≤ 31) ∧ (0 ≤ n ∧ n ≤ 31) ∧ (0 ≤ m ∧ m ≤ 31) ∧ a = 0 ∧ c = 0 ∧ imm = 0 ∧ (True) := h
  unfold kindN
  rw [if_neg (show ¬ (w / 67108864 = 5) by omega)]
  rw [if_neg (show ¬ (w / 67108864 = 37) by omega)]
  rw [if_neg (show ¬ (w / 16777216 = 84) by omega)]
  rw [if_neg (show ¬ (w / 16777216 = 180) by omega)]
  rw [if_neg (show ¬ (w / 16777216 = 181) by omega)]
  rw [if_neg (show ¬ (w / 8388608 = 421) by omega)]
  rw [if_neg (show ¬ (w / 8388608 = 485) by omega)]
  rw [if_neg (show ¬ (w / 2097152 = 1696) by omega)]
  rw [if_neg (show ¬ (w = 3573751839) by omega)]
  rw [if_neg (show ¬ (w / 4194304 = 580) by omega)]
  rw [if_neg (show ¬ (w / 4194304 = 836) by omega)]
  rw [if_neg (show ¬ (w / 4194304 = 964) by omega)]
  rw [if_neg (show ¬ (w / 2097152 = 1112 ∧ w / 1024 % 64 = 0) by omega)]
  rw [if_neg (show ¬ (w / 2097152 = 1624 ∧ w / 1024 % 64 = 0) by omega)]
  rw [if_neg (show ¬ (w / 2097152 = 1880 ∧ w / 1024 % 64 = 0) by omega)]
  rw [if_neg (show ¬ (w / 2097152 = 1104 ∧ w / 1024 % 64 = 0) by omega)]
  rw [if_pos (show w / 2097152 = 1360 ∧ w / 1024 % 64 = 0 by omega)]
set_option maxHeartbeats 4000000 in
theorem kind_12 {d n m a c imm w : Int} (h : okP 12 d n m a c imm) (hw : w = 3388997632 + n * 32 + m * 65536 + d) : kindN w = 12 := by
  obtain ⟨hd, hn, hm, ha, hc, hz, hi⟩ : (0 ≤ d ∧ d ≤ 31) ∧ (0 ≤ n ∧ n ≤ 31) ∧ (0 ≤ m ∧ m ≤ 31) ∧ a = 0 ∧ c = 0 ∧ imm = 0 ∧ (True) := h
  unfold kindN
  rw [if_neg (show ¬ (w / 67108864 = 5) by omega)]
  rw [if_neg (show ¬ (w / 67108864 = 37) by omega)]
  rw [if_neg (show ¬ (w / 16777216 = 84) by omega)]
  rw [if_neg (show ¬ (w / 16777216 = 180) by omega)]
  rw [if_neg (show ¬ (w / 16777216 = 181) by omega)]
  rw [if_neg (show ¬ (w / 8388608 = 421) by omega)]
  rw [if_neg (show ¬ (w / 8388608 = 485) by omega)]
  rw [if_neg (show ¬ (w / 2097152 = 1696) by omega)]
  rw [if_neg (show ¬ (w = 3573751839) by omega)]
  rw [if_neg (show ¬ (w / 4194304 = 580) by omega)]
  rw [if_neg (show ¬ (w / 4194304 = 836) by omega)]
  rw [if_neg (show ¬ (w / 4194304 = 964) by omega)]
  rw [if_neg (show ¬ (w / 2097152 = 1112 ∧ w / 1024 % 64 = 0) by omega)]
  rw [if_neg (show ¬ (w / 2097152 = 1624 ∧ w / 1024 % 64 = 0) by omega)]
  rw [if_neg (show ¬ (w / 2097152 = 1880 ∧ w / 1024 % 64 = 0) by omega)]
  rw [if_neg (show ¬ (w / 2097152 = 1104 ∧ w / 1024 % 64 = 0) by omega)]
  rw [if_neg (show ¬ (w / 2097152 = 1360 ∧ w / 1024 % 64 = 0) by omega)]
  rw [if_pos (show w / 2097152 = 1616 ∧ w / 1024 % 64 = 0 by omega)]
set_option maxHeartbeats 4000000 in
theorem kind_13 {d n m a c imm w : Int} (h : okP 13 d n m a c imm) (hw : w = 2600468480 + n * 32 + m * 65536 + a * 1024 + d) : kindN w = 13 := by
  obtain ⟨hd, hn, hm, ha, hc, hz, hi⟩ : (0 ≤ d ∧ d ≤ 31) ∧ (0 ≤ n ∧ n ≤ 31) ∧ (0 ≤ m ∧ m ≤ 31) ∧ (0 ≤ a ∧ a ≤ 31) ∧ c = 0 ∧ imm = 0 ∧ (True) := h
  unfold kindN
  rw [if_neg (show ¬ (w / 67108864 = 5) by omega)]
  rw [if_neg (show ¬ (w / 67108864 = 37) by omega)]
  rw [if_neg (show ¬ (w / 16777216 = 84) by omega)]
  rw [if_neg (show ¬ (w / 16777216 = 180) by omega)]
  rw [if_neg (show ¬ (w / 16777216 = 181) by omega)]
  rw [if_neg (show ¬ (w / 8388608 = 421) by omega)]
  rw [if_neg (show ¬ (w / 8388608 = 485) by omega)]
  rw [if_neg (show ¬ (w / 2097152 = 1696) by omega)]
  rw [if_neg (show ¬ (w = 3573751839) by omega)]
  rw [if_neg (show ¬ (w / 4194304 = 580) by omega)]
  rw [if_neg (show ¬ (w / 4194304 = 836) by omega)]
  rw [if_neg (show ¬ (w / 4194304 = 964) by omega)]
  rw [if_neg (show ¬ (w / 2097152 = 1112 ∧ w / 1024 % 64 = 0) by omega)]
  rw [if_neg (show ¬ (w / 2097152 = 1624 ∧ w / 1024 % 64 = 0) by omega)]
  rw [if_neg (show ¬ (w / 2097152 = 1880 ∧ w / 1024 % 64 = 0) by omega)]
  rw [if_neg (show ¬ (w / 2097152 = 1104 ∧ w / 1024 % 64 = 0) by omega)]
  rw [if_neg (show ¬ (w / 2097152 = 1360 ∧ w / 1024 % 64 = 0) by omega)]
  rw [if_neg (show ¬ (w / 2097152 = 1616 ∧ w / 1024 % 64 = 0) by omega)]
  rw [if_pos (show w / 2097152 = 1240 ∧ w / 32768 % 2 = 0 by omega)]
set_option maxHeartbeats 4000000 in
theorem kind_14 {d n m a c imm w : Int} (h : okP 14 d n m a c imm) (hw : w = 2600501248 + n * 32 + m * 65536 + a * 1024 + d) : kindN w = 14 := by
  obtain ⟨hd, hn, hm, ha, hc, hz, hi⟩ : (0 ≤ d ∧ d ≤ 31) ∧ (0 ≤ n ∧ n ≤ 31) ∧ (0 ≤ m ∧ m ≤ 31) ∧ (0 ≤ a ∧ a ≤ 31) ∧ c = 0 ∧ imm = 0 ∧ (True) := h
  unfold kindN
  rw [if_neg (show ¬ (w / 67108864 = 5) by omega)]
  rw [if_neg (show ¬ (w / 67108864 = 37) by omega)]
  rw [if_neg (show ¬ (w / 16777216 = 84) by omega)]
  rw [if_neg (show ¬ (w / 16777216 = 180) by omega)]
  rw [if_neg (show ¬ (w / 16777216 = 181) by omega)]
  rw [if_neg (show ¬ (w / 8388608 = 421) by omega)]
  rw [if_neg (show ¬ (w / 8388608 = 485) by omega)]
  rw [if_neg (show ¬ (w / 2097152 = 1696) by omega)]
  rw [if_neg (show ¬ (w = 3573751839) by omega)]
  rw [if_neg (show ¬ (w / 4194304 = 580) by omega)]
  rw [if_neg (show ¬ (w / 4194304 = 836) by omega)]
  rw [if_neg (show ¬ (w / 4194304 = 964) by omega)]
  rw [if_neg (show ¬ (w / 2097152 = 1112 ∧ w / 1024 % 64 = 0) by omega)]
  rw [if_neg (show ¬ (w / 2097152 = 1624 ∧ w / 1024 % 64 = 0) by omega)]
  rw [if_neg (show ¬ (w / 2097152 = 1880 ∧ w / 1024 % 64 = 0) by omega)]
  rw [if_neg (show ¬ (w / 2097152 = 1104 ∧ w / 1024 % 64 = 0) by omega)]
  rw [if_neg (show ¬ (w / 2097152 = 1360 ∧ w / 1024 % 64 = 0) by omega)]
  rw [if_neg (show ¬ (w / 2097152 = 1616 ∧ w / 1024 % 64 = 0) by omega)]
  rw [if_neg (show ¬ (w / 2097152 = 1240 ∧ w / 32768 % 2 = 0) by omega)]
  rw [if_pos (show w / 2097152 = 1240 ∧ w / 32768 % 2 = 1 by omega)]
set_option maxHeartbeats 4000000 in
theorem kind_15 {d n m a c imm w : Int} (h : okP 15 d n m a c imm) (hw : w = 2596277248 + n * 32 + m * 65536 + d) : kindN w = 15 := by
  obtain ⟨hd, hn, hm, ha, hc, hz, hi⟩ : (0 ≤ d ∧ d ≤ 31) ∧ (0 ≤ n ∧ n ≤ 31) ∧ (0 ≤ m ∧ m ≤ 31) ∧ a = 0 ∧ c = 0 ∧ imm = 0 ∧ (True) := h
  unfold kindN
  rw [if_neg (show ¬ (w / 67108864 = 5) by omega)]
  rw [if_neg (show ¬ (w / 67108864 = 37) by omega)]
  rw [if_neg (show ¬ (w / 16777216 = 84) by omega)]
  rw [if_neg (show ¬ (w / 16777216 = 180) by omega)]
  rw [if_neg (show ¬ (w / 16777216 = 181) by omega)]
  rw [if_neg (show ¬ (w / 8388608 = 421) by omega)]
  rw [if_neg (show ¬ (w / 8388608 = 485) by omega)]
  rw [if_neg (show ¬ (w / 2097152 = 1696) by omega)]
  rw [if_neg (show ¬ (w = 3573751839) by omega)]
  rw [if_neg (show ¬ (w / 4194304 = 580) by omega)]
  rw [if_neg (show ¬ (w / 4194304 = 836) by omega)]
  rw [if_neg (show ¬ (w / 4194304 = 964) by omega)]
  rw [if_neg (show ¬ (w / 2097152 = 1112 ∧ w / 1024 % 64 = 0) by omega)]
  rw [if_neg (show ¬ (w / 2097152 = 1624 ∧ w / 1024 % 64 = 0) by omega)]
  rw [if_neg (show ¬ (w / 2097152 = 1880 ∧ w / 1024 % 64 = 0) by omega)]
  rw [if_neg (show ¬ (w / 2097152 = 1104 ∧ w / 1024 % 64 = 0) by omega)]
  rw [if_neg (show ¬ (w / 2097152 = 1360 ∧ w / 1024 % 64 = 0) by omega)]
  rw [if_neg (show ¬ (w / 2097152 = 1616 ∧ w / 1024 % 64 = 0) by omega)]
  rw [if_neg (show ¬ (w / 2097152 = 1240 ∧ w / 32768 % 2 = 0) by omega)]
  rw [if_neg (show ¬ (w / 2097152 = 1240 ∧ w / 32768 % 2 = 1) by omega)]
  rw [if_pos (show w / 2097152 = 1238 ∧ w / 1024 % 64 = 3 by omega)]
set_option maxHeartbeats 4000000 in
theorem kind_16 {d n m a c imm w : Int} (h : okP 16 d n m a c imm) (hw : w = 2596282368 + n * 32 + m * 65536 + d) : kindN w = 16 := by
  obtain ⟨hd, hn, hm, ha, hc, hz, hi⟩ : (0 ≤ d ∧ d ≤ 31) ∧ (0 ≤ n ∧ n ≤ 31) ∧ (0 ≤ m ∧ m ≤ 31) ∧ a = 0 ∧ c = 0 ∧ imm = 0 ∧ (True) := h
  unfold kindN
  rw [if_neg (show ¬ (w / 67108864 = 5) by omega)]
  rw [if_neg (show ¬ (w / 67108864 = 37) by omega)]
  rw [if_neg (show ¬ (w / 16777216 = 84) by omega)]
  rw [if_neg (show ¬ (w / 16777216 = 180) by omega)]
  rw [if_neg (show ¬ (w / 16777216 = 181) by omega)]
  rw [if_neg (show ¬ (w / 8388608 = 421) by omega)]
  rw [if_neg (show ¬ (w / 8388608 = 485) by omega)]
  rw [if_neg (show ¬ (w / 2097152 = 1696) by omega)]
  rw [if_neg (show ¬ (w = 3573751839) by omega)]
  rw [if_neg (show ¬ (w / 4194304 = 580) by omega)]
  rw [if_neg (show ¬ (w / 4194304 = 836) by omega)]
  rw [if_neg (show ¬ (w / 4194304 = 964) by omega)]
  rw [if_neg (show ¬ (w / 2097152 = 1112 ∧ w / 1024 % 64 = 0) by omega)]
  rw [if_neg (show ¬ (w / 2097152 = 1624 ∧ w / 1024 % 64 = 0) by omega)]
  rw [if_neg (show ¬ (w / 2097152 = 1880 ∧ w / 1024 % 64 = 0) by omega)]
  rw [if_neg (show ¬ (w / 2097152 = 1104 ∧ w / 1024 % 64 = 0) by omega)]
  rw [if_neg (show ¬ (w / 2097152 = 1360 ∧ w / 1024 % 64 = 0) by omega)]
  rw [if_neg (show ¬ (w / 2097152 = 1616 ∧ w / 1024 % 64 = 0) by omega)]
  rw [if_neg (show ¬ (w / 2097152 = 1240 ∧ w / 32768 % 2 = 0) by omega)]
  rw [if_neg (show ¬ (w / 2097152 = 1240 ∧ w / 32768 % 2 = 1) by omega)]
  rw [if_neg (show ¬ (w / 2097152 = 1238 ∧ w / 1024 % 64 = 3) by omega)]
  rw [if_pos (show w / 2097152 = 1238 ∧ w / 1024 % 64 = 8 by omega)]
set_option maxHeartbeats 4000000 in
theorem kind_17 {d n m a c imm w : Int} (h : okP 17 d n m a c imm) (hw : w = 2596283392 + n * 32 + m * 65536 + d) : kindN w = 17 := by
  obtain ⟨hd, hn, hm, ha, hc, hz, hi⟩ : (0 ≤ d ∧ d ≤ 31) ∧ (0 ≤ n ∧ n ≤ 31) ∧ (0 ≤ m ∧ m ≤ 31) ∧ a = 0 ∧ c = 0 ∧ imm = 0 ∧ (True) := h
  unfold kindN
  rw [if_neg (show ¬ (w / 67108864 = 5) by omega)]
  rw [if_neg (show ¬ (w / 67108864 = 37) by omega)]
  rw [if_neg (show ¬ (w / 16777216 = 84) by omega)]
  rw [if_neg (show ¬ (w / 16777216 = 180) by omega)]
  rw [if_neg (show ¬ (w / 16777216 = 181) by omega)]
  rw [if_neg (show ¬ (w / 8388608 = 421) by omega)]
  rw [if_neg (show ¬ (w / 8388608 = 485) by omega)]
  rw [if_neg (show ¬ (w / 2097152 = 1696) by omega)]
  rw [if_neg (show ¬ (w = 3573751839) by omega)]
  rw [if_neg (show ¬ (w / 4194304 = 580) by omega)]
  rw [if_neg (show ¬ (w / 4194304 = 836) by omega)]
  rw [if_neg (show ¬ (w / 4194304 = 964) by omega)]
  rw [if_neg (show ¬ (w / 2097152 = 1112 ∧ w / 1024 % 64 = 0) by omega)]
  rw [if_neg (show ¬ (w / 2097152 = 1624 ∧ w / 1024 % 64 = 0) by omega)]
  rw [if_neg (show ¬ (w / 2097152 = 1880 ∧ w / 1024 % 64 = 0) by omega)]
  rw [if_neg (show ¬ (w / 2097152 = 1104 ∧ w / 1024 % 64 = 0) by omega)]
  rw [if_neg (show ¬ (w / 2097152 = 1360 ∧ w / 1024 % 64 = 0) by omega)]
  rw [if_neg (show ¬ (w / 2097152 = 1616 ∧ w / 1024 % 64 = 0) by omega)]
  rw [if_neg (show ¬ (w / 2097152 = 1240 ∧ w / 32768 % 2 = 0) by omega)]
  rw [if_neg (show ¬ (w / 2097152 = 1240 ∧ w / 32768 % 2 = 1) by omega)]
  rw [if_neg (show ¬ (w / 2097152 = 1238 ∧ w / 1024 % 64 = 3) by omega)]
  rw [if_neg (show ¬ (w / 2097152 = 1238 ∧ w / 1024 % 64 = 8) by omega)]
  rw [if_pos (show w / 2097152 = 1238 ∧ w / 1024 % 64 = 9 by omega)]
set_option maxHeartbeats 4000000 in
theorem kind_18 {d n m a c imm w : Int} (h : okP 18 d n m a c imm) (hw : w = 2596284416 + n * 32 + m * 65536 + d) : kindN w = 18 := by
  obtain ⟨hd, hn, hm, ha, hc, hz, hi⟩ : (0 ≤ d ∧ d ≤ 31) ∧ (0 ≤ n ∧ n ≤ 31) ∧ (0 ≤ m ∧ m ≤ 31) ∧ a = 0 ∧ c = 0 ∧ imm = 0 ∧ (True) := h
  unfold kindN
  rw [if_neg (show ¬ (w / 67108864 = 5) by omega)]
  rw [if_neg (show ¬ (w / 67108864 = 37) by omega)]
  rw [if_neg (show ¬ (w / 16777216 = 84) by omega)]
  rw [if_neg (show ¬ (w / 16777216 = 180) by omega)]
  rw [if_neg (show ¬ (w / 16777216 = 181) by omega)]
  rw [if_neg (show ¬ (w / 8388608 = 421) by omega)]
  rw [if_neg (show ¬ (w / 8388608 = 485) by omega)]
  rw [if_neg (show ¬ (w / 2097152 = 1696) by omega)]
  rw [if_neg (show ¬ (w = 3573751839) by omega)]
  rw [if_neg (show ¬ (w / 4194304 = 580) by omega)]
  rw [if_neg (show ¬ (w / 4194304 = 836) by omega)]
  rw [if_neg (show ¬ (w / 4194304 = 964) by omega)]
  rw [if_neg (show ¬ (w / 2097152 = 1112 ∧ w / 1024 % 64 = 0) by omega)]
  rw [if_neg (show ¬ (w / 2097152 = 1624 ∧ w / 1024 % 64 = 0) by omega)]
  rw [if_neg (show ¬ (w / 2097152 = 1880 ∧ w / 1024 % 64 = 0) by omega)]
  rw [if_neg (show ¬ (w / 2097152 = 1104 ∧ w / 1024 % 64 = 0) by omega)]
  rw [if_neg (show ¬ (w / 2097152 = 1360 ∧ w / 1024 % 64 = 0) by omega)]
  rw [if_neg (show ¬ (w / 2097152 = 1616 ∧ w / 1024 % 64 = 0) by omega)]
  rw [if_neg (show ¬ (w / 2097152 = 1240 ∧ w / 32768 % 2 = 0) by omega)]
  rw [if_neg (show ¬ (w / 2097152 = 1240 ∧ w / 32768 % 2 = 1) by omega)]
  rw [if_neg (show ¬ (w / 2097152 = 1238 ∧ w / 1024 % 64 = 3) by omega)]
  rw [if_neg (show ¬ (w / 2097152 = 1238 ∧ w / 1024 % 64 = 8) by omega)]
  rw [if_neg (show ¬ (w / 2097152 = 1238 ∧ w / 1024 % 64 = 9) by omega)]
  rw [if_pos (show w / 2097152 = 1238 ∧ w / 1024 % 64 = 10 by omega)]
set_option maxHeartbeats 4000000 in
theorem kind_19 {d n m a c imm w : Int} (h : okP 19 d n m a c imm) (hw : w = 2592080896 + n * 32 + c * 4096 + m * 65536 + d) : kindN w = 19 := by
  obtain ⟨hd, hn, hm, ha, hc, hz, hi⟩ : (0 ≤ d ∧ d ≤ 31) ∧ (0 ≤ n ∧ n ≤ 31) ∧ (0 ≤ m ∧ m ≤ 31) ∧ a = 0 ∧ (0 ≤ c ∧ c ≤ 15) ∧ imm = 0 ∧ (True) := h
  unfold kindN
  rw [if_neg (show ¬ (w / 67108864 = 5) by omega)]
  rw [if_neg (show ¬ (w / 67108864 = 37) by omega)]
  rw [if_neg (show ¬ (w / 16777216 = 84) by omega)]
  rw [if_neg (show ¬ (w / 16777216 = 180) by omega)]
  rw [if_neg (show ¬ (w / 16777216 = 181) by omega)]
  rw [if_neg (show ¬ (w / 8388608 = 421) by omega)]
  rw [if_neg (show ¬ (w / 8388608 = 485) by omega)]
  rw [if_neg (show ¬ (w / 2097152 = 1696) by omega)]
  rw [if_neg (show ¬ (w = 3573751839) by omega)]
  rw [if_neg (show ¬ (w / 4194304 = 580) by omega)]
  rw [if_neg (show ¬ (w / 4194304 = 836) by omega)]
  rw [if_neg (show ¬ (w / 4194304 = 964) by omega)]
  rw [if_neg (show ¬ (w / 2097152 = 1112 ∧ w / 1024 % 64 = 0) by omega)]
  rw [if_neg (show ¬ (w / 2097152 = 1624 ∧ w / 1024 % 64 = 0) by omega)]
  rw [if_neg (show ¬ (w / 2097152 = 1880 ∧ w / 1024 % 64 = 0) by omega)]
  rw [if_neg (show ¬ (w / 2097152 = 1104 ∧ w / 1024 % 64 = 0) by omega)]
  rw [if_neg (show ¬ (w / 2097152 = 1360 ∧ w / 1024 % 64 = 0) by omega)]
  rw [if_neg (show ¬ (w / 2097152 = 1616 ∧ w / 1024 % 64 = 0) by omega)]
  rw [if_neg (show ¬ (w / 2097152 = 1240 ∧ w / 32768 % 2 = 0) by omega)]
  rw [if_neg (show ¬ (w / 2097152 = 1240 ∧ w / 32768 % 2 = 1) by omega)]
  rw [if_neg (show ¬ (w / 2097152 = 1238 ∧ w / 1024 % 64 = 3) by omega)]
  rw [if_neg (show ¬ (w / 2097152 = 1238 ∧ w / 1024 % 64 = 8) by omega)]
  rw [if_neg (show ¬ (w / 2097152 = 1238 ∧ w / 1024 % 64 = 9) by omega)]
  rw [if_neg (show ¬ (w / 2097152 = 1238 ∧ w / 1024 % 64 = 10) by omega)]
  rw [if_pos (show w / 2097152 = 1236 ∧ w / 1024 % 4 = 1 by omega)]
set_option maxHeartbeats 4000000 in
theorem kind_20 {d n m a c imm w : Int} (h : okP 20 d n m a c imm) (hw : w = 335544320 + ((imm / 4) % 67108864)) : kindN w = 20 := by
  obtain ⟨hd, hn, hm, ha, hc, hz, hi⟩ : d = 0 ∧ n = 0 ∧ m = 0 ∧ a = 0 ∧ c = 0 ∧ True ∧ (imm % 4 = 0 ∧ -134217728 ≤ imm ∧ imm < 134217728) := h
  unfold kindN
  rw [if_pos (show w / 67108864 = 5 by omega)]
set_option maxHeartbeats 4000000 in
theorem kind_21 {d n m a c imm w : Int} (h : okP 21 d n m a c imm) (hw : w = 1409286144 + ((imm / 4) % 524288) * 32 + c) : kindN w = 21 := by
  obtain ⟨hd, hn, hm, ha, hc, hz, hi⟩ : d = 0 ∧ n = 0 ∧ m = 0 ∧ a = 0 ∧ (0 ≤ c ∧ c ≤ 15) ∧ True ∧ (imm % 4 = 0 ∧ -1048576 ≤ imm ∧ imm < 1048576 ∧ c ≤ 13) := h
  unfold kindN
  rw [if_neg (show ¬ (w / 67108864 = 5) by omega)]
  rw [if_neg (show ¬ (w / 67108864 = 37) by omega)]
  rw [if_pos (show w / 16777216 = 84 by omega)]
set_option maxHeartbeats 4000000 in
theorem kind_22 {d n m a c imm w : Int} (h : okP 22 d n m a c imm) (hw : w = 3019898880 + ((imm / 4) % 524288) * 32 + d) : kindN w = 22 := by
  obtain ⟨hd, hn, hm, ha, hc, hz, hi⟩ : (0 ≤ d ∧ d ≤ 31) ∧ n = 0 ∧ m = 0 ∧ a = 0 ∧ c = 0 ∧ True ∧ (imm % 4 = 0 ∧ -1048576 ≤ imm ∧ imm < 1048576) := h
  unfold kindN
  rw [if_neg (show ¬ (w / 67108864 = 5) by omega)]
  rw [if_neg (show ¬ (w / 67108864 = 37) by omega)]
  rw [if_neg (show ¬ (w / 16777216 = 84) by omega)]
  rw [if_pos (show w / 16777216 = 180 by omega)]
set_option maxHeartbeats 4000000 in
theorem kind_23 {d n m a c imm w : Int} (h : okP 23 d n m a c imm) (hw : w = 3036676096 + ((imm / 4) % 524288) * 32 + d) : kindN w = 23 := by
  obtain ⟨hd, hn, hm, ha, hc, hz, hi⟩ : (0 ≤ d ∧ d ≤ 31) ∧ n = 0 ∧ m = 0 ∧ a = 0 ∧ c = 0 ∧ True ∧ (imm % 4 = 0 ∧ -1048576 ≤ imm ∧ imm < 1048576) := h
  unfold kindN
  rw [if_neg (show ¬ (w / 67108864 = 5) by omega)]
  rw [if_neg (show ¬ (w / 67108864 = 37) by omega)]
  rw [if_neg (show ¬ (w / 16777216 = 84) by omega)]
  rw [if_neg (show ¬ (w / 16777216 = 180) by omega)]
  rw [if_pos (show w / 16777216 = 181 by omega)]
set_option maxHeartbeats 4000000 in
theorem kind_24 {d n m a c imm w : Int} (h : okP 24 d n m a c imm) (hw : w = 2483027968 + ((imm / 4) % 67108864)) : kindN w = 24 := by
  obtain ⟨hd, hn, hm, ha, hc, hz, hi⟩ : d = 0 ∧ n = 0 ∧ m = 0 ∧ a = 0 ∧ c = 0 ∧ True ∧ (imm % 4 = 0 ∧ -134217728 ≤ imm ∧ imm < 134217728) := h
  unfold kindN
  rw [if_neg (show ¬ (w / 67108864 = 5) by omega)]
  rw [if_pos (show w / 67108864 = 37 by omega)]
set_option maxHeartbeats 4000000 in
theorem kind_25 {d n m a c imm w : Int} (h : okP 25 d n m a c imm) (hw : w = 3592355840 + n * 32) : kindN w = 25 := by
  obtain ⟨hd, hn, hm, ha, hc, hz, hi⟩ : d = 0 ∧ (0 ≤ n ∧ n ≤ 31) ∧ m = 0 ∧ a = 0 ∧ c = 0 ∧ imm = 0 ∧ (True) := h
  unfold kindN
  rw [if_neg (show ¬ (w / 67108864 = 5) by omega)]
  rw [if_neg (show ¬ (w / 67108864 = 37) by omega)]
  rw [if_neg (show ¬ (w / 16777216 = 84) by omega)]
  rw [if_neg (show ¬ (w / 16777216 = 180) by omega)]
  rw [if_neg (show ¬ (w / 16777216 = 181) by omega)]
  rw [if_neg (show ¬ (w / 8388608 = 421) by omega)]
  rw [if_neg (show ¬ (w / 8388608 = 485) by omega)]
  rw [if_neg (show ¬ (w / 2097152 = 1696) by omega)]
  rw [if_neg (show ¬ (w = 3573751839) by omega)]
  rw [if_neg (show ¬ (w / 4194304 = 580) by omega)]
  rw [if_neg (show ¬ (w / 4194304 = 836) by omega)]
  rw [if_neg (show ¬ (w / 4194304 = 964) by omega)]
  rw [if_neg (show ¬ (w / 2097152 = 1112 ∧ w / 1024 % 64 = 0) by omega)]
  rw [if_neg (show ¬ (w / 2097152 = 1624 ∧ w / 1024 % 64 = 0) by omega)]
  rw [if_neg (show ¬ (w / 2097152 = 1880 ∧ w / 1024 % 64 = 0) by omega)]
  rw [if_neg (show ¬ (w / 2097152 = 1104 ∧ w / 1024 % 64 = 0) by omega)]
  rw [if_neg (show ¬ (w / 2097152 = 1360 ∧ w / 1024 % 64 = 0) by omega)]
  rw [if_neg (show ¬ (w / 2097152 = 1616 ∧ w / 1024 % 64 = 0) by omega)]
  rw [if_neg (show ¬ (w / 2097152 = 1240 ∧ w / 32768 % 2 = 0) by omega)]
  rw [if_neg (show ¬ (w / 2097152 = 1240 ∧ w / 32768 % 2 = 1) by omega)]
  rw [if_neg (show ¬ (w / 2097152 = 1238 ∧ w / 1024 % 64 = 3) by omega)]
  rw [if_neg (show ¬ (w / 2097152 = 1238 ∧ w / 1024 % 64 = 8) by omega)]
  rw [if_neg (show ¬ (w / 2097152 = 1238 ∧ w / 1024 % 64 = 9) by omega)]
  rw [if_neg (show ¬ (w / 2097152 = 1238 ∧ w / 1024 % 64 = 10) by omega)]
  rw [if_neg (show ¬ (w / 2097152 = 1236 ∧ w / 1024 % 4 = 1) by omega)]
  rw [if_pos (show w / 1024 = 3508160 ∧ w % 32 = 0 by omega)]
set_option maxHeartbeats 4000000 in
theorem kind_26 {d n m a c imm w : Int} (h : okP 26 d n m a c imm) (hw : w = 3594452992 + n * 32) : kindN w = 26 := by
  obtain ⟨hd, hn, hm, ha, hc, hz, hi⟩ : d = 0 ∧ (0 ≤ n ∧ n ≤ 31) ∧ m = 0 ∧ a = 0 ∧ c = 0 ∧ imm = 0 ∧ (True) := h
  unfold kindN
  rw [if_neg (show ¬ (w / 67108864 = 5) by omega)]
  rw [if_neg (show ¬ (w / 67108864 = 37) by omega)]
  rw [if_neg (show ¬ (w / 16777216 = 84) by omega)]
  rw [if_neg (show ¬ (w / 16777216 = 180) by omega)]
  rw [if_neg (show ¬ (w / 16777216 = 181) by omega)]
  rw [if_neg (show ¬ (w / 8388608 = 421) by omega)]
  rw [if_neg (show ¬ (w / 8388608 = 485) by omega)]
  rw [if_neg (show ¬ (w / 2097152 = 1696) by omega)]
  rw [if_neg (show ¬ (w = 3573751839) by omega)]
  rw [if_neg (show ¬ (w / 4194304 = 580) by omega)]
  rw [if_neg (show ¬ (w / 4194304 = 836) by omega)]
  rw [if_neg (show ¬ (w / 4194304 = 964) by omega)]
  rw [if_neg (show ¬ (w / 2097152 = 1112 ∧ w / 1024 % 64 = 0) by omega)]
  rw [if_neg (show ¬ (w / 2097152 = 1624 ∧ w / 1024 % 64 = 0) by omega)]
  rw [if_neg (show ¬ (w / 2097152 = 1880 ∧ w / 1024 % 64 = 0) by omega)]
  rw [if_neg (show ¬ (w / 2097152 = 1104 ∧ w / 1024 % 64 = 0) by omega)]
  rw [if_neg (show ¬ (w / 2097152 = 1360 ∧ w / 1024 % 64 = 0) by omega)]
  rw [if_neg (show ¬ (w / 2097152 = 1616 ∧ w / 1024 % 64 = 0) by omega)]
  rw [if_neg (show ¬ (w / 2097152 = 1240 ∧ w / 32768 % 2 = 0) by omega)]
  rw [if_neg (show ¬ (w / 2097152 = 1240 ∧ w / 32768 % 2 = 1) by omega)]
  rw [if_neg (show ¬ (w / 2097152 = 1238 ∧ w / 1024 % 64 = 3) by omega)]
  rw [if_neg (show ¬ (w / 2097152 = 1238 ∧ w / 1024 % 64 = 8) by omega)]
  rw [if_neg (show ¬ (w / 2097152 = 1238 ∧ w / 1024 % 64 = 9) by omega)]
  rw [if_neg (show ¬ (w / 2097152 = 1238 ∧ w / 1024 % 64 = 10) by omega)]
  rw [if_neg (show ¬ (w / 2097152 = 1236 ∧ w / 1024 % 4 = 1) by omega)]
  rw [if_neg (show ¬ (w / 1024 = 3508160 ∧ w % 32 = 0) by omega)]
  rw [if_pos (show w / 1024 = 3510208 ∧ w % 32 = 0 by omega)]
set_option maxHeartbeats 4000000 in
theorem kind_27 {d n m a c imm w : Int} (h : okP 27 d n m a c imm) (hw : w = 3596550144 + n * 32) : kindN w = 27 := by
  obtain ⟨hd, hn, hm, ha, hc, hz, hi⟩ : d = 0 ∧ (0 ≤ n ∧ n ≤ 31) ∧ m = 0 ∧ a = 0 ∧ c = 0 ∧ imm = 0 ∧ (True) := h
  unfold kindN
  rw [if_neg (show ¬ (w / 67108864 = 5) by omega)]
  rw [if_neg (show ¬ (w / 67108864 = 37) by omega)]
  rw [if_neg (show ¬ (w / 16777216 = 84) by omega)]
  rw [if_neg (show ¬ (w / 16777216 = 180) by omega)]
  rw [if_neg (show ¬ (w / 16777216 = 181) by omega)]
  rw [if_neg (show ¬ (w / 8388608 = 421) by omega)]
  rw [if_neg (show ¬ (w / 8388608 = 485) by omega)]
  rw [if_neg (show ¬ (w / 2097152 = 1696) by omega)]
  rw [if_neg (show ¬ (w = 3573751839) by omega)]
  rw [if_neg (show ¬ (w / 4194304 = 580) by omega)]
  rw [if_neg (show ¬ (w / 4194304 = 836) by omega)]
  rw [if_neg (show ¬ (w / 4194304 = 964) by omega)]
  rw [if_neg (show ¬ (w / 2097152 = 1112 ∧ w / 1024 % 64 = 0) by omega)]
  rw [if_neg (show ¬ (w / 2097152 = 1624 ∧ w / 1024 % 64 = 0) by omega)]
  rw [if_neg (show ¬ (w / 2097152 = 1880 ∧ w / 1024 % 64 = 0) by omega)]
  rw [if_neg (show ¬ (w / 2097152 = 1104 ∧ w / 1024 % 64 = 0) by omega)]
  rw [if_neg (show ¬ (w / 2097152 = 1360 ∧ w / 1024 % 64 = 0) by omega)]
  rw [if_neg (show ¬ (w / 2097152 = 1616 ∧ w / 1024 % 64 = 0) by omega)]
  rw [if_neg (show ¬ (w / 2097152 = 1240 ∧ w / 32768 % 2 = 0) by omega)]
  rw [if_neg (show ¬ (w / 2097152 = 1240 ∧ w / 32768 % 2 = 1) by omega)]
  rw [if_neg (show ¬ (w / 2097152 = 1238 ∧ w / 1024 % 64 = 3) by omega)]
  rw [if_neg (show ¬ (w / 2097152 = 1238 ∧ w / 1024 % 64 = 8) by omega)]
  rw [if_neg (show ¬ (w / 2097152 = 1238 ∧ w / 1024 % 64 = 9) by omega)]
  rw [if_neg (show ¬ (w / 2097152 = 1238 ∧ w / 1024 % 64 = 10) by omega)]
  rw [if_neg (show ¬ (w / 2097152 = 1236 ∧ w / 1024 % 4 = 1) by omega)]
  rw [if_neg (show ¬ (w / 1024 = 3508160 ∧ w % 32 = 0) by omega)]
  rw [if_neg (show ¬ (w / 1024 = 3510208 ∧ w % 32 = 0) by omega)]
  rw [if_pos (show w / 1024 = 3512256 ∧ w % 32 = 0 by omega)]
set_option maxHeartbeats 4000000 in
theorem kind_28 {d n m a c imm w : Int} (h : okP 28 d n m a c imm) (hw : w = 4181721088 + n * 32 + (imm / 8) * 1024 + d) : kindN w = 28 := by
  obtain ⟨hd, hn, hm, ha, hc, hz, hi⟩ : (0 ≤ d ∧ d ≤ 31) ∧ (0 ≤ n ∧ n ≤ 31) ∧ m = 0 ∧ a = 0 ∧ c = 0 ∧ True ∧ (0 ≤ imm ∧ imm < 32768 ∧ imm % 8 = 0) := h
  unfold kindN
  rw [if_neg (show ¬ (w / 67108864 = 5) by omega)]
  rw [if_neg (show ¬ (w / 67108864 = 37) by omega)]
  rw [if_neg (show ¬ (w / 16777216 = 84) by omega)]
  rw [if_neg (show ¬ (w / 16777216 = 180) by omega)]
  rw [if_neg (show ¬ (w / 16777216 = 181) by omega)]
  rw [if_neg (show ¬ (w / 8388608 = 421) by omega)]
  rw [if_neg (show ¬ (w / 8388608 = 485) by omega)]
  rw [if_neg (show ¬ (w / 2097152 = 1696) by omega)]
  rw [if_neg (show ¬ (w = 3573751839) by omega)]
  rw [if_neg (show ¬ (w / 4194304 = 580) by omega)]
  rw [if_neg (show ¬ (w / 4194304 = 836) by omega)]
  rw [if_neg (show ¬ (w / 4194304 = 964) by omega)]
  rw [if_neg (show ¬ (w / 2097152 = 1112 ∧ w / 1024 % 64 = 0) by omega)]
  rw [if_neg (show ¬ (w / 2097152 = 1624 ∧ w / 1024 % 64 = 0) by omega)]
  rw [if_neg (show ¬ (w / 2097152 = 1880 ∧ w / 1024 % 64 = 0) by omega)]
  rw [if_neg (show ¬ (w / 2097152 = 1104 ∧ w / 1024 % 64 = 0) by omega)]
  rw [if_neg (show ¬ (w / 2097152 = 1360 ∧ w / 1024 % 64 = 0) by omega)]
  rw [if_neg (show ¬ (w / 2097152 = 1616 ∧ w / 1024 % 64 = 0) by omega)]
  rw [if_neg (show ¬ (w / 2097152 = 1240 ∧ w / 32768 % 2 = 0) by omega)]
  rw [if_neg (show ¬ (w / 2097152 = 1240 ∧ w / 32768 % 2 = 1) by omega)]
  rw [if_neg (show ¬ (w / 2097152 = 1238 ∧ w / 1024 % 64 = 3) by omega)]
  rw [if_neg (show ¬ (w / 2097152 = 1238 ∧ w / 1024 % 64 = 8) by omega)]
  rw [if_neg (show ¬ (w / 2097152 = 1238 ∧ w / 1024 % 64 = 9) by omega)]
  rw [if_neg (show ¬ (w / 2097152 = 1238 ∧ w / 1024 % 64 = 10) by omega)]
  rw [if_neg (show ¬ (w / 2097152 = 1236 ∧ w / 1024 % 4 = 1) by omega)]
  rw [if_neg (show ¬ (w / 1024 = 3508160 ∧ w % 32 = 0) by omega)]
  rw [if_neg (show ¬ (w / 1024 = 3510208 ∧ w % 32 = 0) by omega)]
  rw [if_neg (show ¬ (w / 1024 = 3512256 ∧ w % 32 = 0) by omega)]
  rw [if_pos (show w / 4194304 = 997 by omega)]
set_option maxHeartbeats 4000000 in
theorem kind_29 {d n m a c imm w : Int} (h : okP 29 d n m a c imm) (hw : w = 4177526784 + n * 32 + (imm / 8) * 1024 + d) : kindN w = 29 := by
  obtain ⟨hd, hn, hm, ha, hc, hz, hi⟩ : (0 ≤ d ∧ d ≤ 31) ∧ (0 ≤ n ∧ n ≤ 31) ∧ m = 0 ∧ a = 0 ∧ c = 0 ∧ True ∧ (0 ≤ imm ∧ imm < 32768 ∧ imm % 8 = 0) := h
  unfold kindN
  rw [if_neg (show ¬ (w / 67108864 = 5) by omega)]
  rw [if_neg (show ¬ (w / 67108864 = 37) by omega)]
  rw [if_neg (show ¬ (w / 16777216 = 84) by omega)]
  rw [if_neg (show ¬ (w / 16777216 = 180) by omega)]
  rw [if_neg (show ¬ (w / 16777216 = 181) by omega)]
  rw [if_neg (show ¬ (w / 8388608 = 421) by omega)]
  rw [if_neg (show ¬ (w / 8388608 = 485) by omega)]
  rw [if_neg (show ¬ (w / 2097152 = 1696) by omega)]
  rw [if_neg (show ¬ (w = 3573751839) by omega)]
  rw [if_neg (show ¬ (w / 4194304 = 580) by omega)]
  rw [if_neg (show ¬ (w / 4194304 = 836) by omega)]
  rw [if_neg (show ¬ (w / 4194304 = 964) by omega)]
  rw [if_neg (show ¬ (w / 2097152 = 1112 ∧ w / 1024 % 64 = 0) by omega)]
  rw [if_neg (show ¬ (w / 2097152 = 1624 ∧ w / 1024 % 64 = 0) by omega)]
  rw [if_neg (show ¬ (w / 2097152 = 1880 ∧ w / 1024 % 64 = 0) by omega)]
  rw [if_neg (show ¬ (w / 2097152 = 1104 ∧ w / 1024 % 64 = 0) by omega)]
  rw [if_neg (show ¬ (w / 2097152 = 1360 ∧ w / 1024 % 64 = 0) by omega)]
  rw [if_neg (show ¬ (w / 2097152 = 1616 ∧ w / 1024 % 64 = 0) by omega)]
  rw [if_neg (show ¬ (w / 2097152 = 1240 ∧ w / 32768 % 2 = 0) by omega)]
  rw [if_neg (show ¬ (w / 2097152 = 1240 ∧ w / 32768 % 2 = 1) by omega)]
  rw [if_neg (show ¬ (w / 2097152 = 1238 ∧ w / 1024 % 64 = 3) by omega)]
  rw [if_neg (show ¬ (w / 2097152 = 1238 ∧ w / 1024 % 64 = 8) by omega)]
  rw [if_neg (show ¬ (w / 2097152 = 1238 ∧ w / 1024 % 64 = 9) by omega)]
  rw [if_neg (show ¬ (w / 2097152 = 1238 ∧ w / 1024 % 64 = 10) by omega)]
  rw [if_neg (show ¬ (w / 2097152 = 1236 ∧ w / 1024 % 4 = 1) by omega)]
  rw [if_neg (show ¬ (w / 1024 = 3508160 ∧ w % 32 = 0) by omega)]
  rw [if_neg (show ¬ (w / 1024 = 3510208 ∧ w % 32 = 0) by omega)]
  rw [if_neg (show ¬ (w / 1024 = 3512256 ∧ w % 32 = 0) by omega)]
  rw [if_neg (show ¬ (w / 4194304 = 997) by omega)]
  rw [if_pos (show w / 4194304 = 996 by omega)]
set_option maxHeartbeats 4000000 in
theorem kind_30 {d n m a c imm w : Int} (h : okP 30 d n m a c imm) (hw : w = 960495616 + n * 32 + imm * 1024 + d) : kindN w = 30 := by
  obtain ⟨hd, hn, hm, ha, hc, hz, hi⟩ : (0 ≤ d ∧ d ≤ 31) ∧ (0 ≤ n ∧ n ≤ 31) ∧ m = 0 ∧ a = 0 ∧ c = 0 ∧ True ∧ (0 ≤ imm ∧ imm < 4096) := h
  unfold kindN
  rw [if_neg (show ¬ (w / 67108864 = 5) by omega)]
  rw [if_neg (show ¬ (w / 67108864 = 37) by omega)]
  rw [if_neg (show ¬ (w / 16777216 = 84) by omega)]
  rw [if_neg (show ¬ (w / 16777216 = 180) by omega)]
  rw [if_neg (show ¬ (w / 16777216 = 181) by omega)]
  rw [if_neg (show ¬ (w / 8388608 = 421) by omega)]
  rw [if_neg (show ¬ (w / 8388608 = 485) by omega)]
  rw [if_neg (show ¬ (w / 2097152 = 1696) by omega)]
  rw [if_neg (show ¬ (w = 3573751839) by omega)]
  rw [if_neg (show ¬ (w / 4194304 = 580) by omega)]
  rw [if_neg (show ¬ (w / 4194304 = 836) by omega)]
  rw [if_neg (show ¬ (w / 4194304 = 964) by omega)]
  rw [if_neg (show ¬ (w / 2097152 = 1112 ∧ w / 1024 % 64 = 0) by omega)]
  rw [if_neg (show ¬ (w / 2097152 = 1624 ∧ w / 1024 % 64 = 0) by omega)]
  rw [if_neg (show ¬ (w / 2097152 = 1880 ∧ w / 1024 % 64 = 0) by omega)]
  rw [if_neg (show ¬ (w / 2097152 = 1104 ∧ w / 1024 % 64 = 0) by omega)]
  rw [if_neg (show ¬ (w / 2097152 = 1360 ∧ w / 1024 % 64 = 0) by omega)]
  rw [if_neg (show ¬ (w / 2097152 = 1616 ∧ w / 1024 % 64 = 0) by omega)]
  rw [if_neg (show ¬ (w / 2097152 = 1240 ∧ w / 32768 % 2 = 0) by omega)]
  rw [if_neg (show ¬ (w / 2097152 = 1240 ∧ w / 32768 % 2 = 1) by omega)]
  rw [if_neg (show ¬ (w / 2097152 = 1238 ∧ w / 1024 % 64 = 3) by omega)]
  rw [if_neg (show ¬ (w / 2097152 = 1238 ∧ w / 1024 % 64 = 8) by omega)]
  rw [if_neg (show ¬ (w / 2097152 = 1238 ∧ w / 1024 % 64 = 9) by omega)]
  rw [if_neg (show ¬ (w / 2097152 = 1238 ∧ w / 1024 % 64 = 10) by omega)]
  rw [if_neg (show ¬ (w / 2097152 = 1236 ∧ w / 1024 % 4 = 1) by omega)]
  rw [if_neg (show ¬ (w / 1024 = 3508160 ∧ w % 32 = 0) by omega)]
  rw [if_neg (show ¬ (w / 1024 = 3510208 ∧ w % 32 = 0) by omega)]
  rw [if_neg (show ¬ (w / 1024 = 3512256 ∧ w % 32 = 0) by omega)]
  rw [if_neg (show ¬ (w / 4194304 = 997) by omega)]
  rw [if_neg (show ¬ (w / 4194304 = 996) by omega)]
  rw [if_pos (show w / 4194304 = 229 by omega)]
set_option maxHeartbeats 4000000 in
theorem kind_31 {d n m a c imm w : Int} (h : okP 31 d n m a c imm) (hw : w = 4167071744 + n * 32 + m * 65536 + d) : kindN w = 31 := by
  obtain ⟨hd, hn, hm, ha, hc, hz, hi⟩ : (0 ≤ d ∧ d ≤ 31) ∧ (0 ≤ n ∧ n ≤ 31) ∧ (0 ≤ m ∧ m ≤ 31) ∧ a = 0 ∧ c = 0 ∧ imm = 0 ∧ (True) := h
  unfold kindN
  rw [if_neg (show ¬ (w / 67108864 = 5) by omega)]
  rw [if_neg (show ¬ (w / 67108864 = 37) by omega)]
  rw [if_neg (show ¬ (w / 16777216 = 84) by omega)]
  rw [if_neg (show ¬ (w / 16777216 = 180) by omega)]
  rw [if_neg (show ¬ (w / 16777216 = 181) by omega)]
  rw [if_neg (show ¬ (w / 8388608 = 421) by omega)]
  rw [if_neg (show ¬ (w / 8388608 = 485) by omega)]
  rw [if_neg (show ¬ (w / 2097152 = 1696) by omega)]
  rw [if_neg (show ¬ (w = 3573751839) by omega)]
  rw [if_neg (show ¬ (w / 4194304 = 580) by omega)]
  rw [if_neg (show ¬ (w / 4194304 = 836) by omega)]
  rw [if_neg (show ¬ (w / 4194304 = 964) by omega)]
  rw [if_neg (show ¬ (w / 2097152 = 1112 ∧ w / 1024 % 64 = 0) by omega)]
  rw [if_neg (show ¬ (w / 2097152 = 1624 ∧ w / 1024 % 64 = 0) by omega)]
  rw [if_neg (show ¬ (w / 2097152 = 1880 ∧ w / 1024 % 64 = 0) by omega)]
  rw [if_neg (show ¬ (w / 2097152 = 1104 ∧ w / 1024 % 64 = 0) by omega)]
  rw [if_neg (show ¬ (w / 2097152 = 1360 ∧ w / 1024 % 64 = 0) by omega)]
  rw [if_neg (show ¬ (w / 2097152 = 1616 ∧ w / 1024 % 64 = 0) by omega)]
  rw [if_neg (show ¬ (w / 2097152 = 1240 ∧ w / 32768 % 2 = 0) by omega)]
  rw [if_neg (show ¬ (w / 2097152 = 1240 ∧ w / 32768 % 2 = 1) by omega)]
  rw [if_neg (show ¬ (w / 2097152 = 1238 ∧ w / 1024 % 64 = 3) by omega)]
  rw [if_neg (show ¬ (w / 2097152 = 1238 ∧ w / 1024 % 64 = 8) by omega)]
  rw [if_neg (show ¬ (w / 2097152 = 1238 ∧ w / 1024 % 64 = 9) by omega)]
  rw [if_neg (show ¬ (w / 2097152 = 1238 ∧ w / 1024 % 64 = 10) by omega)]
  rw [if_neg (show ¬ (w / 2097152 = 1236 ∧ w / 1024 % 4 = 1) by omega)]
  rw [if_neg (show ¬ (w / 1024 = 3508160 ∧ w % 32 = 0) by omega)]
  rw [if_neg (show ¬ (w / 1024 = 3510208 ∧ w % 32 = 0) by omega)]
  rw [if_neg (show ¬ (w / 1024 = 3512256 ∧ w % 32 = 0) by omega)]
  rw [if_neg (show ¬ (w / 4194304 = 997) by omega)]
  rw [if_neg (show ¬ (w / 4194304 = 996) by omega)]
  rw [if_neg (show ¬ (w / 4194304 = 229) by omega)]
  rw [if_pos (show w / 2097152 = 1987 ∧ w / 1024 % 64 = 30 by omega)]
set_option maxHeartbeats 4000000 in
theorem kind_32 {d n m a c imm w : Int} (h : okP 32 d n m a c imm) (hw : w = 4162877440 + n * 32 + m * 65536 + d) : kindN w = 32 := by
  obtain ⟨hd, hn, hm, ha, hc, hz, hi⟩ : (0 ≤ d ∧ d ≤ 31) ∧ (0 ≤ n ∧ n ≤ 31) ∧ (0 ≤ m ∧ m ≤ 31) ∧ a = 0 ∧ c = 0 ∧ imm = 0 ∧ (True) := h
  unfold kindN
  rw [if_neg (show ¬ (w / 67108864 = 5) by omega)]
  rw [if_neg (show ¬ (w / 67108864 = 37) by omega)]
  rw [if_neg (show ¬ (w / 16777216 = 84) by omega)]
  rw [if_neg (show ¬ (w / 16777216 = 180) by omega)]
  rw [if_neg (show ¬ (w / 16777216 = 181) by omega)]
  rw [if_neg (show ¬ (w / 8388608 = 421) by omega)]
  rw [if_neg (show ¬ (w / 8388608 = 485) by omega)]
  rw [if_neg (show ¬ (w / 2097152 = 1696) by omega)]
  rw [if_neg (show ¬ (w = 3573751839) by omega)]
  rw [if_neg (show ¬ (w / 4194304 = 580) by omega)]
  rw [if_neg (show ¬ (w / 4194304 = 836) by omega)]
  rw [if_neg (show ¬ (w / 4194304 = 964) by omega)]
  rw [if_neg (show ¬ (w / 2097152 = 1112 ∧ w / 1024 % 64 = 0) by omega)]
  rw [if_neg (show ¬ (w / 2097152 = 1624 ∧ w / 1024 % 64 = 0) by omega)]
  rw [if_neg (show ¬ (w / 2097152 = 1880 ∧ w / 1024 % 64 = 0) by omega)]
  rw [if_neg (show ¬ (w / 2097152 = 1104 ∧ w / 1024 % 64 = 0) by omega)]
  rw [if_neg (show ¬ (w / 2097152 = 1360 ∧ w / 1024 % 64 = 0) by omega)]
  rw [if_neg (show ¬ (w / 2097152 = 1616 ∧ w / 1024 % 64 = 0) by omega)]
  rw [if_neg (show ¬ (w / 2097152 = 1240 ∧ w / 32768 % 2 = 0) by omega)]
  rw [if_neg (show ¬ (w / 2097152 = 1240 ∧ w / 32768 % 2 = 1) by omega)]
  rw [if_neg (show ¬ (w / 2097152 = 1238 ∧ w / 1024 % 64 = 3) by omega)]
  rw [if_neg (show ¬ (w / 2097152 = 1238 ∧ w / 1024 % 64 = 8) by omega)]
  rw [if_neg (show ¬ (w / 2097152 = 1238 ∧ w / 1024 % 64 = 9) by omega)]
  rw [if_neg (show ¬ (w / 2097152 = 1238 ∧ w / 1024 % 64 = 10) by omega)]
  rw [if_neg (show ¬ (w / 2097152 = 1236 ∧ w / 1024 % 4 = 1) by omega)]
  rw [if_neg (show ¬ (w / 1024 = 3508160 ∧ w % 32 = 0) by omega)]
  rw [if_neg (show ¬ (w / 1024 = 3510208 ∧ w % 32 = 0) by omega)]
  rw [if_neg (show ¬ (w / 1024 = 3512256 ∧ w % 32 = 0) by omega)]
  rw [if_neg (show ¬ (w / 4194304 = 997) by omega)]
  rw [if_neg (show ¬ (w / 4194304 = 996) by omega)]
  rw [if_neg (show ¬ (w / 4194304 = 229) by omega)]
  rw [if_neg (show ¬ (w / 2097152 = 1987 ∧ w / 1024 % 64 = 30) by omega)]
  rw [if_pos (show w / 2097152 = 1985 ∧ w / 1024 % 64 = 30 by omega)]
set_option maxHeartbeats 4000000 in
theorem kind_33 {d n m a c imm w : Int} (h : okP 33 d n m a c imm) (hw : w = 3370122240 + n * 32 + d) : kindN w = 33 := by
  obtain ⟨hd, hn, hm, ha, hc, hz, hi⟩ : (0 ≤ d ∧ d ≤ 31) ∧ (0 ≤ n ∧ n ≤ 31) ∧ m = 0 ∧ a = 0 ∧ c = 0 ∧ imm = 0 ∧ (True) := h
  unfold kindN
  rw [if_neg (show ¬ (w / 67108864 = 5) by omega)]
  rw [if_neg (show ¬ (w / 67108864 = 37) by omega)]
  rw [if_neg (show ¬ (w / 16777216 = 84) by omega)]
  rw [if_neg (show ¬ (w / 16777216 = 180) by omega)]
  rw [if_neg (show ¬ (w / 16777216 = 181) by omega)]
  rw [if_neg (show ¬ (w / 8388608 = 421) by omega)]
  rw [if_neg (show ¬ (w / 8388608 = 485) by omega)]
  rw [if_neg (show ¬ (w / 2097152 = 1696) by omega)]
  rw [if_neg (show ¬ (w = 3573751839) by omega)]
  rw [if_neg (show ¬ (w / 4194304 = 580) by omega)]
  rw [if_neg (show ¬ (w / 4194304 = 836) by omega)]
  rw [if_neg (show ¬ (w / 4194304 = 964) by omega)]
  rw [if_neg (show ¬ (w / 2097152 = 1112 ∧ w / 1024 % 64 = 0) by omega)]
  rw [if_neg (show ¬ (w / 2097152 = 1624 ∧ w / 1024 % 64 = 0) by omega)]
  rw [if_neg (show ¬ (w / 2097152 = 1880 ∧ w / 1024 % 64 = 0) by omega)]
  rw [if_neg (show ¬ (w / 2097152 = 1104 ∧ w / 1024 % 64 = 0) by omega)]
  rw [if_neg (show ¬ (w / 2097152 = 1360 ∧ w / 1024 % 64 = 0) by omega)]
  rw [if_neg (show ¬ (w / 2097152 = 1616 ∧ w / 1024 % 64 = 0) by omega)]
  rw [if_neg (show ¬ (w / 2097152 = 1240 ∧ w / 32768 % 2 = 0) by omega)]
  rw [if_neg (show ¬ (w / 2097152 = 1240 ∧ w / 32768 % 2 = 1) by omega)]
  rw [if_neg (show ¬ (w / 2097152 = 1238 ∧ w / 1024 % 64 = 3) by omega)]
  rw [if_neg (show ¬ (w / 2097152 = 1238 ∧ w / 1024 % 64 = 8) by omega)]
  rw [if_neg (show ¬ (w / 2097152 = 1238 ∧ w / 1024 % 64 = 9) by omega)]
  rw [if_neg (show ¬ (w / 2097152 = 1238 ∧ w / 1024 % 64 = 10) by omega)]
  rw [if_neg (show ¬ (w / 2097152 = 1236 ∧ w / 1024 % 4 = 1) by omega)]
  rw [if_neg (show ¬ (w / 1024 = 3508160 ∧ w % 32 = 0) by omega)]
  rw [if_neg (show ¬ (w / 1024 = 3510208 ∧ w % 32 = 0) by omega)]
  rw [if_neg (show ¬ (w / 1024 = 3512256 ∧ w % 32 = 0) by omega)]
  rw [if_neg (show ¬ (w / 4194304 = 997) by omega)]
  rw [if_neg (show ¬ (w / 4194304 = 996) by omega)]
  rw [if_neg (show ¬ (w / 4194304 = 229) by omega)]
  rw [if_neg (show ¬ (w / 2097152 = 1987 ∧ w / 1024 % 64 = 30) by omega)]
  rw [if_neg (show ¬ (w / 2097152 = 1985 ∧ w / 1024 % 64 = 30) by omega)]
  rw [if_pos (show w / 1024 = 3291135 by omega)]
set_option maxHeartbeats 4000000 in
theorem kind_34 {d n m a c imm w : Int} (h : okP 34 d n m a c imm) (hw : w = 3365927936 + n * 32 + d) : kindN w = 34 := by
  obtain ⟨hd, hn, hm, ha, hc, hz, hi⟩ : (0 ≤ d ∧ d ≤ 31) ∧ (0 ≤ n ∧ n ≤ 31) ∧ m = 0 ∧ a = 0 ∧ c = 0 ∧ imm = 0 ∧ (True) := h
  unfold kindN
  rw [if_neg (show ¬ (w / 67108864 = 5) by omega)]
  rw [if_neg (show ¬ (w / 67108864 = 37) by omega)]
  rw [if_neg (show ¬ (w / 16777216 = 84) by omega)]
  rw [if_neg (show ¬ (w / 16777216 = 180) by omega)]
  rw [if_neg (show ¬ (w / 16777216 = 181) by omega)]
  rw [if_neg (show ¬ (w / 8388608 = 421) by omega)]
  rw [if_neg (show ¬ (w / 8388608 = 485) by omega)]
  rw [if_neg (show ¬ (w / 2097152 = 1696) by omega)]
  rw [if_neg (show ¬ (w = 3573751839) by omega)]
  rw [if_neg (show ¬ (w / 4194304 = 580) by omega)]
  rw [if_neg (show ¬ (w / 4194304 = 836) by omega)]
  rw [if_neg (show ¬ (w / 4194304 = 964) by omega)]
  rw [if_neg (show ¬ (w / 2097152 = 1112 ∧ w / 1024 % 64 = 0) by omega)]
  rw [if_neg (show ¬ (w / 2097152 = 1624 ∧ w / 1024 % 64 = 0) by omega)]
  rw [if_neg (show ¬ (w / 2097152 = 1880 ∧ w / 1024 % 64 = 0) by omega)]
  rw [if_neg (show ¬ (w / 2097152 = 1104 ∧ w / 1024 % 64 = 0) by omega)]
  rw [if_neg (show ¬ (w / 2097152 = 1360 ∧ w / 1024 % 64 = 0) by omega)]
  rw [if_neg (show ¬ (w / 2097152 = 1616 ∧ w / 1024 % 64 = 0) by omega)]
  rw [if_neg (show ¬ (w / 2097152 = 1240 ∧ w / 32768 % 2 = 0) by omega)]
  rw [if_neg (show ¬ (w / 2097152 = 1240 ∧ w / 32768 % 2 = 1) by omega)]
  rw [if_neg (show ¬ (w / 2097152 = 1238 ∧ w / 1024 % 64 = 3) by omega)]
  rw [if_neg (show ¬ (w / 2097152 = 1238 ∧ w / 1024 % 64 = 8) by omega)]
  rw [if_neg (show ¬ (w / 2097152 = 1238 ∧ w / 1024 % 64 = 9) by omega)]
  rw [if_neg (show ¬ (w / 2097152 = 1238 ∧ w / 1024 % 64 = 10) by omega)]
  rw [if_neg (show ¬ (w / 2097152 = 1236 ∧ w / 1024 % 4 = 1) by omega)]
  rw [if_neg (show ¬ (w / 1024 = 3508160 ∧ w % 32 = 0) by omega)]
  rw [if_neg (show ¬ (w / 1024 = 3510208 ∧ w % 32 = 0) by omega)]
  rw [if_neg (show ¬ (w / 1024 = 3512256 ∧ w % 32 = 0) by omega)]
  rw [if_neg (show ¬ (w / 4194304 = 997) by omega)]
  rw [if_neg (show ¬ (w / 4194304 = 996) by omega)]
  rw [if_neg (show ¬ (w / 4194304 = 229) by omega)]
  rw [if_neg (show ¬ (w / 2097152 = 1987 ∧ w / 1024 % 64 = 30) by omega)]
  rw [if_neg (show ¬ (w / 2097152 = 1985 ∧ w / 1024 % 64 = 30) by omega)]
  rw [if_neg (show ¬ (w / 1024 = 3291135) by omega)]
  rw [if_pos (show w / 1024 = 3287039 by omega)]
set_option maxHeartbeats 4000000 in
theorem kind_35 {d n m a c imm w : Int} (h : okP 35 d n m a c imm) (hw : w = 3361700864 + n * 32 + d) : kindN w = 35 := by
  obtain ⟨hd, hn, hm, ha, hc, hz, hi⟩ : (0 ≤ d ∧ d ≤ 31) ∧ (0 ≤ n ∧ n ≤ 31) ∧ m = 0 ∧ a = 0 ∧ c = 0 ∧ imm = 0 ∧ (True) := h
  unfold kindN
  rw [if_neg (show ¬ (w / 67108864 = 5) by omega)]
  rw [if_neg (show ¬ (w / 67108864 = 37) by omega)]
  rw [if_neg (show ¬ (w / 16777216 = 84) by omega)]
  rw [if_neg (show ¬ (w / 16777216 = 180) by omega)]
  rw [if_neg (show ¬ (w / 16777216 = 181) by omega)]
  rw [if_neg (show ¬ (w / 8388608 = 421) by omega)]
  rw [if_neg (show ¬ (w / 8388608 = 485) by omega)]
  rw [if_neg (show ¬ (w / 2097152 = 1696) by omega)]
  rw [if_neg (show ¬ (w = 3573751839) by omega)]
  rw [if_neg (show ¬ (w / 4194304 = 580) by omega)]
  rw [if_neg (show ¬ (w / 4194304 = 836) by omega)]
  rw [if_neg (show ¬ (w / 4194304 = 964) by omega)]
  rw [if_neg (show ¬ (w / 2097152 = 1112 ∧ w / 1024 % 64 = 0) by omega)]
  rw [if_neg (show ¬ (w / 2097152 = 1624 ∧ w / 1024 % 64 = 0) by omega)]
  rw [if_neg (show ¬ (w / 2097152 = 1880 ∧ w / 1024 % 64 = 0) by omega)]
  rw [if_neg (show ¬ (w / 2097152 = 1104 ∧ w / 1024 % 64 = 0) by omega)]
  rw [if_neg (show ¬ (w / 2097152 = 1360 ∧ w / 1024 % 64 = 0) by omega)]
  rw [if_neg (show ¬ (w / 2097152 = 1616 ∧ w / 1024 % 64 = 0) by omega)]
  rw [if_neg (show ¬ (w / 2097152 = 1240 ∧ w / 32768 % 2 = 0) by omega)]
  rw [if_neg (show ¬ (w / 2097152 = 1240 ∧ w / 32768 % 2 = 1) by omega)]
  rw [if_neg (show ¬ (w / 2097152 = 1238 ∧ w / 1024 % 64 = 3) by omega)]
  rw [if_neg (show ¬ (w / 2097152 = 1238 ∧ w / 1024 % 64 = 8) by omega)]
  rw [if_neg (show ¬ (w / 2097152 = 1238 ∧ w / 1024 % 64 = 9) by omega)]
  rw [if_neg (show ¬ (w / 2097152 = 1238 ∧ w / 1024 % 64 = 10) by omega)]
  rw [if_neg (show ¬ (w / 2097152 = 1236 ∧ w / 1024 % 4 = 1) by omega)]
  rw [if_neg (show ¬ (w / 1024 = 3508160 ∧ w % 32 = 0) by omega)]
  rw [if_neg (show ¬ (w / 1024 = 3510208 ∧ w % 32 = 0) by omega)]
  rw [if_neg (show ¬ (w / 1024 = 3512256 ∧ w % 32 = 0) by omega)]
  rw [if_neg (show ¬ (w / 4194304 = 997) by omega)]
  rw [if_neg (show ¬ (w / 4194304 = 996) by omega)]
  rw [if_neg (show ¬ (w / 4194304 = 229) by omega)]
  rw [if_neg (show ¬ (w / 2097152 = 1987 ∧ w / 1024 % 64 = 30) by omega)]
  rw [if_neg (show ¬ (w / 2097152 = 1985 ∧ w / 1024 % 64 = 30) by omega)]
  rw [if_neg (show ¬ (w / 1024 = 3291135) by omega)]
  rw [if_neg (show ¬ (w / 1024 = 3287039) by omega)]
  rw [if_pos (show w / 1024 = 3282911 by omega)]
set_option maxHeartbeats 4000000 in
theorem kind_36 {d n m a c imm w : Int} (h : okP 36 d n m a c imm) (hw : w = 3355474944 + d * 65536 + n * 32 + m) : kindN w = 36 := by
  obtain ⟨hd, hn, hm, ha, hc, hz, hi⟩ : (0 ≤ d ∧ d ≤ 31) ∧ (0 ≤ n ∧ n ≤ 31) ∧ (0 ≤ m ∧ m ≤ 31) ∧ a = 0 ∧ c = 0 ∧ imm = 0 ∧ (True) := h
  unfold kindN
  rw [if_neg (show ¬ (w / 67108864 = 5) by omega)]
  rw [if_neg (show ¬ (w / 67108864 = 37) by omega)]
  rw [if_neg (show ¬ (w / 16777216 = 84) by omega)]
  rw [if_neg (show ¬ (w / 16777216 = 180) by omega)]
  rw [if_neg (show ¬ (w / 16777216 = 181) by omega)]
  rw [if_neg (show ¬ (w / 8388608 = 421) by omega)]
  rw [if_neg (show ¬ (w / 8388608 = 485) by omega)]
  rw [if_neg (show ¬ (w / 2097152 = 1696) by omega)]
  rw [if_neg (show ¬ (w = 3573751839) by omega)]
  rw [if_neg (show ¬ (w / 4194304 = 580) by omega)]
  rw [if_neg (show ¬ (w / 4194304 = 836) by omega)]
  rw [if_neg (show ¬ (w / 4194304 = 964) by omega)]
  rw [if_neg (show ¬ (w / 2097152 = 1112 ∧ w / 1024 % 64 = 0) by omega)]
  rw [if_neg (show ¬ (w / 2097152 = 1624 ∧ w / 1024 % 64 = 0) by omega)]
  rw [if_neg (show ¬ (w / 2097152 = 1880 ∧ w / 1024 % 64 = 0) by omega)]
  rw [if_neg (show ¬ (w / 2097152 = 1104 ∧ w / 1024 % 64 = 0) by omega)]
  rw [if_neg (show ¬ (w / 2097152 = 1360 ∧ w / 1024 % 64 = 0) by omega)]
  rw [if_neg (show ¬ (w / 2097152 = 1616 ∧ w / 1024 % 64 = 0) by omega)]
  rw [if_neg (show ¬ (w / 2097152 = 1240 ∧ w / 32768 % 2 = 0) by omega)]
  rw [if_neg (show ¬ (w / 2097152 = 1240 ∧ w / 32768 % 2 = 1) by omega)]
  rw [if_neg (show ¬ (w / 2097152 = 1238 ∧ w / 1024 % 64 = 3) by omega)]
  rw [if_neg (show ¬ (w / 2097152 = 1238 ∧ w / 1024 % 64 = 8) by omega)]
  rw [if_neg (show ¬ (w / 2097152 = 1238 ∧ w / 1024 % 64 = 9) by omega)]
  rw [if_neg (show ¬ (w / 2097152 = 1238 ∧ w / 1024 % 64 = 10) by omega)]
  rw [if_neg (show ¬ (w / 2097152 = 1236 ∧ w / 1024 % 4 = 1) by omega)]
  rw [if_neg (show ¬ (w / 1024 = 3508160 ∧ w % 32 = 0) by omega)]
  rw [if_neg (show ¬ (w / 1024 = 3510208 ∧ w % 32 = 0) by omega)]
  rw [if_neg (show ¬ (w / 1024 = 3512256 ∧ w % 32 = 0) by omega)]
  rw [if_neg (show ¬ (w / 4194304 = 997) by omega)]
  rw [if_neg (show ¬ (w / 4194304 = 996) by omega)]
  rw [if_neg (show ¬ (w / 4194304 = 229) by omega)]
  rw [if_neg (show ¬ (w / 2097152 = 1987 ∧ w / 1024 % 64 = 30) by omega)]
  rw [if_neg (show ¬ (w / 2097152 = 1985 ∧ w / 1024 % 64 = 30) by omega)]
  rw [if_neg (show ¬ (w / 1024 = 3291135) by omega)]
  rw [if_neg (show ¬ (w / 1024 = 3287039) by omega)]
  rw [if_neg (show ¬ (w / 1024 = 3282911) by omega)]
  rw [if_pos (show w / 2097152 = 1600 ∧ w / 1024 % 64 = 31 by omega)]
set_option maxHeartbeats 4000000 in
theorem kind_37 {d n m a c imm w : Int} (h : okP 37 d n m a c imm) (hw : w = 3573756095 + (bar imm) * 256) : kindN w = 37 := by
  obtain ⟨hd, hn, hm, ha, hc, hz, hi⟩ : d = 0 ∧ n = 0 ∧ m = 0 ∧ a = 0 ∧ c = 0 ∧ True ∧ (0 ≤ imm ∧ imm ≤ 2) := h
  have hb : bar imm = 11 ∨ bar imm = 9 ∨ bar imm = 10 := by
    rcases (show imm = 0 ∨ imm = 1 ∨ imm = 2 by omega) with rfl | rfl | rfl
    · exact .inl rfl
    · exact .inr (.inl rfl)
    · exact .inr (.inr rfl)
  generalize bar imm = q at hb hw
  unfold kindN
  rw [if_neg (show ¬ (w / 67108864 = 5) by omega)]
  rw [if_neg (show ¬ (w / 67108864 = 37) by omega)]
  rw [if_neg (show ¬ (w / 16777216 = 84) by omega)]
  rw [if_neg (show ¬ (w / 16777216 = 180) by omega)]
  rw [if_neg (show ¬ (w / 16777216 = 181) by omega)]
  rw [if_neg (show ¬ (w / 8388608 = 421) by omega)]
  rw [if_neg (show ¬ (w / 8388608 = 485) by omega)]
  rw [if_neg (show ¬ (w / 2097152 = 1696) by omega)]
  rw [if_neg (show ¬ (w = 3573751839) by omega)]
  rw [if_neg (show ¬ (w / 4194304 = 580) by omega)]
  rw [if_neg (show ¬ (w / 4194304 = 836) by omega)]
  rw [if_neg (show ¬ (w / 4194304 = 964) by omega)]
  rw [if_neg (show ¬ (w / 2097152 = 1112 ∧ w / 1024 % 64 = 0) by omega)]
  rw [if_neg (show ¬ (w / 2097152 = 1624 ∧ w / 1024 % 64 = 0) by omega)]
  rw [if_neg (show ¬ (w / 2097152 = 1880 ∧ w / 1024 % 64 = 0) by omega)]
  rw [if_neg (show ¬ (w / 2097152 = 1104 ∧ w / 1024 % 64 = 0) by omega)]
  rw [if_neg (show ¬ (w / 2097152 = 1360 ∧ w / 1024 % 64 = 0) by omega)]
  rw [if_neg (show ¬ (w / 2097152 = 1616 ∧ w / 1024 % 64 = 0) by omega)]
  rw [if_neg (show ¬ (w / 2097152 = 1240 ∧ w / 32768 % 2 = 0) by omega)]
  rw [if_neg (show ¬ (w / 2097152 = 1240 ∧ w / 32768 % 2 = 1) by omega)]
  rw [if_neg (show ¬ (w / 2097152 = 1238 ∧ w / 1024 % 64 = 3) by omega)]
  rw [if_neg (show ¬ (w / 2097152 = 1238 ∧ w / 1024 % 64 = 8) by omega)]
  rw [if_neg (show ¬ (w / 2097152 = 1238 ∧ w / 1024 % 64 = 9) by omega)]
  rw [if_neg (show ¬ (w / 2097152 = 1238 ∧ w / 1024 % 64 = 10) by omega)]
  rw [if_neg (show ¬ (w / 2097152 = 1236 ∧ w / 1024 % 4 = 1) by omega)]
  rw [if_neg (show ¬ (w / 1024 = 3508160 ∧ w % 32 = 0) by omega)]
  rw [if_neg (show ¬ (w / 1024 = 3510208 ∧ w % 32 = 0) by omega)]
  rw [if_neg (show ¬ (w / 1024 = 3512256 ∧ w % 32 = 0) by omega)]
  rw [if_neg (show ¬ (w / 4194304 = 997) by omega)]
  rw [if_neg (show ¬ (w / 4194304 = 996) by omega)]
  rw [if_neg (show ¬ (w / 4194304 = 229) by omega)]
  rw [if_neg (show ¬ (w / 2097152 = 1987 ∧ w / 1024 % 64 = 30) by omega)]
  rw [if_neg (show ¬ (w / 2097152 = 1985 ∧ w / 1024 % 64 = 30) by omega)]
  rw [if_neg (show ¬ (w / 1024 = 3291135) by omega)]
  rw [if_neg (show ¬ (w / 1024 = 3287039) by omega)]
  rw [if_neg (show ¬ (w / 1024 = 3282911) by omega)]
  rw [if_neg (show ¬ (w / 2097152 = 1600 ∧ w / 1024 % 64 = 31) by omega)]
  rw [if_pos (show w / 4096 = 872499 ∧ w % 256 = 191 by omega)]
set_option maxHeartbeats 4000000 in
theorem kind_38 {d n m a c imm w : Int} (h : okP 38 d n m a c imm) (hw : w = 3573758879) : kindN w = 38 := by
  obtain ⟨hd, hn, hm, ha, hc, hz, hi⟩ : d = 0 ∧ n = 0 ∧ m = 0 ∧ a = 0 ∧ c = 0 ∧ imm = 0 ∧ (True) := h
  unfold kindN
  rw [if_neg (show ¬ (w / 67108864 = 5) by omega)]
  rw [if_neg (show ¬ (w / 67108864 = 37) by omega)]
  rw [if_neg (show ¬ (w / 16777216 = 84) by omega)]
  rw [if_neg (show ¬ (w / 16777216 = 180) by omega)]
  rw [if_neg (show ¬ (w / 16777216 = 181) by omega)]
  rw [if_neg (show ¬ (w / 8388608 = 421) by omega)]
  rw [if_neg (show ¬ (w / 8388608 = 485) by omega)]
  rw [if_neg (show ¬ (w / 2097152 = 1696) by omega)]
  rw [if_neg (show ¬ (w = 3573751839) by omega)]
  rw [if_neg (show ¬ (w / 4194304 = 580) by omega)]
  rw [if_neg (show ¬ (w / 4194304 = 836) by omega)]
  rw [if_neg (show ¬ (w / 4194304 = 964) by omega)]
  rw [if_neg (show ¬ (w / 2097152 = 1112 ∧ w / 1024 % 64 = 0) by omega)]
  rw [if_neg (show ¬ (w / 2097152 = 1624 ∧ w / 1024 % 64 = 0) by omega)]
  rw [if_neg (show ¬ (w / 2097152 = 1880 ∧ w / 1024 % 64 = 0) by omega)]
  rw [if_neg (show ¬ (w / 2097152 = 1104 ∧ w / 1024 % 64 = 0) by omega)]
  rw [if_neg (show ¬ (w / 2097152 = 1360 ∧ w / 1024 % 64 = 0) by omega)]
  rw [if_neg (show ¬ (w / 2097152 = 1616 ∧ w / 1024 % 64 = 0) by omega)]
  rw [if_neg (show ¬ (w / 2097152 = 1240 ∧ w / 32768 % 2 = 0) by omega)]
  rw [if_neg (show ¬ (w / 2097152 = 1240 ∧ w / 32768 % 2 = 1) by omega)]
  rw [if_neg (show ¬ (w / 2097152 = 1238 ∧ w / 1024 % 64 = 3) by omega)]
  rw [if_neg (show ¬ (w / 2097152 = 1238 ∧ w / 1024 % 64 = 8) by omega)]
  rw [if_neg (show ¬ (w / 2097152 = 1238 ∧ w / 1024 % 64 = 9) by omega)]
  rw [if_neg (show ¬ (w / 2097152 = 1238 ∧ w / 1024 % 64 = 10) by omega)]
  rw [if_neg (show ¬ (w / 2097152 = 1236 ∧ w / 1024 % 4 = 1) by omega)]
  rw [if_neg (show ¬ (w / 1024 = 3508160 ∧ w % 32 = 0) by omega)]
  rw [if_neg (show ¬ (w / 1024 = 3510208 ∧ w % 32 = 0) by omega)]
  rw [if_neg (show ¬ (w / 1024 = 3512256 ∧ w % 32 = 0) by omega)]
  rw [if_neg (show ¬ (w / 4194304 = 997) by omega)]
  rw [if_neg (show ¬ (w / 4194304 = 996) by omega)]
  rw [if_neg (show ¬ (w / 4194304 = 229) by omega)]
  rw [if_neg (show ¬ (w / 2097152 = 1987 ∧ w / 1024 % 64 = 30) by omega)]
  rw [if_neg (show ¬ (w / 2097152 = 1985 ∧ w / 1024 % 64 = 30) by omega)]
  rw [if_neg (show ¬ (w / 1024 = 3291135) by omega)]
  rw [if_neg (show ¬ (w / 1024 = 3287039) by omega)]
  rw [if_neg (show ¬ (w / 1024 = 3282911) by omega)]
  rw [if_neg (show ¬ (w / 2097152 = 1600 ∧ w / 1024 % 64 = 31) by omega)]
  rw [if_neg (show ¬ (w / 4096 = 872499 ∧ w % 256 = 191) by omega)]
  rw [if_pos (show w = 3573758879 by omega)]
set_option maxHeartbeats 4000000 in
theorem kind_39 {d n m a c imm w : Int} (h : okP 39 d n m a c imm) (hw : w = 3573759967) : kindN w = 39 := by
  obtain ⟨hd, hn, hm, ha, hc, hz, hi⟩ : d = 0 ∧ n = 0 ∧ m = 0 ∧ a = 0 ∧ c = 0 ∧ imm = 0 ∧ (True) := h
  unfold kindN
  rw [if_neg (show ¬ (w / 67108864 = 5) by omega)]
  rw [if_neg (show ¬ (w / 67108864 = 37) by omega)]
  rw [if_neg (show ¬ (w / 16777216 = 84) by omega)]
  rw [if_neg (show ¬ (w / 16777216 = 180) by omega)]
  rw [if_neg (show ¬ (w / 16777216 = 181) by omega)]
  rw [if_neg (show ¬ (w / 8388608 = 421) by omega)]
  rw [if_neg (show ¬ (w / 8388608 = 485) by omega)]
  rw [if_neg (show ¬ (w / 2097152 = 1696) by omega)]
  rw [if_neg (show ¬ (w = 3573751839) by omega)]
  rw [if_neg (show ¬ (w / 4194304 = 580) by omega)]
  rw [if_neg (show ¬ (w / 4194304 = 836) by omega)]
  rw [if_neg (show ¬ (w / 4194304 = 964) by omega)]
  rw [if_neg (show ¬ (w / 2097152 = 1112 ∧ w / 1024 % 64 = 0) by omega)]
  rw [if_neg (show ¬ (w / 2097152 = 1624 ∧ w / 1024 % 64 = 0) by omega)]
  rw [if_neg (show ¬ (w / 2097152 = 1880 ∧ w / 1024 % 64 = 0) by omega)]
  rw [if_neg (show ¬ (w / 2097152 = 1104 ∧ w / 1024 % 64 = 0) by omega)]
  rw [if_neg (show ¬ (w / 2097152 = 1360 ∧ w / 1024 % 64 = 0) by omega)]
  rw [if_neg (show ¬ (w / 2097152 = 1616 ∧ w / 1024 % 64 = 0) by omega)]
  rw [if_neg (show ¬ (w / 2097152 = 1240 ∧ w / 32768 % 2 = 0) by omega)]
  rw [if_neg (show ¬ (w / 2097152 = 1240 ∧ w / 32768 % 2 = 1) by omega)]
  rw [if_neg (show ¬ (w / 2097152 = 1238 ∧ w / 1024 % 64 = 3) by omega)]
  rw [if_neg (show ¬ (w / 2097152 = 1238 ∧ w / 1024 % 64 = 8) by omega)]
  rw [if_neg (show ¬ (w / 2097152 = 1238 ∧ w / 1024 % 64 = 9) by omega)]
  rw [if_neg (show ¬ (w / 2097152 = 1238 ∧ w / 1024 % 64 = 10) by omega)]
  rw [if_neg (show ¬ (w / 2097152 = 1236 ∧ w / 1024 % 4 = 1) by omega)]
  rw [if_neg (show ¬ (w / 1024 = 3508160 ∧ w % 32 = 0) by omega)]
  rw [if_neg (show ¬ (w / 1024 = 3510208 ∧ w % 32 = 0) by omega)]
  rw [if_neg (show ¬ (w / 1024 = 3512256 ∧ w % 32 = 0) by omega)]
  rw [if_neg (show ¬ (w / 4194304 = 997) by omega)]
  rw [if_neg (show ¬ (w / 4194304 = 996) by omega)]
  rw [if_neg (show ¬ (w / 4194304 = 229) by omega)]
  rw [if_neg (show ¬ (w / 2097152 = 1987 ∧ w / 1024 % 64 = 30) by omega)]
  rw [if_neg (show ¬ (w / 2097152 = 1985 ∧ w / 1024 % 64 = 30) by omega)]
  rw [if_neg (show ¬ (w / 1024 = 3291135) by omega)]
  rw [if_neg (show ¬ (w / 1024 = 3287039) by omega)]
  rw [if_neg (show ¬ (w / 1024 = 3282911) by omega)]
  rw [if_neg (show ¬ (w / 2097152 = 1600 ∧ w / 1024 % 64 = 31) by omega)]
  rw [if_neg (show ¬ (w / 4096 = 872499 ∧ w % 256 = 191) by omega)]
  rw [if_neg (show ¬ (w = 3573758879) by omega)]
  rw [if_pos (show w = 3573759967 by omega)]
set_option maxHeartbeats 4000000 in
theorem kind_40 {d n m a c imm w : Int} (h : okP 40 d n m a c imm) (hw : w = 3574299424 + n) : kindN w = 40 := by
  obtain ⟨hd, hn, hm, ha, hc, hz, hi⟩ : d = 0 ∧ (0 ≤ n ∧ n ≤ 31) ∧ m = 0 ∧ a = 0 ∧ c = 0 ∧ imm = 0 ∧ (True) := h
  unfold kindN
  rw [if_neg (show ¬ (w / 67108864 = 5) by omega)]
  rw [if_neg (show ¬ (w / 67108864 = 37) by omega)]
  rw [if_neg (show ¬ (w / 16777216 = 84) by omega)]
  rw [if_neg (show ¬ (w / 16777216 = 180) by omega)]
  rw [if_neg (show ¬ (w / 16777216 = 181) by omega)]
  rw [if_neg (show ¬ (w / 8388608 = 421) by omega)]
  rw [if_neg (show ¬ (w / 8388608 = 485) by omega)]
  rw [if_neg (show ¬ (w / 2097152 = 1696) by omega)]
  rw [if_neg (show ¬ (w = 3573751839) by omega)]
  rw [if_neg (show ¬ (w / 4194304 = 580) by omega)]
  rw [if_neg (show ¬ (w / 4194304 = 836) by omega)]
  rw [if_neg (show ¬ (w / 4194304 = 964) by omega)]
  rw [if_neg (show ¬ (w / 2097152 = 1112 ∧ w / 1024 % 64 = 0) by omega)]
  rw [if_neg (show ¬ (w / 2097152 = 1624 ∧ w / 1024 % 64 = 0) by omega)]
  rw [if_neg (show ¬ (w / 2097152 = 1880 ∧ w / 1024 % 64 = 0) by omega)]
  rw [if_neg (show ¬ (w / 2097152 = 1104 ∧ w / 1024 % 64 = 0) by omega)]
  rw [if_neg (show ¬ (w / 2097152 = 1360 ∧ w / 1024 % 64 = 0) by omega)]
  rw [if_neg (show ¬ (w / 2097152 = 1616 ∧ w / 1024 % 64 = 0) by omega)]
  rw [if_neg (show ¬ (w / 2097152 = 1240 ∧ w / 32768 % 2 = 0) by omega)]
  rw [if_neg (show ¬ (w / 2097152 = 1240 ∧ w / 32768 % 2 = 1) by omega)]
  rw [if_neg (show ¬ (w / 2097152 = 1238 ∧ w / 1024 % 64 = 3) by omega)]
  rw [if_neg (show ¬ (w / 2097152 = 1238 ∧ w / 1024 % 64 = 8) by omega)]
  rw [if_neg (show ¬ (w / 2097152 = 1238 ∧ w / 1024 % 64 = 9) by omega)]
  rw [if_neg (show ¬ (w / 2097152 = 1238 ∧ w / 1024 % 64 = 10) by omega)]
  rw [if_neg (show ¬ (w / 2097152 = 1236 ∧ w / 1024 % 4 = 1) by omega)]
  rw [if_neg (show ¬ (w / 1024 = 3508160 ∧ w % 32 = 0) by omega)]
  rw [if_neg (show ¬ (w / 1024 = 3510208 ∧ w % 32 = 0) by omega)]
  rw [if_neg (show ¬ (w / 1024 = 3512256 ∧ w % 32 = 0) by omega)]
  rw [if_neg (show ¬ (w / 4194304 = 997) by omega)]
  rw [if_neg (show ¬ (w / 4194304 = 996) by omega)]
  rw [if_neg (show ¬ (w / 4194304 = 229) by omega)]
  rw [if_neg (show ¬ (w / 2097152 = 1987 ∧ w / 1024 % 64 = 30) by omega)]
  rw [if_neg (show ¬ (w / 2097152 = 1985 ∧ w / 1024 % 64 = 30) by omega)]
  rw [if_neg (show ¬ (w / 1024 = 3291135) by omega)]
  rw [if_neg (show ¬ (w / 1024 = 3287039) by omega)]
  rw [if_neg (show ¬ (w / 1024 = 3282911) by omega)]
  rw [if_neg (show ¬ (w / 2097152 = 1600 ∧ w / 1024 % 64 = 31) by omega)]
  rw [if_neg (show ¬ (w / 4096 = 872499 ∧ w % 256 = 191) by omega)]
  rw [if_neg (show ¬ (w = 3573758879) by omega)]
  rw [if_neg (show ¬ (w = 3573759967) by omega)]
  rw [if_pos (show w / 32 = 111696857 by omega)]
set_option maxHeartbeats 4000000 in
theorem kind_41 {d n m a c imm w : Int} (h : okP 41 d n m a c imm) (hw : w = 3574297888 + n) : kindN w = 41 := by
  obtain ⟨hd, hn, hm, ha, hc, hz, hi⟩ : d = 0 ∧ (0 ≤ n ∧ n ≤ 31) ∧ m = 0 ∧ a = 0 ∧ c = 0 ∧ imm = 0 ∧ (True) := h
  unfold kindN
  rw [if_neg (show ¬ (w / 67108864 = 5) by omega)]
  rw [if_neg (show ¬ (w / 67108864 = 37) by omega)]
  rw [if_neg (show ¬ (w / 16777216 = 84) by omega)]
  rw [if_neg (show ¬ (w / 16777216 = 180) by omega)]
  rw [if_neg (show ¬ (w / 16777216 = 181) by omega)]
  rw [if_neg (show ¬ (w / 8388608 = 421) by omega)]
  rw [if_neg (show ¬ (w / 8388608 = 485) by omega)]
  rw [if_neg (show ¬ (w / 2097152 = 1696) by omega)]
  rw [if_neg (show ¬ (w = 3573751839) by omega)]
  rw [if_neg (show ¬ (w / 4194304 = 580) by omega)]
  rw [if_neg (show ¬ (w / 4194304 = 836) by omega)]
  rw [if_neg (show ¬ (w / 4194304 = 964) by omega)]
  rw [if_neg (show ¬ (w / 2097152 = 1112 ∧ w / 1024 % 64 = 0) by omega)]
  rw [if_neg (show ¬ (w / 2097152 = 1624 ∧ w / 1024 % 64 = 0) by omega)]
  rw [if_neg (show ¬ (w / 2097152 = 1880 ∧ w / 1024 % 64 = 0) by omega)]
  rw [if_neg (show ¬ (w / 2097152 = 1104 ∧ w / 1024 % 64 = 0) by omega)]
  rw [if_neg (show ¬ (w / 2097152 = 1360 ∧ w / 1024 % 64 = 0) by omega)]
  rw [if_neg (show ¬ (w / 2097152 = 1616 ∧ w / 1024 % 64 = 0) by omega)]
  rw [if_neg (show ¬ (w / 2097152 = 1240 ∧ w / 32768 % 2 = 0) by omega)]
  rw [if_neg (show ¬ (w / 2097152 = 1240 ∧ w / 32768 % 2 = 1) by omega)]
  rw [if_neg (show ¬ (w / 2097152 = 1238 ∧ w / 1024 % 64 = 3) by omega)]
  rw [if_neg (show ¬ (w / 2097152 = 1238 ∧ w / 1024 % 64 = 8) by omega)]
  rw [if_neg (show ¬ (w / 2097152 = 1238 ∧ w / 1024 % 64 = 9) by omega)]
  rw [if_neg (show ¬ (w / 2097152 = 1238 ∧ w / 1024 % 64 = 10) by omega)]
  rw [if_neg (show ¬ (w / 2097152 = 1236 ∧ w / 1024 % 4 = 1) by omega)]
  rw [if_neg (show ¬ (w / 1024 = 3508160 ∧ w % 32 = 0) by omega)]
  rw [if_neg (show ¬ (w / 1024 = 3510208 ∧ w % 32 = 0) by omega)]
  rw [if_neg (show ¬ (w / 1024 = 3512256 ∧ w % 32 = 0) by omega)]
  rw [if_neg (show ¬ (w / 4194304 = 997) by omega)]
  rw [if_neg (show ¬ (w / 4194304 = 996) by omega)]
  rw [if_neg (show ¬ (w / 4194304 = 229) by omega)]
  rw [if_neg (show ¬ (w / 2097152 = 1987 ∧ w / 1024 % 64 = 30) by omega)]
  rw [if_neg (show ¬ (w / 2097152 = 1985 ∧ w / 1024 % 64 = 30) by omega)]
  rw [if_neg (show ¬ (w / 1024 = 3291135) by omega)]
  rw [if_neg (show ¬ (w / 1024 = 3287039) by omega)]
  rw [if_neg (show ¬ (w / 1024 = 3282911) by omega)]
  rw [if_neg (show ¬ (w / 2097152 = 1600 ∧ w / 1024 % 64 = 31) by omega)]
  rw [if_neg (show ¬ (w / 4096 = 872499 ∧ w % 256 = 191) by omega)]
  rw [if_neg (show ¬ (w = 3573758879) by omega)]
  rw [if_neg (show ¬ (w = 3573759967) by omega)]
  rw [if_neg (show ¬ (w / 32 = 111696857) by omega)]
  rw [if_pos (show w / 32 = 111696809 by omega)]
set_option maxHeartbeats 4000000 in
theorem kind_42 {d n m a c imm w : Int} (h : okP 42 d n m a c imm) (hw : w = 3556769793 + imm * 32) : kindN w = 42 := by
  obtain ⟨hd, hn, hm, ha, hc, hz, hi⟩ : d = 0 ∧ n = 0 ∧ m = 0 ∧ a = 0 ∧ c = 0 ∧ True ∧ (0 ≤ imm ∧ imm < 65536) := h
  unfold kindN
  rw [if_neg (show ¬ (w / 67108864 = 5) by omega)]
  rw [if_neg (show ¬ (w / 67108864 = 37) by omega)]
  rw [if_neg (show ¬ (w / 16777216 = 84) by omega)]
  rw [if_neg (show ¬ (w / 16777216 = 180) by omega)]
  rw [if_neg (show ¬ (w / 16777216 = 181) by omega)]
  rw [if_neg (show ¬ (w / 8388608 = 421) by omega)]
  rw [if_neg (show ¬ (w / 8388608 = 485) by omega)]
  rw [if_pos (show w / 2097152 = 1696 by omega)]
theorem dec_1 {d n m a c imm w : Int} (h : okP 1 d n m a c imm) (hw : w = 3573751839) : decF 1 w = ⟨1, d, n, m, a, c, imm⟩ := by
  obtain ⟨hd, hn, hm, ha, hc, hz, hi⟩ : d = 0 ∧ n = 0 ∧ m = 0 ∧ a = 0 ∧ c = 0 ∧ imm = 0 ∧ (True) := h
  show (⟨1, 0, 0, 0, 0, 0, 0⟩ : I7) = _
  ext <;> dsimp only <;> omega
theorem dec_2 {d n m a c imm w : Int} (h : okP 2 d n m a c imm) (hw : w = 3531603968 + m * 2097152 + imm * 32 + d) : decF 2 w = ⟨2, d, n, m, a, c, imm⟩ := by
  obtain ⟨hd, hn, hm, ha, hc, hz, hi⟩ : (0 ≤ d ∧ d ≤ 31) ∧ n = 0 ∧ (0 ≤ m ∧ m ≤ 31) ∧ a = 0 ∧ c = 0 ∧ True ∧ (0 ≤ imm ∧ imm < 65536 ∧ m ≤ 3) := h
  show (⟨2, w % 32, 0, w / 2097152 % 4, 0, 0, w / 32 % 65536⟩ : I7) = _
  ext <;> dsimp only <;> omega
theorem dec_3 {d n m a c imm w : Int} (h : okP 3 d n m a c imm) (hw : w = 4068474880 + m * 2097152 + imm * 32 + d) : decF 3 w = ⟨3, d, n, m, a, c, imm⟩ := by
  obtain ⟨hd, hn, hm, ha, hc, hz, hi⟩ : (0 ≤ d ∧ d ≤ 31) ∧ n = 0 ∧ (0 ≤ m ∧ m ≤ 31) ∧ a = 0 ∧ c = 0 ∧ True ∧ (0 ≤ imm ∧ imm < 65536 ∧ m ≤ 3) := h
  show (⟨3, w % 32, 0, w / 2097152 % 4, 0, 0, w / 32 % 65536⟩ : I7) = _
  ext <;> dsimp only <;> omega
theorem dec_4 {d n m a c imm w : Int} (h : okP 4 d n m a c imm) (hw : w = 2432696320 + n * 32 + imm * 1024 + d) : decF 4 w = ⟨4, d, n, m, a, c, imm⟩ := by
  obtain ⟨hd, hn, hm, ha, hc, hz, hi⟩ : (0 ≤ d ∧ d ≤ 31) ∧ (0 ≤ n ∧ n ≤ 31) ∧ m = 0 ∧ a = 0 ∧ c = 0 ∧ True ∧ (0 ≤ imm ∧ imm < 4096) := h
  show (⟨4, w % 32, w / 32 % 32, 0, 0, 0, w / 1024 % 4096⟩ : I7) = _
  ext <;> dsimp only <;> omega
theorem dec_5 {d n m a c imm w : Int} (h : okP 5 d n m a c imm) (hw : w = 3506438144 + n * 32 + imm * 1024 + d) : decF 5 w = ⟨5, d, n, m, a, c, imm⟩ := by
  obtain ⟨hd, hn, hm, ha, hc, hz, hi⟩ : (0 ≤ d ∧ d ≤ 31) ∧ (0 ≤ n ∧ n ≤ 31) ∧ m = 0 ∧ a = 0 ∧ c = 0 ∧ True ∧ (0 ≤ imm ∧ imm < 4096) := h
  show (⟨5, w % 32, w / 32 % 32, 0, 0, 0, w / 1024 % 4096⟩ : I7) = _
  ext <;> dsimp only <;> omega
theorem dec_6 {d n m a c imm w : Int} (h : okP 6 d n m a c imm) (hw : w = 4043309056 + n * 32 + imm * 1024 + d) : decF 6 w = ⟨6, d, n, m, a, c, imm⟩ := by
  obtain ⟨hd, hn, hm, ha, hc, hz, hi⟩ : (0 ≤ d ∧ d ≤ 31) ∧ (0 ≤ n ∧ n ≤ 31) ∧ m = 0 ∧ a = 0 ∧ c = 0 ∧ True ∧ (0 ≤ imm ∧ imm < 4096) := h
  show (⟨6, w % 32, w / 32 % 32, 0, 0, 0, w / 1024 % 4096⟩ : I7) = _
  ext <;> dsimp only <;> omega
theorem dec_7 {d n m a c imm w : Int} (h : okP 7 d n m a c imm) (hw : w = 2332033024 + n * 32 + m * 65536 + d) : decF 7 w = ⟨7, d, n, m, a, c, imm⟩ := by
  obtain ⟨hd, hn, hm, ha, hc, hz, hi⟩ : (0 ≤ d ∧ d ≤ 31) ∧ (0 ≤ n ∧ n ≤ 31) ∧ (0 ≤ m ∧ m ≤ 31) ∧ a = 0 ∧ c = 0 ∧ imm = 0 ∧ (True) := h
  show (⟨7, w % 32, w / 32 % 32, w / 65536 % 32, 0, 0, 0⟩ : I7) = _
  ext <;> dsimp only <;> omega
theorem dec_8 {d n m a c imm w : Int} (h : okP 8 d n m a c imm) (hw : w = 3405774848 + n * 32 + m * 65536 + d) : decF 8 w = ⟨8, d, n, m, a, c, imm⟩ := by
  obtain ⟨hd, hn, hm, ha, hc, hz, hi⟩ : (0 ≤ d ∧ d ≤ 31) ∧ (0 ≤ n ∧ n ≤ 31) ∧ (0 ≤ m ∧ m ≤ 31) ∧ a = 0 ∧ c = 0 ∧ imm = 0 ∧ (True) := h
  show (⟨8, w % 32, w / 32 % 32, w / 65536 % 32, 0, 0, 0⟩ : I7) = _
  ext <;> dsimp only <;> omega
theorem dec_9 {d n m a c imm w : Int} (h : okP 9 d n m a c imm) (hw : w = 3942645760 + n * 32 + m * 65536 + d) : decF 9 w = ⟨9, d, n, m, a, c, imm⟩ := by
  obtain ⟨hd, hn, hm, ha, hc, hz, hi⟩ : (0 ≤ d ∧ d ≤ 31) ∧ (0 ≤ n ∧ n ≤ 31) ∧ (0 ≤ m ∧ m ≤ 31) ∧ a = 0 ∧ c = 0 ∧ imm = 0 ∧ (True) := h
  show (⟨9, w % 32, w / 32 % 32, w / 65536 % 32, 0, 0, 0⟩ : I7) = _
  ext <;> dsimp only <;> omega
theorem dec_10 {d n m a c imm w : Int} (h : okP 10 d n m a c imm) (hw : w = 2315255808 + n * 32 + m * 65536 + d) : decF 10 w = ⟨10, d, n, m, a, c, imm⟩ := by
  obtain ⟨hd, hn, hm, ha, hc, hz, hi⟩ : (0 ≤ d ∧ d ≤ 31) ∧ (0 ≤ n ∧ n ≤ 31) ∧ (0 ≤ m ∧ m ≤ 31) ∧ a = 0 ∧ c = 0 ∧ imm = 0 ∧ (True) := h
  show (⟨10, w % 32, w / 32 % 32, w / 65536 % 32, 0, 0, 0⟩ : I7) = _
  ext <;> dsimp only <;> omega
theorem dec_11 {d n m a c imm w : Int} (h : okP 11 d n m a c imm) (hw : w = 2852126720 + n * 32 + m * 65536 + d) : decF 11 w = ⟨11, d, n, m, a, c, imm⟩ := by
  obtain ⟨hd, hn, hm, ha, hc, hz, hi⟩ : (0 ≤ d ∧ d ≤ 31) ∧ (0 ≤ n ∧ n ≤ 31) ∧ (0 ≤ m ∧ m ≤ 31) ∧ a = 0 ∧ c = 0 ∧ imm = 0 ∧ (True) := h
  show (⟨11, w % 32, w / 32 % 32, w / 65536 % 32, 0, 0, 0⟩ : I7) = _
  ext <;> dsimp only <;> omega
theorem dec_12 {d n m a c imm w : Int} (h : okP 12 d n m a c imm) (hw : w = 3388997632 + n * 32 + m * 65536 + d) : decF 12 w = ⟨12, d, n, m, a, c, imm⟩ := by
  obtain ⟨hd, hn, hm, ha, hc, hz, hi⟩ : (0 ≤ d ∧ d ≤ 31) ∧ (0 ≤ n ∧ n ≤ 31) ∧ (0 ≤ m ∧ m ≤ 31) ∧ a = 0 ∧ c = 0 ∧ imm = 0 ∧ (True) := h
  show (⟨12, w % 32, w / 32 % 32, w / 65536 % 32, 0, 0, 0⟩ : I7) = _
  ext <;> dsimp only <;> omega
theorem dec_13 {d n m a c imm w : Int} (h : okP 13 d n m a c imm) (hw : w = 2600468480 + n * 32 + m * 65536 + a * 1024 + d) : decF 13 w = ⟨13, d, n, m, a, c, imm⟩ := by
  obtain ⟨hd, hn, hm, ha, hc, hz, hi⟩ : (0 ≤ d ∧ d ≤ 31) ∧ (0 ≤ n ∧ n ≤ 31) ∧ (0 ≤ m ∧ m ≤ 31) ∧ (0 ≤ a ∧ a ≤ 31) ∧ c = 0 ∧ imm = 0 ∧ (True) := h
  show (⟨13, w % 32, w / 32 % 32, w / 65536 % 32, w / 1024 % 32, 0, 0⟩ : I7) = _
  ext <;> dsimp only <;> omega
theorem dec_14 {d n m a c imm w : Int} (h : okP 14 d n m a c imm) (hw : w = 2600501248 + n * 32 + m * 65536 + a * 1024 + d) : decF 14 w = ⟨14, d, n, m, a, c, imm⟩ := by
  obtain ⟨hd, hn, hm, ha, hc, hz, hi⟩ : (0 ≤ d ∧ d ≤ 31) ∧ (0 ≤ n ∧ n ≤ 31) ∧ (0 ≤ m ∧ m ≤ 31) ∧ (0 ≤ a ∧ a ≤ 31) ∧ c = 0 ∧ imm = 0 ∧ (True) := h
  show (⟨14, w % 32, w / 32 % 32, w / 65536 % 32, w / 1024 % 32, 0, 0⟩ : I7) = _
  ext <;> dsimp only <;> omega
theorem dec_15 {d n m a c imm w : Int} (h : okP 15 d n m a c imm) (hw : w = 2596277248 + n * 32 + m * 65536 + d) : decF 15 w = ⟨15, d, n, m, a, c, imm⟩ := by
  obtain ⟨hd, hn, hm, ha, hc, hz, hi⟩ : (0 ≤ d ∧ d ≤ 31) ∧ (0 ≤ n ∧ n ≤ 31) ∧ (0 ≤ m ∧ m ≤ 31) ∧ a = 0 ∧ c = 0 ∧ imm = 0 ∧ (True) := h
  show (⟨15, w % 32, w / 32 % 32, w / 65536 % 32, 0, 0, 0⟩ : I7) = _
  ext <;> dsimp only <;> omega
theorem dec_16 {d n m a c imm w : Int} (h : okP 16 d n m a c imm) (hw : w = 2596282368 + n * 32 + m * 65536 + d) : decF 16 w = ⟨16, d, n, m, a, c, imm⟩ := by
  obtain ⟨hd, hn, hm, ha, hc, hz, hi⟩ : (0 ≤ d ∧ d ≤ 31) ∧ (0 ≤ n ∧ n ≤ 31) ∧ (0 ≤ m ∧ m ≤ 31) ∧ a = 0 ∧ c = 0 ∧ imm = 0 ∧ (True) := h
  show (⟨16, w % 32, w / 32 % 32, w / 65536 % 32, 0, 0, 0⟩ : I7) = _
  ext <;> dsimp only <;> omega
theorem dec_17 {d n m a c imm w : Int} (h : okP 17 d n m a c imm) (hw : w = 2596283392 + n * 32 + m * 65536 + d) : decF 17 w = ⟨17, d, n, m, a, c, imm⟩ := by
  obtain ⟨hd, hn, hm, ha, hc, hz, hi⟩ : (0 ≤ d ∧ d ≤ 31) ∧ (0 ≤ n ∧ n ≤ 31) ∧ (0 ≤ m ∧ m ≤ 31) ∧ a = 0 ∧ c = 0 ∧ imm = 0 ∧ (True) := h
  show (⟨17, w % 32, w / 32 % 32, w / 65536 % 32, 0, 0, 0⟩ : I7) = _
  ext <;> dsimp only <;> omega
theorem dec_18 {d n m a c imm w : Int} (h : okP 18 d n m a c imm) (hw : w = 2596284416 + n * 32 + m * 65536 + d) : decF 18 w = ⟨18, d, n, m, a, c, imm⟩ := by
  obtain ⟨hd, hn, hm, ha, hc, hz, hi⟩ : (0 ≤ d ∧ d ≤ 31) ∧ (0 ≤ n ∧ n ≤ 31) ∧ (0 ≤ m ∧ m ≤ 31) ∧ a = 0 ∧ c = 0 ∧ imm = 0 ∧ (True) := h
  show (⟨18, w % 32, w / 32 % 32, w / 65536 % 32, 0, 0, 0⟩ : I7) = _
  ext <;> dsimp only <;> omega
theorem dec_19 {d n m a c imm w : Int} (h : okP 19 d n m a c imm) (hw : w = 2592080896 + n * 32 + c * 4096 + m * 65536 + d) : decF 19 w = ⟨19, d, n, m, a, c, imm⟩ := by
  obtain ⟨hd, hn, hm, ha, hc, hz, hi⟩ : (0 ≤ d ∧ d ≤ 31) ∧ (0 ≤ n ∧ n ≤ 31) ∧ (0 ≤ m ∧ m ≤ 31) ∧ a = 0 ∧ (0 ≤ c ∧ c ≤ 15) ∧ imm = 0 ∧ (True) := h
  show (⟨19, w % 32, w / 32 % 32, w / 65536 % 32, 0, w / 4096 % 16, 0⟩ : I7) = _
  ext <;> dsimp only <;> omega
theorem dec_20 {d n m a c imm w : Int} (h : okP 20 d n m a c imm) (hw : w = 335544320 + ((imm / 4) % 67108864)) : decF 20 w = ⟨20, d, n, m, a, c, imm⟩ := by
  obtain ⟨hd, hn, hm, ha, hc, hz, hi⟩ : d = 0 ∧ n = 0 ∧ m = 0 ∧ a = 0 ∧ c = 0 ∧ True ∧ (imm % 4 = 0 ∧ -134217728 ≤ imm ∧ imm < 134217728) := h
  show (⟨20, 0, 0, 0, 0, 0, 4 * sx 67108864 (w % 67108864)⟩ : I7) = _
  have hs : 4 * sx 67108864 (w % 67108864) = imm := by
    unfold sx
    split <;> omega
  ext <;> dsimp only <;> omega
theorem dec_21 {d n m a c imm w : Int} (h : okP 21 d n m a c imm) (hw : w = 1409286144 + ((imm / 4) % 524288) * 32 + c) : decF 21 w = ⟨21, d, n, m, a, c, imm⟩ := by
  obtain ⟨hd, hn, hm, ha, hc, hz, hi⟩ : d = 0 ∧ n = 0 ∧ m = 0 ∧ a = 0 ∧ (0 ≤ c ∧ c ≤ 15) ∧ True ∧ (imm % 4 = 0 ∧ -1048576 ≤ imm ∧ imm < 1048576 ∧ c ≤ 13) := h
  show (⟨21, 0, 0, 0, 0, w % 16, 4 * sx 524288 (w / 32 % 524288)⟩ : I7) = _
  have hs : 4 * sx 524288 (w / 32 % 524288) = imm := by
    unfold sx
    split <;> omega
  ext <;> dsimp only <;> omega
theorem dec_22 {d n m a c imm w : Int} (h : okP 22 d n m a c imm) (hw : w = 3019898880 + ((imm / 4) % 524288) * 32 + d) : decF 22 w = ⟨22, d, n, m, a, c, imm⟩ := by
  obtain ⟨hd, hn, hm, ha, hc, hz, hi⟩ : (0 ≤ d ∧ d ≤ 31) ∧ n = 0 ∧ m = 0 ∧ a = 0 ∧ c = 0 ∧ True ∧ (imm % 4 = 0 ∧ -1048576 ≤ imm ∧ imm < 1048576) := h
  show (⟨22, w % 32, 0, 0, 0, 0, 4 * sx 524288 (w / 32 % 524288)⟩ : I7) = _
  have hs : 4 * sx 524288 (w / 32 % 524288) = imm := by
    unfold sx
    split <;> omega
  ext <;> dsimp only <;> omega
theorem dec_23 {d n m a c imm w : Int} (h : okP 23 d n m a c imm) (hw : w = 3036676096 + ((imm / 4) % 524288) * 32 + d) : decF 23 w = ⟨23, d, n, m, a, c, imm⟩ := by
  obtain ⟨hd, hn, hm, ha, hc, hz, hi⟩ : (0 ≤ d ∧ d ≤ 31) ∧ n = 0 ∧ m = 0 ∧ a = 0 ∧ c = 0 ∧ True ∧ (imm % 4 = 0 ∧ -1048576 ≤ imm ∧ imm < 1048576) := h
  show (⟨23, w % 32, 0, 0, 0, 0, 4 * sx 524288 (w / 32 % 524288)⟩ : I7) = _
  have hs : 4 * sx 524288 (w / 32 % 524288) = imm := by
    unfold sx
    split <;> omega
  ext <;> dsimp only <;> omega
theorem dec_24 {d n m a c imm w : Int} (h : okP 24 d n m a c imm) (hw : w = 2483027968 + ((imm / 4) % 67108864)) : decF 24 w = ⟨24, d, n, m, a, c, imm⟩ := by
  obtain ⟨hd, hn, hm, ha, hc, hz, hi⟩ : d = 0 ∧ n = 0 ∧ m = 0 ∧ a = 0 ∧ c = 0 ∧ True ∧ (imm % 4 = 0 ∧ -134217728 ≤ imm ∧ imm < 134217728) := h
  show (⟨24, 0, 0, 0, 0, 0, 4 * sx 67108864 (w % 67108864)⟩ : I7) = _
  have hs : 4 * sx 67108864 (w % 67108864) = imm := by
    unfold sx
    split <;> omega
  ext <;> dsimp only <;> omega
theorem dec_25 {d n m a c imm w : Int} (h : okP 25 d n m a c imm) (hw : w = 3592355840 + n * 32) : decF 25 w = ⟨25, d, n, m, a, c, imm⟩ := by
  obtain ⟨hd, hn, hm, ha, hc, hz, hi⟩ : d = 0 ∧ (0 ≤ n ∧ n ≤ 31) ∧ m = 0 ∧ a = 0 ∧ c = 0 ∧ imm = 0 ∧ (True) := h
  show (⟨25, 0, w / 32 % 32, 0, 0, 0, 0⟩ : I7) = _
  ext <;> dsimp only <;> omega
theorem dec_26 {d n m a c imm w : Int} (h : okP 26 d n m a c imm) (hw : w = 3594452992 + n * 32) : decF 26 w = ⟨26, d, n, m, a, c, imm⟩ := by
  obtain ⟨hd, hn, hm, ha, hc, hz, hi⟩ : d = 0 ∧ (0 ≤ n ∧ n ≤ 31) ∧ m = 0 ∧ a = 0 ∧ c = 0 ∧ imm = 0 ∧ (True) := h
  show (⟨26, 0, w / 32 % 32, 0, 0, 0, 0⟩ : I7) = _
  ext <;> dsimp only <;> omega
theorem dec_27 {d n m a c imm w : Int} (h : okP 27 d n m a c imm) (hw : w = 3596550144 + n * 32) : decF 27 w = ⟨27, d, n, m, a, c, imm⟩ := by
  obtain ⟨hd, hn, hm, ha, hc, hz, hi⟩ : d = 0 ∧ (0 ≤ n ∧ n ≤ 31) ∧ m = 0 ∧ a = 0 ∧ c = 0 ∧ imm = 0 ∧ (True) := h
  show (⟨27, 0, w / 32 % 32, 0, 0, 0, 0⟩ : I7) = _
  ext <;> dsimp only <;> omega
theorem dec_28 {d n m a c imm w : Int} (h : okP 28 d n m a c imm) (hw : w = 4181721088 + n * 32 + (imm / 8) * 1024 + d) : decF 28 w = ⟨28, d, n, m, a, c, imm⟩ := by
  obtain ⟨hd, hn, hm, ha, hc, hz, hi⟩ : (0 ≤ d ∧ d ≤ 31) ∧ (0 ≤ n ∧ n ≤ 31) ∧ m = 0 ∧ a = 0 ∧ c = 0 ∧ True ∧ (0 ≤ imm ∧ imm < 32768 ∧ imm % 8 = 0) := h
  show (⟨28, w % 32, w / 32 % 32, 0, 0, 0, 8 * (w / 1024 % 4096)⟩ : I7) = _
  ext <;> dsimp only <;> omega
theorem dec_29 {d n m a c imm w : Int} (h : okP 29 d n m a c imm) (hw : w = 4177526784 + n * 32 + (imm / 8) * 1024 + d) : decF 29 w = ⟨29, d, n, m, a, c, imm⟩ := by
  obtain ⟨hd, hn, hm, ha, hc, hz, hi⟩ : (0 ≤ d ∧ d ≤ 31) ∧ (0 ≤ n ∧ n ≤ 31) ∧ m = 0 ∧ a = 0 ∧ c = 0 ∧ True ∧ (0 ≤ imm ∧ imm < 32768 ∧ imm % 8 = 0) := h
  show (⟨29, w % 32, w / 32 % 32, 0, 0, 0, 8 * (w / 1024 % 4096)⟩ : I7) = _
  ext <;> dsimp only <;> omega
theorem dec_30 {d n m a c imm w : Int} (h : okP 30 d n m a c imm) (hw : w = 960495616 + n * 32 + imm * 1024 + d) : decF 30 w = ⟨30, d, n, m, a, c, imm⟩ := by
  obtain ⟨hd, hn, hm, ha, hc, hz, hi⟩ : (0 ≤ d ∧ d ≤ 31) ∧ (0 ≤ n ∧ n ≤ 31) ∧ m = 0 ∧ a = 0 ∧ c = 0 ∧ True ∧ (0 ≤ imm ∧ imm < 4096) := h
  show (⟨30, w % 32, w / 32 % 32, 0, 0, 0, w / 1024 % 4096⟩ : I7) = _
  ext <;> dsimp only <;> omega
theorem dec_31 {d n m a c imm w : Int} (h : okP 31 d n m a c imm) (hw : w = 4167071744 + n * 32 + m * 65536 + d) : decF 31 w = ⟨31, d, n, m, a, c, imm⟩ := by
  obtain ⟨hd, hn, hm, ha, hc, hz, hi⟩ : (0 ≤ d ∧ d ≤ 31) ∧ (0 ≤ n ∧ n ≤ 31) ∧ (0 ≤ m ∧ m ≤ 31) ∧ a = 0 ∧ c = 0 ∧ imm = 0 ∧ (True) := h
  show (⟨31, w % 32, w / 32 % 32, w / 65536 % 32, 0, 0, 0⟩ : I7) = _
  ext <;> dsimp only <;> omega
theorem dec_32 {d n m a c imm w : Int} (h : okP 32 d n m a c imm) (hw : w = 4162877440 + n * 32 + m * 65536 + d) : decF 32 w = ⟨32, d, n, m, a, c, imm⟩ := by
  obtain ⟨hd, hn, hm, ha, hc, hz, hi⟩ : (0 ≤ d ∧ d ≤ 31) ∧ (0 ≤ n ∧ n ≤ 31) ∧ (0 ≤ m ∧ m ≤ 31) ∧ a = 0 ∧ c = 0 ∧ imm = 0 ∧ (True) := h
  show (⟨32, w % 32, w / 32 % 32, w / 65536 % 32, 0, 0, 0⟩ : I7) = _
  ext <;> dsimp only <;> omega
theorem dec_33 {d n m a c imm w : Int} (h : okP 33 d n m a c imm) (hw : w = 3370122240 + n * 32 + d) : decF 33 w = ⟨33, d, n, m, a, c, imm⟩ := by
  obtain ⟨hd, hn, hm, ha, hc, hz, hi⟩ : (0 ≤ d ∧ d ≤ 31) ∧ (0 ≤ n ∧ n ≤ 31) ∧ m = 0 ∧ a = 0 ∧ c = 0 ∧ imm = 0 ∧ (True) := h
  show (⟨33, w % 32, w / 32 % 32, 0, 0, 0, 0⟩ : I7) = _
  ext <;> dsimp only <;> omega
theorem dec_34 {d n m a c imm w : Int} (h : okP 34 d n m a c imm) (hw : w = 3365927936 + n * 32 + d) : decF 34 w = ⟨34, d, n, m, a, c, imm⟩ := by
  obtain ⟨hd, hn, hm, ha, hc, hz, hi⟩ : (0 ≤ d ∧ d ≤ 31) ∧ (0 ≤ n ∧ n ≤ 31) ∧ m = 0 ∧ a = 0 ∧ c = 0 ∧ imm = 0 ∧ (True) := h
  show (⟨34, w % 32, w / 32 % 32, 0, 0, 0, 0⟩ : I7) = _
  ext <;> dsimp only <;> omega
theorem dec_35 {d n m a c imm w : Int} (h : okP 35 d n m a c imm) (hw : w = 3361700864 + n * 32 + d) : decF 35 w = ⟨35, d, n, m, a, c, imm⟩ := by
  obtain ⟨hd, hn, hm, ha, hc, hz, hi⟩ : (0 ≤ d ∧ d ≤ 31) ∧ (0 ≤ n ∧ n ≤ 31) ∧ m = 0 ∧ a = 0 ∧ c = 0 ∧ imm = 0 ∧ (True) := h
  show (⟨35, w % 32, w / 32 % 32, 0, 0, 0, 0⟩ : I7) = _
  ext <;> dsimp only <;> omega
theorem dec_36 {d n m a c imm w : Int} (h : okP 36 d n m a c imm) (hw : w = 3355474944 + d * 65536 + n * 32 + m) : decF 36 w = ⟨36, d, n, m, a, c, imm⟩ := by
  obtain ⟨hd, hn, hm, ha, hc, hz, hi⟩ : (0 ≤ d ∧ d ≤ 31) ∧ (0 ≤ n ∧ n ≤ 31) ∧ (0 ≤ m ∧ m ≤ 31) ∧ a = 0 ∧ c = 0 ∧ imm = 0 ∧ (True) := h
  show (⟨36, w / 65536 % 32, w / 32 % 32, w % 32, 0, 0, 0⟩ : I7) = _
  ext <;> dsimp only <;> omega
theorem dec_37 {d n m a c imm w : Int} (h : okP 37 d n m a c imm) (hw : w = 3573756095 + (bar imm) * 256) : decF 37 w = ⟨37, d, n, m, a, c, imm⟩ := by
  obtain ⟨hd, hn, hm, ha, hc, hz, hi⟩ : d = 0 ∧ n = 0 ∧ m = 0 ∧ a = 0 ∧ c = 0 ∧ True ∧ (0 ≤ imm ∧ imm ≤ 2) := h
  rcases (show imm = 0 ∨ imm = 1 ∨ imm = 2 by omega) with rfl | rfl | rfl
  · have hw : w = 3573756095 + 11 * 256 := hw
    subst hw; subst hd hn hm ha hc; rfl
  · have hw : w = 3573756095 + 9 * 256 := hw
    subst hw; subst hd hn hm ha hc; rfl
  · have hw : w = 3573756095 + 10 * 256 := hw
    subst hw; subst hd hn hm ha hc; rfl
theorem dec_38 {d n m a c imm w : Int} (h : okP 38 d n m a c imm) (hw : w = 3573758879) : decF 38 w = ⟨38, d, n, m, a, c, imm⟩ := by
  obtain ⟨hd, hn, hm, ha, hc, hz, hi⟩ : d = 0 ∧ n = 0 ∧ m = 0 ∧ a = 0 ∧ c = 0 ∧ imm = 0 ∧ (True) := h
  show (⟨38, 0, 0, 0, 0, 0, 0⟩ : I7) = _
  ext <;> dsimp only <;> omega
theorem dec_39 {d n m a c imm w : Int} (h : okP 39 d n m a c imm) (hw : w = 3573759967) : decF 39 w = ⟨39, d, n, m, a, c, imm⟩ := by
  obtain ⟨hd, hn, hm, ha, hc, hz, hi⟩ : d = 0 ∧ n = 0 ∧ m = 0 ∧ a = 0 ∧ c = 0 ∧ imm = 0 ∧ (True) := h
  show (⟨39, 0, 0, 0, 0, 0, 0⟩ : I7) = _
  ext <;> dsimp only <;> omega
theorem dec_40 {d n m a c imm w : Int} (h : okP 40 d n m a c imm) (hw : w = 3574299424 + n) : decF 40 w = ⟨40, d, n, m, a, c, imm⟩ := by
  obtain ⟨hd, hn, hm, ha, hc, hz, hi⟩ : d = 0 ∧ (0 ≤ n ∧ n ≤ 31) ∧ m = 0 ∧ a = 0 ∧ c = 0 ∧ imm = 0 ∧ (True) := h
  show (⟨40, 0, w % 32, 0, 0, 0, 0⟩ : I7) = _
  ext <;> dsimp only <;> omega
theorem dec_41 {d n m a c imm w : Int} (h : okP 41 d n m a c imm) (hw : w = 3574297888 + n) : decF 41 w = ⟨41, d, n, m, a, c, imm⟩ := by
  obtain ⟨hd, hn, hm, ha, hc, hz, hi⟩ : d = 0 ∧ (0 ≤ n ∧ n ≤ 31) ∧ m = 0 ∧ a = 0 ∧ c = 0 ∧ imm = 0 ∧ (True) := h
  show (⟨41, 0, w % 32, 0, 0, 0, 0⟩ : I7) = _
  ext <;> dsimp only <;> omega
theorem dec_42 {d n m a c imm w : Int} (h : okP 42 d n m a c imm) (hw : w = 3556769793 + imm * 32) : decF 42 w = ⟨42, d, n, m, a, c, imm⟩ := by
  obtain ⟨hd, hn, hm, ha, hc, hz, hi⟩ : d = 0 ∧ n = 0 ∧ m = 0 ∧ a = 0 ∧ c = 0 ∧ True ∧ (0 ≤ imm ∧ imm < 65536) := h
  show (⟨42, 0, 0, 0, 0, 0, w / 32 % 65536⟩ : I7) = _
  ext <;> dsimp only <;> omega
end Go.Proofs.Ytalgegmcllcnmaa.isa
