/- What a right instruction is (the reference's). Written by genchk.py. -/
import Derived.Test.YtbjikmepfpkmjaazEncWordsPChkA
import Derived.Test.YtbjikmepfpkmjaazEncWordsQx11
namespace Go.Proofs.Ytbjikmepfpkmjaa.X
set_option linter.unusedVariables false
set_option linter.unusedSimpArgs false
open Go.RowKit Go.Proofs.YtbjikmepfpkmjaaW.PrintWords Go.Proofs.YtbjikmepfpkmjaaW.PrintLast Go.Proofs.YtbjikmepfpkmjaaW.PrintMore Go.Proofs.Ytbjikmepfpkmjaa.Q
theorem rreg_eq (b : Bool) (v : Int) : brazierref2_reg.f b v = some (reg b v) := by
  unfold brazierref2_reg.f reg
  cases b
  · simp only [Bool.false_eq_true, if_false]
    refine congrArg some ?_
    exact Bool.eq_iff_iff.2 (by simp)
  · simp only [if_true]
    by_cases h : v ≥ 0
    · rw [if_pos h]
      by_cases h2 : v ≤ 31
      · rw [if_pos h2, decide_eq_true ⟨h, h2⟩]
      · rw [if_neg h2, decide_eq_false (by omega)]
    · rw [if_neg h, decide_eq_false (by omega)]
theorem rchk_eq (k : Nat) (op d n m a c imm : Int) (bd bn bm ba bc bi G : Bool) (o1 : 0 ≤ op) (o2 : op ≤ 42) (hf : brazierref2_fields.f (k + 39) op = some (bd, bn, bm, ba, bc, bi)) (hG : brazierref2_imm.f (k + 39) op d n m a c imm = some G) :
    brazierref2_Check.f (k + 40) op d n m a c imm = if reg bd d = true then if reg bn n = true then if reg bm m = true then if reg ba a = true then if (G && ((!(decide (op = 2 ∨ op = 3)) || decide (m ≤ 3)) && ((bc || c == 0) && (decide (0 ≤ c ∧ c ≤ 15) && (!(op == 21) || decide (c ≤ 13)))))) = true then some 0 else some 1 else some 1 else some 1 else some 1 else some 1 := by
  have hbad : ∀ x, brazierref2_Check.j1 (k + 39) bc true op d n m a c x = some 1 := fun x => by simp only [brazierref2_Check.j1, if_true]
  unfold brazierref2_Check.f
  rw [if_neg (by omega), decide_eq_false (by omega)]
  simp only [brazierref2_Check.j0, Bool.false_eq_true, if_false, hf, Option.bind_some, rreg_eq, hG, hbad]
  refine ite_c (ite_c (ite_c (ite_c ?_ rfl) rfl) rfl) rfl
  cases G
  · simp only [Bool.not_false, hbad, Bool.false_and, Bool.false_eq_true, if_false]
  simp only [Bool.not_true, brazierref2_Check.j1, Bool.false_eq_true, if_false, Bool.true_and]
  have hj2 : ∀ B : Bool, brazierref2_Check.j2 (k + 38) bc B op d n m a c imm = if (!B && ((bc || c == 0) && (decide (0 ≤ c ∧ c ≤ 15) && (!(op == 21) || decide (c ≤ 13))))) = true then some 0 else some 1 := by
    intro B
    cases B
    · simp only [brazierref2_Check.j2, Bool.false_eq_true, if_false, Bool.not_false, Bool.true_and, Bool.and_eq_true, Bool.or_eq_true, decide_eq_true_eq, beq_iff_eq, Bool.not_eq_true', beq_eq_false_iff_ne]
      cases bc <;> simp only [Bool.false_eq_true, if_false, if_true, false_or, true_or, true_and] <;> (repeat' split) <;> first | rfl | (exfalso; omega)
    · simp only [brazierref2_Check.j2, if_true, Bool.not_true, Bool.false_and, Bool.false_eq_true, if_false]
  simp only [hj2]
  by_cases e2 : op = 2
  · subst e2
    simp
    try (by_cases hm : m ≤ 3 <;> simp [hm] <;> (try omega))
  · by_cases e3 : op = 3
    · subst e3
      simp
      try (by_cases hm : m ≤ 3 <;> simp [hm] <;> (try omega))
    · simp [e2, e3]
theorem jumps19 (v : Int) : brazierref2_jumps.f v 19 = some (decide ((-1048576 ≤ v ∧ v ≤ 1048572) ∧ Int.tmod v 4 = 0)) := by
  have e1 : IntKind.u64.wrap (wrap64 (19 + 1)) = 20 := by kernel_rfl
  have e2 : wrap64 (-(shl .i64 1 20)) = -1048576 := by kernel_rfl
  have e3 : wrap64 ((shl .i64 1 20) - 4) = 1048572 := by kernel_rfl
  unfold brazierref2_jumps.f
  rw [e1, e2, e3, if_pos (by omega)]
  by_cases c0 : Int.tmod v 4 = 0
  · rw [if_pos c0]
    by_cases c1 : v ≥ -1048576
    · rw [if_pos c1]
      refine congrArg some (decide_eq_decide.2 ?_)
      omega
    · rw [if_neg c1, decide_eq_false (by omega)]
  · rw [if_neg c0, decide_eq_false (fun h => c0 h.2)]
theorem jumps26 (v : Int) : brazierref2_jumps.f v 26 = some (decide ((-134217728 ≤ v ∧ v ≤ 134217724) ∧ Int.tmod v 4 = 0)) := by
  have e1 : IntKind.u64.wrap (wrap64 (26 + 1)) = 27 := by kernel_rfl
  have e2 : wrap64 (-(shl .i64 1 27)) = -134217728 := by kernel_rfl
  have e3 : wrap64 ((shl .i64 1 27) - 4) = 134217724 := by kernel_rfl
  unfold brazierref2_jumps.f
  rw [e1, e2, e3, if_pos (by omega)]
  by_cases c0 : Int.tmod v 4 = 0
  · rw [if_pos c0]
    by_cases c1 : v ≥ -134217728
    · rw [if_pos c1]
      refine congrArg some (decide_eq_decide.2 ?_)
      omega
    · rw [if_neg c1, decide_eq_false (by omega)]
  · rw [if_neg c0, decide_eq_false (fun h => c0 h.2)]
set_option maxRecDepth 10000 in
theorem rchk_0 (k : Nat) (d n m a c imm : Int) : brazierref2_Check.f (k + 40) 0 d n m a c imm = if (d = 0) ∧ (n = 0) ∧ (m = 0) ∧ (a = 0) ∧ (c = 0) ∧ (0 ≤ imm ∧ imm ≤ 65535) then some 0 else some 1 := by
  have hG : brazierref2_imm.f (k + 39) 0 d n m a c imm = some (decide (0 ≤ imm ∧ imm ≤ 65535)) := by
    simp [brazierref2_imm.f, brazierref2_imm.j0, brazierref2_imm.j1, brazierref2_imm.j2, brazierref2_imm.j3, jumps19, jumps26]
    try (first | omega | (repeat' split) <;> first | rfl | (simp; omega) | exact Bool.eq_iff_iff.2 (by simp) | (by_cases h8 : imm.tmod 8 = 0 <;> simp_all <;> done) | (simp_all; try omega))
  rw [rchk_eq k 0 d n m a c imm false false false false false true _ (by omega) (by omega) rfl hG]
  clear hG
  unfold reg
  simp [Bool.false_eq_true, if_true, if_false, decide_eq_true_eq, Bool.and_eq_true, Bool.or_eq_true, beq_iff_eq, true_or, false_or, decide_true, and_true, true_and]
  try (repeat' split) <;> first | rfl | (exfalso; omega)
set_option maxRecDepth 10000 in
theorem rchk_1 (k : Nat) (d n m a c imm : Int) : brazierref2_Check.f (k + 40) 1 d n m a c imm = if (d = 0) ∧ (n = 0) ∧ (m = 0) ∧ (a = 0) ∧ (c = 0) ∧ (imm = 0) then some 0 else some 1 := by
  have hG : brazierref2_imm.f (k + 39) 1 d n m a c imm = some (decide (imm = 0)) := by
    simp [brazierref2_imm.f, brazierref2_imm.j0, brazierref2_imm.j1, brazierref2_imm.j2, brazierref2_imm.j3, jumps19, jumps26]
    try (first | omega | (repeat' split) <;> first | rfl | (simp; omega) | exact Bool.eq_iff_iff.2 (by simp) | (by_cases h8 : imm.tmod 8 = 0 <;> simp_all <;> done) | (simp_all; try omega))
  rw [rchk_eq k 1 d n m a c imm false false false false false false _ (by omega) (by omega) rfl hG]
  clear hG
  unfold reg
  simp [Bool.false_eq_true, if_true, if_false, decide_eq_true_eq, Bool.and_eq_true, Bool.or_eq_true, beq_iff_eq, true_or, false_or, decide_true, and_true, true_and]
  try (repeat' split) <;> first | rfl | (exfalso; omega)
set_option maxRecDepth 10000 in
theorem rchk_2 (k : Nat) (d n m a c imm : Int) : brazierref2_Check.f (k + 40) 2 d n m a c imm = if ((0 ≤ d ∧ d ≤ 31)) ∧ (n = 0) ∧ ((0 ≤ m ∧ m ≤ 31)) ∧ (a = 0) ∧ (c = 0) ∧ ((0 ≤ imm ∧ imm ≤ 65535) ∧ m ≤ 3) then some 0 else some 1 := by
  have hG : brazierref2_imm.f (k + 39) 2 d n m a c imm = some (decide (0 ≤ imm ∧ imm ≤ 65535)) := by
    simp [brazierref2_imm.f, brazierref2_imm.j0, brazierref2_imm.j1, brazierref2_imm.j2, brazierref2_imm.j3, jumps19, jumps26]
    try (first | omega | (repeat' split) <;> first | rfl | (simp; omega) | exact Bool.eq_iff_iff.2 (by simp) | (by_cases h8 : imm.tmod 8 = 0 <;> simp_all <;> done) | (simp_all; try omega))
  rw [rchk_eq k 2 d n m a c imm true false true false false true _ (by omega) (by omega) rfl hG]
  clear hG
  unfold reg
  simp [Bool.false_eq_true, if_true, if_false, decide_eq_true_eq, Bool.and_eq_true, Bool.or_eq_true, beq_iff_eq, true_or, false_or, decide_true, and_true, true_and]
  try (repeat' split) <;> first | rfl | (exfalso; omega)
set_option maxRecDepth 10000 in
theorem rchk_3 (k : Nat) (d n m a c imm : Int) : brazierref2_Check.f (k + 40) 3 d n m a c imm = if ((0 ≤ d ∧ d ≤ 31)) ∧ (n = 0) ∧ ((0 ≤ m ∧ m ≤ 31)) ∧ (a = 0) ∧ (c = 0) ∧ ((0 ≤ imm ∧ imm ≤ 65535) ∧ m ≤ 3) then some 0 else some 1 := by
  have hG : brazierref2_imm.f (k + 39) 3 d n m a c imm = some (decide (0 ≤ imm ∧ imm ≤ 65535)) := by
    simp [brazierref2_imm.f, brazierref2_imm.j0, brazierref2_imm.j1, brazierref2_imm.j2, brazierref2_imm.j3, jumps19, jumps26]
    try (first | omega | (repeat' split) <;> first | rfl | (simp; omega) | exact Bool.eq_iff_iff.2 (by simp) | (by_cases h8 : imm.tmod 8 = 0 <;> simp_all <;> done) | (simp_all; try omega))
  rw [rchk_eq k 3 d n m a c imm true false true false false true _ (by omega) (by omega) rfl hG]
  clear hG
  unfold reg
  simp [Bool.false_eq_true, if_true, if_false, decide_eq_true_eq, Bool.and_eq_true, Bool.or_eq_true, beq_iff_eq, true_or, false_or, decide_true, and_true, true_and]
  try (repeat' split) <;> first | rfl | (exfalso; omega)
set_option maxRecDepth 10000 in
theorem rchk_4 (k : Nat) (d n m a c imm : Int) : brazierref2_Check.f (k + 40) 4 d n m a c imm = if ((0 ≤ d ∧ d ≤ 31)) ∧ ((0 ≤ n ∧ n ≤ 31)) ∧ (m = 0) ∧ (a = 0) ∧ (c = 0) ∧ (0 ≤ imm ∧ imm ≤ 4095) then some 0 else some 1 := by
  have hG : brazierref2_imm.f (k + 39) 4 d n m a c imm = some (decide (0 ≤ imm ∧ imm ≤ 4095)) := by
    simp [brazierref2_imm.f, brazierref2_imm.j0, brazierref2_imm.j1, brazierref2_imm.j2, brazierref2_imm.j3, jumps19, jumps26]
    try (first | omega | (repeat' split) <;> first | rfl | (simp; omega) | exact Bool.eq_iff_iff.2 (by simp) | (by_cases h8 : imm.tmod 8 = 0 <;> simp_all <;> done) | (simp_all; try omega))
  rw [rchk_eq k 4 d n m a c imm true true false false false true _ (by omega) (by omega) rfl hG]
  clear hG
  unfold reg
  simp [Bool.false_eq_true, if_true, if_false, decide_eq_true_eq, Bool.and_eq_true, Bool.or_eq_true, beq_iff_eq, true_or, false_or, decide_true, and_true, true_and]
  try (repeat' split) <;> first | rfl | (exfalso; omega)
set_option maxRecDepth 10000 in
theorem rchk_5 (k : Nat) (d n m a c imm : Int) : brazierref2_Check.f (k + 40) 5 d n m a c imm = if ((0 ≤ d ∧ d ≤ 31)) ∧ ((0 ≤ n ∧ n ≤ 31)) ∧ (m = 0) ∧ (a = 0) ∧ (c = 0) ∧ (0 ≤ imm ∧ imm ≤ 4095) then some 0 else some 1 := by
  have hG : brazierref2_imm.f (k + 39) 5 d n m a c imm = some (decide (0 ≤ imm ∧ imm ≤ 4095)) := by
    simp [brazierref2_imm.f, brazierref2_imm.j0, brazierref2_imm.j1, brazierref2_imm.j2, brazierref2_imm.j3, jumps19, jumps26]
    try (first | omega | (repeat' split) <;> first | rfl | (simp; omega) | exact Bool.eq_iff_iff.2 (by simp) | (by_cases h8 : imm.tmod 8 = 0 <;> simp_all <;> done) | (simp_all; try omega))
  rw [rchk_eq k 5 d n m a c imm true true false false false true _ (by omega) (by omega) rfl hG]
  clear hG
  unfold reg
  simp [Bool.false_eq_true, if_true, if_false, decide_eq_true_eq, Bool.and_eq_true, Bool.or_eq_true, beq_iff_eq, true_or, false_or, decide_true, and_true, true_and]
  try (repeat' split) <;> first | rfl | (exfalso; omega)
set_option maxRecDepth 10000 in
theorem rchk_6 (k : Nat) (d n m a c imm : Int) : brazierref2_Check.f (k + 40) 6 d n m a c imm = if ((0 ≤ d ∧ d ≤ 31)) ∧ ((0 ≤ n ∧ n ≤ 31)) ∧ (m = 0) ∧ (a = 0) ∧ (c = 0) ∧ (0 ≤ imm ∧ imm ≤ 4095) then some 0 else some 1 := by
  have hG : brazierref2_imm.f (k + 39) 6 d n m a c imm = some (decide (0 ≤ imm ∧ imm ≤ 4095)) := by
    simp [brazierref2_imm.f, brazierref2_imm.j0, brazierref2_imm.j1, brazierref2_imm.j2, brazierref2_imm.j3, jumps19, jumps26]
    try (first | omega | (repeat' split) <;> first | rfl | (simp; omega) | exact Bool.eq_iff_iff.2 (by simp) | (by_cases h8 : imm.tmod 8 = 0 <;> simp_all <;> done) | (simp_all; try omega))
  rw [rchk_eq k 6 d n m a c imm true true false false false true _ (by omega) (by omega) rfl hG]
  clear hG
  unfold reg
  simp [Bool.false_eq_true, if_true, if_false, decide_eq_true_eq, Bool.and_eq_true, Bool.or_eq_true, beq_iff_eq, true_or, false_or, decide_true, and_true, true_and]
  try (repeat' split) <;> first | rfl | (exfalso; omega)
set_option maxRecDepth 10000 in
theorem rchk_7 (k : Nat) (d n m a c imm : Int) : brazierref2_Check.f (k + 40) 7 d n m a c imm = if ((0 ≤ d ∧ d ≤ 31)) ∧ ((0 ≤ n ∧ n ≤ 31)) ∧ ((0 ≤ m ∧ m ≤ 31)) ∧ (a = 0) ∧ (c = 0) ∧ (imm = 0) then some 0 else some 1 := by
  have hG : brazierref2_imm.f (k + 39) 7 d n m a c imm = some (decide (imm = 0)) := by
    simp [brazierref2_imm.f, brazierref2_imm.j0, brazierref2_imm.j1, brazierref2_imm.j2, brazierref2_imm.j3, jumps19, jumps26]
    try (first | omega | (repeat' split) <;> first | rfl | (simp; omega) | exact Bool.eq_iff_iff.2 (by simp) | (by_cases h8 : imm.tmod 8 = 0 <;> simp_all <;> done) | (simp_all; try omega))
  rw [rchk_eq k 7 d n m a c imm true true true false false false _ (by omega) (by omega) rfl hG]
  clear hG
  unfold reg
  simp [Bool.false_eq_true, if_true, if_false, decide_eq_true_eq, Bool.and_eq_true, Bool.or_eq_true, beq_iff_eq, true_or, false_or, decide_true, and_true, true_and]
  try (repeat' split) <;> first | rfl | (exfalso; omega)
set_option maxRecDepth 10000 in
theorem rchk_8 (k : Nat) (d n m a c imm : Int) : brazierref2_Check.f (k + 40) 8 d n m a c imm = if ((0 ≤ d ∧ d ≤ 31)) ∧ ((0 ≤ n ∧ n ≤ 31)) ∧ ((0 ≤ m ∧ m ≤ 31)) ∧ (a = 0) ∧ (c = 0) ∧ (imm = 0) then some 0 else some 1 := by
  have hG : brazierref2_imm.f (k + 39) 8 d n m a c imm = some (decide (imm = 0)) := by
    simp [brazierref2_imm.f, brazierref2_imm.j0, brazierref2_imm.j1, brazierref2_imm.j2, brazierref2_imm.j3, jumps19, jumps26]
    try (first | omega | (repeat' split) <;> first | rfl | (simp; omega) | exact Bool.eq_iff_iff.2 (by simp) | (by_cases h8 : imm.tmod 8 = 0 <;> simp_all <;> done) | (simp_all; try omega))
  rw [rchk_eq k 8 d n m a c imm true true true false false false _ (by omega) (by omega) rfl hG]
  clear hG
  unfold reg
  simp [Bool.false_eq_true, if_true, if_false, decide_eq_true_eq, Bool.and_eq_true, Bool.or_eq_true, beq_iff_eq, true_or, false_or, decide_true, and_true, true_and]
  try (repeat' split) <;> first | rfl | (exfalso; omega)
set_option maxRecDepth 10000 in
theorem rchk_9 (k : Nat) (d n m a c imm : Int) : brazierref2_Check.f (k + 40) 9 d n m a c imm = if ((0 ≤ d ∧ d ≤ 31)) ∧ ((0 ≤ n ∧ n ≤ 31)) ∧ ((0 ≤ m ∧ m ≤ 31)) ∧ (a = 0) ∧ (c = 0) ∧ (imm = 0) then some 0 else some 1 := by
  have hG : brazierref2_imm.f (k + 39) 9 d n m a c imm = some (decide (imm = 0)) := by
    simp [brazierref2_imm.f, brazierref2_imm.j0, brazierref2_imm.j1, brazierref2_imm.j2, brazierref2_imm.j3, jumps19, jumps26]
    try (first | omega | (repeat' split) <;> first | rfl | (simp; omega) | exact Bool.eq_iff_iff.2 (by simp) | (by_cases h8 : imm.tmod 8 = 0 <;> simp_all <;> done) | (simp_all; try omega))
  rw [rchk_eq k 9 d n m a c imm true true true false false false _ (by omega) (by omega) rfl hG]
  clear hG
  unfold reg
  simp [Bool.false_eq_true, if_true, if_false, decide_eq_true_eq, Bool.and_eq_true, Bool.or_eq_true, beq_iff_eq, true_or, false_or, decide_true, and_true, true_and]
  try (repeat' split) <;> first | rfl | (exfalso; omega)
set_option maxRecDepth 10000 in
theorem rchk_10 (k : Nat) (d n m a c imm : Int) : brazierref2_Check.f (k + 40) 10 d n m a c imm = if ((0 ≤ d ∧ d ≤ 31)) ∧ ((0 ≤ n ∧ n ≤ 31)) ∧ ((0 ≤ m ∧ m ≤ 31)) ∧ (a = 0) ∧ (c = 0) ∧ (imm = 0) then some 0 else some 1 := by
  have hG : brazierref2_imm.f (k + 39) 10 d n m a c imm = some (decide (imm = 0)) := by
    simp [brazierref2_imm.f, brazierref2_imm.j0, brazierref2_imm.j1, brazierref2_imm.j2, brazierref2_imm.j3, jumps19, jumps26]
    try (first | omega | (repeat' split) <;> first | rfl | (simp; omega) | exact Bool.eq_iff_iff.2 (by simp) | (by_cases h8 : imm.tmod 8 = 0 <;> simp_all <;> done) | (simp_all; try omega))
  rw [rchk_eq k 10 d n m a c imm true true true false false false _ (by omega) (by omega) rfl hG]
  clear hG
  unfold reg
  simp [Bool.false_eq_true, if_true, if_false, decide_eq_true_eq, Bool.and_eq_true, Bool.or_eq_true, beq_iff_eq, true_or, false_or, decide_true, and_true, true_and]
  try (repeat' split) <;> first | rfl | (exfalso; omega)
set_option maxRecDepth 10000 in
theorem rchk_11 (k : Nat) (d n m a c imm : Int) : brazierref2_Check.f (k + 40) 11 d n m a c imm = if ((0 ≤ d ∧ d ≤ 31)) ∧ ((0 ≤ n ∧ n ≤ 31)) ∧ ((0 ≤ m ∧ m ≤ 31)) ∧ (a = 0) ∧ (c = 0) ∧ (imm = 0) then some 0 else some 1 := by
  have hG : brazierref2_imm.f (k + 39) 11 d n m a c imm = some (decide (imm = 0)) := by
    simp [brazierref2_imm.f, brazierref2_imm.j0, brazierref2_imm.j1, brazierref2_imm.j2, brazierref2_imm.j3, jumps19, jumps26]
    try (first | omega | (repeat' split) <;> first | rfl | (simp; omega) | exact Bool.eq_iff_iff.2 (by simp) | (by_cases h8 : imm.tmod 8 = 0 <;> simp_all <;> done) | (simp_all; try omega))
  rw [rchk_eq k 11 d n m a c imm true true true false false false _ (by omega) (by omega) rfl hG]
  clear hG
  unfold reg
  simp [Bool.false_eq_true, if_true, if_false, decide_eq_true_eq, Bool.and_eq_true, Bool.or_eq_true, beq_iff_eq, true_or, false_or, decide_true, and_true, true_and]
  try (repeat' split) <;> first | rfl | (exfalso; omega)
set_option maxRecDepth 10000 in
theorem rchk_12 (k : Nat) (d n m a c imm : Int) : brazierref2_Check.f (k + 40) 12 d n m a c imm = if ((0 ≤ d ∧ d ≤ 31)) ∧ ((0 ≤ n ∧ n ≤ 31)) ∧ ((0 ≤ m ∧ m ≤ 31)) ∧ (a = 0) ∧ (c = 0) ∧ (imm = 0) then some 0 else some 1 := by
  have hG : brazierref2_imm.f (k + 39) 12 d n m a c imm = some (decide (imm = 0)) := by
    simp [brazierref2_imm.f, brazierref2_imm.j0, brazierref2_imm.j1, brazierref2_imm.j2, brazierref2_imm.j3, jumps19, jumps26]
    try (first | omega | (repeat' split) <;> first | rfl | (simp; omega) | exact Bool.eq_iff_iff.2 (by simp) | (by_cases h8 : imm.tmod 8 = 0 <;> simp_all <;> done) | (simp_all; try omega))
  rw [rchk_eq k 12 d n m a c imm true true true false false false _ (by omega) (by omega) rfl hG]
  clear hG
  unfold reg
  simp [Bool.false_eq_true, if_true, if_false, decide_eq_true_eq, Bool.and_eq_true, Bool.or_eq_true, beq_iff_eq, true_or, false_or, decide_true, and_true, true_and]
  try (repeat' split) <;> first | rfl | (exfalso; omega)
set_option maxRecDepth 10000 in
theorem rchk_13 (k : Nat) (d n m a c imm : Int) : brazierref2_Check.f (k + 40) 13 d n m a c imm = if ((0 ≤ d ∧ d ≤ 31)) ∧ ((0 ≤ n ∧ n ≤ 31)) ∧ ((0 ≤ m ∧ m ≤ 31)) ∧ ((0 ≤ a ∧ a ≤ 31)) ∧ (c = 0) ∧ (imm = 0) then some 0 else some 1 := by
  have hG : brazierref2_imm.f (k + 39) 13 d n m a c imm = some (decide (imm = 0)) := by
    simp [brazierref2_imm.f, brazierref2_imm.j0, brazierref2_imm.j1, brazierref2_imm.j2, brazierref2_imm.j3, jumps19, jumps26]
    try (first | omega | (repeat' split) <;> first | rfl | (simp; omega) | exact Bool.eq_iff_iff.2 (by simp) | (by_cases h8 : imm.tmod 8 = 0 <;> simp_all <;> done) | (simp_all; try omega))
  rw [rchk_eq k 13 d n m a c imm true true true true false false _ (by omega) (by omega) rfl hG]
  clear hG
  unfold reg
  simp [Bool.false_eq_true, if_true, if_false, decide_eq_true_eq, Bool.and_eq_true, Bool.or_eq_true, beq_iff_eq, true_or, false_or, decide_true, and_true, true_and]
  try (repeat' split) <;> first | rfl | (exfalso; omega)
set_option maxRecDepth 10000 in
theorem rchk_14 (k : Nat) (d n m a c imm : Int) : brazierref2_Check.f (k + 40) 14 d n m a c imm = if ((0 ≤ d ∧ d ≤ 31)) ∧ ((0 ≤ n ∧ n ≤ 31)) ∧ ((0 ≤ m ∧ m ≤ 31)) ∧ ((0 ≤ a ∧ a ≤ 31)) ∧ (c = 0) ∧ (imm = 0) then some 0 else some 1 := by
  have hG : brazierref2_imm.f (k + 39) 14 d n m a c imm = some (decide (imm = 0)) := by
    simp [brazierref2_imm.f, brazierref2_imm.j0, brazierref2_imm.j1, brazierref2_imm.j2, brazierref2_imm.j3, jumps19, jumps26]
    try (first | omega | (repeat' split) <;> first | rfl | (simp; omega) | exact Bool.eq_iff_iff.2 (by simp) | (by_cases h8 : imm.tmod 8 = 0 <;> simp_all <;> done) | (simp_all; try omega))
  rw [rchk_eq k 14 d n m a c imm true true true true false false _ (by omega) (by omega) rfl hG]
  clear hG
  unfold reg
  simp [Bool.false_eq_true, if_true, if_false, decide_eq_true_eq, Bool.and_eq_true, Bool.or_eq_true, beq_iff_eq, true_or, false_or, decide_true, and_true, true_and]
  try (repeat' split) <;> first | rfl | (exfalso; omega)
set_option maxRecDepth 10000 in
theorem rchk_15 (k : Nat) (d n m a c imm : Int) : brazierref2_Check.f (k + 40) 15 d n m a c imm = if ((0 ≤ d ∧ d ≤ 31)) ∧ ((0 ≤ n ∧ n ≤ 31)) ∧ ((0 ≤ m ∧ m ≤ 31)) ∧ (a = 0) ∧ (c = 0) ∧ (imm = 0) then some 0 else some 1 := by
  have hG : brazierref2_imm.f (k + 39) 15 d n m a c imm = some (decide (imm = 0)) := by
    simp [brazierref2_imm.f, brazierref2_imm.j0, brazierref2_imm.j1, brazierref2_imm.j2, brazierref2_imm.j3, jumps19, jumps26]
    try (first | omega | (repeat' split) <;> first | rfl | (simp; omega) | exact Bool.eq_iff_iff.2 (by simp) | (by_cases h8 : imm.tmod 8 = 0 <;> simp_all <;> done) | (simp_all; try omega))
  rw [rchk_eq k 15 d n m a c imm true true true false false false _ (by omega) (by omega) rfl hG]
  clear hG
  unfold reg
  simp [Bool.false_eq_true, if_true, if_false, decide_eq_true_eq, Bool.and_eq_true, Bool.or_eq_true, beq_iff_eq, true_or, false_or, decide_true, and_true, true_and]
  try (repeat' split) <;> first | rfl | (exfalso; omega)
set_option maxRecDepth 10000 in
theorem rchk_16 (k : Nat) (d n m a c imm : Int) : brazierref2_Check.f (k + 40) 16 d n m a c imm = if ((0 ≤ d ∧ d ≤ 31)) ∧ ((0 ≤ n ∧ n ≤ 31)) ∧ ((0 ≤ m ∧ m ≤ 31)) ∧ (a = 0) ∧ (c = 0) ∧ (imm = 0) then some 0 else some 1 := by
  have hG : brazierref2_imm.f (k + 39) 16 d n m a c imm = some (decide (imm = 0)) := by
    simp [brazierref2_imm.f, brazierref2_imm.j0, brazierref2_imm.j1, brazierref2_imm.j2, brazierref2_imm.j3, jumps19, jumps26]
    try (first | omega | (repeat' split) <;> first | rfl | (simp; omega) | exact Bool.eq_iff_iff.2 (by simp) | (by_cases h8 : imm.tmod 8 = 0 <;> simp_all <;> done) | (simp_all; try omega))
  rw [rchk_eq k 16 d n m a c imm true true true false false false _ (by omega) (by omega) rfl hG]
  clear hG
  unfold reg
  simp [Bool.false_eq_true, if_true, if_false, decide_eq_true_eq, Bool.and_eq_true, Bool.or_eq_true, beq_iff_eq, true_or, false_or, decide_true, and_true, true_and]
  try (repeat' split) <;> first | rfl | (exfalso; omega)
set_option maxRecDepth 10000 in
theorem rchk_17 (k : Nat) (d n m a c imm : Int) : brazierref2_Check.f (k + 40) 17 d n m a c imm = if ((0 ≤ d ∧ d ≤ 31)) ∧ ((0 ≤ n ∧ n ≤ 31)) ∧ ((0 ≤ m ∧ m ≤ 31)) ∧ (a = 0) ∧ (c = 0) ∧ (imm = 0) then some 0 else some 1 := by
  have hG : brazierref2_imm.f (k + 39) 17 d n m a c imm = some (decide (imm = 0)) := by
    simp [brazierref2_imm.f, brazierref2_imm.j0, brazierref2_imm.j1, brazierref2_imm.j2, brazierref2_imm.j3, jumps19, jumps26]
    try (first | omega | (repeat' split) <;> first | rfl | (simp; omega) | exact Bool.eq_iff_iff.2 (by simp) | (by_cases h8 : imm.tmod 8 = 0 <;> simp_all <;> done) | (simp_all; try omega))
  rw [rchk_eq k 17 d n m a c imm true true true false false false _ (by omega) (by omega) rfl hG]
  clear hG
  unfold reg
  simp [Bool.false_eq_true, if_true, if_false, decide_eq_true_eq, Bool.and_eq_true, Bool.or_eq_true, beq_iff_eq, true_or, false_or, decide_true, and_true, true_and]
  try (repeat' split) <;> first | rfl | (exfalso; omega)
set_option maxRecDepth 10000 in
theorem rchk_18 (k : Nat) (d n m a c imm : Int) : brazierref2_Check.f (k + 40) 18 d n m a c imm = if ((0 ≤ d ∧ d ≤ 31)) ∧ ((0 ≤ n ∧ n ≤ 31)) ∧ ((0 ≤ m ∧ m ≤ 31)) ∧ (a = 0) ∧ (c = 0) ∧ (imm = 0) then some 0 else some 1 := by
  have hG : brazierref2_imm.f (k + 39) 18 d n m a c imm = some (decide (imm = 0)) := by
    simp [brazierref2_imm.f, brazierref2_imm.j0, brazierref2_imm.j1, brazierref2_imm.j2, brazierref2_imm.j3, jumps19, jumps26]
    try (first | omega | (repeat' split) <;> first | rfl | (simp; omega) | exact Bool.eq_iff_iff.2 (by simp) | (by_cases h8 : imm.tmod 8 = 0 <;> simp_all <;> done) | (simp_all; try omega))
  rw [rchk_eq k 18 d n m a c imm true true true false false false _ (by omega) (by omega) rfl hG]
  clear hG
  unfold reg
  simp [Bool.false_eq_true, if_true, if_false, decide_eq_true_eq, Bool.and_eq_true, Bool.or_eq_true, beq_iff_eq, true_or, false_or, decide_true, and_true, true_and]
  try (repeat' split) <;> first | rfl | (exfalso; omega)
set_option maxRecDepth 10000 in
theorem rchk_19 (k : Nat) (d n m a c imm : Int) : brazierref2_Check.f (k + 40) 19 d n m a c imm = if ((0 ≤ d ∧ d ≤ 31)) ∧ ((0 ≤ n ∧ n ≤ 31)) ∧ ((0 ≤ m ∧ m ≤ 31)) ∧ (a = 0) ∧ ((0 ≤ c ∧ c ≤ 15)) ∧ (imm = 0) then some 0 else some 1 := by
  have hG : brazierref2_imm.f (k + 39) 19 d n m a c imm = some (decide (imm = 0)) := by
    simp [brazierref2_imm.f, brazierref2_imm.j0, brazierref2_imm.j1, brazierref2_imm.j2, brazierref2_imm.j3, jumps19, jumps26]
    try (first | omega | (repeat' split) <;> first | rfl | (simp; omega) | exact Bool.eq_iff_iff.2 (by simp) | (by_cases h8 : imm.tmod 8 = 0 <;> simp_all <;> done) | (simp_all; try omega))
  rw [rchk_eq k 19 d n m a c imm true true true false true false _ (by omega) (by omega) rfl hG]
  clear hG
  unfold reg
  simp [Bool.false_eq_true, if_true, if_false, decide_eq_true_eq, Bool.and_eq_true, Bool.or_eq_true, beq_iff_eq, true_or, false_or, decide_true, and_true, true_and]
  try (repeat' split) <;> first | rfl | (exfalso; omega)
set_option maxRecDepth 10000 in
theorem rchk_20 (k : Nat) (d n m a c imm : Int) : brazierref2_Check.f (k + 40) 20 d n m a c imm = if (d = 0) ∧ (n = 0) ∧ (m = 0) ∧ (a = 0) ∧ (c = 0) ∧ ((-134217728 ≤ imm ∧ imm ≤ 134217724) ∧ Int.tmod imm 4 = 0) then some 0 else some 1 := by
  have hG : brazierref2_imm.f (k + 39) 20 d n m a c imm = some (decide ((-134217728 ≤ imm ∧ imm ≤ 134217724) ∧ Int.tmod imm 4 = 0)) := by
    simp [brazierref2_imm.f, brazierref2_imm.j0, brazierref2_imm.j1, brazierref2_imm.j2, brazierref2_imm.j3, jumps19, jumps26]
    try (first | omega | (repeat' split) <;> first | rfl | (simp; omega) | exact Bool.eq_iff_iff.2 (by simp) | (by_cases h8 : imm.tmod 8 = 0 <;> simp_all <;> done) | (simp_all; try omega))
  rw [rchk_eq k 20 d n m a c imm false false false false false true _ (by omega) (by omega) rfl hG]
  clear hG
  unfold reg
  simp [Bool.false_eq_true, if_true, if_false, decide_eq_true_eq, Bool.and_eq_true, Bool.or_eq_true, beq_iff_eq, true_or, false_or, decide_true, and_true, true_and]
  try (repeat' split) <;> first | rfl | (exfalso; omega)
set_option maxRecDepth 10000 in
theorem rchk_21 (k : Nat) (d n m a c imm : Int) : brazierref2_Check.f (k + 40) 21 d n m a c imm = if (d = 0) ∧ (n = 0) ∧ (m = 0) ∧ (a = 0) ∧ ((0 ≤ c ∧ c ≤ 15)) ∧ (((-1048576 ≤ imm ∧ imm ≤ 1048572) ∧ Int.tmod imm 4 = 0) ∧ c ≤ 13) then some 0 else some 1 := by
  have hG : brazierref2_imm.f (k + 39) 21 d n m a c imm = some (decide ((-1048576 ≤ imm ∧ imm ≤ 1048572) ∧ Int.tmod imm 4 = 0)) := by
    simp [brazierref2_imm.f, brazierref2_imm.j0, brazierref2_imm.j1, brazierref2_imm.j2, brazierref2_imm.j3, jumps19, jumps26]
    try (first | omega | (repeat' split) <;> first | rfl | (simp; omega) | exact Bool.eq_iff_iff.2 (by simp) | (by_cases h8 : imm.tmod 8 = 0 <;> simp_all <;> done) | (simp_all; try omega))
  rw [rchk_eq k 21 d n m a c imm false false false false true true _ (by omega) (by omega) rfl hG]
  clear hG
  unfold reg
  simp [Bool.false_eq_true, if_true, if_false, decide_eq_true_eq, Bool.and_eq_true, Bool.or_eq_true, beq_iff_eq, true_or, false_or, decide_true, and_true, true_and]
  try (repeat' split) <;> first | rfl | (exfalso; omega)
set_option maxRecDepth 10000 in
theorem rchk_22 (k : Nat) (d n m a c imm : Int) : brazierref2_Check.f (k + 40) 22 d n m a c imm = if ((0 ≤ d ∧ d ≤ 31)) ∧ (n = 0) ∧ (m = 0) ∧ (a = 0) ∧ (c = 0) ∧ ((-1048576 ≤ imm ∧ imm ≤ 1048572) ∧ Int.tmod imm 4 = 0) then some 0 else some 1 := by
  have hG : brazierref2_imm.f (k + 39) 22 d n m a c imm = some (decide ((-1048576 ≤ imm ∧ imm ≤ 1048572) ∧ Int.tmod imm 4 = 0)) := by
    simp [brazierref2_imm.f, brazierref2_imm.j0, brazierref2_imm.j1, brazierref2_imm.j2, brazierref2_imm.j3, jumps19, jumps26]
    try (first | omega | (repeat' split) <;> first | rfl | (simp; omega) | exact Bool.eq_iff_iff.2 (by simp) | (by_cases h8 : imm.tmod 8 = 0 <;> simp_all <;> done) | (simp_all; try omega))
  rw [rchk_eq k 22 d n m a c imm true false false false false true _ (by omega) (by omega) rfl hG]
  clear hG
  unfold reg
  simp [Bool.false_eq_true, if_true, if_false, decide_eq_true_eq, Bool.and_eq_true, Bool.or_eq_true, beq_iff_eq, true_or, false_or, decide_true, and_true, true_and]
  try (repeat' split) <;> first | rfl | (exfalso; omega)
set_option maxRecDepth 10000 in
theorem rchk_23 (k : Nat) (d n m a c imm : Int) : brazierref2_Check.f (k + 40) 23 d n m a c imm = if ((0 ≤ d ∧ d ≤ 31)) ∧ (n = 0) ∧ (m = 0) ∧ (a = 0) ∧ (c = 0) ∧ ((-1048576 ≤ imm ∧ imm ≤ 1048572) ∧ Int.tmod imm 4 = 0) then some 0 else some 1 := by
  have hG : brazierref2_imm.f (k + 39) 23 d n m a c imm = some (decide ((-1048576 ≤ imm ∧ imm ≤ 1048572) ∧ Int.tmod imm 4 = 0)) := by
    simp [brazierref2_imm.f, brazierref2_imm.j0, brazierref2_imm.j1, brazierref2_imm.j2, brazierref2_imm.j3, jumps19, jumps26]
    try (first | omega | (repeat' split) <;> first | rfl | (simp; omega) | exact Bool.eq_iff_iff.2 (by simp) | (by_cases h8 : imm.tmod 8 = 0 <;> simp_all <;> done) | (simp_all; try omega))
  rw [rchk_eq k 23 d n m a c imm true false false false false true _ (by omega) (by omega) rfl hG]
  clear hG
  unfold reg
  simp [Bool.false_eq_true, if_true, if_false, decide_eq_true_eq, Bool.and_eq_true, Bool.or_eq_true, beq_iff_eq, true_or, false_or, decide_true, and_true, true_and]
  try (repeat' split) <;> first | rfl | (exfalso; omega)
set_option maxRecDepth 10000 in
theorem rchk_24 (k : Nat) (d n m a c imm : Int) : brazierref2_Check.f (k + 40) 24 d n m a c imm = if (d = 0) ∧ (n = 0) ∧ (m = 0) ∧ (a = 0) ∧ (c = 0) ∧ ((-134217728 ≤ imm ∧ imm ≤ 134217724) ∧ Int.tmod imm 4 = 0) then some 0 else some 1 := by
  have hG : brazierref2_imm.f (k + 39) 24 d n m a c imm = some (decide ((-134217728 ≤ imm ∧ imm ≤ 134217724) ∧ Int.tmod imm 4 = 0)) := by
    simp [brazierref2_imm.f, brazierref2_imm.j0, brazierref2_imm.j1, brazierref2_imm.j2, brazierref2_imm.j3, jumps19, jumps26]
    try (first | omega | (repeat' split) <;> first | rfl | (simp; omega) | exact Bool.eq_iff_iff.2 (by simp) | (by_cases h8 : imm.tmod 8 = 0 <;> simp_all <;> done) | (simp_all; try omega))
  rw [rchk_eq k 24 d n m a c imm false false false false false true _ (by omega) (by omega) rfl hG]
  clear hG
  unfold reg
  simp [Bool.false_eq_true, if_true, if_false, decide_eq_true_eq, Bool.and_eq_true, Bool.or_eq_true, beq_iff_eq, true_or, false_or, decide_true, and_true, true_and]
  try (repeat' split) <;> first | rfl | (exfalso; omega)
set_option maxRecDepth 10000 in
theorem rchk_25 (k : Nat) (d n m a c imm : Int) : brazierref2_Check.f (k + 40) 25 d n m a c imm = if (d = 0) ∧ ((0 ≤ n ∧ n ≤ 31)) ∧ (m = 0) ∧ (a = 0) ∧ (c = 0) ∧ (imm = 0) then some 0 else some 1 := by
  have hG : brazierref2_imm.f (k + 39) 25 d n m a c imm = some (decide (imm = 0)) := by
    simp [brazierref2_imm.f, brazierref2_imm.j0, brazierref2_imm.j1, brazierref2_imm.j2, brazierref2_imm.j3, jumps19, jumps26]
    try (first | omega | (repeat' split) <;> first | rfl | (simp; omega) | exact Bool.eq_iff_iff.2 (by simp) | (by_cases h8 : imm.tmod 8 = 0 <;> simp_all <;> done) | (simp_all; try omega))
  rw [rchk_eq k 25 d n m a c imm false true false false false false _ (by omega) (by omega) rfl hG]
  clear hG
  unfold reg
  simp [Bool.false_eq_true, if_true, if_false, decide_eq_true_eq, Bool.and_eq_true, Bool.or_eq_true, beq_iff_eq, true_or, false_or, decide_true, and_true, true_and]
  try (repeat' split) <;> first | rfl | (exfalso; omega)
set_option maxRecDepth 10000 in
theorem rchk_26 (k : Nat) (d n m a c imm : Int) : brazierref2_Check.f (k + 40) 26 d n m a c imm = if (d = 0) ∧ ((0 ≤ n ∧ n ≤ 31)) ∧ (m = 0) ∧ (a = 0) ∧ (c = 0) ∧ (imm = 0) then some 0 else some 1 := by
  have hG : brazierref2_imm.f (k + 39) 26 d n m a c imm = some (decide (imm = 0)) := by
    simp [brazierref2_imm.f, brazierref2_imm.j0, brazierref2_imm.j1, brazierref2_imm.j2, brazierref2_imm.j3, jumps19, jumps26]
    try (first | omega | (repeat' split) <;> first | rfl | (simp; omega) | exact Bool.eq_iff_iff.2 (by simp) | (by_cases h8 : imm.tmod 8 = 0 <;> simp_all <;> done) | (simp_all; try omega))
  rw [rchk_eq k 26 d n m a c imm false true false false false false _ (by omega) (by omega) rfl hG]
  clear hG
  unfold reg
  simp [Bool.false_eq_true, if_true, if_false, decide_eq_true_eq, Bool.and_eq_true, Bool.or_eq_true, beq_iff_eq, true_or, false_or, decide_true, and_true, true_and]
  try (repeat' split) <;> first | rfl | (exfalso; omega)
set_option maxRecDepth 10000 in
theorem rchk_27 (k : Nat) (d n m a c imm : Int) : brazierref2_Check.f (k + 40) 27 d n m a c imm = if (d = 0) ∧ ((0 ≤ n ∧ n ≤ 31)) ∧ (m = 0) ∧ (a = 0) ∧ (c = 0) ∧ (imm = 0) then some 0 else some 1 := by
  have hG : brazierref2_imm.f (k + 39) 27 d n m a c imm = some (decide (imm = 0)) := by
    simp [brazierref2_imm.f, brazierref2_imm.j0, brazierref2_imm.j1, brazierref2_imm.j2, brazierref2_imm.j3, jumps19, jumps26]
    try (first | omega | (repeat' split) <;> first | rfl | (simp; omega) | exact Bool.eq_iff_iff.2 (by simp) | (by_cases h8 : imm.tmod 8 = 0 <;> simp_all <;> done) | (simp_all; try omega))
  rw [rchk_eq k 27 d n m a c imm false true false false false false _ (by omega) (by omega) rfl hG]
  clear hG
  unfold reg
  simp [Bool.false_eq_true, if_true, if_false, decide_eq_true_eq, Bool.and_eq_true, Bool.or_eq_true, beq_iff_eq, true_or, false_or, decide_true, and_true, true_and]
  try (repeat' split) <;> first | rfl | (exfalso; omega)
set_option maxRecDepth 10000 in
theorem rchk_28 (k : Nat) (d n m a c imm : Int) : brazierref2_Check.f (k + 40) 28 d n m a c imm = if ((0 ≤ d ∧ d ≤ 31)) ∧ ((0 ≤ n ∧ n ≤ 31)) ∧ (m = 0) ∧ (a = 0) ∧ (c = 0) ∧ ((0 ≤ imm ∧ imm ≤ 32760) ∧ Int.tmod imm 8 = 0) then some 0 else some 1 := by
  have hG : brazierref2_imm.f (k + 39) 28 d n m a c imm = some (decide ((0 ≤ imm ∧ imm ≤ 32760) ∧ Int.tmod imm 8 = 0)) := by
    simp [brazierref2_imm.f, brazierref2_imm.j0, brazierref2_imm.j1, brazierref2_imm.j2, brazierref2_imm.j3, jumps19, jumps26]
    try (first | omega | (repeat' split) <;> first | rfl | (simp; omega) | exact Bool.eq_iff_iff.2 (by simp) | (by_cases h8 : imm.tmod 8 = 0 <;> simp_all <;> done) | (simp_all; try omega))
  rw [rchk_eq k 28 d n m a c imm true true false false false true _ (by omega) (by omega) rfl hG]
  clear hG
  unfold reg
  simp [Bool.false_eq_true, if_true, if_false, decide_eq_true_eq, Bool.and_eq_true, Bool.or_eq_true, beq_iff_eq, true_or, false_or, decide_true, and_true, true_and]
  try (repeat' split) <;> first | rfl | (exfalso; omega)
set_option maxRecDepth 10000 in
theorem rchk_29 (k : Nat) (d n m a c imm : Int) : brazierref2_Check.f (k + 40) 29 d n m a c imm = if ((0 ≤ d ∧ d ≤ 31)) ∧ ((0 ≤ n ∧ n ≤ 31)) ∧ (m = 0) ∧ (a = 0) ∧ (c = 0) ∧ ((0 ≤ imm ∧ imm ≤ 32760) ∧ Int.tmod imm 8 = 0) then some 0 else some 1 := by
  have hG : brazierref2_imm.f (k + 39) 29 d n m a c imm = some (decide ((0 ≤ imm ∧ imm ≤ 32760) ∧ Int.tmod imm 8 = 0)) := by
    simp [brazierref2_imm.f, brazierref2_imm.j0, brazierref2_imm.j1, brazierref2_imm.j2, brazierref2_imm.j3, jumps19, jumps26]
    try (first | omega | (repeat' split) <;> first | rfl | (simp; omega) | exact Bool.eq_iff_iff.2 (by simp) | (by_cases h8 : imm.tmod 8 = 0 <;> simp_all <;> done) | (simp_all; try omega))
  rw [rchk_eq k 29 d n m a c imm true true false false false true _ (by omega) (by omega) rfl hG]
  clear hG
  unfold reg
  simp [Bool.false_eq_true, if_true, if_false, decide_eq_true_eq, Bool.and_eq_true, Bool.or_eq_true, beq_iff_eq, true_or, false_or, decide_true, and_true, true_and]
  try (repeat' split) <;> first | rfl | (exfalso; omega)
set_option maxRecDepth 10000 in
theorem rchk_30 (k : Nat) (d n m a c imm : Int) : brazierref2_Check.f (k + 40) 30 d n m a c imm = if ((0 ≤ d ∧ d ≤ 31)) ∧ ((0 ≤ n ∧ n ≤ 31)) ∧ (m = 0) ∧ (a = 0) ∧ (c = 0) ∧ (0 ≤ imm ∧ imm ≤ 4095) then some 0 else some 1 := by
  have hG : brazierref2_imm.f (k + 39) 30 d n m a c imm = some (decide (0 ≤ imm ∧ imm ≤ 4095)) := by
    simp [brazierref2_imm.f, brazierref2_imm.j0, brazierref2_imm.j1, brazierref2_imm.j2, brazierref2_imm.j3, jumps19, jumps26]
    try (first | omega | (repeat' split) <;> first | rfl | (simp; omega) | exact Bool.eq_iff_iff.2 (by simp) | (by_cases h8 : imm.tmod 8 = 0 <;> simp_all <;> done) | (simp_all; try omega))
  rw [rchk_eq k 30 d n m a c imm true true false false false true _ (by omega) (by omega) rfl hG]
  clear hG
  unfold reg
  simp [Bool.false_eq_true, if_true, if_false, decide_eq_true_eq, Bool.and_eq_true, Bool.or_eq_true, beq_iff_eq, true_or, false_or, decide_true, and_true, true_and]
  try (repeat' split) <;> first | rfl | (exfalso; omega)
set_option maxRecDepth 10000 in
theorem rchk_31 (k : Nat) (d n m a c imm : Int) : brazierref2_Check.f (k + 40) 31 d n m a c imm = if ((0 ≤ d ∧ d ≤ 31)) ∧ ((0 ≤ n ∧ n ≤ 31)) ∧ ((0 ≤ m ∧ m ≤ 31)) ∧ (a = 0) ∧ (c = 0) ∧ (imm = 0) then some 0 else some 1 := by
  have hG : brazierref2_imm.f (k + 39) 31 d n m a c imm = some (decide (imm = 0)) := by
    simp [brazierref2_imm.f, brazierref2_imm.j0, brazierref2_imm.j1, brazierref2_imm.j2, brazierref2_imm.j3, jumps19, jumps26]
    try (first | omega | (repeat' split) <;> first | rfl | (simp; omega) | exact Bool.eq_iff_iff.2 (by simp) | (by_cases h8 : imm.tmod 8 = 0 <;> simp_all <;> done) | (simp_all; try omega))
  rw [rchk_eq k 31 d n m a c imm true true true false false false _ (by omega) (by omega) rfl hG]
  clear hG
  unfold reg
  simp [Bool.false_eq_true, if_true, if_false, decide_eq_true_eq, Bool.and_eq_true, Bool.or_eq_true, beq_iff_eq, true_or, false_or, decide_true, and_true, true_and]
  try (repeat' split) <;> first | rfl | (exfalso; omega)
set_option maxRecDepth 10000 in
theorem rchk_32 (k : Nat) (d n m a c imm : Int) : brazierref2_Check.f (k + 40) 32 d n m a c imm = if ((0 ≤ d ∧ d ≤ 31)) ∧ ((0 ≤ n ∧ n ≤ 31)) ∧ ((0 ≤ m ∧ m ≤ 31)) ∧ (a = 0) ∧ (c = 0) ∧ (imm = 0) then some 0 else some 1 := by
  have hG : brazierref2_imm.f (k + 39) 32 d n m a c imm = some (decide (imm = 0)) := by
    simp [brazierref2_imm.f, brazierref2_imm.j0, brazierref2_imm.j1, brazierref2_imm.j2, brazierref2_imm.j3, jumps19, jumps26]
    try (first | omega | (repeat' split) <;> first | rfl | (simp; omega) | exact Bool.eq_iff_iff.2 (by simp) | (by_cases h8 : imm.tmod 8 = 0 <;> simp_all <;> done) | (simp_all; try omega))
  rw [rchk_eq k 32 d n m a c imm true true true false false false _ (by omega) (by omega) rfl hG]
  clear hG
  unfold reg
  simp [Bool.false_eq_true, if_true, if_false, decide_eq_true_eq, Bool.and_eq_true, Bool.or_eq_true, beq_iff_eq, true_or, false_or, decide_true, and_true, true_and]
  try (repeat' split) <;> first | rfl | (exfalso; omega)
set_option maxRecDepth 10000 in
theorem rchk_33 (k : Nat) (d n m a c imm : Int) : brazierref2_Check.f (k + 40) 33 d n m a c imm = if ((0 ≤ d ∧ d ≤ 31)) ∧ ((0 ≤ n ∧ n ≤ 31)) ∧ (m = 0) ∧ (a = 0) ∧ (c = 0) ∧ (imm = 0) then some 0 else some 1 := by
  have hG : brazierref2_imm.f (k + 39) 33 d n m a c imm = some (decide (imm = 0)) := by
    simp [brazierref2_imm.f, brazierref2_imm.j0, brazierref2_imm.j1, brazierref2_imm.j2, brazierref2_imm.j3, jumps19, jumps26]
    try (first | omega | (repeat' split) <;> first | rfl | (simp; omega) | exact Bool.eq_iff_iff.2 (by simp) | (by_cases h8 : imm.tmod 8 = 0 <;> simp_all <;> done) | (simp_all; try omega))
  rw [rchk_eq k 33 d n m a c imm true true false false false false _ (by omega) (by omega) rfl hG]
  clear hG
  unfold reg
  simp [Bool.false_eq_true, if_true, if_false, decide_eq_true_eq, Bool.and_eq_true, Bool.or_eq_true, beq_iff_eq, true_or, false_or, decide_true, and_true, true_and]
  try (repeat' split) <;> first | rfl | (exfalso; omega)
set_option maxRecDepth 10000 in
theorem rchk_34 (k : Nat) (d n m a c imm : Int) : brazierref2_Check.f (k + 40) 34 d n m a c imm = if ((0 ≤ d ∧ d ≤ 31)) ∧ ((0 ≤ n ∧ n ≤ 31)) ∧ (m = 0) ∧ (a = 0) ∧ (c = 0) ∧ (imm = 0) then some 0 else some 1 := by
  have hG : brazierref2_imm.f (k + 39) 34 d n m a c imm = some (decide (imm = 0)) := by
    simp [brazierref2_imm.f, brazierref2_imm.j0, brazierref2_imm.j1, brazierref2_imm.j2, brazierref2_imm.j3, jumps19, jumps26]
    try (first | omega | (repeat' split) <;> first | rfl | (simp; omega) | exact Bool.eq_iff_iff.2 (by simp) | (by_cases h8 : imm.tmod 8 = 0 <;> simp_all <;> done) | (simp_all; try omega))
  rw [rchk_eq k 34 d n m a c imm true true false false false false _ (by omega) (by omega) rfl hG]
  clear hG
  unfold reg
  simp [Bool.false_eq_true, if_true, if_false, decide_eq_true_eq, Bool.and_eq_true, Bool.or_eq_true, beq_iff_eq, true_or, false_or, decide_true, and_true, true_and]
  try (repeat' split) <;> first | rfl | (exfalso; omega)
set_option maxRecDepth 10000 in
theorem rchk_35 (k : Nat) (d n m a c imm : Int) : brazierref2_Check.f (k + 40) 35 d n m a c imm = if ((0 ≤ d ∧ d ≤ 31)) ∧ ((0 ≤ n ∧ n ≤ 31)) ∧ (m = 0) ∧ (a = 0) ∧ (c = 0) ∧ (imm = 0) then some 0 else some 1 := by
  have hG : brazierref2_imm.f (k + 39) 35 d n m a c imm = some (decide (imm = 0)) := by
    simp [brazierref2_imm.f, brazierref2_imm.j0, brazierref2_imm.j1, brazierref2_imm.j2, brazierref2_imm.j3, jumps19, jumps26]
    try (first | omega | (repeat' split) <;> first | rfl | (simp; omega) | exact Bool.eq_iff_iff.2 (by simp) | (by_cases h8 : imm.tmod 8 = 0 <;> simp_all <;> done) | (simp_all; try omega))
  rw [rchk_eq k 35 d n m a c imm true true false false false false _ (by omega) (by omega) rfl hG]
  clear hG
  unfold reg
  simp [Bool.false_eq_true, if_true, if_false, decide_eq_true_eq, Bool.and_eq_true, Bool.or_eq_true, beq_iff_eq, true_or, false_or, decide_true, and_true, true_and]
  try (repeat' split) <;> first | rfl | (exfalso; omega)
set_option maxRecDepth 10000 in
theorem rchk_36 (k : Nat) (d n m a c imm : Int) : brazierref2_Check.f (k + 40) 36 d n m a c imm = if ((0 ≤ d ∧ d ≤ 31)) ∧ ((0 ≤ n ∧ n ≤ 31)) ∧ ((0 ≤ m ∧ m ≤ 31)) ∧ (a = 0) ∧ (c = 0) ∧ (imm = 0) then some 0 else some 1 := by
  have hG : brazierref2_imm.f (k + 39) 36 d n m a c imm = some (decide (imm = 0)) := by
    simp [brazierref2_imm.f, brazierref2_imm.j0, brazierref2_imm.j1, brazierref2_imm.j2, brazierref2_imm.j3, jumps19, jumps26]
    try (first | omega | (repeat' split) <;> first | rfl | (simp; omega) | exact Bool.eq_iff_iff.2 (by simp) | (by_cases h8 : imm.tmod 8 = 0 <;> simp_all <;> done) | (simp_all; try omega))
  rw [rchk_eq k 36 d n m a c imm true true true false false false _ (by omega) (by omega) rfl hG]
  clear hG
  unfold reg
  simp [Bool.false_eq_true, if_true, if_false, decide_eq_true_eq, Bool.and_eq_true, Bool.or_eq_true, beq_iff_eq, true_or, false_or, decide_true, and_true, true_and]
  try (repeat' split) <;> first | rfl | (exfalso; omega)
set_option maxRecDepth 10000 in
theorem rchk_37 (k : Nat) (d n m a c imm : Int) : brazierref2_Check.f (k + 40) 37 d n m a c imm = if (d = 0) ∧ (n = 0) ∧ (m = 0) ∧ (a = 0) ∧ (c = 0) ∧ (0 ≤ imm ∧ imm ≤ 2) then some 0 else some 1 := by
  have hG : brazierref2_imm.f (k + 39) 37 d n m a c imm = some (decide (0 ≤ imm ∧ imm ≤ 2)) := by
    simp [brazierref2_imm.f, brazierref2_imm.j0, brazierref2_imm.j1, brazierref2_imm.j2, brazierref2_imm.j3, jumps19, jumps26]
    try (first | omega | (repeat' split) <;> first | rfl | (simp; omega) | exact Bool.eq_iff_iff.2 (by simp) | (by_cases h8 : imm.tmod 8 = 0 <;> simp_all <;> done) | (simp_all; try omega))
  rw [rchk_eq k 37 d n m a c imm false false false false false true _ (by omega) (by omega) rfl hG]
  clear hG
  unfold reg
  simp [Bool.false_eq_true, if_true, if_false, decide_eq_true_eq, Bool.and_eq_true, Bool.or_eq_true, beq_iff_eq, true_or, false_or, decide_true, and_true, true_and]
  try (repeat' split) <;> first | rfl | (exfalso; omega)
set_option maxRecDepth 10000 in
theorem rchk_38 (k : Nat) (d n m a c imm : Int) : brazierref2_Check.f (k + 40) 38 d n m a c imm = if (d = 0) ∧ (n = 0) ∧ (m = 0) ∧ (a = 0) ∧ (c = 0) ∧ (imm = 0) then some 0 else some 1 := by
  have hG : brazierref2_imm.f (k + 39) 38 d n m a c imm = some (decide (imm = 0)) := by
    simp [brazierref2_imm.f, brazierref2_imm.j0, brazierref2_imm.j1, brazierref2_imm.j2, brazierref2_imm.j3, jumps19, jumps26]
    try (first | omega | (repeat' split) <;> first | rfl | (simp; omega) | exact Bool.eq_iff_iff.2 (by simp) | (by_cases h8 : imm.tmod 8 = 0 <;> simp_all <;> done) | (simp_all; try omega))
  rw [rchk_eq k 38 d n m a c imm false false false false false false _ (by omega) (by omega) rfl hG]
  clear hG
  unfold reg
  simp [Bool.false_eq_true, if_true, if_false, decide_eq_true_eq, Bool.and_eq_true, Bool.or_eq_true, beq_iff_eq, true_or, false_or, decide_true, and_true, true_and]
  try (repeat' split) <;> first | rfl | (exfalso; omega)
set_option maxRecDepth 10000 in
theorem rchk_39 (k : Nat) (d n m a c imm : Int) : brazierref2_Check.f (k + 40) 39 d n m a c imm = if (d = 0) ∧ (n = 0) ∧ (m = 0) ∧ (a = 0) ∧ (c = 0) ∧ (imm = 0) then some 0 else some 1 := by
  have hG : brazierref2_imm.f (k + 39) 39 d n m a c imm = some (decide (imm = 0)) := by
    simp [brazierref2_imm.f, brazierref2_imm.j0, brazierref2_imm.j1, brazierref2_imm.j2, brazierref2_imm.j3, jumps19, jumps26]
    try (first | omega | (repeat' split) <;> first | rfl | (simp; omega) | exact Bool.eq_iff_iff.2 (by simp) | (by_cases h8 : imm.tmod 8 = 0 <;> simp_all <;> done) | (simp_all; try omega))
  rw [rchk_eq k 39 d n m a c imm false false false false false false _ (by omega) (by omega) rfl hG]
  clear hG
  unfold reg
  simp [Bool.false_eq_true, if_true, if_false, decide_eq_true_eq, Bool.and_eq_true, Bool.or_eq_true, beq_iff_eq, true_or, false_or, decide_true, and_true, true_and]
  try (repeat' split) <;> first | rfl | (exfalso; omega)
set_option maxRecDepth 10000 in
theorem rchk_40 (k : Nat) (d n m a c imm : Int) : brazierref2_Check.f (k + 40) 40 d n m a c imm = if (d = 0) ∧ ((0 ≤ n ∧ n ≤ 31)) ∧ (m = 0) ∧ (a = 0) ∧ (c = 0) ∧ (imm = 0) then some 0 else some 1 := by
  have hG : brazierref2_imm.f (k + 39) 40 d n m a c imm = some (decide (imm = 0)) := by
    simp [brazierref2_imm.f, brazierref2_imm.j0, brazierref2_imm.j1, brazierref2_imm.j2, brazierref2_imm.j3, jumps19, jumps26]
    try (first | omega | (repeat' split) <;> first | rfl | (simp; omega) | exact Bool.eq_iff_iff.2 (by simp) | (by_cases h8 : imm.tmod 8 = 0 <;> simp_all <;> done) | (simp_all; try omega))
  rw [rchk_eq k 40 d n m a c imm false true false false false false _ (by omega) (by omega) rfl hG]
  clear hG
  unfold reg
  simp [Bool.false_eq_true, if_true, if_false, decide_eq_true_eq, Bool.and_eq_true, Bool.or_eq_true, beq_iff_eq, true_or, false_or, decide_true, and_true, true_and]
  try (repeat' split) <;> first | rfl | (exfalso; omega)
set_option maxRecDepth 10000 in
theorem rchk_41 (k : Nat) (d n m a c imm : Int) : brazierref2_Check.f (k + 40) 41 d n m a c imm = if (d = 0) ∧ ((0 ≤ n ∧ n ≤ 31)) ∧ (m = 0) ∧ (a = 0) ∧ (c = 0) ∧ (imm = 0) then some 0 else some 1 := by
  have hG : brazierref2_imm.f (k + 39) 41 d n m a c imm = some (decide (imm = 0)) := by
    simp [brazierref2_imm.f, brazierref2_imm.j0, brazierref2_imm.j1, brazierref2_imm.j2, brazierref2_imm.j3, jumps19, jumps26]
    try (first | omega | (repeat' split) <;> first | rfl | (simp; omega) | exact Bool.eq_iff_iff.2 (by simp) | (by_cases h8 : imm.tmod 8 = 0 <;> simp_all <;> done) | (simp_all; try omega))
  rw [rchk_eq k 41 d n m a c imm false true false false false false _ (by omega) (by omega) rfl hG]
  clear hG
  unfold reg
  simp [Bool.false_eq_true, if_true, if_false, decide_eq_true_eq, Bool.and_eq_true, Bool.or_eq_true, beq_iff_eq, true_or, false_or, decide_true, and_true, true_and]
  try (repeat' split) <;> first | rfl | (exfalso; omega)
set_option maxRecDepth 10000 in
theorem rchk_42 (k : Nat) (d n m a c imm : Int) : brazierref2_Check.f (k + 40) 42 d n m a c imm = if (d = 0) ∧ (n = 0) ∧ (m = 0) ∧ (a = 0) ∧ (c = 0) ∧ (0 ≤ imm ∧ imm ≤ 65535) then some 0 else some 1 := by
  have hG : brazierref2_imm.f (k + 39) 42 d n m a c imm = some (decide (0 ≤ imm ∧ imm ≤ 65535)) := by
    simp [brazierref2_imm.f, brazierref2_imm.j0, brazierref2_imm.j1, brazierref2_imm.j2, brazierref2_imm.j3, jumps19, jumps26]
    try (first | omega | (repeat' split) <;> first | rfl | (simp; omega) | exact Bool.eq_iff_iff.2 (by simp) | (by_cases h8 : imm.tmod 8 = 0 <;> simp_all <;> done) | (simp_all; try omega))
  rw [rchk_eq k 42 d n m a c imm false false false false false true _ (by omega) (by omega) rfl hG]
  clear hG
  unfold reg
  simp [Bool.false_eq_true, if_true, if_false, decide_eq_true_eq, Bool.and_eq_true, Bool.or_eq_true, beq_iff_eq, true_or, false_or, decide_true, and_true, true_and]
  try (repeat' split) <;> first | rfl | (exfalso; omega)
theorem rchk_out (op d n m a c imm : Int) (k : Nat) (h : op < 0 ∨ 42 < op) : brazierref2_Check.f (k + 40) op d n m a c imm = some 1 := by
  unfold brazierref2_Check.f
  by_cases c1 : op < 0
  · rw [if_pos c1]
    simp only [brazierref2_Check.j0, if_true]
  rw [if_neg c1, decide_eq_true (by omega)]
  simp only [brazierref2_Check.j0, if_true]
end Go.Proofs.Ytbjikmepfpkmjaa.X
