/- What a right instruction is (the program's). Written by genchk.py. -/
import Derived.Test.YtbjikmepfpkmjaazEncWordsXWord
namespace Go.Proofs.Ytbjikmepfpkmjaa.X
set_option linter.unusedVariables false
set_option linter.unusedSimpArgs false
open Go.RowKit Go.Proofs.YtbjikmepfpkmjaaW.PrintWords Go.Proofs.YtbjikmepfpkmjaaW.PrintLast Go.Proofs.YtbjikmepfpkmjaaW.PrintMore Go.Proofs.Ytbjikmepfpkmjaa.Q
def reg (b : Bool) (v : Int) : Bool := if b then decide (0 ≤ v ∧ v ≤ 31) else decide (v = 0)
theorem reg_step {k : Nat} {f : Int} {b : Bool} {xs : List Int} {i op d n m a c imm : Int} (hx : (xs.length : Int) = 4) (h0 : 0 ≤ i) (h4 : i < 4) (hb : (Go.bits .and .i64 (shr .i64 f i) 1 != 0) = b) :
    a64_Check.l0 (k + 1) f xs (xs.length : Int) i op d n m a c imm = if reg b (rd xs i) = true then a64_Check.l0 k f xs (xs.length : Int) (i + 1) op d n m a c imm else some 1 := by
  have hw : wrap64 (i + 1) = i + 1 := by unfold wrap64; omega
  simp only [a64_Check.l0]
  rw [if_pos (by omega), if_pos h0, if_pos (by omega), hw]
  unfold reg
  cases b
  · have hz : Go.bits .and .i64 (shr .i64 f i) 1 = 0 := by simpa using hb
    simp only [Bool.false_eq_true, if_false, decide_eq_true_eq, if_pos hz]
    by_cases c3 : rd xs i = 0
    · rw [if_neg (by omega), if_neg (by omega), if_pos c3]
    · rw [if_neg c3]
      simp
  · have hz : Go.bits .and .i64 (shr .i64 f i) 1 ≠ 0 := by simpa using hb
    simp only [if_true, decide_eq_true_eq, if_neg hz]
    by_cases c1 : rd xs i < 0
    · rw [if_pos c1, if_neg (by omega)]
    rw [if_neg c1]
    by_cases c2 : rd xs i > 31
    · rw [if_pos c2, if_neg (by omega)]
    rw [if_neg c2, ite_self, if_pos ⟨by omega, by omega⟩]
theorem last_step {k : Nat} {f : Int} {bc bi F : Bool} {xs : List Int} {op d n m a c imm : Int} (hx : (xs.length : Int) = 4) (hc : (Go.bits .and .i64 f 16 != 0) = bc) (hi : (Go.bits .and .i64 f 32 != 0) = bi) (hF : a64_fits.f k op d n m a c imm = some F) :
    a64_Check.l0 (k + 1) f xs (xs.length : Int) 4 op d n m a c imm = if ((decide (0 ≤ c ∧ c ≤ 15) && (bc || c == 0)) && ((bi || imm == 0) && F)) = true then some 0 else some 1 := by
  simp only [a64_Check.l0, hF, Option.bind_some]
  rw [if_neg (by omega)]
  by_cases c1 : c < 0
  · rw [if_pos c1, if_neg (by simp; omega)]
  rw [if_neg c1]
  by_cases c2 : c > 15
  · rw [if_pos c2, if_neg (by simp; omega)]
  rw [if_neg c2]
  have e1 : decide (0 ≤ c ∧ c ≤ 15) = true := by simp; omega
  rw [e1]
  by_cases c3 : c = 0 <;> by_cases c4 : imm = 0 <;> cases bc <;> cases bi <;> cases F <;> simp_all
theorem ite_c {p : Prop} [Decidable p] {α : Type} {x y z w : α} (h1 : x = y) (h2 : z = w) : (if p then x else z) = if p then y else w := by rw [h1, h2]
theorem chk_eq (k : Nat) (op d n m a c imm f : Int) (bd bn bm ba bc bi F : Bool) (o1 : 0 ≤ op) (o2 : op ≤ 42) (hf : a64_fields.f (k + 39) op = some f)
    (h0 : (Go.bits .and .i64 (shr .i64 f 0) 1 != 0) = bd) (h1 : (Go.bits .and .i64 (shr .i64 f 1) 1 != 0) = bn) (h2 : (Go.bits .and .i64 (shr .i64 f 2) 1 != 0) = bm) (h3 : (Go.bits .and .i64 (shr .i64 f 3) 1 != 0) = ba)
    (hc : (Go.bits .and .i64 f 16 != 0) = bc) (hi : (Go.bits .and .i64 f 32 != 0) = bi) (hF : a64_fits.f (k + 34) op d n m a c imm = some F) :
    a64_Check.f (k + 40) op d n m a c imm = if reg bd d = true then if reg bn n = true then if reg bm m = true then if reg ba a = true then if ((decide (0 ≤ c ∧ c ≤ 15) && (bc || c == 0)) && ((bi || imm == 0) && F)) = true then some 0 else some 1 else some 1 else some 1 else some 1 else some 1 := by
  unfold a64_Check.f
  rw [if_neg (by omega), decide_eq_false (by omega)]
  simp only [a64_Check.j0, Bool.false_eq_true, if_false, hf, Option.bind_some]
  have hx : ((([d, n, m, a] : List Int)).length : Int) = 4 := rfl
  have e0 := reg_step (k := k + 38) (op := op) (d := d) (n := n) (m := m) (a := a) (c := c) (imm := imm) hx (by omega) (by omega) h0
  have e1 := reg_step (k := k + 37) (op := op) (d := d) (n := n) (m := m) (a := a) (c := c) (imm := imm) hx (by omega) (by omega) h1
  have e2 := reg_step (k := k + 36) (op := op) (d := d) (n := n) (m := m) (a := a) (c := c) (imm := imm) hx (by omega) (by omega) h2
  have e3 := reg_step (k := k + 35) (op := op) (d := d) (n := n) (m := m) (a := a) (c := c) (imm := imm) hx (by omega) (by omega) h3
  have e4 := last_step (k := k + 34) (op := op) hx hc hi hF
  refine e0.trans ?_
  refine ite_c (e1.trans ?_) rfl
  refine ite_c (e2.trans ?_) rfl
  refine ite_c (e3.trans ?_) rfl
  exact ite_c e4 rfl
theorem far_eq (v most : Int) (h0 : 4 ≤ most) (h1 : most < 9223372036854775808) (h4 : most % 4 = 0) : a64_far.f v most = some (decide ((-most ≤ v ∧ v ≤ most - 4) ∧ Int.tmod v 4 = 0)) := by
  unfold a64_far.f
  have hw : wrap64 (-most) = -most := by unfold wrap64; omega
  rw [hw]
  by_cases c0 : Int.tmod v 4 = 0
  · rw [if_pos c0]
    have h5 : v % 4 = 0 := Int.emod_eq_zero_of_dvd (Int.dvd_of_tmod_eq_zero c0)
    by_cases c1 : v ≥ -most
    · rw [if_pos c1]
      refine congrArg some (decide_eq_decide.2 ?_)
      omega
    · rw [if_neg c1, decide_eq_false (by omega)]
  · rw [if_neg c0, decide_eq_false (fun h => c0 h.2)]
set_option maxRecDepth 10000 in
theorem chk_0 (k : Nat) (d n m a c imm : Int) : a64_Check.f (k + 40) 0 d n m a c imm = if (d = 0) ∧ (n = 0) ∧ (m = 0) ∧ (a = 0) ∧ (c = 0) ∧ (0 ≤ imm ∧ imm ≤ 65535) then some 0 else some 1 := by
  have hF : a64_fits.f (k + 34) 0 d n m a c imm = some (decide (0 ≤ imm ∧ imm ≤ 65535)) := by
    simp [a64_fits.f, a64_fits.j0, a64_fits.j1, a64_fits.j2, a64_fits.j3, a64_fits.j4, a64_fits.j5, far_eq]
    try (first | omega | (repeat' split) <;> first | rfl | (simp; omega) | (by_cases h8 : imm.tmod 8 = 0 <;> simp [h8] <;> (have := Int.tmod_eq_emod_of_nonneg (b := 8) (show 0 ≤ imm by assumption); omega)) | (simp_all; try omega))
  rw [chk_eq k 0 d n m a c imm 32 false false false false false true _ (by omega) (by omega) rfl (by decide) (by decide) (by decide) (by decide) (by decide) (by decide) hF]
  clear hF
  unfold reg
  simp only [Bool.false_eq_true, if_true, if_false, decide_eq_true_eq, Bool.and_eq_true, Bool.or_eq_true, beq_iff_eq, true_or, false_or, decide_true, and_true, true_and]
  (repeat' split) <;> first | rfl | (exfalso; first | omega | (trace_state; omega))
set_option maxRecDepth 10000 in
theorem chk_1 (k : Nat) (d n m a c imm : Int) : a64_Check.f (k + 40) 1 d n m a c imm = if (d = 0) ∧ (n = 0) ∧ (m = 0) ∧ (a = 0) ∧ (c = 0) ∧ (imm = 0) then some 0 else some 1 := by
  have hF : a64_fits.f (k + 34) 1 d n m a c imm = some (decide (True)) := by
    simp [a64_fits.f, a64_fits.j0, a64_fits.j1, a64_fits.j2, a64_fits.j3, a64_fits.j4, a64_fits.j5, far_eq]
    try (first | omega | (repeat' split) <;> first | rfl | (simp; omega) | (by_cases h8 : imm.tmod 8 = 0 <;> simp [h8] <;> (have := Int.tmod_eq_emod_of_nonneg (b := 8) (show 0 ≤ imm by assumption); omega)) | (simp_all; try omega))
  rw [chk_eq k 1 d n m a c imm 0 false false false false false false _ (by omega) (by omega) rfl (by decide) (by decide) (by decide) (by decide) (by decide) (by decide) hF]
  clear hF
  unfold reg
  simp only [Bool.false_eq_true, if_true, if_false, decide_eq_true_eq, Bool.and_eq_true, Bool.or_eq_true, beq_iff_eq, true_or, false_or, decide_true, and_true, true_and]
  (repeat' split) <;> first | rfl | (exfalso; first | omega | (trace_state; omega))
set_option maxRecDepth 10000 in
theorem chk_2 (k : Nat) (d n m a c imm : Int) : a64_Check.f (k + 40) 2 d n m a c imm = if ((0 ≤ d ∧ d ≤ 31)) ∧ (n = 0) ∧ ((0 ≤ m ∧ m ≤ 31)) ∧ (a = 0) ∧ (c = 0) ∧ ((0 ≤ imm ∧ imm ≤ 65535) ∧ m ≤ 3) then some 0 else some 1 := by
  have hF : a64_fits.f (k + 34) 2 d n m a c imm = some (decide ((0 ≤ imm ∧ imm ≤ 65535) ∧ m ≤ 3)) := by
    simp [a64_fits.f, a64_fits.j0, a64_fits.j1, a64_fits.j2, a64_fits.j3, a64_fits.j4, a64_fits.j5, far_eq]
    try (first | omega | (repeat' split) <;> first | rfl | (simp; omega) | (by_cases h8 : imm.tmod 8 = 0 <;> simp [h8] <;> (have := Int.tmod_eq_emod_of_nonneg (b := 8) (show 0 ≤ imm by assumption); omega)) | (simp_all; try omega))
  rw [chk_eq k 2 d n m a c imm 37 true false true false false true _ (by omega) (by omega) rfl (by decide) (by decide) (by decide) (by decide) (by decide) (by decide) hF]
  clear hF
  unfold reg
  simp only [Bool.false_eq_true, if_true, if_false, decide_eq_true_eq, Bool.and_eq_true, Bool.or_eq_true, beq_iff_eq, true_or, false_or, decide_true, and_true, true_and]
  (repeat' split) <;> first | rfl | (exfalso; first | omega | (trace_state; omega))
set_option maxRecDepth 10000 in
theorem chk_3 (k : Nat) (d n m a c imm : Int) : a64_Check.f (k + 40) 3 d n m a c imm = if ((0 ≤ d ∧ d ≤ 31)) ∧ (n = 0) ∧ ((0 ≤ m ∧ m ≤ 31)) ∧ (a = 0) ∧ (c = 0) ∧ ((0 ≤ imm ∧ imm ≤ 65535) ∧ m ≤ 3) then some 0 else some 1 := by
  have hF : a64_fits.f (k + 34) 3 d n m a c imm = some (decide ((0 ≤ imm ∧ imm ≤ 65535) ∧ m ≤ 3)) := by
    simp [a64_fits.f, a64_fits.j0, a64_fits.j1, a64_fits.j2, a64_fits.j3, a64_fits.j4, a64_fits.j5, far_eq]
    try (first | omega | (repeat' split) <;> first | rfl | (simp; omega) | (by_cases h8 : imm.tmod 8 = 0 <;> simp [h8] <;> (have := Int.tmod_eq_emod_of_nonneg (b := 8) (show 0 ≤ imm by assumption); omega)) | (simp_all; try omega))
  rw [chk_eq k 3 d n m a c imm 37 true false true false false true _ (by omega) (by omega) rfl (by decide) (by decide) (by decide) (by decide) (by decide) (by decide) hF]
  clear hF
  unfold reg
  simp only [Bool.false_eq_true, if_true, if_false, decide_eq_true_eq, Bool.and_eq_true, Bool.or_eq_true, beq_iff_eq, true_or, false_or, decide_true, and_true, true_and]
  (repeat' split) <;> first | rfl | (exfalso; first | omega | (trace_state; omega))
set_option maxRecDepth 10000 in
theorem chk_4 (k : Nat) (d n m a c imm : Int) : a64_Check.f (k + 40) 4 d n m a c imm = if ((0 ≤ d ∧ d ≤ 31)) ∧ ((0 ≤ n ∧ n ≤ 31)) ∧ (m = 0) ∧ (a = 0) ∧ (c = 0) ∧ (0 ≤ imm ∧ imm ≤ 4095) then some 0 else some 1 := by
  have hF : a64_fits.f (k + 34) 4 d n m a c imm = some (decide (0 ≤ imm ∧ imm ≤ 4095)) := by
    simp [a64_fits.f, a64_fits.j0, a64_fits.j1, a64_fits.j2, a64_fits.j3, a64_fits.j4, a64_fits.j5, far_eq]
    try (first | omega | (repeat' split) <;> first | rfl | (simp; omega) | (by_cases h8 : imm.tmod 8 = 0 <;> simp [h8] <;> (have := Int.tmod_eq_emod_of_nonneg (b := 8) (show 0 ≤ imm by assumption); omega)) | (simp_all; try omega))
  rw [chk_eq k 4 d n m a c imm 35 true true false false false true _ (by omega) (by omega) rfl (by decide) (by decide) (by decide) (by decide) (by decide) (by decide) hF]
  clear hF
  unfold reg
  simp only [Bool.false_eq_true, if_true, if_false, decide_eq_true_eq, Bool.and_eq_true, Bool.or_eq_true, beq_iff_eq, true_or, false_or, decide_true, and_true, true_and]
  (repeat' split) <;> first | rfl | (exfalso; first | omega | (trace_state; omega))
set_option maxRecDepth 10000 in
theorem chk_5 (k : Nat) (d n m a c imm : Int) : a64_Check.f (k + 40) 5 d n m a c imm = if ((0 ≤ d ∧ d ≤ 31)) ∧ ((0 ≤ n ∧ n ≤ 31)) ∧ (m = 0) ∧ (a = 0) ∧ (c = 0) ∧ (0 ≤ imm ∧ imm ≤ 4095) then some 0 else some 1 := by
  have hF : a64_fits.f (k + 34) 5 d n m a c imm = some (decide (0 ≤ imm ∧ imm ≤ 4095)) := by
    simp [a64_fits.f, a64_fits.j0, a64_fits.j1, a64_fits.j2, a64_fits.j3, a64_fits.j4, a64_fits.j5, far_eq]
    try (first | omega | (repeat' split) <;> first | rfl | (simp; omega) | (by_cases h8 : imm.tmod 8 = 0 <;> simp [h8] <;> (have := Int.tmod_eq_emod_of_nonneg (b := 8) (show 0 ≤ imm by assumption); omega)) | (simp_all; try omega))
  rw [chk_eq k 5 d n m a c imm 35 true true false false false true _ (by omega) (by omega) rfl (by decide) (by decide) (by decide) (by decide) (by decide) (by decide) hF]
  clear hF
  unfold reg
  simp only [Bool.false_eq_true, if_true, if_false, decide_eq_true_eq, Bool.and_eq_true, Bool.or_eq_true, beq_iff_eq, true_or, false_or, decide_true, and_true, true_and]
  (repeat' split) <;> first | rfl | (exfalso; first | omega | (trace_state; omega))
set_option maxRecDepth 10000 in
theorem chk_6 (k : Nat) (d n m a c imm : Int) : a64_Check.f (k + 40) 6 d n m a c imm = if ((0 ≤ d ∧ d ≤ 31)) ∧ ((0 ≤ n ∧ n ≤ 31)) ∧ (m = 0) ∧ (a = 0) ∧ (c = 0) ∧ (0 ≤ imm ∧ imm ≤ 4095) then some 0 else some 1 := by
  have hF : a64_fits.f (k + 34) 6 d n m a c imm = some (decide (0 ≤ imm ∧ imm ≤ 4095)) := by
    simp [a64_fits.f, a64_fits.j0, a64_fits.j1, a64_fits.j2, a64_fits.j3, a64_fits.j4, a64_fits.j5, far_eq]
    try (first | omega | (repeat' split) <;> first | rfl | (simp; omega) | (by_cases h8 : imm.tmod 8 = 0 <;> simp [h8] <;> (have := Int.tmod_eq_emod_of_nonneg (b := 8) (show 0 ≤ imm by assumption); omega)) | (simp_all; try omega))
  rw [chk_eq k 6 d n m a c imm 35 true true false false false true _ (by omega) (by omega) rfl (by decide) (by decide) (by decide) (by decide) (by decide) (by decide) hF]
  clear hF
  unfold reg
  simp only [Bool.false_eq_true, if_true, if_false, decide_eq_true_eq, Bool.and_eq_true, Bool.or_eq_true, beq_iff_eq, true_or, false_or, decide_true, and_true, true_and]
  (repeat' split) <;> first | rfl | (exfalso; first | omega | (trace_state; omega))
set_option maxRecDepth 10000 in
theorem chk_7 (k : Nat) (d n m a c imm : Int) : a64_Check.f (k + 40) 7 d n m a c imm = if ((0 ≤ d ∧ d ≤ 31)) ∧ ((0 ≤ n ∧ n ≤ 31)) ∧ ((0 ≤ m ∧ m ≤ 31)) ∧ (a = 0) ∧ (c = 0) ∧ (imm = 0) then some 0 else some 1 := by
  have hF : a64_fits.f (k + 34) 7 d n m a c imm = some (decide (True)) := by
    simp [a64_fits.f, a64_fits.j0, a64_fits.j1, a64_fits.j2, a64_fits.j3, a64_fits.j4, a64_fits.j5, far_eq]
    try (first | omega | (repeat' split) <;> first | rfl | (simp; omega) | (by_cases h8 : imm.tmod 8 = 0 <;> simp [h8] <;> (have := Int.tmod_eq_emod_of_nonneg (b := 8) (show 0 ≤ imm by assumption); omega)) | (simp_all; try omega))
  rw [chk_eq k 7 d n m a c imm 7 true true true false false false _ (by omega) (by omega) rfl (by decide) (by decide) (by decide) (by decide) (by decide) (by decide) hF]
  clear hF
  unfold reg
  simp only [Bool.false_eq_true, if_true, if_false, decide_eq_true_eq, Bool.and_eq_true, Bool.or_eq_true, beq_iff_eq, true_or, false_or, decide_true, and_true, true_and]
  (repeat' split) <;> first | rfl | (exfalso; first | omega | (trace_state; omega))
set_option maxRecDepth 10000 in
theorem chk_8 (k : Nat) (d n m a c imm : Int) : a64_Check.f (k + 40) 8 d n m a c imm = if ((0 ≤ d ∧ d ≤ 31)) ∧ ((0 ≤ n ∧ n ≤ 31)) ∧ ((0 ≤ m ∧ m ≤ 31)) ∧ (a = 0) ∧ (c = 0) ∧ (imm = 0) then some 0 else some 1 := by
  have hF : a64_fits.f (k + 34) 8 d n m a c imm = some (decide (True)) := by
    simp [a64_fits.f, a64_fits.j0, a64_fits.j1, a64_fits.j2, a64_fits.j3, a64_fits.j4, a64_fits.j5, far_eq]
    try (first | omega | (repeat' split) <;> first | rfl | (simp; omega) | (by_cases h8 : imm.tmod 8 = 0 <;> simp [h8] <;> (have := Int.tmod_eq_emod_of_nonneg (b := 8) (show 0 ≤ imm by assumption); omega)) | (simp_all; try omega))
  rw [chk_eq k 8 d n m a c imm 7 true true true false false false _ (by omega) (by omega) rfl (by decide) (by decide) (by decide) (by decide) (by decide) (by decide) hF]
  clear hF
  unfold reg
  simp only [Bool.false_eq_true, if_true, if_false, decide_eq_true_eq, Bool.and_eq_true, Bool.or_eq_true, beq_iff_eq, true_or, false_or, decide_true, and_true, true_and]
  (repeat' split) <;> first | rfl | (exfalso; first | omega | (trace_state; omega))
set_option maxRecDepth 10000 in
theorem chk_9 (k : Nat) (d n m a c imm : Int) : a64_Check.f (k + 40) 9 d n m a c imm = if ((0 ≤ d ∧ d ≤ 31)) ∧ ((0 ≤ n ∧ n ≤ 31)) ∧ ((0 ≤ m ∧ m ≤ 31)) ∧ (a = 0) ∧ (c = 0) ∧ (imm = 0) then some 0 else some 1 := by
  have hF : a64_fits.f (k + 34) 9 d n m a c imm = some (decide (True)) := by
    simp [a64_fits.f, a64_fits.j0, a64_fits.j1, a64_fits.j2, a64_fits.j3, a64_fits.j4, a64_fits.j5, far_eq]
    try (first | omega | (repeat' split) <;> first | rfl | (simp; omega) | (by_cases h8 : imm.tmod 8 = 0 <;> simp [h8] <;> (have := Int.tmod_eq_emod_of_nonneg (b := 8) (show 0 ≤ imm by assumption); omega)) | (simp_all; try omega))
  rw [chk_eq k 9 d n m a c imm 7 true true true false false false _ (by omega) (by omega) rfl (by decide) (by decide) (by decide) (by decide) (by decide) (by decide) hF]
  clear hF
  unfold reg
  simp only [Bool.false_eq_true, if_true, if_false, decide_eq_true_eq, Bool.and_eq_true, Bool.or_eq_true, beq_iff_eq, true_or, false_or, decide_true, and_true, true_and]
  (repeat' split) <;> first | rfl | (exfalso; first | omega | (trace_state; omega))
set_option maxRecDepth 10000 in
theorem chk_10 (k : Nat) (d n m a c imm : Int) : a64_Check.f (k + 40) 10 d n m a c imm = if ((0 ≤ d ∧ d ≤ 31)) ∧ ((0 ≤ n ∧ n ≤ 31)) ∧ ((0 ≤ m ∧ m ≤ 31)) ∧ (a = 0) ∧ (c = 0) ∧ (imm = 0) then some 0 else some 1 := by
  have hF : a64_fits.f (k + 34) 10 d n m a c imm = some (decide (True)) := by
    simp [a64_fits.f, a64_fits.j0, a64_fits.j1, a64_fits.j2, a64_fits.j3, a64_fits.j4, a64_fits.j5, far_eq]
    try (first | omega | (repeat' split) <;> first | rfl | (simp; omega) | (by_cases h8 : imm.tmod 8 = 0 <;> simp [h8] <;> (have := Int.tmod_eq_emod_of_nonneg (b := 8) (show 0 ≤ imm by assumption); omega)) | (simp_all; try omega))
  rw [chk_eq k 10 d n m a c imm 7 true true true false false false _ (by omega) (by omega) rfl (by decide) (by decide) (by decide) (by decide) (by decide) (by decide) hF]
  clear hF
  unfold reg
  simp only [Bool.false_eq_true, if_true, if_false, decide_eq_true_eq, Bool.and_eq_true, Bool.or_eq_true, beq_iff_eq, true_or, false_or, decide_true, and_true, true_and]
  (repeat' split) <;> first | rfl | (exfalso; first | omega | (trace_state; omega))
set_option maxRecDepth 10000 in
theorem chk_11 (k : Nat) (d n m a c imm : Int) : a64_Check.f (k + 40) 11 d n m a c imm = if ((0 ≤ d ∧ d ≤ 31)) ∧ ((0 ≤ n ∧ n ≤ 31)) ∧ ((0 ≤ m ∧ m ≤ 31)) ∧ (a = 0) ∧ (c = 0) ∧ (imm = 0) then some 0 else some 1 := by
  have hF : a64_fits.f (k + 34) 11 d n m a c imm = some (decide (True)) := by
    simp [a64_fits.f, a64_fits.j0, a64_fits.j1, a64_fits.j2, a64_fits.j3, a64_fits.j4, a64_fits.j5, far_eq]
    try (first | omega | (repeat' split) <;> first | rfl | (simp; omega) | (by_cases h8 : imm.tmod 8 = 0 <;> simp [h8] <;> (have := Int.tmod_eq_emod_of_nonneg (b := 8) (show 0 ≤ imm by assumption); omega)) | (simp_all; try omega))
  rw [chk_eq k 11 d n m a c imm 7 true true true false false false _ (by omega) (by omega) rfl (by decide) (by decide) (by decide) (by decide) (by decide) (by decide) hF]
  clear hF
  unfold reg
  simp only [Bool.false_eq_true, if_true, if_false, decide_eq_true_eq, Bool.and_eq_true, Bool.or_eq_true, beq_iff_eq, true_or, false_or, decide_true, and_true, true_and]
  (repeat' split) <;> first | rfl | (exfalso; first | omega | (trace_state; omega))
set_option maxRecDepth 10000 in
theorem chk_12 (k : Nat) (d n m a c imm : Int) : a64_Check.f (k + 40) 12 d n m a c imm = if ((0 ≤ d ∧ d ≤ 31)) ∧ ((0 ≤ n ∧ n ≤ 31)) ∧ ((0 ≤ m ∧ m ≤ 31)) ∧ (a = 0) ∧ (c = 0) ∧ (imm = 0) then some 0 else some 1 := by
  have hF : a64_fits.f (k + 34) 12 d n m a c imm = some (decide (True)) := by
    simp [a64_fits.f, a64_fits.j0, a64_fits.j1, a64_fits.j2, a64_fits.j3, a64_fits.j4, a64_fits.j5, far_eq]
    try (first | omega | (repeat' split) <;> first | rfl | (simp; omega) | (by_cases h8 : imm.tmod 8 = 0 <;> simp [h8] <;> (have := Int.tmod_eq_emod_of_nonneg (b := 8) (show 0 ≤ imm by assumption); omega)) | (simp_all; try omega))
  rw [chk_eq k 12 d n m a c imm 7 true true true false false false _ (by omega) (by omega) rfl (by decide) (by decide) (by decide) (by decide) (by decide) (by decide) hF]
  clear hF
  unfold reg
  simp only [Bool.false_eq_true, if_true, if_false, decide_eq_true_eq, Bool.and_eq_true, Bool.or_eq_true, beq_iff_eq, true_or, false_or, decide_true, and_true, true_and]
  (repeat' split) <;> first | rfl | (exfalso; first | omega | (trace_state; omega))
set_option maxRecDepth 10000 in
theorem chk_13 (k : Nat) (d n m a c imm : Int) : a64_Check.f (k + 40) 13 d n m a c imm = if ((0 ≤ d ∧ d ≤ 31)) ∧ ((0 ≤ n ∧ n ≤ 31)) ∧ ((0 ≤ m ∧ m ≤ 31)) ∧ ((0 ≤ a ∧ a ≤ 31)) ∧ (c = 0) ∧ (imm = 0) then some 0 else some 1 := by
  have hF : a64_fits.f (k + 34) 13 d n m a c imm = some (decide (True)) := by
    simp [a64_fits.f, a64_fits.j0, a64_fits.j1, a64_fits.j2, a64_fits.j3, a64_fits.j4, a64_fits.j5, far_eq]
    try (first | omega | (repeat' split) <;> first | rfl | (simp; omega) | (by_cases h8 : imm.tmod 8 = 0 <;> simp [h8] <;> (have := Int.tmod_eq_emod_of_nonneg (b := 8) (show 0 ≤ imm by assumption); omega)) | (simp_all; try omega))
  rw [chk_eq k 13 d n m a c imm 15 true true true true false false _ (by omega) (by omega) rfl (by decide) (by decide) (by decide) (by decide) (by decide) (by decide) hF]
  clear hF
  unfold reg
  simp only [Bool.false_eq_true, if_true, if_false, decide_eq_true_eq, Bool.and_eq_true, Bool.or_eq_true, beq_iff_eq, true_or, false_or, decide_true, and_true, true_and]
  (repeat' split) <;> first | rfl | (exfalso; first | omega | (trace_state; omega))
set_option maxRecDepth 10000 in
theorem chk_14 (k : Nat) (d n m a c imm : Int) : a64_Check.f (k + 40) 14 d n m a c imm = if ((0 ≤ d ∧ d ≤ 31)) ∧ ((0 ≤ n ∧ n ≤ 31)) ∧ ((0 ≤ m ∧ m ≤ 31)) ∧ ((0 ≤ a ∧ a ≤ 31)) ∧ (c = 0) ∧ (imm = 0) then some 0 else some 1 := by
  have hF : a64_fits.f (k + 34) 14 d n m a c imm = some (decide (True)) := by
    simp [a64_fits.f, a64_fits.j0, a64_fits.j1, a64_fits.j2, a64_fits.j3, a64_fits.j4, a64_fits.j5, far_eq]
    try (first | omega | (repeat' split) <;> first | rfl | (simp; omega) | (by_cases h8 : imm.tmod 8 = 0 <;> simp [h8] <;> (have := Int.tmod_eq_emod_of_nonneg (b := 8) (show 0 ≤ imm by assumption); omega)) | (simp_all; try omega))
  rw [chk_eq k 14 d n m a c imm 15 true true true true false false _ (by omega) (by omega) rfl (by decide) (by decide) (by decide) (by decide) (by decide) (by decide) hF]
  clear hF
  unfold reg
  simp only [Bool.false_eq_true, if_true, if_false, decide_eq_true_eq, Bool.and_eq_true, Bool.or_eq_true, beq_iff_eq, true_or, false_or, decide_true, and_true, true_and]
  (repeat' split) <;> first | rfl | (exfalso; first | omega | (trace_state; omega))
set_option maxRecDepth 10000 in
theorem chk_15 (k : Nat) (d n m a c imm : Int) : a64_Check.f (k + 40) 15 d n m a c imm = if ((0 ≤ d ∧ d ≤ 31)) ∧ ((0 ≤ n ∧ n ≤ 31)) ∧ ((0 ≤ m ∧ m ≤ 31)) ∧ (a = 0) ∧ (c = 0) ∧ (imm = 0) then some 0 else some 1 := by
  have hF : a64_fits.f (k + 34) 15 d n m a c imm = some (decide (True)) := by
    simp [a64_fits.f, a64_fits.j0, a64_fits.j1, a64_fits.j2, a64_fits.j3, a64_fits.j4, a64_fits.j5, far_eq]
    try (first | omega | (repeat' split) <;> first | rfl | (simp; omega) | (by_cases h8 : imm.tmod 8 = 0 <;> simp [h8] <;> (have := Int.tmod_eq_emod_of_nonneg (b := 8) (show 0 ≤ imm by assumption); omega)) | (simp_all; try omega))
  rw [chk_eq k 15 d n m a c imm 7 true true true false false false _ (by omega) (by omega) rfl (by decide) (by decide) (by decide) (by decide) (by decide) (by decide) hF]
  clear hF
  unfold reg
  simp only [Bool.false_eq_true, if_true, if_false, decide_eq_true_eq, Bool.and_eq_true, Bool.or_eq_true, beq_iff_eq, true_or, false_or, decide_true, and_true, true_and]
  (repeat' split) <;> first | rfl | (exfalso; first | omega | (trace_state; omega))
set_option maxRecDepth 10000 in
theorem chk_16 (k : Nat) (d n m a c imm : Int) : a64_Check.f (k + 40) 16 d n m a c imm = if ((0 ≤ d ∧ d ≤ 31)) ∧ ((0 ≤ n ∧ n ≤ 31)) ∧ ((0 ≤ m ∧ m ≤ 31)) ∧ (a = 0) ∧ (c = 0) ∧ (imm = 0) then some 0 else some 1 := by
  have hF : a64_fits.f (k + 34) 16 d n m a c imm = some (decide (True)) := by
    simp [a64_fits.f, a64_fits.j0, a64_fits.j1, a64_fits.j2, a64_fits.j3, a64_fits.j4, a64_fits.j5, far_eq]
    try (first | omega | (repeat' split) <;> first | rfl | (simp; omega) | (by_cases h8 : imm.tmod 8 = 0 <;> simp [h8] <;> (have := Int.tmod_eq_emod_of_nonneg (b := 8) (show 0 ≤ imm by assumption); omega)) | (simp_all; try omega))
  rw [chk_eq k 16 d n m a c imm 7 true true true false false false _ (by omega) (by omega) rfl (by decide) (by decide) (by decide) (by decide) (by decide) (by decide) hF]
  clear hF
  unfold reg
  simp only [Bool.false_eq_true, if_true, if_false, decide_eq_true_eq, Bool.and_eq_true, Bool.or_eq_true, beq_iff_eq, true_or, false_or, decide_true, and_true, true_and]
  (repeat' split) <;> first | rfl | (exfalso; first | omega | (trace_state; omega))
set_option maxRecDepth 10000 in
theorem chk_17 (k : Nat) (d n m a c imm : Int) : a64_Check.f (k + 40) 17 d n m a c imm = if ((0 ≤ d ∧ d ≤ 31)) ∧ ((0 ≤ n ∧ n ≤ 31)) ∧ ((0 ≤ m ∧ m ≤ 31)) ∧ (a = 0) ∧ (c = 0) ∧ (imm = 0) then some 0 else some 1 := by
  have hF : a64_fits.f (k + 34) 17 d n m a c imm = some (decide (True)) := by
    simp [a64_fits.f, a64_fits.j0, a64_fits.j1, a64_fits.j2, a64_fits.j3, a64_fits.j4, a64_fits.j5, far_eq]
    try (first | omega | (repeat' split) <;> first | rfl | (simp; omega) | (by_cases h8 : imm.tmod 8 = 0 <;> simp [h8] <;> (have := Int.tmod_eq_emod_of_nonneg (b := 8) (show 0 ≤ imm by assumption); omega)) | (simp_all; try omega))
  rw [chk_eq k 17 d n m a c imm 7 true true true false false false _ (by omega) (by omega) rfl (by decide) (by decide) (by decide) (by decide) (by decide) (by decide) hF]
  clear hF
  unfold reg
  simp only [Bool.false_eq_true, if_true, if_false, decide_eq_true_eq, Bool.and_eq_true, Bool.or_eq_true, beq_iff_eq, true_or, false_or, decide_true, and_true, true_and]
  (repeat' split) <;> first | rfl | (exfalso; first | omega | (trace_state; omega))
set_option maxRecDepth 10000 in
theorem chk_18 (k : Nat) (d n m a c imm : Int) : a64_Check.f (k + 40) 18 d n m a c imm = if ((0 ≤ d ∧ d ≤ 31)) ∧ ((0 ≤ n ∧ n ≤ 31)) ∧ ((0 ≤ m ∧ m ≤ 31)) ∧ (a = 0) ∧ (c = 0) ∧ (imm = 0) then some 0 else some 1 := by
  have hF : a64_fits.f (k + 34) 18 d n m a c imm = some (decide (True)) := by
    simp [a64_fits.f, a64_fits.j0, a64_fits.j1, a64_fits.j2, a64_fits.j3, a64_fits.j4, a64_fits.j5, far_eq]
    try (first | omega | (repeat' split) <;> first | rfl | (simp; omega) | (by_cases h8 : imm.tmod 8 = 0 <;> simp [h8] <;> (have := Int.tmod_eq_emod_of_nonneg (b := 8) (show 0 ≤ imm by assumption); omega)) | (simp_all; try omega))
  rw [chk_eq k 18 d n m a c imm 7 true true true false false false _ (by omega) (by omega) rfl (by decide) (by decide) (by decide) (by decide) (by decide) (by decide) hF]
  clear hF
  unfold reg
  simp only [Bool.false_eq_true, if_true, if_false, decide_eq_true_eq, Bool.and_eq_true, Bool.or_eq_true, beq_iff_eq, true_or, false_or, decide_true, and_true, true_and]
  (repeat' split) <;> first | rfl | (exfalso; first | omega | (trace_state; omega))
set_option maxRecDepth 10000 in
theorem chk_19 (k : Nat) (d n m a c imm : Int) : a64_Check.f (k + 40) 19 d n m a c imm = if ((0 ≤ d ∧ d ≤ 31)) ∧ ((0 ≤ n ∧ n ≤ 31)) ∧ ((0 ≤ m ∧ m ≤ 31)) ∧ (a = 0) ∧ ((0 ≤ c ∧ c ≤ 15)) ∧ (imm = 0) then some 0 else some 1 := by
  have hF : a64_fits.f (k + 34) 19 d n m a c imm = some (decide (True)) := by
    simp [a64_fits.f, a64_fits.j0, a64_fits.j1, a64_fits.j2, a64_fits.j3, a64_fits.j4, a64_fits.j5, far_eq]
    try (first | omega | (repeat' split) <;> first | rfl | (simp; omega) | (by_cases h8 : imm.tmod 8 = 0 <;> simp [h8] <;> (have := Int.tmod_eq_emod_of_nonneg (b := 8) (show 0 ≤ imm by assumption); omega)) | (simp_all; try omega))
  rw [chk_eq k 19 d n m a c imm 23 true true true false true false _ (by omega) (by omega) rfl (by decide) (by decide) (by decide) (by decide) (by decide) (by decide) hF]
  clear hF
  unfold reg
  simp only [Bool.false_eq_true, if_true, if_false, decide_eq_true_eq, Bool.and_eq_true, Bool.or_eq_true, beq_iff_eq, true_or, false_or, decide_true, and_true, true_and]
  (repeat' split) <;> first | rfl | (exfalso; first | omega | (trace_state; omega))
set_option maxRecDepth 10000 in
theorem chk_20 (k : Nat) (d n m a c imm : Int) : a64_Check.f (k + 40) 20 d n m a c imm = if (d = 0) ∧ (n = 0) ∧ (m = 0) ∧ (a = 0) ∧ (c = 0) ∧ ((-134217728 ≤ imm ∧ imm ≤ 134217724) ∧ Int.tmod imm 4 = 0) then some 0 else some 1 := by
  have hF : a64_fits.f (k + 34) 20 d n m a c imm = some (decide ((-134217728 ≤ imm ∧ imm ≤ 134217724) ∧ Int.tmod imm 4 = 0)) := by
    simp [a64_fits.f, a64_fits.j0, a64_fits.j1, a64_fits.j2, a64_fits.j3, a64_fits.j4, a64_fits.j5, far_eq]
    try (first | omega | (repeat' split) <;> first | rfl | (simp; omega) | (by_cases h8 : imm.tmod 8 = 0 <;> simp [h8] <;> (have := Int.tmod_eq_emod_of_nonneg (b := 8) (show 0 ≤ imm by assumption); omega)) | (simp_all; try omega))
  rw [chk_eq k 20 d n m a c imm 32 false false false false false true _ (by omega) (by omega) rfl (by decide) (by decide) (by decide) (by decide) (by decide) (by decide) hF]
  clear hF
  unfold reg
  simp only [Bool.false_eq_true, if_true, if_false, decide_eq_true_eq, Bool.and_eq_true, Bool.or_eq_true, beq_iff_eq, true_or, false_or, decide_true, and_true, true_and]
  (repeat' split) <;> first | rfl | (exfalso; first | omega | (trace_state; omega))
set_option maxRecDepth 10000 in
theorem chk_21 (k : Nat) (d n m a c imm : Int) : a64_Check.f (k + 40) 21 d n m a c imm = if (d = 0) ∧ (n = 0) ∧ (m = 0) ∧ (a = 0) ∧ ((0 ≤ c ∧ c ≤ 15)) ∧ (((-1048576 ≤ imm ∧ imm ≤ 1048572) ∧ Int.tmod imm 4 = 0) ∧ c ≤ 13) then some 0 else some 1 := by
  have hF : a64_fits.f (k + 34) 21 d n m a c imm = some (decide (((-1048576 ≤ imm ∧ imm ≤ 1048572) ∧ Int.tmod imm 4 = 0) ∧ c ≤ 13)) := by
    simp [a64_fits.f, a64_fits.j0, a64_fits.j1, a64_fits.j2, a64_fits.j3, a64_fits.j4, a64_fits.j5, far_eq]
    try (first | omega | (repeat' split) <;> first | rfl | (simp; omega) | (by_cases h8 : imm.tmod 8 = 0 <;> simp [h8] <;> (have := Int.tmod_eq_emod_of_nonneg (b := 8) (show 0 ≤ imm by assumption); omega)) | (simp_all; try omega))
  rw [chk_eq k 21 d n m a c imm 48 false false false false true true _ (by omega) (by omega) rfl (by decide) (by decide) (by decide) (by decide) (by decide) (by decide) hF]
  clear hF
  unfold reg
  simp only [Bool.false_eq_true, if_true, if_false, decide_eq_true_eq, Bool.and_eq_true, Bool.or_eq_true, beq_iff_eq, true_or, false_or, decide_true, and_true, true_and]
  (repeat' split) <;> first | rfl | (exfalso; first | omega | (trace_state; omega))
set_option maxRecDepth 10000 in
theorem chk_22 (k : Nat) (d n m a c imm : Int) : a64_Check.f (k + 40) 22 d n m a c imm = if ((0 ≤ d ∧ d ≤ 31)) ∧ (n = 0) ∧ (m = 0) ∧ (a = 0) ∧ (c = 0) ∧ ((-1048576 ≤ imm ∧ imm ≤ 1048572) ∧ Int.tmod imm 4 = 0) then some 0 else some 1 := by
  have hF : a64_fits.f (k + 34) 22 d n m a c imm = some (decide ((-1048576 ≤ imm ∧ imm ≤ 1048572) ∧ Int.tmod imm 4 = 0)) := by
    simp [a64_fits.f, a64_fits.j0, a64_fits.j1, a64_fits.j2, a64_fits.j3, a64_fits.j4, a64_fits.j5, far_eq]
    try (first | omega | (repeat' split) <;> first | rfl | (simp; omega) | (by_cases h8 : imm.tmod 8 = 0 <;> simp [h8] <;> (have := Int.tmod_eq_emod_of_nonneg (b := 8) (show 0 ≤ imm by assumption); omega)) | (simp_all; try omega))
  rw [chk_eq k 22 d n m a c imm 33 true false false false false true _ (by omega) (by omega) rfl (by decide) (by decide) (by decide) (by decide) (by decide) (by decide) hF]
  clear hF
  unfold reg
  simp only [Bool.false_eq_true, if_true, if_false, decide_eq_true_eq, Bool.and_eq_true, Bool.or_eq_true, beq_iff_eq, true_or, false_or, decide_true, and_true, true_and]
  (repeat' split) <;> first | rfl | (exfalso; first | omega | (trace_state; omega))
set_option maxRecDepth 10000 in
theorem chk_23 (k : Nat) (d n m a c imm : Int) : a64_Check.f (k + 40) 23 d n m a c imm = if ((0 ≤ d ∧ d ≤ 31)) ∧ (n = 0) ∧ (m = 0) ∧ (a = 0) ∧ (c = 0) ∧ ((-1048576 ≤ imm ∧ imm ≤ 1048572) ∧ Int.tmod imm 4 = 0) then some 0 else some 1 := by
  have hF : a64_fits.f (k + 34) 23 d n m a c imm = some (decide ((-1048576 ≤ imm ∧ imm ≤ 1048572) ∧ Int.tmod imm 4 = 0)) := by
    simp [a64_fits.f, a64_fits.j0, a64_fits.j1, a64_fits.j2, a64_fits.j3, a64_fits.j4, a64_fits.j5, far_eq]
    try (first | omega | (repeat' split) <;> first | rfl | (simp; omega) | (by_cases h8 : imm.tmod 8 = 0 <;> simp [h8] <;> (have := Int.tmod_eq_emod_of_nonneg (b := 8) (show 0 ≤ imm by assumption); omega)) | (simp_all; try omega))
  rw [chk_eq k 23 d n m a c imm 33 true false false false false true _ (by omega) (by omega) rfl (by decide) (by decide) (by decide) (by decide) (by decide) (by decide) hF]
  clear hF
  unfold reg
  simp only [Bool.false_eq_true, if_true, if_false, decide_eq_true_eq, Bool.and_eq_true, Bool.or_eq_true, beq_iff_eq, true_or, false_or, decide_true, and_true, true_and]
  (repeat' split) <;> first | rfl | (exfalso; first | omega | (trace_state; omega))
set_option maxRecDepth 10000 in
theorem chk_24 (k : Nat) (d n m a c imm : Int) : a64_Check.f (k + 40) 24 d n m a c imm = if (d = 0) ∧ (n = 0) ∧ (m = 0) ∧ (a = 0) ∧ (c = 0) ∧ ((-134217728 ≤ imm ∧ imm ≤ 134217724) ∧ Int.tmod imm 4 = 0) then some 0 else some 1 := by
  have hF : a64_fits.f (k + 34) 24 d n m a c imm = some (decide ((-134217728 ≤ imm ∧ imm ≤ 134217724) ∧ Int.tmod imm 4 = 0)) := by
    simp [a64_fits.f, a64_fits.j0, a64_fits.j1, a64_fits.j2, a64_fits.j3, a64_fits.j4, a64_fits.j5, far_eq]
    try (first | omega | (repeat' split) <;> first | rfl | (simp; omega) | (by_cases h8 : imm.tmod 8 = 0 <;> simp [h8] <;> (have := Int.tmod_eq_emod_of_nonneg (b := 8) (show 0 ≤ imm by assumption); omega)) | (simp_all; try omega))
  rw [chk_eq k 24 d n m a c imm 32 false false false false false true _ (by omega) (by omega) rfl (by decide) (by decide) (by decide) (by decide) (by decide) (by decide) hF]
  clear hF
  unfold reg
  simp only [Bool.false_eq_true, if_true, if_false, decide_eq_true_eq, Bool.and_eq_true, Bool.or_eq_true, beq_iff_eq, true_or, false_or, decide_true, and_true, true_and]
  (repeat' split) <;> first | rfl | (exfalso; first | omega | (trace_state; omega))
set_option maxRecDepth 10000 in
theorem chk_25 (k : Nat) (d n m a c imm : Int) : a64_Check.f (k + 40) 25 d n m a c imm = if (d = 0) ∧ ((0 ≤ n ∧ n ≤ 31)) ∧ (m = 0) ∧ (a = 0) ∧ (c = 0) ∧ (imm = 0) then some 0 else some 1 := by
  have hF : a64_fits.f (k + 34) 25 d n m a c imm = some (decide (True)) := by
    simp [a64_fits.f, a64_fits.j0, a64_fits.j1, a64_fits.j2, a64_fits.j3, a64_fits.j4, a64_fits.j5, far_eq]
    try (first | omega | (repeat' split) <;> first | rfl | (simp; omega) | (by_cases h8 : imm.tmod 8 = 0 <;> simp [h8] <;> (have := Int.tmod_eq_emod_of_nonneg (b := 8) (show 0 ≤ imm by assumption); omega)) | (simp_all; try omega))
  rw [chk_eq k 25 d n m a c imm 2 false true false false false false _ (by omega) (by omega) rfl (by decide) (by decide) (by decide) (by decide) (by decide) (by decide) hF]
  clear hF
  unfold reg
  simp only [Bool.false_eq_true, if_true, if_false, decide_eq_true_eq, Bool.and_eq_true, Bool.or_eq_true, beq_iff_eq, true_or, false_or, decide_true, and_true, true_and]
  (repeat' split) <;> first | rfl | (exfalso; first | omega | (trace_state; omega))
set_option maxRecDepth 10000 in
theorem chk_26 (k : Nat) (d n m a c imm : Int) : a64_Check.f (k + 40) 26 d n m a c imm = if (d = 0) ∧ ((0 ≤ n ∧ n ≤ 31)) ∧ (m = 0) ∧ (a = 0) ∧ (c = 0) ∧ (imm = 0) then some 0 else some 1 := by
  have hF : a64_fits.f (k + 34) 26 d n m a c imm = some (decide (True)) := by
    simp [a64_fits.f, a64_fits.j0, a64_fits.j1, a64_fits.j2, a64_fits.j3, a64_fits.j4, a64_fits.j5, far_eq]
    try (first | omega | (repeat' split) <;> first | rfl | (simp; omega) | (by_cases h8 : imm.tmod 8 = 0 <;> simp [h8] <;> (have := Int.tmod_eq_emod_of_nonneg (b := 8) (show 0 ≤ imm by assumption); omega)) | (simp_all; try omega))
  rw [chk_eq k 26 d n m a c imm 2 false true false false false false _ (by omega) (by omega) rfl (by decide) (by decide) (by decide) (by decide) (by decide) (by decide) hF]
  clear hF
  unfold reg
  simp only [Bool.false_eq_true, if_true, if_false, decide_eq_true_eq, Bool.and_eq_true, Bool.or_eq_true, beq_iff_eq, true_or, false_or, decide_true, and_true, true_and]
  (repeat' split) <;> first | rfl | (exfalso; first | omega | (trace_state; omega))
set_option maxRecDepth 10000 in
theorem chk_27 (k : Nat) (d n m a c imm : Int) : a64_Check.f (k + 40) 27 d n m a c imm = if (d = 0) ∧ ((0 ≤ n ∧ n ≤ 31)) ∧ (m = 0) ∧ (a = 0) ∧ (c = 0) ∧ (imm = 0) then some 0 else some 1 := by
  have hF : a64_fits.f (k + 34) 27 d n m a c imm = some (decide (True)) := by
    simp [a64_fits.f, a64_fits.j0, a64_fits.j1, a64_fits.j2, a64_fits.j3, a64_fits.j4, a64_fits.j5, far_eq]
    try (first | omega | (repeat' split) <;> first | rfl | (simp; omega) | (by_cases h8 : imm.tmod 8 = 0 <;> simp [h8] <;> (have := Int.tmod_eq_emod_of_nonneg (b := 8) (show 0 ≤ imm by assumption); omega)) | (simp_all; try omega))
  rw [chk_eq k 27 d n m a c imm 2 false true false false false false _ (by omega) (by omega) rfl (by decide) (by decide) (by decide) (by decide) (by decide) (by decide) hF]
  clear hF
  unfold reg
  simp only [Bool.false_eq_true, if_true, if_false, decide_eq_true_eq, Bool.and_eq_true, Bool.or_eq_true, beq_iff_eq, true_or, false_or, decide_true, and_true, true_and]
  (repeat' split) <;> first | rfl | (exfalso; first | omega | (trace_state; omega))
set_option maxRecDepth 10000 in
theorem chk_28 (k : Nat) (d n m a c imm : Int) : a64_Check.f (k + 40) 28 d n m a c imm = if ((0 ≤ d ∧ d ≤ 31)) ∧ ((0 ≤ n ∧ n ≤ 31)) ∧ (m = 0) ∧ (a = 0) ∧ (c = 0) ∧ ((0 ≤ imm ∧ imm ≤ 32760) ∧ Int.tmod imm 8 = 0) then some 0 else some 1 := by
  have hF : a64_fits.f (k + 34) 28 d n m a c imm = some (decide ((0 ≤ imm ∧ imm ≤ 32760) ∧ Int.tmod imm 8 = 0)) := by
    simp [a64_fits.f, a64_fits.j0, a64_fits.j1, a64_fits.j2, a64_fits.j3, a64_fits.j4, a64_fits.j5, far_eq]
    try (first | omega | (repeat' split) <;> first | rfl | (simp; omega) | (by_cases h8 : imm.tmod 8 = 0 <;> simp [h8] <;> (have := Int.tmod_eq_emod_of_nonneg (b := 8) (show 0 ≤ imm by assumption); omega)) | (simp_all; try omega))
  rw [chk_eq k 28 d n m a c imm 35 true true false false false true _ (by omega) (by omega) rfl (by decide) (by decide) (by decide) (by decide) (by decide) (by decide) hF]
  clear hF
  unfold reg
  simp only [Bool.false_eq_true, if_true, if_false, decide_eq_true_eq, Bool.and_eq_true, Bool.or_eq_true, beq_iff_eq, true_or, false_or, decide_true, and_true, true_and]
  (repeat' split) <;> first | rfl | (exfalso; first | omega | (trace_state; omega))
set_option maxRecDepth 10000 in
theorem chk_29 (k : Nat) (d n m a c imm : Int) : a64_Check.f (k + 40) 29 d n m a c imm = if ((0 ≤ d ∧ d ≤ 31)) ∧ ((0 ≤ n ∧ n ≤ 31)) ∧ (m = 0) ∧ (a = 0) ∧ (c = 0) ∧ ((0 ≤ imm ∧ imm ≤ 32760) ∧ Int.tmod imm 8 = 0) then some 0 else some 1 := by
  have hF : a64_fits.f (k + 34) 29 d n m a c imm = some (decide ((0 ≤ imm ∧ imm ≤ 32760) ∧ Int.tmod imm 8 = 0)) := by
    simp [a64_fits.f, a64_fits.j0, a64_fits.j1, a64_fits.j2, a64_fits.j3, a64_fits.j4, a64_fits.j5, far_eq]
    try (first | omega | (repeat' split) <;> first | rfl | (simp; omega) | (by_cases h8 : imm.tmod 8 = 0 <;> simp [h8] <;> (have := Int.tmod_eq_emod_of_nonneg (b := 8) (show 0 ≤ imm by assumption); omega)) | (simp_all; try omega))
  rw [chk_eq k 29 d n m a c imm 35 true true false false false true _ (by omega) (by omega) rfl (by decide) (by decide) (by decide) (by decide) (by decide) (by decide) hF]
  clear hF
  unfold reg
  simp only [Bool.false_eq_true, if_true, if_false, decide_eq_true_eq, Bool.and_eq_true, Bool.or_eq_true, beq_iff_eq, true_or, false_or, decide_true, and_true, true_and]
  (repeat' split) <;> first | rfl | (exfalso; first | omega | (trace_state; omega))
set_option maxRecDepth 10000 in
theorem chk_30 (k : Nat) (d n m a c imm : Int) : a64_Check.f (k + 40) 30 d n m a c imm = if ((0 ≤ d ∧ d ≤ 31)) ∧ ((0 ≤ n ∧ n ≤ 31)) ∧ (m = 0) ∧ (a = 0) ∧ (c = 0) ∧ (0 ≤ imm ∧ imm ≤ 4095) then some 0 else some 1 := by
  have hF : a64_fits.f (k + 34) 30 d n m a c imm = some (decide (0 ≤ imm ∧ imm ≤ 4095)) := by
    simp [a64_fits.f, a64_fits.j0, a64_fits.j1, a64_fits.j2, a64_fits.j3, a64_fits.j4, a64_fits.j5, far_eq]
    try (first | omega | (repeat' split) <;> first | rfl | (simp; omega) | (by_cases h8 : imm.tmod 8 = 0 <;> simp [h8] <;> (have := Int.tmod_eq_emod_of_nonneg (b := 8) (show 0 ≤ imm by assumption); omega)) | (simp_all; try omega))
  rw [chk_eq k 30 d n m a c imm 35 true true false false false true _ (by omega) (by omega) rfl (by decide) (by decide) (by decide) (by decide) (by decide) (by decide) hF]
  clear hF
  unfold reg
  simp only [Bool.false_eq_true, if_true, if_false, decide_eq_true_eq, Bool.and_eq_true, Bool.or_eq_true, beq_iff_eq, true_or, false_or, decide_true, and_true, true_and]
  (repeat' split) <;> first | rfl | (exfalso; first | omega | (trace_state; omega))
set_option maxRecDepth 10000 in
theorem chk_31 (k : Nat) (d n m a c imm : Int) : a64_Check.f (k + 40) 31 d n m a c imm = if ((0 ≤ d ∧ d ≤ 31)) ∧ ((0 ≤ n ∧ n ≤ 31)) ∧ ((0 ≤ m ∧ m ≤ 31)) ∧ (a = 0) ∧ (c = 0) ∧ (imm = 0) then some 0 else some 1 := by
  have hF : a64_fits.f (k + 34) 31 d n m a c imm = some (decide (True)) := by
    simp [a64_fits.f, a64_fits.j0, a64_fits.j1, a64_fits.j2, a64_fits.j3, a64_fits.j4, a64_fits.j5, far_eq]
    try (first | omega | (repeat' split) <;> first | rfl | (simp; omega) | (by_cases h8 : imm.tmod 8 = 0 <;> simp [h8] <;> (have := Int.tmod_eq_emod_of_nonneg (b := 8) (show 0 ≤ imm by assumption); omega)) | (simp_all; try omega))
  rw [chk_eq k 31 d n m a c imm 7 true true true false false false _ (by omega) (by omega) rfl (by decide) (by decide) (by decide) (by decide) (by decide) (by decide) hF]
  clear hF
  unfold reg
  simp only [Bool.false_eq_true, if_true, if_false, decide_eq_true_eq, Bool.and_eq_true, Bool.or_eq_true, beq_iff_eq, true_or, false_or, decide_true, and_true, true_and]
  (repeat' split) <;> first | rfl | (exfalso; first | omega | (trace_state; omega))
set_option maxRecDepth 10000 in
theorem chk_32 (k : Nat) (d n m a c imm : Int) : a64_Check.f (k + 40) 32 d n m a c imm = if ((0 ≤ d ∧ d ≤ 31)) ∧ ((0 ≤ n ∧ n ≤ 31)) ∧ ((0 ≤ m ∧ m ≤ 31)) ∧ (a = 0) ∧ (c = 0) ∧ (imm = 0) then some 0 else some 1 := by
  have hF : a64_fits.f (k + 34) 32 d n m a c imm = some (decide (True)) := by
    simp [a64_fits.f, a64_fits.j0, a64_fits.j1, a64_fits.j2, a64_fits.j3, a64_fits.j4, a64_fits.j5, far_eq]
    try (first | omega | (repeat' split) <;> first | rfl | (simp; omega) | (by_cases h8 : imm.tmod 8 = 0 <;> simp [h8] <;> (have := Int.tmod_eq_emod_of_nonneg (b := 8) (show 0 ≤ imm by assumption); omega)) | (simp_all; try omega))
  rw [chk_eq k 32 d n m a c imm 7 true true true false false false _ (by omega) (by omega) rfl (by decide) (by decide) (by decide) (by decide) (by decide) (by decide) hF]
  clear hF
  unfold reg
  simp only [Bool.false_eq_true, if_true, if_false, decide_eq_true_eq, Bool.and_eq_true, Bool.or_eq_true, beq_iff_eq, true_or, false_or, decide_true, and_true, true_and]
  (repeat' split) <;> first | rfl | (exfalso; first | omega | (trace_state; omega))
set_option maxRecDepth 10000 in
theorem chk_33 (k : Nat) (d n m a c imm : Int) : a64_Check.f (k + 40) 33 d n m a c imm = if ((0 ≤ d ∧ d ≤ 31)) ∧ ((0 ≤ n ∧ n ≤ 31)) ∧ (m = 0) ∧ (a = 0) ∧ (c = 0) ∧ (imm = 0) then some 0 else some 1 := by
  have hF : a64_fits.f (k + 34) 33 d n m a c imm = some (decide (True)) := by
    simp [a64_fits.f, a64_fits.j0, a64_fits.j1, a64_fits.j2, a64_fits.j3, a64_fits.j4, a64_fits.j5, far_eq]
    try (first | omega | (repeat' split) <;> first | rfl | (simp; omega) | (by_cases h8 : imm.tmod 8 = 0 <;> simp [h8] <;> (have := Int.tmod_eq_emod_of_nonneg (b := 8) (show 0 ≤ imm by assumption); omega)) | (simp_all; try omega))
  rw [chk_eq k 33 d n m a c imm 3 true true false false false false _ (by omega) (by omega) rfl (by decide) (by decide) (by decide) (by decide) (by decide) (by decide) hF]
  clear hF
  unfold reg
  simp only [Bool.false_eq_true, if_true, if_false, decide_eq_true_eq, Bool.and_eq_true, Bool.or_eq_true, beq_iff_eq, true_or, false_or, decide_true, and_true, true_and]
  (repeat' split) <;> first | rfl | (exfalso; first | omega | (trace_state; omega))
set_option maxRecDepth 10000 in
theorem chk_34 (k : Nat) (d n m a c imm : Int) : a64_Check.f (k + 40) 34 d n m a c imm = if ((0 ≤ d ∧ d ≤ 31)) ∧ ((0 ≤ n ∧ n ≤ 31)) ∧ (m = 0) ∧ (a = 0) ∧ (c = 0) ∧ (imm = 0) then some 0 else some 1 := by
  have hF : a64_fits.f (k + 34) 34 d n m a c imm = some (decide (True)) := by
    simp [a64_fits.f, a64_fits.j0, a64_fits.j1, a64_fits.j2, a64_fits.j3, a64_fits.j4, a64_fits.j5, far_eq]
    try (first | omega | (repeat' split) <;> first | rfl | (simp; omega) | (by_cases h8 : imm.tmod 8 = 0 <;> simp [h8] <;> (have := Int.tmod_eq_emod_of_nonneg (b := 8) (show 0 ≤ imm by assumption); omega)) | (simp_all; try omega))
  rw [chk_eq k 34 d n m a c imm 3 true true false false false false _ (by omega) (by omega) rfl (by decide) (by decide) (by decide) (by decide) (by decide) (by decide) hF]
  clear hF
  unfold reg
  simp only [Bool.false_eq_true, if_true, if_false, decide_eq_true_eq, Bool.and_eq_true, Bool.or_eq_true, beq_iff_eq, true_or, false_or, decide_true, and_true, true_and]
  (repeat' split) <;> first | rfl | (exfalso; first | omega | (trace_state; omega))
set_option maxRecDepth 10000 in
theorem chk_35 (k : Nat) (d n m a c imm : Int) : a64_Check.f (k + 40) 35 d n m a c imm = if ((0 ≤ d ∧ d ≤ 31)) ∧ ((0 ≤ n ∧ n ≤ 31)) ∧ (m = 0) ∧ (a = 0) ∧ (c = 0) ∧ (imm = 0) then some 0 else some 1 := by
  have hF : a64_fits.f (k + 34) 35 d n m a c imm = some (decide (True)) := by
    simp [a64_fits.f, a64_fits.j0, a64_fits.j1, a64_fits.j2, a64_fits.j3, a64_fits.j4, a64_fits.j5, far_eq]
    try (first | omega | (repeat' split) <;> first | rfl | (simp; omega) | (by_cases h8 : imm.tmod 8 = 0 <;> simp [h8] <;> (have := Int.tmod_eq_emod_of_nonneg (b := 8) (show 0 ≤ imm by assumption); omega)) | (simp_all; try omega))
  rw [chk_eq k 35 d n m a c imm 3 true true false false false false _ (by omega) (by omega) rfl (by decide) (by decide) (by decide) (by decide) (by decide) (by decide) hF]
  clear hF
  unfold reg
  simp only [Bool.false_eq_true, if_true, if_false, decide_eq_true_eq, Bool.and_eq_true, Bool.or_eq_true, beq_iff_eq, true_or, false_or, decide_true, and_true, true_and]
  (repeat' split) <;> first | rfl | (exfalso; first | omega | (trace_state; omega))
set_option maxRecDepth 10000 in
theorem chk_36 (k : Nat) (d n m a c imm : Int) : a64_Check.f (k + 40) 36 d n m a c imm = if ((0 ≤ d ∧ d ≤ 31)) ∧ ((0 ≤ n ∧ n ≤ 31)) ∧ ((0 ≤ m ∧ m ≤ 31)) ∧ (a = 0) ∧ (c = 0) ∧ (imm = 0) then some 0 else some 1 := by
  have hF : a64_fits.f (k + 34) 36 d n m a c imm = some (decide (True)) := by
    simp [a64_fits.f, a64_fits.j0, a64_fits.j1, a64_fits.j2, a64_fits.j3, a64_fits.j4, a64_fits.j5, far_eq]
    try (first | omega | (repeat' split) <;> first | rfl | (simp; omega) | (by_cases h8 : imm.tmod 8 = 0 <;> simp [h8] <;> (have := Int.tmod_eq_emod_of_nonneg (b := 8) (show 0 ≤ imm by assumption); omega)) | (simp_all; try omega))
  rw [chk_eq k 36 d n m a c imm 7 true true true false false false _ (by omega) (by omega) rfl (by decide) (by decide) (by decide) (by decide) (by decide) (by decide) hF]
  clear hF
  unfold reg
  simp only [Bool.false_eq_true, if_true, if_false, decide_eq_true_eq, Bool.and_eq_true, Bool.or_eq_true, beq_iff_eq, true_or, false_or, decide_true, and_true, true_and]
  (repeat' split) <;> first | rfl | (exfalso; first | omega | (trace_state; omega))
set_option maxRecDepth 10000 in
theorem chk_37 (k : Nat) (d n m a c imm : Int) : a64_Check.f (k + 40) 37 d n m a c imm = if (d = 0) ∧ (n = 0) ∧ (m = 0) ∧ (a = 0) ∧ (c = 0) ∧ (0 ≤ imm ∧ imm ≤ 2) then some 0 else some 1 := by
  have hF : a64_fits.f (k + 34) 37 d n m a c imm = some (decide (0 ≤ imm ∧ imm ≤ 2)) := by
    simp [a64_fits.f, a64_fits.j0, a64_fits.j1, a64_fits.j2, a64_fits.j3, a64_fits.j4, a64_fits.j5, far_eq]
    try (first | omega | (repeat' split) <;> first | rfl | (simp; omega) | (by_cases h8 : imm.tmod 8 = 0 <;> simp [h8] <;> (have := Int.tmod_eq_emod_of_nonneg (b := 8) (show 0 ≤ imm by assumption); omega)) | (simp_all; try omega))
  rw [chk_eq k 37 d n m a c imm 32 false false false false false true _ (by omega) (by omega) rfl (by decide) (by decide) (by decide) (by decide) (by decide) (by decide) hF]
  clear hF
  unfold reg
  simp only [Bool.false_eq_true, if_true, if_false, decide_eq_true_eq, Bool.and_eq_true, Bool.or_eq_true, beq_iff_eq, true_or, false_or, decide_true, and_true, true_and]
  (repeat' split) <;> first | rfl | (exfalso; first | omega | (trace_state; omega))
set_option maxRecDepth 10000 in
theorem chk_38 (k : Nat) (d n m a c imm : Int) : a64_Check.f (k + 40) 38 d n m a c imm = if (d = 0) ∧ (n = 0) ∧ (m = 0) ∧ (a = 0) ∧ (c = 0) ∧ (imm = 0) then some 0 else some 1 := by
  have hF : a64_fits.f (k + 34) 38 d n m a c imm = some (decide (True)) := by
    simp [a64_fits.f, a64_fits.j0, a64_fits.j1, a64_fits.j2, a64_fits.j3, a64_fits.j4, a64_fits.j5, far_eq]
    try (first | omega | (repeat' split) <;> first | rfl | (simp; omega) | (by_cases h8 : imm.tmod 8 = 0 <;> simp [h8] <;> (have := Int.tmod_eq_emod_of_nonneg (b := 8) (show 0 ≤ imm by assumption); omega)) | (simp_all; try omega))
  rw [chk_eq k 38 d n m a c imm 0 false false false false false false _ (by omega) (by omega) rfl (by decide) (by decide) (by decide) (by decide) (by decide) (by decide) hF]
  clear hF
  unfold reg
  simp only [Bool.false_eq_true, if_true, if_false, decide_eq_true_eq, Bool.and_eq_true, Bool.or_eq_true, beq_iff_eq, true_or, false_or, decide_true, and_true, true_and]
  (repeat' split) <;> first | rfl | (exfalso; first | omega | (trace_state; omega))
set_option maxRecDepth 10000 in
theorem chk_39 (k : Nat) (d n m a c imm : Int) : a64_Check.f (k + 40) 39 d n m a c imm = if (d = 0) ∧ (n = 0) ∧ (m = 0) ∧ (a = 0) ∧ (c = 0) ∧ (imm = 0) then some 0 else some 1 := by
  have hF : a64_fits.f (k + 34) 39 d n m a c imm = some (decide (True)) := by
    simp [a64_fits.f, a64_fits.j0, a64_fits.j1, a64_fits.j2, a64_fits.j3, a64_fits.j4, a64_fits.j5, far_eq]
    try (first | omega | (repeat' split) <;> first | rfl | (simp; omega) | (by_cases h8 : imm.tmod 8 = 0 <;> simp [h8] <;> (have := Int.tmod_eq_emod_of_nonneg (b := 8) (show 0 ≤ imm by assumption); omega)) | (simp_all; try omega))
  rw [chk_eq k 39 d n m a c imm 0 false false false false false false _ (by omega) (by omega) rfl (by decide) (by decide) (by decide) (by decide) (by decide) (by decide) hF]
  clear hF
  unfold reg
  simp only [Bool.false_eq_true, if_true, if_false, decide_eq_true_eq, Bool.and_eq_true, Bool.or_eq_true, beq_iff_eq, true_or, false_or, decide_true, and_true, true_and]
  (repeat' split) <;> first | rfl | (exfalso; first | omega | (trace_state; omega))
set_option maxRecDepth 10000 in
theorem chk_40 (k : Nat) (d n m a c imm : Int) : a64_Check.f (k + 40) 40 d n m a c imm = if (d = 0) ∧ ((0 ≤ n ∧ n ≤ 31)) ∧ (m = 0) ∧ (a = 0) ∧ (c = 0) ∧ (imm = 0) then some 0 else some 1 := by
  have hF : a64_fits.f (k + 34) 40 d n m a c imm = some (decide (True)) := by
    simp [a64_fits.f, a64_fits.j0, a64_fits.j1, a64_fits.j2, a64_fits.j3, a64_fits.j4, a64_fits.j5, far_eq]
    try (first | omega | (repeat' split) <;> first | rfl | (simp; omega) | (by_cases h8 : imm.tmod 8 = 0 <;> simp [h8] <;> (have := Int.tmod_eq_emod_of_nonneg (b := 8) (show 0 ≤ imm by assumption); omega)) | (simp_all; try omega))
  rw [chk_eq k 40 d n m a c imm 2 false true false false false false _ (by omega) (by omega) rfl (by decide) (by decide) (by decide) (by decide) (by decide) (by decide) hF]
  clear hF
  unfold reg
  simp only [Bool.false_eq_true, if_true, if_false, decide_eq_true_eq, Bool.and_eq_true, Bool.or_eq_true, beq_iff_eq, true_or, false_or, decide_true, and_true, true_and]
  (repeat' split) <;> first | rfl | (exfalso; first | omega | (trace_state; omega))
set_option maxRecDepth 10000 in
theorem chk_41 (k : Nat) (d n m a c imm : Int) : a64_Check.f (k + 40) 41 d n m a c imm = if (d = 0) ∧ ((0 ≤ n ∧ n ≤ 31)) ∧ (m = 0) ∧ (a = 0) ∧ (c = 0) ∧ (imm = 0) then some 0 else some 1 := by
  have hF : a64_fits.f (k + 34) 41 d n m a c imm = some (decide (True)) := by
    simp [a64_fits.f, a64_fits.j0, a64_fits.j1, a64_fits.j2, a64_fits.j3, a64_fits.j4, a64_fits.j5, far_eq]
    try (first | omega | (repeat' split) <;> first | rfl | (simp; omega) | (by_cases h8 : imm.tmod 8 = 0 <;> simp [h8] <;> (have := Int.tmod_eq_emod_of_nonneg (b := 8) (show 0 ≤ imm by assumption); omega)) | (simp_all; try omega))
  rw [chk_eq k 41 d n m a c imm 2 false true false false false false _ (by omega) (by omega) rfl (by decide) (by decide) (by decide) (by decide) (by decide) (by decide) hF]
  clear hF
  unfold reg
  simp only [Bool.false_eq_true, if_true, if_false, decide_eq_true_eq, Bool.and_eq_true, Bool.or_eq_true, beq_iff_eq, true_or, false_or, decide_true, and_true, true_and]
  (repeat' split) <;> first | rfl | (exfalso; first | omega | (trace_state; omega))
set_option maxRecDepth 10000 in
theorem chk_42 (k : Nat) (d n m a c imm : Int) : a64_Check.f (k + 40) 42 d n m a c imm = if (d = 0) ∧ (n = 0) ∧ (m = 0) ∧ (a = 0) ∧ (c = 0) ∧ (0 ≤ imm ∧ imm ≤ 65535) then some 0 else some 1 := by
  have hF : a64_fits.f (k + 34) 42 d n m a c imm = some (decide (0 ≤ imm ∧ imm ≤ 65535)) := by
    simp [a64_fits.f, a64_fits.j0, a64_fits.j1, a64_fits.j2, a64_fits.j3, a64_fits.j4, a64_fits.j5, far_eq]
    try (first | omega | (repeat' split) <;> first | rfl | (simp; omega) | (by_cases h8 : imm.tmod 8 = 0 <;> simp [h8] <;> (have := Int.tmod_eq_emod_of_nonneg (b := 8) (show 0 ≤ imm by assumption); omega)) | (simp_all; try omega))
  rw [chk_eq k 42 d n m a c imm 32 false false false false false true _ (by omega) (by omega) rfl (by decide) (by decide) (by decide) (by decide) (by decide) (by decide) hF]
  clear hF
  unfold reg
  simp only [Bool.false_eq_true, if_true, if_false, decide_eq_true_eq, Bool.and_eq_true, Bool.or_eq_true, beq_iff_eq, true_or, false_or, decide_true, and_true, true_and]
  (repeat' split) <;> first | rfl | (exfalso; first | omega | (trace_state; omega))
theorem chk_out (op d n m a c imm : Int) (k : Nat) (h : op < 0 ∨ 42 < op) : a64_Check.f (k + 40) op d n m a c imm = some 1 := by
  unfold a64_Check.f
  by_cases c1 : op < 0
  · rw [if_pos c1]
    simp only [a64_Check.j0, if_true]
  rw [if_neg c1, decide_eq_true (by omega)]
  simp only [a64_Check.j0, if_true]
end Go.Proofs.Ytbjikmepfpkmjaa.X
