/- Parts of the proof, one behind the other. -/
import Derived.Test.YtpahclogghdnpaaDoorzA64ChecksIPlainC
import Derived.Test.YtpahclogghdnpaaDoorzA64ChecksINum
import Derived.Test.YtpahclogghdnpaaDoorzA64ChecksIInT
section
/- brazierref2.Check and brazierref3.Word as tables' lines. Printed by genword.py. -/
namespace Go.Proofs.YtpahclogghdnpaaDoor.isa
open Go Go.Proofs Go.Proofs.YtpahclogghdnpaaDoorRL
set_option linter.unusedVariables false
set_option linter.unusedSimpArgs false
def regR {R : Type} (b : Bool) (v : Int) (E Z : R) : R := match b with
  | true => Br (decide (v ≥ 0)) (Br (decide (v ≤ 31)) Z E) E
  | false => Br (!(v == 0)) E Z
def immR {R : Type} (k : Nat) (imm : Int) (E Z : R) : R := match k with
  | 0 | 42 | 2 | 3 => Br (decide (imm ≥ 0)) (Br (!decide (imm ≤ 65535)) E Z) E
  | 37 => Br (decide (imm ≥ 0)) (Br (!decide (imm ≤ 2)) E Z) E
  | 4 | 5 | 6 | 30 => Br (decide (imm ≥ 0)) (Br (!decide (imm ≤ 4095)) E Z) E
  | 28 | 29 => Br (decide (imm ≥ 0)) (Br (decide (imm ≤ 32760)) (Br (!(imm.tmod 8 == 0)) E Z) E) E
  | 20 | 24 => Br (imm.tmod 4 == 0) (Br (decide (imm ≥ -134217728)) (Br (!decide (imm ≤ 134217724)) E Z) E) E
  | 21 | 22 | 23 => Br (imm.tmod 4 == 0) (Br (decide (imm ≥ -1048576)) (Br (!decide (imm ≤ 1048572)) E Z) E) E
  | _ => Br (!(imm == 0)) E Z
def m3R {R : Type} (k : Nat) (m : Int) (E Z : R) : R := match k with
  | 2 | 3 => Br (decide (m > 3)) E Z
  | _ => Z
def c13R {R : Type} (k : Nat) (c : Int) (E Z : R) : R := match k with
  | 21 => Br (decide (c > 13)) E Z
  | _ => Z
def cR {R : Type} (k : Nat) (c : Int) (E Z : R) : R := match bt k 4 with
  | true => Br (decide (c < 0)) E (Br (decide (c > 15)) E (c13R k c E Z))
  | false => Br (c != 0) E (Br (decide (c < 0)) E (Br (decide (c > 15)) E (c13R k c E Z)))
def refM {R : Type} (k : Nat) (d n m a c imm : Int) (E Z : R) : R := regR (bt k 0) d E (regR (bt k 1) n E (regR (bt k 2) m E (regR (bt k 3) a E (immR k imm E (m3R k m E (cR k c E Z))))))
def restR {R : Type} (k : Nat) (m c imm : Int) (E Z : R) : R := immR k imm E (m3R k m E (cR k c E Z))
def restP (k : Nat) (m c imm : Int) : Prop := cdP (bt k 4) c ∧ zeroP (bt k 5) imm ∧ immP k imm m c
instance (k : Nat) (m c imm : Int) : Decidable (restP k m c imm) := by unfold restP; infer_instance
theorem Br_dec {R : Type} {p : Prop} [Decidable p] {A B : R} : Br (decide p) A B = if p then A else B := Br_if
theorem Br_nbeq {R : Type} {x y : Int} {A B : R} : Br (!(x == y)) A B = if x = y then B else A := by rw [beq_dec, Br_not]
theorem Br_bne {R : Type} {x y : Int} {A B : R} : Br (x != y) A B = if x = y then B else A := by
  rw [bne_dec, Br_if]
  by_cases h : x = y <;> simp [h]
theorem Br_beq {R : Type} {x y : Int} {A B : R} : Br (x == y) A B = if x = y then A else B := by rw [beq_dec, Br_if]
theorem tmod4 (a : Int) : (a.tmod 4 = 0) = (a % 4 = 0) := propext ⟨fun h => by have := Int.dvd_of_tmod_eq_zero h; omega, fun h => Int.tmod_eq_zero_of_dvd (by omega)⟩
theorem tmod8 (a : Int) : (a.tmod 8 = 0) = (a % 8 = 0) := propext ⟨fun h => by have := Int.dvd_of_tmod_eq_zero h; omega, fun h => Int.tmod_eq_zero_of_dvd (by omega)⟩
set_option maxRecDepth 1000000 in
theorem rrun_0 (d n m a c imm : Int) : runI Try.prog noE 40 9 [insV 0 d n m a c imm] = refM 0 d n m a c imm errV okV := by kernel_rfl
theorem restR_0 {R : Type} (m c imm : Int) (E Z : R) : restR 0 m c imm E Z = if restP 0 m c imm then Z else E := by
  simp only [restR, immR, m3R, cR, c13R, show bt 0 4 = false from rfl, Br_dec, Br_nbeq, Br_bne, Br_beq, Br_not, tmod4, tmod8]
  by_cases h : restP 0 m c imm
  · rw [if_pos h]
    obtain ⟨hc, hz, hi⟩ : c = 0 ∧ True ∧ (0 ≤ imm ∧ imm < 65536) := h
    (repeat' split) <;> first | rfl | omega
  · rw [if_neg h]
    replace h : ¬ (c = 0 ∧ True ∧ (0 ≤ imm ∧ imm < 65536)) := h
    simp only [true_and, and_true] at h
    (repeat' split) <;> first | rfl | omega
set_option maxRecDepth 1000000 in
theorem rrun_1 (d n m a c imm : Int) : runI Try.prog noE 40 9 [insV 1 d n m a c imm] = refM 1 d n m a c imm errV okV := by kernel_rfl
theorem restR_1 {R : Type} (m c imm : Int) (E Z : R) : restR 1 m c imm E Z = if restP 1 m c imm then Z else E := by
  simp only [restR, immR, m3R, cR, c13R, show bt 1 4 = false from rfl, Br_dec, Br_nbeq, Br_bne, Br_beq, Br_not, tmod4, tmod8]
  by_cases h : restP 1 m c imm
  · rw [if_pos h]
    obtain ⟨hc, hz, hi⟩ : c = 0 ∧ imm = 0 ∧ (True) := h
    (repeat' split) <;> first | rfl | omega
  · rw [if_neg h]
    replace h : ¬ (c = 0 ∧ imm = 0 ∧ (True)) := h
    simp only [true_and, and_true] at h
    (repeat' split) <;> first | rfl | omega
set_option maxRecDepth 1000000 in
theorem rrun_2 (d n m a c imm : Int) : runI Try.prog noE 40 9 [insV 2 d n m a c imm] = refM 2 d n m a c imm errV okV := by kernel_rfl
theorem restR_2 {R : Type} (m c imm : Int) (E Z : R) : restR 2 m c imm E Z = if restP 2 m c imm then Z else E := by
  simp only [restR, immR, m3R, cR, c13R, show bt 2 4 = false from rfl, Br_dec, Br_nbeq, Br_bne, Br_beq, Br_not, tmod4, tmod8]
  by_cases h : restP 2 m c imm
  · rw [if_pos h]
    obtain ⟨hc, hz, hi⟩ : c = 0 ∧ True ∧ (0 ≤ imm ∧ imm < 65536 ∧ m ≤ 3) := h
    (repeat' split) <;> first | rfl | omega
  · rw [if_neg h]
    replace h : ¬ (c = 0 ∧ True ∧ (0 ≤ imm ∧ imm < 65536 ∧ m ≤ 3)) := h
    simp only [true_and, and_true] at h
    (repeat' split) <;> first | rfl | omega
set_option maxRecDepth 1000000 in
theorem rrun_3 (d n m a c imm : Int) : runI Try.prog noE 40 9 [insV 3 d n m a c imm] = refM 3 d n m a c imm errV okV := by kernel_rfl
theorem restR_3 {R : Type} (m c imm : Int) (E Z : R) : restR 3 m c imm E Z = if restP 3 m c imm then Z else E := by
  simp only [restR, immR, m3R, cR, c13R, show bt 3 4 = false from rfl, Br_dec, Br_nbeq, Br_bne, Br_beq, Br_not, tmod4, tmod8]
  by_cases h : restP 3 m c imm
  · rw [if_pos h]
    obtain ⟨hc, hz, hi⟩ : c = 0 ∧ True ∧ (0 ≤ imm ∧ imm < 65536 ∧ m ≤ 3) := h
    (repeat' split) <;> first | rfl | omega
  · rw [if_neg h]
    replace h : ¬ (c = 0 ∧ True ∧ (0 ≤ imm ∧ imm < 65536 ∧ m ≤ 3)) := h
    simp only [true_and, and_true] at h
    (repeat' split) <;> first | rfl | omega
set_option maxRecDepth 1000000 in
theorem rrun_4 (d n m a c imm : Int) : runI Try.prog noE 40 9 [insV 4 d n m a c imm] = refM 4 d n m a c imm errV okV := by kernel_rfl
theorem restR_4 {R : Type} (m c imm : Int) (E Z : R) : restR 4 m c imm E Z = if restP 4 m c imm then Z else E := by
  simp only [restR, immR, m3R, cR, c13R, show bt 4 4 = false from rfl, Br_dec, Br_nbeq, Br_bne, Br_beq, Br_not, tmod4, tmod8]
  by_cases h : restP 4 m c imm
  · rw [if_pos h]
    obtain ⟨hc, hz, hi⟩ : c = 0 ∧ True ∧ (0 ≤ imm ∧ imm < 4096) := h
    (repeat' split) <;> first | rfl | omega
  · rw [if_neg h]
    replace h : ¬ (c = 0 ∧ True ∧ (0 ≤ imm ∧ imm < 4096)) := h
    simp only [true_and, and_true] at h
    (repeat' split) <;> first | rfl | omega
set_option maxRecDepth 1000000 in
theorem rrun_5 (d n m a c imm : Int) : runI Try.prog noE 40 9 [insV 5 d n m a c imm] = refM 5 d n m a c imm errV okV := by kernel_rfl
theorem restR_5 {R : Type} (m c imm : Int) (E Z : R) : restR 5 m c imm E Z = if restP 5 m c imm then Z else E := by
  simp only [restR, immR, m3R, cR, c13R, show bt 5 4 = false from rfl, Br_dec, Br_nbeq, Br_bne, Br_beq, Br_not, tmod4, tmod8]
  by_cases h : restP 5 m c imm
  · rw [if_pos h]
    obtain ⟨hc, hz, hi⟩ : c = 0 ∧ True ∧ (0 ≤ imm ∧ imm < 4096) := h
    (repeat' split) <;> first | rfl | omega
  · rw [if_neg h]
    replace h : ¬ (c = 0 ∧ True ∧ (0 ≤ imm ∧ imm < 4096)) := h
    simp only [true_and, and_true] at h
    (repeat' split) <;> first | rfl | omega
set_option maxRecDepth 1000000 in
theorem rrun_6 (d n m a c imm : Int) : runI Try.prog noE 40 9 [insV 6 d n m a c imm] = refM 6 d n m a c imm errV okV := by kernel_rfl
theorem restR_6 {R : Type} (m c imm : Int) (E Z : R) : restR 6 m c imm E Z = if restP 6 m c imm then Z else E := by
  simp only [restR, immR, m3R, cR, c13R, show bt 6 4 = false from rfl, Br_dec, Br_nbeq, Br_bne, Br_beq, Br_not, tmod4, tmod8]
  by_cases h : restP 6 m c imm
  · rw [if_pos h]
    obtain ⟨hc, hz, hi⟩ : c = 0 ∧ True ∧ (0 ≤ imm ∧ imm < 4096) := h
    (repeat' split) <;> first | rfl | omega
  · rw [if_neg h]
    replace h : ¬ (c = 0 ∧ True ∧ (0 ≤ imm ∧ imm < 4096)) := h
    simp only [true_and, and_true] at h
    (repeat' split) <;> first | rfl | omega
set_option maxRecDepth 1000000 in
theorem rrun_7 (d n m a c imm : Int) : runI Try.prog noE 40 9 [insV 7 d n m a c imm] = refM 7 d n m a c imm errV okV := by kernel_rfl
theorem restR_7 {R : Type} (m c imm : Int) (E Z : R) : restR 7 m c imm E Z = if restP 7 m c imm then Z else E := by
  simp only [restR, immR, m3R, cR, c13R, show bt 7 4 = false from rfl, Br_dec, Br_nbeq, Br_bne, Br_beq, Br_not, tmod4, tmod8]
  by_cases h : restP 7 m c imm
  · rw [if_pos h]
    obtain ⟨hc, hz, hi⟩ : c = 0 ∧ imm = 0 ∧ (True) := h
    (repeat' split) <;> first | rfl | omega
  · rw [if_neg h]
    replace h : ¬ (c = 0 ∧ imm = 0 ∧ (True)) := h
    simp only [true_and, and_true] at h
    (repeat' split) <;> first | rfl | omega
set_option maxRecDepth 1000000 in
theorem rrun_8 (d n m a c imm : Int) : runI Try.prog noE 40 9 [insV 8 d n m a c imm] = refM 8 d n m a c imm errV okV := by kernel_rfl
theorem restR_8 {R : Type} (m c imm : Int) (E Z : R) : restR 8 m c imm E Z = if restP 8 m c imm then Z else E := by
  simp only [restR, immR, m3R, cR, c13R, show bt 8 4 = false from rfl, Br_dec, Br_nbeq, Br_bne, Br_beq, Br_not, tmod4, tmod8]
  by_cases h : restP 8 m c imm
  · rw [if_pos h]
    obtain ⟨hc, hz, hi⟩ : c = 0 ∧ imm = 0 ∧ (True) := h
    (repeat' split) <;> first | rfl | omega
  · rw [if_neg h]
    replace h : ¬ (c = 0 ∧ imm = 0 ∧ (True)) := h
    simp only [true_and, and_true] at h
    (repeat' split) <;> first | rfl | omega
set_option maxRecDepth 1000000 in
theorem rrun_9 (d n m a c imm : Int) : runI Try.prog noE 40 9 [insV 9 d n m a c imm] = refM 9 d n m a c imm errV okV := by kernel_rfl
theorem restR_9 {R : Type} (m c imm : Int) (E Z : R) : restR 9 m c imm E Z = if restP 9 m c imm then Z else E := by
  simp only [restR, immR, m3R, cR, c13R, show bt 9 4 = false from rfl, Br_dec, Br_nbeq, Br_bne, Br_beq, Br_not, tmod4, tmod8]
  by_cases h : restP 9 m c imm
  · rw [if_pos h]
    obtain ⟨hc, hz, hi⟩ : c = 0 ∧ imm = 0 ∧ (True) := h
    (repeat' split) <;> first | rfl | omega
  · rw [if_neg h]
    replace h : ¬ (c = 0 ∧ imm = 0 ∧ (True)) := h
    simp only [true_and, and_true] at h
    (repeat' split) <;> first | rfl | omega
set_option maxRecDepth 1000000 in
theorem rrun_10 (d n m a c imm : Int) : runI Try.prog noE 40 9 [insV 10 d n m a c imm] = refM 10 d n m a c imm errV okV := by kernel_rfl
theorem restR_10 {R : Type} (m c imm : Int) (E Z : R) : restR 10 m c imm E Z = if restP 10 m c imm then Z else E := by
  simp only [restR, immR, m3R, cR, c13R, show bt 10 4 = false from rfl, Br_dec, Br_nbeq, Br_bne, Br_beq, Br_not, tmod4, tmod8]
  by_cases h : restP 10 m c imm
  · rw [if_pos h]
    obtain ⟨hc, hz, hi⟩ : c = 0 ∧ imm = 0 ∧ (True) := h
    (repeat' split) <;> first | rfl | omega
  · rw [if_neg h]
    replace h : ¬ (c = 0 ∧ imm = 0 ∧ (True)) := h
    simp only [true_and, and_true] at h
    (repeat' split) <;> first | rfl | omega
set_option maxRecDepth 1000000 in
theorem rrun_11 (d n m a c imm : Int) : runI Try.prog noE 40 9 [insV 11 d n m a c imm] = refM 11 d n m a c imm errV okV := by kernel_rfl
theorem restR_11 {R : Type} (m c imm : Int) (E Z : R) : restR 11 m c imm E Z = if restP 11 m c imm then Z else E := by
  simp only [restR, immR, m3R, cR, c13R, show bt 11 4 = false from rfl, Br_dec, Br_nbeq, Br_bne, Br_beq, Br_not, tmod4, tmod8]
  by_cases h : restP 11 m c imm
  · rw [if_pos h]
    obtain ⟨hc, hz, hi⟩ : c = 0 ∧ imm = 0 ∧ (True) := h
    (repeat' split) <;> first | rfl | omega
  · rw [if_neg h]
    replace h : ¬ (c = 0 ∧ imm = 0 ∧ (True)) := h
    simp only [true_and, and_true] at h
    (repeat' split) <;> first | rfl | omega
set_option maxRecDepth 1000000 in
theorem rrun_12 (d n m a c imm : Int) : runI Try.prog noE 40 9 [insV 12 d n m a c imm] = refM 12 d n m a c imm errV okV := by kernel_rfl
theorem restR_12 {R : Type} (m c imm : Int) (E Z : R) : restR 12 m c imm E Z = if restP 12 m c imm then Z else E := by
  simp only [restR, immR, m3R, cR, c13R, show bt 12 4 = false from rfl, Br_dec, Br_nbeq, Br_bne, Br_beq, Br_not, tmod4, tmod8]
  by_cases h : restP 12 m c imm
  · rw [if_pos h]
    obtain ⟨hc, hz, hi⟩ : c = 0 ∧ imm = 0 ∧ (True) := h
    (repeat' split) <;> first | rfl | omega
  · rw [if_neg h]
    replace h : ¬ (c = 0 ∧ imm = 0 ∧ (True)) := h
    simp only [true_and, and_true] at h
    (repeat' split) <;> first | rfl | omega
set_option maxRecDepth 1000000 in
theorem rrun_13 (d n m a c imm : Int) : runI Try.prog noE 40 9 [insV 13 d n m a c imm] = refM 13 d n m a c imm errV okV := by kernel_rfl
theorem restR_13 {R : Type} (m c imm : Int) (E Z : R) : restR 13 m c imm E Z = if restP 13 m c imm then Z else E := by
  simp only [restR, immR, m3R, cR, c13R, show bt 13 4 = false from rfl, Br_dec, Br_nbeq, Br_bne, Br_beq, Br_not, tmod4, tmod8]
  by_cases h : restP 13 m c imm
  · rw [if_pos h]
    obtain ⟨hc, hz, hi⟩ : c = 0 ∧ imm = 0 ∧ (True) := h
    (repeat' split) <;> first | rfl | omega
  · rw [if_neg h]
    replace h : ¬ (c = 0 ∧ imm = 0 ∧ (True)) := h
    simp only [true_and, and_true] at h
    (repeat' split) <;> first | rfl | omega
set_option maxRecDepth 1000000 in
theorem rrun_14 (d n m a c imm : Int) : runI Try.prog noE 40 9 [insV 14 d n m a c imm] = refM 14 d n m a c imm errV okV := by kernel_rfl
theorem restR_14 {R : Type} (m c imm : Int) (E Z : R) : restR 14 m c imm E Z = if restP 14 m c imm then Z else E := by
  simp only [restR, immR, m3R, cR, c13R, show bt 14 4 = false from rfl, Br_dec, Br_nbeq, Br_bne, Br_beq, Br_not, tmod4, tmod8]
  by_cases h : restP 14 m c imm
  · rw [if_pos h]
    obtain ⟨hc, hz, hi⟩ : c = 0 ∧ imm = 0 ∧ (True) := h
    (repeat' split) <;> first | rfl | omega
  · rw [if_neg h]
    replace h : ¬ (c = 0 ∧ imm = 0 ∧ (True)) := h
    simp only [true_and, and_true] at h
    (repeat' split) <;> first | rfl | omega
set_option maxRecDepth 1000000 in
theorem rrun_15 (d n m a c imm : Int) : runI Try.prog noE 40 9 [insV 15 d n m a c imm] = refM 15 d n m a c imm errV okV := by kernel_rfl
theorem restR_15 {R : Type} (m c imm : Int) (E Z : R) : restR 15 m c imm E Z = if restP 15 m c imm then Z else E := by
  simp only [restR, immR, m3R, cR, c13R, show bt 15 4 = false from rfl, Br_dec, Br_nbeq, Br_bne, Br_beq, Br_not, tmod4, tmod8]
  by_cases h : restP 15 m c imm
  · rw [if_pos h]
    obtain ⟨hc, hz, hi⟩ : c = 0 ∧ imm = 0 ∧ (True) := h
    (repeat' split) <;> first | rfl | omega
  · rw [if_neg h]
    replace h : ¬ (c = 0 ∧ imm = 0 ∧ (True)) := h
    simp only [true_and, and_true] at h
    (repeat' split) <;> first | rfl | omega
set_option maxRecDepth 1000000 in
theorem rrun_16 (d n m a c imm : Int) : runI Try.prog noE 40 9 [insV 16 d n m a c imm] = refM 16 d n m a c imm errV okV := by kernel_rfl
theorem restR_16 {R : Type} (m c imm : Int) (E Z : R) : restR 16 m c imm E Z = if restP 16 m c imm then Z else E := by
  simp only [restR, immR, m3R, cR, c13R, show bt 16 4 = false from rfl, Br_dec, Br_nbeq, Br_bne, Br_beq, Br_not, tmod4, tmod8]
  by_cases h : restP 16 m c imm
  · rw [if_pos h]
    obtain ⟨hc, hz, hi⟩ : c = 0 ∧ imm = 0 ∧ (True) := h
    (repeat' split) <;> first | rfl | omega
  · rw [if_neg h]
    replace h : ¬ (c = 0 ∧ imm = 0 ∧ (True)) := h
    simp only [true_and, and_true] at h
    (repeat' split) <;> first | rfl | omega
set_option maxRecDepth 1000000 in
theorem rrun_17 (d n m a c imm : Int) : runI Try.prog noE 40 9 [insV 17 d n m a c imm] = refM 17 d n m a c imm errV okV := by kernel_rfl
theorem restR_17 {R : Type} (m c imm : Int) (E Z : R) : restR 17 m c imm E Z = if restP 17 m c imm then Z else E := by
  simp only [restR, immR, m3R, cR, c13R, show bt 17 4 = false from rfl, Br_dec, Br_nbeq, Br_bne, Br_beq, Br_not, tmod4, tmod8]
  by_cases h : restP 17 m c imm
  · rw [if_pos h]
    obtain ⟨hc, hz, hi⟩ : c = 0 ∧ imm = 0 ∧ (True) := h
    (repeat' split) <;> first | rfl | omega
  · rw [if_neg h]
    replace h : ¬ (c = 0 ∧ imm = 0 ∧ (True)) := h
    simp only [true_and, and_true] at h
    (repeat' split) <;> first | rfl | omega
set_option maxRecDepth 1000000 in
theorem rrun_18 (d n m a c imm : Int) : runI Try.prog noE 40 9 [insV 18 d n m a c imm] = refM 18 d n m a c imm errV okV := by kernel_rfl
theorem restR_18 {R : Type} (m c imm : Int) (E Z : R) : restR 18 m c imm E Z = if restP 18 m c imm then Z else E := by
  simp only [restR, immR, m3R, cR, c13R, show bt 18 4 = false from rfl, Br_dec, Br_nbeq, Br_bne, Br_beq, Br_not, tmod4, tmod8]
  by_cases h : restP 18 m c imm
  · rw [if_pos h]
    obtain ⟨hc, hz, hi⟩ : c = 0 ∧ imm = 0 ∧ (True) := h
    (repeat' split) <;> first | rfl | omega
  · rw [if_neg h]
    replace h : ¬ (c = 0 ∧ imm = 0 ∧ (True)) := h
    simp only [true_and, and_true] at h
    (repeat' split) <;> first | rfl | omega
set_option maxRecDepth 1000000 in
theorem rrun_19 (d n m a c imm : Int) : runI Try.prog noE 40 9 [insV 19 d n m a c imm] = refM 19 d n m a c imm errV okV := by kernel_rfl
theorem restR_19 {R : Type} (m c imm : Int) (E Z : R) : restR 19 m c imm E Z = if restP 19 m c imm then Z else E := by
  simp only [restR, immR, m3R, cR, c13R, show bt 19 4 = true from rfl, Br_dec, Br_nbeq, Br_bne, Br_beq, Br_not, tmod4, tmod8]
  by_cases h : restP 19 m c imm
  · rw [if_pos h]
    obtain ⟨hc, hz, hi⟩ : (0 ≤ c ∧ c ≤ 15) ∧ imm = 0 ∧ (True) := h
    (repeat' split) <;> first | rfl | omega
  · rw [if_neg h]
    replace h : ¬ ((0 ≤ c ∧ c ≤ 15) ∧ imm = 0 ∧ (True)) := h
    simp only [true_and, and_true] at h
    (repeat' split) <;> first | rfl | omega
set_option maxRecDepth 1000000 in
theorem rrun_20 (d n m a c imm : Int) : runI Try.prog noE 40 9 [insV 20 d n m a c imm] = refM 20 d n m a c imm errV okV := by kernel_rfl
theorem restR_20 {R : Type} (m c imm : Int) (E Z : R) : restR 20 m c imm E Z = if restP 20 m c imm then Z else E := by
  simp only [restR, immR, m3R, cR, c13R, show bt 20 4 = false from rfl, Br_dec, Br_nbeq, Br_bne, Br_beq, Br_not, tmod4, tmod8]
  by_cases h : restP 20 m c imm
  · rw [if_pos h]
    obtain ⟨hc, hz, hi⟩ : c = 0 ∧ True ∧ (imm % 4 = 0 ∧ -134217728 ≤ imm ∧ imm < 134217728) := h
    (repeat' split) <;> first | rfl | omega
  · rw [if_neg h]
    replace h : ¬ (c = 0 ∧ True ∧ (imm % 4 = 0 ∧ -134217728 ≤ imm ∧ imm < 134217728)) := h
    simp only [true_and, and_true] at h
    (repeat' split) <;> first | rfl | omega
set_option maxRecDepth 1000000 in
theorem rrun_21 (d n m a c imm : Int) : runI Try.prog noE 40 9 [insV 21 d n m a c imm] = refM 21 d n m a c imm errV okV := by kernel_rfl
theorem restR_21 {R : Type} (m c imm : Int) (E Z : R) : restR 21 m c imm E Z = if restP 21 m c imm then Z else E := by
  simp only [restR, immR, m3R, cR, c13R, show bt 21 4 = true from rfl, Br_dec, Br_nbeq, Br_bne, Br_beq, Br_not, tmod4, tmod8]
  by_cases h : restP 21 m c imm
  · rw [if_pos h]
    obtain ⟨hc, hz, hi⟩ : (0 ≤ c ∧ c ≤ 15) ∧ True ∧ (imm % 4 = 0 ∧ -1048576 ≤ imm ∧ imm < 1048576 ∧ c ≤ 13) := h
    (repeat' split) <;> first | rfl | omega
  · rw [if_neg h]
    replace h : ¬ ((0 ≤ c ∧ c ≤ 15) ∧ True ∧ (imm % 4 = 0 ∧ -1048576 ≤ imm ∧ imm < 1048576 ∧ c ≤ 13)) := h
    simp only [true_and, and_true] at h
    (repeat' split) <;> first | rfl | omega
set_option maxRecDepth 1000000 in
theorem rrun_22 (d n m a c imm : Int) : runI Try.prog noE 40 9 [insV 22 d n m a c imm] = refM 22 d n m a c imm errV okV := by kernel_rfl
theorem restR_22 {R : Type} (m c imm : Int) (E Z : R) : restR 22 m c imm E Z = if restP 22 m c imm then Z else E := by
  simp only [restR, immR, m3R, cR, c13R, show bt 22 4 = false from rfl, Br_dec, Br_nbeq, Br_bne, Br_beq, Br_not, tmod4, tmod8]
  by_cases h : restP 22 m c imm
  · rw [if_pos h]
    obtain ⟨hc, hz, hi⟩ : c = 0 ∧ True ∧ (imm % 4 = 0 ∧ -1048576 ≤ imm ∧ imm < 1048576) := h
    (repeat' split) <;> first | rfl | omega
  · rw [if_neg h]
    replace h : ¬ (c = 0 ∧ True ∧ (imm % 4 = 0 ∧ -1048576 ≤ imm ∧ imm < 1048576)) := h
    simp only [true_and, and_true] at h
    (repeat' split) <;> first | rfl | omega
set_option maxRecDepth 1000000 in
theorem rrun_23 (d n m a c imm : Int) : runI Try.prog noE 40 9 [insV 23 d n m a c imm] = refM 23 d n m a c imm errV okV := by kernel_rfl
theorem restR_23 {R : Type} (m c imm : Int) (E Z : R) : restR 23 m c imm E Z = if restP 23 m c imm then Z else E := by
  simp only [restR, immR, m3R, cR, c13R, show bt 23 4 = false from rfl, Br_dec, Br_nbeq, Br_bne, Br_beq, Br_not, tmod4, tmod8]
  by_cases h : restP 23 m c imm
  · rw [if_pos h]
    obtain ⟨hc, hz, hi⟩ : c = 0 ∧ True ∧ (imm % 4 = 0 ∧ -1048576 ≤ imm ∧ imm < 1048576) := h
    (repeat' split) <;> first | rfl | omega
  · rw [if_neg h]
    replace h : ¬ (c = 0 ∧ True ∧ (imm % 4 = 0 ∧ -1048576 ≤ imm ∧ imm < 1048576)) := h
    simp only [true_and, and_true] at h
    (repeat' split) <;> first | rfl | omega
set_option maxRecDepth 1000000 in
theorem rrun_24 (d n m a c imm : Int) : runI Try.prog noE 40 9 [insV 24 d n m a c imm] = refM 24 d n m a c imm errV okV := by kernel_rfl
theorem restR_24 {R : Type} (m c imm : Int) (E Z : R) : restR 24 m c imm E Z = if restP 24 m c imm then Z else E := by
  simp only [restR, immR, m3R, cR, c13R, show bt 24 4 = false from rfl, Br_dec, Br_nbeq, Br_bne, Br_beq, Br_not, tmod4, tmod8]
  by_cases h : restP 24 m c imm
  · rw [if_pos h]
    obtain ⟨hc, hz, hi⟩ : c = 0 ∧ True ∧ (imm % 4 = 0 ∧ -134217728 ≤ imm ∧ imm < 134217728) := h
    (repeat' split) <;> first | rfl | omega
  · rw [if_neg h]
    replace h : ¬ (c = 0 ∧ True ∧ (imm % 4 = 0 ∧ -134217728 ≤ imm ∧ imm < 134217728)) := h
    simp only [true_and, and_true] at h
    (repeat' split) <;> first | rfl | omega
set_option maxRecDepth 1000000 in
theorem rrun_25 (d n m a c imm : Int) : runI Try.prog noE 40 9 [insV 25 d n m a c imm] = refM 25 d n m a c imm errV okV := by kernel_rfl
theorem restR_25 {R : Type} (m c imm : Int) (E Z : R) : restR 25 m c imm E Z = if restP 25 m c imm then Z else E := by
  simp only [restR, immR, m3R, cR, c13R, show bt 25 4 = false from rfl, Br_dec, Br_nbeq, Br_bne, Br_beq, Br_not, tmod4, tmod8]
  by_cases h : restP 25 m c imm
  · rw [if_pos h]
    obtain ⟨hc, hz, hi⟩ : c = 0 ∧ imm = 0 ∧ (True) := h
    (repeat' split) <;> first | rfl | omega
  · rw [if_neg h]
    replace h : ¬ (c = 0 ∧ imm = 0 ∧ (True)) := h
    simp only [true_and, and_true] at h
    (repeat' split) <;> first | rfl | omega
set_option maxRecDepth 1000000 in
theorem rrun_26 (d n m a c imm : Int) : runI Try.prog noE 40 9 [insV 26 d n m a c imm] = refM 26 d n m a c imm errV okV := by kernel_rfl
theorem restR_26 {R : Type} (m c imm : Int) (E Z : R) : restR 26 m c imm E Z = if restP 26 m c imm then Z else E := by
  simp only [restR, immR, m3R, cR, c13R, show bt 26 4 = false from rfl, Br_dec, Br_nbeq, Br_bne, Br_beq, Br_not, tmod4, tmod8]
  by_cases h : restP 26 m c imm
  · rw [if_pos h]
    obtain ⟨hc, hz, hi⟩ : c = 0 ∧ imm = 0 ∧ (True) := h
    (repeat' split) <;> first | rfl | omega
  · rw [if_neg h]
    replace h : ¬ (c = 0 ∧ imm = 0 ∧ (True)) := h
    simp only [true_and, and_true] at h
    (repeat' split) <;> first | rfl | omega
set_option maxRecDepth 1000000 in
theorem rrun_27 (d n m a c imm : Int) : runI Try.prog noE 40 9 [insV 27 d n m a c imm] = refM 27 d n m a c imm errV okV := by kernel_rfl
theorem restR_27 {R : Type} (m c imm : Int) (E Z : R) : restR 27 m c imm E Z = if restP 27 m c imm then Z else E := by
  simp only [restR, immR, m3R, cR, c13R, show bt 27 4 = false from rfl, Br_dec, Br_nbeq, Br_bne, Br_beq, Br_not, tmod4, tmod8]
  by_cases h : restP 27 m c imm
  · rw [if_pos h]
    obtain ⟨hc, hz, hi⟩ : c = 0 ∧ imm = 0 ∧ (True) := h
    (repeat' split) <;> first | rfl | omega
  · rw [if_neg h]
    replace h : ¬ (c = 0 ∧ imm = 0 ∧ (True)) := h
    simp only [true_and, and_true] at h
    (repeat' split) <;> first | rfl | omega
set_option maxRecDepth 1000000 in
theorem rrun_28 (d n m a c imm : Int) : runI Try.prog noE 40 9 [insV 28 d n m a c imm] = refM 28 d n m a c imm errV okV := by kernel_rfl
theorem restR_28 {R : Type} (m c imm : Int) (E Z : R) : restR 28 m c imm E Z = if restP 28 m c imm then Z else E := by
  simp only [restR, immR, m3R, cR, c13R, show bt 28 4 = false from rfl, Br_dec, Br_nbeq, Br_bne, Br_beq, Br_not, tmod4, tmod8]
  by_cases h : restP 28 m c imm
  · rw [if_pos h]
    obtain ⟨hc, hz, hi⟩ : c = 0 ∧ True ∧ (0 ≤ imm ∧ imm < 32768 ∧ imm % 8 = 0) := h
    (repeat' split) <;> first | rfl | omega
  · rw [if_neg h]
    replace h : ¬ (c = 0 ∧ True ∧ (0 ≤ imm ∧ imm < 32768 ∧ imm % 8 = 0)) := h
    simp only [true_and, and_true] at h
    (repeat' split) <;> first | rfl | omega
set_option maxRecDepth 1000000 in
theorem rrun_29 (d n m a c imm : Int) : runI Try.prog noE 40 9 [insV 29 d n m a c imm] = refM 29 d n m a c imm errV okV := by kernel_rfl
theorem restR_29 {R : Type} (m c imm : Int) (E Z : R) : restR 29 m c imm E Z = if restP 29 m c imm then Z else E := by
  simp only [restR, immR, m3R, cR, c13R, show bt 29 4 = false from rfl, Br_dec, Br_nbeq, Br_bne, Br_beq, Br_not, tmod4, tmod8]
  by_cases h : restP 29 m c imm
  · rw [if_pos h]
    obtain ⟨hc, hz, hi⟩ : c = 0 ∧ True ∧ (0 ≤ imm ∧ imm < 32768 ∧ imm % 8 = 0) := h
    (repeat' split) <;> first | rfl | omega
  · rw [if_neg h]
    replace h : ¬ (c = 0 ∧ True ∧ (0 ≤ imm ∧ imm < 32768 ∧ imm % 8 = 0)) := h
    simp only [true_and, and_true] at h
    (repeat' split) <;> first | rfl | omega
set_option maxRecDepth 1000000 in
theorem rrun_30 (d n m a c imm : Int) : runI Try.prog noE 40 9 [insV 30 d n m a c imm] = refM 30 d n m a c imm errV okV := by kernel_rfl
theorem restR_30 {R : Type} (m c imm : Int) (E Z : R) : restR 30 m c imm E Z = if restP 30 m c imm then Z else E := by
  simp only [restR, immR, m3R, cR, c13R, show bt 30 4 = false from rfl, Br_dec, Br_nbeq, Br_bne, Br_beq, Br_not, tmod4, tmod8]
  by_cases h : restP 30 m c imm
  · rw [if_pos h]
    obtain ⟨hc, hz, hi⟩ : c = 0 ∧ True ∧ (0 ≤ imm ∧ imm < 4096) := h
    (repeat' split) <;> first | rfl | omega
  · rw [if_neg h]
    replace h : ¬ (c = 0 ∧ True ∧ (0 ≤ imm ∧ imm < 4096)) := h
    simp only [true_and, and_true] at h
    (repeat' split) <;> first | rfl | omega
set_option maxRecDepth 1000000 in
theorem rrun_31 (d n m a c imm : Int) : runI Try.prog noE 40 9 [insV 31 d n m a c imm] = refM 31 d n m a c imm errV okV := by kernel_rfl
theorem restR_31 {R : Type} (m c imm : Int) (E Z : R) : restR 31 m c imm E Z = if restP 31 m c imm then Z else E := by
  simp only [restR, immR, m3R, cR, c13R, show bt 31 4 = false from rfl, Br_dec, Br_nbeq, Br_bne, Br_beq, Br_not, tmod4, tmod8]
  by_cases h : restP 31 m c imm
  · rw [if_pos h]
    obtain ⟨hc, hz, hi⟩ : c = 0 ∧ imm = 0 ∧ (True) := h
    (repeat' split) <;> first | rfl | omega
  · rw [if_neg h]
    replace h : ¬ (c = 0 ∧ imm = 0 ∧ (True)) := h
    simp only [true_and, and_true] at h
    (repeat' split) <;> first | rfl | omega
set_option maxRecDepth 1000000 in
theorem rrun_32 (d n m a c imm : Int) : runI Try.prog noE 40 9 [insV 32 d n m a c imm] = refM 32 d n m a c imm errV okV := by kernel_rfl
theorem restR_32 {R : Type} (m c imm : Int) (E Z : R) : restR 32 m c imm E Z = if restP 32 m c imm then Z else E := by
  simp only [restR, immR, m3R, cR, c13R, show bt 32 4 = false from rfl, Br_dec, Br_nbeq, Br_bne, Br_beq, Br_not, tmod4, tmod8]
  by_cases h : restP 32 m c imm
  · rw [if_pos h]
    obtain ⟨hc, hz, hi⟩ : c = 0 ∧ imm = 0 ∧ (True) := h
    (repeat' split) <;> first | rfl | omega
  · rw [if_neg h]
    replace h : ¬ (c = 0 ∧ imm = 0 ∧ (True)) := h
    simp only [true_and, and_true] at h
    (repeat' split) <;> first | rfl | omega
set_option maxRecDepth 1000000 in
theorem rrun_33 (d n m a c imm : Int) : runI Try.prog noE 40 9 [insV 33 d n m a c imm] = refM 33 d n m a c imm errV okV := by kernel_rfl
theorem restR_33 {R : Type} (m c imm : Int) (E Z : R) : restR 33 m c imm E Z = if restP 33 m c imm then Z else E := by
  simp only [restR, immR, m3R, cR, c13R, show bt 33 4 = false from rfl, Br_dec, Br_nbeq, Br_bne, Br_beq, Br_not, tmod4, tmod8]
  by_cases h : restP 33 m c imm
  · rw [if_pos h]
    obtain ⟨hc, hz, hi⟩ : c = 0 ∧ imm = 0 ∧ (True) := h
    (repeat' split) <;> first | rfl | omega
  · rw [if_neg h]
    replace h : ¬ (c = 0 ∧ imm = 0 ∧ (True)) := h
    simp only [true_and, and_true] at h
    (repeat' split) <;> first | rfl | omega
set_option maxRecDepth 1000000 in
theorem rrun_34 (d n m a c imm : Int) : runI Try.prog noE 40 9 [insV 34 d n m a c imm] = refM 34 d n m a c imm errV okV := by kernel_rfl
theorem restR_34 {R : Type} (m c imm : Int) (E Z : R) : restR 34 m c imm E Z = if restP 34 m c imm then Z else E := by
  simp only [restR, immR, m3R, cR, c13R, show bt 34 4 = false from rfl, Br_dec, Br_nbeq, Br_bne, Br_beq, Br_not, tmod4, tmod8]
  by_cases h : restP 34 m c imm
  · rw [if_pos h]
    obtain ⟨hc, hz, hi⟩ : c = 0 ∧ imm = 0 ∧ (True) := h
    (repeat' split) <;> first | rfl | omega
  · rw [if_neg h]
    replace h : ¬ (c = 0 ∧ imm = 0 ∧ (True)) := h
    simp only [true_and, and_true] at h
    (repeat' split) <;> first | rfl | omega
set_option maxRecDepth 1000000 in
theorem rrun_35 (d n m a c imm : Int) : runI Try.prog noE 40 9 [insV 35 d n m a c imm] = refM 35 d n m a c imm errV okV := by kernel_rfl
theorem restR_35 {R : Type} (m c imm : Int) (E Z : R) : restR 35 m c imm E Z = if restP 35 m c imm then Z else E := by
  simp only [restR, immR, m3R, cR, c13R, show bt 35 4 = false from rfl, Br_dec, Br_nbeq, Br_bne, Br_beq, Br_not, tmod4, tmod8]
  by_cases h : restP 35 m c imm
  · rw [if_pos h]
    obtain ⟨hc, hz, hi⟩ : c = 0 ∧ imm = 0 ∧ (True) := h
    (repeat' split) <;> first | rfl | omega
  · rw [if_neg h]
    replace h : ¬ (c = 0 ∧ imm = 0 ∧ (True)) := h
    simp only [true_and, and_true] at h
    (repeat' split) <;> first | rfl | omega
set_option maxRecDepth 1000000 in
theorem rrun_36 (d n m a c imm : Int) : runI Try.prog noE 40 9 [insV 36 d n m a c imm] = refM 36 d n m a c imm errV okV := by kernel_rfl
theorem restR_36 {R : Type} (m c imm : Int) (E Z : R) : restR 36 m c imm E Z = if restP 36 m c imm then Z else E := by
  simp only [restR, immR, m3R, cR, c13R, show bt 36 4 = false from rfl, Br_dec, Br_nbeq, Br_bne, Br_beq, Br_not, tmod4, tmod8]
  by_cases h : restP 36 m c imm
  · rw [if_pos h]
    obtain ⟨hc, hz, hi⟩ : c = 0 ∧ imm = 0 ∧ (True) := h
    (repeat' split) <;> first | rfl | omega
  · rw [if_neg h]
    replace h : ¬ (c = 0 ∧ imm = 0 ∧ (True)) := h
    simp only [true_and, and_true] at h
    (repeat' split) <;> first | rfl | omega
set_option maxRecDepth 1000000 in
theorem rrun_37 (d n m a c imm : Int) : runI Try.prog noE 40 9 [insV 37 d n m a c imm] = refM 37 d n m a c imm errV okV := by kernel_rfl
theorem restR_37 {R : Type} (m c imm : Int) (E Z : R) : restR 37 m c imm E Z = if restP 37 m c imm then Z else E := by
  simp only [restR, immR, m3R, cR, c13R, show bt 37 4 = false from rfl, Br_dec, Br_nbeq, Br_bne, Br_beq, Br_not, tmod4, tmod8]
  by_cases h : restP 37 m c imm
  · rw [if_pos h]
    obtain ⟨hc, hz, hi⟩ : c = 0 ∧ True ∧ (0 ≤ imm ∧ imm ≤ 2) := h
    (repeat' split) <;> first | rfl | omega
  · rw [if_neg h]
    replace h : ¬ (c = 0 ∧ True ∧ (0 ≤ imm ∧ imm ≤ 2)) := h
    simp only [true_and, and_true] at h
    (repeat' split) <;> first | rfl | omega
set_option maxRecDepth 1000000 in
theorem rrun_38 (d n m a c imm : Int) : runI Try.prog noE 40 9 [insV 38 d n m a c imm] = refM 38 d n m a c imm errV okV := by kernel_rfl
theorem restR_38 {R : Type} (m c imm : Int) (E Z : R) : restR 38 m c imm E Z = if restP 38 m c imm then Z else E := by
  simp only [restR, immR, m3R, cR, c13R, show bt 38 4 = false from rfl, Br_dec, Br_nbeq, Br_bne, Br_beq, Br_not, tmod4, tmod8]
  by_cases h : restP 38 m c imm
  · rw [if_pos h]
    obtain ⟨hc, hz, hi⟩ : c = 0 ∧ imm = 0 ∧ (True) := h
    (repeat' split) <;> first | rfl | omega
  · rw [if_neg h]
    replace h : ¬ (c = 0 ∧ imm = 0 ∧ (True)) := h
    simp only [true_and, and_true] at h
    (repeat' split) <;> first | rfl | omega
set_option maxRecDepth 1000000 in
theorem rrun_39 (d n m a c imm : Int) : runI Try.prog noE 40 9 [insV 39 d n m a c imm] = refM 39 d n m a c imm errV okV := by kernel_rfl
theorem restR_39 {R : Type} (m c imm : Int) (E Z : R) : restR 39 m c imm E Z = if restP 39 m c imm then Z else E := by
  simp only [restR, immR, m3R, cR, c13R, show bt 39 4 = false from rfl, Br_dec, Br_nbeq, Br_bne, Br_beq, Br_not, tmod4, tmod8]
  by_cases h : restP 39 m c imm
  · rw [if_pos h]
    obtain ⟨hc, hz, hi⟩ : c = 0 ∧ imm = 0 ∧ (True) := h
    (repeat' split) <;> first | rfl | omega
  · rw [if_neg h]
    replace h : ¬ (c = 0 ∧ imm = 0 ∧ (True)) := h
    simp only [true_and, and_true] at h
    (repeat' split) <;> first | rfl | omega
set_option maxRecDepth 1000000 in
theorem rrun_40 (d n m a c imm : Int) : runI Try.prog noE 40 9 [insV 40 d n m a c imm] = refM 40 d n m a c imm errV okV := by kernel_rfl
theorem restR_40 {R : Type} (m c imm : Int) (E Z : R) : restR 40 m c imm E Z = if restP 40 m c imm then Z else E := by
  simp only [restR, immR, m3R, cR, c13R, show bt 40 4 = false from rfl, Br_dec, Br_nbeq, Br_bne, Br_beq, Br_not, tmod4, tmod8]
  by_cases h : restP 40 m c imm
  · rw [if_pos h]
    obtain ⟨hc, hz, hi⟩ : c = 0 ∧ imm = 0 ∧ (True) := h
    (repeat' split) <;> first | rfl | omega
  · rw [if_neg h]
    replace h : ¬ (c = 0 ∧ imm = 0 ∧ (True)) := h
    simp only [true_and, and_true] at h
    (repeat' split) <;> first | rfl | omega
set_option maxRecDepth 1000000 in
theorem rrun_41 (d n m a c imm : Int) : runI Try.prog noE 40 9 [insV 41 d n m a c imm] = refM 41 d n m a c imm errV okV := by kernel_rfl
theorem restR_41 {R : Type} (m c imm : Int) (E Z : R) : restR 41 m c imm E Z = if restP 41 m c imm then Z else E := by
  simp only [restR, immR, m3R, cR, c13R, show bt 41 4 = false from rfl, Br_dec, Br_nbeq, Br_bne, Br_beq, Br_not, tmod4, tmod8]
  by_cases h : restP 41 m c imm
  · rw [if_pos h]
    obtain ⟨hc, hz, hi⟩ : c = 0 ∧ imm = 0 ∧ (True) := h
    (repeat' split) <;> first | rfl | omega
  · rw [if_neg h]
    replace h : ¬ (c = 0 ∧ imm = 0 ∧ (True)) := h
    simp only [true_and, and_true] at h
    (repeat' split) <;> first | rfl | omega
set_option maxRecDepth 1000000 in
theorem rrun_42 (d n m a c imm : Int) : runI Try.prog noE 40 9 [insV 42 d n m a c imm] = refM 42 d n m a c imm errV okV := by kernel_rfl
theorem restR_42 {R : Type} (m c imm : Int) (E Z : R) : restR 42 m c imm E Z = if restP 42 m c imm then Z else E := by
  simp only [restR, immR, m3R, cR, c13R, show bt 42 4 = false from rfl, Br_dec, Br_nbeq, Br_bne, Br_beq, Br_not, tmod4, tmod8]
  by_cases h : restP 42 m c imm
  · rw [if_pos h]
    obtain ⟨hc, hz, hi⟩ : c = 0 ∧ True ∧ (0 ≤ imm ∧ imm < 65536) := h
    (repeat' split) <;> first | rfl | omega
  · rw [if_neg h]
    replace h : ¬ (c = 0 ∧ True ∧ (0 ≤ imm ∧ imm < 65536)) := h
    simp only [true_and, and_true] at h
    (repeat' split) <;> first | rfl | omega
theorem rest_in {R : Type} (m c imm : Int) (E Z : R) : ∀ k : Nat, k < 43 → restR k m c imm E Z = if restP k m c imm then Z else E
  | 0, _ => restR_0 ..
  | 1, _ => restR_1 ..
  | 2, _ => restR_2 ..
  | 3, _ => restR_3 ..
  | 4, _ => restR_4 ..
  | 5, _ => restR_5 ..
  | 6, _ => restR_6 ..
  | 7, _ => restR_7 ..
  | 8, _ => restR_8 ..
  | 9, _ => restR_9 ..
  | 10, _ => restR_10 ..
  | 11, _ => restR_11 ..
  | 12, _ => restR_12 ..
  | 13, _ => restR_13 ..
  | 14, _ => restR_14 ..
  | 15, _ => restR_15 ..
  | 16, _ => restR_16 ..
  | 17, _ => restR_17 ..
  | 18, _ => restR_18 ..
  | 19, _ => restR_19 ..
  | 20, _ => restR_20 ..
  | 21, _ => restR_21 ..
  | 22, _ => restR_22 ..
  | 23, _ => restR_23 ..
  | 24, _ => restR_24 ..
  | 25, _ => restR_25 ..
  | 26, _ => restR_26 ..
  | 27, _ => restR_27 ..
  | 28, _ => restR_28 ..
  | 29, _ => restR_29 ..
  | 30, _ => restR_30 ..
  | 31, _ => restR_31 ..
  | 32, _ => restR_32 ..
  | 33, _ => restR_33 ..
  | 34, _ => restR_34 ..
  | 35, _ => restR_35 ..
  | 36, _ => restR_36 ..
  | 37, _ => restR_37 ..
  | 38, _ => restR_38 ..
  | 39, _ => restR_39 ..
  | 40, _ => restR_40 ..
  | 41, _ => restR_41 ..
  | 42, _ => restR_42 ..
  | k + 43, h => absurd h (by omega)
theorem regR_eq {R : Type} (b : Bool) (v : Int) (E Z : R) : regR b v E Z = if rgP b v then Z else E := by
  unfold regR
  by_cases h : rgP b v
  · rw [if_pos h]
    cases b <;> simp only [rgP] at h <;> dsimp only <;> simp only [Br_dec, Br_nbeq] <;> (repeat' split) <;> first | rfl | omega
  · rw [if_neg h]
    cases b <;> simp only [rgP] at h <;> dsimp only <;> simp only [Br_dec, Br_nbeq] <;> (repeat' split) <;> first | rfl | omega
theorem refM_eq {R : Type} (k : Nat) (hk : k < 43) (d n m a c imm : Int) (E Z : R) : refM k d n m a c imm E Z = if okP k d n m a c imm then Z else E := by
  have e : refM k d n m a c imm E Z = regR (bt k 0) d E (regR (bt k 1) n E (regR (bt k 2) m E (regR (bt k 3) a E (restR k m c imm E Z)))) := rfl
  rw [e, rest_in m c imm E Z k hk]
  simp only [regR_eq]
  by_cases h1 : rgP (bt k 0) d <;> by_cases h2 : rgP (bt k 1) n <;> by_cases h3 : rgP (bt k 2) m <;> by_cases h4 : rgP (bt k 3) a <;> by_cases h5 : restP k m c imm <;> simp only [h1, h2, h3, h4, h5, if_true, if_false]
  · exact (if_pos ⟨h1, h2, h3, h4, h5.1, h5.2.1, h5.2.2⟩).symm
  all_goals
    refine (if_neg fun h => ?_).symm
    obtain ⟨g1, g2, g3, g4, g5, g6, g7⟩ := h
    first | exact h1 g1 | exact h2 g2 | exact h3 g3 | exact h4 g4 | exact h5 ⟨g5, g6, g7⟩
theorem rrun_in (d n m a c imm : Int) : ∀ k : Nat, k < 43 → runI Try.prog noE 40 9 [insV (k : Nat) d n m a c imm] = refM k d n m a c imm errV okV
  | 0, _ => rrun_0 ..
  | 1, _ => rrun_1 ..
  | 2, _ => rrun_2 ..
  | 3, _ => rrun_3 ..
  | 4, _ => rrun_4 ..
  | 5, _ => rrun_5 ..
  | 6, _ => rrun_6 ..
  | 7, _ => rrun_7 ..
  | 8, _ => rrun_8 ..
  | 9, _ => rrun_9 ..
  | 10, _ => rrun_10 ..
  | 11, _ => rrun_11 ..
  | 12, _ => rrun_12 ..
  | 13, _ => rrun_13 ..
  | 14, _ => rrun_14 ..
  | 15, _ => rrun_15 ..
  | 16, _ => rrun_16 ..
  | 17, _ => rrun_17 ..
  | 18, _ => rrun_18 ..
  | 19, _ => rrun_19 ..
  | 20, _ => rrun_20 ..
  | 21, _ => rrun_21 ..
  | 22, _ => rrun_22 ..
  | 23, _ => rrun_23 ..
  | 24, _ => rrun_24 ..
  | 25, _ => rrun_25 ..
  | 26, _ => rrun_26 ..
  | 27, _ => rrun_27 ..
  | 28, _ => rrun_28 ..
  | 29, _ => rrun_29 ..
  | 30, _ => rrun_30 ..
  | 31, _ => rrun_31 ..
  | 32, _ => rrun_32 ..
  | 33, _ => rrun_33 ..
  | 34, _ => rrun_34 ..
  | 35, _ => rrun_35 ..
  | 36, _ => rrun_36 ..
  | 37, _ => rrun_37 ..
  | 38, _ => rrun_38 ..
  | 39, _ => rrun_39 ..
  | 40, _ => rrun_40 ..
  | 41, _ => rrun_41 ..
  | 42, _ => rrun_42 ..
  | k + 43, h => absurd h (by omega)
theorem rout_eq (op d n m a c imm : Int) (K : Res → Prop) : evTo Try.prog noE 40 0 (fun _ => False) [0, 0] (codeOf Try.prog 9) ⟨(funcOf Try.prog 9).ntmps, zipArgs 0 [insV op d n m a c imm], []⟩ (bodyK False Try.prog (funcOf Try.prog 9) fun r _ => K r) =
    Br (decide (op < 0)) (K (.ret (.raw (.int .i64 1)))) (Br (decide (op > 42)) (K (.ret (.raw (.int .i64 1)))) False) := by kernel_rfl
theorem rchk_ok (op d n m a c imm : Int) : CallOk Try.prog 9 [insV op d n m a c imm] [] fun r _ => r = .ret (.raw (.int .i64 (chkV op d n m a c imm))) := by
  by_cases h0 : 0 ≤ op ∧ op ≤ 42
  · refine runI_ok noE_ok names mixed (n := 40) ?_
    obtain ⟨k, rfl⟩ := Int.eq_ofNat_of_zero_le h0.1
    rw [rrun_in d n m a c imm k (by omega), refM_eq k (by omega)]
    by_cases h : okP k d n m a c imm
    · rw [if_pos h]
      have : chkV (k : Nat) d n m a c imm = 0 := if_pos ⟨h0, h⟩
      rw [this]; rfl
    · rw [if_neg h]
      have : chkV (k : Nat) d n m a c imm = 1 := if_neg fun hh => h hh.2
      rw [this]; rfl
  · have : chkV op d n m a c imm = 1 := if_neg fun hh => h0 hh.1
    rw [this]
    refine CallOk.fnB names (by kernel_rfl) ?_
    refine CodeB.mono (K := bodyK False Try.prog (funcOf Try.prog 9) fun r _ => r = .ret (.raw (.int .i64 1))) ?_ fun _ _ h => h
    refine evTo_ok noE_ok names mixed (n := 40) (b := 0) (Z := fun _ => False) [0, 0] _ _ _ (fun st hz => hz.elim) ?_
    have hq := rout_eq op d n m a c imm fun r => r = .ret (.raw (.int .i64 1))
    rw [hq, Br_if, Br_if]
    repeat' split
    · rfl
    · rfl
    · omega
theorem rchkG_ok {E : Eh} (hE : EOk Try.prog E) : EOk Try.prog (specE 9 chkG E) := by
  refine specE_ok hE fun args v h => ?_
  unfold chkG at h
  split at h
  · split at h
    · rename_i u op d n m a c imm hr
      cases h
      rw [readIns_eq hr]
      exact ⟨⟨insV_bd .., trivial⟩, trivial, rchk_ok ..⟩
    · cases h
  · cases h
end Go.Proofs.YtpahclogghdnpaaDoor.isa
end
section
/- brazierref2.In, brazierref2.Out: contracts for each op. Printed by genri.py. -/
set_option linter.unusedVariables false
set_option linter.unusedSimpArgs false
set_option maxRecDepth 1000000
namespace Go.Proofs.YtpahclogghdnpaaDoor.a64
open Go Go.Proofs Go.Proofs.YtpahclogghdnpaaDoorRL Go.Proofs.YtpahclogghdnpaaDoor.isa
noncomputable def ERI : Eh := specE 9 chkG noE
theorem ERI_ok : EOk Try.prog ERI := rchkG_ok noE_ok
def proj (r : Res) (s : Sto) : Option (List Int) := match r, s with
  | .ret (.raw (.slice none 0 0)), [] => some []
  | .ret (.lse 1 0 1 0 n), [.no, .arr (.grow 0) [.int .i64 g] m 3] => match Nat.beq n m && !(Nat.beq n 0) with
    | true => some ((List.range n).map g)
    | false => none
  | _, _ => none
def scanM (F : List Int → Prop) (r : Int) : List Int → List Int → Prop
  | pre, [] => F (pre ++ [r])
  | pre, x :: t => Br (decide (x < r)) (scanM F r (pre ++ [x]) t) (Br (x == r) (F (pre ++ x :: t)) (F (pre ++ r :: x :: t)))
def laidM (l : List Int) (r : Int) (F : List Int → Prop) : Prop := Br (r == 31) (F l) (scanM F r [] l)
def laidsM : List Int → List Int → (List Int → Prop) → Prop
  | l, [], F => F l
  | l, r :: rs, F => laidM l r fun l' => laidsM l' rs F
def st31 (x y : Int) (F : Int → Prop) : Prop := Br (x == 31) (F y) (F x)
section
variable (d n m a c imm : Int) (Z : Option (List Int) → Prop)
theorem ri_eq_0 : callG Try.prog ERI 200 12 [insV 0 d n m a c imm] [] (gcR fun r s => Z (proj r s)) = Br (chkV 0 d n m a c imm != 0) (Z (some [])) (laidsM [] [] fun L => Z (some L)) := by kernel_rfl
theorem ri_eq_1 : callG Try.prog ERI 200 12 [insV 1 d n m a c imm] [] (gcR fun r s => Z (proj r s)) = Br (chkV 1 d n m a c imm != 0) (Z (some [])) (laidsM [] [] fun L => Z (some L)) := by kernel_rfl
theorem ri_eq_2 : callG Try.prog ERI 200 12 [insV 2 d n m a c imm] [] (gcR fun r s => Z (proj r s)) = Br (chkV 2 d n m a c imm != 0) (Z (some [])) (laidsM [] [] fun L => Z (some L)) := by kernel_rfl
theorem ri_eq_3 : callG Try.prog ERI 200 12 [insV 3 d n m a c imm] [] (gcR fun r s => Z (proj r s)) = Br (chkV 3 d n m a c imm != 0) (Z (some [])) (laidsM [] [d] fun L => Z (some L)) := by kernel_rfl
theorem ri_eq_4 : callG Try.prog ERI 200 12 [insV 4 d n m a c imm] [] (gcR fun r s => Z (proj r s)) = Br (chkV 4 d n m a c imm != 0) (Z (some [])) (st31 n 32 fun n' => laidsM [] [n'] fun L => Z (some L)) := by kernel_rfl
theorem ri_eq_5 : callG Try.prog ERI 200 12 [insV 5 d n m a c imm] [] (gcR fun r s => Z (proj r s)) = Br (chkV 5 d n m a c imm != 0) (Z (some [])) (st31 n 32 fun n' => laidsM [] [n'] fun L => Z (some L)) := by kernel_rfl
theorem ri_eq_6 : callG Try.prog ERI 200 12 [insV 6 d n m a c imm] [] (gcR fun r s => Z (proj r s)) = Br (chkV 6 d n m a c imm != 0) (Z (some [])) (st31 n 32 fun n' => laidsM [] [n'] fun L => Z (some L)) := by kernel_rfl
theorem ri_eq_7 : callG Try.prog ERI 200 12 [insV 7 d n m a c imm] [] (gcR fun r s => Z (proj r s)) = Br (chkV 7 d n m a c imm != 0) (Z (some [])) (st31 n n fun n' => laidsM [] [n', m] fun L => Z (some L)) := by kernel_rfl
theorem ri_eq_8 : callG Try.prog ERI 200 12 [insV 8 d n m a c imm] [] (gcR fun r s => Z (proj r s)) = Br (chkV 8 d n m a c imm != 0) (Z (some [])) (st31 n n fun n' => laidsM [] [n', m] fun L => Z (some L)) := by kernel_rfl
theorem ri_eq_9 : callG Try.prog ERI 200 12 [insV 9 d n m a c imm] [] (gcR fun r s => Z (proj r s)) = Br (chkV 9 d n m a c imm != 0) (Z (some [])) (st31 n n fun n' => laidsM [] [n', m] fun L => Z (some L)) := by kernel_rfl
theorem ri_eq_10 : callG Try.prog ERI 200 12 [insV 10 d n m a c imm] [] (gcR fun r s => Z (proj r s)) = Br (chkV 10 d n m a c imm != 0) (Z (some [])) (st31 n n fun n' => laidsM [] [n', m] fun L => Z (some L)) := by kernel_rfl
theorem ri_eq_11 : callG Try.prog ERI 200 12 [insV 11 d n m a c imm] [] (gcR fun r s => Z (proj r s)) = Br (chkV 11 d n m a c imm != 0) (Z (some [])) (st31 n n fun n' => laidsM [] [n', m] fun L => Z (some L)) := by kernel_rfl
theorem ri_eq_12 : callG Try.prog ERI 200 12 [insV 12 d n m a c imm] [] (gcR fun r s => Z (proj r s)) = Br (chkV 12 d n m a c imm != 0) (Z (some [])) (st31 n n fun n' => laidsM [] [n', m] fun L => Z (some L)) := by kernel_rfl
theorem ri_eq_13 : callG Try.prog ERI 200 12 [insV 13 d n m a c imm] [] (gcR fun r s => Z (proj r s)) = Br (chkV 13 d n m a c imm != 0) (Z (some [])) (st31 n n fun n' => laidsM [] [n', m, a] fun L => Z (some L)) := by kernel_rfl
theorem ri_eq_14 : callG Try.prog ERI 200 12 [insV 14 d n m a c imm] [] (gcR fun r s => Z (proj r s)) = Br (chkV 14 d n m a c imm != 0) (Z (some [])) (st31 n n fun n' => laidsM [] [n', m, a] fun L => Z (some L)) := by kernel_rfl
theorem ri_eq_15 : callG Try.prog ERI 200 12 [insV 15 d n m a c imm] [] (gcR fun r s => Z (proj r s)) = Br (chkV 15 d n m a c imm != 0) (Z (some [])) (st31 n n fun n' => laidsM [] [n', m] fun L => Z (some L)) := by kernel_rfl
theorem ri_eq_16 : callG Try.prog ERI 200 12 [insV 16 d n m a c imm] [] (gcR fun r s => Z (proj r s)) = Br (chkV 16 d n m a c imm != 0) (Z (some [])) (st31 n n fun n' => laidsM [] [n', m] fun L => Z (some L)) := by kernel_rfl
theorem ri_eq_17 : callG Try.prog ERI 200 12 [insV 17 d n m a c imm] [] (gcR fun r s => Z (proj r s)) = Br (chkV 17 d n m a c imm != 0) (Z (some [])) (st31 n n fun n' => laidsM [] [n', m] fun L => Z (some L)) := by kernel_rfl
theorem ri_eq_18 : callG Try.prog ERI 200 12 [insV 18 d n m a c imm] [] (gcR fun r s => Z (proj r s)) = Br (chkV 18 d n m a c imm != 0) (Z (some [])) (st31 n n fun n' => laidsM [] [n', m] fun L => Z (some L)) := by kernel_rfl
theorem ri_eq_19 : callG Try.prog ERI 200 12 [insV 19 d n m a c imm] [] (gcR fun r s => Z (proj r s)) = Br (chkV 19 d n m a c imm != 0) (Z (some [])) (st31 n n fun n' => laidsM [] [n', m, 33] fun L => Z (some L)) := by kernel_rfl
theorem ri_eq_20 : callG Try.prog ERI 200 12 [insV 20 d n m a c imm] [] (gcR fun r s => Z (proj r s)) = Br (chkV 20 d n m a c imm != 0) (Z (some [])) (laidsM [] [] fun L => Z (some L)) := by kernel_rfl
theorem ri_eq_21 : callG Try.prog ERI 200 12 [insV 21 d n m a c imm] [] (gcR fun r s => Z (proj r s)) = Br (chkV 21 d n m a c imm != 0) (Z (some [])) (laidsM [] [33] fun L => Z (some L)) := by kernel_rfl
theorem ri_eq_22 : callG Try.prog ERI 200 12 [insV 22 d n m a c imm] [] (gcR fun r s => Z (proj r s)) = Br (chkV 22 d n m a c imm != 0) (Z (some [])) (laidsM [] [d] fun L => Z (some L)) := by kernel_rfl
theorem ri_eq_23 : callG Try.prog ERI 200 12 [insV 23 d n m a c imm] [] (gcR fun r s => Z (proj r s)) = Br (chkV 23 d n m a c imm != 0) (Z (some [])) (laidsM [] [d] fun L => Z (some L)) := by kernel_rfl
theorem ri_eq_24 : callG Try.prog ERI 200 12 [insV 24 d n m a c imm] [] (gcR fun r s => Z (proj r s)) = Br (chkV 24 d n m a c imm != 0) (Z (some [])) (laidsM [] [] fun L => Z (some L)) := by kernel_rfl
theorem ri_eq_25 : callG Try.prog ERI 200 12 [insV 25 d n m a c imm] [] (gcR fun r s => Z (proj r s)) = Br (chkV 25 d n m a c imm != 0) (Z (some [])) (st31 n n fun n' => laidsM [] [n'] fun L => Z (some L)) := by kernel_rfl
theorem ri_eq_26 : callG Try.prog ERI 200 12 [insV 26 d n m a c imm] [] (gcR fun r s => Z (proj r s)) = Br (chkV 26 d n m a c imm != 0) (Z (some [])) (st31 n n fun n' => laidsM [] [n'] fun L => Z (some L)) := by kernel_rfl
theorem ri_eq_27 : callG Try.prog ERI 200 12 [insV 27 d n m a c imm] [] (gcR fun r s => Z (proj r s)) = Br (chkV 27 d n m a c imm != 0) (Z (some [])) (st31 n n fun n' => laidsM [] [n'] fun L => Z (some L)) := by kernel_rfl
theorem ri_eq_28 : callG Try.prog ERI 200 12 [insV 28 d n m a c imm] [] (gcR fun r s => Z (proj r s)) = Br (chkV 28 d n m a c imm != 0) (Z (some [])) (st31 n 32 fun n' => laidsM [] [n'] fun L => Z (some L)) := by kernel_rfl
theorem ri_eq_29 : callG Try.prog ERI 200 12 [insV 29 d n m a c imm] [] (gcR fun r s => Z (proj r s)) = Br (chkV 29 d n m a c imm != 0) (Z (some [])) (st31 n 32 fun n' => laidsM [] [n', d] fun L => Z (some L)) := by kernel_rfl
theorem ri_eq_30 : callG Try.prog ERI 200 12 [insV 30 d n m a c imm] [] (gcR fun r s => Z (proj r s)) = Br (chkV 30 d n m a c imm != 0) (Z (some [])) (st31 n 32 fun n' => laidsM [] [n'] fun L => Z (some L)) := by kernel_rfl
theorem ri_eq_31 : callG Try.prog ERI 200 12 [insV 31 d n m a c imm] [] (gcR fun r s => Z (proj r s)) = Br (chkV 31 d n m a c imm != 0) (Z (some [])) (st31 n 32 fun n' => laidsM [] [n', m] fun L => Z (some L)) := by kernel_rfl
theorem ri_eq_32 : callG Try.prog ERI 200 12 [insV 32 d n m a c imm] [] (gcR fun r s => Z (proj r s)) = Br (chkV 32 d n m a c imm != 0) (Z (some [])) (st31 n 32 fun n' => laidsM [] [n', m, d] fun L => Z (some L)) := by kernel_rfl
theorem ri_eq_33 : callG Try.prog ERI 200 12 [insV 33 d n m a c imm] [] (gcR fun r s => Z (proj r s)) = Br (chkV 33 d n m a c imm != 0) (Z (some [])) (st31 n 32 fun n' => laidsM [] [n'] fun L => Z (some L)) := by kernel_rfl
theorem ri_eq_34 : callG Try.prog ERI 200 12 [insV 34 d n m a c imm] [] (gcR fun r s => Z (proj r s)) = Br (chkV 34 d n m a c imm != 0) (Z (some [])) (st31 n 32 fun n' => laidsM [] [n', d] fun L => Z (some L)) := by kernel_rfl
theorem ri_eq_35 : callG Try.prog ERI 200 12 [insV 35 d n m a c imm] [] (gcR fun r s => Z (proj r s)) = Br (chkV 35 d n m a c imm != 0) (Z (some [])) (st31 n 32 fun n' => laidsM [] [n'] fun L => Z (some L)) := by kernel_rfl
theorem ri_eq_36 : callG Try.prog ERI 200 12 [insV 36 d n m a c imm] [] (gcR fun r s => Z (proj r s)) = Br (chkV 36 d n m a c imm != 0) (Z (some [])) (st31 n 32 fun n' => laidsM [] [n', m] fun L => Z (some L)) := by kernel_rfl
theorem ri_eq_37 : callG Try.prog ERI 200 12 [insV 37 d n m a c imm] [] (gcR fun r s => Z (proj r s)) = Br (chkV 37 d n m a c imm != 0) (Z (some [])) (laidsM [] [] fun L => Z (some L)) := by kernel_rfl
theorem ri_eq_38 : callG Try.prog ERI 200 12 [insV 38 d n m a c imm] [] (gcR fun r s => Z (proj r s)) = Br (chkV 38 d n m a c imm != 0) (Z (some [])) (laidsM [] [] fun L => Z (some L)) := by kernel_rfl
theorem ri_eq_39 : callG Try.prog ERI 200 12 [insV 39 d n m a c imm] [] (gcR fun r s => Z (proj r s)) = Br (chkV 39 d n m a c imm != 0) (Z (some [])) (laidsM [] [] fun L => Z (some L)) := by kernel_rfl
theorem ri_eq_40 : callG Try.prog ERI 200 12 [insV 40 d n m a c imm] [] (gcR fun r s => Z (proj r s)) = Br (chkV 40 d n m a c imm != 0) (Z (some [])) (st31 n n fun n' => laidsM [] [n'] fun L => Z (some L)) := by kernel_rfl
theorem ri_eq_41 : callG Try.prog ERI 200 12 [insV 41 d n m a c imm] [] (gcR fun r s => Z (proj r s)) = Br (chkV 41 d n m a c imm != 0) (Z (some [])) (st31 n n fun n' => laidsM [] [n'] fun L => Z (some L)) := by kernel_rfl
theorem ri_eq_42 : callG Try.prog ERI 200 12 [insV 42 d n m a c imm] [] (gcR fun r s => Z (proj r s)) = Br (chkV 42 d n m a c imm != 0) (Z (some [])) (laidsM [] [] fun L => Z (some L)) := by kernel_rfl
theorem ro_eq_0 : callG Try.prog ERI 200 14 [insV 0 d n m a c imm] [] (gcR fun r s => Z (proj r s)) = Br (chkV 0 d n m a c imm != 0) (Z (some [])) (laidsM [] [] fun L => Z (some L)) := by kernel_rfl
theorem ro_eq_1 : callG Try.prog ERI 200 14 [insV 1 d n m a c imm] [] (gcR fun r s => Z (proj r s)) = Br (chkV 1 d n m a c imm != 0) (Z (some [])) (laidsM [] [] fun L => Z (some L)) := by kernel_rfl
theorem ro_eq_2 : callG Try.prog ERI 200 14 [insV 2 d n m a c imm] [] (gcR fun r s => Z (proj r s)) = Br (chkV 2 d n m a c imm != 0) (Z (some [])) (st31 d d fun d' => laidsM [] [d'] fun L => Z (some L)) := by kernel_rfl
theorem ro_eq_3 : callG Try.prog ERI 200 14 [insV 3 d n m a c imm] [] (gcR fun r s => Z (proj r s)) = Br (chkV 3 d n m a c imm != 0) (Z (some [])) (st31 d d fun d' => laidsM [] [d'] fun L => Z (some L)) := by kernel_rfl
theorem ro_eq_4 : callG Try.prog ERI 200 14 [insV 4 d n m a c imm] [] (gcR fun r s => Z (proj r s)) = Br (chkV 4 d n m a c imm != 0) (Z (some [])) (st31 d 32 fun d' => laidsM [] [d'] fun L => Z (some L)) := by kernel_rfl
theorem ro_eq_5 : callG Try.prog ERI 200 14 [insV 5 d n m a c imm] [] (gcR fun r s => Z (proj r s)) = Br (chkV 5 d n m a c imm != 0) (Z (some [])) (st31 d 32 fun d' => laidsM [] [d'] fun L => Z (some L)) := by kernel_rfl
theorem ro_eq_6 : callG Try.prog ERI 200 14 [insV 6 d n m a c imm] [] (gcR fun r s => Z (proj r s)) = Br (chkV 6 d n m a c imm != 0) (Z (some [])) (st31 d d fun d' => laidsM [] [d', 33] fun L => Z (some L)) := by kernel_rfl
theorem ro_eq_7 : callG Try.prog ERI 200 14 [insV 7 d n m a c imm] [] (gcR fun r s => Z (proj r s)) = Br (chkV 7 d n m a c imm != 0) (Z (some [])) (st31 d d fun d' => laidsM [] [d'] fun L => Z (some L)) := by kernel_rfl
theorem ro_eq_8 : callG Try.prog ERI 200 14 [insV 8 d n m a c imm] [] (gcR fun r s => Z (proj r s)) = Br (chkV 8 d n m a c imm != 0) (Z (some [])) (st31 d d fun d' => laidsM [] [d'] fun L => Z (some L)) := by kernel_rfl
theorem ro_eq_9 : callG Try.prog ERI 200 14 [insV 9 d n m a c imm] [] (gcR fun r s => Z (proj r s)) = Br (chkV 9 d n m a c imm != 0) (Z (some [])) (st31 d d fun d' => laidsM [] [d', 33] fun L => Z (some L)) := by kernel_rfl
theorem ro_eq_10 : callG Try.prog ERI 200 14 [insV 10 d n m a c imm] [] (gcR fun r s => Z (proj r s)) = Br (chkV 10 d n m a c imm != 0) (Z (some [])) (st31 d d fun d' => laidsM [] [d'] fun L => Z (some L)) := by kernel_rfl
theorem ro_eq_11 : callG Try.prog ERI 200 14 [insV 11 d n m a c imm] [] (gcR fun r s => Z (proj r s)) = Br (chkV 11 d n m a c imm != 0) (Z (some [])) (st31 d d fun d' => laidsM [] [d'] fun L => Z (some L)) := by kernel_rfl
theorem ro_eq_12 : callG Try.prog ERI 200 14 [insV 12 d n m a c imm] [] (gcR fun r s => Z (proj r s)) = Br (chkV 12 d n m a c imm != 0) (Z (some [])) (st31 d d fun d' => laidsM [] [d'] fun L => Z (some L)) := by kernel_rfl
theorem ro_eq_13 : callG Try.prog ERI 200 14 [insV 13 d n m a c imm] [] (gcR fun r s => Z (proj r s)) = Br (chkV 13 d n m a c imm != 0) (Z (some [])) (st31 d d fun d' => laidsM [] [d'] fun L => Z (some L)) := by kernel_rfl
theorem ro_eq_14 : callG Try.prog ERI 200 14 [insV 14 d n m a c imm] [] (gcR fun r s => Z (proj r s)) = Br (chkV 14 d n m a c imm != 0) (Z (some [])) (st31 d d fun d' => laidsM [] [d'] fun L => Z (some L)) := by kernel_rfl
theorem ro_eq_15 : callG Try.prog ERI 200 14 [insV 15 d n m a c imm] [] (gcR fun r s => Z (proj r s)) = Br (chkV 15 d n m a c imm != 0) (Z (some [])) (st31 d d fun d' => laidsM [] [d'] fun L => Z (some L)) := by kernel_rfl
theorem ro_eq_16 : callG Try.prog ERI 200 14 [insV 16 d n m a c imm] [] (gcR fun r s => Z (proj r s)) = Br (chkV 16 d n m a c imm != 0) (Z (some [])) (st31 d d fun d' => laidsM [] [d'] fun L => Z (some L)) := by kernel_rfl
theorem ro_eq_17 : callG Try.prog ERI 200 14 [insV 17 d n m a c imm] [] (gcR fun r s => Z (proj r s)) = Br (chkV 17 d n m a c imm != 0) (Z (some [])) (st31 d d fun d' => laidsM [] [d'] fun L => Z (some L)) := by kernel_rfl
theorem ro_eq_18 : callG Try.prog ERI 200 14 [insV 18 d n m a c imm] [] (gcR fun r s => Z (proj r s)) = Br (chkV 18 d n m a c imm != 0) (Z (some [])) (st31 d d fun d' => laidsM [] [d'] fun L => Z (some L)) := by kernel_rfl
theorem ro_eq_19 : callG Try.prog ERI 200 14 [insV 19 d n m a c imm] [] (gcR fun r s => Z (proj r s)) = Br (chkV 19 d n m a c imm != 0) (Z (some [])) (st31 d d fun d' => laidsM [] [d'] fun L => Z (some L)) := by kernel_rfl
theorem ro_eq_20 : callG Try.prog ERI 200 14 [insV 20 d n m a c imm] [] (gcR fun r s => Z (proj r s)) = Br (chkV 20 d n m a c imm != 0) (Z (some [])) (laidsM [] [] fun L => Z (some L)) := by kernel_rfl
theorem ro_eq_21 : callG Try.prog ERI 200 14 [insV 21 d n m a c imm] [] (gcR fun r s => Z (proj r s)) = Br (chkV 21 d n m a c imm != 0) (Z (some [])) (laidsM [] [] fun L => Z (some L)) := by kernel_rfl
theorem ro_eq_22 : callG Try.prog ERI 200 14 [insV 22 d n m a c imm] [] (gcR fun r s => Z (proj r s)) = Br (chkV 22 d n m a c imm != 0) (Z (some [])) (laidsM [] [] fun L => Z (some L)) := by kernel_rfl
theorem ro_eq_23 : callG Try.prog ERI 200 14 [insV 23 d n m a c imm] [] (gcR fun r s => Z (proj r s)) = Br (chkV 23 d n m a c imm != 0) (Z (some [])) (laidsM [] [] fun L => Z (some L)) := by kernel_rfl
theorem ro_eq_24 : callG Try.prog ERI 200 14 [insV 24 d n m a c imm] [] (gcR fun r s => Z (proj r s)) = Br (chkV 24 d n m a c imm != 0) (Z (some [])) (laidsM [] [30] fun L => Z (some L)) := by kernel_rfl
theorem ro_eq_25 : callG Try.prog ERI 200 14 [insV 25 d n m a c imm] [] (gcR fun r s => Z (proj r s)) = Br (chkV 25 d n m a c imm != 0) (Z (some [])) (laidsM [] [] fun L => Z (some L)) := by kernel_rfl
theorem ro_eq_26 : callG Try.prog ERI 200 14 [insV 26 d n m a c imm] [] (gcR fun r s => Z (proj r s)) = Br (chkV 26 d n m a c imm != 0) (Z (some [])) (laidsM [] [30] fun L => Z (some L)) := by kernel_rfl
theorem ro_eq_27 : callG Try.prog ERI 200 14 [insV 27 d n m a c imm] [] (gcR fun r s => Z (proj r s)) = Br (chkV 27 d n m a c imm != 0) (Z (some [])) (laidsM [] [] fun L => Z (some L)) := by kernel_rfl
theorem ro_eq_28 : callG Try.prog ERI 200 14 [insV 28 d n m a c imm] [] (gcR fun r s => Z (proj r s)) = Br (chkV 28 d n m a c imm != 0) (Z (some [])) (st31 d d fun d' => laidsM [] [d'] fun L => Z (some L)) := by kernel_rfl
theorem ro_eq_29 : callG Try.prog ERI 200 14 [insV 29 d n m a c imm] [] (gcR fun r s => Z (proj r s)) = Br (chkV 29 d n m a c imm != 0) (Z (some [])) (laidsM [] [] fun L => Z (some L)) := by kernel_rfl
theorem ro_eq_30 : callG Try.prog ERI 200 14 [insV 30 d n m a c imm] [] (gcR fun r s => Z (proj r s)) = Br (chkV 30 d n m a c imm != 0) (Z (some [])) (st31 d d fun d' => laidsM [] [d'] fun L => Z (some L)) := by kernel_rfl
theorem ro_eq_31 : callG Try.prog ERI 200 14 [insV 31 d n m a c imm] [] (gcR fun r s => Z (proj r s)) = Br (chkV 31 d n m a c imm != 0) (Z (some [])) (st31 d d fun d' => laidsM [] [d'] fun L => Z (some L)) := by kernel_rfl
theorem ro_eq_32 : callG Try.prog ERI 200 14 [insV 32 d n m a c imm] [] (gcR fun r s => Z (proj r s)) = Br (chkV 32 d n m a c imm != 0) (Z (some [])) (laidsM [] [] fun L => Z (some L)) := by kernel_rfl
theorem ro_eq_33 : callG Try.prog ERI 200 14 [insV 33 d n m a c imm] [] (gcR fun r s => Z (proj r s)) = Br (chkV 33 d n m a c imm != 0) (Z (some [])) (st31 d d fun d' => laidsM [] [d'] fun L => Z (some L)) := by kernel_rfl
theorem ro_eq_34 : callG Try.prog ERI 200 14 [insV 34 d n m a c imm] [] (gcR fun r s => Z (proj r s)) = Br (chkV 34 d n m a c imm != 0) (Z (some [])) (laidsM [] [] fun L => Z (some L)) := by kernel_rfl
theorem ro_eq_35 : callG Try.prog ERI 200 14 [insV 35 d n m a c imm] [] (gcR fun r s => Z (proj r s)) = Br (chkV 35 d n m a c imm != 0) (Z (some [])) (st31 d d fun d' => laidsM [] [d'] fun L => Z (some L)) := by kernel_rfl
theorem ro_eq_36 : callG Try.prog ERI 200 14 [insV 36 d n m a c imm] [] (gcR fun r s => Z (proj r s)) = Br (chkV 36 d n m a c imm != 0) (Z (some [])) (st31 d d fun d' => laidsM [] [d'] fun L => Z (some L)) := by kernel_rfl
theorem ro_eq_37 : callG Try.prog ERI 200 14 [insV 37 d n m a c imm] [] (gcR fun r s => Z (proj r s)) = Br (chkV 37 d n m a c imm != 0) (Z (some [])) (laidsM [] [] fun L => Z (some L)) := by kernel_rfl
theorem ro_eq_38 : callG Try.prog ERI 200 14 [insV 38 d n m a c imm] [] (gcR fun r s => Z (proj r s)) = Br (chkV 38 d n m a c imm != 0) (Z (some [])) (laidsM [] [] fun L => Z (some L)) := by kernel_rfl
theorem ro_eq_39 : callG Try.prog ERI 200 14 [insV 39 d n m a c imm] [] (gcR fun r s => Z (proj r s)) = Br (chkV 39 d n m a c imm != 0) (Z (some [])) (laidsM [] [] fun L => Z (some L)) := by kernel_rfl
theorem ro_eq_40 : callG Try.prog ERI 200 14 [insV 40 d n m a c imm] [] (gcR fun r s => Z (proj r s)) = Br (chkV 40 d n m a c imm != 0) (Z (some [])) (laidsM [] [] fun L => Z (some L)) := by kernel_rfl
theorem ro_eq_41 : callG Try.prog ERI 200 14 [insV 41 d n m a c imm] [] (gcR fun r s => Z (proj r s)) = Br (chkV 41 d n m a c imm != 0) (Z (some [])) (laidsM [] [] fun L => Z (some L)) := by kernel_rfl
theorem ro_eq_42 : callG Try.prog ERI 200 14 [insV 42 d n m a c imm] [] (gcR fun r s => Z (proj r s)) = Br (chkV 42 d n m a c imm != 0) (Z (some [])) (laidsM [] [] fun L => Z (some L)) := by kernel_rfl
end
end Go.Proofs.YtpahclogghdnpaaDoor.a64
end
