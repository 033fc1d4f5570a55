/- Parts of the proof, one behind the other. -/
import Derived.Test.YtpahclogghdnpaaDoorzA64KinRLT
import Derived.Test.YtpahclogghdnpaaDoorzA64KinAName
import Derived.Test.YtpahclogghdnpaaDoorzA64KinRLRow2
section
/- a64.Check as a table's line. -/
namespace Go.Proofs.YtpahclogghdnpaaDoor.isa
open Go Go.Proofs Go.Proofs.YtpahclogghdnpaaDoorRL
set_option linter.unusedVariables false
set_option linter.unusedSimpArgs false
/-- The fields of an op, as bits: D, N, M, A, Cond, Imm. -/
def fl (k : Nat) : Nat := match k with
  | 0 | 42 | 37 | 20 | 24 => 32
  | 2 | 3 => 37
  | 4 | 5 | 6 | 28 | 29 | 30 => 35
  | 13 | 14 => 15
  | 19 => 23
  | 21 => 48
  | 22 | 23 => 33
  | 25 | 26 | 27 | 40 | 41 => 2
  | 33 | 34 | 35 => 3
  | 1 | 38 | 39 => 0
  | _ => 7
def bt (k j : Nat) : Bool := Nat.beq (Nat.mod (Nat.div (fl k) (2 ^ j)) 2) 1
def rgP (b : Bool) (v : Int) : Prop := match b with
  | true => 0 ≤ v ∧ v ≤ 31
  | false => v = 0
def cdP (b : Bool) (v : Int) : Prop := match b with
  | true => 0 ≤ v ∧ v ≤ 15
  | false => v = 0
def zeroP (b : Bool) (v : Int) : Prop := match b with
  | true => True
  | false => v = 0
def immP (k : Nat) (imm m c : Int) : Prop := match k with
  | 0 | 42 => 0 ≤ imm ∧ imm < 65536
  | 2 | 3 => 0 ≤ imm ∧ imm < 65536 ∧ m ≤ 3
  | 4 | 5 | 6 | 30 => 0 ≤ imm ∧ imm < 4096
  | 28 | 29 => 0 ≤ imm ∧ imm < 32768 ∧ imm % 8 = 0
  | 20 | 24 => imm % 4 = 0 ∧ -134217728 ≤ imm ∧ imm < 134217728
  | 21 => imm % 4 = 0 ∧ -1048576 ≤ imm ∧ imm < 1048576 ∧ c ≤ 13
  | 22 | 23 => imm % 4 = 0 ∧ -1048576 ≤ imm ∧ imm < 1048576
  | 37 => 0 ≤ imm ∧ imm ≤ 2
  | _ => True
/-- May an instruction of op k be? -/
def okP (k : Nat) (d n m a c imm : Int) : Prop := rgP (bt k 0) d ∧ rgP (bt k 1) n ∧ rgP (bt k 2) m ∧ rgP (bt k 3) a ∧ cdP (bt k 4) c ∧ zeroP (bt k 5) imm ∧ immP k imm m c
instance (b : Bool) (v : Int) : Decidable (rgP b v) := by cases b <;> unfold rgP <;> infer_instance
instance (b : Bool) (v : Int) : Decidable (cdP b v) := by cases b <;> unfold cdP <;> infer_instance
instance (b : Bool) (v : Int) : Decidable (zeroP b v) := by cases b <;> unfold zeroP <;> infer_instance
instance (k : Nat) (imm m c : Int) : Decidable (immP k imm m c) := by unfold immP; split <;> infer_instance
instance (k : Nat) (d n m a c imm : Int) : Decidable (okP k d n m a c imm) := by unfold okP; infer_instance
def okI (op d n m a c imm : Int) : Prop := (0 ≤ op ∧ op ≤ 42) ∧ okP op.toNat d n m a c imm
instance (op d n m a c imm : Int) : Decidable (okI op d n m a c imm) := by unfold okI; infer_instance
/-- What Check answers. -/
def chkV (op d n m a c imm : Int) : Int := if okI op d n m a c imm then 0 else 1
def insV (op d n m a c imm : Int) : V := .agg [.raw (.int .i64 op), .raw (.int .i64 d), .raw (.int .i64 n), .raw (.int .i64 m), .raw (.int .i64 a), .raw (.int .i64 c), .raw (.int .i64 imm)]
def readIns : V → Option (Int × Int × Int × Int × Int × Int × Int)
  | .agg [.raw (.int .i64 op), .raw (.int .i64 d), .raw (.int .i64 n), .raw (.int .i64 m), .raw (.int .i64 a), .raw (.int .i64 c), .raw (.int .i64 imm)] => some (op, d, n, m, a, c, imm)
  | _ => none
theorem readIns_eq {v : V} {op d n m a c imm : Int} (h : readIns v = some (op, d, n, m, a, c, imm)) : v = insV op d n m a c imm := by
  unfold readIns at h
  split at h
  · cases h; rfl
  · cases h
/-- The code's tests, in their order. -/
def regM {R : Type} (b : Bool) (v : Int) (E Z : R) : R := Br (decide (v < 0)) E (Br (decide (v > 31)) E (Br (v != 0) (match b with | true => Z | false => E) Z))
def farM {R : Type} (v : Int) (lo hi : Int) (K : Bool → R) : R := Br (v.tmod 4 == 0) (Br (decide (v ≥ lo)) (K (decide (v < hi))) (K false)) (K false)
def fitsM {R : Type} (k : Nat) (imm m c : Int) (K : Bool → R) : R := match k with
  | 0 | 42 => Br (decide (imm ≥ 0)) (K (decide (imm < 65536))) (K false)
  | 2 | 3 => Br (decide (imm ≥ 0)) (Br (decide (imm < 65536)) (K (decide (m ≤ 3))) (K false)) (K false)
  | 4 | 5 | 6 | 30 => Br (decide (imm ≥ 0)) (K (decide (imm < 4096))) (K false)
  | 28 | 29 => Br (decide (imm ≥ 0)) (Br (decide (imm < 32768)) (K (imm.tmod 8 == 0)) (K false)) (K false)
  | 20 | 24 => farM imm (-134217728) 134217728 K
  | 21 => farM imm (-1048576) 1048576 fun b => Br b (K (decide (c ≤ 13))) (K false)
  | 22 | 23 => farM imm (-1048576) 1048576 K
  | 37 => Br (decide (imm ≥ 0)) (K (decide (imm ≤ 2))) (K false)
  | _ => K true
def chkM {R : Type} (k : Nat) (d n m a c imm : Int) (E Z : R) : R :=
  regM (bt k 0) d E (regM (bt k 1) n E (regM (bt k 2) m E (regM (bt k 3) a E
    (Br (decide (c < 0)) E (Br (decide (c > 15)) E (Br (c != 0) (match bt k 4 with | true => immM | false => E) immM)))))) 
where immM : R := Br (imm != 0) (match bt k 5 with | true => fitM | false => E) fitM
      fitM : R := fitsM k imm m c fun b => Br (!b) E Z
def errV : Option V := some (.raw (.int .i64 1))
def okV : Option V := some (.raw (.int .i64 0))
theorem Br_if {R : Type} {p : Prop} [Decidable p] {A B : R} : Br (decide p) A B = if p then A else B := by
  by_cases h : p
  · rw [decide_eq_true h, if_pos h]; rfl
  · rw [decide_eq_false h, if_neg h]; rfl
theorem Br_same {R : Type} {b : Bool} {A : R} : Br b A A = A := by cases b <;> rfl
theorem bne_dec (a b : Int) : (a != b) = decide (¬ a = b) := by
  by_cases h : a = b <;> simp [h]
theorem beq_dec (a b : Int) : (a == b) = decide (a = b) := by
  by_cases h : a = b <;> simp [h]
theorem tmod_dec (a : Int) (b : Int) (hb : b = 4 ∨ b = 8) : (a.tmod b == 0) = decide (a % b = 0) := by
  rw [beq_dec]
  refine decide_eq_decide.2 ?_
  rcases hb with rfl | rfl
  · exact ⟨fun h => by have := Int.dvd_of_tmod_eq_zero h; omega, fun h => Int.tmod_eq_zero_of_dvd (by omega)⟩
  · exact ⟨fun h => by have := Int.dvd_of_tmod_eq_zero h; omega, fun h => Int.tmod_eq_zero_of_dvd (by omega)⟩
theorem Br_not {R : Type} {p : Prop} [Decidable p] {A B : R} : Br (!decide p) A B = if p then B else A := by
  by_cases h : p
  · rw [decide_eq_true h, if_pos h]; rfl
  · rw [decide_eq_false h, if_neg h]; rfl
theorem regM_eq {R : Type} (b : Bool) (v : Int) (E Z : R) : regM b v E Z = if rgP b v then Z else E := by
  unfold regM
  rw [bne_dec, Br_if, Br_if, Br_if]
  by_cases h : rgP b v
  · rw [if_pos h]
    cases b <;> simp only [rgP] at h <;> dsimp only <;> (repeat' split) <;> first | rfl | omega
  · rw [if_neg h]
    cases b <;> simp only [rgP] at h <;> dsimp only <;> (repeat' split) <;> first | rfl | omega
theorem fits_if {R : Type} (k : Nat) (imm m c : Int) (E Z : R) : fitsM k imm m c (fun b => Br (!b) E Z) = if immP k imm m c then Z else E := by
  unfold fitsM immP farM
  split <;> simp only [Br_if, Br_not, Br_same, tmod_dec _ _ (.inl rfl), tmod_dec _ _ (.inr rfl)] <;> (repeat' split) <;> first | rfl | omega | exact absurd trivial ‹¬True›
theorem chkM_eq {R : Type} (k : Nat) (d n m a c imm : Int) (E Z : R) : chkM k d n m a c imm E Z = if okP k d n m a c imm then Z else E := by
  unfold chkM
  simp only [regM_eq, chkM.immM, chkM.fitM, fits_if, bne_dec, Br_if]
  by_cases h : okP k d n m a c imm
  · rw [if_pos h]
    obtain ⟨h1, h2, h3, h4, h5, h6, h7⟩ := h
    rw [if_pos h1, if_pos h2, if_pos h3, if_pos h4, if_pos h7]
    cases h8 : bt k 4 <;> cases h9 : bt k 5 <;> rw [h8] at h5 <;> rw [h9] at h6 <;> simp only [cdP, zeroP] at h5 h6 <;> dsimp only <;> (repeat' split) <;> first | rfl | omega
  · rw [if_neg h]
    by_cases h1 : rgP (bt k 0) d
    · by_cases h2 : rgP (bt k 1) n
      · by_cases h3 : rgP (bt k 2) m
        · by_cases h4 : rgP (bt k 3) a
          · by_cases h7 : immP k imm m c
            · have h' : ¬ (cdP (bt k 4) c ∧ zeroP (bt k 5) imm) := fun ⟨h5, h6⟩ => h ⟨h1, h2, h3, h4, h5, h6, h7⟩
              rw [if_pos h1, if_pos h2, if_pos h3, if_pos h4, if_pos h7]
              cases h8 : bt k 4 <;> cases h9 : bt k 5 <;> rw [h8, h9] at h' <;> simp only [cdP, zeroP, and_true] at h' <;> dsimp only <;> (repeat' split) <;> first | rfl | omega
            · rw [if_neg h7]
              cases bt k 4 <;> cases bt k 5 <;> (repeat' split) <;> rfl
          · rw [if_neg h4]; simp only [ite_self]
        · rw [if_neg h3]; simp only [ite_self]
      · rw [if_neg h2]; simp only [ite_self]
    · rw [if_neg h1]
set_option maxRecDepth 1000000 in
theorem run_0 (d n m a c imm : Int) : runI Try.prog noE 40 8 [insV 0 d n m a c imm] = chkM 0 d n m a c imm errV okV := by kernel_rfl
set_option maxRecDepth 1000000 in
theorem run_1 (d n m a c imm : Int) : runI Try.prog noE 40 8 [insV 1 d n m a c imm] = chkM 1 d n m a c imm errV okV := by kernel_rfl
set_option maxRecDepth 1000000 in
theorem run_2 (d n m a c imm : Int) : runI Try.prog noE 40 8 [insV 2 d n m a c imm] = chkM 2 d n m a c imm errV okV := by kernel_rfl
set_option maxRecDepth 1000000 in
theorem run_3 (d n m a c imm : Int) : runI Try.prog noE 40 8 [insV 3 d n m a c imm] = chkM 3 d n m a c imm errV okV := by kernel_rfl
set_option maxRecDepth 1000000 in
theorem run_4 (d n m a c imm : Int) : runI Try.prog noE 40 8 [insV 4 d n m a c imm] = chkM 4 d n m a c imm errV okV := by kernel_rfl
set_option maxRecDepth 1000000 in
theorem run_5 (d n m a c imm : Int) : runI Try.prog noE 40 8 [insV 5 d n m a c imm] = chkM 5 d n m a c imm errV okV := by kernel_rfl
set_option maxRecDepth 1000000 in
theorem run_6 (d n m a c imm : Int) : runI Try.prog noE 40 8 [insV 6 d n m a c imm] = chkM 6 d n m a c imm errV okV := by kernel_rfl
set_option maxRecDepth 1000000 in
theorem run_7 (d n m a c imm : Int) : runI Try.prog noE 40 8 [insV 7 d n m a c imm] = chkM 7 d n m a c imm errV okV := by kernel_rfl
set_option maxRecDepth 1000000 in
theorem run_8 (d n m a c imm : Int) : runI Try.prog noE 40 8 [insV 8 d n m a c imm] = chkM 8 d n m a c imm errV okV := by kernel_rfl
set_option maxRecDepth 1000000 in
theorem run_9 (d n m a c imm : Int) : runI Try.prog noE 40 8 [insV 9 d n m a c imm] = chkM 9 d n m a c imm errV okV := by kernel_rfl
set_option maxRecDepth 1000000 in
theorem run_10 (d n m a c imm : Int) : runI Try.prog noE 40 8 [insV 10 d n m a c imm] = chkM 10 d n m a c imm errV okV := by kernel_rfl
set_option maxRecDepth 1000000 in
theorem run_11 (d n m a c imm : Int) : runI Try.prog noE 40 8 [insV 11 d n m a c imm] = chkM 11 d n m a c imm errV okV := by kernel_rfl
set_option maxRecDepth 1000000 in
theorem run_12 (d n m a c imm : Int) : runI Try.prog noE 40 8 [insV 12 d n m a c imm] = chkM 12 d n m a c imm errV okV := by kernel_rfl
set_option maxRecDepth 1000000 in
theorem run_13 (d n m a c imm : Int) : runI Try.prog noE 40 8 [insV 13 d n m a c imm] = chkM 13 d n m a c imm errV okV := by kernel_rfl
set_option maxRecDepth 1000000 in
theorem run_14 (d n m a c imm : Int) : runI Try.prog noE 40 8 [insV 14 d n m a c imm] = chkM 14 d n m a c imm errV okV := by kernel_rfl
set_option maxRecDepth 1000000 in
theorem run_15 (d n m a c imm : Int) : runI Try.prog noE 40 8 [insV 15 d n m a c imm] = chkM 15 d n m a c imm errV okV := by kernel_rfl
set_option maxRecDepth 1000000 in
theorem run_16 (d n m a c imm : Int) : runI Try.prog noE 40 8 [insV 16 d n m a c imm] = chkM 16 d n m a c imm errV okV := by kernel_rfl
set_option maxRecDepth 1000000 in
theorem run_17 (d n m a c imm : Int) : runI Try.prog noE 40 8 [insV 17 d n m a c imm] = chkM 17 d n m a c imm errV okV := by kernel_rfl
set_option maxRecDepth 1000000 in
theorem run_18 (d n m a c imm : Int) : runI Try.prog noE 40 8 [insV 18 d n m a c imm] = chkM 18 d n m a c imm errV okV := by kernel_rfl
set_option maxRecDepth 1000000 in
theorem run_19 (d n m a c imm : Int) : runI Try.prog noE 40 8 [insV 19 d n m a c imm] = chkM 19 d n m a c imm errV okV := by kernel_rfl
set_option maxRecDepth 1000000 in
theorem run_20 (d n m a c imm : Int) : runI Try.prog noE 40 8 [insV 20 d n m a c imm] = chkM 20 d n m a c imm errV okV := by kernel_rfl
set_option maxRecDepth 1000000 in
theorem run_21 (d n m a c imm : Int) : runI Try.prog noE 40 8 [insV 21 d n m a c imm] = chkM 21 d n m a c imm errV okV := by kernel_rfl
set_option maxRecDepth 1000000 in
theorem run_22 (d n m a c imm : Int) : runI Try.prog noE 40 8 [insV 22 d n m a c imm] = chkM 22 d n m a c imm errV okV := by kernel_rfl
set_option maxRecDepth 1000000 in
theorem run_23 (d n m a c imm : Int) : runI Try.prog noE 40 8 [insV 23 d n m a c imm] = chkM 23 d n m a c imm errV okV := by kernel_rfl
set_option maxRecDepth 1000000 in
theorem run_24 (d n m a c imm : Int) : runI Try.prog noE 40 8 [insV 24 d n m a c imm] = chkM 24 d n m a c imm errV okV := by kernel_rfl
set_option maxRecDepth 1000000 in
theorem run_25 (d n m a c imm : Int) : runI Try.prog noE 40 8 [insV 25 d n m a c imm] = chkM 25 d n m a c imm errV okV := by kernel_rfl
set_option maxRecDepth 1000000 in
theorem run_26 (d n m a c imm : Int) : runI Try.prog noE 40 8 [insV 26 d n m a c imm] = chkM 26 d n m a c imm errV okV := by kernel_rfl
set_option maxRecDepth 1000000 in
theorem run_27 (d n m a c imm : Int) : runI Try.prog noE 40 8 [insV 27 d n m a c imm] = chkM 27 d n m a c imm errV okV := by kernel_rfl
set_option maxRecDepth 1000000 in
theorem run_28 (d n m a c imm : Int) : runI Try.prog noE 40 8 [insV 28 d n m a c imm] = chkM 28 d n m a c imm errV okV := by kernel_rfl
set_option maxRecDepth 1000000 in
theorem run_29 (d n m a c imm : Int) : runI Try.prog noE 40 8 [insV 29 d n m a c imm] = chkM 29 d n m a c imm errV okV := by kernel_rfl
set_option maxRecDepth 1000000 in
theorem run_30 (d n m a c imm : Int) : runI Try.prog noE 40 8 [insV 30 d n m a c imm] = chkM 30 d n m a c imm errV okV := by kernel_rfl
set_option maxRecDepth 1000000 in
theorem run_31 (d n m a c imm : Int) : runI Try.prog noE 40 8 [insV 31 d n m a c imm] = chkM 31 d n m a c imm errV okV := by kernel_rfl
set_option maxRecDepth 1000000 in
theorem run_32 (d n m a c imm : Int) : runI Try.prog noE 40 8 [insV 32 d n m a c imm] = chkM 32 d n m a c imm errV okV := by kernel_rfl
set_option maxRecDepth 1000000 in
theorem run_33 (d n m a c imm : Int) : runI Try.prog noE 40 8 [insV 33 d n m a c imm] = chkM 33 d n m a c imm errV okV := by kernel_rfl
set_option maxRecDepth 1000000 in
theorem run_34 (d n m a c imm : Int) : runI Try.prog noE 40 8 [insV 34 d n m a c imm] = chkM 34 d n m a c imm errV okV := by kernel_rfl
set_option maxRecDepth 1000000 in
theorem run_35 (d n m a c imm : Int) : runI Try.prog noE 40 8 [insV 35 d n m a c imm] = chkM 35 d n m a c imm errV okV := by kernel_rfl
set_option maxRecDepth 1000000 in
theorem run_36 (d n m a c imm : Int) : runI Try.prog noE 40 8 [insV 36 d n m a c imm] = chkM 36 d n m a c imm errV okV := by kernel_rfl
set_option maxRecDepth 1000000 in
theorem run_37 (d n m a c imm : Int) : runI Try.prog noE 40 8 [insV 37 d n m a c imm] = chkM 37 d n m a c imm errV okV := by kernel_rfl
set_option maxRecDepth 1000000 in
theorem run_38 (d n m a c imm : Int) : runI Try.prog noE 40 8 [insV 38 d n m a c imm] = chkM 38 d n m a c imm errV okV := by kernel_rfl
set_option maxRecDepth 1000000 in
theorem run_39 (d n m a c imm : Int) : runI Try.prog noE 40 8 [insV 39 d n m a c imm] = chkM 39 d n m a c imm errV okV := by kernel_rfl
set_option maxRecDepth 1000000 in
theorem run_40 (d n m a c imm : Int) : runI Try.prog noE 40 8 [insV 40 d n m a c imm] = chkM 40 d n m a c imm errV okV := by kernel_rfl
set_option maxRecDepth 1000000 in
theorem run_41 (d n m a c imm : Int) : runI Try.prog noE 40 8 [insV 41 d n m a c imm] = chkM 41 d n m a c imm errV okV := by kernel_rfl
set_option maxRecDepth 1000000 in
theorem run_42 (d n m a c imm : Int) : runI Try.prog noE 40 8 [insV 42 d n m a c imm] = chkM 42 d n m a c imm errV okV := by kernel_rfl
theorem chkRun (d n m a c imm : Int) : ∀ k : Nat, k < 43 → runI Try.prog noE 40 8 [insV (k : Nat) d n m a c imm] = chkM k d n m a c imm errV okV
  | 0, _ => run_0 ..
  | 1, _ => run_1 ..
  | 2, _ => run_2 ..
  | 3, _ => run_3 ..
  | 4, _ => run_4 ..
  | 5, _ => run_5 ..
  | 6, _ => run_6 ..
  | 7, _ => run_7 ..
  | 8, _ => run_8 ..
  | 9, _ => run_9 ..
  | 10, _ => run_10 ..
  | 11, _ => run_11 ..
  | 12, _ => run_12 ..
  | 13, _ => run_13 ..
  | 14, _ => run_14 ..
  | 15, _ => run_15 ..
  | 16, _ => run_16 ..
  | 17, _ => run_17 ..
  | 18, _ => run_18 ..
  | 19, _ => run_19 ..
  | 20, _ => run_20 ..
  | 21, _ => run_21 ..
  | 22, _ => run_22 ..
  | 23, _ => run_23 ..
  | 24, _ => run_24 ..
  | 25, _ => run_25 ..
  | 26, _ => run_26 ..
  | 27, _ => run_27 ..
  | 28, _ => run_28 ..
  | 29, _ => run_29 ..
  | 30, _ => run_30 ..
  | 31, _ => run_31 ..
  | 32, _ => run_32 ..
  | 33, _ => run_33 ..
  | 34, _ => run_34 ..
  | 35, _ => run_35 ..
  | 36, _ => run_36 ..
  | 37, _ => run_37 ..
  | 38, _ => run_38 ..
  | 39, _ => run_39 ..
  | 40, _ => run_40 ..
  | 41, _ => run_41 ..
  | 42, _ => run_42 ..
  | k + 43, h => absurd h (by omega)
theorem out_eq (op d n m a c imm : Int) (K : Res → Prop) : evTo Try.prog noE 40 0 (fun _ => False) [0, 0] (codeOf Try.prog 8) ⟨(funcOf Try.prog 8).ntmps, zipArgs 0 [insV op d n m a c imm], []⟩ (bodyK False Try.prog (funcOf Try.prog 8) fun r _ => K r) =
    Br (decide (op < 0)) (K (.ret (.raw (.int .i64 1)))) (Br (decide (op > 42)) (K (.ret (.raw (.int .i64 1)))) False) := by kernel_rfl
theorem chk_ok (op d n m a c imm : Int) : CallOk Try.prog 8 [insV op d n m a c imm] [] fun r _ => r = .ret (.raw (.int .i64 (chkV op d n m a c imm))) := by
  by_cases h0 : 0 ≤ op ∧ op ≤ 42
  · refine runI_ok noE_ok names mixed (n := 40) ?_
    obtain ⟨k, rfl⟩ := Int.eq_ofNat_of_zero_le h0.1
    rw [chkRun d n m a c imm k (by omega), chkM_eq]
    by_cases h : okP k d n m a c imm
    · rw [if_pos h]
      have : chkV (k : Nat) d n m a c imm = 0 := if_pos ⟨h0, h⟩
      rw [this]; rfl
    · rw [if_neg h]
      have : chkV (k : Nat) d n m a c imm = 1 := if_neg fun hh => h hh.2
      rw [this]; rfl
  · have : chkV op d n m a c imm = 1 := if_neg fun hh => h0 hh.1
    rw [this]
    refine CallOk.fnB names (by kernel_rfl) ?_
    refine CodeB.mono (K := bodyK False Try.prog (funcOf Try.prog 8) fun r _ => r = .ret (.raw (.int .i64 1))) ?_ fun _ _ h => h
    refine evTo_ok noE_ok names mixed (n := 40) (b := 0) (Z := fun _ => False) [0, 0] _ _ _ (fun st hz => hz.elim) ?_
    have hq := out_eq op d n m a c imm fun r => r = .ret (.raw (.int .i64 1))
    rw [hq, Br_if, Br_if]
    repeat' split
    · rfl
    · rfl
    · omega
def chkG : List V → Option V
  | [v] => match readIns v with
    | some (op, d, n, m, a, c, imm) => some (.raw (.int .i64 (chkV op d n m a c imm)))
    | none => none
  | _ => none
theorem insV_bd (op d n m a c imm : Int) (q : Nat) : (insV op d n m a c imm).bd q := by simp [insV, V.bd, bdL]
theorem chkG_ok {E : Eh} (hE : EOk Try.prog E) : EOk Try.prog (specE 8 chkG E) := by
  refine specE_ok hE fun args v h => ?_
  unfold chkG at h
  split at h
  · split at h
    · rename_i u op d n m a c imm hr
      cases h
      rw [readIns_eq hr]
      exact ⟨⟨insV_bd .., trivial⟩, trivial, chk_ok ..⟩
    · cases h
  · cases h
end Go.Proofs.YtpahclogghdnpaaDoor.isa
end
section
/- A64Names: the law's function tells true. -/
set_option linter.unusedVariables false
set_option linter.unusedSimpArgs false
set_option maxRecDepth 1000000
namespace Go.Proofs.YtpahclogghdnpaaDoor.a64
open Go Go.Proofs Go.Proofs.YtpahclogghdnpaaDoorRL Go.Proofs.YtpahclogghdnpaaDoor.isa
noncomputable def EKn : Eh := specE 8 chkG (addE 15 nameA noE)
theorem EKn_ok : EOk Try.prog EKn := chkG_ok (nameA_ok noE_ok)
theorem kn_eq (K : V → Prop) : callG Try.prog EKn 400 7 [] [gE] (rK K) = K (bV true) := by kernel_rfl
theorem kn_ok : CallOk Try.prog 7 [] [gE] fun r _ => r = .ret (bV true) := by
  refine (callG_ok EKn_ok names mixed (n := 400) (K := rK fun v => v = bV true) ?_).mono rK_ok
  rw [kn_eq]
/-- known(), as a table's line. -/
def knA : List V → Sto → Option Ans := fun args s => match args with
  | [] => match isG s 0 with
    | true => some (.one (.ret (bV true)) s)
    | false => none
  | _ => none
theorem knA_ok {E : Eh} (hE : EOk Try.prog E) : EOk Try.prog (addE 7 knA E) := by
  refine addE_ok hE fun args s a h hf => ?_
  unfold knA at h
  split at h
  · split at h
    · rename_i hg
      cases h
      refine CallOk.reads (v := bV true) trivial kn_ok.plain fun ρ w hr hs => ⟨fun _ => ρ 0, [], [gE], rfl, ⟨fun j x hx => ?_, fun a b e f ha _ ho => ?_⟩, fun j x hx => ?_, trivial, fun j e he => ?_, kn_ok⟩
      · cases j with
        | zero => simp at hx; subst hx; exact hr.ent 0 _ (isG_eq hg)
        | succ j => simp at hx
      · cases a with
        | zero => simp at ha; subst ha; cases ho
        | succ a => simp at ha
      · cases j with
        | zero => simp at hx; subst hx; trivial
        | succ j => simp at hx
      · cases j with
        | zero => simp at he; subst he; rfl
        | succ j => simp at he
    · cases h
  · cases h
end Go.Proofs.YtpahclogghdnpaaDoor.a64
end
section
/- a64.plain: registers in order, each once, without 31. -/
set_option linter.unusedVariables false
set_option linter.unusedSimpArgs false
namespace Go.Proofs.YtpahclogghdnpaaDoor.isa
open Go Go.Proofs Go.Proofs.YtpahclogghdnpaaDoorRL
/-- Two or three numbers in order, as they are put there. -/
def sortL : List Int → List Int
  | [a, b] => if b < a then [b, a] else [a, b]
  | [a, b, c] => if b < a then (if c < a then (if c < b then [c, b, a] else [b, c, a]) else [b, a, c]) else (if c < b then (if c < a then [c, a, b] else [a, c, b]) else [a, b, c])
  | l => l
def filtL (l : List Int) : List Int := l.filter fun x => !(x == 31)
def dedL : List Int → List Int
  | [a, b] => if b = a then [a] else [a, b]
  | [a, b, c] => if b = a then (if c = b then [a] else [a, c]) else (if c = b then [a, b] else [a, b, c])
  | l => l
def plainL (l : List Int) : List Int := filtL (dedL (sortL l))
def lessG : List V → Option V
  | [.raw (.int .i64 a), .raw (.int .i64 b)] => some (.raw (.bool (decide (a < b))))
  | _ => none
def AR (g : Nat → Int) (n : Nat) (t : TypeId) : Sto := [.no, .arr (.grow 0) [.int .i64 g] n t]
def lc (l : List Int) : Nat → Int := fun j => l.getD j 0
def gl (g : Nat → Int) : Nat → List Int
  | 1 => [g 0]
  | 2 => [g 0, g 1]
  | 3 => [g 0, g 1, g 2]
  | _ => []
theorem less_run (a b : Int) (K : Res → Prop) : callG Try.prog noE 100 59 [.raw (.int .i64 a), .raw (.int .i64 b)] [] (fun r _ => K r) = Br (a != a) (Br (!(b != b)) (K (.ret (.raw (.bool true)))) (K (.ret (.raw (.bool (decide (a < b))))))) (K (.ret (.raw (.bool (decide (a < b)))))) := by kernel_rfl
theorem lessG_ok {E : Eh} (hE : EOk Try.prog E) : EOk Try.prog (specE 59 lessG E) := by
  refine specE_ok hE fun args v h => ?_
  unfold lessG at h
  split at h
  · rename_i a b
    cases h
    refine ⟨⟨trivial, trivial, trivial⟩, trivial, callG_ok noE_ok names mixed (n := 100) ?_⟩
    have hp := less_run a b fun r => r = .ret (.raw (.bool (decide (a < b))))
    refine hp.mpr ?_
    rw [bne_self_eq_false]
    exact rfl
  · cases h
noncomputable def ELs : Eh := specE 59 lessG noE
theorem ELs_ok : EOk Try.prog ELs := lessG_ok noE_ok
end Go.Proofs.YtpahclogghdnpaaDoor.isa
end
section
/- formulas; printed by fm.py out of fm2.YtpahclogghdnpaaDoor.spec. -/
namespace Go.Proofs.YtpahclogghdnpaaDoor.plainF
open Go Go.Proofs Go.Proofs.YtpahclogghdnpaaDoorRL  Go.Proofs.YtpahclogghdnpaaDoor.isa
set_option linter.unusedVariables false
def s1_f (g : Nat → Int) (t : TypeId) (K : Res → Sto → Prop) : Prop :=
K (Res.ret (V.tup [])) [Ent.no, Ent.arr (AM.grow 0) [Col.int IntKind.i64 g] 1 t]
set_option maxRecDepth 1000000 in
theorem s1_eq (g : Nat → Int) (t : TypeId) (K : Res → Sto → Prop) : callG Try.prog ELs 100 43 [.lse 1 0 1 0 1] (AR g 1 t) K = s1_f g  t  K := by kernel_rfl
def s2_f (g : Nat → Int) (t : TypeId) (K : Res → Sto → Prop) : Prop :=
(match decide (g 1 < g 0) with
| true => K (Res.ret (V.tup [])) [Ent.no, Ent.arr (AM.grow 0) [Col.int IntKind.i64 fun j ↦ match j.beq 0 with | true => g 1 | false => match j.beq 1 with | true => g 0 | false => g j] 2 t]
| false => K (Res.ret (V.tup [])) [Ent.no, Ent.arr (AM.grow 0) [Col.int IntKind.i64 g] 2 t])
set_option maxRecDepth 1000000 in
theorem s2_eq (g : Nat → Int) (t : TypeId) (K : Res → Sto → Prop) : callG Try.prog ELs 100 43 [.lse 1 0 1 0 2] (AR g 2 t) K = s2_f g  t  K := by kernel_rfl
def s3_f (g : Nat → Int) (t : TypeId) (K : Res → Sto → Prop) : Prop :=
(match decide (g 1 < g 0) with
| true => (match decide (g 2 < g 0) with
 | true => (match decide (g 2 < g 1) with
  | true => K (Res.ret (V.tup [])) [Ent.no, Ent.arr (AM.grow 0) [Col.int IntKind.i64 fun j ↦ match j.beq 0 with | true => g 2 | false => match j.beq 1 with | true => g 1 | false => match j.beq 1 with | true => g 2 | false => match j.beq 2 with | true => g 0 | false => match j.beq 0 with | true => g 1 | false => match j.beq 1 with | true => g 0 | false => g j] 3 t]
  | false => K (Res.ret (V.tup [])) [Ent.no, Ent.arr (AM.grow 0) [Col.int IntKind.i64 fun j ↦ match j.beq 1 with | true => g 2 | false => match j.beq 2 with | true => g 0 | false => match j.beq 0 with | true => g 1 | false => match j.beq 1 with | true => g 0 | false => g j] 3 t])
 | false => K (Res.ret (V.tup [])) [Ent.no, Ent.arr (AM.grow 0) [Col.int IntKind.i64 fun j ↦ match j.beq 0 with | true => g 1 | false => match j.beq 1 with | true => g 0 | false => g j] 3 t])
| false => (match decide (g 2 < g 1) with
 | true => (match decide (g 2 < g 0) with
  | true => K (Res.ret (V.tup [])) [Ent.no, Ent.arr (AM.grow 0) [Col.int IntKind.i64 fun j ↦ match j.beq 0 with | true => g 2 | false => match j.beq 1 with | true => g 0 | false => match j.beq 1 with | true => g 2 | false => match j.beq 2 with | true => g 1 | false => g j] 3 t]
  | false => K (Res.ret (V.tup [])) [Ent.no, Ent.arr (AM.grow 0) [Col.int IntKind.i64 fun j ↦ match j.beq 1 with | true => g 2 | false => match j.beq 2 with | true => g 1 | false => g j] 3 t])
 | false => K (Res.ret (V.tup [])) [Ent.no, Ent.arr (AM.grow 0) [Col.int IntKind.i64 g] 3 t]))
set_option maxRecDepth 1000000 in
theorem s3_eq (g : Nat → Int) (t : TypeId) (K : Res → Sto → Prop) : callG Try.prog ELs 100 43 [.lse 1 0 1 0 3] (AR g 3 t) K = s3_f g  t  K := by kernel_rfl
def c1_f (g : Nat → Int) (t : TypeId) (K : Res → Sto → Prop) : Prop :=
K (Res.ret (V.lse 1 0 1 0 1)) [Ent.no, Ent.arr (AM.grow 0) [Col.int IntKind.i64 g] 1 t]
set_option maxRecDepth 1000000 in
theorem c1_eq (g : Nat → Int) (t : TypeId) (K : Res → Sto → Prop) : callG Try.prog ELs 100 45 [.lse 1 0 1 0 1] (AR g 1 t) K = c1_f g  t  K := by kernel_rfl
def c2_f (g : Nat → Int) (t : TypeId) (K : Res → Sto → Prop) : Prop :=
(match g 1 == g 0 with
| true => K (Res.ret (V.lse 1 0 1 0 1)) [Ent.no, Ent.arr (AM.grow 0) [Col.int IntKind.i64 fun j ↦ match Nat.ble 1 j && j.blt 2 with | true => 0 | false => g j] 2 t]
| false => K (Res.ret (V.lse 1 0 1 0 2)) [Ent.no, Ent.arr (AM.grow 0) [Col.int IntKind.i64 g] 2 t])
set_option maxRecDepth 1000000 in
theorem c2_eq (g : Nat → Int) (t : TypeId) (K : Res → Sto → Prop) : callG Try.prog ELs 100 45 [.lse 1 0 1 0 2] (AR g 2 t) K = c2_f g  t  K := by kernel_rfl
def c3_f (g : Nat → Int) (t : TypeId) (K : Res → Sto → Prop) : Prop :=
(match g 1 == g 0 with
| true => (match g 2 != g 1 with
 | true => K (Res.ret (V.lse 1 0 1 0 2)) [Ent.no, Ent.arr (AM.grow 0) [Col.int IntKind.i64 fun j ↦ match Nat.ble 2 j && j.blt 3 with | true => 0 | false => match j.beq 1 with | true => g 2 | false => g j] 3 t]
 | false => K (Res.ret (V.lse 1 0 1 0 1)) [Ent.no, Ent.arr (AM.grow 0) [Col.int IntKind.i64 fun j ↦ match Nat.ble 1 j && j.blt 3 with | true => 0 | false => g j] 3 t])
| false => (match g 2 == g 1 with
 | true => K (Res.ret (V.lse 1 0 1 0 2)) [Ent.no, Ent.arr (AM.grow 0) [Col.int IntKind.i64 fun j ↦ match Nat.ble 2 j && j.blt 3 with | true => 0 | false => g j] 3 t]
 | false => K (Res.ret (V.lse 1 0 1 0 3)) [Ent.no, Ent.arr (AM.grow 0) [Col.int IntKind.i64 g] 3 t]))
set_option maxRecDepth 1000000 in
theorem c3_eq (g : Nat → Int) (t : TypeId) (K : Res → Sto → Prop) : callG Try.prog ELs 100 45 [.lse 1 0 1 0 3] (AR g 3 t) K = c3_f g  t  K := by kernel_rfl
def d1_f (g : Nat → Int) (t : TypeId) (K : Res → Sto → Prop) : Prop :=
(match g 0 == 31 with
| true => K (Res.ret (V.lse 1 0 1 0 0)) [Ent.no, Ent.arr (AM.grow 0) [Col.int IntKind.i64 fun j ↦ match true && j.blt 1 with | true => 0 | false => g j] 1 t]
| false => K (Res.ret (V.lse 1 0 1 0 1)) [Ent.no, Ent.arr (AM.grow 0) [Col.int IntKind.i64 g] 1 t])
set_option maxRecDepth 1000000 in
theorem d1_eq (g : Nat → Int) (t : TypeId) (K : Res → Sto → Prop) : callG Try.prog ELs 100 44 [.lse 1 0 1 0 1, .fn (.func 46) [] []] (AR g 1 t) K = d1_f g  t  K := by kernel_rfl
def d2_f (g : Nat → Int) (t : TypeId) (K : Res → Sto → Prop) : Prop :=
(match g 0 == 31 with
| true => (match !g 1 == 31 with
 | true => K (Res.ret (V.lse 1 0 1 0 1)) [Ent.no, Ent.arr (AM.grow 0) [Col.int IntKind.i64 fun j ↦ match Nat.ble 1 j && j.blt 2 with | true => 0 | false => match j.beq 0 with | true => g 1 | false => g j] 2 t]
 | false => K (Res.ret (V.lse 1 0 1 0 0)) [Ent.no, Ent.arr (AM.grow 0) [Col.int IntKind.i64 fun j ↦ match true && j.blt 2 with | true => 0 | false => g j] 2 t])
| false => (match g 1 == 31 with
 | true => K (Res.ret (V.lse 1 0 1 0 1)) [Ent.no, Ent.arr (AM.grow 0) [Col.int IntKind.i64 fun j ↦ match Nat.ble 1 j && j.blt 2 with | true => 0 | false => g j] 2 t]
 | false => K (Res.ret (V.lse 1 0 1 0 2)) [Ent.no, Ent.arr (AM.grow 0) [Col.int IntKind.i64 g] 2 t]))
set_option maxRecDepth 1000000 in
theorem d2_eq (g : Nat → Int) (t : TypeId) (K : Res → Sto → Prop) : callG Try.prog ELs 100 44 [.lse 1 0 1 0 2, .fn (.func 46) [] []] (AR g 2 t) K = d2_f g  t  K := by kernel_rfl
def d3_f (g : Nat → Int) (t : TypeId) (K : Res → Sto → Prop) : Prop :=
(match g 0 == 31 with
| true => (match !g 1 == 31 with
 | true => (match !g 2 == 31 with
  | true => K (Res.ret (V.lse 1 0 1 0 2)) [Ent.no, Ent.arr (AM.grow 0) [Col.int IntKind.i64 fun j ↦ match Nat.ble 2 j && j.blt 3 with | true => 0 | false => match j.beq 1 with | true => g 2 | false => match j.beq 0 with | true => g 1 | false => g j] 3 t]
  | false => K (Res.ret (V.lse 1 0 1 0 1)) [Ent.no, Ent.arr (AM.grow 0) [Col.int IntKind.i64 fun j ↦ match Nat.ble 1 j && j.blt 3 with | true => 0 | false => match j.beq 0 with | true => g 1 | false => g j] 3 t])
 | false => (match !g 2 == 31 with
  | true => K (Res.ret (V.lse 1 0 1 0 1)) [Ent.no, Ent.arr (AM.grow 0) [Col.int IntKind.i64 fun j ↦ match Nat.ble 1 j && j.blt 3 with | true => 0 | false => match j.beq 0 with | true => g 2 | false => g j] 3 t]
  | false => K (Res.ret (V.lse 1 0 1 0 0)) [Ent.no, Ent.arr (AM.grow 0) [Col.int IntKind.i64 fun j ↦ match true && j.blt 3 with | true => 0 | false => g j] 3 t]))
| false => (match g 1 == 31 with
 | true => (match !g 2 == 31 with
  | true => K (Res.ret (V.lse 1 0 1 0 2)) [Ent.no, Ent.arr (AM.grow 0) [Col.int IntKind.i64 fun j ↦ match Nat.ble 2 j && j.blt 3 with | true => 0 | false => match j.beq 1 with | true => g 2 | false => g j] 3 t]
  | false => K (Res.ret (V.lse 1 0 1 0 1)) [Ent.no, Ent.arr (AM.grow 0) [Col.int IntKind.i64 fun j ↦ match Nat.ble 1 j && j.blt 3 with | true => 0 | false => g j] 3 t])
 | false => (match g 2 == 31 with
  | true => K (Res.ret (V.lse 1 0 1 0 2)) [Ent.no, Ent.arr (AM.grow 0) [Col.int IntKind.i64 fun j ↦ match Nat.ble 2 j && j.blt 3 with | true => 0 | false => g j] 3 t]
  | false => K (Res.ret (V.lse 1 0 1 0 3)) [Ent.no, Ent.arr (AM.grow 0) [Col.int IntKind.i64 g] 3 t])))
set_option maxRecDepth 1000000 in
theorem d3_eq (g : Nat → Int) (t : TypeId) (K : Res → Sto → Prop) : callG Try.prog ELs 100 44 [.lse 1 0 1 0 3, .fn (.func 46) [] []] (AR g 3 t) K = d3_f g  t  K := by kernel_rfl
end Go.Proofs.YtpahclogghdnpaaDoor.plainF
end
section
/- a64.plain, as a table's line. -/
set_option linter.unusedVariables false
set_option linter.unusedSimpArgs false
namespace Go.Proofs.YtpahclogghdnpaaDoor.isa
open Go Go.Proofs Go.Proofs.YtpahclogghdnpaaDoorRL
open Go.Proofs.YtpahclogghdnpaaDoor.plainF
theorem leafS {c : Nat → Int} {l : List Int} {n N : Nat} {t : TypeId} (hn : n ≤ N) (h : ∀ j, j < n → c j = lc l j) : stoEqv [.no, .arr (.grow 0) [.int .i64 c] N t] (AR (lc l) n t) :=
  ⟨.inl rfl, .inr ⟨rfl, .inr ⟨⟨0, rfl⟩, hn⟩, rfl, ⟨rfl, h⟩, trivial⟩, trivial⟩
theorem lt1 {p : Nat → Prop} (h0 : p 0) : ∀ j, j < 1 → p j := fun j hj => by
  obtain rfl : j = 0 := by omega
  exact h0
theorem lt2 {p : Nat → Prop} (h0 : p 0) (h1 : p 1) : ∀ j, j < 2 → p j := fun j hj => by
  rcases (show j = 0 ∨ j = 1 by omega) with rfl | rfl
  · exact h0
  · exact h1
theorem lt3 {p : Nat → Prop} (h0 : p 0) (h1 : p 1) (h2 : p 2) : ∀ j, j < 3 → p j := fun j hj => by
  rcases (show j = 0 ∨ j = 1 ∨ j = 2 by omega) with rfl | rfl | rfl
  · exact h0
  · exact h1
  · exact h2
abbrev KS (l : List Int) (n : Nat) (v : V) (t : TypeId) : Res → Sto → Prop := fun r s => ∃ s'', stoEqv s s'' ∧ r = .ret v ∧ s'' = AR (lc l) n t
set_option maxRecDepth 100000 in
theorem sort_ok (g : Nat → Int) (t : TypeId) : ∀ n, 0 < n → n < 4 → CallOk Try.prog 43 [.lse 1 0 1 0 n] (AR g n t) fun r s' => r = .ret (.tup []) ∧ s' = AR (lc (sortL (gl g n))) n t
  | 0, h, _ => absurd h (by omega)
  | 1, _, _ => by
    refine CallOk.eqv (callG_ok ELs_ok names mixed (n := 100) ?_)
    have hp := s1_eq g t (KS (sortL (gl g 1)) 1 (.tup []) t)
    exact hp.mpr ⟨_, leafS (Nat.le_refl _) (lt1 rfl), rfl, rfl⟩
  | 2, _, _ => by
    refine CallOk.eqv (callG_ok ELs_ok names mixed (n := 100) ?_)
    have hp := s2_eq g t (KS (sortL (gl g 2)) 2 (.tup []) t)
    refine hp.mpr ?_
    unfold s2_f
    by_cases h1 : g 1 < g 0
    · have hs : sortL (gl g 2) = [g 1, g 0] := if_pos h1
      simp only [decide_eq_true h1]
      exact ⟨_, leafS (Nat.le_refl _) (by rw [hs]; exact lt2 rfl rfl), rfl, rfl⟩
    · have hs : sortL (gl g 2) = [g 0, g 1] := if_neg h1
      simp only [decide_eq_false h1]
      exact ⟨_, leafS (Nat.le_refl _) (by rw [hs]; exact lt2 rfl rfl), rfl, rfl⟩
  | 3, _, _ => by
    refine CallOk.eqv (callG_ok ELs_ok names mixed (n := 100) ?_)
    have hp := s3_eq g t (KS (sortL (gl g 3)) 3 (.tup []) t)
    refine hp.mpr ?_
    unfold s3_f
    have e : sortL (gl g 3) = if g 1 < g 0 then (if g 2 < g 0 then (if g 2 < g 1 then [g 2, g 1, g 0] else [g 1, g 2, g 0]) else [g 1, g 0, g 2]) else (if g 2 < g 1 then (if g 2 < g 0 then [g 2, g 0, g 1] else [g 0, g 2, g 1]) else [g 0, g 1, g 2]) := rfl
    by_cases h1 : g 1 < g 0
    · by_cases h2 : g 2 < g 0
      · by_cases h3 : g 2 < g 1
        · simp only [decide_eq_true h1, decide_eq_true h2, decide_eq_true h3]
          rw [if_pos h1, if_pos h2, if_pos h3] at e
          exact ⟨_, leafS (Nat.le_refl _) (by rw [e]; exact lt3 rfl rfl rfl), rfl, rfl⟩
        · simp only [decide_eq_true h1, decide_eq_true h2, decide_eq_false h3]
          rw [if_pos h1, if_pos h2, if_neg h3] at e
          exact ⟨_, leafS (Nat.le_refl _) (by rw [e]; exact lt3 rfl rfl rfl), rfl, rfl⟩
      · simp only [decide_eq_true h1, decide_eq_false h2]
        rw [if_pos h1, if_neg h2] at e
        exact ⟨_, leafS (Nat.le_refl _) (by rw [e]; exact lt3 rfl rfl rfl), rfl, rfl⟩
    · by_cases h2 : g 2 < g 1
      · by_cases h3 : g 2 < g 0
        · simp only [decide_eq_false h1, decide_eq_true h2, decide_eq_true h3]
          rw [if_neg h1, if_pos h2, if_pos h3] at e
          exact ⟨_, leafS (Nat.le_refl _) (by rw [e]; exact lt3 rfl rfl rfl), rfl, rfl⟩
        · simp only [decide_eq_false h1, decide_eq_true h2, decide_eq_false h3]
          rw [if_neg h1, if_pos h2, if_neg h3] at e
          exact ⟨_, leafS (Nat.le_refl _) (by rw [e]; exact lt3 rfl rfl rfl), rfl, rfl⟩
      · simp only [decide_eq_false h1, decide_eq_false h2]
        rw [if_neg h1, if_neg h2] at e
        exact ⟨_, leafS (Nat.le_refl _) (by rw [e]; exact lt3 rfl rfl rfl), rfl, rfl⟩
  | n + 4, _, h => absurd h (by omega)
abbrev AV (n : Nat) : V := .lse 1 0 1 0 n
set_option maxRecDepth 100000 in
theorem comp_ok (g : Nat → Int) (t : TypeId) : ∀ n, 0 < n → n < 4 → CallOk Try.prog 45 [AV n] (AR g n t) fun r s' => r = .ret (AV (dedL (gl g n)).length) ∧ s' = AR (lc (dedL (gl g n))) (dedL (gl g n)).length t
  | 0, h, _ => absurd h (by omega)
  | 1, _, _ => by
    refine CallOk.eqv (callG_ok ELs_ok names mixed (n := 100) ?_)
    have hp := c1_eq g t (KS (dedL (gl g 1)) (dedL (gl g 1)).length (AV (dedL (gl g 1)).length) t)
    exact hp.mpr ⟨_, leafS (Nat.le_refl _) (lt1 rfl), rfl, rfl⟩
  | 2, _, _ => by
    refine CallOk.eqv (callG_ok ELs_ok names mixed (n := 100) ?_)
    have hp := c2_eq g t (KS (dedL (gl g 2)) (dedL (gl g 2)).length (AV (dedL (gl g 2)).length) t)
    refine hp.mpr ?_
    unfold c2_f
    by_cases h1 : g 1 = g 0
    · have hs : dedL (gl g 2) = [g 0] := if_pos h1
      rw [hs]
      have b1 : (g 1 == g 0) = true := by rw [h1, beq_self_eq_true]
      simp only [b1]
      exact ⟨_, leafS (by decide) (lt1 rfl), rfl, rfl⟩
    · have hs : dedL (gl g 2) = [g 0, g 1] := if_neg h1
      rw [hs]
      have b1 : (g 1 == g 0) = false := by simp [h1]
      simp only [b1]
      exact ⟨_, leafS (by decide) (lt2 rfl rfl), rfl, rfl⟩
  | 3, _, _ => by
    refine CallOk.eqv (callG_ok ELs_ok names mixed (n := 100) ?_)
    have hp := c3_eq g t (KS (dedL (gl g 3)) (dedL (gl g 3)).length (AV (dedL (gl g 3)).length) t)
    refine hp.mpr ?_
    unfold c3_f
    have e : dedL (gl g 3) = if g 1 = g 0 then (if g 2 = g 1 then [g 0] else [g 0, g 2]) else (if g 2 = g 1 then [g 0, g 1] else [g 0, g 1, g 2]) := rfl
    by_cases h1 : g 1 = g 0
    · have b1 : (g 1 == g 0) = true := by rw [h1, beq_self_eq_true]
      by_cases h2 : g 2 = g 1
      · have b2 : (g 2 != g 1) = false := by rw [h2, bne_self_eq_false]
        rw [if_pos h1, if_pos h2] at e
        rw [e]
        simp only [b1, b2]
        exact ⟨_, leafS (by decide) (lt1 rfl), rfl, rfl⟩
      · have b2 : (g 2 != g 1) = true := by simp [h2]
        rw [if_pos h1, if_neg h2] at e
        rw [e]
        simp only [b1, b2]
        exact ⟨_, leafS (by decide) (lt2 rfl rfl), rfl, rfl⟩
    · have b1 : (g 1 == g 0) = false := by simp [h1]
      by_cases h2 : g 2 = g 1
      · have b2 : (g 2 == g 1) = true := by rw [h2, beq_self_eq_true]
        rw [if_neg h1, if_pos h2] at e
        rw [e]
        simp only [b1, b2]
        exact ⟨_, leafS (by decide) (lt2 rfl rfl), rfl, rfl⟩
      · have b2 : (g 2 == g 1) = false := by simp [h2]
        rw [if_neg h1, if_neg h2] at e
        rw [e]
        simp only [b1, b2]
        exact ⟨_, leafS (by decide) (lt3 rfl rfl rfl), rfl, rfl⟩
  | n + 4, _, h => absurd h (by omega)
theorem filt_t {x : Int} {l : List Int} (h : (x == 31) = true) : filtL (x :: l) = filtL l := by simp [filtL, h]
theorem filt_f {x : Int} {l : List Int} (h : (x == 31) = false) : filtL (x :: l) = x :: filtL l := by
  unfold filtL
  rw [List.filter_cons_of_pos (by simpa using h)]
set_option maxRecDepth 100000 in
theorem del_ok (g : Nat → Int) (t : TypeId) : ∀ n, 0 < n → n < 4 → CallOk Try.prog 44 [AV n, .fn (.func 46) [] []] (AR g n t) fun r s' => r = .ret (AV (filtL (gl g n)).length) ∧ s' = AR (lc (filtL (gl g n))) (filtL (gl g n)).length t
  | 0, h, _ => absurd h (by omega)
  | 1, _, _ => by
    refine CallOk.eqv (callG_ok ELs_ok names mixed (n := 100) ?_)
    have hp := d1_eq g t (KS (filtL (gl g 1)) (filtL (gl g 1)).length (AV (filtL (gl g 1)).length) t)
    refine hp.mpr ?_
    unfold d1_f
    cases b0 : (g 0 == 31)
    · have e : filtL (gl g 1) = [g 0] := filt_f b0
      rw [e]
      exact ⟨_, leafS (by decide) (lt1 rfl), rfl, rfl⟩
    · have e : filtL (gl g 1) = [] := filt_t b0
      rw [e]
      exact ⟨_, leafS (by decide) (fun j hj => absurd hj (by simp)), rfl, rfl⟩
  | 2, _, _ => by
    refine CallOk.eqv (callG_ok ELs_ok names mixed (n := 100) ?_)
    have hp := d2_eq g t (KS (filtL (gl g 2)) (filtL (gl g 2)).length (AV (filtL (gl g 2)).length) t)
    refine hp.mpr ?_
    unfold d2_f
    cases b0 : (g 0 == 31) <;> cases b1 : (g 1 == 31)
    · have e : filtL (gl g 2) = [g 0, g 1] := (filt_f b0).trans (by rw [filt_f b1]; rfl)
      rw [e]
      exact ⟨_, leafS (by decide) (lt2 rfl rfl), rfl, rfl⟩
    · have e : filtL (gl g 2) = [g 0] := (filt_f b0).trans (by rw [filt_t b1]; rfl)
      rw [e]
      exact ⟨_, leafS (by decide) (lt1 rfl), rfl, rfl⟩
    · have e : filtL (gl g 2) = [g 1] := (filt_t b0).trans (by rw [filt_f b1]; rfl)
      rw [e]
      exact ⟨_, leafS (by decide) (lt1 rfl), rfl, rfl⟩
    · have e : filtL (gl g 2) = [] := (filt_t b0).trans (by rw [filt_t b1]; rfl)
      rw [e]
      exact ⟨_, leafS (by decide) (fun j hj => absurd hj (by simp)), rfl, rfl⟩
  | 3, _, _ => by
    refine CallOk.eqv (callG_ok ELs_ok names mixed (n := 100) ?_)
    have hp := d3_eq g t (KS (filtL (gl g 3)) (filtL (gl g 3)).length (AV (filtL (gl g 3)).length) t)
    refine hp.mpr ?_
    unfold d3_f
    cases b0 : (g 0 == 31) <;> cases b1 : (g 1 == 31) <;> cases b2 : (g 2 == 31)
    · have e : filtL (gl g 3) = [g 0, g 1, g 2] := (filt_f b0).trans (by rw [filt_f b1, filt_f b2]; rfl)
      rw [e]
      exact ⟨_, leafS (by decide) (lt3 rfl rfl rfl), rfl, rfl⟩
    · have e : filtL (gl g 3) = [g 0, g 1] := (filt_f b0).trans (by rw [filt_f b1, filt_t b2]; rfl)
      rw [e]
      exact ⟨_, leafS (by decide) (lt2 rfl rfl), rfl, rfl⟩
    · have e : filtL (gl g 3) = [g 0, g 2] := (filt_f b0).trans (by rw [filt_t b1, filt_f b2]; rfl)
      rw [e]
      exact ⟨_, leafS (by decide) (lt2 rfl rfl), rfl, rfl⟩
    · have e : filtL (gl g 3) = [g 0] := (filt_f b0).trans (by rw [filt_t b1, filt_t b2]; rfl)
      rw [e]
      exact ⟨_, leafS (by decide) (lt1 rfl), rfl, rfl⟩
    · have e : filtL (gl g 3) = [g 1, g 2] := (filt_t b0).trans (by rw [filt_f b1, filt_f b2]; rfl)
      rw [e]
      exact ⟨_, leafS (by decide) (lt2 rfl rfl), rfl, rfl⟩
    · have e : filtL (gl g 3) = [g 1] := (filt_t b0).trans (by rw [filt_f b1, filt_t b2]; rfl)
      rw [e]
      exact ⟨_, leafS (by decide) (lt1 rfl), rfl, rfl⟩
    · have e : filtL (gl g 3) = [g 2] := (filt_t b0).trans (by rw [filt_t b1, filt_f b2]; rfl)
      rw [e]
      exact ⟨_, leafS (by decide) (lt1 rfl), rfl, rfl⟩
    · have e : filtL (gl g 3) = [] := (filt_t b0).trans (by rw [filt_t b1, filt_t b2]; rfl)
      rw [e]
      exact ⟨_, leafS (by decide) (fun j hj => absurd hj (by simp)), rfl, rfl⟩
  | n + 4, _, h => absurd h (by omega)
end Go.Proofs.YtpahclogghdnpaaDoor.isa
end
