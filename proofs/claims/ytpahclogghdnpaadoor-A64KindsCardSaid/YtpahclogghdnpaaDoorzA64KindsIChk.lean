/- a64.Check as a table's line. -/
import Derived.Test.YtpahclogghdnpaaDoorzA64KindsRLK
import Derived.Test.YtpahclogghdnpaaDoorzA64KindsRLNames
namespace Go.Proofs.YtpahclogghdnpaaDoor.isa
open Go Go.Proofs Go.Proofs.YtpahclogghdnpaaDoorRL
set_option linter.unusedVariables false
set_option linter.unusedSimpArgs false
/-- The fields of an op, as bits: D, N, M, A, Cond, Imm. -/
def fl (k : Nat) : Nat := match k with
  | 0 | 42 | 37 | 20 | 24 => 32
  | 2 | 3 => 37
  | 4 | 5 | 6 | 28 | 29 | 30 => 35
  | 13 | 14 => 15
  | 19 => 23
  | 21 => 48
  | 22 | 23 => 33
  | 25 | 26 | 27 | 40 | 41 => 2
  | 33 | 34 | 35 => 3
  | 1 | 38 | 39 => 0
  | _ => 7
def bt (k j : Nat) : Bool := Nat.beq (Nat.mod (Nat.div (fl k) (2 ^ j)) 2) 1
def rgP (b : Bool) (v : Int) : Prop := match b with
  | true => 0 ≤ v ∧ v ≤ 31
  | false => v = 0
def cdP (b : Bool) (v : Int) : Prop := match b with
  | true => 0 ≤ v ∧ v ≤ 15
  | false => v = 0
def zeroP (b : Bool) (v : Int) : Prop := match b with
  | true => True
  | false => v = 0
def immP (k : Nat) (imm m c : Int) : Prop := match k with
  | 0 | 42 => 0 ≤ imm ∧ imm < 65536
  | 2 | 3 => 0 ≤ imm ∧ imm < 65536 ∧ m ≤ 3
  | 4 | 5 | 6 | 30 => 0 ≤ imm ∧ imm < 4096
  | 28 | 29 => 0 ≤ imm ∧ imm < 32768 ∧ imm % 8 = 0
  | 20 | 24 => imm % 4 = 0 ∧ -134217728 ≤ imm ∧ imm < 134217728
  | 21 => imm % 4 = 0 ∧ -1048576 ≤ imm ∧ imm < 1048576 ∧ c ≤ 13
  | 22 | 23 => imm % 4 = 0 ∧ -1048576 ≤ imm ∧ imm < 1048576
  | 37 => 0 ≤ imm ∧ imm ≤ 2
  | _ => True
/-- May an instruction of op k be? -/
def okP (k : Nat) (d n m a c imm : Int) : Prop := rgP (bt k 0) d ∧ rgP (bt k 1) n ∧ rgP (bt k 2) m ∧ rgP (bt k 3) a ∧ cdP (bt k 4) c ∧ zeroP (bt k 5) imm ∧ immP k imm m c
instance (b : Bool) (v : Int) : Decidable (rgP b v) := by cases b <;> unfold rgP <;> infer_instance
instance (b : Bool) (v : Int) : Decidable (cdP b v) := by cases b <;> unfold cdP <;> infer_instance
instance (b : Bool) (v : Int) : Decidable (zeroP b v) := by cases b <;> unfold zeroP <;> infer_instance
instance (k : Nat) (imm m c : Int) : Decidable (immP k imm m c) := by unfold immP; split <;> infer_instance
instance (k : Nat) (d n m a c imm : Int) : Decidable (okP k d n m a c imm) := by unfold okP; infer_instance
def okI (op d n m a c imm : Int) : Prop := (0 ≤ op ∧ op ≤ 42) ∧ okP op.toNat d n m a c imm
instance (op d n m a c imm : Int) : Decidable (okI op d n m a c imm) := by unfold okI; infer_instance
/-- What Check answers. -/
def chkV (op d n m a c imm : Int) : Int := if okI op d n m a c imm then 0 else 1
def insV (op d n m a c imm : Int) : V := .agg [.raw (.int .i64 op), .raw (.int .i64 d), .raw (.int .i64 n), .raw (.int .i64 m), .raw (.int .i64 a), .raw (.int .i64 c), .raw (.int .i64 imm)]
def readIns : V → Option (Int × Int × Int × Int × Int × Int × Int)
  | .agg [.raw (.int .i64 op), .raw (.int .i64 d), .raw (.int .i64 n), .raw (.int .i64 m), .raw (.int .i64 a), .raw (.int .i64 c), .raw (.int .i64 imm)] => some (op, d, n, m, a, c, imm)
  | _ => none
theorem readIns_eq {v : V} {op d n m a c imm : Int} (h : readIns v = some (op, d, n, m, a, c, imm)) : v = insV op d n m a c imm := by
  unfold readIns at h
  split at h
  · cases h; rfl
  · cases h
/-- The code's tests, in their order. -/
def regM {R : Type} (b : Bool) (v : Int) (E Z : R) : R := Br (decide (v < 0)) E (Br (decide (v > 31)) E (Br (v != 0) (match b with | true => Z | false => E) Z))
def farM {R : Type} (v : Int) (lo hi : Int) (K : Bool → R) : R := Br (v.tmod 4 == 0) (Br (decide (v ≥ lo)) (K (decide (v < hi))) (K false)) (K false)
def fitsM {R : Type} (k : Nat) (imm m c : Int) (K : Bool → R) : R := match k with
  | 0 | 42 => Br (decide (imm ≥ 0)) (K (decide (imm < 65536))) (K false)
  | 2 | 3 => Br (decide (imm ≥ 0)) (Br (decide (imm < 65536)) (K (decide (m ≤ 3))) (K false)) (K false)
  | 4 | 5 | 6 | 30 => Br (decide (imm ≥ 0)) (K (decide (imm < 4096))) (K false)
  | 28 | 29 => Br (decide (imm ≥ 0)) (Br (decide (imm < 32768)) (K (imm.tmod 8 == 0)) (K false)) (K false)
  | 20 | 24 => farM imm (-134217728) 134217728 K
  | 21 => farM imm (-1048576) 1048576 fun b => Br b (K (decide (c ≤ 13))) (K false)
  | 22 | 23 => farM imm (-1048576) 1048576 K
  | 37 => Br (decide (imm ≥ 0)) (K (decide (imm ≤ 2))) (K false)
  | _ => K true
def chkM {R : Type} (k : Nat) (d n m a c imm : Int) (E Z : R) : R :=
  regM (bt k 0) d E (regM (bt k 1) n E (regM (bt k 2) m E (regM (bt k 3) a E
    (Br (decide (c < 0)) E (Br (decide (c > 15)) E (Br (c != 0) (match bt k 4 with | true => immM | false => E) immM)))))) 
where immM : R := Br (imm != 0) (match bt k 5 with | true => fitM | false => E) fitM
      fitM : R := fitsM k imm m c fun b => Br (!b) E Z
def errV : Option V := some (.raw (.int .i64 1))
def okV : Option V := some (.raw (.int .i64 0))
theorem Br_if {R : Type} {p : Prop} [Decidable p] {A B : R} : Br (decide p) A B = if p then A else B := by
  by_cases h : p
  · rw [decide_eq_true h, if_pos h]; rfl
  · rw [decide_eq_false h, if_neg h]; rfl
theorem Br_same {R : Type} {b : Bool} {A : R} : Br b A A = A := by cases b <;> rfl
theorem bne_dec (a b : Int) : (a != b) = decide (¬ a = b) := by
  by_cases h : a = b <;> simp [h]
theorem beq_dec (a b : Int) : (a == b) = decide (a = b) := by
  by_cases h : a = b <;> simp [h]
theorem tmod_dec (a : Int) (b : Int) (hb : b = 4 ∨ b = 8) : (a.tmod b == 0) = decide (a % b = 0) := by
  rw [beq_dec]
  refine decide_eq_decide.2 ?_
  rcases hb with rfl | rfl
  · exact ⟨fun h => by have := Int.dvd_of_tmod_eq_zero h; omega, fun h => Int.tmod_eq_zero_of_dvd (by omega)⟩
  · exact ⟨fun h => by have := Int.dvd_of_tmod_eq_zero h; omega, fun h => Int.tmod_eq_zero_of_dvd (by omega)⟩
theorem Br_not {R : Type} {p : Prop} [Decidable p] {A B : R} : Br (!decide p) A B = if p then B else A := by
  by_cases h : p
  · rw [decide_eq_true h, if_pos h]; rfl
  · rw [decide_eq_false h, if_neg h]; rfl
theorem regM_eq {R : Type} (b : Bool) (v : Int) (E Z : R) : regM b v E Z = if rgP b v then Z else E := by
  unfold regM
  rw [bne_dec, Br_if, Br_if, Br_if]
  by_cases h : rgP b v
  · rw [if_pos h]
    cases b <;> simp only [rgP] at h <;> dsimp only <;> (repeat' split) <;> first | rfl | omega
  · rw [if_neg h]
    cases b <;> simp only [rgP] at h <;> dsimp only <;> (repeat' split) <;> first | rfl | omega
theorem fits_if {R : Type} (k : Nat) (imm m c : Int) (E Z : R) : fitsM k imm m c (fun b => Br (!b) E Z) = if immP k imm m c then Z else E := by
  unfold fitsM immP farM
  split <;> simp only [Br_if, Br_not, Br_same, tmod_dec _ _ (.inl rfl), tmod_dec _ _ (.inr rfl)] <;> (repeat' split) <;> first | rfl | omega | exact absurd trivial ‹¬True›
theorem chkM_eq {R : Type} (k : Nat) (d n m a c imm : Int) (E Z : R) : chkM k d n m a c imm E Z = if okP k d n m a c imm then Z else E := by
  unfold chkM
  simp only [regM_eq, chkM.immM, chkM.fitM, fits_if, bne_dec, Br_if]
  by_cases h : okP k d n m a c imm
  · rw [if_pos h]
    obtain ⟨h1, h2, h3, h4, h5, h6, h7⟩ := h
    rw [if_pos h1, if_pos h2, if_pos h3, if_pos h4, if_pos h7]
    cases h8 : bt k 4 <;> cases h9 : bt k 5 <;> rw [h8] at h5 <;> rw [h9] at h6 <;> simp only [cdP, zeroP] at h5 h6 <;> dsimp only <;> (repeat' split) <;> first | rfl | omega
  · rw [if_neg h]
    by_cases h1 : rgP (bt k 0) d
    · by_cases h2 : rgP (bt k 1) n
      · by_cases h3 : rgP (bt k 2) m
        · by_cases h4 : rgP (bt k 3) a
          · by_cases h7 : immP k imm m c
            · have h' : ¬ (cdP (bt k 4) c ∧ zeroP (bt k 5) imm) := fun ⟨h5, h6⟩ => h ⟨h1, h2, h3, h4, h5, h6, h7⟩
              rw [if_pos h1, if_pos h2, if_pos h3, if_pos h4, if_pos h7]
              cases h8 : bt k 4 <;> cases h9 : bt k 5 <;> rw [h8, h9] at h' <;> simp only [cdP, zeroP, and_true] at h' <;> dsimp only <;> (repeat' split) <;> first | rfl | omega
            · rw [if_neg h7]
              cases bt k 4 <;> cases bt k 5 <;> (repeat' split) <;> rfl
          · rw [if_neg h4]; simp only [ite_self]
        · rw [if_neg h3]; simp only [ite_self]
      · rw [if_neg h2]; simp only [ite_self]
    · rw [if_neg h1]
set_option maxRecDepth 1000000 in
theorem run_0 (d n m a c imm : Int) : runI Try.prog noE 40 8 [insV 0 d n m a c imm] = chkM 0 d n m a c imm errV okV := by kernel_rfl
set_option maxRecDepth 1000000 in
theorem run_1 (d n m a c imm : Int) : runI Try.prog noE 40 8 [insV 1 d n m a c imm] = chkM 1 d n m a c imm errV okV := by kernel_rfl
set_option maxRecDepth 1000000 in
theorem run_2 (d n m a c imm : Int) : runI Try.prog noE 40 8 [insV 2 d n m a c imm] = chkM 2 d n m a c imm errV okV := by kernel_rfl
set_option maxRecDepth 1000000 in
theorem run_3 (d n m a c imm : Int) : runI Try.prog noE 40 8 [insV 3 d n m a c imm] = chkM 3 d n m a c imm errV okV := by kernel_rfl
set_option maxRecDepth 1000000 in
theorem run_4 (d n m a c imm : Int) : runI Try.prog noE 40 8 [insV 4 d n m a c imm] = chkM 4 d n m a c imm errV okV := by kernel_rfl
set_option maxRecDepth 1000000 in
theorem run_5 (d n m a c imm : Int) : runI Try.prog noE 40 8 [insV 5 d n m a c imm] = chkM 5 d n m a c imm errV okV := by kernel_rfl
set_option maxRecDepth 1000000 in
theorem run_6 (d n m a c imm : Int) : runI Try.prog noE 40 8 [insV 6 d n m a c imm] = chkM 6 d n m a c imm errV okV := by kernel_rfl
set_option maxRecDepth 1000000 in
theorem run_7 (d n m a c imm : Int) : runI Try.prog noE 40 8 [insV 7 d n m a c imm] = chkM 7 d n m a c imm errV okV := by kernel_rfl
set_option maxRecDepth 1000000 in
theorem run_8 (d n m a c imm : Int) : runI Try.prog noE 40 8 [insV 8 d n m a c imm] = chkM 8 d n m a c imm errV okV := by kernel_rfl
set_option maxRecDepth 1000000 in
theorem run_9 (d n m a c imm : Int) : runI Try.prog noE 40 8 [insV 9 d n m a c imm] = chkM 9 d n m a c imm errV okV := by kernel_rfl
set_option maxRecDepth 1000000 in
theorem run_10 (d n m a c imm : Int) : runI Try.prog noE 40 8 [insV 10 d n m a c imm] = chkM 10 d n m a c imm errV okV := by kernel_rfl
set_option maxRecDepth 1000000 in
theorem run_11 (d n m a c imm : Int) : runI Try.prog noE 40 8 [insV 11 d n m a c imm] = chkM 11 d n m a c imm errV okV := by kernel_rfl
set_option maxRecDepth 1000000 in
theorem run_12 (d n m a c imm : Int) : runI Try.prog noE 40 8 [insV 12 d n m a c imm] = chkM 12 d n m a c imm errV okV := by kernel_rfl
set_option maxRecDepth 1000000 in
theorem run_13 (d n m a c imm : Int) : runI Try.prog noE 40 8 [insV 13 d n m a c imm] = chkM 13 d n m a c imm errV okV := by kernel_rfl
set_option maxRecDepth 1000000 in
theorem run_14 (d n m a c imm : Int) : runI Try.prog noE 40 8 [insV 14 d n m a c imm] = chkM 14 d n m a c imm errV okV := by kernel_rfl
set_option maxRecDepth 1000000 in
theorem run_15 (d n m a c imm : Int) : runI Try.prog noE 40 8 [insV 15 d n m a c imm] = chkM 15 d n m a c imm errV okV := by kernel_rfl
set_option maxRecDepth 1000000 in
theorem run_16 (d n m a c imm : Int) : runI Try.prog noE 40 8 [insV 16 d n m a c imm] = chkM 16 d n m a c imm errV okV := by kernel_rfl
set_option maxRecDepth 1000000 in
theorem run_17 (d n m a c imm : Int) : runI Try.prog noE 40 8 [insV 17 d n m a c imm] = chkM 17 d n m a c imm errV okV := by kernel_rfl
set_option maxRecDepth 1000000 in
theorem run_18 (d n m a c imm : Int) : runI Try.prog noE 40 8 [insV 18 d n m a c imm] = chkM 18 d n m a c imm errV okV := by kernel_rfl
set_option maxRecDepth 1000000 in
theorem run_19 (d n m a c imm : Int) : runI Try.prog noE 40 8 [insV 19 d n m a c imm] = chkM 19 d n m a c imm errV okV := by kernel_rfl
set_option maxRecDepth 1000000 in
theorem run_20 (d n m a c imm : Int) : runI Try.prog noE 40 8 [insV 20 d n m a c imm] = chkM 20 d n m a c imm errV okV := by kernel_rfl
set_option maxRecDepth 1000000 in
theorem run_21 (d n m a c imm : Int) : runI Try.prog noE 40 8 [insV 21 d n m a c imm] = chkM 21 d n m a c imm errV okV := by kernel_rfl
set_option maxRecDepth 1000000 in
theorem run_22 (d n m a c imm : Int) : runI Try.prog noE 40 8 [insV 22 d n m a c imm] = chkM 22 d n m a c imm errV okV := by kernel_rfl
set_option maxRecDepth 1000000 in
theorem run_23 (d n m a c imm : Int) : runI Try.prog noE 40 8 [insV 23 d n m a c imm] = chkM 23 d n m a c imm errV okV := by kernel_rfl
set_option maxRecDepth 1000000 in
theorem run_24 (d n m a c imm : Int) : runI Try.prog noE 40 8 [insV 24 d n m a c imm] = chkM 24 d n m a c imm errV okV := by kernel_rfl
set_option maxRecDepth 1000000 in
theorem run_25 (d n m a c imm : Int) : runI Try.prog noE 40 8 [insV 25 d n m a c imm] = chkM 25 d n m a c imm errV okV := by kernel_rfl
set_option maxRecDepth 1000000 in
theorem run_26 (d n m a c imm : Int) : runI Try.prog noE 40 8 [insV 26 d n m a c imm] = chkM 26 d n m a c imm errV okV := by kernel_rfl
set_option maxRecDepth 1000000 in
theorem run_27 (d n m a c imm : Int) : runI Try.prog noE 40 8 [insV 27 d n m a c imm] = chkM 27 d n m a c imm errV okV := by kernel_rfl
set_option maxRecDepth 1000000 in
theorem run_28 (d n m a c imm : Int) : runI Try.prog noE 40 8 [insV 28 d n m a c imm] = chkM 28 d n m a c imm errV okV := by kernel_rfl
set_option maxRecDepth 1000000 in
theorem run_29 (d n m a c imm : Int) : runI Try.prog noE 40 8 [insV 29 d n m a c imm] = chkM 29 d n m a c imm errV okV := by kernel_rfl
set_option maxRecDepth 1000000 in
theorem run_30 (d n m a c imm : Int) : runI Try.prog noE 40 8 [insV 30 d n m a c imm] = chkM 30 d n m a c imm errV okV := by kernel_rfl
set_option maxRecDepth 1000000 in
theorem run_31 (d n m a c imm : Int) : runI Try.prog noE 40 8 [insV 31 d n m a c imm] = chkM 31 d n m a c imm errV okV := by kernel_rfl
set_option maxRecDepth 1000000 in
theorem run_32 (d n m a c imm : Int) : runI Try.prog noE 40 8 [insV 32 d n m a c imm] = chkM 32 d n m a c imm errV okV := by kernel_rfl
set_option maxRecDepth 1000000 in
theorem run_33 (d n m a c imm : Int) : runI Try.prog noE 40 8 [insV 33 d n m a c imm] = chkM 33 d n m a c imm errV okV := by kernel_rfl
set_option maxRecDepth 1000000 in
theorem run_34 (d n m a c imm : Int) : runI Try.prog noE 40 8 [insV 34 d n m a c imm] = chkM 34 d n m a c imm errV okV := by kernel_rfl
set_option maxRecDepth 1000000 in
theorem run_35 (d n m a c imm : Int) : runI Try.prog noE 40 8 [insV 35 d n m a c imm] = chkM 35 d n m a c imm errV okV := by kernel_rfl
set_option maxRecDepth 1000000 in
theorem run_36 (d n m a c imm : Int) : runI Try.prog noE 40 8 [insV 36 d n m a c imm] = chkM 36 d n m a c imm errV okV := by kernel_rfl
set_option maxRecDepth 1000000 in
theorem run_37 (d n m a c imm : Int) : runI Try.prog noE 40 8 [insV 37 d n m a c imm] = chkM 37 d n m a c imm errV okV := by kernel_rfl
set_option maxRecDepth 1000000 in
theorem run_38 (d n m a c imm : Int) : runI Try.prog noE 40 8 [insV 38 d n m a c imm] = chkM 38 d n m a c imm errV okV := by kernel_rfl
set_option maxRecDepth 1000000 in
theorem run_39 (d n m a c imm : Int) : runI Try.prog noE 40 8 [insV 39 d n m a c imm] = chkM 39 d n m a c imm errV okV := by kernel_rfl
set_option maxRecDepth 1000000 in
theorem run_40 (d n m a c imm : Int) : runI Try.prog noE 40 8 [insV 40 d n m a c imm] = chkM 40 d n m a c imm errV okV := by kernel_rfl
set_option maxRecDepth 1000000 in
theorem run_41 (d n m a c imm : Int) : runI Try.prog noE 40 8 [insV 41 d n m a c imm] = chkM 41 d n m a c imm errV okV := by kernel_rfl
set_option maxRecDepth 1000000 in
theorem run_42 (d n m a c imm : Int) : runI Try.prog noE 40 8 [insV 42 d n m a c imm] = chkM 42 d n m a c imm errV okV := by kernel_rfl
theorem chkRun (d n m a c imm : Int) : ∀ k : Nat, k < 43 → runI Try.prog noE 40 8 [insV (k : Nat) d n m a c imm] = chkM k d n m a c imm errV okV
  | 0, _ => run_0 ..
  | 1, _ => run_1 ..
  | 2, _ => run_2 ..
  | 3, _ => run_3 ..
  | 4, _ => run_4 ..
  | 5, _ => run_5 ..
  | 6, _ => run_6 ..
  | 7, _ => run_7 ..
  | 8, _ => run_8 ..
  | 9, _ => run_9 ..
  | 10, _ => run_10 ..
  | 11, _ => run_11 ..
  | 12, _ => run_12 ..
  | 13, _ => run_13 ..
  | 14, _ => run_14 ..
  | 15, _ => run_15 ..
  | 16, _ => run_16 ..
  | 17, _ => run_17 ..
  | 18, _ => run_18 ..
  | 19, _ => run_19 ..
  | 20, _ => run_20 ..
  | 21, _ => run_21 ..
  | 22, _ => run_22 ..
  | 23, _ => run_23 ..
  | 24, _ => run_24 ..
  | 25, _ => run_25 ..
  | 26, _ => run_26 ..
  | 27, _ => run_27 ..
  | 28, _ => run_28 ..
  | 29, _ => run_29 ..
  | 30, _ => run_30 ..
  | 31, _ => run_31 ..
  | 32, _ => run_32 ..
  | 33, _ => run_33 ..
  | 34, _ => run_34 ..
  | 35, _ => run_35 ..
  | 36, _ => run_36 ..
  | 37, _ => run_37 ..
  | 38, _ => run_38 ..
  | 39, _ => run_39 ..
  | 40, _ => run_40 ..
  | 41, _ => run_41 ..
  | 42, _ => run_42 ..
  | k + 43, h => absurd h (by omega)
theorem out_eq (op d n m a c imm : Int) (K : Res → Prop) : evTo Try.prog noE 40 0 (fun _ => False) [0, 0] (codeOf Try.prog 8) ⟨(funcOf Try.prog 8).ntmps, zipArgs 0 [insV op d n m a c imm], []⟩ (bodyK False Try.prog (funcOf Try.prog 8) fun r _ => K r) =
    Br (decide (op < 0)) (K (.ret (.raw (.int .i64 1)))) (Br (decide (op > 42)) (K (.ret (.raw (.int .i64 1)))) False) := by kernel_rfl
theorem chk_ok (op d n m a c imm : Int) : CallOk Try.prog 8 [insV op d n m a c imm] [] fun r _ => r = .ret (.raw (.int .i64 (chkV op d n m a c imm))) := by
  by_cases h0 : 0 ≤ op ∧ op ≤ 42
  · refine runI_ok noE_ok names mixed (n := 40) ?_
    obtain ⟨k, rfl⟩ := Int.eq_ofNat_of_zero_le h0.1
    rw [chkRun d n m a c imm k (by omega), chkM_eq]
    by_cases h : okP k d n m a c imm
    · rw [if_pos h]
      have : chkV (k : Nat) d n m a c imm = 0 := if_pos ⟨h0, h⟩
      rw [this]; rfl
    · rw [if_neg h]
      have : chkV (k : Nat) d n m a c imm = 1 := if_neg fun hh => h hh.2
      rw [this]; rfl
  · have : chkV op d n m a c imm = 1 := if_neg fun hh => h0 hh.1
    rw [this]
    refine CallOk.fnB names (by kernel_rfl) ?_
    refine CodeB.mono (K := bodyK False Try.prog (funcOf Try.prog 8) fun r _ => r = .ret (.raw (.int .i64 1))) ?_ fun _ _ h => h
    refine evTo_ok noE_ok names mixed (n := 40) (b := 0) (Z := fun _ => False) [0, 0] _ _ _ (fun st hz => hz.elim) ?_
    have hq := out_eq op d n m a c imm fun r => r = .ret (.raw (.int .i64 1))
    rw [hq, Br_if, Br_if]
    repeat' split
    · rfl
    · rfl
    · omega
def chkG : List V → Option V
  | [v] => match readIns v with
    | some (op, d, n, m, a, c, imm) => some (.raw (.int .i64 (chkV op d n m a c imm)))
    | none => none
  | _ => none
theorem insV_bd (op d n m a c imm : Int) (q : Nat) : (insV op d n m a c imm).bd q := by simp [insV, V.bd, bdL]
theorem chkG_ok {E : Eh} (hE : EOk Try.prog E) : EOk Try.prog (specE 8 chkG E) := by
  refine specE_ok hE fun args v h => ?_
  unfold chkG at h
  split at h
  · split at h
    · rename_i u op d n m a c imm hr
      cases h
      rw [readIns_eq hr]
      exact ⟨⟨insV_bd .., trivial⟩, trivial, chk_ok ..⟩
    · cases h
  · cases h
end Go.Proofs.YtpahclogghdnpaaDoor.isa
