/- Parts of the proof, one behind the other. -/
import Derived.Test.YtalgegmcllcnmaaProg
import Derived.Test.YtalgegmcllcnmaazLabJumpsRL14
import Derived.Test.YtalgegmcllcnmaazLabJumpsRLK
import Derived.Test.YtalgegmcllcnmaazLabJumpsINum
section
/- Two facts of the program. -/
namespace Go.Proofs.YtalgegmcllcnmaaRL
open Go
theorem names : namesOk Try.prog = true := by kernel_rfl
theorem mixed : Try.prog.follows .mixedOrders = true := by kernel_rfl
end Go.Proofs.YtalgegmcllcnmaaRL
end
section
/- a64.Check as a table's line. -/
namespace Go.Proofs.Ytalgegmcllcnmaa.isa
open Go Go.Proofs Go.Proofs.YtalgegmcllcnmaaRL
set_option linter.unusedVariables false
set_option linter.unusedSimpArgs false
/-- The fields of an op, as bits: D, N, M, A, Cond, Imm. -/
def fl (k : Nat) : Nat := match k with
  | 0 | 42 | 37 | 20 | 24 => 32
  | 2 | 3 => 37
  | 4 | 5 | 6 | 28 | 29 | 30 => 35
  | 13 | 14 => 15
  | 19 => 23
  | 21 => 48
  | 22 | 23 => 33
  | 25 | 26 | 27 | 40 | 41 => 2
  | 33 | 34 | 35 => 3
  | 1 | 38 | 39 => 0
  | _ => 7
def bt (k j : Nat) : Bool := Nat.beq (Nat.mod (Nat.div (fl k) (2 ^ j)) 2) 1
def rgP (b : Bool) (v : Int) : Prop := match b with
  | true => 0 ≤ v ∧ v ≤ 31
  | false => v = 0
def cdP (b : Bool) (v : Int) : Prop := match b with
  | true => 0 ≤ v ∧ v ≤ 15
  | false => v = 0
def zeroP (b : Bool) (v : Int) : Prop := match b with
  | true => True
  | false => v = 0
def immP (k : Nat) (imm m c : Int) : Prop := match k with
  | 0 | 42 => 0 ≤ imm ∧ imm < 65536
  | 2 | 3 => 0 ≤ imm ∧ imm < 65536 ∧ m ≤ 3
  | 4 | 5 | 6 | 30 => 0 ≤ imm ∧ imm < 4096
  | 28 | 29 => 0 ≤ imm ∧ imm < 32768 ∧ imm % 8 = 0
  | 20 | 24 => imm % 4 = 0 ∧ -134217728 ≤ imm ∧ imm < 134217728
  | 21 => imm % 4 = 0 ∧ -1048576 ≤ imm ∧ imm < 1048576 ∧ c ≤ 13
  | 22 | 23 => imm % 4 = 0 ∧ -1048576 ≤ imm ∧ imm < 1048576
  | 37 => 0 ≤ imm ∧ imm ≤ 2
  | _ => True
/-- May an instruction of op k be? -/
def okP (k : Nat) (d n m a c imm : Int) : Prop := rgP (bt k 0) d ∧ rgP (bt k 1) n ∧ rgP (bt k 2) m ∧ rgP (bt k 3) a ∧ cdP (bt k 4) c ∧ zeroP (bt k 5) imm ∧ immP k imm m c
instance (b : Bool) (v : Int) : Decidable (rgP b v) := by cases b <;> unfold rgP <;> infer_instance
instance (b : Bool) (v : Int) : Decidable (cdP b v) := by cases b <;> unfold cdP <;> infer_instance
instance (b : Bool) (v : Int) : Decidable (zeroP b v) := by cases b <;> unfold zeroP <;> infer_instance
instance (k : Nat) (imm m c : Int) : Decidable (immP k imm m c) := by unfold immP; split <;> infer_instance
instance (k : Nat) (d n m a c imm : Int) : Decidable (okP k d n m a c imm) := by unfold okP; infer_instance
def okI (op d n m a c imm : Int) : Prop := (0 ≤ op ∧ op ≤ 42) ∧ okP op.toNat d n m a c imm
instance (op d n m a c imm : Int) : Decidable (okI op d n m a c imm) := by unfold okI; infer_instance
/-- What Check answers. -/
def chkV (op d n m a c imm : Int) : Int := if okI op d n m a c imm then 0 else 1
def insV (op d n m a c imm : Int) : V := .agg [.raw (.int .i64 op), .raw (.int .i64 d), .raw (.int .i64 n), .raw (.int .i64 m), .raw (.int .i64 a), .raw (.int .i64 c), .raw (.int .i64 imm)]
def readIns : V → Option (Int × Int × Int × Int × Int × Int × Int)
  | .agg [.raw (.int .i64 op), .raw (.int .i64 d), .raw (.int .i64 n), .raw (.int .i64 m), .raw (.int .i64 a), .raw (.int .i64 c), .raw (.int .i64 imm)] => some (op, d, n, m, a, c, imm)
  | _ => none
theorem readIns_eq {v : V} {op d n m a c imm : Int} (h : readIns v = some (op, d, n, m, a, c, imm)) : v = insV op d n m a c imm := by
  unfold readIns at h
  split at h
  · cases h; rfl
  · cases h
/-- The code's tests, in their order. -/
def regM {R : Type} (b : Bool) (v : Int) (E Z : R) : R := Br (decide (v < 0)) E (Br (decide (v > 31)) E (Br (v != 0) (match b with | true => Z | false => E) Z))
def farM {R : Type} (v : Int) (lo hi : Int) (K : Bool → R) : R := Br (v.tmod 4 == 0) (Br (decide (v ≥ lo)) (K (decide (v < hi))) (K false)) (K false)
def fitsM {R : Type} (k : Nat) (imm m c : Int) (K : Bool → R) : R := match k with
  | 0 | 42 => Br (decide (imm ≥ 0)) (K (decide (imm < 65536))) (K false)
  | 2 | 3 => Br (decide (imm ≥ 0)) (Br (decide (imm < 65536)) (K (decide (m ≤ 3))) (K false)) (K false)
  | 4 | 5 | 6 | 30 => Br (decide (imm ≥ 0)) (K (decide (imm < 4096))) (K false)
  | 28 | 29 => Br (decide (imm ≥ 0)) (Br (decide (imm < 32768)) (K (imm.tmod 8 == 0)) (K false)) (K false)
  | 20 | 24 => farM imm (-134217728) 134217728 K
  | 21 => farM imm (-1048576) 1048576 fun b => Br b (K (decide (c ≤ 13))) (K false)
  | 22 | 23 => farM imm (-1048576) 1048576 K
  | 37 => Br (decide (imm ≥ 0)) (K (decide (imm ≤ 2))) (K false)
  | _ => K true
def chkM {R : Type} (k : Nat) (d n m a c imm : Int) (E Z : R) : R :=
  regM (bt k 0) d E (regM (bt k 1) n E (regM (bt k 2) m E (regM (bt k 3) a E
    (Br (decide (c < 0)) E (Br (decide (c > 15)) E (Br (c != 0) (match bt k 4 with | true => immM | false => E) immM)))))) 
where immM : R := Br (imm != 0) (match bt k 5 with | true => fitM | false => E) fitM
      fitM : R := fitsM k imm m c fun b => Br (!b) E Z
def errV : Option V := some (.raw (.int .i64 1))
def okV : Option V := some (.raw (.int .i64 0))
theorem Br_if {R : Type} {p : Prop} [Decidable p] {A B : R} : Br (decide p) A B = if p then A else B := by
  by_cases h : p
  · rw [decide_eq_true h, if_pos h]; rfl
  · rw [decide_eq_false h, if_neg h]; rfl
theorem Br_same {R : Type} {b : Bool} {A : R} : Br b A A = A := by cases b <;> rfl
theorem bne_dec (a b : Int) : (a != b) = decide (¬ a = b) := by
  by_cases h : a = b <;> simp [h]
theorem beq_dec (a b : Int) : (a == b) = decide (a = b) := by
  by_cases h : a = b <;> simp [h]
theorem tmod_dec (a : Int) (b : Int) (hb : b = 4 ∨ b = 8) : (a.tmod b == 0) = decide (a % b = 0) := by
  rw [beq_dec]
  refine decide_eq_decide.2 ?_
  rcases hb with rfl | rfl
  · exact ⟨fun h => by have := Int.dvd_of_tmod_eq_zero h; omega, fun h => Int.tmod_eq_zero_of_dvd (by omega)⟩
  · exact ⟨fun h => by have := Int.dvd_of_tmod_eq_zero h; omega, fun h => Int.tmod_eq_zero_of_dvd (by omega)⟩
theorem Br_not {R : Type} {p : Prop} [Decidable p] {A B : R} : Br (!decide p) A B = if p then B else A := by
  by_cases h : p
  · rw [decide_eq_true h, if_pos h]; rfl
  · rw [decide_eq_false h, if_neg h]; rfl
theorem regM_eq {R : Type} (b : Bool) (v : Int) (E Z : R) : regM b v E Z = if rgP b v then Z else E := by
  unfold regM
  rw [bne_dec, Br_if, Br_if, Br_if]
  by_cases h : rgP b v
  · rw [if_pos h]
    cases b <;> simp only [rgP] at h <;> dsimp only <;> (repeat' split) <;> first | rfl | omega
  · rw [if_neg h]
    cases b <;> simp only [rgP] at h <;> dsimp only <;> (repeat' split) <;> first | rfl | omega
theorem fits_if {R : Type} (k : Nat) (imm m c : Int) (E Z : R) : fitsM k imm m c (fun b => Br (!b) E Z) = if immP k imm m c then Z else E := by
  unfold fitsM immP farM
  split <;> simp only [Br_if, Br_not, Br_same, tmod_dec _ _ (.inl rfl), tmod_dec _ _ (.inr rfl)] <;> (repeat' split) <;> first | rfl | omega | exact absurd trivial ‹¬True›
theorem chkM_eq {R : Type} (k : Nat) (d n m a c imm : Int) (E Z : R) : chkM k d n m a c imm E Z = if okP k d n m a c imm then Z else E := by
  unfold chkM
  simp only [regM_eq, chkM.immM, chkM.fitM, fits_if, bne_dec, Br_if]
  by_cases h : okP k d n m a c imm
  · rw [if_pos h]
    obtain ⟨h1, h2, h3, h4, h5, h6, h7⟩ := h
    rw [if_pos h1, if_pos h2, if_pos h3, if_pos h4, if_pos h7]
    cases h8 : bt k 4 <;> cases h9 : bt k 5 <;> rw [h8] at h5 <;> rw [h9] at h6 <;> simp only [cdP, zeroP] at h5 h6 <;> dsimp only <;> (repeat' split) <;> first | rfl | omega
  · rw [if_neg h]
    by_cases h1 : rgP (bt k 0) d
    · by_cases h2 : rgP (bt k 1) n
      · by_cases h3 : rgP (bt k 2) m
        · by_cases h4 : rgP (bt k 3) a
          · by_cases h7 : immP k imm m c
            · have h' : ¬ (cdP (bt k 4) c ∧ zeroP (bt k 5) imm) := fun ⟨h5, h6⟩ => h ⟨h1, h2, h3, h4, h5, h6, h7⟩
              rw [if_pos h1, if_pos h2, if_pos h3, if_pos h4, if_pos h7]
              cases h8 : bt k 4 <;> cases h9 : bt k 5 <;> rw [h8, h9] at h' <;> simp only [cdP, zeroP, and_true] at h' <;> dsimp only <;> (repeat' split) <;> first | rfl | omega
            · rw [if_neg h7]
              cases bt k 4 <;> cases bt k 5 <;> (repeat' split) <;> rfl
          · rw [if_neg h4]; simp only [ite_self]
        · rw [if_neg h3]; simp only [ite_self]
      · rw [if_neg h2]; simp only [ite_self]
    · rw [if_neg h1]
set_option maxRecDepth 1000000 in
theorem run_0 (d n m a c imm : Int) : runI Try.prog noE 40 29 [insV 0 d n m a c imm] = chkM 0 d n m a c imm errV okV := by kernel_rfl
set_option maxRecDepth 1000000 in
theorem run_1 (d n m a c imm : Int) : runI Try.prog noE 40 29 [insV 1 d n m a c imm] = chkM 1 d n m a c imm errV okV := by kernel_rfl
set_option maxRecDepth 1000000 in
theorem run_2 (d n m a c imm : Int) : runI Try.prog noE 40 29 [insV 2 d n m a c imm] = chkM 2 d n m a c imm errV okV := by kernel_rfl
set_option maxRecDepth 1000000 in
theorem run_3 (d n m a c imm : Int) : runI Try.prog noE 40 29 [insV 3 d n m a c imm] = chkM 3 d n m a c imm errV okV := by kernel_rfl
set_option maxRecDepth 1000000 in
theorem run_4 (d n m a c imm : Int) : runI Try.prog noE 40 29 [insV 4 d n m a c imm] = chkM 4 d n m a c imm errV okV := by kernel_rfl
set_option maxRecDepth 1000000 in
theorem run_5 (d n m a c imm : Int) : runI Try.prog noE 40 29 [insV 5 d n m a c imm] = chkM 5 d n m a c imm errV okV := by kernel_rfl
set_option maxRecDepth 1000000 in
theorem run_6 (d n m a c imm : Int) : runI Try.prog noE 40 29 [insV 6 d n m a c imm] = chkM 6 d n m a c imm errV okV := by kernel_rfl
set_option maxRecDepth 1000000 in
theorem run_7 (d n m a c imm : Int) : runI Try.prog noE 40 29 [insV 7 d n m a c imm] = chkM 7 d n m a c imm errV okV := by kernel_rfl
set_option maxRecDepth 1000000 in
theorem run_8 (d n m a c imm : Int) : runI Try.prog noE 40 29 [insV 8 d n m a c imm] = chkM 8 d n m a c imm errV okV := by kernel_rfl
set_option maxRecDepth 1000000 in
theorem run_9 (d n m a c imm : Int) : runI Try.prog noE 40 29 [insV 9 d n m a c imm] = chkM 9 d n m a c imm errV okV := by kernel_rfl
set_option maxRecDepth 1000000 in
theorem run_10 (d n m a c imm : Int) : runI Try.prog noE 40 29 [insV 10 d n m a c imm] = chkM 10 d n m a c imm errV okV := by kernel_rfl
set_option maxRecDepth 1000000 in
theorem run_11 (d n m a c imm : Int) : runI Try.prog noE 40 29 [insV 11 d n m a c imm] = chkM 11 d n m a c imm errV okV := by kernel_rfl
set_option maxRecDepth 1000000 in
theorem run_12 (d n m a c imm : Int) : runI Try.prog noE 40 29 [insV 12 d n m a c imm] = chkM 12 d n m a c imm errV okV := by kernel_rfl
set_option maxRecDepth 1000000 in
theorem run_13 (d n m a c imm : Int) : runI Try.prog noE 40 29 [insV 13 d n m a c imm] = chkM 13 d n m a c imm errV okV := by kernel_rfl
set_option maxRecDepth 1000000 in
theorem run_14 (d n m a c imm : Int) : runI Try.prog noE 40 29 [insV 14 d n m a c imm] = chkM 14 d n m a c imm errV okV := by kernel_rfl
set_option maxRecDepth 1000000 in
theorem run_15 (d n m a c imm : Int) : runI Try.prog noE 40 29 [insV 15 d n m a c imm] = chkM 15 d n m a c imm errV okV := by kernel_rfl
set_option maxRecDepth 1000000 in
theorem run_16 (d n m a c imm : Int) : runI Try.prog noE 40 29 [insV 16 d n m a c imm] = chkM 16 d n m a c imm errV okV := by kernel_rfl
set_option maxRecDepth 1000000 in
theorem run_17 (d n m a c imm : Int) : runI Try.prog noE 40 29 [insV 17 d n m a c imm] = chkM 17 d n m a c imm errV okV := by kernel_rfl
set_option maxRecDepth 1000000 in
theorem run_18 (d n m a c imm : Int) : runI Try.prog noE 40 29 [insV 18 d n m a c imm] = chkM 18 d n m a c imm errV okV := by kernel_rfl
set_option maxRecDepth 1000000 in
theorem run_19 (d n m a c imm : Int) : runI Try.prog noE 40 29 [insV 19 d n m a c imm] = chkM 19 d n m a c imm errV okV := by kernel_rfl
set_option maxRecDepth 1000000 in
theorem run_20 (d n m a c imm : Int) : runI Try.prog noE 40 29 [insV 20 d n m a c imm] = chkM 20 d n m a c imm errV okV := by kernel_rfl
set_option maxRecDepth 1000000 in
theorem run_21 (d n m a c imm : Int) : runI Try.prog noE 40 29 [insV 21 d n m a c imm] = chkM 21 d n m a c imm errV okV := by kernel_rfl
set_option maxRecDepth 1000000 in
theorem run_22 (d n m a c imm : Int) : runI Try.prog noE 40 29 [insV 22 d n m a c imm] = chkM 22 d n m a c imm errV okV := by kernel_rfl
set_option maxRecDepth 1000000 in
theorem run_23 (d n m a c imm : Int) : runI Try.prog noE 40 29 [insV 23 d n m a c imm] = chkM 23 d n m a c imm errV okV := by kernel_rfl
set_option maxRecDepth 1000000 in
theorem run_24 (d n m a c imm : Int) : runI Try.prog noE 40 29 [insV 24 d n m a c imm] = chkM 24 d n m a c imm errV okV := by kernel_rfl
set_option maxRecDepth 1000000 in
theorem run_25 (d n m a c imm : Int) : runI Try.prog noE 40 29 [insV 25 d n m a c imm] = chkM 25 d n m a c imm errV okV := by kernel_rfl
set_option maxRecDepth 1000000 in
theorem run_26 (d n m a c imm : Int) : runI Try.prog noE 40 29 [insV 26 d n m a c imm] = chkM 26 d n m a c imm errV okV := by kernel_rfl
set_option maxRecDepth 1000000 in
theorem run_27 (d n m a c imm : Int) : runI Try.prog noE 40 29 [insV 27 d n m a c imm] = chkM 27 d n m a c imm errV okV := by kernel_rfl
set_option maxRecDepth 1000000 in
theorem run_28 (d n m a c imm : Int) : runI Try.prog noE 40 29 [insV 28 d n m a c imm] = chkM 28 d n m a c imm errV okV := by kernel_rfl
set_option maxRecDepth 1000000 in
theorem run_29 (d n m a c imm : Int) : runI Try.prog noE 40 29 [insV 29 d n m a c imm] = chkM 29 d n m a c imm errV okV := by kernel_rfl
set_option maxRecDepth 1000000 in
theorem run_30 (d n m a c imm : Int) : runI Try.prog noE 40 29 [insV 30 d n m a c imm] = chkM 30 d n m a c imm errV okV := by kernel_rfl
set_option maxRecDepth 1000000 in
theorem run_31 (d n m a c imm : Int) : runI Try.prog noE 40 29 [insV 31 d n m a c imm] = chkM 31 d n m a c imm errV okV := by kernel_rfl
set_option maxRecDepth 1000000 in
theorem run_32 (d n m a c imm : Int) : runI Try.prog noE 40 29 [insV 32 d n m a c imm] = chkM 32 d n m a c imm errV okV := by kernel_rfl
set_option maxRecDepth 1000000 in
theorem run_33 (d n m a c imm : Int) : runI Try.prog noE 40 29 [insV 33 d n m a c imm] = chkM 33 d n m a c imm errV okV := by kernel_rfl
set_option maxRecDepth 1000000 in
theorem run_34 (d n m a c imm : Int) : runI Try.prog noE 40 29 [insV 34 d n m a c imm] = chkM 34 d n m a c imm errV okV := by kernel_rfl
set_option maxRecDepth 1000000 in
theorem run_35 (d n m a c imm : Int) : runI Try.prog noE 40 29 [insV 35 d n m a c imm] = chkM 35 d n m a c imm errV okV := by kernel_rfl
set_option maxRecDepth 1000000 in
theorem run_36 (d n m a c imm : Int) : runI Try.prog noE 40 29 [insV 36 d n m a c imm] = chkM 36 d n m a c imm errV okV := by kernel_rfl
set_option maxRecDepth 1000000 in
theorem run_37 (d n m a c imm : Int) : runI Try.prog noE 40 29 [insV 37 d n m a c imm] = chkM 37 d n m a c imm errV okV := by kernel_rfl
set_option maxRecDepth 1000000 in
theorem run_38 (d n m a c imm : Int) : runI Try.prog noE 40 29 [insV 38 d n m a c imm] = chkM 38 d n m a c imm errV okV := by kernel_rfl
set_option maxRecDepth 1000000 in
theorem run_39 (d n m a c imm : Int) : runI Try.prog noE 40 29 [insV 39 d n m a c imm] = chkM 39 d n m a c imm errV okV := by kernel_rfl
set_option maxRecDepth 1000000 in
theorem run_40 (d n m a c imm : Int) : runI Try.prog noE 40 29 [insV 40 d n m a c imm] = chkM 40 d n m a c imm errV okV := by kernel_rfl
set_option maxRecDepth 1000000 in
theorem run_41 (d n m a c imm : Int) : runI Try.prog noE 40 29 [insV 41 d n m a c imm] = chkM 41 d n m a c imm errV okV := by kernel_rfl
set_option maxRecDepth 1000000 in
theorem run_42 (d n m a c imm : Int) : runI Try.prog noE 40 29 [insV 42 d n m a c imm] = chkM 42 d n m a c imm errV okV := by kernel_rfl
theorem chkRun (d n m a c imm : Int) : ∀ k : Nat, k < 43 → runI Try.prog noE 40 29 [insV (k : Nat) d n m a c imm] = chkM k d n m a c imm errV okV
  | 0, _ => run_0 ..
  | 1, _ => run_1 ..
  | 2, _ => run_2 ..
  | 3, _ => run_3 ..
  | 4, _ => run_4 ..
  | 5, _ => run_5 ..
  | 6, _ => run_6 ..
  | 7, _ => run_7 ..
  | 8, _ => run_8 ..
  | 9, _ => run_9 ..
  | 10, _ => run_10 ..
  | 11, _ => run_11 ..
  | 12, _ => run_12 ..
  | 13, _ => run_13 ..
  | 14, _ => run_14 ..
  | 15, _ => run_15 ..
  | 16, _ => run_16 ..
  | 17, _ => run_17 ..
  | 18, _ => run_18 ..
  | 19, _ => run_19 ..
  | 20, _ => run_20 ..
  | 21, _ => run_21 ..
  | 22, _ => run_22 ..
  | 23, _ => run_23 ..
  | 24, _ => run_24 ..
  | 25, _ => run_25 ..
  | 26, _ => run_26 ..
  | 27, _ => run_27 ..
  | 28, _ => run_28 ..
  | 29, _ => run_29 ..
  | 30, _ => run_30 ..
  | 31, _ => run_31 ..
  | 32, _ => run_32 ..
  | 33, _ => run_33 ..
  | 34, _ => run_34 ..
  | 35, _ => run_35 ..
  | 36, _ => run_36 ..
  | 37, _ => run_37 ..
  | 38, _ => run_38 ..
  | 39, _ => run_39 ..
  | 40, _ => run_40 ..
  | 41, _ => run_41 ..
  | 42, _ => run_42 ..
  | k + 43, h => absurd h (by omega)
theorem out_eq (op d n m a c imm : Int) (K : Res → Prop) : evTo Try.prog noE 40 0 (fun _ => False) [0, 0] (codeOf Try.prog 29) ⟨(funcOf Try.prog 29).ntmps, zipArgs 0 [insV op d n m a c imm], []⟩ (bodyK False Try.prog (funcOf Try.prog 29) fun r _ => K r) =
    Br (decide (op < 0)) (K (.ret (.raw (.int .i64 1)))) (Br (decide (op > 42)) (K (.ret (.raw (.int .i64 1)))) False) := by kernel_rfl
theorem chk_ok (op d n m a c imm : Int) : CallOk Try.prog 29 [insV op d n m a c imm] [] fun r _ => r = .ret (.raw (.int .i64 (chkV op d n m a c imm))) := by
  by_cases h0 : 0 ≤ op ∧ op ≤ 42
  · refine runI_ok noE_ok names mixed (n := 40) ?_
    obtain ⟨k, rfl⟩ := Int.eq_ofNat_of_zero_le h0.1
    rw [chkRun d n m a c imm k (by omega), chkM_eq]
    by_cases h : okP k d n m a c imm
    · rw [if_pos h]
      have : chkV (k : Nat) d n m a c imm = 0 := if_pos ⟨h0, h⟩
      rw [this]; rfl
    · rw [if_neg h]
      have : chkV (k : Nat) d n m a c imm = 1 := if_neg fun hh => h hh.2
      rw [this]; rfl
  · have : chkV op d n m a c imm = 1 := if_neg fun hh => h0 hh.1
    rw [this]
    refine CallOk.fnB names (by kernel_rfl) ?_
    refine CodeB.mono (K := bodyK False Try.prog (funcOf Try.prog 29) fun r _ => r = .ret (.raw (.int .i64 1))) ?_ fun _ _ h => h
    refine evTo_ok noE_ok names mixed (n := 40) (b := 0) (Z := fun _ => False) [0, 0] _ _ _ (fun st hz => hz.elim) ?_
    have hq := out_eq op d n m a c imm fun r => r = .ret (.raw (.int .i64 1))
    rw [hq, Br_if, Br_if]
    repeat' split
    · rfl
    · rfl
    · omega
def chkG : List V → Option V
  | [v] => match readIns v with
    | some (op, d, n, m, a, c, imm) => some (.raw (.int .i64 (chkV op d n m a c imm)))
    | none => none
  | _ => none
theorem insV_bd (op d n m a c imm : Int) (q : Nat) : (insV op d n m a c imm).bd q := by simp [insV, V.bd, bdL]
theorem chkG_ok {E : Eh} (hE : EOk Try.prog E) : EOk Try.prog (specE 29 chkG E) := by
  refine specE_ok hE fun args v h => ?_
  unfold chkG at h
  split at h
  · split at h
    · rename_i u op d n m a c imm hr
      cases h
      rw [readIns_eq hr]
      exact ⟨⟨insV_bd .., trivial⟩, trivial, chk_ok ..⟩
    · cases h
  · cases h
end Go.Proofs.Ytalgegmcllcnmaa.isa
end
section
/- What the lays of an instruction's fields come to: sums. Printed by genword.py. -/
namespace Go.Proofs.Ytalgegmcllcnmaa.isa
open Go Go.Proofs Go.Proofs.YtalgegmcllcnmaaRL
set_option linter.unusedVariables false
set_option linter.unusedSimpArgs false
/-- What a DMB's word has of its Imm. -/
def bar (imm : Int) : Int := if imm = 0 then 11 else if imm = 1 then 9 else if imm = 2 then 10 else 0
/-- The word of an instruction of op k that may be. -/
def wordP (k : Nat) (d n m a c imm : Int) : Int := match k with
  | 0 => 0 + imm
  | 1 => 3573751839
  | 2 => 3531603968 + m * 2097152 + imm * 32 + d
  | 3 => 4068474880 + m * 2097152 + imm * 32 + d
  | 4 => 2432696320 + n * 32 + imm * 1024 + d
  | 5 => 3506438144 + n * 32 + imm * 1024 + d
  | 6 => 4043309056 + n * 32 + imm * 1024 + d
  | 7 => 2332033024 + n * 32 + m * 65536 + d
  | 8 => 3405774848 + n * 32 + m * 65536 + d
  | 9 => 3942645760 + n * 32 + m * 65536 + d
  | 10 => 2315255808 + n * 32 + m * 65536 + d
  | 11 => 2852126720 + n * 32 + m * 65536 + d
  | 12 => 3388997632 + n * 32 + m * 65536 + d
  | 13 => 2600468480 + n * 32 + m * 65536 + a * 1024 + d
  | 14 => 2600501248 + n * 32 + m * 65536 + a * 1024 + d
  | 15 => 2596277248 + n * 32 + m * 65536 + d
  | 16 => 2596282368 + n * 32 + m * 65536 + d
  | 17 => 2596283392 + n * 32 + m * 65536 + d
  | 18 => 2596284416 + n * 32 + m * 65536 + d
  | 19 => 2592080896 + n * 32 + c * 4096 + m * 65536 + d
  | 20 => 335544320 + ((imm / 4) % 67108864)
  | 21 => 1409286144 + ((imm / 4) % 524288) * 32 + c
  | 22 => 3019898880 + ((imm / 4) % 524288) * 32 + d
  | 23 => 3036676096 + ((imm / 4) % 524288) * 32 + d
  | 24 => 2483027968 + ((imm / 4) % 67108864)
  | 25 => 3592355840 + n * 32
  | 26 => 3594452992 + n * 32
  | 27 => 3596550144 + n * 32
  | 28 => 4181721088 + n * 32 + (imm / 8) * 1024 + d
  | 29 => 4177526784 + n * 32 + (imm / 8) * 1024 + d
  | 30 => 960495616 + n * 32 + imm * 1024 + d
  | 31 => 4167071744 + n * 32 + m * 65536 + d
  | 32 => 4162877440 + n * 32 + m * 65536 + d
  | 33 => 3370122240 + n * 32 + d
  | 34 => 3365927936 + n * 32 + d
  | 35 => 3361700864 + n * 32 + d
  | 36 => 3355474944 + d * 65536 + n * 32 + m
  | 37 => 3573756095 + (bar imm) * 256
  | 38 => 3573758879
  | 39 => 3573759967
  | 40 => 3574299424 + n
  | 41 => 3574297888 + n
  | 42 => 3556769793 + imm * 32
  | _ => 0
/-- An instruction's word. -/
def wordV (op d n m a c imm : Int) : Int := if okI op d n m a c imm then wordP op.toNat d n m a c imm else 0
theorem put_add {w v : Int} (lo n : Nat) (m p m2 M : Int) (hM : M = ((2 ^ n : Nat) : Int)) (hm : m = (((2 ^ n - 1) * 2 ^ lo : Nat) : Int)) (hp : p = ((2 ^ lo : Nat) : Int)) (hm2 : m2 = ((2 ^ n - 1 : Nat) : Int)) (hl : n + lo ≤ 32) (w0 : 0 ≤ w) (w1 : w < 4294967296) (hz : w / p % M = 0) :
    putM w m p m2 (IntKind.u32.wrap v) = w + v % M * p := by
  subst hM
  have e : IntKind.u32.wrap v % ((2 ^ n : Nat) : Int) = v % ((2 ^ n : Nat) : Int) := by
    rw [wrap_u32]
    refine Int.emod_emod_of_dvd v ?_
    have : (4294967296 : Int) = ((2 ^ 32 : Nat) : Int) := rfl
    rw [this]
    exact Int.natCast_dvd_natCast.2 (Nat.pow_dvd_pow 2 (by omega))
  have b := wrap_u32 v
  rw [putM_eq lo n hm hp hm2 hl w0 w1 (by omega) (by omega), hz, e]
  omega
/-- The word as the code lays it. -/
def encM (k : Nat) (d n m a c imm : Int) : Int := match k with
  | 0 => putM (0) 65535 1 65535 (IntKind.u32.wrap (imm))
  | 1 => 3573751839
  | 2 => putM (putM (putM (3531603968) 6291456 2097152 3 (IntKind.u32.wrap (m))) 2097120 32 65535 (IntKind.u32.wrap (imm))) 31 1 31 (IntKind.u32.wrap (d))
  | 3 => putM (putM (putM (4068474880) 6291456 2097152 3 (IntKind.u32.wrap (m))) 2097120 32 65535 (IntKind.u32.wrap (imm))) 31 1 31 (IntKind.u32.wrap (d))
  | 4 => putM (putM (putM (2432696320) 992 32 31 (IntKind.u32.wrap (n))) 4193280 1024 4095 (IntKind.u32.wrap (imm))) 31 1 31 (IntKind.u32.wrap (d))
  | 5 => putM (putM (putM (3506438144) 992 32 31 (IntKind.u32.wrap (n))) 4193280 1024 4095 (IntKind.u32.wrap (imm))) 31 1 31 (IntKind.u32.wrap (d))
  | 6 => putM (putM (putM (4043309056) 992 32 31 (IntKind.u32.wrap (n))) 4193280 1024 4095 (IntKind.u32.wrap (imm))) 31 1 31 (IntKind.u32.wrap (d))
  | 7 => putM (putM (putM (2332033024) 992 32 31 (IntKind.u32.wrap (n))) 2031616 65536 31 (IntKind.u32.wrap (m))) 31 1 31 (IntKind.u32.wrap (d))
  | 8 => putM (putM (putM (3405774848) 992 32 31 (IntKind.u32.wrap (n))) 2031616 65536 31 (IntKind.u32.wrap (m))) 31 1 31 (IntKind.u32.wrap (d))
  | 9 => putM (putM (putM (3942645760) 992 32 31 (IntKind.u32.wrap (n))) 2031616 65536 31 (IntKind.u32.wrap (m))) 31 1 31 (IntKind.u32.wrap (d))
  | 10 => putM (putM (putM (2315255808) 992 32 31 (IntKind.u32.wrap (n))) 2031616 65536 31 (IntKind.u32.wrap (m))) 31 1 31 (IntKind.u32.wrap (d))
  | 11 => putM (putM (putM (2852126720) 992 32 31 (IntKind.u32.wrap (n))) 2031616 65536 31 (IntKind.u32.wrap (m))) 31 1 31 (IntKind.u32.wrap (d))
  | 12 => putM (putM (putM (3388997632) 992 32 31 (IntKind.u32.wrap (n))) 2031616 65536 31 (IntKind.u32.wrap (m))) 31 1 31 (IntKind.u32.wrap (d))
  | 13 => putM (putM (putM (putM (2600468480) 992 32 31 (IntKind.u32.wrap (n))) 2031616 65536 31 (IntKind.u32.wrap (m))) 31744 1024 31 (IntKind.u32.wrap (a))) 31 1 31 (IntKind.u32.wrap (d))
  | 14 => putM (putM (putM (putM (2600501248) 992 32 31 (IntKind.u32.wrap (n))) 2031616 65536 31 (IntKind.u32.wrap (m))) 31744 1024 31 (IntKind.u32.wrap (a))) 31 1 31 (IntKind.u32.wrap (d))
  | 15 => putM (putM (putM (2596277248) 992 32 31 (IntKind.u32.wrap (n))) 2031616 65536 31 (IntKind.u32.wrap (m))) 31 1 31 (IntKind.u32.wrap (d))
  | 16 => putM (putM (putM (2596282368) 992 32 31 (IntKind.u32.wrap (n))) 2031616 65536 31 (IntKind.u32.wrap (m))) 31 1 31 (IntKind.u32.wrap (d))
  | 17 => putM (putM (putM (2596283392) 992 32 31 (IntKind.u32.wrap (n))) 2031616 65536 31 (IntKind.u32.wrap (m))) 31 1 31 (IntKind.u32.wrap (d))
  | 18 => putM (putM (putM (2596284416) 992 32 31 (IntKind.u32.wrap (n))) 2031616 65536 31 (IntKind.u32.wrap (m))) 31 1 31 (IntKind.u32.wrap (d))
  | 19 => putM (putM (putM (putM (2592080896) 992 32 31 (IntKind.u32.wrap (n))) 61440 4096 15 (IntKind.u32.wrap (c))) 2031616 65536 31 (IntKind.u32.wrap (m))) 31 1 31 (IntKind.u32.wrap (d))
  | 20 => putM (335544320) 67108863 1 67108863 (IntKind.u32.wrap (IntKind.i64.wrap (imm.tdiv 4)))
  | 21 => putM (putM (1409286144) 16777184 32 524287 (IntKind.u32.wrap (IntKind.i64.wrap (imm.tdiv 4)))) 15 1 15 (IntKind.u32.wrap (c))
  | 22 => putM (putM (3019898880) 16777184 32 524287 (IntKind.u32.wrap (IntKind.i64.wrap (imm.tdiv 4)))) 31 1 31 (IntKind.u32.wrap (d))
  | 23 => putM (putM (3036676096) 16777184 32 524287 (IntKind.u32.wrap (IntKind.i64.wrap (imm.tdiv 4)))) 31 1 31 (IntKind.u32.wrap (d))
  | 24 => putM (2483027968) 67108863 1 67108863 (IntKind.u32.wrap (IntKind.i64.wrap (imm.tdiv 4)))
  | 25 => putM (3592355840) 992 32 31 (IntKind.u32.wrap (n))
  | 26 => putM (3594452992) 992 32 31 (IntKind.u32.wrap (n))
  | 27 => putM (3596550144) 992 32 31 (IntKind.u32.wrap (n))
  | 28 => putM (putM (putM (4181721088) 992 32 31 (IntKind.u32.wrap (n))) 4193280 1024 4095 (IntKind.u32.wrap (IntKind.i64.wrap (imm.tdiv 8)))) 31 1 31 (IntKind.u32.wrap (d))
  | 29 => putM (putM (putM (4177526784) 992 32 31 (IntKind.u32.wrap (n))) 4193280 1024 4095 (IntKind.u32.wrap (IntKind.i64.wrap (imm.tdiv 8)))) 31 1 31 (IntKind.u32.wrap (d))
  | 30 => putM (putM (putM (960495616) 992 32 31 (IntKind.u32.wrap (n))) 4193280 1024 4095 (IntKind.u32.wrap (imm))) 31 1 31 (IntKind.u32.wrap (d))
  | 31 => putM (putM (putM (4167071744) 992 32 31 (IntKind.u32.wrap (n))) 2031616 65536 31 (IntKind.u32.wrap (m))) 31 1 31 (IntKind.u32.wrap (d))
  | 32 => putM (putM (putM (4162877440) 992 32 31 (IntKind.u32.wrap (n))) 2031616 65536 31 (IntKind.u32.wrap (m))) 31 1 31 (IntKind.u32.wrap (d))
  | 33 => putM (putM (3370122240) 992 32 31 (IntKind.u32.wrap (n))) 31 1 31 (IntKind.u32.wrap (d))
  | 34 => putM (putM (3365927936) 992 32 31 (IntKind.u32.wrap (n))) 31 1 31 (IntKind.u32.wrap (d))
  | 35 => putM (putM (3361700864) 992 32 31 (IntKind.u32.wrap (n))) 31 1 31 (IntKind.u32.wrap (d))
  | 36 => putM (putM (putM (3355474944) 2031616 65536 31 (IntKind.u32.wrap (d))) 992 32 31 (IntKind.u32.wrap (n))) 31 1 31 (IntKind.u32.wrap (m))
  | 38 => 3573758879
  | 39 => 3573759967
  | 40 => putM (3574299424) 31 1 31 (IntKind.u32.wrap (n))
  | 41 => putM (3574297888) 31 1 31 (IntKind.u32.wrap (n))
  | 42 => putM (3556769793) 2097120 32 65535 (IntKind.u32.wrap (imm))
  | _ => 0
theorem tdiv4 {imm : Int} (h : imm % 4 = 0) (h0 : -134217728 ≤ imm) (h1 : imm < 134217728) : IntKind.i64.wrap (imm.tdiv 4) = imm / 4 := by
  have : imm.tdiv 4 = imm / 4 := by
    obtain ⟨q, rfl⟩ : ∃ q, imm = q * 4 := ⟨imm / 4, by omega⟩
    rw [Int.mul_tdiv_cancel _ (by omega), Int.mul_ediv_cancel _ (by omega)]
  rw [this, wrap_i64_in (by omega) (by omega)]
theorem tdiv8 {imm : Int} (h0 : 0 ≤ imm) (h1 : imm < 32768) : IntKind.i64.wrap (imm.tdiv 8) = imm / 8 := by
  rw [Int.tdiv_eq_ediv_of_nonneg h0, wrap_i64_in (by omega) (by omega)]
theorem enc_0 {d n m a c imm : Int} (h : okP 0 d n m a c imm) : encM 0 d n m a c imm = wordP 0 d n m a c imm := by
  obtain ⟨hd, hn, hm, ha, hc, hz, hi⟩ : d = 0 ∧ n = 0 ∧ m = 0 ∧ a = 0 ∧ c = 0 ∧ True ∧ (0 ≤ imm ∧ imm < 65536) := h
  show putM (0) 65535 1 65535 (IntKind.u32.wrap (imm)) = 0 + imm
  rw [put_add 0 16 65535 1 65535 65536 rfl rfl rfl rfl (by omega) (by omega) (by omega) (by omega)]
  omega
theorem enc_1 {d n m a c imm : Int} (h : okP 1 d n m a c imm) : encM 1 d n m a c imm = wordP 1 d n m a c imm := by
  rfl
theorem enc_2 {d n m a c imm : Int} (h : okP 2 d n m a c imm) : encM 2 d n m a c imm = wordP 2 d n m a c imm := by
  obtain ⟨hd, hn, hm, ha, hc, hz, hi⟩ : (0 ≤ d ∧ d ≤ 31) ∧ n = 0 ∧ (0 ≤ m ∧ m ≤ 31) ∧ a = 0 ∧ c = 0 ∧ True ∧ (0 ≤ imm ∧ imm < 65536 ∧ m ≤ 3) := h
  show putM (putM (putM (3531603968) 6291456 2097152 3 (IntKind.u32.wrap (m))) 2097120 32 65535 (IntKind.u32.wrap (imm))) 31 1 31 (IntKind.u32.wrap (d)) = 3531603968 + m * 2097152 + imm * 32 + d
  rw [put_add 21 2 6291456 2097152 3 4 rfl rfl rfl rfl (by omega) (by omega) (by omega) (by omega)]
  rw [put_add 5 16 2097120 32 65535 65536 rfl rfl rfl rfl (by omega) (by omega) (by omega) (by omega)]
  rw [put_add 0 5 31 1 31 32 rfl rfl rfl rfl (by omega) (by omega) (by omega) (by omega)]
  omega
theorem enc_3 {d n m a c imm : Int} (h : okP 3 d n m a c imm) : encM 3 d n m a c imm = wordP 3 d n m a c imm := by
  obtain ⟨hd, hn, hm, ha, hc, hz, hi⟩ : (0 ≤ d ∧ d ≤ 31) ∧ n = 0 ∧ (0 ≤ m ∧ m ≤ 31) ∧ a = 0 ∧ c = 0 ∧ True ∧ (0 ≤ imm ∧ imm < 65536 ∧ m ≤ 3) := h
  show putM (putM (putM (4068474880) 6291456 2097152 3 (IntKind.u32.wrap (m))) 2097120 32 65535 (IntKind.u32.wrap (imm))) 31 1 31 (IntKind.u32.wrap (d)) = 4068474880 + m * 2097152 + imm * 32 + d
  rw [put_add 21 2 6291456 2097152 3 4 rfl rfl rfl rfl (by omega) (by omega) (by omega) (by omega)]
  rw [put_add 5 16 2097120 32 65535 65536 rfl rfl rfl rfl (by omega) (by omega) (by omega) (by omega)]
  rw [put_add 0 5 31 1 31 32 rfl rfl rfl rfl (by omega) (by omega) (by omega) (by omega)]
  omega
theorem enc_4 {d n m a c imm : Int} (h : okP 4 d n m a c imm) : encM 4 d n m a c imm = wordP 4 d n m a c imm := by
  obtain ⟨hd, hn, hm, ha, hc, hz, hi⟩ : (0 ≤ d ∧ d ≤ 31) ∧ (0 ≤ n ∧ n ≤ 31) ∧ m = 0 ∧ a = 0 ∧ c = 0 ∧ True ∧ (0 ≤ imm ∧ imm < 4096) := h
  show putM (putM (putM (2432696320) 992 32 31 (IntKind.u32.wrap (n))) 4193280 1024 4095 (IntKind.u32.wrap (imm))) 31 1 31 (IntKind.u32.wrap (d)) = 2432696320 + n * 32 + imm * 1024 + d
  rw [put_add 5 5 992 32 31 32 rfl rfl rfl rfl (by omega) (by omega) (by omega) (by omega)]
  rw [put_add 10 12 4193280 1024 4095 4096 rfl rfl rfl rfl (by omega) (by omega) (by omega) (by omega)]
  rw [put_add 0 5 31 1 31 32 rfl rfl rfl rfl (by omega) (by omega) (by omega) (by omega)]
  omega
theorem enc_5 {d n m a c imm : Int} (h : okP 5 d n m a c imm) : encM 5 d n m a c imm = wordP 5 d n m a c imm := by
  obtain ⟨hd, hn, hm, ha, hc, hz, hi⟩ : (0 ≤ d ∧ d ≤ 31) ∧ (0 ≤ n ∧ n ≤ 31) ∧ m = 0 ∧ a = 0 ∧ c = 0 ∧ True ∧ (0 ≤ imm ∧ imm < 4096) := h
  show putM (putM (putM (3506438144) 992 32 31 (IntKind.u32.wrap (n))) 4193280 1024 4095 (IntKind.u32.wrap (imm))) 31 1 31 (IntKind.u32.wrap (d)) = 3506438144 + n * 32 + imm * 1024 + d
  rw [put_add 5 5 992 32 31 32 rfl rfl rfl rfl (by omega) (by omega) (by omega) (by omega)]
  rw [put_add 10 12 4193280 1024 4095 4096 rfl rfl rfl rfl (by omega) (by omega) (by omega) (by omega)]
  rw [put_add 0 5 31 1 31 32 rfl rfl rfl rfl (by omega) (by omega) (by omega) (by omega)]
  omega
theorem enc_6 {d n m a c imm : Int} (h : okP 6 d n m a c imm) : encM 6 d n m a c imm = wordP 6 d n m a c imm := by
  obtain ⟨hd, hn, hm, ha, hc, hz, hi⟩ : (0 ≤ d ∧ d ≤ 31) ∧ (0 ≤ n ∧ n ≤ 31) ∧ m = 0 ∧ a = 0 ∧ c = 0 ∧ True ∧ (0 ≤ imm ∧ imm < 4096) := h
  show putM (putM (putM (4043309056) 992 32 31 (IntKind.u32.wrap (n))) 4193280 1024 4095 (IntKind.u32.wrap (imm))) 31 1 31 (IntKind.u32.wrap (d)) = 4043309056 + n * 32 + imm * 1024 + d
  rw [put_add 5 5 992 32 31 32 rfl rfl rfl rfl (by omega) (by omega) (by omega) (by omega)]
  rw [put_add 10 12 4193280 1024 4095 4096 rfl rfl rfl rfl (by omega) (by omega) (by omega) (by omega)]
  rw [put_add 0 5 31 1 31 32 rfl rfl rfl rfl (by omega) (by omega) (by omega) (by omega)]
  omega
theorem enc_7 {d n m a c imm : Int} (h : okP 7 d n m a c imm) : encM 7 d n m a c imm = wordP 7 d n m a c imm := by
  obtain ⟨hd, hn, hm, ha, hc, hz, hi⟩ : (0 ≤ d ∧ d ≤ 31) ∧ (0 ≤ n ∧ n ≤ 31) ∧ (0 ≤ m ∧ m ≤ 31) ∧ a = 0 ∧ c = 0 ∧ imm = 0 ∧ (True) := h
  show putM (putM (putM (2332033024) 992 32 31 (IntKind.u32.wrap (n))) 2031616 65536 31 (IntKind.u32.wrap (m))) 31 1 31 (IntKind.u32.wrap (d)) = 2332033024 + n * 32 + m * 65536 + d
  rw [put_add 5 5 992 32 31 32 rfl rfl rfl rfl (by omega) (by omega) (by omega) (by omega)]
  rw [put_add 16 5 2031616 65536 31 32 rfl rfl rfl rfl (by omega) (by omega) (by omega) (by omega)]
  rw [put_add 0 5 31 1 31 32 rfl rfl rfl rfl (by omega) (by omega) (by omega) (by omega)]
  omega
theorem enc_8 {d n m a c imm : Int} (h : okP 8 d n m a c imm) : encM 8 d n m a c imm = wordP 8 d n m a c imm := by
  obtain ⟨hd, hn, hm, ha, hc, hz, hi⟩ : (0 ≤ d ∧ d ≤ 31) ∧ (0 ≤ n ∧ n ≤ 31) ∧ (0 ≤ m ∧ m ≤ 31) ∧ a = 0 ∧ c = 0 ∧ imm = 0 ∧ (True) := h
  show putM (putM (putM (3405774848) 992 32 31 (IntKind.u32.wrap (n))) 2031616 65536 31 (IntKind.u32.wrap (m))) 31 1 31 (IntKind.u32.wrap (d)) = 3405774848 + n * 32 + m * 65536 + d
  rw [put_add 5 5 992 32 31 32 rfl rfl rfl rfl (by omega) (by omega) (by omega) (by omega)]
  rw [put_add 16 5 2031616 65536 31 32 rfl rfl rfl rfl (by omega) (by omega) (by omega) (by omega)]
  rw [put_add 0 5 31 1 31 32 rfl rfl rfl rfl (by omega) (by omega) (by omega) (by omega)]
  omega
theorem enc_9 {d n m a c imm : Int} (h : okP 9 d n m a c imm) : encM 9 d n m a c imm = wordP 9 d n m a c imm := by
  obtain ⟨hd, hn, hm, ha, hc, hz, hi⟩ : (0 ≤ d ∧ d ≤ 31) ∧ (0 ≤ n ∧ n ≤ 31) ∧ (0 ≤ m ∧ m ≤ 31) ∧ a = 0 ∧ c = 0 ∧ imm = 0 ∧ (True) := h
  show putM (putM (putM (3942645760) 992 32 31 (IntKind.u32.wrap (n))) 2031616 65536 31 (IntKind.u32.wrap (m))) 31 1 31 (IntKind.u32.wrap (d)) = 3942645760 + n * 32 + m * 65536 + d
  rw [put_add 5 5 992 32 31 32 rfl rfl rfl rfl (by omega) (by omega) (by omega) (by omega)]
  rw [put_add 16 5 2031616 65536 31 32 rfl rfl rfl rfl (by omega) (by omega) (by omega) (by omega)]
  rw [put_add 0 5 31 1 31 32 rfl rfl rfl rfl (by omega) (by omega) (by omega) (by omega)]
  omega
theorem enc_10 {d n m a c imm : Int} (h : okP 10 d n m a c imm) : encM 10 d n m a c imm = wordP 10 d n m a c imm := by
  obtain ⟨hd, hn, hm, ha, hc, hz, hi⟩ : (0 ≤ d ∧ d ≤ 31) ∧ (0 ≤ n ∧ n ≤ 31) ∧ (0 ≤ m ∧ m ≤ 31) ∧ a = 0 ∧ c = 0 ∧ imm = 0 ∧ (True) := h
  show putM (putM (putM (2315255808) 992 32 31 (IntKind.u32.wrap (n))) 2031616 65536 31 (IntKind.u32.wrap (m))) 31 1 31 (IntKind.u32.wrap (d)) = 2315255808 + n * 32 + m * 65536 + d
  rw [put_add 5 5 992 32 31 32 rfl rfl rfl rfl (by omega) (by omega) (by omega) (by omega)]
  rw [put_add 16 5 2031616 65536 31 32 rfl rfl rfl rfl (by omega) (by omega) (by omega) (by omega)]
  rw [put_add 0 5 31 1 31 32 rfl rfl rfl rfl (by omega) (by omega) (by omega) (by omega)]
  omega
theorem enc_11 {d n m a c imm : Int} (h : okP 11 d n m a c imm) : encM 11 d n m a c imm = wordP 11 d n m a c imm := by
  obtain ⟨hd, hn, hm, ha, hc, hz, hi⟩ : (0 ≤ d ∧ d ≤ 31) ∧ (0 ≤ n ∧ n ≤ 31) ∧ (0 ≤ m ∧ m ≤ 31) ∧ a = 0 ∧ c = 0 ∧ imm = 0 ∧ (True) := h
  show putM (putM (putM (2852126720) 992 32 31 (IntKind.u32.wrap (n))) 2031616 65536 31 (IntKind.u32.wrap (m))) 31 1 31 (IntKind.u32.wrap (d)) = 2852126720 + n * 32 + m * 65536 + d
  rw [put_add 5 5 992 32 31 32 rfl rfl rfl rfl (by omega) (by omega) (by omega) (by omega)]
  rw [put_add 16 5 2031616 65536 31 32 rfl rfl rfl rfl (by omega) (by omega) (by omega) (by omega)]
  rw [put_add 0 5 31 1 31 32 rfl rfl rfl rfl (by omega) (by omega) (by omega) (by omega)]
  omega
theorem enc_12 {d n m a c imm : Int} (h : okP 12 d n m a c imm) : encM 12 d n m a c imm = wordP 12 d n m a c imm := by
  obtain ⟨hd, hn, hm, ha, hc, hz, hi⟩ : (0 ≤ d ∧ d ≤ 31) ∧ (0 ≤ n ∧ n ≤ 31) ∧ (0 ≤ m ∧ m ≤ 31) ∧ a = 0 ∧ c = 0 ∧ imm = 0 ∧ (True) := h
  show putM (putM (putM (3388997632) 992 32 31 (IntKind.u32.wrap (n))) 2031616 65536 31 (IntKind.u32.wrap (m))) 31 1 31 (IntKind.u32.wrap (d)) = 3388997632 + n * 32 + m * 65536 + d
  rw [put_add 5 5 992 32 31 32 rfl rfl rfl rfl (by omega) (by omega) (by omega) (by omega)]
  rw [put_add 16 5 2031616 65536 31 32 rfl rfl rfl rfl (by omega) (by omega) (by omega) (by omega)]
  rw [put_add 0 5 31 1 31 32 rfl rfl rfl rfl (by omega) (by omega) (by omega) (by omega)]
  omega
theorem enc_13 {d n m a c imm : Int} (h : okP 13 d n m a c imm) : encM 13 d n m a c imm = wordP 13 d n m a c imm := by
  obtain ⟨hd, hn, hm, ha, hc, hz, hi⟩ : (0 ≤ d ∧ d ≤ 31) ∧ (0 ≤ n ∧ n ≤ 31) ∧ (0 ≤ m ∧ m ≤ 31) ∧ (0 ≤ a ∧ a ≤ 31) ∧ c = 0 ∧ imm = 0 ∧ (True) := h
  show putM (putM (putM (putM (2600468480) 992 32 31 (IntKind.u32.wrap (n))) 2031616 65536 31 (IntKind.u32.wrap (m))) 31744 1024 31 (IntKind.u32.wrap (a))) 31 1 31 (IntKind.u32.wrap (d)) = 2600468480 + n * 32 + m * 65536 + a * 1024 + d
  rw [put_add 5 5 992 32 31 32 rfl rfl rfl rfl (by omega) (by omega) (by omega) (by omega)]
  rw [put_add 16 5 2031616 65536 31 32 rfl rfl rfl rfl (by omega) (by omega) (by omega) (by omega)]
  rw [put_add 10 5 31744 1024 31 32 rfl rfl rfl rfl (by omega) (by omega) (by omega) (by omega)]
  rw [put_add 0 5 31 1 31 32 rfl rfl rfl rfl (by omega) (by omega) (by omega) (by omega)]
  omega
theorem enc_14 {d n m a c imm : Int} (h : okP 14 d n m a c imm) : encM 14 d n m a c imm = wordP 14 d n m a c imm := by
  obtain ⟨hd, hn, hm, ha, hc, hz, hi⟩ : (0 ≤ d ∧ d ≤ 31) ∧ (0 ≤ n ∧ n ≤ 31) ∧ (0 ≤ m ∧ m ≤ 31) ∧ (0 ≤ a ∧ a ≤ 31) ∧ c = 0 ∧ imm = 0 ∧ (True) := h
  show putM (putM (putM (putM (2600501248) 992 32 31 (IntKind.u32.wrap (n))) 2031616 65536 31 (IntKind.u32.wrap (m))) 31744 1024 31 (IntKind.u32.wrap (a))) 31 1 31 (IntKind.u32.wrap (d)) = 2600501248 + n * 32 + m * 65536 + a * 1024 + d
  rw [put_add 5 5 992 32 31 32 rfl rfl rfl rfl (by omega) (by omega) (by omega) (by omega)]
  rw [put_add 16 5 2031616 65536 31 32 rfl rfl rfl rfl (by omega) (by omega) (by omega) (by omega)]
  rw [put_add 10 5 31744 1024 31 32 rfl rfl rfl rfl (by omega) (by omega) (by omega) (by omega)]
  rw [put_add 0 5 31 1 31 32 rfl rfl rfl rfl (by omega) (by omega) (by omega) (by omega)]
  omega
theorem enc_15 {d n m a c imm : Int} (h : okP 15 d n m a c imm) : encM 15 d n m a c imm = wordP 15 d n m a c imm := by
  obtain ⟨hd, hn, hm, ha, hc, hz, hi⟩ : (0 ≤ d ∧ d ≤ 31) ∧ (0 ≤ n ∧ n ≤ 31) ∧ (0 ≤ m ∧ m ≤ 31) ∧ a = 0 ∧ c = 0 ∧ imm = 0 ∧ (True) := h
  show putM (putM (putM (2596277248) 992 32 31 (IntKind.u32.wrap (n))) 2031616 65536 31 (IntKind.u32.wrap (m))) 31 1 31 (IntKind.u32.wrap (d)) = 2596277248 + n * 32 + m * 65536 + d
  rw [put_add 5 5 992 32 31 32 rfl rfl rfl rfl (by omega) (by omega) (by omega) (by omega)]
  rw [put_add 16 5 2031616 65536 31 32 rfl rfl rfl rfl (by omega) (by omega) (by omega) (by omega)]
  rw [put_add 0 5 31 1 31 32 rfl rfl rfl rfl (by omega) (by omega) (by omega) (by omega)]
  omega
theorem enc_16 {d n m a c imm : Int} (h : okP 16 d n m a c imm) : encM 16 d n m a c imm = wordP 16 d n m a c imm := by
  obtain ⟨hd, hn, hm, ha, hc, hz, hi⟩ : (0 ≤ d ∧ d ≤ 31) ∧ (0 ≤ n ∧ n ≤ 31) ∧ (0 ≤ m ∧ m ≤ 31) ∧ a = 0 ∧ c = 0 ∧ imm = 0 ∧ (True) := h
  show putM (putM (putM (2596282368) 992 32 31 (IntKind.u32.wrap (n))) 2031616 65536 31 (IntKind.u32.wrap (m))) 31 1 31 (IntKind.u32.wrap (d)) = 2596282368 + n * 32 + m * 65536 + d
  rw [put_add 5 5 992 32 31 32 rfl rfl rfl rfl (by omega) (by omega) (by omega) (by omega)]
  rw [put_add 16 5 2031616 65536 31 32 rfl rfl rfl rfl (by omega) (by omega) (by omega) (by omega)]
  rw [put_add 0 5 31 1 31 32 rfl rfl rfl rfl (by omega) (by omega) (by omega) (by omega)]
  omega
theorem enc_17 {d n m a c imm : Int} (h : okP 17 d n m a c imm) : encM 17 d n m a c imm = wordP 17 d n m a c imm := by
  obtain ⟨hd, hn, hm, ha, hc, hz, hi⟩ : (0 ≤ d ∧ d ≤ 31) ∧ (0 ≤ n ∧ n ≤ 31) ∧ (0 ≤ m ∧ m ≤ 31) ∧ a = 0 ∧ c = 0 ∧ imm = 0 ∧ (True) := h
  show putM (putM (putM (2596283392) 992 32 31 (IntKind.u32.wrap (n))) 2031616 65536 31 (IntKind.u32.wrap (m))) 31 1 31 (IntKind.u32.wrap (d)) = 2596283392 + n * 32 + m * 65536 + d
  rw [put_add 5 5 992 32 31 32 rfl rfl rfl rfl (by omega) (by omega) (by omega) (by omega)]
  rw [put_add 16 5 2031616 65536 31 32 rfl rfl rfl rfl (by omega) (by omega) (by omega) (by omega)]
  rw [put_add 0 5 31 1 31 32 rfl rfl rfl rfl (by omega) (by omega) (by omega) (by omega)]
  omega
theorem enc_18 {d n m a c imm : Int} (h : okP 18 d n m a c imm) : encM 18 d n m a c imm = wordP 18 d n m a c imm := by
  obtain ⟨hd, hn, hm, ha, hc, hz, hi⟩ : (0 ≤ d ∧ d ≤ 31) ∧ (0 ≤ n ∧ n ≤ 31) ∧ (0 ≤ m ∧ m ≤ 31) ∧ a = 0 ∧ c = 0 ∧ imm = 0 ∧ (True) := h
  show putM (putM (putM (2596284416) 992 32 31 (IntKind.u32.wrap (n))) 2031616 65536 31 (IntKind.u32.wrap (m))) 31 1 31 (IntKind.u32.wrap (d)) = 2596284416 + n * 32 + m * 65536 + d
  rw [put_add 5 5 992 32 31 32 rfl rfl rfl rfl (by omega) (by omega) (by omega) (by omega)]
  rw [put_add 16 5 2031616 65536 31 32 rfl rfl rfl rfl (by omega) (by omega) (by omega) (by omega)]
  rw [put_add 0 5 31 1 31 32 rfl rfl rfl rfl (by omega) (by omega) (by omega) (by omega)]
  omega
theorem enc_19 {d n m a c imm : Int} (h : okP 19 d n m a c imm) : encM 19 d n m a c imm = wordP 19 d n m a c imm := by
  obtain ⟨hd, hn, hm, ha, hc, hz, hi⟩ : (0 ≤ d ∧ d ≤ 31) ∧ (0 ≤ n ∧ n ≤ 31) ∧ (0 ≤ m ∧ m ≤ 31) ∧ a = 0 ∧ (0 ≤ c ∧ c ≤ 15) ∧ imm = 0 ∧ (True) := h
  show putM (putM (putM (putM (2592080896) 992 32 31 (IntKind.u32.wrap (n))) 61440 4096 15 (IntKind.u32.wrap (c))) 2031616 65536 31 (IntKind.u32.wrap (m))) 31 1 31 (IntKind.u32.wrap (d)) = 2592080896 + n * 32 + c * 4096 + m * 65536 + d
  rw [put_add 5 5 992 32 31 32 rfl rfl rfl rfl (by omega) (by omega) (by omega) (by omega)]
  rw [put_add 12 4 61440 4096 15 16 rfl rfl rfl rfl (by omega) (by omega) (by omega) (by omega)]
  rw [put_add 16 5 2031616 65536 31 32 rfl rfl rfl rfl (by omega) (by omega) (by omega) (by omega)]
  rw [put_add 0 5 31 1 31 32 rfl rfl rfl rfl (by omega) (by omega) (by omega) (by omega)]
  omega
theorem enc_20 {d n m a c imm : Int} (h : okP 20 d n m a c imm) : encM 20 d n m a c imm = wordP 20 d n m a c imm := by
  obtain ⟨hd, hn, hm, ha, hc, hz, hi⟩ : d = 0 ∧ n = 0 ∧ m = 0 ∧ a = 0 ∧ c = 0 ∧ True ∧ (imm % 4 = 0 ∧ -134217728 ≤ imm ∧ imm < 134217728) := h
  show putM (335544320) 67108863 1 67108863 (IntKind.u32.wrap (IntKind.i64.wrap (imm.tdiv 4))) = 335544320 + ((imm / 4) % 67108864)
  rw [tdiv4 hi.1 (by omega) (by omega)]
  rw [put_add 0 26 67108863 1 67108863 67108864 rfl rfl rfl rfl (by omega) (by omega) (by omega) (by omega)]
  omega
theorem enc_21 {d n m a c imm : Int} (h : okP 21 d n m a c imm) : encM 21 d n m a c imm = wordP 21 d n m a c imm := by
  obtain ⟨hd, hn, hm, ha, hc, hz, hi⟩ : d = 0 ∧ n = 0 ∧ m = 0 ∧ a = 0 ∧ (0 ≤ c ∧ c ≤ 15) ∧ True ∧ (imm % 4 = 0 ∧ -1048576 ≤ imm ∧ imm < 1048576 ∧ c ≤ 13) := h
  show putM (putM (1409286144) 16777184 32 524287 (IntKind.u32.wrap (IntKind.i64.wrap (imm.tdiv 4)))) 15 1 15 (IntKind.u32.wrap (c)) = 1409286144 + ((imm / 4) % 524288) * 32 + c
  rw [tdiv4 hi.1 (by omega) (by omega)]
  rw [put_add 5 19 16777184 32 524287 524288 rfl rfl rfl rfl (by omega) (by omega) (by omega) (by omega)]
  rw [put_add 0 4 15 1 15 16 rfl rfl rfl rfl (by omega) (by omega) (by omega) (by omega)]
  omega
theorem enc_22 {d n m a c imm : Int} (h : okP 22 d n m a c imm) : encM 22 d n m a c imm = wordP 22 d n m a c imm := by
  obtain ⟨hd, hn, hm, ha, hc, hz, hi⟩ : (0 ≤ d ∧ d ≤ 31) ∧ n = 0 ∧ m = 0 ∧ a = 0 ∧ c = 0 ∧ True ∧ (imm % 4 = 0 ∧ -1048576 ≤ imm ∧ imm < 1048576) := h
  show putM (putM (3019898880) 16777184 32 524287 (IntKind.u32.wrap (IntKind.i64.wrap (imm.tdiv 4)))) 31 1 31 (IntKind.u32.wrap (d)) = 3019898880 + ((imm / 4) % 524288) * 32 + d
  rw [tdiv4 hi.1 (by omega) (by omega)]
  rw [put_add 5 19 16777184 32 524287 524288 rfl rfl rfl rfl (by omega) (by omega) (by omega) (by omega)]
  rw [put_add 0 5 31 1 31 32 rfl rfl rfl rfl (by omega) (by omega) (by omega) (by omega)]
  omega
theorem enc_23 {d n m a c imm : Int} (h : okP 23 d n m a c imm) : encM 23 d n m a c imm = wordP 23 d n m a c imm := by
  obtain ⟨hd, hn, hm, ha, hc, hz, hi⟩ : (0 ≤ d ∧ d ≤ 31) ∧ n = 0 ∧ m = 0 ∧ a = 0 ∧ c = 0 ∧ True ∧ (imm % 4 = 0 ∧ -1048576 ≤ imm ∧ imm < 1048576) := h
  show putM (putM (3036676096) 16777184 32 524287 (IntKind.u32.wrap (IntKind.i64.wrap (imm.tdiv 4)))) 31 1 31 (IntKind.u32.wrap (d)) = 3036676096 + ((imm / 4) % 524288) * 32 + d
  rw [tdiv4 hi.1 (by omega) (by omega)]
  rw [put_add 5 19 16777184 32 524287 524288 rfl rfl rfl rfl (by omega) (by omega) (by omega) (by omega)]
  rw [put_add 0 5 31 1 31 32 rfl rfl rfl rfl (by omega) (by omega) (by omega) (by omega)]
  omega
theorem enc_24 {d n m a c imm : Int} (h : okP 24 d n m a c imm) : encM 24 d n m a c imm = wordP 24 d n m a c imm := by
  obtain ⟨hd, hn, hm, ha, hc, hz, hi⟩ : d = 0 ∧ n = 0 ∧ m = 0 ∧ a = 0 ∧ c = 0 ∧ True ∧ (imm % 4 = 0 ∧ -134217728 ≤ imm ∧ imm < 134217728) := h
  show putM (2483027968) 67108863 1 67108863 (IntKind.u32.wrap (IntKind.i64.wrap (imm.tdiv 4))) = 2483027968 + ((imm / 4) % 67108864)
  rw [tdiv4 hi.1 (by omega) (by omega)]
  rw [put_add 0 26 67108863 1 67108863 67108864 rfl rfl rfl rfl (by omega) (by omega) (by omega) (by omega)]
  omega
theorem enc_25 {d n m a c imm : Int} (h : okP 25 d n m a c imm) : encM 25 d n m a c imm = wordP 25 d n m a c imm := by
  obtain ⟨hd, hn, hm, ha, hc, hz, hi⟩ : d = 0 ∧ (0 ≤ n ∧ n ≤ 31) ∧ m = 0 ∧ a = 0 ∧ c = 0 ∧ imm = 0 ∧ (True) := h
  show putM (3592355840) 992 32 31 (IntKind.u32.wrap (n)) = 3592355840 + n * 32
  rw [put_add 5 5 992 32 31 32 rfl rfl rfl rfl (by omega) (by omega) (by omega) (by omega)]
  omega
theorem enc_26 {d n m a c imm : Int} (h : okP 26 d n m a c imm) : encM 26 d n m a c imm = wordP 26 d n m a c imm := by
  obtain ⟨hd, hn, hm, ha, hc, hz, hi⟩ : d = 0 ∧ (0 ≤ n ∧ n ≤ 31) ∧ m = 0 ∧ a = 0 ∧ c = 0 ∧ imm = 0 ∧ (True) := h
  show putM (3594452992) 992 32 31 (IntKind.u32.wrap (n)) = 3594452992 + n * 32
  rw [put_add 5 5 992 32 31 32 rfl rfl rfl rfl (by omega) (by omega) (by omega) (by omega)]
  omega
theorem enc_27 {d n m a c imm : Int} (h : okP 27 d n m a c imm) : encM 27 d n m a c imm = wordP 27 d n m a c imm := by
  obtain ⟨hd, hn, hm, ha, hc, hz, hi⟩ : d = 0 ∧ (0 ≤ n ∧ n ≤ 31) ∧ m = 0 ∧ a = 0 ∧ c = 0 ∧ imm = 0 ∧ (True) := h
  show putM (3596550144) 992 32 31 (IntKind.u32.wrap (n)) = 3596550144 + n * 32
  rw [put_add 5 5 992 32 31 32 rfl rfl rfl rfl (by omega) (by omega) (by omega) (by omega)]
  omega
theorem enc_28 {d n m a c imm : Int} (h : okP 28 d n m a c imm) : encM 28 d n m a c imm = wordP 28 d n m a c imm := by
  obtain ⟨hd, hn, hm, ha, hc, hz, hi⟩ : (0 ≤ d ∧ d ≤ 31) ∧ (0 ≤ n ∧ n ≤ 31) ∧ m = 0 ∧ a = 0 ∧ c = 0 ∧ True ∧ (0 ≤ imm ∧ imm < 32768 ∧ imm % 8 = 0) := h
  show putM (putM (putM (4181721088) 992 32 31 (IntKind.u32.wrap (n))) 4193280 1024 4095 (IntKind.u32.wrap (IntKind.i64.wrap (imm.tdiv 8)))) 31 1 31 (IntKind.u32.wrap (d)) = 4181721088 + n * 32 + (imm / 8) * 1024 + d
  rw [tdiv8 (by omega) (by omega)]
  rw [put_add 5 5 992 32 31 32 rfl rfl rfl rfl (by omega) (by omega) (by omega) (by omega)]
  rw [put_add 10 12 4193280 1024 4095 4096 rfl rfl rfl rfl (by omega) (by omega) (by omega) (by omega)]
  rw [put_add 0 5 31 1 31 32 rfl rfl rfl rfl (by omega) (by omega) (by omega) (by omega)]
  omega
theorem enc_29 {d n m a c imm : Int} (h : okP 29 d n m a c imm) : encM 29 d n m a c imm = wordP 29 d n m a c imm := by
  obtain ⟨hd, hn, hm, ha, hc, hz, hi⟩ : (0 ≤ d ∧ d ≤ 31) ∧ (0 ≤ n ∧ n ≤ 31) ∧ m = 0 ∧ a = 0 ∧ c = 0 ∧ True ∧ (0 ≤ imm ∧ imm < 32768 ∧ imm % 8 = 0) := h
  show putM (putM (putM (4177526784) 992 32 31 (IntKind.u32.wrap (n))) 4193280 1024 4095 (IntKind.u32.wrap (IntKind.i64.wrap (imm.tdiv 8)))) 31 1 31 (IntKind.u32.wrap (d)) = 4177526784 + n * 32 + (imm / 8) * 1024 + d
  rw [tdiv8 (by omega) (by omega)]
  rw [put_add 5 5 992 32 31 32 rfl rfl rfl rfl (by omega) (by omega) (by omega) (by omega)]
  rw [put_add 10 12 4193280 1024 4095 4096 rfl rfl rfl rfl (by omega) (by omega) (by omega) (by omega)]
  rw [put_add 0 5 31 1 31 32 rfl rfl rfl rfl (by omega) (by omega) (by omega) (by omega)]
  omega
theorem enc_30 {d n m a c imm : Int} (h : okP 30 d n m a c imm) : encM 30 d n m a c imm = wordP 30 d n m a c imm := by
  obtain ⟨hd, hn, hm, ha, hc, hz, hi⟩ : (0 ≤ d ∧ d ≤ 31) ∧ (0 ≤ n ∧ n ≤ 31) ∧ m = 0 ∧ a = 0 ∧ c = 0 ∧ True ∧ (0 ≤ imm ∧ imm < 4096) := h
  show putM (putM (putM (960495616) 992 32 31 (IntKind.u32.wrap (n))) 4193280 1024 4095 (IntKind.u32.wrap (imm))) 31 1 31 (IntKind.u32.wrap (d)) = 960495616 + n * 32 + imm * 1024 + d
  rw [put_add 5 5 992 32 31 32 rfl rfl rfl rfl (by omega) (by omega) (by omega) (by omega)]
  rw [put_add 10 12 4193280 1024 4095 4096 rfl rfl rfl rfl (by omega) (by omega) (by omega) (by omega)]
  rw [put_add 0 5 31 1 31 32 rfl rfl rfl rfl (by omega) (by omega) (by omega) (by omega)]
  omega
theorem enc_31 {d n m a c imm : Int} (h : okP 31 d n m a c imm) : encM 31 d n m a c imm = wordP 31 d n m a c imm := by
  obtain ⟨hd, hn, hm, ha, hc, hz, hi⟩ : (0 ≤ d ∧ d ≤ 31) ∧ (0 ≤ n ∧ n ≤ 31) ∧ (0 ≤ m ∧ m ≤ 31) ∧ a = 0 ∧ c = 0 ∧ imm = 0 ∧ (True) := h
  show putM (putM (putM (4167071744) 992 32 31 (IntKind.u32.wrap (n))) 2031616 65536 31 (IntKind.u32.wrap (m))) 31 1 31 (IntKind.u32.wrap (d)) = 4167071744 + n * 32 + m * 65536 + d
  rw [put_add 5 5 992 32 31 32 rfl rfl rfl rfl (by omega) (by omega) (by omega) (by omega)]
  rw [put_add 16 5 2031616 65536 31 32 rfl rfl rfl rfl (by omega) (by omega) (by omega) (by omega)]
  rw [put_add 0 5 31 1 31 32 rfl rfl rfl rfl (by omega) (by omega) (by omega) (by omega)]
  omega
theorem enc_32 {d n m a c imm : Int} (h : okP 32 d n m a c imm) : encM 32 d n m a c imm = wordP 32 d n m a c imm := by
  obtain ⟨hd, hn, hm, ha, hc, hz, hi⟩ : (0 ≤ d ∧ d ≤ 31) ∧ (0 ≤ n ∧ n ≤ 31) ∧ (0 ≤ m ∧ m ≤ 31) ∧ a = 0 ∧ c = 0 ∧ imm = 0 ∧ (True) := h
  show putM (putM (putM (4162877440) 992 32 31 (IntKind.u32.wrap (n))) 2031616 65536 31 (IntKind.u32.wrap (m))) 31 1 31 (IntKind.u32.wrap (d)) = 4162877440 + n * 32 + m * 65536 + d
  rw [put_add 5 5 992 32 31 32 rfl rfl rfl rfl (by omega) (by omega) (by omega) (by omega)]
  rw [put_add 16 5 2031616 65536 31 32 rfl rfl rfl rfl (by omega) (by omega) (by omega) (by omega)]
  rw [put_add 0 5 31 1 31 32 rfl rfl rfl rfl (by omega) (by omega) (by omega) (by omega)]
  omega
theorem enc_33 {d n m a c imm : Int} (h : okP 33 d n m a c imm) : encM 33 d n m a c imm = wordP 33 d n m a c imm := by
  obtain ⟨hd, hn, hm, ha, hc, hz, hi⟩ : (0 ≤ d ∧ d ≤ 31) ∧ (0 ≤ n ∧ n ≤ 31) ∧ m = 0 ∧ a = 0 ∧ c = 0 ∧ imm = 0 ∧ (True) := h
  show putM (putM (3370122240) 992 32 31 (IntKind.u32.wrap (n))) 31 1 31 (IntKind.u32.wrap (d)) = 3370122240 + n * 32 + d
  rw [put_add 5 5 992 32 31 32 rfl rfl rfl rfl (by omega) (by omega) (by omega) (by omega)]
  rw [put_add 0 5 31 1 31 32 rfl rfl rfl rfl (by omega) (by omega) (by omega) (by omega)]
  omega
theorem enc_34 {d n m a c imm : Int} (h : okP 34 d n m a c imm) : encM 34 d n m a c imm = wordP 34 d n m a c imm := by
  obtain ⟨hd, hn, hm, ha, hc, hz, hi⟩ : (0 ≤ d ∧ d ≤ 31) ∧ (0 ≤ n ∧ n ≤ 31) ∧ m = 0 ∧ a = 0 ∧ c = 0 ∧ imm = 0 ∧ (True) := h
  show putM (putM (3365927936) 992 32 31 (IntKind.u32.wrap (n))) 31 1 31 (IntKind.u32.wrap (d)) = 3365927936 + n * 32 + d
  rw [put_add 5 5 992 32 31 32 rfl rfl rfl rfl (by omega) (by omega) (by omega) (by omega)]
  rw [put_add 0 5 31 1 31 32 rfl rfl rfl rfl (by omega) (by omega) (by omega) (by omega)]
  omega
theorem enc_35 {d n m a c imm : Int} (h : okP 35 d n m a c imm) : encM 35 d n m a c imm = wordP 35 d n m a c imm := by
  obtain ⟨hd, hn, hm, ha, hc, hz, hi⟩ : (0 ≤ d ∧ d ≤ 31) ∧ (0 ≤ n ∧ n ≤ 31) ∧ m = 0 ∧ a = 0 ∧ c = 0 ∧ imm = 0 ∧ (True) := h
  show putM (putM (3361700864) 992 32 31 (IntKind.u32.wrap (n))) 31 1 31 (IntKind.u32.wrap (d)) = 3361700864 + n * 32 + d
  rw [put_add 5 5 992 32 31 32 rfl rfl rfl rfl (by omega) (by omega) (by omega) (by omega)]
  rw [put_add 0 5 31 1 31 32 rfl rfl rfl rfl (by omega) (by omega) (by omega) (by omega)]
  omega
theorem enc_36 {d n m a c imm : Int} (h : okP 36 d n m a c imm) : encM 36 d n m a c imm = wordP 36 d n m a c imm := by
  obtain ⟨hd, hn, hm, ha, hc, hz, hi⟩ : (0 ≤ d ∧ d ≤ 31) ∧ (0 ≤ n ∧ n ≤ 31) ∧ (0 ≤ m ∧ m ≤ 31) ∧ a = 0 ∧ c = 0 ∧ imm = 0 ∧ (True) := h
  show putM (putM (putM (3355474944) 2031616 65536 31 (IntKind.u32.wrap (d))) 992 32 31 (IntKind.u32.wrap (n))) 31 1 31 (IntKind.u32.wrap (m)) = 3355474944 + d * 65536 + n * 32 + m
  rw [put_add 16 5 2031616 65536 31 32 rfl rfl rfl rfl (by omega) (by omega) (by omega) (by omega)]
  rw [put_add 5 5 992 32 31 32 rfl rfl rfl rfl (by omega) (by omega) (by omega) (by omega)]
  rw [put_add 0 5 31 1 31 32 rfl rfl rfl rfl (by omega) (by omega) (by omega) (by omega)]
  omega
theorem enc_38 {d n m a c imm : Int} (h : okP 38 d n m a c imm) : encM 38 d n m a c imm = wordP 38 d n m a c imm := by
  rfl
theorem enc_39 {d n m a c imm : Int} (h : okP 39 d n m a c imm) : encM 39 d n m a c imm = wordP 39 d n m a c imm := by
  rfl
theorem enc_40 {d n m a c imm : Int} (h : okP 40 d n m a c imm) : encM 40 d n m a c imm = wordP 40 d n m a c imm := by
  obtain ⟨hd, hn, hm, ha, hc, hz, hi⟩ : d = 0 ∧ (0 ≤ n ∧ n ≤ 31) ∧ m = 0 ∧ a = 0 ∧ c = 0 ∧ imm = 0 ∧ (True) := h
  show putM (3574299424) 31 1 31 (IntKind.u32.wrap (n)) = 3574299424 + n
  rw [put_add 0 5 31 1 31 32 rfl rfl rfl rfl (by omega) (by omega) (by omega) (by omega)]
  omega
theorem enc_41 {d n m a c imm : Int} (h : okP 41 d n m a c imm) : encM 41 d n m a c imm = wordP 41 d n m a c imm := by
  obtain ⟨hd, hn, hm, ha, hc, hz, hi⟩ : d = 0 ∧ (0 ≤ n ∧ n ≤ 31) ∧ m = 0 ∧ a = 0 ∧ c = 0 ∧ imm = 0 ∧ (True) := h
  show putM (3574297888) 31 1 31 (IntKind.u32.wrap (n)) = 3574297888 + n
  rw [put_add 0 5 31 1 31 32 rfl rfl rfl rfl (by omega) (by omega) (by omega) (by omega)]
  omega
theorem enc_42 {d n m a c imm : Int} (h : okP 42 d n m a c imm) : encM 42 d n m a c imm = wordP 42 d n m a c imm := by
  obtain ⟨hd, hn, hm, ha, hc, hz, hi⟩ : d = 0 ∧ n = 0 ∧ m = 0 ∧ a = 0 ∧ c = 0 ∧ True ∧ (0 ≤ imm ∧ imm < 65536) := h
  show putM (3556769793) 2097120 32 65535 (IntKind.u32.wrap (imm)) = 3556769793 + imm * 32
  rw [put_add 5 16 2097120 32 65535 65536 rfl rfl rfl rfl (by omega) (by omega) (by omega) (by omega)]
  omega
end Go.Proofs.Ytalgegmcllcnmaa.isa
end
section
/- enc.Word as a table's line. Printed by genword.py. -/
namespace Go.Proofs.Ytalgegmcllcnmaa.isa
open Go Go.Proofs Go.Proofs.YtalgegmcllcnmaaRL
set_option linter.unusedVariables false
set_option linter.unusedSimpArgs false
def resW (w e : Int) : V := .tup [.raw (.int .u32 w), .raw (.int .i64 e)]
noncomputable def ECk : Eh := specE 29 chkG noE
theorem ECk_ok : EOk Try.prog ECk := chkG_ok noE_ok
theorem word_out (op d n m a c imm : Int) (K : Res → Prop) : evTo Try.prog ECk 40 0 (fun _ => False) [0, 0] (codeOf Try.prog 55) ⟨(funcOf Try.prog 55).ntmps, zipArgs 0 [insV op d n m a c imm], []⟩ (bodyK False Try.prog (funcOf Try.prog 55) fun r _ => K r) =
    Br (chkV op d n m a c imm != 0) (K (.ret (resW 0 (chkV op d n m a c imm)))) False := by kernel_rfl
theorem word_bad {op d n m a c imm : Int} (h : ¬ okI op d n m a c imm) : CallOk Try.prog 55 [insV op d n m a c imm] [] fun r _ => r = .ret (resW 0 1) := by
  have hc : chkV op d n m a c imm = 1 := if_neg h
  refine CallOk.fnB names (by kernel_rfl) ?_
  refine CodeB.mono (K := bodyK False Try.prog (funcOf Try.prog 55) fun r _ => r = .ret (resW 0 1)) ?_ fun _ _ h => h
  refine evTo_ok ECk_ok names mixed (n := 40) (b := 0) (Z := fun _ => False) [0, 0] _ _ _ (fun st hz => hz.elim) ?_
  have hq := word_out op d n m a c imm fun r => r = .ret (resW 0 1)
  rw [hq, hc]
  exact rfl
def barM {R : Type} (imm : Int) (K : Int → R) : R := Br (imm == 0) (K 3573758911) (Br (imm == 1) (K 3573758399) (Br (imm == 2) (K 3573758655) (K 3573756095)))
set_option maxRecDepth 1000000 in
theorem wrun_0 (d n m a c imm : Int) : runI Try.prog ECk 60 55 [insV 0 d n m a c imm] = Br (chkV 0 d n m a c imm != 0) (some (resW 0 (chkV 0 d n m a c imm))) (some (resW (encM 0 d n m a c imm) 0)) := by kernel_rfl
set_option maxRecDepth 1000000 in
theorem wrun_1 (d n m a c imm : Int) : runI Try.prog ECk 60 55 [insV 1 d n m a c imm] = Br (chkV 1 d n m a c imm != 0) (some (resW 0 (chkV 1 d n m a c imm))) (some (resW (encM 1 d n m a c imm) 0)) := by kernel_rfl
set_option maxRecDepth 1000000 in
theorem wrun_2 (d n m a c imm : Int) : runI Try.prog ECk 60 55 [insV 2 d n m a c imm] = Br (chkV 2 d n m a c imm != 0) (some (resW 0 (chkV 2 d n m a c imm))) (some (resW (encM 2 d n m a c imm) 0)) := by kernel_rfl
set_option maxRecDepth 1000000 in
theorem wrun_3 (d n m a c imm : Int) : runI Try.prog ECk 60 55 [insV 3 d n m a c imm] = Br (chkV 3 d n m a c imm != 0) (some (resW 0 (chkV 3 d n m a c imm))) (some (resW (encM 3 d n m a c imm) 0)) := by kernel_rfl
set_option maxRecDepth 1000000 in
theorem wrun_4 (d n m a c imm : Int) : runI Try.prog ECk 60 55 [insV 4 d n m a c imm] = Br (chkV 4 d n m a c imm != 0) (some (resW 0 (chkV 4 d n m a c imm))) (some (resW (encM 4 d n m a c imm) 0)) := by kernel_rfl
set_option maxRecDepth 1000000 in
theorem wrun_5 (d n m a c imm : Int) : runI Try.prog ECk 60 55 [insV 5 d n m a c imm] = Br (chkV 5 d n m a c imm != 0) (some (resW 0 (chkV 5 d n m a c imm))) (some (resW (encM 5 d n m a c imm) 0)) := by kernel_rfl
set_option maxRecDepth 1000000 in
theorem wrun_6 (d n m a c imm : Int) : runI Try.prog ECk 60 55 [insV 6 d n m a c imm] = Br (chkV 6 d n m a c imm != 0) (some (resW 0 (chkV 6 d n m a c imm))) (some (resW (encM 6 d n m a c imm) 0)) := by kernel_rfl
set_option maxRecDepth 1000000 in
theorem wrun_7 (d n m a c imm : Int) : runI Try.prog ECk 60 55 [insV 7 d n m a c imm] = Br (chkV 7 d n m a c imm != 0) (some (resW 0 (chkV 7 d n m a c imm))) (some (resW (encM 7 d n m a c imm) 0)) := by kernel_rfl
set_option maxRecDepth 1000000 in
theorem wrun_8 (d n m a c imm : Int) : runI Try.prog ECk 60 55 [insV 8 d n m a c imm] = Br (chkV 8 d n m a c imm != 0) (some (resW 0 (chkV 8 d n m a c imm))) (some (resW (encM 8 d n m a c imm) 0)) := by kernel_rfl
set_option maxRecDepth 1000000 in
theorem wrun_9 (d n m a c imm : Int) : runI Try.prog ECk 60 55 [insV 9 d n m a c imm] = Br (chkV 9 d n m a c imm != 0) (some (resW 0 (chkV 9 d n m a c imm))) (some (resW (encM 9 d n m a c imm) 0)) := by kernel_rfl
set_option maxRecDepth 1000000 in
theorem wrun_10 (d n m a c imm : Int) : runI Try.prog ECk 60 55 [insV 10 d n m a c imm] = Br (chkV 10 d n m a c imm != 0) (some (resW 0 (chkV 10 d n m a c imm))) (some (resW (encM 10 d n m a c imm) 0)) := by kernel_rfl
set_option maxRecDepth 1000000 in
theorem wrun_11 (d n m a c imm : Int) : runI Try.prog ECk 60 55 [insV 11 d n m a c imm] = Br (chkV 11 d n m a c imm != 0) (some (resW 0 (chkV 11 d n m a c imm))) (some (resW (encM 11 d n m a c imm) 0)) := by kernel_rfl
set_option maxRecDepth 1000000 in
theorem wrun_12 (d n m a c imm : Int) : runI Try.prog ECk 60 55 [insV 12 d n m a c imm] = Br (chkV 12 d n m a c imm != 0) (some (resW 0 (chkV 12 d n m a c imm))) (some (resW (encM 12 d n m a c imm) 0)) := by kernel_rfl
set_option maxRecDepth 1000000 in
theorem wrun_13 (d n m a c imm : Int) : runI Try.prog ECk 60 55 [insV 13 d n m a c imm] = Br (chkV 13 d n m a c imm != 0) (some (resW 0 (chkV 13 d n m a c imm))) (some (resW (encM 13 d n m a c imm) 0)) := by kernel_rfl
set_option maxRecDepth 1000000 in
theorem wrun_14 (d n m a c imm : Int) : runI Try.prog ECk 60 55 [insV 14 d n m a c imm] = Br (chkV 14 d n m a c imm != 0) (some (resW 0 (chkV 14 d n m a c imm))) (some (resW (encM 14 d n m a c imm) 0)) := by kernel_rfl
set_option maxRecDepth 1000000 in
theorem wrun_15 (d n m a c imm : Int) : runI Try.prog ECk 60 55 [insV 15 d n m a c imm] = Br (chkV 15 d n m a c imm != 0) (some (resW 0 (chkV 15 d n m a c imm))) (some (resW (encM 15 d n m a c imm) 0)) := by kernel_rfl
set_option maxRecDepth 1000000 in
theorem wrun_16 (d n m a c imm : Int) : runI Try.prog ECk 60 55 [insV 16 d n m a c imm] = Br (chkV 16 d n m a c imm != 0) (some (resW 0 (chkV 16 d n m a c imm))) (some (resW (encM 16 d n m a c imm) 0)) := by kernel_rfl
set_option maxRecDepth 1000000 in
theorem wrun_17 (d n m a c imm : Int) : runI Try.prog ECk 60 55 [insV 17 d n m a c imm] = Br (chkV 17 d n m a c imm != 0) (some (resW 0 (chkV 17 d n m a c imm))) (some (resW (encM 17 d n m a c imm) 0)) := by kernel_rfl
set_option maxRecDepth 1000000 in
theorem wrun_18 (d n m a c imm : Int) : runI Try.prog ECk 60 55 [insV 18 d n m a c imm] = Br (chkV 18 d n m a c imm != 0) (some (resW 0 (chkV 18 d n m a c imm))) (some (resW (encM 18 d n m a c imm) 0)) := by kernel_rfl
set_option maxRecDepth 1000000 in
theorem wrun_19 (d n m a c imm : Int) : runI Try.prog ECk 60 55 [insV 19 d n m a c imm] = Br (chkV 19 d n m a c imm != 0) (some (resW 0 (chkV 19 d n m a c imm))) (some (resW (encM 19 d n m a c imm) 0)) := by kernel_rfl
set_option maxRecDepth 1000000 in
theorem wrun_20 (d n m a c imm : Int) : runI Try.prog ECk 60 55 [insV 20 d n m a c imm] = Br (chkV 20 d n m a c imm != 0) (some (resW 0 (chkV 20 d n m a c imm))) (some (resW (encM 20 d n m a c imm) 0)) := by kernel_rfl
set_option maxRecDepth 1000000 in
theorem wrun_21 (d n m a c imm : Int) : runI Try.prog ECk 60 55 [insV 21 d n m a c imm] = Br (chkV 21 d n m a c imm != 0) (some (resW 0 (chkV 21 d n m a c imm))) (some (resW (encM 21 d n m a c imm) 0)) := by kernel_rfl
set_option maxRecDepth 1000000 in
theorem wrun_22 (d n m a c imm : Int) : runI Try.prog ECk 60 55 [insV 22 d n m a c imm] = Br (chkV 22 d n m a c imm != 0) (some (resW 0 (chkV 22 d n m a c imm))) (some (resW (encM 22 d n m a c imm) 0)) := by kernel_rfl
set_option maxRecDepth 1000000 in
theorem wrun_23 (d n m a c imm : Int) : runI Try.prog ECk 60 55 [insV 23 d n m a c imm] = Br (chkV 23 d n m a c imm != 0) (some (resW 0 (chkV 23 d n m a c imm))) (some (resW (encM 23 d n m a c imm) 0)) := by kernel_rfl
set_option maxRecDepth 1000000 in
theorem wrun_24 (d n m a c imm : Int) : runI Try.prog ECk 60 55 [insV 24 d n m a c imm] = Br (chkV 24 d n m a c imm != 0) (some (resW 0 (chkV 24 d n m a c imm))) (some (resW (encM 24 d n m a c imm) 0)) := by kernel_rfl
set_option maxRecDepth 1000000 in
theorem wrun_25 (d n m a c imm : Int) : runI Try.prog ECk 60 55 [insV 25 d n m a c imm] = Br (chkV 25 d n m a c imm != 0) (some (resW 0 (chkV 25 d n m a c imm))) (some (resW (encM 25 d n m a c imm) 0)) := by kernel_rfl
set_option maxRecDepth 1000000 in
theorem wrun_26 (d n m a c imm : Int) : runI Try.prog ECk 60 55 [insV 26 d n m a c imm] = Br (chkV 26 d n m a c imm != 0) (some (resW 0 (chkV 26 d n m a c imm))) (some (resW (encM 26 d n m a c imm) 0)) := by kernel_rfl
set_option maxRecDepth 1000000 in
theorem wrun_27 (d n m a c imm : Int) : runI Try.prog ECk 60 55 [insV 27 d n m a c imm] = Br (chkV 27 d n m a c imm != 0) (some (resW 0 (chkV 27 d n m a c imm))) (some (resW (encM 27 d n m a c imm) 0)) := by kernel_rfl
set_option maxRecDepth 1000000 in
theorem wrun_28 (d n m a c imm : Int) : runI Try.prog ECk 60 55 [insV 28 d n m a c imm] = Br (chkV 28 d n m a c imm != 0) (some (resW 0 (chkV 28 d n m a c imm))) (some (resW (encM 28 d n m a c imm) 0)) := by kernel_rfl
set_option maxRecDepth 1000000 in
theorem wrun_29 (d n m a c imm : Int) : runI Try.prog ECk 60 55 [insV 29 d n m a c imm] = Br (chkV 29 d n m a c imm != 0) (some (resW 0 (chkV 29 d n m a c imm))) (some (resW (encM 29 d n m a c imm) 0)) := by kernel_rfl
set_option maxRecDepth 1000000 in
theorem wrun_30 (d n m a c imm : Int) : runI Try.prog ECk 60 55 [insV 30 d n m a c imm] = Br (chkV 30 d n m a c imm != 0) (some (resW 0 (chkV 30 d n m a c imm))) (some (resW (encM 30 d n m a c imm) 0)) := by kernel_rfl
set_option maxRecDepth 1000000 in
theorem wrun_31 (d n m a c imm : Int) : runI Try.prog ECk 60 55 [insV 31 d n m a c imm] = Br (chkV 31 d n m a c imm != 0) (some (resW 0 (chkV 31 d n m a c imm))) (some (resW (encM 31 d n m a c imm) 0)) := by kernel_rfl
set_option maxRecDepth 1000000 in
theorem wrun_32 (d n m a c imm : Int) : runI Try.prog ECk 60 55 [insV 32 d n m a c imm] = Br (chkV 32 d n m a c imm != 0) (some (resW 0 (chkV 32 d n m a c imm))) (some (resW (encM 32 d n m a c imm) 0)) := by kernel_rfl
set_option maxRecDepth 1000000 in
theorem wrun_33 (d n m a c imm : Int) : runI Try.prog ECk 60 55 [insV 33 d n m a c imm] = Br (chkV 33 d n m a c imm != 0) (some (resW 0 (chkV 33 d n m a c imm))) (some (resW (encM 33 d n m a c imm) 0)) := by kernel_rfl
set_option maxRecDepth 1000000 in
theorem wrun_34 (d n m a c imm : Int) : runI Try.prog ECk 60 55 [insV 34 d n m a c imm] = Br (chkV 34 d n m a c imm != 0) (some (resW 0 (chkV 34 d n m a c imm))) (some (resW (encM 34 d n m a c imm) 0)) := by kernel_rfl
set_option maxRecDepth 1000000 in
theorem wrun_35 (d n m a c imm : Int) : runI Try.prog ECk 60 55 [insV 35 d n m a c imm] = Br (chkV 35 d n m a c imm != 0) (some (resW 0 (chkV 35 d n m a c imm))) (some (resW (encM 35 d n m a c imm) 0)) := by kernel_rfl
set_option maxRecDepth 1000000 in
theorem wrun_36 (d n m a c imm : Int) : runI Try.prog ECk 60 55 [insV 36 d n m a c imm] = Br (chkV 36 d n m a c imm != 0) (some (resW 0 (chkV 36 d n m a c imm))) (some (resW (encM 36 d n m a c imm) 0)) := by kernel_rfl
set_option maxRecDepth 1000000 in
theorem wrun_37 (d n m a c imm : Int) : runI Try.prog ECk 60 55 [insV 37 d n m a c imm] = Br (chkV 37 d n m a c imm != 0) (some (resW 0 (chkV 37 d n m a c imm))) (barM imm fun w => some (resW w 0)) := by kernel_rfl
set_option maxRecDepth 1000000 in
theorem wrun_38 (d n m a c imm : Int) : runI Try.prog ECk 60 55 [insV 38 d n m a c imm] = Br (chkV 38 d n m a c imm != 0) (some (resW 0 (chkV 38 d n m a c imm))) (some (resW (encM 38 d n m a c imm) 0)) := by kernel_rfl
set_option maxRecDepth 1000000 in
theorem wrun_39 (d n m a c imm : Int) : runI Try.prog ECk 60 55 [insV 39 d n m a c imm] = Br (chkV 39 d n m a c imm != 0) (some (resW 0 (chkV 39 d n m a c imm))) (some (resW (encM 39 d n m a c imm) 0)) := by kernel_rfl
set_option maxRecDepth 1000000 in
theorem wrun_40 (d n m a c imm : Int) : runI Try.prog ECk 60 55 [insV 40 d n m a c imm] = Br (chkV 40 d n m a c imm != 0) (some (resW 0 (chkV 40 d n m a c imm))) (some (resW (encM 40 d n m a c imm) 0)) := by kernel_rfl
set_option maxRecDepth 1000000 in
theorem wrun_41 (d n m a c imm : Int) : runI Try.prog ECk 60 55 [insV 41 d n m a c imm] = Br (chkV 41 d n m a c imm != 0) (some (resW 0 (chkV 41 d n m a c imm))) (some (resW (encM 41 d n m a c imm) 0)) := by kernel_rfl
set_option maxRecDepth 1000000 in
theorem wrun_42 (d n m a c imm : Int) : runI Try.prog ECk 60 55 [insV 42 d n m a c imm] = Br (chkV 42 d n m a c imm != 0) (some (resW 0 (chkV 42 d n m a c imm))) (some (resW (encM 42 d n m a c imm) 0)) := by kernel_rfl
theorem wrun_in (d n m a c imm : Int) : ∀ k : Nat, k < 43 → okP k d n m a c imm → runI Try.prog ECk 60 55 [insV (k : Nat) d n m a c imm] = some (resW (wordP k d n m a c imm) 0)
  | 0, _, h => by
    have hc : chkV (0 : Nat) d n m a c imm = 0 := if_pos ⟨by omega, h⟩
    have h2 := wrun_0 d n m a c imm
    rw [enc_0 h] at h2
    refine h2.trans ?_
    rw [show chkV 0 d n m a c imm = 0 from hc]; rfl
  | 1, _, h => by
    have hc : chkV (1 : Nat) d n m a c imm = 0 := if_pos ⟨by omega, h⟩
    have h2 := wrun_1 d n m a c imm
    rw [enc_1 h] at h2
    refine h2.trans ?_
    rw [show chkV 1 d n m a c imm = 0 from hc]; rfl
  | 2, _, h => by
    have hc : chkV (2 : Nat) d n m a c imm = 0 := if_pos ⟨by omega, h⟩
    have h2 := wrun_2 d n m a c imm
    rw [enc_2 h] at h2
    refine h2.trans ?_
    rw [show chkV 2 d n m a c imm = 0 from hc]; rfl
  | 3, _, h => by
    have hc : chkV (3 : Nat) d n m a c imm = 0 := if_pos ⟨by omega, h⟩
    have h2 := wrun_3 d n m a c imm
    rw [enc_3 h] at h2
    refine h2.trans ?_
    rw [show chkV 3 d n m a c imm = 0 from hc]; rfl
  | 4, _, h => by
    have hc : chkV (4 : Nat) d n m a c imm = 0 := if_pos ⟨by omega, h⟩
    have h2 := wrun_4 d n m a c imm
    rw [enc_4 h] at h2
    refine h2.trans ?_
    rw [show chkV 4 d n m a c imm = 0 from hc]; rfl
  | 5, _, h => by
    have hc : chkV (5 : Nat) d n m a c imm = 0 := if_pos ⟨by omega, h⟩
    have h2 := wrun_5 d n m a c imm
    rw [enc_5 h] at h2
    refine h2.trans ?_
    rw [show chkV 5 d n m a c imm = 0 from hc]; rfl
  | 6, _, h => by
    have hc : chkV (6 : Nat) d n m a c imm = 0 := if_pos ⟨by omega, h⟩
    have h2 := wrun_6 d n m a c imm
    rw [enc_6 h] at h2
    refine h2.trans ?_
    rw [show chkV 6 d n m a c imm = 0 from hc]; rfl
  | 7, _, h => by
    have hc : chkV (7 : Nat) d n m a c imm = 0 := if_pos ⟨by omega, h⟩
    have h2 := wrun_7 d n m a c imm
    rw [enc_7 h] at h2
    refine h2.trans ?_
    rw [show chkV 7 d n m a c imm = 0 from hc]; rfl
  | 8, _, h => by
    have hc : chkV (8 : Nat) d n m a c imm = 0 := if_pos ⟨by omega, h⟩
    have h2 := wrun_8 d n m a c imm
    rw [enc_8 h] at h2
    refine h2.trans ?_
    rw [show chkV 8 d n m a c imm = 0 from hc]; rfl
  | 9, _, h => by
    have hc : chkV (9 : Nat) d n m a c imm = 0 := if_pos ⟨by omega, h⟩
    have h2 := wrun_9 d n m a c imm
    rw [enc_9 h] at h2
    refine h2.trans ?_
    rw [show chkV 9 d n m a c imm = 0 from hc]; rfl
  | 10, _, h => by
    have hc : chkV (10 : Nat) d n m a c imm = 0 := if_pos ⟨by omega, h⟩
    have h2 := wrun_10 d n m a c imm
    rw [enc_10 h] at h2
    refine h2.trans ?_
    rw [show chkV 10 d n m a c imm = 0 from hc]; rfl
  | 11, _, h => by
    have hc : chkV (11 : Nat) d n m a c imm = 0 := if_pos ⟨by omega, h⟩
    have h2 := wrun_11 d n m a c imm
    rw [enc_11 h] at h2
    refine h2.trans ?_
    rw [show chkV 11 d n m a c imm = 0 from hc]; rfl
  | 12, _, h => by
    have hc : chkV (12 : Nat) d n m a c imm = 0 := if_pos ⟨by omega, h⟩
    have h2 := wrun_12 d n m a c imm
    rw [enc_12 h] at h2
    refine h2.trans ?_
    rw [show chkV 12 d n m a c imm = 0 from hc]; rfl
  | 13, _, h => by
    have hc : chkV (13 : Nat) d n m a c imm = 0 := if_pos ⟨by omega, h⟩
    have h2 := wrun_13 d n m a c imm
    rw [enc_13 h] at h2
    refine h2.trans ?_
    rw [show chkV 13 d n m a c imm = 0 from hc]; rfl
  | 14, _, h => by
    have hc : chkV (14 : Nat) d n m a c imm = 0 := if_pos ⟨by omega, h⟩
    have h2 := wrun_14 d n m a c imm
    rw [enc_14 h] at h2
    refine h2.trans ?_
    rw [show chkV 14 d n m a c imm = 0 from hc]; rfl
  | 15, _, h => by
    have hc : chkV (15 : Nat) d n m a c imm = 0 := if_pos ⟨by omega, h⟩
    have h2 := wrun_15 d n m a c imm
    rw [enc_15 h] at h2
    refine h2.trans ?_
    rw [show chkV 15 d n m a c imm = 0 from hc]; rfl
  | 16, _, h => by
    have hc : chkV (16 : Nat) d n m a c imm = 0 := if_pos ⟨by omega, h⟩
    have h2 := wrun_16 d n m a c imm
    rw [enc_16 h] at h2
    refine h2.trans ?_
    rw [show chkV 16 d n m a c imm = 0 from hc]; rfl
  | 17, _, h => by
    have hc : chkV (17 : Nat) d n m a c imm = 0 := if_pos ⟨by omega, h⟩
    have h2 := wrun_17 d n m a c imm
    rw [enc_17 h] at h2
    refine h2.trans ?_
    rw [show chkV 17 d n m a c imm = 0 from hc]; rfl
  | 18, _, h => by
    have hc : chkV (18 : Nat) d n m a c imm = 0 := if_pos ⟨by omega, h⟩
    have h2 := wrun_18 d n m a c imm
    rw [enc_18 h] at h2
    refine h2.trans ?_
    rw [show chkV 18 d n m a c imm = 0 from hc]; rfl
  | 19, _, h => by
    have hc : chkV (19 : Nat) d n m a c imm = 0 := if_pos ⟨by omega, h⟩
    have h2 := wrun_19 d n m a c imm
    rw [enc_19 h] at h2
    refine h2.trans ?_
    rw [show chkV 19 d n m a c imm = 0 from hc]; rfl
  | 20, _, h => by
    have hc : chkV (20 : Nat) d n m a c imm = 0 := if_pos ⟨by omega, h⟩
    have h2 := wrun_20 d n m a c imm
    rw [enc_20 h] at h2
    refine h2.trans ?_
    rw [show chkV 20 d n m a c imm = 0 from hc]; rfl
  | 21, _, h => by
    have hc : chkV (21 : Nat) d n m a c imm = 0 := if_pos ⟨by omega, h⟩
    have h2 := wrun_21 d n m a c imm
    rw [enc_21 h] at h2
    refine h2.trans ?_
    rw [show chkV 21 d n m a c imm = 0 from hc]; rfl
  | 22, _, h => by
    have hc : chkV (22 : Nat) d n m a c imm = 0 := if_pos ⟨by omega, h⟩
    have h2 := wrun_22 d n m a c imm
    rw [enc_22 h] at h2
    refine h2.trans ?_
    rw [show chkV 22 d n m a c imm = 0 from hc]; rfl
  | 23, _, h => by
    have hc : chkV (23 : Nat) d n m a c imm = 0 := if_pos ⟨by omega, h⟩
    have h2 := wrun_23 d n m a c imm
    rw [enc_23 h] at h2
    refine h2.trans ?_
    rw [show chkV 23 d n m a c imm = 0 from hc]; rfl
  | 24, _, h => by
    have hc : chkV (24 : Nat) d n m a c imm = 0 := if_pos ⟨by omega, h⟩
    have h2 := wrun_24 d n m a c imm
    rw [enc_24 h] at h2
    refine h2.trans ?_
    rw [show chkV 24 d n m a c imm = 0 from hc]; rfl
  | 25, _, h => by
    have hc : chkV (25 : Nat) d n m a c imm = 0 := if_pos ⟨by omega, h⟩
    have h2 := wrun_25 d n m a c imm
    rw [enc_25 h] at h2
    refine h2.trans ?_
    rw [show chkV 25 d n m a c imm = 0 from hc]; rfl
  | 26, _, h => by
    have hc : chkV (26 : Nat) d n m a c imm = 0 := if_pos ⟨by omega, h⟩
    have h2 := wrun_26 d n m a c imm
    rw [enc_26 h] at h2
    refine h2.trans ?_
    rw [show chkV 26 d n m a c imm = 0 from hc]; rfl
  | 27, _, h => by
    have hc : chkV (27 : Nat) d n m a c imm = 0 := if_pos ⟨by omega, h⟩
    have h2 := wrun_27 d n m a c imm
    rw [enc_27 h] at h2
    refine h2.trans ?_
    rw [show chkV 27 d n m a c imm = 0 from hc]; rfl
  | 28, _, h => by
    have hc : chkV (28 : Nat) d n m a c imm = 0 := if_pos ⟨by omega, h⟩
    have h2 := wrun_28 d n m a c imm
    rw [enc_28 h] at h2
    refine h2.trans ?_
    rw [show chkV 28 d n m a c imm = 0 from hc]; rfl
  | 29, _, h => by
    have hc : chkV (29 : Nat) d n m a c imm = 0 := if_pos ⟨by omega, h⟩
    have h2 := wrun_29 d n m a c imm
    rw [enc_29 h] at h2
    refine h2.trans ?_
    rw [show chkV 29 d n m a c imm = 0 from hc]; rfl
  | 30, _, h => by
    have hc : chkV (30 : Nat) d n m a c imm = 0 := if_pos ⟨by omega, h⟩
    have h2 := wrun_30 d n m a c imm
    rw [enc_30 h] at h2
    refine h2.trans ?_
    rw [show chkV 30 d n m a c imm = 0 from hc]; rfl
  | 31, _, h => by
    have hc : chkV (31 : Nat) d n m a c imm = 0 := if_pos ⟨by omega, h⟩
    have h2 := wrun_31 d n m a c imm
    rw [enc_31 h] at h2
    refine h2.trans ?_
    rw [show chkV 31 d n m a c imm = 0 from hc]; rfl
  | 32, _, h => by
    have hc : chkV (32 : Nat) d n m a c imm = 0 := if_pos ⟨by omega, h⟩
    have h2 := wrun_32 d n m a c imm
    rw [enc_32 h] at h2
    refine h2.trans ?_
    rw [show chkV 32 d n m a c imm = 0 from hc]; rfl
  | 33, _, h => by
    have hc : chkV (33 : Nat) d n m a c imm = 0 := if_pos ⟨by omega, h⟩
    have h2 := wrun_33 d n m a c imm
    rw [enc_33 h] at h2
    refine h2.trans ?_
    rw [show chkV 33 d n m a c imm = 0 from hc]; rfl
  | 34, _, h => by
    have hc : chkV (34 : Nat) d n m a c imm = 0 := if_pos ⟨by omega, h⟩
    have h2 := wrun_34 d n m a c imm
    rw [enc_34 h] at h2
    refine h2.trans ?_
    rw [show chkV 34 d n m a c imm = 0 from hc]; rfl
  | 35, _, h => by
    have hc : chkV (35 : Nat) d n m a c imm = 0 := if_pos ⟨by omega, h⟩
    have h2 := wrun_35 d n m a c imm
    rw [enc_35 h] at h2
    refine h2.trans ?_
    rw [show chkV 35 d n m a c imm = 0 from hc]; rfl
  | 36, _, h => by
    have hc : chkV (36 : Nat) d n m a c imm = 0 := if_pos ⟨by omega, h⟩
    have h2 := wrun_36 d n m a c imm
    rw [enc_36 h] at h2
    refine h2.trans ?_
    rw [show chkV 36 d n m a c imm = 0 from hc]; rfl
  | 37, _, h => by
    have hc : chkV (37 : Nat) d n m a c imm = 0 := if_pos ⟨by omega, h⟩
    have h2 := wrun_37 d n m a c imm
    rw [show chkV 37 d n m a c imm = 0 from hc] at h2
    obtain ⟨hd, hn, hm, ha, hc, hz, hi⟩ : d = 0 ∧ n = 0 ∧ m = 0 ∧ a = 0 ∧ c = 0 ∧ True ∧ (0 ≤ imm ∧ imm ≤ 2) := h
    rcases (show imm = 0 ∨ imm = 1 ∨ imm = 2 by omega) with rfl | rfl | rfl
    · exact h2
    · exact h2
    · exact h2
  | 38, _, h => by
    have hc : chkV (38 : Nat) d n m a c imm = 0 := if_pos ⟨by omega, h⟩
    have h2 := wrun_38 d n m a c imm
    rw [enc_38 h] at h2
    refine h2.trans ?_
    rw [show chkV 38 d n m a c imm = 0 from hc]; rfl
  | 39, _, h => by
    have hc : chkV (39 : Nat) d n m a c imm = 0 := if_pos ⟨by omega, h⟩
    have h2 := wrun_39 d n m a c imm
    rw [enc_39 h] at h2
    refine h2.trans ?_
    rw [show chkV 39 d n m a c imm = 0 from hc]; rfl
  | 40, _, h => by
    have hc : chkV (40 : Nat) d n m a c imm = 0 := if_pos ⟨by omega, h⟩
    have h2 := wrun_40 d n m a c imm
    rw [enc_40 h] at h2
    refine h2.trans ?_
    rw [show chkV 40 d n m a c imm = 0 from hc]; rfl
  | 41, _, h => by
    have hc : chkV (41 : Nat) d n m a c imm = 0 := if_pos ⟨by omega, h⟩
    have h2 := wrun_41 d n m a c imm
    rw [enc_41 h] at h2
    refine h2.trans ?_
    rw [show chkV 41 d n m a c imm = 0 from hc]; rfl
  | 42, _, h => by
    have hc : chkV (42 : Nat) d n m a c imm = 0 := if_pos ⟨by omega, h⟩
    have h2 := wrun_42 d n m a c imm
    rw [enc_42 h] at h2
    refine h2.trans ?_
    rw [show chkV 42 d n m a c imm = 0 from hc]; rfl
  | k + 43, h, _ => absurd h (by omega)
theorem word_ok (op d n m a c imm : Int) : CallOk Try.prog 55 [insV op d n m a c imm] [] fun r _ => r = .ret (resW (wordV op d n m a c imm) (chkV op d n m a c imm)) := by
  by_cases h : okI op d n m a c imm
  · have h1 : chkV op d n m a c imm = 0 := if_pos h
    have h2 : wordV op d n m a c imm = wordP op.toNat d n m a c imm := if_pos h
    rw [h1, h2]
    obtain ⟨h0, h⟩ := h
    obtain ⟨k, rfl⟩ := Int.eq_ofNat_of_zero_le h0.1
    exact runI_ok ECk_ok names mixed (n := 60) (wrun_in d n m a c imm k (by omega) h)
  · have h1 : chkV op d n m a c imm = 1 := if_neg h
    have h2 : wordV op d n m a c imm = 0 := if_neg h
    rw [h1, h2]
    exact word_bad h
def wordG : List V → Option V
  | [v] => match readIns v with
    | some (op, d, n, m, a, c, imm) => some (resW (wordV op d n m a c imm) (chkV op d n m a c imm))
    | none => none
  | _ => none
theorem wordG_ok {E : Eh} (hE : EOk Try.prog E) : EOk Try.prog (specE 55 wordG E) := by
  refine specE_ok hE fun args v h => ?_
  unfold wordG at h
  split at h
  · split at h
    · rename_i u op d n m a c imm hr
      cases h
      rw [readIns_eq hr]
      exact ⟨⟨insV_bd .., trivial⟩, ⟨trivial, trivial, trivial⟩, word_ok ..⟩
    · cases h
  · cases h
end Go.Proofs.Ytalgegmcllcnmaa.isa
end
section
/- Rows of instructions, by columns. -/
namespace Go.Proofs.Ytalgegmcllcnmaa.isa
open Go Go.Proofs Go.Proofs.YtalgegmcllcnmaaRL
set_option linter.unusedVariables false
structure InsC where
  op : Nat → Int
  d : Nat → Int
  n : Nat → Int
  m : Nat → Int
  a : Nat → Int
  c : Nat → Int
  im : Nat → Int
def InsC.cols (I : InsC) : List Col := [.int .i64 I.op, .int .i64 I.d, .int .i64 I.n, .int .i64 I.m, .int .i64 I.a, .int .i64 I.c, .int .i64 I.im]
def InsC.E (I : InsC) (j : Nat) : Int := chkV (I.op j) (I.d j) (I.n j) (I.m j) (I.a j) (I.c j) (I.im j)
def InsC.W (I : InsC) (j : Nat) : Int := wordV (I.op j) (I.d j) (I.n j) (I.m j) (I.a j) (I.c j) (I.im j)
/-- Are the first n right? -/
def InsC.all (I : InsC) (n : Nat) : Prop := ∀ j, j < n → I.E j = 0
instance (I : InsC) (n : Nat) : Decidable (I.all n) := by unfold InsC.all; infer_instance
theorem E_01 (I : InsC) (j : Nat) : I.E j = 0 ∨ I.E j = 1 := by
  unfold InsC.E chkV
  split
  · exact .inl rfl
  · exact .inr rfl
def readInsC : List Col → Option InsC
  | [.int .i64 op, .int .i64 d, .int .i64 n, .int .i64 m, .int .i64 a, .int .i64 c, .int .i64 im] => some ⟨op, d, n, m, a, c, im⟩
  | _ => none
theorem readInsC_eq {cols : List Col} {I : InsC} (h : readInsC cols = some I) : cols = I.cols := by
  unfold readInsC at h
  split at h
  · cases h; rfl
  · cases h
theorem blt_yes {a b : Nat} (h : a < b) : Nat.blt a b = true := by rw [Nat.blt_eq]; exact h
theorem wrap_next {i : Nat} (h : i ≤ 1000000) : IntKind.i64.wrap ((i : Int) + 1) = ((i + 1 : Nat) : Int) := by rw [wrap_i64_in (by omega) (by omega)]; rfl
theorem grow_ok {n b : Nat} (h : n ≤ 1000000) (hb : b ≤ 1000) : growOk n b = true := by
  have h1 : n * b ≤ 1000000 * 1000 := Nat.mul_le_mul h hb
  unfold growOk
  rw [Nat.ble_eq_true_of_le (by omega), Nat.ble_eq_true_of_le (by omega)]; rfl
theorem toNat0 (i : Nat) : ((i : Int)).toNat + 0 = i := rfl
theorem ble_self (i : Nat) : Nat.ble i i = true := Nat.ble_eq_true_of_le (Nat.le_refl _)
end Go.Proofs.Ytalgegmcllcnmaa.isa
end
