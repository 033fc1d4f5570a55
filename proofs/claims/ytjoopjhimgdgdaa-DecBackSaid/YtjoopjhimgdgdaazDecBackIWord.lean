/- enc.Word as a table's line. Printed by genword.py. -/
import Derived.Test.YtjoopjhimgdgdaazDecBackIWordP
namespace Go.Proofs.Ytjoopjhimgdgdaa.isa
open Go Go.Proofs Go.Proofs.YtjoopjhimgdgdaaRL
set_option linter.unusedVariables false
set_option linter.unusedSimpArgs false
def resW (w e : Int) : V := .tup [.raw (.int .u32 w), .raw (.int .i64 e)]
noncomputable def ECk : Eh := specE 11 chkG noE
theorem ECk_ok : EOk Try.prog ECk := chkG_ok noE_ok
theorem word_out (op d n m a c imm : Int) (K : Res → Prop) : evTo Try.prog ECk 40 0 (fun _ => False) [0, 0] (codeOf Try.prog 12) ⟨(funcOf Try.prog 12).ntmps, zipArgs 0 [insV op d n m a c imm], []⟩ (bodyK False Try.prog (funcOf Try.prog 12) fun r _ => K r) =
    Br (chkV op d n m a c imm != 0) (K (.ret (resW 0 (chkV op d n m a c imm)))) False := by kernel_rfl
theorem word_bad {op d n m a c imm : Int} (h : ¬ okI op d n m a c imm) : CallOk Try.prog 12 [insV op d n m a c imm] [] fun r _ => r = .ret (resW 0 1) := by
  have hc : chkV op d n m a c imm = 1 := if_neg h
  refine CallOk.fnB names (by kernel_rfl) ?_
  refine CodeB.mono (K := bodyK False Try.prog (funcOf Try.prog 12) fun r _ => r = .ret (resW 0 1)) ?_ fun _ _ h => h
  refine evTo_ok ECk_ok names mixed (n := 40) (b := 0) (Z := fun _ => False) [0, 0] _ _ _ (fun st hz => hz.elim) ?_
  have hq := word_out op d n m a c imm fun r => r = .ret (resW 0 1)
  rw [hq, hc]
  exact rfl
def barM {R : Type} (imm : Int) (K : Int → R) : R := Br (imm == 0) (K 3573758911) (Br (imm == 1) (K 3573758399) (Br (imm == 2) (K 3573758655) (K 3573756095)))
set_option maxRecDepth 1000000 in
theorem wrun_0 (d n m a c imm : Int) : runI Try.prog ECk 60 12 [insV 0 d n m a c imm] = Br (chkV 0 d n m a c imm != 0) (some (resW 0 (chkV 0 d n m a c imm))) (some (resW (encM 0 d n m a c imm) 0)) := by kernel_rfl
set_option maxRecDepth 1000000 in
theorem wrun_1 (d n m a c imm : Int) : runI Try.prog ECk 60 12 [insV 1 d n m a c imm] = Br (chkV 1 d n m a c imm != 0) (some (resW 0 (chkV 1 d n m a c imm))) (some (resW (encM 1 d n m a c imm) 0)) := by kernel_rfl
set_option maxRecDepth 1000000 in
theorem wrun_2 (d n m a c imm : Int) : runI Try.prog ECk 60 12 [insV 2 d n m a c imm] = Br (chkV 2 d n m a c imm != 0) (some (resW 0 (chkV 2 d n m a c imm))) (some (resW (encM 2 d n m a c imm) 0)) := by kernel_rfl
set_option maxRecDepth 1000000 in
theorem wrun_3 (d n m a c imm : Int) : runI Try.prog ECk 60 12 [insV 3 d n m a c imm] = Br (chkV 3 d n m a c imm != 0) (some (resW 0 (chkV 3 d n m a c imm))) (some (resW (encM 3 d n m a c imm) 0)) := by kernel_rfl
set_option maxRecDepth 1000000 in
theorem wrun_4 (d n m a c imm : Int) : runI Try.prog ECk 60 12 [insV 4 d n m a c imm] = Br (chkV 4 d n m a c imm != 0) (some (resW 0 (chkV 4 d n m a c imm))) (some (resW (encM 4 d n m a c imm) 0)) := by kernel_rfl
set_option maxRecDepth 1000000 in
theorem wrun_5 (d n m a c imm : Int) : runI Try.prog ECk 60 12 [insV 5 d n m a c imm] = Br (chkV 5 d n m a c imm != 0) (some (resW 0 (chkV 5 d n m a c imm))) (some (resW (encM 5 d n m a c imm) 0)) := by kernel_rfl
set_option maxRecDepth 1000000 in
theorem wrun_6 (d n m a c imm : Int) : runI Try.prog ECk 60 12 [insV 6 d n m a c imm] = Br (chkV 6 d n m a c imm != 0) (some (resW 0 (chkV 6 d n m a c imm))) (some (resW (encM 6 d n m a c imm) 0)) := by kernel_rfl
set_option maxRecDepth 1000000 in
theorem wrun_7 (d n m a c imm : Int) : runI Try.prog ECk 60 12 [insV 7 d n m a c imm] = Br (chkV 7 d n m a c imm != 0) (some (resW 0 (chkV 7 d n m a c imm))) (some (resW (encM 7 d n m a c imm) 0)) := by kernel_rfl
set_option maxRecDepth 1000000 in
theorem wrun_8 (d n m a c imm : Int) : runI Try.prog ECk 60 12 [insV 8 d n m a c imm] = Br (chkV 8 d n m a c imm != 0) (some (resW 0 (chkV 8 d n m a c imm))) (some (resW (encM 8 d n m a c imm) 0)) := by kernel_rfl
set_option maxRecDepth 1000000 in
theorem wrun_9 (d n m a c imm : Int) : runI Try.prog ECk 60 12 [insV 9 d n m a c imm] = Br (chkV 9 d n m a c imm != 0) (some (resW 0 (chkV 9 d n m a c imm))) (some (resW (encM 9 d n m a c imm) 0)) := by kernel_rfl
set_option maxRecDepth 1000000 in
theorem wrun_10 (d n m a c imm : Int) : runI Try.prog ECk 60 12 [insV 10 d n m a c imm] = Br (chkV 10 d n m a c imm != 0) (some (resW 0 (chkV 10 d n m a c imm))) (some (resW (encM 10 d n m a c imm) 0)) := by kernel_rfl
set_option maxRecDepth 1000000 in
theorem wrun_11 (d n m a c imm : Int) : runI Try.prog ECk 60 12 [insV 11 d n m a c imm] = Br (chkV 11 d n m a c imm != 0) (some (resW 0 (chkV 11 d n m a c imm))) (some (resW (encM 11 d n m a c imm) 0)) := by kernel_rfl
set_option maxRecDepth 1000000 in
theorem wrun_12 (d n m a c imm : Int) : runI Try.prog ECk 60 12 [insV 12 d n m a c imm] = Br (chkV 12 d n m a c imm != 0) (some (resW 0 (chkV 12 d n m a c imm))) (some (resW (encM 12 d n m a c imm) 0)) := by kernel_rfl
set_option maxRecDepth 1000000 in
theorem wrun_13 (d n m a c imm : Int) : runI Try.prog ECk 60 12 [insV 13 d n m a c imm] = Br (chkV 13 d n m a c imm != 0) (some (resW 0 (chkV 13 d n m a c imm))) (some (resW (encM 13 d n m a c imm) 0)) := by kernel_rfl
set_option maxRecDepth 1000000 in
theorem wrun_14 (d n m a c imm : Int) : runI Try.prog ECk 60 12 [insV 14 d n m a c imm] = Br (chkV 14 d n m a c imm != 0) (some (resW 0 (chkV 14 d n m a c imm))) (some (resW (encM 14 d n m a c imm) 0)) := by kernel_rfl
set_option maxRecDepth 1000000 in
theorem wrun_15 (d n m a c imm : Int) : runI Try.prog ECk 60 12 [insV 15 d n m a c imm] = Br (chkV 15 d n m a c imm != 0) (some (resW 0 (chkV 15 d n m a c imm))) (some (resW (encM 15 d n m a c imm) 0)) := by kernel_rfl
set_option maxRecDepth 1000000 in
theorem wrun_16 (d n m a c imm : Int) : runI Try.prog ECk 60 12 [insV 16 d n m a c imm] = Br (chkV 16 d n m a c imm != 0) (some (resW 0 (chkV 16 d n m a c imm))) (some (resW (encM 16 d n m a c imm) 0)) := by kernel_rfl
set_option maxRecDepth 1000000 in
theorem wrun_17 (d n m a c imm : Int) : runI Try.prog ECk 60 12 [insV 17 d n m a c imm] = Br (chkV 17 d n m a c imm != 0) (some (resW 0 (chkV 17 d n m a c imm))) (some (resW (encM 17 d n m a c imm) 0)) := by kernel_rfl
set_option maxRecDepth 1000000 in
theorem wrun_18 (d n m a c imm : Int) : runI Try.prog ECk 60 12 [insV 18 d n m a c imm] = Br (chkV 18 d n m a c imm != 0) (some (resW 0 (chkV 18 d n m a c imm))) (some (resW (encM 18 d n m a c imm) 0)) := by kernel_rfl
set_option maxRecDepth 1000000 in
theorem wrun_19 (d n m a c imm : Int) : runI Try.prog ECk 60 12 [insV 19 d n m a c imm] = Br (chkV 19 d n m a c imm != 0) (some (resW 0 (chkV 19 d n m a c imm))) (some (resW (encM 19 d n m a c imm) 0)) := by kernel_rfl
set_option maxRecDepth 1000000 in
theorem wrun_20 (d n m a c imm : Int) : runI Try.prog ECk 60 12 [insV 20 d n m a c imm] = Br (chkV 20 d n m a c imm != 0) (some (resW 0 (chkV 20 d n m a c imm))) (some (resW (encM 20 d n m a c imm) 0)) := by kernel_rfl
set_option maxRecDepth 1000000 in
theorem wrun_21 (d n m a c imm : Int) : runI Try.prog ECk 60 12 [insV 21 d n m a c imm] = Br (chkV 21 d n m a c imm != 0) (some (resW 0 (chkV 21 d n m a c imm))) (some (resW (encM 21 d n m a c imm) 0)) := by kernel_rfl
set_option maxRecDepth 1000000 in
theorem wrun_22 (d n m a c imm : Int) : runI Try.prog ECk 60 12 [insV 22 d n m a c imm] = Br (chkV 22 d n m a c imm != 0) (some (resW 0 (chkV 22 d n m a c imm))) (some (resW (encM 22 d n m a c imm) 0)) := by kernel_rfl
set_option maxRecDepth 1000000 in
theorem wrun_23 (d n m a c imm : Int) : runI Try.prog ECk 60 12 [insV 23 d n m a c imm] = Br (chkV 23 d n m a c imm != 0) (some (resW 0 (chkV 23 d n m a c imm))) (some (resW (encM 23 d n m a c imm) 0)) := by kernel_rfl
set_option maxRecDepth 1000000 in
theorem wrun_24 (d n m a c imm : Int) : runI Try.prog ECk 60 12 [insV 24 d n m a c imm] = Br (chkV 24 d n m a c imm != 0) (some (resW 0 (chkV 24 d n m a c imm))) (some (resW (encM 24 d n m a c imm) 0)) := by kernel_rfl
set_option maxRecDepth 1000000 in
theorem wrun_25 (d n m a c imm : Int) : runI Try.prog ECk 60 12 [insV 25 d n m a c imm] = Br (chkV 25 d n m a c imm != 0) (some (resW 0 (chkV 25 d n m a c imm))) (some (resW (encM 25 d n m a c imm) 0)) := by kernel_rfl
set_option maxRecDepth 1000000 in
theorem wrun_26 (d n m a c imm : Int) : runI Try.prog ECk 60 12 [insV 26 d n m a c imm] = Br (chkV 26 d n m a c imm != 0) (some (resW 0 (chkV 26 d n m a c imm))) (some (resW (encM 26 d n m a c imm) 0)) := by kernel_rfl
set_option maxRecDepth 1000000 in
theorem wrun_27 (d n m a c imm : Int) : runI Try.prog ECk 60 12 [insV 27 d n m a c imm] = Br (chkV 27 d n m a c imm != 0) (some (resW 0 (chkV 27 d n m a c imm))) (some (resW (encM 27 d n m a c imm) 0)) := by kernel_rfl
set_option maxRecDepth 1000000 in
theorem wrun_28 (d n m a c imm : Int) : runI Try.prog ECk 60 12 [insV 28 d n m a c imm] = Br (chkV 28 d n m a c imm != 0) (some (resW 0 (chkV 28 d n m a c imm))) (some (resW (encM 28 d n m a c imm) 0)) := by kernel_rfl
set_option maxRecDepth 1000000 in
theorem wrun_29 (d n m a c imm : Int) : runI Try.prog ECk 60 12 [insV 29 d n m a c imm] = Br (chkV 29 d n m a c imm != 0) (some (resW 0 (chkV 29 d n m a c imm))) (some (resW (encM 29 d n m a c imm) 0)) := by kernel_rfl
set_option maxRecDepth 1000000 in
theorem wrun_30 (d n m a c imm : Int) : runI Try.prog ECk 60 12 [insV 30 d n m a c imm] = Br (chkV 30 d n m a c imm != 0) (some (resW 0 (chkV 30 d n m a c imm))) (some (resW (encM 30 d n m a c imm) 0)) := by kernel_rfl
set_option maxRecDepth 1000000 in
theorem wrun_31 (d n m a c imm : Int) : runI Try.prog ECk 60 12 [insV 31 d n m a c imm] = Br (chkV 31 d n m a c imm != 0) (some (resW 0 (chkV 31 d n m a c imm))) (some (resW (encM 31 d n m a c imm) 0)) := by kernel_rfl
set_option maxRecDepth 1000000 in
theorem wrun_32 (d n m a c imm : Int) : runI Try.prog ECk 60 12 [insV 32 d n m a c imm] = Br (chkV 32 d n m a c imm != 0) (some (resW 0 (chkV 32 d n m a c imm))) (some (resW (encM 32 d n m a c imm) 0)) := by kernel_rfl
set_option maxRecDepth 1000000 in
theorem wrun_33 (d n m a c imm : Int) : runI Try.prog ECk 60 12 [insV 33 d n m a c imm] = Br (chkV 33 d n m a c imm != 0) (some (resW 0 (chkV 33 d n m a c imm))) (some (resW (encM 33 d n m a c imm) 0)) := by kernel_rfl
set_option maxRecDepth 1000000 in
theorem wrun_34 (d n m a c imm : Int) : runI Try.prog ECk 60 12 [insV 34 d n m a c imm] = Br (chkV 34 d n m a c imm != 0) (some (resW 0 (chkV 34 d n m a c imm))) (some (resW (encM 34 d n m a c imm) 0)) := by kernel_rfl
set_option maxRecDepth 1000000 in
theorem wrun_35 (d n m a c imm : Int) : runI Try.prog ECk 60 12 [insV 35 d n m a c imm] = Br (chkV 35 d n m a c imm != 0) (some (resW 0 (chkV 35 d n m a c imm))) (some (resW (encM 35 d n m a c imm) 0)) := by kernel_rfl
set_option maxRecDepth 1000000 in
theorem wrun_36 (d n m a c imm : Int) : runI Try.prog ECk 60 12 [insV 36 d n m a c imm] = Br (chkV 36 d n m a c imm != 0) (some (resW 0 (chkV 36 d n m a c imm))) (some (resW (encM 36 d n m a c imm) 0)) := by kernel_rfl
set_option maxRecDepth 1000000 in
theorem wrun_37 (d n m a c imm : Int) : runI Try.prog ECk 60 12 [insV 37 d n m a c imm] = Br (chkV 37 d n m a c imm != 0) (some (resW 0 (chkV 37 d n m a c imm))) (barM imm fun w => some (resW w 0)) := by kernel_rfl
set_option maxRecDepth 1000000 in
theorem wrun_38 (d n m a c imm : Int) : runI Try.prog ECk 60 12 [insV 38 d n m a c imm] = Br (chkV 38 d n m a c imm != 0) (some (resW 0 (chkV 38 d n m a c imm))) (some (resW (encM 38 d n m a c imm) 0)) := by kernel_rfl
set_option maxRecDepth 1000000 in
theorem wrun_39 (d n m a c imm : Int) : runI Try.prog ECk 60 12 [insV 39 d n m a c imm] = Br (chkV 39 d n m a c imm != 0) (some (resW 0 (chkV 39 d n m a c imm))) (some (resW (encM 39 d n m a c imm) 0)) := by kernel_rfl
set_option maxRecDepth 1000000 in
theorem wrun_40 (d n m a c imm : Int) : runI Try.prog ECk 60 12 [insV 40 d n m a c imm] = Br (chkV 40 d n m a c imm != 0) (some (resW 0 (chkV 40 d n m a c imm))) (some (resW (encM 40 d n m a c imm) 0)) := by kernel_rfl
set_option maxRecDepth 1000000 in
theorem wrun_41 (d n m a c imm : Int) : runI Try.prog ECk 60 12 [insV 41 d n m a c imm] = Br (chkV 41 d n m a c imm != 0) (some (resW 0 (chkV 41 d n m a c imm))) (some (resW (encM 41 d n m a c imm) 0)) := by kernel_rfl
set_option maxRecDepth 1000000 in
theorem wrun_42 (d n m a c imm : Int) : runI Try.prog ECk 60 12 [insV 42 d n m a c imm] = Br (chkV 42 d n m a c imm != 0) (some (resW 0 (chkV 42 d n m a c imm))) (some (resW (encM 42 d n m a c imm) 0)) := by kernel_rfl
theorem wrun_in (d n m a c imm : Int) : ∀ k : Nat, k < 43 → okP k d n m a c imm → runI Try.prog ECk 60 12 [insV (k : Nat) d n m a c imm] = some (resW (wordP k d n m a c imm) 0)
  | 0, _, h => by
    have hc : chkV (0 : Nat) d n m a c imm = 0 := if_pos ⟨by omega, h⟩
    have h2 := wrun_0 d n m a c imm
    rw [enc_0 h] at h2
    refine h2.trans ?_
    rw [show chkV 0 d n m a c imm = 0 from hc]; rfl
  | 1, _, h => by
    have hc : chkV (1 : Nat) d n m a c imm = 0 := if_pos ⟨by omega, h⟩
    have h2 := wrun_1 d n m a c imm
    rw [enc_1 h] at h2
    refine h2.trans ?_
    rw [show chkV 1 d n m a c imm = 0 from hc]; rfl
  | 2, _, h => by
    have hc : chkV (2 : Nat) d n m a c imm = 0 := if_pos ⟨by omega, h⟩
    have h2 := wrun_2 d n m a c imm
    rw [enc_2 h] at h2
    refine h2.trans ?_
    rw [show chkV 2 d n m a c imm = 0 from hc]; rfl
  | 3, _, h => by
    have hc : chkV (3 : Nat) d n m a c imm = 0 := if_pos ⟨by omega, h⟩
    have h2 := wrun_3 d n m a c imm
    rw [enc_3 h] at h2
    refine h2.trans ?_
    rw [show chkV 3 d n m a c imm = 0 from hc]; rfl
  | 4, _, h => by
    have hc : chkV (4 : Nat) d n m a c imm = 0 := if_pos ⟨by omega, h⟩
    have h2 := wrun_4 d n m a c imm
    rw [enc_4 h] at h2
    refine h2.trans ?_
    rw [show chkV 4 d n m a c imm = 0 from hc]; rfl
  | 5, _, h => by
    have hc : chkV (5 : Nat) d n m a c imm = 0 := if_pos ⟨by omega, h⟩
    have h2 := wrun_5 d n m a c imm
    rw [enc_5 h] at h2
    refine h2.trans ?_
    rw [show chkV 5 d n m a c imm = 0 from hc]; rfl
  | 6, _, h => by
    have hc : chkV (6 : Nat) d n m a c imm = 0 := if_pos ⟨by omega, h⟩
    have h2 := wrun_6 d n m a c imm
    rw [enc_6 h] at h2
    refine h2.trans ?_
    rw [show chkV 6 d n m a c imm = 0 from hc]; rfl
  | 7, _, h => by
    have hc : chkV (7 : Nat) d n m a c imm = 0 := if_pos ⟨by omega, h⟩
    have h2 := wrun_7 d n m a c imm
    rw [enc_7 h] at h2
    refine h2.trans ?_
    rw [show chkV 7 d n m a c imm = 0 from hc]; rfl
  | 8, _, h => by
    have hc : chkV (8 : Nat) d n m a c imm = 0 := if_pos ⟨by omega, h⟩
    have h2 := wrun_8 d n m a c imm
    rw [enc_8 h] at h2
    refine h2.trans ?_
    rw [show chkV 8 d n m a c imm = 0 from hc]; rfl
  | 9, _, h => by
    have hc : chkV (9 : Nat) d n m a c imm = 0 := if_pos ⟨by omega, h⟩
    have h2 := wrun_9 d n m a c imm
    rw [enc_9 h] at h2
    refine h2.trans ?_
    rw [show chkV 9 d n m a c imm = 0 from hc]; rfl
  | 10, _, h => by
    have hc : chkV (10 : Nat) d n m a c imm = 0 := if_pos ⟨by omega, h⟩
    have h2 := wrun_10 d n m a c imm
    rw [enc_10 h] at h2
    refine h2.trans ?_
    rw [show chkV 10 d n m a c imm = 0 from hc]; rfl
  | 11, _, h => by
    have hc : chkV (11 : Nat) d n m a c imm = 0 := if_pos ⟨by omega, h⟩
    have h2 := wrun_11 d n m a c imm
    rw [enc_11 h] at h2
    refine h2.trans ?_
    rw [show chkV 11 d n m a c imm = 0 from hc]; rfl
  | 12, _, h => by
    have hc : chkV (12 : Nat) d n m a c imm = 0 := if_pos ⟨by omega, h⟩
    have h2 := wrun_12 d n m a c imm
    rw [enc_12 h] at h2
    refine h2.trans ?_
    rw [show chkV 12 d n m a c imm = 0 from hc]; rfl
  | 13, _, h => by
    have hc : chkV (13 : Nat) d n m a c imm = 0 := if_pos ⟨by omega, h⟩
    have h2 := wrun_13 d n m a c imm
    rw [enc_13 h] at h2
    refine h2.trans ?_
    rw [show chkV 13 d n m a c imm = 0 from hc]; rfl
  | 14, _, h => by
    have hc : chkV (14 : Nat) d n m a c imm = 0 := if_pos ⟨by omega, h⟩
    have h2 := wrun_14 d n m a c imm
    rw [enc_14 h] at h2
    refine h2.trans ?_
    rw [show chkV 14 d n m a c imm = 0 from hc]; rfl
  | 15, _, h => by
    have hc : chkV (15 : Nat) d n m a c imm = 0 := if_pos ⟨by omega, h⟩
    have h2 := wrun_15 d n m a c imm
    rw [enc_15 h] at h2
    refine h2.trans ?_
    rw [show chkV 15 d n m a c imm = 0 from hc]; rfl
  | 16, _, h => by
    have hc : chkV (16 : Nat) d n m a c imm = 0 := if_pos ⟨by omega, h⟩
    have h2 := wrun_16 d n m a c imm
    rw [enc_16 h] at h2
    refine h2.trans ?_
    rw [show chkV 16 d n m a c imm = 0 from hc]; rfl
  | 17, _, h => by
    have hc : chkV (17 : Nat) d n m a c imm = 0 := if_pos ⟨by omega, h⟩
    have h2 := wrun_17 d n m a c imm
    rw [enc_17 h] at h2
    refine h2.trans ?_
    rw [show chkV 17 d n m a c imm = 0 from hc]; rfl
  | 18, _, h => by
    have hc : chkV (18 : Nat) d n m a c imm = 0 := if_pos ⟨by omega, h⟩
    have h2 := wrun_18 d n m a c imm
    rw [enc_18 h] at h2
    refine h2.trans ?_
    rw [show chkV 18 d n m a c imm = 0 from hc]; rfl
  | 19, _, h => by
    have hc : chkV (19 : Nat) d n m a c imm = 0 := if_pos ⟨by omega, h⟩
    have h2 := wrun_19 d n m a c imm
    rw [enc_19 h] at h2
    refine h2.trans ?_
    rw [show chkV 19 d n m a c imm = 0 from hc]; rfl
  | 20, _, h => by
    have hc : chkV (20 : Nat) d n m a c imm = 0 := if_pos ⟨by omega, h⟩
    have h2 := wrun_20 d n m a c imm
    rw [enc_20 h] at h2
    refine h2.trans ?_
    rw [show chkV 20 d n m a c imm = 0 from hc]; rfl
  | 21, _, h => by
    have hc : chkV (21 : Nat) d n m a c imm = 0 := if_pos ⟨by omega, h⟩
    have h2 := wrun_21 d n m a c imm
    rw [enc_21 h] at h2
    refine h2.trans ?_
    rw [show chkV 21 d n m a c imm = 0 from hc]; rfl
  | 22, _, h => by
    have hc : chkV (22 : Nat) d n m a c imm = 0 := if_pos ⟨by omega, h⟩
    have h2 := wrun_22 d n m a c imm
    rw [enc_22 h] at h2
    refine h2.trans ?_
    rw [show chkV 22 d n m a c imm = 0 from hc]; rfl
  | 23, _, h => by
    have hc : chkV (23 : Nat) d n m a c imm = 0 := if_pos ⟨by omega, h⟩
    have h2 := wrun_23 d n m a c imm
    rw [enc_23 h] at h2
    refine h2.trans ?_
    rw [show chkV 23 d n m a c imm = 0 from hc]; rfl
  | 24, _, h => by
    have hc : chkV (24 : Nat) d n m a c imm = 0 := if_pos ⟨by omega, h⟩
    have h2 := wrun_24 d n m a c imm
    rw [enc_24 h] at h2
    refine h2.trans ?_
    rw [show chkV 24 d n m a c imm = 0 from hc]; rfl
  | 25, _, h => by
    have hc : chkV (25 : Nat) d n m a c imm = 0 := if_pos ⟨by omega, h⟩
    have h2 := wrun_25 d n m a c imm
    rw [enc_25 h] at h2
    refine h2.trans ?_
    rw [show chkV 25 d n m a c imm = 0 from hc]; rfl
  | 26, _, h => by
    have hc : chkV (26 : Nat) d n m a c imm = 0 := if_pos ⟨by omega, h⟩
    have h2 := wrun_26 d n m a c imm
    rw [enc_26 h] at h2
    refine h2.trans ?_
    rw [show chkV 26 d n m a c imm = 0 from hc]; rfl
  | 27, _, h => by
    have hc : chkV (27 : Nat) d n m a c imm = 0 := if_pos ⟨by omega, h⟩
    have h2 := wrun_27 d n m a c imm
    rw [enc_27 h] at h2
    refine h2.trans ?_
    rw [show chkV 27 d n m a c imm = 0 from hc]; rfl
  | 28, _, h => by
    have hc : chkV (28 : Nat) d n m a c imm = 0 := if_pos ⟨by omega, h⟩
    have h2 := wrun_28 d n m a c imm
    rw [enc_28 h] at h2
    refine h2.trans ?_
    rw [show chkV 28 d n m a c imm = 0 from hc]; rfl
  | 29, _, h => by
    have hc : chkV (29 : Nat) d n m a c imm = 0 := if_pos ⟨by omega, h⟩
    have h2 := wrun_29 d n m a c imm
    rw [enc_29 h] at h2
    refine h2.trans ?_
    rw [show chkV 29 d n m a c imm = 0 from hc]; rfl
  | 30, _, h => by
    have hc : chkV (30 : Nat) d n m a c imm = 0 := if_pos ⟨by omega, h⟩
    have h2 := wrun_30 d n m a c imm
    rw [enc_30 h] at h2
    refine h2.trans ?_
    rw [show chkV 30 d n m a c imm = 0 from hc]; rfl
  | 31, _, h => by
    have hc : chkV (31 : Nat) d n m a c imm = 0 := if_pos ⟨by omega, h⟩
    have h2 := wrun_31 d n m a c imm
    rw [enc_31 h] at h2
    refine h2.trans ?_
    rw [show chkV 31 d n m a c imm = 0 from hc]; rfl
  | 32, _, h => by
    have hc : chkV (32 : Nat) d n m a c imm = 0 := if_pos ⟨by omega, h⟩
    have h2 := wrun_32 d n m a c imm
    rw [enc_32 h] at h2
    refine h2.trans ?_
    rw [show chkV 32 d n m a c imm = 0 from hc]; rfl
  | 33, _, h => by
    have hc : chkV (33 : Nat) d n m a c imm = 0 := if_pos ⟨by omega, h⟩
    have h2 := wrun_33 d n m a c imm
    rw [enc_33 h] at h2
    refine h2.trans ?_
    rw [show chkV 33 d n m a c imm = 0 from hc]; rfl
  | 34, _, h => by
    have hc : chkV (34 : Nat) d n m a c imm = 0 := if_pos ⟨by omega, h⟩
    have h2 := wrun_34 d n m a c imm
    rw [enc_34 h] at h2
    refine h2.trans ?_
    rw [show chkV 34 d n m a c imm = 0 from hc]; rfl
  | 35, _, h => by
    have hc : chkV (35 : Nat) d n m a c imm = 0 := if_pos ⟨by omega, h⟩
    have h2 := wrun_35 d n m a c imm
    rw [enc_35 h] at h2
    refine h2.trans ?_
    rw [show chkV 35 d n m a c imm = 0 from hc]; rfl
  | 36, _, h => by
    have hc : chkV (36 : Nat) d n m a c imm = 0 := if_pos ⟨by omega, h⟩
    have h2 := wrun_36 d n m a c imm
    rw [enc_36 h] at h2
    refine h2.trans ?_
    rw [show chkV 36 d n m a c imm = 0 from hc]; rfl
  | 37, _, h => by
    have hc : chkV (37 : Nat) d n m a c imm = 0 := if_pos ⟨by omega, h⟩
    have h2 := wrun_37 d n m a c imm
    rw [show chkV 37 d n m a c imm = 0 from hc] at h2
    obtain ⟨hd, hn, hm, ha, hc, hz, hi⟩ : d = 0 ∧ n = 0 ∧ m = 0 ∧ a = 0 ∧ c = 0 ∧ True ∧ (0 ≤ imm ∧ imm ≤ 2) := h
    rcases (show imm = 0 ∨ imm = 1 ∨ imm = 2 by omega) with rfl | rfl | rfl
    · exact h2
    · exact h2
    · exact h2
  | 38, _, h => by
    have hc : chkV (38 : Nat) d n m a c imm = 0 := if_pos ⟨by omega, h⟩
    have h2 := wrun_38 d n m a c imm
    rw [enc_38 h] at h2
    refine h2.trans ?_
    rw [show chkV 38 d n m a c imm = 0 from hc]; rfl
  | 39, _, h => by
    have hc : chkV (39 : Nat) d n m a c imm = 0 := if_pos ⟨by omega, h⟩
    have h2 := wrun_39 d n m a c imm
    rw [enc_39 h] at h2
    refine h2.trans ?_
    rw [show chkV 39 d n m a c imm = 0 from hc]; rfl
  | 40, _, h => by
    have hc : chkV (40 : Nat) d n m a c imm = 0 := if_pos ⟨by omega, h⟩
    have h2 := wrun_40 d n m a c imm
    rw [enc_40 h] at h2
    refine h2.trans ?_
    rw [show chkV 40 d n m a c imm = 0 from hc]; rfl
  | 41, _, h => by
    have hc : chkV (41 : Nat) d n m a c imm = 0 := if_pos ⟨by omega, h⟩
    have h2 := wrun_41 d n m a c imm
    rw [enc_41 h] at h2
    refine h2.trans ?_
    rw [show chkV 41 d n m a c imm = 0 from hc]; rfl
  | 42, _, h => by
    have hc : chkV (42 : Nat) d n m a c imm = 0 := if_pos ⟨by omega, h⟩
    have h2 := wrun_42 d n m a c imm
    rw [enc_42 h] at h2
    refine h2.trans ?_
    rw [show chkV 42 d n m a c imm = 0 from hc]; rfl
  | k + 43, h, _ => absurd h (by omega)
theorem word_ok (op d n m a c imm : Int) : CallOk Try.prog 12 [insV op d n m a c imm] [] fun r _ => r = .ret (resW (wordV op d n m a c imm) (chkV op d n m a c imm)) := by
  by_cases h : okI op d n m a c imm
  · have h1 : chkV op d n m a c imm = 0 := if_pos h
    have h2 : wordV op d n m a c imm = wordP op.toNat d n m a c imm := if_pos h
    rw [h1, h2]
    obtain ⟨h0, h⟩ := h
    obtain ⟨k, rfl⟩ := Int.eq_ofNat_of_zero_le h0.1
    exact runI_ok ECk_ok names mixed (n := 60) (wrun_in d n m a c imm k (by omega) h)
  · have h1 : chkV op d n m a c imm = 1 := if_neg h
    have h2 : wordV op d n m a c imm = 0 := if_neg h
    rw [h1, h2]
    exact word_bad h
def wordG : List V → Option V
  | [v] => match readIns v with
    | some (op, d, n, m, a, c, imm) => some (resW (wordV op d n m a c imm) (chkV op d n m a c imm))
    | none => none
  | _ => none
theorem wordG_ok {E : Eh} (hE : EOk Try.prog E) : EOk Try.prog (specE 12 wordG E) := by
  refine specE_ok hE fun args v h => ?_
  unfold wordG at h
  split at h
  · split at h
    · rename_i u op d n m a c imm hr
      cases h
      rw [readIns_eq hr]
      exact ⟨⟨insV_bd .., trivial⟩, ⟨trivial, trivial, trivial⟩, word_ok ..⟩
    · cases h
  · cases h
end Go.Proofs.Ytjoopjhimgdgdaa.isa
