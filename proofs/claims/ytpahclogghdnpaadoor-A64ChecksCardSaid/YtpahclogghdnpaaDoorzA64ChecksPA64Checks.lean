/- Parts of the proof, one behind the other. -/
import Derived.Test.YtpahclogghdnpaaDoorzA64ChecksARefI
import Derived.Test.YtpahclogghdnpaaDoorzA64ChecksRLX
import Derived.Test.YtpahclogghdnpaaDoorzA64ChecksAName
import Derived.Test.YtpahclogghdnpaaDoorzA64ChecksINum
import Derived.Test.YtpahclogghdnpaaDoorzA64ChecksIPlainC
section
/- brazierref2.In, brazierref2.Out: tables' lines. Printed by genrj.py. -/
set_option linter.unusedVariables false
set_option linter.unusedSimpArgs false
set_option maxRecDepth 1000000
namespace Go.Proofs.YtpahclogghdnpaaDoor.a64
open Go Go.Proofs Go.Proofs.YtpahclogghdnpaaDoorRL Go.Proofs.YtpahclogghdnpaaDoor.isa
def insR (r : Int) : List Int → List Int
  | [] => [r]
  | x :: t => if x < r then x :: insR r t else if x = r then x :: t else r :: x :: t
def laidL (l : List Int) (r : Int) : List Int := if r = 31 then l else insR r l
def refL : List Int → List Int → List Int
  | l, [] => l
  | l, r :: rs => refL (laidL l r) rs
theorem scan_ok {F : List Int → Prop} {r : Int} : ∀ (t pre : List Int), F (pre ++ insR r t) → scanM F r pre t
  | [], pre, h => h
  | x :: t, pre, h => by
    unfold scanM
    unfold insR at h
    by_cases h1 : x < r
    · rw [if_pos h1] at h
      rw [decide_eq_true h1]
      exact scan_ok t (pre ++ [x]) (by rw [List.append_assoc]; exact h)
    · rw [if_neg h1] at h
      rw [decide_eq_false h1]
      by_cases h2 : x = r
      · rw [if_pos h2] at h
        rw [show (x == r) = true from by rw [beq_iff_eq]; exact h2]
        exact h
      · rw [if_neg h2] at h
        rw [show (x == r) = false from by rw [beq_eq_false_iff_ne]; exact h2]
        exact h
theorem laids_ok {F : List Int → Prop} : ∀ (rs l : List Int), F (refL l rs) → laidsM l rs F
  | [], l, h => h
  | r :: rs, l, h => by
    have h : F (refL (laidL l r) rs) := h
    show laidM l r fun l' => laidsM l' rs F
    unfold laidM
    unfold laidL at h
    by_cases h1 : r = 31
    · rw [if_pos h1] at h
      rw [show (r == 31) = true from by rw [beq_iff_eq]; exact h1]
      exact laids_ok rs l h
    · rw [if_neg h1] at h
      rw [show (r == 31) = false from by rw [beq_eq_false_iff_ne]; exact h1]
      exact scan_ok l [] (laids_ok rs _ h)
theorem st_stk {x : Int} {F : Int → Prop} (h : F (stk x)) : st31 x 32 F := by
  unfold st31
  unfold stk at h
  cases hx : x == 31
  · rw [hx] at h; exact h
  · rw [hx] at h; exact h
theorem st_same {x : Int} {F : Int → Prop} (h : F x) : st31 x x F := by
  unfold st31
  cases x == 31
  · exact h
  · exact h
def resL (c : Int) (raw : List Int) : List Int := match c != 0 with
  | true => []
  | false => refL [] raw
theorem res_t {c : Int} {raw : List Int} (h : (c != 0) = true) : some [] = some (resL c raw) := by unfold resL; rw [h]
theorem res_f {c : Int} {raw : List Int} (h : (c != 0) = false) : some (refL [] raw) = some (resL c raw) := by unfold resL; rw [h]
theorem br_two {b : Bool} {P Q : Prop} (h1 : b = true → P) (h2 : b = false → Q) : Br b P Q := by
  cases b
  · exact h2 rfl
  · exact h1 rfl
section
variable (d n m a c imm : Int)
theorem ri_ok_0 : CallOk Try.prog 12 [insV 0 d n m a c imm] [] fun r s => proj r s = some (resL (chkV 0 d n m a c imm) (inRaw d n m a 0)) := by
  refine gcR_ok (callG_ok ERI_ok names mixed (n := 200) ?_)
  rw [ri_eq_0 d n m a c imm fun o => o = some (resL (chkV 0 d n m a c imm) (inRaw d n m a 0))]
  exact br_two (fun h => res_t h) fun h => laids_ok _ [] (res_f h)
theorem ri_ok_1 : CallOk Try.prog 12 [insV 1 d n m a c imm] [] fun r s => proj r s = some (resL (chkV 1 d n m a c imm) (inRaw d n m a 1)) := by
  refine gcR_ok (callG_ok ERI_ok names mixed (n := 200) ?_)
  rw [ri_eq_1 d n m a c imm fun o => o = some (resL (chkV 1 d n m a c imm) (inRaw d n m a 1))]
  exact br_two (fun h => res_t h) fun h => laids_ok _ [] (res_f h)
theorem ri_ok_2 : CallOk Try.prog 12 [insV 2 d n m a c imm] [] fun r s => proj r s = some (resL (chkV 2 d n m a c imm) (inRaw d n m a 2)) := by
  refine gcR_ok (callG_ok ERI_ok names mixed (n := 200) ?_)
  rw [ri_eq_2 d n m a c imm fun o => o = some (resL (chkV 2 d n m a c imm) (inRaw d n m a 2))]
  exact br_two (fun h => res_t h) fun h => laids_ok _ [] (res_f h)
theorem ri_ok_3 : CallOk Try.prog 12 [insV 3 d n m a c imm] [] fun r s => proj r s = some (resL (chkV 3 d n m a c imm) (inRaw d n m a 3)) := by
  refine gcR_ok (callG_ok ERI_ok names mixed (n := 200) ?_)
  rw [ri_eq_3 d n m a c imm fun o => o = some (resL (chkV 3 d n m a c imm) (inRaw d n m a 3))]
  exact br_two (fun h => res_t h) fun h => laids_ok _ [] (res_f h)
theorem ri_ok_4 : CallOk Try.prog 12 [insV 4 d n m a c imm] [] fun r s => proj r s = some (resL (chkV 4 d n m a c imm) (inRaw d n m a 4)) := by
  refine gcR_ok (callG_ok ERI_ok names mixed (n := 200) ?_)
  rw [ri_eq_4 d n m a c imm fun o => o = some (resL (chkV 4 d n m a c imm) (inRaw d n m a 4))]
  exact br_two (fun h => res_t h) fun h => st_stk (laids_ok _ [] (res_f h))
theorem ri_ok_5 : CallOk Try.prog 12 [insV 5 d n m a c imm] [] fun r s => proj r s = some (resL (chkV 5 d n m a c imm) (inRaw d n m a 5)) := by
  refine gcR_ok (callG_ok ERI_ok names mixed (n := 200) ?_)
  rw [ri_eq_5 d n m a c imm fun o => o = some (resL (chkV 5 d n m a c imm) (inRaw d n m a 5))]
  exact br_two (fun h => res_t h) fun h => st_stk (laids_ok _ [] (res_f h))
theorem ri_ok_6 : CallOk Try.prog 12 [insV 6 d n m a c imm] [] fun r s => proj r s = some (resL (chkV 6 d n m a c imm) (inRaw d n m a 6)) := by
  refine gcR_ok (callG_ok ERI_ok names mixed (n := 200) ?_)
  rw [ri_eq_6 d n m a c imm fun o => o = some (resL (chkV 6 d n m a c imm) (inRaw d n m a 6))]
  exact br_two (fun h => res_t h) fun h => st_stk (laids_ok _ [] (res_f h))
theorem ri_ok_7 : CallOk Try.prog 12 [insV 7 d n m a c imm] [] fun r s => proj r s = some (resL (chkV 7 d n m a c imm) (inRaw d n m a 7)) := by
  refine gcR_ok (callG_ok ERI_ok names mixed (n := 200) ?_)
  rw [ri_eq_7 d n m a c imm fun o => o = some (resL (chkV 7 d n m a c imm) (inRaw d n m a 7))]
  exact br_two (fun h => res_t h) fun h => st_same (laids_ok _ [] (res_f h))
theorem ri_ok_8 : CallOk Try.prog 12 [insV 8 d n m a c imm] [] fun r s => proj r s = some (resL (chkV 8 d n m a c imm) (inRaw d n m a 8)) := by
  refine gcR_ok (callG_ok ERI_ok names mixed (n := 200) ?_)
  rw [ri_eq_8 d n m a c imm fun o => o = some (resL (chkV 8 d n m a c imm) (inRaw d n m a 8))]
  exact br_two (fun h => res_t h) fun h => st_same (laids_ok _ [] (res_f h))
theorem ri_ok_9 : CallOk Try.prog 12 [insV 9 d n m a c imm] [] fun r s => proj r s = some (resL (chkV 9 d n m a c imm) (inRaw d n m a 9)) := by
  refine gcR_ok (callG_ok ERI_ok names mixed (n := 200) ?_)
  rw [ri_eq_9 d n m a c imm fun o => o = some (resL (chkV 9 d n m a c imm) (inRaw d n m a 9))]
  exact br_two (fun h => res_t h) fun h => st_same (laids_ok _ [] (res_f h))
theorem ri_ok_10 : CallOk Try.prog 12 [insV 10 d n m a c imm] [] fun r s => proj r s = some (resL (chkV 10 d n m a c imm) (inRaw d n m a 10)) := by
  refine gcR_ok (callG_ok ERI_ok names mixed (n := 200) ?_)
  rw [ri_eq_10 d n m a c imm fun o => o = some (resL (chkV 10 d n m a c imm) (inRaw d n m a 10))]
  exact br_two (fun h => res_t h) fun h => st_same (laids_ok _ [] (res_f h))
theorem ri_ok_11 : CallOk Try.prog 12 [insV 11 d n m a c imm] [] fun r s => proj r s = some (resL (chkV 11 d n m a c imm) (inRaw d n m a 11)) := by
  refine gcR_ok (callG_ok ERI_ok names mixed (n := 200) ?_)
  rw [ri_eq_11 d n m a c imm fun o => o = some (resL (chkV 11 d n m a c imm) (inRaw d n m a 11))]
  exact br_two (fun h => res_t h) fun h => st_same (laids_ok _ [] (res_f h))
theorem ri_ok_12 : CallOk Try.prog 12 [insV 12 d n m a c imm] [] fun r s => proj r s = some (resL (chkV 12 d n m a c imm) (inRaw d n m a 12)) := by
  refine gcR_ok (callG_ok ERI_ok names mixed (n := 200) ?_)
  rw [ri_eq_12 d n m a c imm fun o => o = some (resL (chkV 12 d n m a c imm) (inRaw d n m a 12))]
  exact br_two (fun h => res_t h) fun h => st_same (laids_ok _ [] (res_f h))
theorem ri_ok_13 : CallOk Try.prog 12 [insV 13 d n m a c imm] [] fun r s => proj r s = some (resL (chkV 13 d n m a c imm) (inRaw d n m a 13)) := by
  refine gcR_ok (callG_ok ERI_ok names mixed (n := 200) ?_)
  rw [ri_eq_13 d n m a c imm fun o => o = some (resL (chkV 13 d n m a c imm) (inRaw d n m a 13))]
  exact br_two (fun h => res_t h) fun h => st_same (laids_ok _ [] (res_f h))
theorem ri_ok_14 : CallOk Try.prog 12 [insV 14 d n m a c imm] [] fun r s => proj r s = some (resL (chkV 14 d n m a c imm) (inRaw d n m a 14)) := by
  refine gcR_ok (callG_ok ERI_ok names mixed (n := 200) ?_)
  rw [ri_eq_14 d n m a c imm fun o => o = some (resL (chkV 14 d n m a c imm) (inRaw d n m a 14))]
  exact br_two (fun h => res_t h) fun h => st_same (laids_ok _ [] (res_f h))
theorem ri_ok_15 : CallOk Try.prog 12 [insV 15 d n m a c imm] [] fun r s => proj r s = some (resL (chkV 15 d n m a c imm) (inRaw d n m a 15)) := by
  refine gcR_ok (callG_ok ERI_ok names mixed (n := 200) ?_)
  rw [ri_eq_15 d n m a c imm fun o => o = some (resL (chkV 15 d n m a c imm) (inRaw d n m a 15))]
  exact br_two (fun h => res_t h) fun h => st_same (laids_ok _ [] (res_f h))
theorem ri_ok_16 : CallOk Try.prog 12 [insV 16 d n m a c imm] [] fun r s => proj r s = some (resL (chkV 16 d n m a c imm) (inRaw d n m a 16)) := by
  refine gcR_ok (callG_ok ERI_ok names mixed (n := 200) ?_)
  rw [ri_eq_16 d n m a c imm fun o => o = some (resL (chkV 16 d n m a c imm) (inRaw d n m a 16))]
  exact br_two (fun h => res_t h) fun h => st_same (laids_ok _ [] (res_f h))
theorem ri_ok_17 : CallOk Try.prog 12 [insV 17 d n m a c imm] [] fun r s => proj r s = some (resL (chkV 17 d n m a c imm) (inRaw d n m a 17)) := by
  refine gcR_ok (callG_ok ERI_ok names mixed (n := 200) ?_)
  rw [ri_eq_17 d n m a c imm fun o => o = some (resL (chkV 17 d n m a c imm) (inRaw d n m a 17))]
  exact br_two (fun h => res_t h) fun h => st_same (laids_ok _ [] (res_f h))
theorem ri_ok_18 : CallOk Try.prog 12 [insV 18 d n m a c imm] [] fun r s => proj r s = some (resL (chkV 18 d n m a c imm) (inRaw d n m a 18)) := by
  refine gcR_ok (callG_ok ERI_ok names mixed (n := 200) ?_)
  rw [ri_eq_18 d n m a c imm fun o => o = some (resL (chkV 18 d n m a c imm) (inRaw d n m a 18))]
  exact br_two (fun h => res_t h) fun h => st_same (laids_ok _ [] (res_f h))
theorem ri_ok_19 : CallOk Try.prog 12 [insV 19 d n m a c imm] [] fun r s => proj r s = some (resL (chkV 19 d n m a c imm) (inRaw d n m a 19)) := by
  refine gcR_ok (callG_ok ERI_ok names mixed (n := 200) ?_)
  rw [ri_eq_19 d n m a c imm fun o => o = some (resL (chkV 19 d n m a c imm) (inRaw d n m a 19))]
  exact br_two (fun h => res_t h) fun h => st_same (laids_ok _ [] (res_f h))
theorem ri_ok_20 : CallOk Try.prog 12 [insV 20 d n m a c imm] [] fun r s => proj r s = some (resL (chkV 20 d n m a c imm) (inRaw d n m a 20)) := by
  refine gcR_ok (callG_ok ERI_ok names mixed (n := 200) ?_)
  rw [ri_eq_20 d n m a c imm fun o => o = some (resL (chkV 20 d n m a c imm) (inRaw d n m a 20))]
  exact br_two (fun h => res_t h) fun h => laids_ok _ [] (res_f h)
theorem ri_ok_21 : CallOk Try.prog 12 [insV 21 d n m a c imm] [] fun r s => proj r s = some (resL (chkV 21 d n m a c imm) (inRaw d n m a 21)) := by
  refine gcR_ok (callG_ok ERI_ok names mixed (n := 200) ?_)
  rw [ri_eq_21 d n m a c imm fun o => o = some (resL (chkV 21 d n m a c imm) (inRaw d n m a 21))]
  exact br_two (fun h => res_t h) fun h => laids_ok _ [] (res_f h)
theorem ri_ok_22 : CallOk Try.prog 12 [insV 22 d n m a c imm] [] fun r s => proj r s = some (resL (chkV 22 d n m a c imm) (inRaw d n m a 22)) := by
  refine gcR_ok (callG_ok ERI_ok names mixed (n := 200) ?_)
  rw [ri_eq_22 d n m a c imm fun o => o = some (resL (chkV 22 d n m a c imm) (inRaw d n m a 22))]
  exact br_two (fun h => res_t h) fun h => laids_ok _ [] (res_f h)
theorem ri_ok_23 : CallOk Try.prog 12 [insV 23 d n m a c imm] [] fun r s => proj r s = some (resL (chkV 23 d n m a c imm) (inRaw d n m a 23)) := by
  refine gcR_ok (callG_ok ERI_ok names mixed (n := 200) ?_)
  rw [ri_eq_23 d n m a c imm fun o => o = some (resL (chkV 23 d n m a c imm) (inRaw d n m a 23))]
  exact br_two (fun h => res_t h) fun h => laids_ok _ [] (res_f h)
theorem ri_ok_24 : CallOk Try.prog 12 [insV 24 d n m a c imm] [] fun r s => proj r s = some (resL (chkV 24 d n m a c imm) (inRaw d n m a 24)) := by
  refine gcR_ok (callG_ok ERI_ok names mixed (n := 200) ?_)
  rw [ri_eq_24 d n m a c imm fun o => o = some (resL (chkV 24 d n m a c imm) (inRaw d n m a 24))]
  exact br_two (fun h => res_t h) fun h => laids_ok _ [] (res_f h)
theorem ri_ok_25 : CallOk Try.prog 12 [insV 25 d n m a c imm] [] fun r s => proj r s = some (resL (chkV 25 d n m a c imm) (inRaw d n m a 25)) := by
  refine gcR_ok (callG_ok ERI_ok names mixed (n := 200) ?_)
  rw [ri_eq_25 d n m a c imm fun o => o = some (resL (chkV 25 d n m a c imm) (inRaw d n m a 25))]
  exact br_two (fun h => res_t h) fun h => st_same (laids_ok _ [] (res_f h))
theorem ri_ok_26 : CallOk Try.prog 12 [insV 26 d n m a c imm] [] fun r s => proj r s = some (resL (chkV 26 d n m a c imm) (inRaw d n m a 26)) := by
  refine gcR_ok (callG_ok ERI_ok names mixed (n := 200) ?_)
  rw [ri_eq_26 d n m a c imm fun o => o = some (resL (chkV 26 d n m a c imm) (inRaw d n m a 26))]
  exact br_two (fun h => res_t h) fun h => st_same (laids_ok _ [] (res_f h))
theorem ri_ok_27 : CallOk Try.prog 12 [insV 27 d n m a c imm] [] fun r s => proj r s = some (resL (chkV 27 d n m a c imm) (inRaw d n m a 27)) := by
  refine gcR_ok (callG_ok ERI_ok names mixed (n := 200) ?_)
  rw [ri_eq_27 d n m a c imm fun o => o = some (resL (chkV 27 d n m a c imm) (inRaw d n m a 27))]
  exact br_two (fun h => res_t h) fun h => st_same (laids_ok _ [] (res_f h))
theorem ri_ok_28 : CallOk Try.prog 12 [insV 28 d n m a c imm] [] fun r s => proj r s = some (resL (chkV 28 d n m a c imm) (inRaw d n m a 28)) := by
  refine gcR_ok (callG_ok ERI_ok names mixed (n := 200) ?_)
  rw [ri_eq_28 d n m a c imm fun o => o = some (resL (chkV 28 d n m a c imm) (inRaw d n m a 28))]
  exact br_two (fun h => res_t h) fun h => st_stk (laids_ok _ [] (res_f h))
theorem ri_ok_29 : CallOk Try.prog 12 [insV 29 d n m a c imm] [] fun r s => proj r s = some (resL (chkV 29 d n m a c imm) (inRaw d n m a 29)) := by
  refine gcR_ok (callG_ok ERI_ok names mixed (n := 200) ?_)
  rw [ri_eq_29 d n m a c imm fun o => o = some (resL (chkV 29 d n m a c imm) (inRaw d n m a 29))]
  exact br_two (fun h => res_t h) fun h => st_stk (laids_ok _ [] (res_f h))
theorem ri_ok_30 : CallOk Try.prog 12 [insV 30 d n m a c imm] [] fun r s => proj r s = some (resL (chkV 30 d n m a c imm) (inRaw d n m a 30)) := by
  refine gcR_ok (callG_ok ERI_ok names mixed (n := 200) ?_)
  rw [ri_eq_30 d n m a c imm fun o => o = some (resL (chkV 30 d n m a c imm) (inRaw d n m a 30))]
  exact br_two (fun h => res_t h) fun h => st_stk (laids_ok _ [] (res_f h))
theorem ri_ok_31 : CallOk Try.prog 12 [insV 31 d n m a c imm] [] fun r s => proj r s = some (resL (chkV 31 d n m a c imm) (inRaw d n m a 31)) := by
  refine gcR_ok (callG_ok ERI_ok names mixed (n := 200) ?_)
  rw [ri_eq_31 d n m a c imm fun o => o = some (resL (chkV 31 d n m a c imm) (inRaw d n m a 31))]
  exact br_two (fun h => res_t h) fun h => st_stk (laids_ok _ [] (res_f h))
theorem ri_ok_32 : CallOk Try.prog 12 [insV 32 d n m a c imm] [] fun r s => proj r s = some (resL (chkV 32 d n m a c imm) (inRaw d n m a 32)) := by
  refine gcR_ok (callG_ok ERI_ok names mixed (n := 200) ?_)
  rw [ri_eq_32 d n m a c imm fun o => o = some (resL (chkV 32 d n m a c imm) (inRaw d n m a 32))]
  exact br_two (fun h => res_t h) fun h => st_stk (laids_ok _ [] (res_f h))
theorem ri_ok_33 : CallOk Try.prog 12 [insV 33 d n m a c imm] [] fun r s => proj r s = some (resL (chkV 33 d n m a c imm) (inRaw d n m a 33)) := by
  refine gcR_ok (callG_ok ERI_ok names mixed (n := 200) ?_)
  rw [ri_eq_33 d n m a c imm fun o => o = some (resL (chkV 33 d n m a c imm) (inRaw d n m a 33))]
  exact br_two (fun h => res_t h) fun h => st_stk (laids_ok _ [] (res_f h))
theorem ri_ok_34 : CallOk Try.prog 12 [insV 34 d n m a c imm] [] fun r s => proj r s = some (resL (chkV 34 d n m a c imm) (inRaw d n m a 34)) := by
  refine gcR_ok (callG_ok ERI_ok names mixed (n := 200) ?_)
  rw [ri_eq_34 d n m a c imm fun o => o = some (resL (chkV 34 d n m a c imm) (inRaw d n m a 34))]
  exact br_two (fun h => res_t h) fun h => st_stk (laids_ok _ [] (res_f h))
theorem ri_ok_35 : CallOk Try.prog 12 [insV 35 d n m a c imm] [] fun r s => proj r s = some (resL (chkV 35 d n m a c imm) (inRaw d n m a 35)) := by
  refine gcR_ok (callG_ok ERI_ok names mixed (n := 200) ?_)
  rw [ri_eq_35 d n m a c imm fun o => o = some (resL (chkV 35 d n m a c imm) (inRaw d n m a 35))]
  exact br_two (fun h => res_t h) fun h => st_stk (laids_ok _ [] (res_f h))
theorem ri_ok_36 : CallOk Try.prog 12 [insV 36 d n m a c imm] [] fun r s => proj r s = some (resL (chkV 36 d n m a c imm) (inRaw d n m a 36)) := by
  refine gcR_ok (callG_ok ERI_ok names mixed (n := 200) ?_)
  rw [ri_eq_36 d n m a c imm fun o => o = some (resL (chkV 36 d n m a c imm) (inRaw d n m a 36))]
  exact br_two (fun h => res_t h) fun h => st_stk (laids_ok _ [] (res_f h))
theorem ri_ok_37 : CallOk Try.prog 12 [insV 37 d n m a c imm] [] fun r s => proj r s = some (resL (chkV 37 d n m a c imm) (inRaw d n m a 37)) := by
  refine gcR_ok (callG_ok ERI_ok names mixed (n := 200) ?_)
  rw [ri_eq_37 d n m a c imm fun o => o = some (resL (chkV 37 d n m a c imm) (inRaw d n m a 37))]
  exact br_two (fun h => res_t h) fun h => laids_ok _ [] (res_f h)
theorem ri_ok_38 : CallOk Try.prog 12 [insV 38 d n m a c imm] [] fun r s => proj r s = some (resL (chkV 38 d n m a c imm) (inRaw d n m a 38)) := by
  refine gcR_ok (callG_ok ERI_ok names mixed (n := 200) ?_)
  rw [ri_eq_38 d n m a c imm fun o => o = some (resL (chkV 38 d n m a c imm) (inRaw d n m a 38))]
  exact br_two (fun h => res_t h) fun h => laids_ok _ [] (res_f h)
theorem ri_ok_39 : CallOk Try.prog 12 [insV 39 d n m a c imm] [] fun r s => proj r s = some (resL (chkV 39 d n m a c imm) (inRaw d n m a 39)) := by
  refine gcR_ok (callG_ok ERI_ok names mixed (n := 200) ?_)
  rw [ri_eq_39 d n m a c imm fun o => o = some (resL (chkV 39 d n m a c imm) (inRaw d n m a 39))]
  exact br_two (fun h => res_t h) fun h => laids_ok _ [] (res_f h)
theorem ri_ok_40 : CallOk Try.prog 12 [insV 40 d n m a c imm] [] fun r s => proj r s = some (resL (chkV 40 d n m a c imm) (inRaw d n m a 40)) := by
  refine gcR_ok (callG_ok ERI_ok names mixed (n := 200) ?_)
  rw [ri_eq_40 d n m a c imm fun o => o = some (resL (chkV 40 d n m a c imm) (inRaw d n m a 40))]
  exact br_two (fun h => res_t h) fun h => st_same (laids_ok _ [] (res_f h))
theorem ri_ok_41 : CallOk Try.prog 12 [insV 41 d n m a c imm] [] fun r s => proj r s = some (resL (chkV 41 d n m a c imm) (inRaw d n m a 41)) := by
  refine gcR_ok (callG_ok ERI_ok names mixed (n := 200) ?_)
  rw [ri_eq_41 d n m a c imm fun o => o = some (resL (chkV 41 d n m a c imm) (inRaw d n m a 41))]
  exact br_two (fun h => res_t h) fun h => st_same (laids_ok _ [] (res_f h))
theorem ri_ok_42 : CallOk Try.prog 12 [insV 42 d n m a c imm] [] fun r s => proj r s = some (resL (chkV 42 d n m a c imm) (inRaw d n m a 42)) := by
  refine gcR_ok (callG_ok ERI_ok names mixed (n := 200) ?_)
  rw [ri_eq_42 d n m a c imm fun o => o = some (resL (chkV 42 d n m a c imm) (inRaw d n m a 42))]
  exact br_two (fun h => res_t h) fun h => laids_ok _ [] (res_f h)
theorem ri_lit : ∀ k : Nat, k < 43 → CallOk Try.prog 12 [insV (k : Nat) d n m a c imm] [] fun r s => proj r s = some (resL (chkV (k : Nat) d n m a c imm) (inRaw d n m a k))
  | 0, _ => ri_ok_0 d n m a c imm
  | 1, _ => ri_ok_1 d n m a c imm
  | 2, _ => ri_ok_2 d n m a c imm
  | 3, _ => ri_ok_3 d n m a c imm
  | 4, _ => ri_ok_4 d n m a c imm
  | 5, _ => ri_ok_5 d n m a c imm
  | 6, _ => ri_ok_6 d n m a c imm
  | 7, _ => ri_ok_7 d n m a c imm
  | 8, _ => ri_ok_8 d n m a c imm
  | 9, _ => ri_ok_9 d n m a c imm
  | 10, _ => ri_ok_10 d n m a c imm
  | 11, _ => ri_ok_11 d n m a c imm
  | 12, _ => ri_ok_12 d n m a c imm
  | 13, _ => ri_ok_13 d n m a c imm
  | 14, _ => ri_ok_14 d n m a c imm
  | 15, _ => ri_ok_15 d n m a c imm
  | 16, _ => ri_ok_16 d n m a c imm
  | 17, _ => ri_ok_17 d n m a c imm
  | 18, _ => ri_ok_18 d n m a c imm
  | 19, _ => ri_ok_19 d n m a c imm
  | 20, _ => ri_ok_20 d n m a c imm
  | 21, _ => ri_ok_21 d n m a c imm
  | 22, _ => ri_ok_22 d n m a c imm
  | 23, _ => ri_ok_23 d n m a c imm
  | 24, _ => ri_ok_24 d n m a c imm
  | 25, _ => ri_ok_25 d n m a c imm
  | 26, _ => ri_ok_26 d n m a c imm
  | 27, _ => ri_ok_27 d n m a c imm
  | 28, _ => ri_ok_28 d n m a c imm
  | 29, _ => ri_ok_29 d n m a c imm
  | 30, _ => ri_ok_30 d n m a c imm
  | 31, _ => ri_ok_31 d n m a c imm
  | 32, _ => ri_ok_32 d n m a c imm
  | 33, _ => ri_ok_33 d n m a c imm
  | 34, _ => ri_ok_34 d n m a c imm
  | 35, _ => ri_ok_35 d n m a c imm
  | 36, _ => ri_ok_36 d n m a c imm
  | 37, _ => ri_ok_37 d n m a c imm
  | 38, _ => ri_ok_38 d n m a c imm
  | 39, _ => ri_ok_39 d n m a c imm
  | 40, _ => ri_ok_40 d n m a c imm
  | 41, _ => ri_ok_41 d n m a c imm
  | 42, _ => ri_ok_42 d n m a c imm
  | k + 43, h => absurd h (by omega)
theorem ri_out (op : Int) (Z : Option (List Int) → Prop) : evTo Try.prog ERI 40 0 (fun _ => False) [0, 0] (codeOf Try.prog 12) ⟨(funcOf Try.prog 12).ntmps, zipArgs 0 [insV op d n m a c imm], []⟩ (bodyK False Try.prog (funcOf Try.prog 12) (gcR fun r s => Z (proj r s))) = Br (chkV op d n m a c imm != 0) (Z (some [])) False := by kernel_rfl
theorem ri_ok (op : Int) : CallOk Try.prog 12 [insV op d n m a c imm] [] fun r s => proj r s = some (resL (chkV op d n m a c imm) (inRaw d n m a op.toNat)) := by
  by_cases h0 : 0 ≤ op ∧ op ≤ 42
  · obtain ⟨k, rfl⟩ := Int.eq_ofNat_of_zero_le h0.1
    exact ri_lit d n m a c imm k (by omega)
  · have h1 : (chkV op d n m a c imm != 0) = true := by
      rw [show chkV op d n m a c imm = 1 from if_neg fun hh => h0 hh.1]; rfl
    refine gcR_ok (CallOk.fnB names (by kernel_rfl) ?_)
    refine CodeB.mono (K := bodyK False Try.prog (funcOf Try.prog 12) (gcR fun r s => proj r s = some (resL (chkV op d n m a c imm) (inRaw d n m a op.toNat)))) ?_ fun _ _ h => h
    refine evTo_ok ERI_ok names mixed (n := 40) (b := 0) (Z := fun _ => False) [0, 0] _ _ _ (fun st hz => hz.elim) ?_
    rw [ri_out d n m a c imm op fun o => o = some (resL (chkV op d n m a c imm) (inRaw d n m a op.toNat)), h1]
    exact res_t h1
theorem ro_ok_0 : CallOk Try.prog 14 [insV 0 d n m a c imm] [] fun r s => proj r s = some (resL (chkV 0 d n m a c imm) (outRaw d 0)) := by
  refine gcR_ok (callG_ok ERI_ok names mixed (n := 200) ?_)
  rw [ro_eq_0 d n m a c imm fun o => o = some (resL (chkV 0 d n m a c imm) (outRaw d 0))]
  exact br_two (fun h => res_t h) fun h => laids_ok _ [] (res_f h)
theorem ro_ok_1 : CallOk Try.prog 14 [insV 1 d n m a c imm] [] fun r s => proj r s = some (resL (chkV 1 d n m a c imm) (outRaw d 1)) := by
  refine gcR_ok (callG_ok ERI_ok names mixed (n := 200) ?_)
  rw [ro_eq_1 d n m a c imm fun o => o = some (resL (chkV 1 d n m a c imm) (outRaw d 1))]
  exact br_two (fun h => res_t h) fun h => laids_ok _ [] (res_f h)
theorem ro_ok_2 : CallOk Try.prog 14 [insV 2 d n m a c imm] [] fun r s => proj r s = some (resL (chkV 2 d n m a c imm) (outRaw d 2)) := by
  refine gcR_ok (callG_ok ERI_ok names mixed (n := 200) ?_)
  rw [ro_eq_2 d n m a c imm fun o => o = some (resL (chkV 2 d n m a c imm) (outRaw d 2))]
  exact br_two (fun h => res_t h) fun h => st_same (laids_ok _ [] (res_f h))
theorem ro_ok_3 : CallOk Try.prog 14 [insV 3 d n m a c imm] [] fun r s => proj r s = some (resL (chkV 3 d n m a c imm) (outRaw d 3)) := by
  refine gcR_ok (callG_ok ERI_ok names mixed (n := 200) ?_)
  rw [ro_eq_3 d n m a c imm fun o => o = some (resL (chkV 3 d n m a c imm) (outRaw d 3))]
  exact br_two (fun h => res_t h) fun h => st_same (laids_ok _ [] (res_f h))
theorem ro_ok_4 : CallOk Try.prog 14 [insV 4 d n m a c imm] [] fun r s => proj r s = some (resL (chkV 4 d n m a c imm) (outRaw d 4)) := by
  refine gcR_ok (callG_ok ERI_ok names mixed (n := 200) ?_)
  rw [ro_eq_4 d n m a c imm fun o => o = some (resL (chkV 4 d n m a c imm) (outRaw d 4))]
  exact br_two (fun h => res_t h) fun h => st_stk (laids_ok _ [] (res_f h))
theorem ro_ok_5 : CallOk Try.prog 14 [insV 5 d n m a c imm] [] fun r s => proj r s = some (resL (chkV 5 d n m a c imm) (outRaw d 5)) := by
  refine gcR_ok (callG_ok ERI_ok names mixed (n := 200) ?_)
  rw [ro_eq_5 d n m a c imm fun o => o = some (resL (chkV 5 d n m a c imm) (outRaw d 5))]
  exact br_two (fun h => res_t h) fun h => st_stk (laids_ok _ [] (res_f h))
theorem ro_ok_6 : CallOk Try.prog 14 [insV 6 d n m a c imm] [] fun r s => proj r s = some (resL (chkV 6 d n m a c imm) (outRaw d 6)) := by
  refine gcR_ok (callG_ok ERI_ok names mixed (n := 200) ?_)
  rw [ro_eq_6 d n m a c imm fun o => o = some (resL (chkV 6 d n m a c imm) (outRaw d 6))]
  exact br_two (fun h => res_t h) fun h => st_same (laids_ok _ [] (res_f h))
theorem ro_ok_7 : CallOk Try.prog 14 [insV 7 d n m a c imm] [] fun r s => proj r s = some (resL (chkV 7 d n m a c imm) (outRaw d 7)) := by
  refine gcR_ok (callG_ok ERI_ok names mixed (n := 200) ?_)
  rw [ro_eq_7 d n m a c imm fun o => o = some (resL (chkV 7 d n m a c imm) (outRaw d 7))]
  exact br_two (fun h => res_t h) fun h => st_same (laids_ok _ [] (res_f h))
theorem ro_ok_8 : CallOk Try.prog 14 [insV 8 d n m a c imm] [] fun r s => proj r s = some (resL (chkV 8 d n m a c imm) (outRaw d 8)) := by
  refine gcR_ok (callG_ok ERI_ok names mixed (n := 200) ?_)
  rw [ro_eq_8 d n m a c imm fun o => o = some (resL (chkV 8 d n m a c imm) (outRaw d 8))]
  exact br_two (fun h => res_t h) fun h => st_same (laids_ok _ [] (res_f h))
theorem ro_ok_9 : CallOk Try.prog 14 [insV 9 d n m a c imm] [] fun r s => proj r s = some (resL (chkV 9 d n m a c imm) (outRaw d 9)) := by
  refine gcR_ok (callG_ok ERI_ok names mixed (n := 200) ?_)
  rw [ro_eq_9 d n m a c imm fun o => o = some (resL (chkV 9 d n m a c imm) (outRaw d 9))]
  exact br_two (fun h => res_t h) fun h => st_same (laids_ok _ [] (res_f h))
theorem ro_ok_10 : CallOk Try.prog 14 [insV 10 d n m a c imm] [] fun r s => proj r s = some (resL (chkV 10 d n m a c imm) (outRaw d 10)) := by
  refine gcR_ok (callG_ok ERI_ok names mixed (n := 200) ?_)
  rw [ro_eq_10 d n m a c imm fun o => o = some (resL (chkV 10 d n m a c imm) (outRaw d 10))]
  exact br_two (fun h => res_t h) fun h => st_same (laids_ok _ [] (res_f h))
theorem ro_ok_11 : CallOk Try.prog 14 [insV 11 d n m a c imm] [] fun r s => proj r s = some (resL (chkV 11 d n m a c imm) (outRaw d 11)) := by
  refine gcR_ok (callG_ok ERI_ok names mixed (n := 200) ?_)
  rw [ro_eq_11 d n m a c imm fun o => o = some (resL (chkV 11 d n m a c imm) (outRaw d 11))]
  exact br_two (fun h => res_t h) fun h => st_same (laids_ok _ [] (res_f h))
theorem ro_ok_12 : CallOk Try.prog 14 [insV 12 d n m a c imm] [] fun r s => proj r s = some (resL (chkV 12 d n m a c imm) (outRaw d 12)) := by
  refine gcR_ok (callG_ok ERI_ok names mixed (n := 200) ?_)
  rw [ro_eq_12 d n m a c imm fun o => o = some (resL (chkV 12 d n m a c imm) (outRaw d 12))]
  exact br_two (fun h => res_t h) fun h => st_same (laids_ok _ [] (res_f h))
theorem ro_ok_13 : CallOk Try.prog 14 [insV 13 d n m a c imm] [] fun r s => proj r s = some (resL (chkV 13 d n m a c imm) (outRaw d 13)) := by
  refine gcR_ok (callG_ok ERI_ok names mixed (n := 200) ?_)
  rw [ro_eq_13 d n m a c imm fun o => o = some (resL (chkV 13 d n m a c imm) (outRaw d 13))]
  exact br_two (fun h => res_t h) fun h => st_same (laids_ok _ [] (res_f h))
theorem ro_ok_14 : CallOk Try.prog 14 [insV 14 d n m a c imm] [] fun r s => proj r s = some (resL (chkV 14 d n m a c imm) (outRaw d 14)) := by
  refine gcR_ok (callG_ok ERI_ok names mixed (n := 200) ?_)
  rw [ro_eq_14 d n m a c imm fun o => o = some (resL (chkV 14 d n m a c imm) (outRaw d 14))]
  exact br_two (fun h => res_t h) fun h => st_same (laids_ok _ [] (res_f h))
theorem ro_ok_15 : CallOk Try.prog 14 [insV 15 d n m a c imm] [] fun r s => proj r s = some (resL (chkV 15 d n m a c imm) (outRaw d 15)) := by
  refine gcR_ok (callG_ok ERI_ok names mixed (n := 200) ?_)
  rw [ro_eq_15 d n m a c imm fun o => o = some (resL (chkV 15 d n m a c imm) (outRaw d 15))]
  exact br_two (fun h => res_t h) fun h => st_same (laids_ok _ [] (res_f h))
theorem ro_ok_16 : CallOk Try.prog 14 [insV 16 d n m a c imm] [] fun r s => proj r s = some (resL (chkV 16 d n m a c imm) (outRaw d 16)) := by
  refine gcR_ok (callG_ok ERI_ok names mixed (n := 200) ?_)
  rw [ro_eq_16 d n m a c imm fun o => o = some (resL (chkV 16 d n m a c imm) (outRaw d 16))]
  exact br_two (fun h => res_t h) fun h => st_same (laids_ok _ [] (res_f h))
theorem ro_ok_17 : CallOk Try.prog 14 [insV 17 d n m a c imm] [] fun r s => proj r s = some (resL (chkV 17 d n m a c imm) (outRaw d 17)) := by
  refine gcR_ok (callG_ok ERI_ok names mixed (n := 200) ?_)
  rw [ro_eq_17 d n m a c imm fun o => o = some (resL (chkV 17 d n m a c imm) (outRaw d 17))]
  exact br_two (fun h => res_t h) fun h => st_same (laids_ok _ [] (res_f h))
theorem ro_ok_18 : CallOk Try.prog 14 [insV 18 d n m a c imm] [] fun r s => proj r s = some (resL (chkV 18 d n m a c imm) (outRaw d 18)) := by
  refine gcR_ok (callG_ok ERI_ok names mixed (n := 200) ?_)
  rw [ro_eq_18 d n m a c imm fun o => o = some (resL (chkV 18 d n m a c imm) (outRaw d 18))]
  exact br_two (fun h => res_t h) fun h => st_same (laids_ok _ [] (res_f h))
theorem ro_ok_19 : CallOk Try.prog 14 [insV 19 d n m a c imm] [] fun r s => proj r s = some (resL (chkV 19 d n m a c imm) (outRaw d 19)) := by
  refine gcR_ok (callG_ok ERI_ok names mixed (n := 200) ?_)
  rw [ro_eq_19 d n m a c imm fun o => o = some (resL (chkV 19 d n m a c imm) (outRaw d 19))]
  exact br_two (fun h => res_t h) fun h => st_same (laids_ok _ [] (res_f h))
theorem ro_ok_20 : CallOk Try.prog 14 [insV 20 d n m a c imm] [] fun r s => proj r s = some (resL (chkV 20 d n m a c imm) (outRaw d 20)) := by
  refine gcR_ok (callG_ok ERI_ok names mixed (n := 200) ?_)
  rw [ro_eq_20 d n m a c imm fun o => o = some (resL (chkV 20 d n m a c imm) (outRaw d 20))]
  exact br_two (fun h => res_t h) fun h => laids_ok _ [] (res_f h)
theorem ro_ok_21 : CallOk Try.prog 14 [insV 21 d n m a c imm] [] fun r s => proj r s = some (resL (chkV 21 d n m a c imm) (outRaw d 21)) := by
  refine gcR_ok (callG_ok ERI_ok names mixed (n := 200) ?_)
  rw [ro_eq_21 d n m a c imm fun o => o = some (resL (chkV 21 d n m a c imm) (outRaw d 21))]
  exact br_two (fun h => res_t h) fun h => laids_ok _ [] (res_f h)
theorem ro_ok_22 : CallOk Try.prog 14 [insV 22 d n m a c imm] [] fun r s => proj r s = some (resL (chkV 22 d n m a c imm) (outRaw d 22)) := by
  refine gcR_ok (callG_ok ERI_ok names mixed (n := 200) ?_)
  rw [ro_eq_22 d n m a c imm fun o => o = some (resL (chkV 22 d n m a c imm) (outRaw d 22))]
  exact br_two (fun h => res_t h) fun h => laids_ok _ [] (res_f h)
theorem ro_ok_23 : CallOk Try.prog 14 [insV 23 d n m a c imm] [] fun r s => proj r s = some (resL (chkV 23 d n m a c imm) (outRaw d 23)) := by
  refine gcR_ok (callG_ok ERI_ok names mixed (n := 200) ?_)
  rw [ro_eq_23 d n m a c imm fun o => o = some (resL (chkV 23 d n m a c imm) (outRaw d 23))]
  exact br_two (fun h => res_t h) fun h => laids_ok _ [] (res_f h)
theorem ro_ok_24 : CallOk Try.prog 14 [insV 24 d n m a c imm] [] fun r s => proj r s = some (resL (chkV 24 d n m a c imm) (outRaw d 24)) := by
  refine gcR_ok (callG_ok ERI_ok names mixed (n := 200) ?_)
  rw [ro_eq_24 d n m a c imm fun o => o = some (resL (chkV 24 d n m a c imm) (outRaw d 24))]
  exact br_two (fun h => res_t h) fun h => laids_ok _ [] (res_f h)
theorem ro_ok_25 : CallOk Try.prog 14 [insV 25 d n m a c imm] [] fun r s => proj r s = some (resL (chkV 25 d n m a c imm) (outRaw d 25)) := by
  refine gcR_ok (callG_ok ERI_ok names mixed (n := 200) ?_)
  rw [ro_eq_25 d n m a c imm fun o => o = some (resL (chkV 25 d n m a c imm) (outRaw d 25))]
  exact br_two (fun h => res_t h) fun h => laids_ok _ [] (res_f h)
theorem ro_ok_26 : CallOk Try.prog 14 [insV 26 d n m a c imm] [] fun r s => proj r s = some (resL (chkV 26 d n m a c imm) (outRaw d 26)) := by
  refine gcR_ok (callG_ok ERI_ok names mixed (n := 200) ?_)
  rw [ro_eq_26 d n m a c imm fun o => o = some (resL (chkV 26 d n m a c imm) (outRaw d 26))]
  exact br_two (fun h => res_t h) fun h => laids_ok _ [] (res_f h)
theorem ro_ok_27 : CallOk Try.prog 14 [insV 27 d n m a c imm] [] fun r s => proj r s = some (resL (chkV 27 d n m a c imm) (outRaw d 27)) := by
  refine gcR_ok (callG_ok ERI_ok names mixed (n := 200) ?_)
  rw [ro_eq_27 d n m a c imm fun o => o = some (resL (chkV 27 d n m a c imm) (outRaw d 27))]
  exact br_two (fun h => res_t h) fun h => laids_ok _ [] (res_f h)
theorem ro_ok_28 : CallOk Try.prog 14 [insV 28 d n m a c imm] [] fun r s => proj r s = some (resL (chkV 28 d n m a c imm) (outRaw d 28)) := by
  refine gcR_ok (callG_ok ERI_ok names mixed (n := 200) ?_)
  rw [ro_eq_28 d n m a c imm fun o => o = some (resL (chkV 28 d n m a c imm) (outRaw d 28))]
  exact br_two (fun h => res_t h) fun h => st_same (laids_ok _ [] (res_f h))
theorem ro_ok_29 : CallOk Try.prog 14 [insV 29 d n m a c imm] [] fun r s => proj r s = some (resL (chkV 29 d n m a c imm) (outRaw d 29)) := by
  refine gcR_ok (callG_ok ERI_ok names mixed (n := 200) ?_)
  rw [ro_eq_29 d n m a c imm fun o => o = some (resL (chkV 29 d n m a c imm) (outRaw d 29))]
  exact br_two (fun h => res_t h) fun h => laids_ok _ [] (res_f h)
theorem ro_ok_30 : CallOk Try.prog 14 [insV 30 d n m a c imm] [] fun r s => proj r s = some (resL (chkV 30 d n m a c imm) (outRaw d 30)) := by
  refine gcR_ok (callG_ok ERI_ok names mixed (n := 200) ?_)
  rw [ro_eq_30 d n m a c imm fun o => o = some (resL (chkV 30 d n m a c imm) (outRaw d 30))]
  exact br_two (fun h => res_t h) fun h => st_same (laids_ok _ [] (res_f h))
theorem ro_ok_31 : CallOk Try.prog 14 [insV 31 d n m a c imm] [] fun r s => proj r s = some (resL (chkV 31 d n m a c imm) (outRaw d 31)) := by
  refine gcR_ok (callG_ok ERI_ok names mixed (n := 200) ?_)
  rw [ro_eq_31 d n m a c imm fun o => o = some (resL (chkV 31 d n m a c imm) (outRaw d 31))]
  exact br_two (fun h => res_t h) fun h => st_same (laids_ok _ [] (res_f h))
theorem ro_ok_32 : CallOk Try.prog 14 [insV 32 d n m a c imm] [] fun r s => proj r s = some (resL (chkV 32 d n m a c imm) (outRaw d 32)) := by
  refine gcR_ok (callG_ok ERI_ok names mixed (n := 200) ?_)
  rw [ro_eq_32 d n m a c imm fun o => o = some (resL (chkV 32 d n m a c imm) (outRaw d 32))]
  exact br_two (fun h => res_t h) fun h => laids_ok _ [] (res_f h)
theorem ro_ok_33 : CallOk Try.prog 14 [insV 33 d n m a c imm] [] fun r s => proj r s = some (resL (chkV 33 d n m a c imm) (outRaw d 33)) := by
  refine gcR_ok (callG_ok ERI_ok names mixed (n := 200) ?_)
  rw [ro_eq_33 d n m a c imm fun o => o = some (resL (chkV 33 d n m a c imm) (outRaw d 33))]
  exact br_two (fun h => res_t h) fun h => st_same (laids_ok _ [] (res_f h))
theorem ro_ok_34 : CallOk Try.prog 14 [insV 34 d n m a c imm] [] fun r s => proj r s = some (resL (chkV 34 d n m a c imm) (outRaw d 34)) := by
  refine gcR_ok (callG_ok ERI_ok names mixed (n := 200) ?_)
  rw [ro_eq_34 d n m a c imm fun o => o = some (resL (chkV 34 d n m a c imm) (outRaw d 34))]
  exact br_two (fun h => res_t h) fun h => laids_ok _ [] (res_f h)
theorem ro_ok_35 : CallOk Try.prog 14 [insV 35 d n m a c imm] [] fun r s => proj r s = some (resL (chkV 35 d n m a c imm) (outRaw d 35)) := by
  refine gcR_ok (callG_ok ERI_ok names mixed (n := 200) ?_)
  rw [ro_eq_35 d n m a c imm fun o => o = some (resL (chkV 35 d n m a c imm) (outRaw d 35))]
  exact br_two (fun h => res_t h) fun h => st_same (laids_ok _ [] (res_f h))
theorem ro_ok_36 : CallOk Try.prog 14 [insV 36 d n m a c imm] [] fun r s => proj r s = some (resL (chkV 36 d n m a c imm) (outRaw d 36)) := by
  refine gcR_ok (callG_ok ERI_ok names mixed (n := 200) ?_)
  rw [ro_eq_36 d n m a c imm fun o => o = some (resL (chkV 36 d n m a c imm) (outRaw d 36))]
  exact br_two (fun h => res_t h) fun h => st_same (laids_ok _ [] (res_f h))
theorem ro_ok_37 : CallOk Try.prog 14 [insV 37 d n m a c imm] [] fun r s => proj r s = some (resL (chkV 37 d n m a c imm) (outRaw d 37)) := by
  refine gcR_ok (callG_ok ERI_ok names mixed (n := 200) ?_)
  rw [ro_eq_37 d n m a c imm fun o => o = some (resL (chkV 37 d n m a c imm) (outRaw d 37))]
  exact br_two (fun h => res_t h) fun h => laids_ok _ [] (res_f h)
theorem ro_ok_38 : CallOk Try.prog 14 [insV 38 d n m a c imm] [] fun r s => proj r s = some (resL (chkV 38 d n m a c imm) (outRaw d 38)) := by
  refine gcR_ok (callG_ok ERI_ok names mixed (n := 200) ?_)
  rw [ro_eq_38 d n m a c imm fun o => o = some (resL (chkV 38 d n m a c imm) (outRaw d 38))]
  exact br_two (fun h => res_t h) fun h => laids_ok _ [] (res_f h)
theorem ro_ok_39 : CallOk Try.prog 14 [insV 39 d n m a c imm] [] fun r s => proj r s = some (resL (chkV 39 d n m a c imm) (outRaw d 39)) := by
  refine gcR_ok (callG_ok ERI_ok names mixed (n := 200) ?_)
  rw [ro_eq_39 d n m a c imm fun o => o = some (resL (chkV 39 d n m a c imm) (outRaw d 39))]
  exact br_two (fun h => res_t h) fun h => laids_ok _ [] (res_f h)
theorem ro_ok_40 : CallOk Try.prog 14 [insV 40 d n m a c imm] [] fun r s => proj r s = some (resL (chkV 40 d n m a c imm) (outRaw d 40)) := by
  refine gcR_ok (callG_ok ERI_ok names mixed (n := 200) ?_)
  rw [ro_eq_40 d n m a c imm fun o => o = some (resL (chkV 40 d n m a c imm) (outRaw d 40))]
  exact br_two (fun h => res_t h) fun h => laids_ok _ [] (res_f h)
theorem ro_ok_41 : CallOk Try.prog 14 [insV 41 d n m a c imm] [] fun r s => proj r s = some (resL (chkV 41 d n m a c imm) (outRaw d 41)) := by
  refine gcR_ok (callG_ok ERI_ok names mixed (n := 200) ?_)
  rw [ro_eq_41 d n m a c imm fun o => o = some (resL (chkV 41 d n m a c imm) (outRaw d 41))]
  exact br_two (fun h => res_t h) fun h => laids_ok _ [] (res_f h)
theorem ro_ok_42 : CallOk Try.prog 14 [insV 42 d n m a c imm] [] fun r s => proj r s = some (resL (chkV 42 d n m a c imm) (outRaw d 42)) := by
  refine gcR_ok (callG_ok ERI_ok names mixed (n := 200) ?_)
  rw [ro_eq_42 d n m a c imm fun o => o = some (resL (chkV 42 d n m a c imm) (outRaw d 42))]
  exact br_two (fun h => res_t h) fun h => laids_ok _ [] (res_f h)
theorem ro_lit : ∀ k : Nat, k < 43 → CallOk Try.prog 14 [insV (k : Nat) d n m a c imm] [] fun r s => proj r s = some (resL (chkV (k : Nat) d n m a c imm) (outRaw d k))
  | 0, _ => ro_ok_0 d n m a c imm
  | 1, _ => ro_ok_1 d n m a c imm
  | 2, _ => ro_ok_2 d n m a c imm
  | 3, _ => ro_ok_3 d n m a c imm
  | 4, _ => ro_ok_4 d n m a c imm
  | 5, _ => ro_ok_5 d n m a c imm
  | 6, _ => ro_ok_6 d n m a c imm
  | 7, _ => ro_ok_7 d n m a c imm
  | 8, _ => ro_ok_8 d n m a c imm
  | 9, _ => ro_ok_9 d n m a c imm
  | 10, _ => ro_ok_10 d n m a c imm
  | 11, _ => ro_ok_11 d n m a c imm
  | 12, _ => ro_ok_12 d n m a c imm
  | 13, _ => ro_ok_13 d n m a c imm
  | 14, _ => ro_ok_14 d n m a c imm
  | 15, _ => ro_ok_15 d n m a c imm
  | 16, _ => ro_ok_16 d n m a c imm
  | 17, _ => ro_ok_17 d n m a c imm
  | 18, _ => ro_ok_18 d n m a c imm
  | 19, _ => ro_ok_19 d n m a c imm
  | 20, _ => ro_ok_20 d n m a c imm
  | 21, _ => ro_ok_21 d n m a c imm
  | 22, _ => ro_ok_22 d n m a c imm
  | 23, _ => ro_ok_23 d n m a c imm
  | 24, _ => ro_ok_24 d n m a c imm
  | 25, _ => ro_ok_25 d n m a c imm
  | 26, _ => ro_ok_26 d n m a c imm
  | 27, _ => ro_ok_27 d n m a c imm
  | 28, _ => ro_ok_28 d n m a c imm
  | 29, _ => ro_ok_29 d n m a c imm
  | 30, _ => ro_ok_30 d n m a c imm
  | 31, _ => ro_ok_31 d n m a c imm
  | 32, _ => ro_ok_32 d n m a c imm
  | 33, _ => ro_ok_33 d n m a c imm
  | 34, _ => ro_ok_34 d n m a c imm
  | 35, _ => ro_ok_35 d n m a c imm
  | 36, _ => ro_ok_36 d n m a c imm
  | 37, _ => ro_ok_37 d n m a c imm
  | 38, _ => ro_ok_38 d n m a c imm
  | 39, _ => ro_ok_39 d n m a c imm
  | 40, _ => ro_ok_40 d n m a c imm
  | 41, _ => ro_ok_41 d n m a c imm
  | 42, _ => ro_ok_42 d n m a c imm
  | k + 43, h => absurd h (by omega)
theorem ro_out (op : Int) (Z : Option (List Int) → Prop) : evTo Try.prog ERI 40 0 (fun _ => False) [0, 0] (codeOf Try.prog 14) ⟨(funcOf Try.prog 14).ntmps, zipArgs 0 [insV op d n m a c imm], []⟩ (bodyK False Try.prog (funcOf Try.prog 14) (gcR fun r s => Z (proj r s))) = Br (chkV op d n m a c imm != 0) (Z (some [])) False := by kernel_rfl
theorem ro_ok (op : Int) : CallOk Try.prog 14 [insV op d n m a c imm] [] fun r s => proj r s = some (resL (chkV op d n m a c imm) (outRaw d op.toNat)) := by
  by_cases h0 : 0 ≤ op ∧ op ≤ 42
  · obtain ⟨k, rfl⟩ := Int.eq_ofNat_of_zero_le h0.1
    exact ro_lit d n m a c imm k (by omega)
  · have h1 : (chkV op d n m a c imm != 0) = true := by
      rw [show chkV op d n m a c imm = 1 from if_neg fun hh => h0 hh.1]; rfl
    refine gcR_ok (CallOk.fnB names (by kernel_rfl) ?_)
    refine CodeB.mono (K := bodyK False Try.prog (funcOf Try.prog 14) (gcR fun r s => proj r s = some (resL (chkV op d n m a c imm) (outRaw d op.toNat)))) ?_ fun _ _ h => h
    refine evTo_ok ERI_ok names mixed (n := 40) (b := 0) (Z := fun _ => False) [0, 0] _ _ _ (fun st hz => hz.elim) ?_
    rw [ro_out d n m a c imm op fun o => o = some (resL (chkV op d n m a c imm) (outRaw d op.toNat)), h1]
    exact res_t h1
end
/-- The list is what it is. -/
theorem proj_out {r : Res} {s : Sto} {L : List Int} (h : proj r s = some L) : (L = [] ∧ r = .ret (.raw (.slice none 0 0)) ∧ s = []) ∨ (L ≠ [] ∧ r = .ret (.lse 1 0 1 0 L.length) ∧ ∃ g, (∀ j, j < L.length → g j = lc L j) ∧ s = [.no, .arr (.grow 0) [.int .i64 g] L.length 3]) := by
  unfold proj at h
  split at h
  · cases h; exact .inl ⟨rfl, rfl, rfl⟩
  · rename_i n g m
    split at h
    · rename_i hb
      simp only [Bool.and_eq_true, Bool.not_eq_true'] at hb
      obtain rfl := Nat.eq_of_beq_eq_true hb.1
      cases h
      have hl : ((List.range n).map g).length = n := by simp
      refine .inr ⟨fun e => ?_, by rw [hl], g, fun j hj => ?_, by rw [hl]⟩
      · rw [e] at hl
        have : n = 0 := hl.symm
        subst this
        cases hb.2
      · unfold lc
        rw [List.getD_eq_getElem?_getD, List.getElem?_map, List.getElem?_range (by rw [hl] at hj; exact hj)]
        rfl
    · cases h
  · cases h
def rAns (L : List Int) (s : Sto) : Ans := .br L.isEmpty (.one (.ret (.raw (.slice none 0 0))) s) (.one (.ret (.lse (s.length + 1) s.length 1 0 L.length)) (s ++ [.no, .arr (.grow s.length) [.int .i64 (lc L)] L.length 3]))
theorem r_at {f : FuncId} {args : List V} {L : List Int} (ha : bdL 0 args) (hr : ∀ (ρ ρ' : Rho), absL ρ args = absL ρ' args) (h : CallOk Try.prog f args [] fun r s => proj r s = some L) (s : Sto) : CallOk Try.prog f args s fun r s' => (rAns L s).is r s' := by
  refine CallOk.frame (s0 := []) (π := fun i => i) (fun j e he => by cases he) (fun j e he => by cases he) (fun j hj => absurd hj (Nat.not_lt_zero j)) fun ρ => ⟨args, hr _ _, ha, CallOk.eqv (h.mono fun r s' hk => ?_)⟩
  have p0 : piX 0 s.length (fun i => i) 0 = s.length := piX_at (n := 0) (q := 0)
  have p1 : piX 0 s.length (fun i => i) 1 = s.length + 1 := piX_at (n := 0) (q := 1)
  rcases proj_out hk with ⟨rfl, rfl, rfl⟩ | ⟨hn, rfl, g, hg, rfl⟩
  · exact ⟨[], trivial, [], rfl, rfl, .inl ⟨rfl, rfl, List.append_nil _⟩⟩
  · refine ⟨[.no, .arr (.grow 0) [.int .i64 (lc L)] L.length 3], ⟨.inl rfl, .inr ⟨rfl, .inl rfl, rfl, ⟨rfl, hg⟩, trivial⟩, trivial⟩, _, (List.nil_append _).symm, rfl, .inr ⟨?_, ?_, ?_⟩⟩
    · cases L with
      | nil => exact absurd rfl hn
      | cons => rfl
    · show Res.ret (.lse (piX 0 s.length (fun i => i) 1) (piX 0 s.length (fun i => i) 0) 1 0 _) = _
      rw [p0, p1]
    · show s ++ [Ent.no, .arr (.grow (piX 0 s.length (fun i => i) 0)) _ _ _] = _
      rw [p0]
def rG (raw : Int → Int → Int → Int → Int → List Int) : List V → Sto → Option Ans
  | [u], s => match readIns u with
    | some (op, d, n, m, a, c, imm) => some (rAns (resL (chkV op d n m a c imm) (raw op d n m a)) s)
    | none => none
  | _, _ => none
def riA := rG fun op d n m a => inRaw d n m a op.toNat
def roA := rG fun op d n m a => outRaw d op.toNat
theorem ins_flat (op d n m a c imm : Int) (ρ ρ' : Rho) : absL ρ [insV op d n m a c imm] = absL ρ' [insV op d n m a c imm] := rfl
theorem riA_ok {E : Eh} (hE : EOk Try.prog E) : EOk Try.prog (addE 12 riA E) := by
  refine addE_ok hE fun args s a h _ => ?_
  unfold riA rG at h
  split at h
  · split at h
    · rename_i u op d n m a' c imm hr
      cases h
      rw [readIns_eq hr]
      exact r_at (args := [insV op d n m a' c imm]) ⟨insV_bd .., trivial⟩ (ins_flat op d n m a' c imm) (ri_ok d n m a' c imm op) s
    · cases h
  · cases h
theorem roA_ok {E : Eh} (hE : EOk Try.prog E) : EOk Try.prog (addE 14 roA E) := by
  refine addE_ok hE fun args s a h _ => ?_
  unfold roA rG at h
  split at h
  · split at h
    · rename_i u op d n m a' c imm hr
      cases h
      rw [readIns_eq hr]
      exact r_at (args := [insV op d n m a' c imm]) ⟨insV_bd .., trivial⟩ (ins_flat op d n m a' c imm) (ro_ok d n m a' c imm op) s
    · cases h
  · cases h
end Go.Proofs.YtpahclogghdnpaaDoor.a64

end
section
/- brazierlaw2.Same of two rows that are the same, as a table's line. -/
set_option linter.unusedVariables false
set_option linter.unusedSimpArgs false
set_option maxRecDepth 1000000
namespace Go.Proofs.YtpahclogghdnpaaDoor.a64
open Go Go.Proofs Go.Proofs.YtpahclogghdnpaaDoorRL Go.Proofs.YtpahclogghdnpaaDoor.isa
/-- Places of a window and of a row of registers. -/
def at2 (a b : Nat × Nat) : Rho := fun i => match i with
  | 0 => a
  | _ => b
theorem repE_arr_idx {ρ ρ' : Rho} {w : World} {i i' : Nat} {cols : List Col} {N : Nat} {t : TypeId} (h : ρ' i' = ρ i) (hr : RepE ρ w i (.arr .ro cols N t)) : RepE ρ' w i' (.arr .ro cols N t) := by
  simp only [RepE] at hr ⊢
  rw [h]
  exact hr
theorem rep_two {ρ : Rho} {w : World} {e1 e2 : Ent} (h1 : RepE ρ w 0 e1) (h2 : RepE ρ w 1 e2) (o1 : e1.isOwn = false) (o2 : e2.isOwn = false) : Rep ρ [e1, e2] w := by
  refine ⟨fun j e he => ?_, fun a b e f ha _ ho => ?_⟩
  · match j, he with
    | 0, he => simp at he; subst he; exact h1
    | 1, he => simp at he; subst he; exact h2
    | j + 2, he => simp at he
  · match a, ha with
    | 0, ha => simp at ha; subst ha; rw [o1] at ho; cases ho
    | 1, ha => simp at ha; subst ha; rw [o2] at ho; cases ho
    | a + 2, ha => simp at ha
theorem sbd_two {e1 e2 : Ent} (h1 : e1.bd 2) (h2 : e2.bd 2) : sbd [e1, e2] := by
  intro j e he
  match j, he with
  | 0, he => simp at he; subst he; exact h1
  | 1, he => simp at he; subst he; exact h2
  | j + 2, he => simp at he
theorem own_two {e1 e2 : Ent} (o1 : e1.isOwn = false) (o2 : e2.isOwn = false) : ∀ (i : Nat) e, [e1, e2][i]? = some e → e.isOwn = false := by
  intro j e he
  match j, he with
  | 0, he => simp at he; subst he; exact o1
  | 1, he => simp at he; subst he; exact o2
  | j + 2, he => simp at he
theorem arr_ro {ρ : Rho} {s : Sto} {w : World} {i : Nat} {m : AM} {cols : List Col} {N : Nat} {t : TypeId} (hr : Rep ρ s w) (hi : s[i]? = some (.arr m cols N t)) : RepE ρ w i (.arr .ro cols N t) := by
  have := hr.toRo.ent i (.arr .ro cols N t) (by simp only [roS, List.getElem?_map, hi]; rfl)
  exact this
namespace sam
noncomputable abbrev cs : Code := codeOf Try.prog 10
noncomputable def p1 : List Nat := pathTo 4 cs
noncomputable def c1 : Code := subAt (p1.dropLast.dropLast.dropLast ++ [0]) cs
abbrev KB (K : V → Prop) : Ex → St → Prop := bodyK False Try.prog (funcOf Try.prog 10) (rK K)
def live : List Nat := [0,1,4,5]
def s0 (g h : Nat → Int) (N M : Nat) (t u : TypeId) : Sto := [.arr .ro [.int .i64 g] N t, .arr .ro [.int .i64 h] M u]
def S (g h : Nat → Int) (n N M ca cb : Nat) (t u : TypeId) (i : Int) : St := ⟨26, [(0, .sle 0 1 0 n ca), (1, .sle 1 1 0 n cb), (4, bV false), (5, .raw (.int .i64 i))], s0 g h N M t u⟩
def IX (k : Int) (n N : Nat) (P : Prop) : Prop := Br (decide (0 ≤ k)) (Br (decide (k < n)) (Br (Nat.blt (k.toNat + 0) N) P False) False) False
section
variable (g h : Nat → Int) (n N M ca cb : Nat) (t u : TypeId)
theorem pre_eq (K : V → Prop) (Z : St → Prop) : evTo Try.prog noE 100 2 (fun st => Z (gcSt 2 live st)) p1 cs ⟨(funcOf Try.prog 10).ntmps, zipArgs 0 [.sle 0 1 0 n ca, .sle 1 1 0 n cb], s0 g h N M t u⟩ (KB K) = Br ((n : Int) != (n : Int)) (K (bV false)) (Z (S g h n N M ca cb t u 0)) := by kernel_rfl
def rM (i : Int) (R P X : Prop) : Prop := Br (decide (i < (n : Nat))) (IX i n N (IX i n M (Br (g (i.toNat + 0) != h (i.toNat + 0)) R P))) X
theorem r_eq (i : Int) (K : Ex → St → Prop) : evG Try.prog noE 100 (lft (subAt p1 cs)) (S g h n N M ca cb t u i) (fun e st => K e (gcSt 2 live st)) =
    rM g h n N M i (K .ret (S g h n N M ca cb t u i)) (K .normal (S g h n N M ca cb t u (IntKind.i64.wrap (i + 1)))) (K (.exit 0) (S g h n N M ca cb t u i)) := by kernel_rfl
theorem aft (K : Ex → St → Prop) (st : St) : ctxK Try.prog 2 p1 cs K (.exit 0) st = CodeB Try.prog 2 c1 st K := by kernel_rfl
theorem fin (i : Int) (K : V → Prop) : evG Try.prog noE 100 c1 (S g h n N M ca cb t u i) (KB K) = K (bV true) := by kernel_rfl
theorem nil_eq (p q : Option Addr) (K : V → Prop) : callG Try.prog noE 100 10 [.raw (.slice p 0 ca), .raw (.slice q 0 cb)] [] (rK K) = K (bV true) := by kernel_rfl
theorem IX_ok {k n N : Nat} {P : Prop} (h : k < n) (hN : n ≤ N) (hp : P) : IX (k : Int) n N P := by
  unfold IX
  rw [decide_eq_true (show (0 : Int) ≤ (k : Int) by omega), decide_eq_true (show (k : Int) < (n : Int) by omega), show Nat.blt ((k : Int).toNat + 0) N = true from by show Nat.blt (k + 0) N = true; rw [Nat.blt_eq]; omega]
  exact hp
abbrev isT : V → Prop := fun v => v = bV true
abbrev KO : Ex → St → Prop := ctxK Try.prog 2 p1 cs (KB isT)
theorem call_ok (hN : n ≤ N) (hM : n ≤ M) (hn : n ≤ 1000) (hg : ∀ j, j < n → g j = h j) : CallOk Try.prog 10 [.sle 0 1 0 n ca, .sle 1 1 0 n cb] (s0 g h N M t u) fun r _ => r = .ret (bV true) := by
  refine CallOk.mono (K := rK isT) (CallOk.fnB names (by kernel_rfl) ?_) rK_ok
  refine evTo_ok noE_ok names mixed (n := 100) (b := 2) (Z := fun st => gcSt 2 live st = S g h n N M ca cb t u ((0 : Nat) : Int)) p1 _ _ _ (fun st hz => ?_) ?_
  · refine CodeB.lop (by kernel_rfl) (LoopB.byE noE_ok names mixed (N := 100) (fun j : Nat => S g h n N M ca cb t u (j : Int)) (fun j => j ≤ n) (fun j => n - j) live (fun j hj => ?_) st 0 (by have h := gc_tells 2 live st; rw [hz] at h; exact h) (Nat.zero_le _))
    have hj : j ≤ n := hj
    rw [r_eq g h n N M ca cb t u (j : Int) (RK 2 (fun j : Nat => S g h n N M ca cb t u (j : Int)) (fun j => j ≤ n) (fun j => n - j) j KO)]
    unfold rM
    by_cases hlt : j < n
    · have c5 : IntKind.i64.wrap ((j : Int) + 1) = ((j + 1 : Nat) : Int) := by rw [wrap_i64_in (by omega) (by omega)]; omega
      rw [decide_eq_true (show (j : Int) < (n : Nat) by omega), c5, show (j : Int).toNat + 0 = j from rfl, hg j hlt, show (h j != h j) = false from by simp]
      exact IX_ok hlt hN (IX_ok hlt hM (RK.go (K := fun _ _ => True) (y := j + 1) rfl hlt (show n - (j + 1) < n - j by omega)))
    · obtain rfl : j = n := by omega
      rw [decide_eq_false (Int.lt_irrefl _)]
      show KO (.exit 0) (S g h j N M ca cb t u (j : Int))
      unfold KO
      rw [aft]
      refine CodeB.of (evG_ok noE_ok names mixed (n := 100) ?_)
      rw [fin]
  · rw [pre_eq g h n N M ca cb t u isT fun st => st = S g h n N M ca cb t u ((0 : Nat) : Int), show ((n : Int) != (n : Int)) = false from by simp]
    exact rfl
theorem nil_ok (p q : Option Addr) : CallOk Try.prog 10 [.raw (.slice p 0 ca), .raw (.slice q 0 cb)] [] fun r _ => r = .ret (bV true) := by
  refine (callG_ok noE_ok names mixed (n := 100) (K := rK isT) ?_).mono rK_ok
  rw [nil_eq]
end
end sam
open sam
/-- A row of numbers among the arguments: how long, what is in it, how much is known. -/
def vw (s : Sto) : V → Option (Nat × (Nat → Int) × Nat)
  | .raw (.slice none 0 0) => some (0, fun _ => 0, 0)
  | .lse i k 1 0 n => match s[i]? with
    | some (.arr m [.int .i64 g] N t) => some (n, g, N)
    | _ => none
  | _ => none
def sameA : List V → Sto → Option Ans := fun args s => match args with
  | [a, b] => match vw s a, vw s b with
    | some (n, g, N), some (m, h, M) => some (.br (decide (n = m ∧ n ≤ N ∧ m ≤ M ∧ n ≤ 1000 ∧ ∀ j, j < n → g j = h j)) (.one (.ret (bV true)) s) .no)
    | _, _ => none
  | _ => none
theorem vw_zero {s : Sto} {v : V} {g : Nat → Int} {N : Nat} (h : vw s v = some (0, g, N)) (ρ : Rho) : ∃ p c, v.abs ρ = .slice p 0 c := by
  unfold vw at h
  split at h
  · exact ⟨_, _, rfl⟩
  · split at h
    · cases h; exact ⟨_, _, rfl⟩
    · cases h
  · cases h
theorem vw_pos {s : Sto} {v : V} {g : Nat → Int} {n N : Nat} (h : vw s v = some (n, g, N)) (h0 : 0 < n) : ∃ i m t, s[i]? = some (.arr m [.int .i64 g] N t) ∧ ∀ ρ : Rho, ∃ cap, ∀ (ρ' : Rho) (q : Nat), ρ' q = ρ i → v.abs ρ = (V.sle q 1 0 n cap).abs ρ' := by
  unfold vw at h
  split at h
  · cases h; omega
  · rename_i i k n'
    split at h
    · rename_i m' g' N' t hi
      cases h
      exact ⟨i, _, t, hi, fun ρ => ⟨(ρ k).1 - 0, fun ρ' q hq => by simp only [V.abs, hq]⟩⟩
    · cases h
  · cases h
theorem sameA_ok {E : Eh} (hE : EOk Try.prog E) : EOk Try.prog (addE 10 sameA E) := by
  refine addE_ok hE fun args s x hx hf => ?_
  unfold sameA at hx
  split at hx
  · rename_i a b
    split at hx
    · rename_i o1 o2 n g N m h M ha hb
      cases hx
      rcases hf with ⟨hd, _⟩ | ⟨_, hf⟩
      · obtain ⟨rfl, hN, hM, hn, hg⟩ := of_decide_eq_true hd
        refine CallOk.mono (K := fun r s' => r = .ret (bV true) ∧ s' = s) ?_ fun r s' h => .inl ⟨hd, h⟩
        refine CallOk.reads (v := bV true) trivial (nil_ok 0 0 none none).plain fun ρ w hr hs => ?_
        rcases Nat.eq_zero_or_pos n with h0 | h0
        · subst h0
          obtain ⟨p, ca, ea⟩ := vw_zero ha ρ
          obtain ⟨q, cb, eb⟩ := vw_zero hb ρ
          exact ⟨ρ, [.raw (.slice p 0 ca), .raw (.slice q 0 cb)], [], by simp only [absL, ea, eb, V.abs], ⟨fun i e he => by simp at he, fun i j e f he => by simp at he⟩, fun i e he => by simp at he, ⟨trivial, trivial, trivial⟩, fun i e he => by simp at he, nil_ok ca cb p q⟩
        · obtain ⟨i, mi, t, hi, ea⟩ := vw_pos ha h0
          obtain ⟨j, mj, u, hj, eb⟩ := vw_pos hb h0
          obtain ⟨ca, ea⟩ := ea ρ
          obtain ⟨cb, eb⟩ := eb ρ
          refine ⟨at2 (ρ i) (ρ j), [.sle 0 1 0 n ca, .sle 1 1 0 n cb], s0 g h N M t u, ?_, rep_two (repE_arr_idx (ρ := ρ) (i := i) rfl (arr_ro hr hi)) (repE_arr_idx (ρ := ρ) (i := j) rfl (arr_ro hr hj)) rfl rfl, sbd_two trivial trivial, ⟨show 0 < 2 by decide, show 1 < 2 by decide, trivial⟩, own_two rfl rfl, call_ok g h n N M ca cb t u hN hM hn hg⟩
          simp only [absL, ea (at2 (ρ i) (ρ j)) 0 rfl, eb (at2 (ρ i) (ρ j)) 1 rfl]
      · exact hf.elim
    · cases hx
  · cases hx
end Go.Proofs.YtpahclogghdnpaaDoor.a64
end
section
/- A64Checks: the law's function tells true. -/
set_option linter.unusedVariables false
set_option linter.unusedSimpArgs false
set_option maxRecDepth 1000000
namespace Go.Proofs.YtpahclogghdnpaaDoor.a64Checks
open Go Go.Proofs Go.Proofs.YtpahclogghdnpaaDoorRL Go.Proofs.YtpahclogghdnpaaDoor.isa Go.Proofs.YtpahclogghdnpaaDoor.a64
noncomputable def EC : Eh := addE 7 knA (specE 8 chkG (specE 9 chkG (addE 11 inA (addE 13 ouA (addE 12 riA (addE 14 roA (addE 10 sameA noE)))))))
theorem EC_ok : EOk Try.prog EC := knA_ok (chkG_ok (rchkG_ok (inA_ok (ouA_ok (riA_ok (roA_ok (sameA_ok noE_ok)))))))
abbrev dd (n : Nat) (g : Nat → Int) (m : Nat) (h : Nat → Int) : Bool := decide (n = m ∧ n ≤ n ∧ m ≤ m ∧ n ≤ 1000 ∧ ∀ j, j < n → g j = h j)
def sm (c : Bool) (A B : List Int) (P : Prop) : Prop :=
  Br c (Br B.isEmpty P (Br (dd 0 (fun _ => 0) B.length (lc B)) P False)) (Br B.isEmpty (Br (dd A.length (lc A) 0 (fun _ => 0)) P False) (Br (dd A.length (lc A) B.length (lc B)) P False))
section
variable (op d n m a c imm : Int)
theorem law_eq (K : V → Prop) : callG Try.prog EC 200 3 [insV op d n m a c imm] [gE] (rK K) =
    Br (chkV op d n m a c imm == chkV op d n m a c imm) (sm (chkV op d n m a c imm != 0 || (inRaw d n m a op.toNat).isEmpty) (plainL (inRaw d n m a op.toNat)) (resL (chkV op d n m a c imm) (inRaw d n m a op.toNat))
      (sm (chkV op d n m a c imm != 0 || (outRaw d op.toNat).isEmpty) (plainL (outRaw d op.toNat)) (resL (chkV op d n m a c imm) (outRaw d op.toNat)) (K (bV true)))) (K (bV false)) := by kernel_rfl
end
theorem dd_yes {n m : Nat} {g h : Nat → Int} (e : n = m) (hn : n ≤ 1000) (hg : ∀ j, j < n → g j = h j) : dd n g m h = true := decide_eq_true ⟨e, Nat.le_refl _, Nat.le_refl _, hn, hg⟩
theorem sm_ok {c : Bool} {A B : List Int} {P : Prop} (h1 : c = true → B = []) (h2 : c = false → A = B) (hl : A.length ≤ 1000) (hp : P) : sm c A B P := by
  unfold sm
  cases c with
  | true => rw [h1 rfl]; exact hp
  | false =>
    obtain rfl := h2 rfl
    cases A with
    | nil =>
      show Br (dd 0 (lc []) 0 (fun _ => 0)) P False
      rw [dd_yes rfl (by decide) fun j hj => absurd hj (Nat.not_lt_zero j)]
      exact hp
    | cons x t =>
      show Br (dd (x :: t).length (lc (x :: t)) (x :: t).length (lc (x :: t))) P False
      rw [dd_yes rfl hl fun j hj => rfl]
      exact hp
theorem filt_31 : filtL [] = [] := rfl
theorem filt_cons (x : Int) (l : List Int) : filtL (x :: l) = if x = 31 then filtL l else x :: filtL l := by
  unfold filtL
  by_cases h : x = 31
  · rw [if_pos h, List.filter_cons_of_neg (by simp [h])]
  · rw [if_neg h, List.filter_cons_of_pos (by simp [h])]
theorem ref_plain : ∀ raw : List Int, raw.length ≤ 3 → refL [] raw = plainL raw
  | [], _ => rfl
  | [x], _ => by
    show laidL [] x = filtL [x]
    rw [filt_cons, filt_31]; rfl
  | [x, y], _ => by
    show laidL (laidL [] x) y = filtL (dedL (sortL [x, y]))
    rcases Int.lt_trichotomy x y with h1 | rfl | h1
    all_goals by_cases e1 : x = 31
    all_goals try by_cases e2 : y = 31
    all_goals first | (exfalso; omega) | (simp (disch := omega) only [laidL, insR, sortL, dedL, filt_cons, filt_31, if_pos, if_neg, ite_true, ite_false])
  | [x, y, z], _ => by
    show laidL (laidL (laidL [] x) y) z = filtL (dedL (sortL [x, y, z]))
    rcases Int.lt_trichotomy x y with h1 | rfl | h1
    · rcases Int.lt_trichotomy y z with h2 | rfl | h2
      · by_cases e1 : x = 31 <;> by_cases e2 : y = 31 <;> by_cases e3 : z = 31 <;> first | (exfalso; omega) | (simp (disch := omega) only [laidL, insR, sortL, dedL, filt_cons, filt_31, if_pos, if_neg, ite_true, ite_false])
      · by_cases e1 : x = 31 <;> by_cases e2 : y = 31 <;> first | (exfalso; omega) | (simp (disch := omega) only [laidL, insR, sortL, dedL, filt_cons, filt_31, if_pos, if_neg, ite_true, ite_false])
      · rcases Int.lt_trichotomy x z with h3 | rfl | h3
        · by_cases e1 : x = 31 <;> by_cases e2 : y = 31 <;> by_cases e3 : z = 31 <;> first | (exfalso; omega) | (simp (disch := omega) only [laidL, insR, sortL, dedL, filt_cons, filt_31, if_pos, if_neg, ite_true, ite_false])
        · by_cases e1 : x = 31 <;> by_cases e2 : y = 31 <;> first | (exfalso; omega) | (simp (disch := omega) only [laidL, insR, sortL, dedL, filt_cons, filt_31, if_pos, if_neg, ite_true, ite_false])
        · by_cases e1 : x = 31 <;> by_cases e2 : y = 31 <;> by_cases e3 : z = 31 <;> first | (exfalso; omega) | (simp (disch := omega) only [laidL, insR, sortL, dedL, filt_cons, filt_31, if_pos, if_neg, ite_true, ite_false])
    · rcases Int.lt_trichotomy x z with h2 | rfl | h2
      · by_cases e1 : x = 31 <;> by_cases e3 : z = 31 <;> first | (exfalso; omega) | (simp (disch := omega) only [laidL, insR, sortL, dedL, filt_cons, filt_31, if_pos, if_neg, ite_true, ite_false])
      · by_cases e1 : x = 31 <;> first | (exfalso; omega) | (simp (disch := omega) only [laidL, insR, sortL, dedL, filt_cons, filt_31, if_pos, if_neg, ite_true, ite_false])
      · by_cases e1 : x = 31 <;> by_cases e3 : z = 31 <;> first | (exfalso; omega) | (simp (disch := omega) only [laidL, insR, sortL, dedL, filt_cons, filt_31, if_pos, if_neg, ite_true, ite_false])
    · rcases Int.lt_trichotomy x z with h2 | rfl | h2
      · by_cases e1 : x = 31 <;> by_cases e2 : y = 31 <;> by_cases e3 : z = 31 <;> first | (exfalso; omega) | (simp (disch := omega) only [laidL, insR, sortL, dedL, filt_cons, filt_31, if_pos, if_neg, ite_true, ite_false])
      · by_cases e1 : x = 31 <;> by_cases e2 : y = 31 <;> first | (exfalso; omega) | (simp (disch := omega) only [laidL, insR, sortL, dedL, filt_cons, filt_31, if_pos, if_neg, ite_true, ite_false])
      · rcases Int.lt_trichotomy y z with h3 | rfl | h3
        · by_cases e1 : x = 31 <;> by_cases e2 : y = 31 <;> by_cases e3 : z = 31 <;> first | (exfalso; omega) | (simp (disch := omega) only [laidL, insR, sortL, dedL, filt_cons, filt_31, if_pos, if_neg, ite_true, ite_false])
        · by_cases e1 : x = 31 <;> by_cases e2 : y = 31 <;> first | (exfalso; omega) | (simp (disch := omega) only [laidL, insR, sortL, dedL, filt_cons, filt_31, if_pos, if_neg, ite_true, ite_false])
        · by_cases e1 : x = 31 <;> by_cases e2 : y = 31 <;> by_cases e3 : z = 31 <;> first | (exfalso; omega) | (simp (disch := omega) only [laidL, insR, sortL, dedL, filt_cons, filt_31, if_pos, if_neg, ite_true, ite_false])
  | _ :: _ :: _ :: _ :: _, h => absurd h (by simp only [List.length_cons]; omega)
theorem len_inn (d n m a : Int) (k : Nat) : (inRaw d n m a k).length ≤ 3 := by
  unfold inRaw
  split <;> simp
theorem len_ouu (d : Int) (k : Nat) : (outRaw d k).length ≤ 3 := by
  unfold outRaw
  split <;> simp
theorem len_sort (l : List Int) : (sortL l).length = l.length := by
  unfold sortL
  repeat' split
  all_goals rfl
theorem len_ded (l : List Int) : (dedL l).length ≤ l.length := by
  unfold dedL
  repeat' split
  all_goals simp
theorem len_plain (l : List Int) : (plainL l).length ≤ l.length := by
  unfold plainL filtL
  refine Nat.le_trans (List.length_filter_le ..) (Nat.le_trans (len_ded _) ?_)
  rw [len_sort]; exact Nat.le_refl _
theorem both {c : Int} {raw : List Int} (h : raw.length ≤ 3) {P : Prop} (hp : P) : sm (c != 0 || raw.isEmpty) (plainL raw) (resL c raw) P := by
  refine sm_ok (fun h1 => ?_) (fun h1 => ?_) (by have := len_plain raw; omega) hp
  · unfold resL
    cases hc : c != 0 with
    | true => rfl
    | false =>
      rw [hc, Bool.false_or] at h1
      cases raw with
      | nil => rfl
      | cons => cases h1
  · rw [Bool.or_eq_false_iff] at h1
    unfold resL
    rw [h1.1]
    exact (ref_plain raw h).symm
theorem law_ok (op d n m a c imm : Int) : CallOk Try.prog 3 [insV op d n m a c imm] [gE] fun r _ => r = .ret (bV true) := by
  refine (callG_ok EC_ok names mixed (n := 200) (K := rK fun v => v = bV true) ?_).mono rK_ok
  rw [law_eq, beq_self_eq_true]
  exact both (len_inn ..) (both (len_ouu ..) rfl)
def aks : List AK := [.agg [.int .i64, .int .i64, .int .i64, .int .i64, .int .i64, .int .i64, .int .i64]]
theorem law_call (args : List V) (h : argsOk aks args) : CallOk Try.prog 3 args [gE] fun r _ => r = .ret (.raw (.bool true)) := by
  obtain ⟨ws, r1, rfl, hi, h1⟩ := argsOk_agg h
  cases argsOk_nil h1
  obtain ⟨op, ws, rfl, _, hi⟩ := rawsOk_int hi
  obtain ⟨d, ws, rfl, _, hi⟩ := rawsOk_int hi
  obtain ⟨n, ws, rfl, _, hi⟩ := rawsOk_int hi
  obtain ⟨m, ws, rfl, _, hi⟩ := rawsOk_int hi
  obtain ⟨a, ws, rfl, _, hi⟩ := rawsOk_int hi
  obtain ⟨c, ws, rfl, _, hi⟩ := rawsOk_int hi
  obtain ⟨im, ws, rfl, _, hi⟩ := rawsOk_int hi
  cases rawsOk_nil hi
  exact law_ok op d n m a c im
end Go.Proofs.YtpahclogghdnpaaDoor.a64Checks
end
