-- Written by wip/tools/pp.py (the kit's print.py, with functions proved by hand taken as given)
import Derived.Test.YtkfkonchbkiakaaDoorQx0
import Derived.Test.YtkfkonchbkiakaaDoorQx1
import Derived.Test.YtkfkonchbkiakaaDoorQx2
namespace Go.Proofs.YtkfkonchbkiakaaDoor.Q
open Go.RowKit Go.Proofs.YtkfkonchbkiakaaDoorW.PrintWords Go.Proofs.YtkfkonchbkiakaaDoorW.PrintLast Go.Proofs.YtkfkonchbkiakaaDoorW.PrintMore
open Go.Proofs.YtkfkonchbkiakaaDoor.X
attribute [local go_sem] signed_u64 signed_u32 signed_u8 max_u64 max_u32 max_u8
attribute [local go_sem] max2_int min2_int max_two min_two max_three min_three max_four min_four   -- for this text's walks alone
set_option linter.unusedVariables false
set_option linter.unusedSimpArgs false

/-! ### brazierref1_Div: function 12 -/
mutual
def brazierref1_Div.j0 : Nat → Int → Int → Int → Int → Option (Int)
  | 0, _, _, _, _ => none
  | k + 1, x0, x1, x5, x6 => if x1 < 0 then (brazierref1_Div.j1 k x0 x1 x5 (IntKind.u64.wrap (-x6))) else (brazierref1_Div.j1 k x0 x1 x5 x6)
def brazierref1_Div.j1 : Nat → Int → Int → Int → Int → Option (Int)
  | 0, _, _, _, _ => none
  | k + 1, x0, x1, x5, x6 => brazierref1_Div.l0 k x0 x1 x5 x6 0 0 63
def brazierref1_Div.l0 : Nat → Int → Int → Int → Int → Int → Int → Int → Option (Int)
  | 0, _, _, _, _, _, _, _ => none
  | k + 1, x0, x1, x5, x6, x7, x8, x9 => if x9 ≥ 0 then (if 0 ≤ (IntKind.u64.wrap (x9)) then (if (x8 / 9223372036854775808) = 1 then (brazierref1_Div.l0 k x0 x1 x5 x6 (Go.bits .or .u64 x7 (shl .u64 1 (IntKind.u64.wrap (x9)))) (IntKind.u64.wrap ((Go.bits .or .u64 (IntKind.u64.wrap (x8 * 2)) (Go.bits .and .u64 (shr .u64 x5 (IntKind.u64.wrap (x9))) 1)) - x6)) (wrap64 (x9 - 1))) else (if (Go.bits .or .u64 (IntKind.u64.wrap (x8 * 2)) (Go.bits .and .u64 (shr .u64 x5 (IntKind.u64.wrap (x9))) 1)) ≥ x6 then (brazierref1_Div.l0 k x0 x1 x5 x6 (Go.bits .or .u64 x7 (shl .u64 1 (IntKind.u64.wrap (x9)))) (IntKind.u64.wrap ((Go.bits .or .u64 (IntKind.u64.wrap (x8 * 2)) (Go.bits .and .u64 (shr .u64 x5 (IntKind.u64.wrap (x9))) 1)) - x6)) (wrap64 (x9 - 1))) else (brazierref1_Div.l0 k x0 x1 x5 x6 x7 (Go.bits .or .u64 (IntKind.u64.wrap (x8 * 2)) (Go.bits .and .u64 (shr .u64 x5 (IntKind.u64.wrap (x9))) 1)) (wrap64 (x9 - 1))))) else (none)) else (if ((decide (x0 < 0)) != (decide (x1 < 0))) = true then (some (wrap64 (IntKind.u64.wrap (-x7)))) else (some (wrap64 (x7))))
end
def brazierref1_Div.f (k : Nat) (a0 : Int) (a1 : Int) : Option (Int) := if a1 = 0 then (some 0) else (if a0 < 0 then (brazierref1_Div.j0 k a0 a1 (IntKind.u64.wrap (-(IntKind.u64.wrap (a0)))) (IntKind.u64.wrap (a1))) else (brazierref1_Div.j0 k a0 a1 (IntKind.u64.wrap (a0)) (IntKind.u64.wrap (a1))))
theorem brazierref1_Div.mono_l : ∀ k, (∀ y0 y1 y2 y3, LeO (brazierref1_Div.j0 k y0 y1 y2 y3) (brazierref1_Div.j0 (k + 1) y0 y1 y2 y3)) ∧ (∀ y0 y1 y2 y3, LeO (brazierref1_Div.j1 k y0 y1 y2 y3) (brazierref1_Div.j1 (k + 1) y0 y1 y2 y3)) ∧ (∀ y0 y1 y2 y3 y4 y5 y6, LeO (brazierref1_Div.l0 k y0 y1 y2 y3 y4 y5 y6) (brazierref1_Div.l0 (k + 1) y0 y1 y2 y3 y4 y5 y6))
  | 0 => ⟨fun _ _ _ _ r h => by simp [brazierref1_Div.j0] at h, fun _ _ _ _ r h => by simp [brazierref1_Div.j1] at h, fun _ _ _ _ _ _ _ r h => by simp [brazierref1_Div.l0] at h⟩
  | k + 1 => by
    obtain ⟨ih0, ih1, ih2⟩ := brazierref1_Div.mono_l k
    refine ⟨?_, ?_, ?_⟩
    · intro y0 y1 y2 y3
      unfold brazierref1_Div.j0
      repeat' first
      | (with_reducible exact ih0 _ _ _ _)
      | (with_reducible exact ih1 _ _ _ _)
      | (with_reducible exact ih2 _ _ _ _ _ _ _)
      | (with_reducible exact LeO.refl _)
      | (with_reducible exact LeO.none _)
      | (with_reducible refine LeO.ite ?_ ?_)
      | (with_reducible refine LeO.bind ?_ (fun _ => ?_))
      | exact ih0 _ _ _ _
      | exact ih1 _ _ _ _
      | exact ih2 _ _ _ _ _ _ _
      | exact LeO.none _
      | refine LeO.ite ?_ ?_
      | refine LeO.bind ?_ (fun _ => ?_)
    · intro y0 y1 y2 y3
      unfold brazierref1_Div.j1
      repeat' first
      | (with_reducible exact ih0 _ _ _ _)
      | (with_reducible exact ih1 _ _ _ _)
      | (with_reducible exact ih2 _ _ _ _ _ _ _)
      | (with_reducible exact LeO.refl _)
      | (with_reducible exact LeO.none _)
      | (with_reducible refine LeO.ite ?_ ?_)
      | (with_reducible refine LeO.bind ?_ (fun _ => ?_))
      | exact ih0 _ _ _ _
      | exact ih1 _ _ _ _
      | exact ih2 _ _ _ _ _ _ _
      | exact LeO.none _
      | refine LeO.ite ?_ ?_
      | refine LeO.bind ?_ (fun _ => ?_)
    · intro y0 y1 y2 y3 y4 y5 y6
      unfold brazierref1_Div.l0
      repeat' first
      | (with_reducible exact ih0 _ _ _ _)
      | (with_reducible exact ih1 _ _ _ _)
      | (with_reducible exact ih2 _ _ _ _ _ _ _)
      | (with_reducible exact LeO.refl _)
      | (with_reducible exact LeO.none _)
      | (with_reducible refine LeO.ite ?_ ?_)
      | (with_reducible refine LeO.bind ?_ (fun _ => ?_))
      | exact ih0 _ _ _ _
      | exact ih1 _ _ _ _
      | exact ih2 _ _ _ _ _ _ _
      | exact LeO.none _
      | refine LeO.ite ?_ ?_
      | refine LeO.bind ?_ (fun _ => ?_)
theorem brazierref1_Div.mono : ∀ a0 a1 k, LeO (brazierref1_Div.f k a0 a1) (brazierref1_Div.f (k + 1) a0 a1) := by
  intro a0 a1 k
  obtain ⟨ih0, ih1, ih2⟩ := brazierref1_Div.mono_l k
  unfold brazierref1_Div.f
  repeat' first
      | (with_reducible exact ih0 _ _ _ _)
      | (with_reducible exact ih1 _ _ _ _)
      | (with_reducible exact ih2 _ _ _ _ _ _ _)
      | (with_reducible exact LeO.refl _)
      | (with_reducible exact LeO.none _)
      | (with_reducible refine LeO.ite ?_ ?_)
      | (with_reducible refine LeO.bind ?_ (fun _ => ?_))
      | exact ih0 _ _ _ _
      | exact ih1 _ _ _ _
      | exact ih2 _ _ _ _ _ _ _
      | exact LeO.none _
      | refine LeO.ite ?_ ?_
      | refine LeO.bind ?_ (fun _ => ?_)
set_option maxHeartbeats 8000000 in
set_option maxRecDepth 100000 in
theorem brazierref1_Div.calls (k : Nat) (a0 : Int) (a1 : Int) (r : Int) (w : World) (h : brazierref1_Div.f k a0 a1 = some r) :
    Calls Tryd.prog 12 #[.int .i64 a0, .int .i64 a1] w fun e w' => e = .returned (.int .i64 r) ∧ Drawn0 w w' := by
  have H : (if a1 = 0 then (some 0) else (if a0 < 0 then (brazierref1_Div.j0 k a0 a1 (IntKind.u64.wrap (-(IntKind.u64.wrap (a0)))) (IntKind.u64.wrap (a1))) else (brazierref1_Div.j0 k a0 a1 (IntKind.u64.wrap (a0)) (IntKind.u64.wrap (a1))))) = some r := h
  clear h
  by_cases c3 : a1 = 0
  · rw [if_pos c3] at H
    have c3b0 : (a1 == 0) = true := beq_iff_eq.mpr c3
    have c3b1 : (a1 != 0) = false := bne_eq_false_iff_eq.mpr c3
    clear c3
    obtain rfl := Option.some.inj H
    go_enter Tryd.func12, Tryd.ntmps12
    go_wp2
    go_ret
    exact ⟨by first | rfl | (simp; done) | (simp [*]; done), by repeat (first | exact Drawn0.refl _ | apply Drawn0.step)⟩
  · rw [if_neg c3] at H
    have c3b0 : (a1 == 0) = false := beq_eq_false_iff_ne.mpr c3
    have c3b1 : (a1 != 0) = true := bne_iff_ne.mpr c3
    have HC4 := Aside0.mk H
    clear H
    go_enter Tryd.func12, Tryd.ntmps12
    go_upto_if 18 with (fail)
    go_cut [5] (fun v5 wc => ∃ (kq : Nat) (x5_3 : Int), v5 = .int .u64 x5_3 ∧ Aside0 (brazierref1_Div.j0 kq a0 a1 x5_3 (IntKind.u64.wrap (a1)) = some r) ∧ Aside0 (kq ≤ k) ∧ Drawn0 w wc)
    case first =>
      have H := HC4.out
      clear HC4
      by_cases c5 : a0 < 0
      · rw [if_pos c5] at H
        have c5b0 : decide (a0 < 0) = true := decide_eq_true c5
        clear c5
        (first | rw [c5b0] | (simp only [i64_w, i32_w]; rw [c5b0]) | skip)
        have H' := Aside0.mk H
        clear H
        go_wp2
        go_meet
        case rel => exact ⟨_, (IntKind.u64.wrap (-(IntKind.u64.wrap (a0)))), (by first | rfl | (simp; done) | (simp [*]; done)), H', ⟨by first | omega | exact Nat.le_refl _⟩, by repeat (first | exact Drawn0.refl _ | apply Drawn0.step)⟩
      · rw [if_neg c5] at H
        have c5b0 : decide (a0 < 0) = false := decide_eq_false c5
        clear c5
        (first | rw [c5b0] | (simp only [i64_w, i32_w]; rw [c5b0]) | skip)
        have H' := Aside0.mk H
        clear H
        go_wp2
        go_meet
        case rel => exact ⟨_, (IntKind.u64.wrap (a0)), (by first | rfl | (simp; done) | (simp [*]; done)), H', ⟨by first | omega | exact Nat.le_refl _⟩, by repeat (first | exact Drawn0.refl _ | apply Drawn0.step)⟩
    case rest =>
      clear HC4
      try clear c1
      try clear p2
      try clear c3
      try clear c3b0
      try clear c3b1
      try clear c5
      try clear c5b0
      obtain ⟨kq, x5_3, rfl, HA, HJ3, ⟨mc3, rfl⟩⟩ := hcut
      cases kq with
      | zero => exact absurd HA.out (by simp [brazierref1_Div.j0])
      | succ kj3 =>
        have H := HA.out
        clear HA
        simp only [brazierref1_Div.j0] at H
        have HC6 := Aside0.mk H
        clear H
        go_upto_if 22 with (fail)
        go_cut [6] (fun v6 wc => ∃ (kq : Nat) (x6_5 : Int), v6 = .int .u64 x6_5 ∧ Aside0 (brazierref1_Div.j1 kq a0 a1 x5_3 x6_5 = some r) ∧ Aside0 (kq ≤ kj3) ∧ Drawn0 w wc)
        case first =>
          have H := HC6.out
          clear HC6
          by_cases c7 : a1 < 0
          · rw [if_pos c7] at H
            have c7b0 : decide (a1 < 0) = true := decide_eq_true c7
            clear c7
            (first | rw [c7b0] | (simp only [i64_w, i32_w]; rw [c7b0]) | skip)
            have H' := Aside0.mk H
            clear H
            go_wp2
            go_meet
            case rel => exact ⟨_, (IntKind.u64.wrap (-(IntKind.u64.wrap (a1)))), (by first | rfl | (simp; done) | (simp [*]; done)), H', ⟨by have := HJ3.out; first | omega | exact Nat.le_refl _⟩, by repeat (first | exact Drawn0.refl _ | apply Drawn0.step)⟩
          · rw [if_neg c7] at H
            have c7b0 : decide (a1 < 0) = false := decide_eq_false c7
            clear c7
            (first | rw [c7b0] | (simp only [i64_w, i32_w]; rw [c7b0]) | skip)
            have H' := Aside0.mk H
            clear H
            go_wp2
            go_meet
            case rel => exact ⟨_, ((IntKind.u64.wrap (a1))), (by first | rfl | (simp; done) | (simp [*]; done)), H', ⟨by have := HJ3.out; first | omega | exact Nat.le_refl _⟩, by repeat (first | exact Drawn0.refl _ | apply Drawn0.step)⟩
        case rest =>
          clear HC6
          try clear c1
          try clear p2
          try clear c3
          try clear c3b0
          try clear c3b1
          try clear c5
          try clear c5b0
          try clear c7
          try clear c7b0
          try clear p2
          obtain ⟨kq, x6_5, rfl, HA, HJ5, ⟨mc5, rfl⟩⟩ := hcut
          cases kq with
          | zero => exact absurd HA.out (by simp [brazierref1_Div.j1])
          | succ kj5 =>
            have H := HA.out
            clear HA
            simp only [brazierref1_Div.j1] at H
            have H' := Aside0.mk H
            clear H
            go_wp2
            go_loopg [7, 8, 9] kj5 (fun kq v7 v8 v9 w' => ∃ (x7_3 : Int) (x8_3 : Int) (x9_3 : Int), v7 = .int .u64 x7_3 ∧ v8 = .int .u64 x8_3 ∧ v9 = .int .i64 x9_3 ∧ Aside0 (brazierref1_Div.l0 kq a0 a1 x5_3 x6_5 x7_3 x8_3 x9_3 = some r) ∧ Aside0 (kq ≤ kj5) ∧ Drawn0 w w')
            case atStart => exact ⟨(0), (0), (63), (by first | rfl | (simp; done) | (simp [*]; done)), (by first | rfl | (simp; done) | (simp [*]; done)), (by first | rfl | (simp; done) | (simp [*]; done)), H', ⟨Nat.le_refl _⟩, by repeat (first | exact Drawn0.refl _ | apply Drawn0.step)⟩
            case round =>
              clear H'
              try clear c1
              try clear p2
              try clear c3
              try clear c3b0
              try clear c3b1
              try clear c5
              try clear c5b0
              try clear c7
              try clear c7b0
              try clear p2
              obtain ⟨x7_3, x8_3, x9_3, rfl, rfl, rfl, HA, HK3, ⟨m3, rfl⟩⟩ := hrel
              cases gk with
              | zero => exact absurd HA.out (by simp [brazierref1_Div.l0])
              | succ k3 =>
                have H := HA.out
                clear HA
                simp only [brazierref1_Div.l0] at H
                by_cases c8 : x9_3 ≥ 0
                · rw [if_pos c8] at H
                  have c8b0 : decide (0 ≤ x9_3) = true := decide_eq_true c8
                  clear c8
                  obtain ⟨ji9, hji9⟩ : ∃ j_ : Int, (IntKind.u64.wrap (x9_3)) = j_ := ⟨_, rfl⟩
                  replace H : (if 0 ≤ (ji9) then (if (x8_3 / 9223372036854775808) = 1 then (brazierref1_Div.l0 k3 a0 a1 x5_3 x6_5 (Go.bits .or .u64 x7_3 (shl .u64 1 (ji9))) (IntKind.u64.wrap ((Go.bits .or .u64 (IntKind.u64.wrap (x8_3 * 2)) (Go.bits .and .u64 (shr .u64 x5_3 (ji9)) 1)) - x6_5)) (wrap64 (x9_3 - 1))) else (if (Go.bits .or .u64 (IntKind.u64.wrap (x8_3 * 2)) (Go.bits .and .u64 (shr .u64 x5_3 (ji9)) 1)) ≥ x6_5 then (brazierref1_Div.l0 k3 a0 a1 x5_3 x6_5 (Go.bits .or .u64 x7_3 (shl .u64 1 (ji9))) (IntKind.u64.wrap ((Go.bits .or .u64 (IntKind.u64.wrap (x8_3 * 2)) (Go.bits .and .u64 (shr .u64 x5_3 (ji9)) 1)) - x6_5)) (wrap64 (x9_3 - 1))) else (brazierref1_Div.l0 k3 a0 a1 x5_3 x6_5 x7_3 (Go.bits .or .u64 (IntKind.u64.wrap (x8_3 * 2)) (Go.bits .and .u64 (shr .u64 x5_3 (ji9)) 1)) (wrap64 (x9_3 - 1))))) else (none)) = some r := by first | (rw [hji9] at H; exact H) | (simp only [hji9] at H ⊢; exact H)
                  by_cases c10 : 0 ≤ (ji9)
                  · rw [if_pos c10] at H
                    have c10b0 := eq_true c10
                    have c10b1 : decide (0 ≤ (ji9)) = true := decide_eq_true c10
                    clear c10
                    obtain ⟨ji11, hji11⟩ : ∃ j_ : Int, (shr .u64 x5_3 (ji9)) = j_ := ⟨_, rfl⟩
                    replace H : (if (x8_3 / 9223372036854775808) = 1 then (brazierref1_Div.l0 k3 a0 a1 x5_3 x6_5 (Go.bits .or .u64 x7_3 (shl .u64 1 (ji9))) (IntKind.u64.wrap ((Go.bits .or .u64 (IntKind.u64.wrap (x8_3 * 2)) (Go.bits .and .u64 (ji11) 1)) - x6_5)) (wrap64 (x9_3 - 1))) else (if (Go.bits .or .u64 (IntKind.u64.wrap (x8_3 * 2)) (Go.bits .and .u64 (ji11) 1)) ≥ x6_5 then (brazierref1_Div.l0 k3 a0 a1 x5_3 x6_5 (Go.bits .or .u64 x7_3 (shl .u64 1 (ji9))) (IntKind.u64.wrap ((Go.bits .or .u64 (IntKind.u64.wrap (x8_3 * 2)) (Go.bits .and .u64 (ji11) 1)) - x6_5)) (wrap64 (x9_3 - 1))) else (brazierref1_Div.l0 k3 a0 a1 x5_3 x6_5 x7_3 (Go.bits .or .u64 (IntKind.u64.wrap (x8_3 * 2)) (Go.bits .and .u64 (ji11) 1)) (wrap64 (x9_3 - 1))))) = some r := by first | (rw [hji11] at H; exact H) | (simp only [hji11] at H ⊢; exact H)
                    have hji11_ : (x5_3 / 2 ^ min (ji9).toNat 64) = ji11 := hji11
                    have hji11z : (ji9) ≤ 64 → (x5_3 / 2 ^ (ji9).toNat) = ji11 := shr_small hji11
                    by_cases c12 : (x8_3 / 9223372036854775808) = 1
                    · rw [if_pos c12] at H
                      have c12b0 : ((x8_3 / 9223372036854775808) == 1) = true := beq_iff_eq.mpr c12
                      have c12b1 : ((x8_3 / 9223372036854775808) != 1) = false := bne_eq_false_iff_eq.mpr c12
                      clear c12
                      have c13b0 := eq_true (of_decide_eq_true (by first | (with_reducible assumption) | assumption) : 0 ≤ (ji9))
                      obtain ⟨ji14, hji14⟩ : ∃ j_ : Int, (shl .u64 1 (ji9)) = j_ := ⟨_, rfl⟩
                      replace H : (brazierref1_Div.l0 k3 a0 a1 x5_3 x6_5 (Go.bits .or .u64 x7_3 (ji14)) (IntKind.u64.wrap ((Go.bits .or .u64 (IntKind.u64.wrap (x8_3 * 2)) (Go.bits .and .u64 (ji11) 1)) - x6_5)) (wrap64 (x9_3 - 1))) = some r := by first | (rw [hji14] at H; exact H) | (simp only [hji14] at H ⊢; exact H)
                      have hji14_ : (IntKind.u64.wrap (1 * 2 ^ min (ji9).toNat 64)) = ji14 := hji14
                      have hji14z : (ji9) ≤ 64 → (IntKind.u64.wrap (1 * 2 ^ (ji9).toNat)) = ji14 := shl_small hji14
                      have hji14u : (IntKind.u64.wrap (2 ^ min (ji9).toNat 64)) = ji14 := by have h_ := hji14_; rw [Int.one_mul] at h_; exact h_
                      have hji14v : (ji9) ≤ 64 → (IntKind.u64.wrap (2 ^ (ji9).toNat)) = ji14 := fun hle_ => by have h_ := hji14z hle_; rw [Int.one_mul] at h_; exact h_
                      have H' := Aside0.mk H
                      clear H
                      go_wp2
                      go_roundg k3
                      case measure => have := HJ3.out; have := HJ5.out; have := HK3.out; omega
                      case rel => exact ⟨(Go.bits .or .u64 x7_3 (ji14)), (IntKind.u64.wrap ((Go.bits .or .u64 (IntKind.u64.wrap (x8_3 * 2)) (Go.bits .and .u64 (ji11) 1)) - x6_5)), (wrap64 (x9_3 - 1)), (by first | rfl | (simp; done) | (simp only [← hji14] <;> (first | rfl | simp)) | (simp [*]; done)), (by first | rfl | (simp; done) | (simp only [← hji11] <;> (first | rfl | simp)) | (simp [*]; done)), (by first | rfl | (simp; done) | (simp [*]; done)), H', ⟨by have := HJ3.out; have := HJ5.out; have := HK3.out; omega⟩, by repeat (first | exact Drawn0.refl _ | apply Drawn0.step)⟩
                    · rw [if_neg c12] at H
                      have c12b0 : ((x8_3 / 9223372036854775808) == 1) = false := beq_eq_false_iff_ne.mpr c12
                      have c12b1 : ((x8_3 / 9223372036854775808) != 1) = true := bne_iff_ne.mpr c12
                      by_cases c15 : (Go.bits .or .u64 (IntKind.u64.wrap (x8_3 * 2)) (Go.bits .and .u64 (ji11) 1)) ≥ x6_5
                      · rw [if_pos c15] at H
                        have c15b0 : decide (x6_5 ≤ (Go.bits .or .u64 (IntKind.u64.wrap (x8_3 * 2)) (Go.bits .and .u64 (ji11) 1))) = true := decide_eq_true c15
                        clear c15
                        have c16b0 := eq_true (of_decide_eq_true (by first | (with_reducible assumption) | assumption) : 0 ≤ (ji9))
                        obtain ⟨ji17, hji17⟩ : ∃ j_ : Int, (shl .u64 1 (ji9)) = j_ := ⟨_, rfl⟩
                        replace H : (brazierref1_Div.l0 k3 a0 a1 x5_3 x6_5 (Go.bits .or .u64 x7_3 (ji17)) (IntKind.u64.wrap ((Go.bits .or .u64 (IntKind.u64.wrap (x8_3 * 2)) (Go.bits .and .u64 (ji11) 1)) - x6_5)) (wrap64 (x9_3 - 1))) = some r := by first | (rw [hji17] at H; exact H) | (simp only [hji17] at H ⊢; exact H)
                        have hji17_ : (IntKind.u64.wrap (1 * 2 ^ min (ji9).toNat 64)) = ji17 := hji17
                        have hji17z : (ji9) ≤ 64 → (IntKind.u64.wrap (1 * 2 ^ (ji9).toNat)) = ji17 := shl_small hji17
                        have hji17u : (IntKind.u64.wrap (2 ^ min (ji9).toNat 64)) = ji17 := by have h_ := hji17_; rw [Int.one_mul] at h_; exact h_
                        have hji17v : (ji9) ≤ 64 → (IntKind.u64.wrap (2 ^ (ji9).toNat)) = ji17 := fun hle_ => by have h_ := hji17z hle_; rw [Int.one_mul] at h_; exact h_
                        have H' := Aside0.mk H
                        clear H
                        go_wp2
                        go_roundg k3
                        case measure => have := HJ3.out; have := HJ5.out; have := HK3.out; omega
                        case rel => exact ⟨(Go.bits .or .u64 x7_3 (ji17)), (IntKind.u64.wrap ((Go.bits .or .u64 (IntKind.u64.wrap (x8_3 * 2)) (Go.bits .and .u64 (ji11) 1)) - x6_5)), (wrap64 (x9_3 - 1)), (by first | rfl | (simp; done) | (simp only [← hji17] <;> (first | rfl | simp)) | (simp [*]; done)), (by first | rfl | (simp; done) | (simp only [← hji11] <;> (first | rfl | simp)) | (simp [*]; done)), (by first | rfl | (simp; done) | (simp [*]; done)), H', ⟨by have := HJ3.out; have := HJ5.out; have := HK3.out; omega⟩, by repeat (first | exact Drawn0.refl _ | apply Drawn0.step)⟩
                      · rw [if_neg c15] at H
                        have c15b0 : decide (x6_5 ≤ (Go.bits .or .u64 (IntKind.u64.wrap (x8_3 * 2)) (Go.bits .and .u64 (ji11) 1))) = false := decide_eq_false c15
                        clear c15
                        have H' := Aside0.mk H
                        clear H
                        go_wp2
                        go_roundg k3
                        case measure => have := HJ3.out; have := HJ5.out; have := HK3.out; omega
                        case rel => exact ⟨(x7_3), (Go.bits .or .u64 (IntKind.u64.wrap (x8_3 * 2)) (Go.bits .and .u64 (ji11) 1)), (wrap64 (x9_3 - 1)), (by first | rfl | (simp; done) | (simp [*]; done)), (by first | rfl | (simp; done) | (simp only [← hji11] <;> (first | rfl | simp)) | (simp [*]; done)), (by first | rfl | (simp; done) | (simp [*]; done)), H', ⟨by have := HJ3.out; have := HJ5.out; have := HK3.out; omega⟩, by repeat (first | exact Drawn0.refl _ | apply Drawn0.step)⟩
                  · rw [if_neg c10] at H
                    exact absurd H (by simp)
                · rw [if_neg c8] at H
                  have c8b0 : decide (0 ≤ x9_3) = false := decide_eq_false c8
                  clear c8
                  by_cases c18 : ((decide (a0 < 0)) != (decide (a1 < 0))) = true
                  · rw [if_pos c18] at H
                    have c18b0 : ((decide (a0 < 0)) != (decide (a1 < 0))) = true := c18
                    (try (have c18b1 : decide ((decide (a0 < 0)) = (decide (a1 < 0))) = false := by simpa using c18))
                    (try (have c18b2 : ((decide (a0 < 0)) == (decide (a1 < 0))) = false := by simpa using c18))
                    (try (have c18b3 : ¬ ((decide (a0 < 0)) = (decide (a1 < 0))) := by simpa using c18))
                    clear c18
                    obtain rfl := Option.some.inj H
                    go_wp2
                    go_ret
                    exact ⟨by first | rfl | (simp; done) | (simp [*]; done), by repeat (first | exact Drawn0.refl _ | apply Drawn0.step)⟩
                  · rw [if_neg c18] at H
                    have c18b0 : ((decide (a0 < 0)) != (decide (a1 < 0))) = false := by simpa using c18
                    (try (have c18b1 : decide ((decide (a0 < 0)) = (decide (a1 < 0))) = true := by simpa using c18))
                    (try (have c18b2 : ((decide (a0 < 0)) == (decide (a1 < 0))) = true := by simpa using c18))
                    clear c18
                    obtain rfl := Option.some.inj H
                    go_wp2
                    go_ret
                    exact ⟨by first | rfl | (simp; done) | (simp [*]; done), by repeat (first | exact Drawn0.refl _ | apply Drawn0.step)⟩

/-! ### brazierref1_Rem: function 14 -/
def brazierref1_Rem.f (k : Nat) (a0 : Int) (a1 : Int) : Option (Int) := (brazierref1_Div.f k a0 a1).bind fun t112 => (some (wrap64 (a0 - (wrap64 (t112 * a1)))))
theorem brazierref1_Rem.mono : ∀ a0 a1 k, LeO (brazierref1_Rem.f k a0 a1) (brazierref1_Rem.f (k + 1) a0 a1) := by
  intro a0 a1 k
  unfold brazierref1_Rem.f
  repeat' first
      | (with_reducible exact brazierref1_Div.mono _ _ _)
      | (with_reducible exact LeO.refl _)
      | (with_reducible exact LeO.none _)
      | (with_reducible refine LeO.ite ?_ ?_)
      | (with_reducible refine LeO.bind ?_ (fun _ => ?_))
      | exact brazierref1_Div.mono _ _ _
      | exact LeO.none _
      | refine LeO.ite ?_ ?_
      | refine LeO.bind ?_ (fun _ => ?_)
set_option maxHeartbeats 8000000 in
set_option maxRecDepth 100000 in
theorem brazierref1_Rem.calls (k : Nat) (a0 : Int) (a1 : Int) (r : Int) (w : World) (h : brazierref1_Rem.f k a0 a1 = some r) :
    Calls Tryd.prog 14 #[.int .i64 a0, .int .i64 a1] w fun e w' => e = .returned (.int .i64 r) ∧ Drawn0 w w' := by
  have H : ((brazierref1_Div.f k a0 a1).bind fun t112 => (some (wrap64 (a0 - (wrap64 (t112 * a1)))))) = some r := h
  clear h
  replace H := Option.bind_eq_some_iff.mp H
  obtain ⟨t112, A30, H⟩ := H
  replace H : (some (wrap64 (a0 - (wrap64 (t112 * a1))))) = some r := H
  have A3 := Aside0.mk A30
  clear A30
  obtain rfl := Option.some.inj H
  go_enter Tryd.func14, Tryd.ntmps14
  go_wp2_with (first | ((with_reducible refine gate_callee (f := 12) rfl ?_); refine goesL_ (some 8) rfl rfl Tryd.func12 (by kernel_rfl) rfl #[.int .i64 a0, .int .i64 a1] rfl (by (try simp only [List.map_toArray, List.map_cons, List.map_nil]); first | done | rfl | (simp only [List.length_drop, List.length_take]; rfl)) ?_; (with_reducible refine (brazierref1_Div.calls k a0 a1 t112 _ A3.out).mono ?_); rintro e w' ⟨rfl, ⟨nd, rfl⟩⟩; refine ⟨_, rfl, ?_⟩))
  go_ret
  exact ⟨by first | rfl | (simp; done) | (simp [*]; done), by repeat (first | exact Drawn0.refl _ | apply Drawn0.step)⟩

/-! ### bits_Shift: function 15 -/
def bits_Shift.f (a0 : Int) (a1 : Int) (a2 : Int) : Option (Int) := if a2 = 0 then (if 0 ≤ (Go.bits .and .u64 a1 63) then (some (shl .u64 a0 (Go.bits .and .u64 a1 63))) else (none)) else (if a2 = 1 then (if 0 ≤ (Go.bits .and .u64 a1 63) then (some (shr .u64 a0 (Go.bits .and .u64 a1 63))) else (none)) else (if a2 = 2 then (if 0 ≤ (Go.bits .and .u64 a1 63) then (some (IntKind.u64.wrap (shr .i64 (wrap64 (a0)) (Go.bits .and .u64 a1 63)))) else (none)) else (some a0)))
set_option maxHeartbeats 8000000 in
set_option maxRecDepth 100000 in
theorem bits_Shift.calls (a0 : Int) (a1 : Int) (a2 : Int) (r : Int) (w : World) (h : bits_Shift.f a0 a1 a2 = some r) :
    Calls Tryd.prog 15 #[.int .u64 a0, .int .u64 a1, .int .i64 a2] w fun e w' => e = .returned (.int .u64 r) ∧ Drawn0 w w' := by
  have H : (if a2 = 0 then (if 0 ≤ (Go.bits .and .u64 a1 63) then (some (shl .u64 a0 (Go.bits .and .u64 a1 63))) else (none)) else (if a2 = 1 then (if 0 ≤ (Go.bits .and .u64 a1 63) then (some (shr .u64 a0 (Go.bits .and .u64 a1 63))) else (none)) else (if a2 = 2 then (if 0 ≤ (Go.bits .and .u64 a1 63) then (some (IntKind.u64.wrap (shr .i64 (wrap64 (a0)) (Go.bits .and .u64 a1 63)))) else (none)) else (some a0)))) = some r := h
  clear h
  by_cases c4 : a2 = 0
  · rw [if_pos c4] at H
    have c4b0 : (a2 == 0) = true := beq_iff_eq.mpr c4
    have c4b1 : (a2 != 0) = false := bne_eq_false_iff_eq.mpr c4
    clear c4
    by_cases c5 : 0 ≤ (Go.bits .and .u64 a1 63)
    · rw [if_pos c5] at H
      have c5b0 := eq_true c5
      have c5b1 : decide (0 ≤ (Go.bits .and .u64 a1 63)) = true := decide_eq_true c5
      clear c5
      obtain ⟨ji6, hji6⟩ : ∃ j_ : Int, (shl .u64 a0 (Go.bits .and .u64 a1 63)) = j_ := ⟨_, rfl⟩
      replace H : (some ji6) = some r := by first | (rw [hji6] at H; exact H) | (simp only [hji6] at H ⊢; exact H)
      have hji6_ : (IntKind.u64.wrap (a0 * 2 ^ min (Go.bits .and .u64 a1 63).toNat 64)) = ji6 := hji6
      have hji6z : (Go.bits .and .u64 a1 63) ≤ 64 → (IntKind.u64.wrap (a0 * 2 ^ (Go.bits .and .u64 a1 63).toNat)) = ji6 := shl_small hji6
      obtain rfl := Option.some.inj H
      go_enter Tryd.func15, Tryd.ntmps15
      go_wp2
      go_ret
      exact ⟨by first | rfl | (simp; done) | (simp only [← hji6] <;> (first | rfl | simp)) | (simp [*]; done), by repeat (first | exact Drawn0.refl _ | apply Drawn0.step)⟩
    · rw [if_neg c5] at H
      exact absurd H (by simp)
  · rw [if_neg c4] at H
    have c4b0 : (a2 == 0) = false := beq_eq_false_iff_ne.mpr c4
    have c4b1 : (a2 != 0) = true := bne_iff_ne.mpr c4
    by_cases c7 : a2 = 1
    · rw [if_pos c7] at H
      have c7b0 : (a2 == 1) = true := beq_iff_eq.mpr c7
      have c7b1 : (a2 != 1) = false := bne_eq_false_iff_eq.mpr c7
      clear c7
      by_cases c8 : 0 ≤ (Go.bits .and .u64 a1 63)
      · rw [if_pos c8] at H
        have c8b0 := eq_true c8
        have c8b1 : decide (0 ≤ (Go.bits .and .u64 a1 63)) = true := decide_eq_true c8
        clear c8
        obtain ⟨ji9, hji9⟩ : ∃ j_ : Int, (shr .u64 a0 (Go.bits .and .u64 a1 63)) = j_ := ⟨_, rfl⟩
        replace H : (some ji9) = some r := by first | (rw [hji9] at H; exact H) | (simp only [hji9] at H ⊢; exact H)
        have hji9_ : (a0 / 2 ^ min (Go.bits .and .u64 a1 63).toNat 64) = ji9 := hji9
        have hji9z : (Go.bits .and .u64 a1 63) ≤ 64 → (a0 / 2 ^ (Go.bits .and .u64 a1 63).toNat) = ji9 := shr_small hji9
        obtain rfl := Option.some.inj H
        go_enter Tryd.func15, Tryd.ntmps15
        go_wp2
        go_ret
        exact ⟨by first | rfl | (simp; done) | (simp only [← hji9] <;> (first | rfl | simp)) | (simp [*]; done), by repeat (first | exact Drawn0.refl _ | apply Drawn0.step)⟩
      · rw [if_neg c8] at H
        exact absurd H (by simp)
    · rw [if_neg c7] at H
      have c7b0 : (a2 == 1) = false := beq_eq_false_iff_ne.mpr c7
      have c7b1 : (a2 != 1) = true := bne_iff_ne.mpr c7
      by_cases c10 : a2 = 2
      · rw [if_pos c10] at H
        have c10b0 : (a2 == 2) = true := beq_iff_eq.mpr c10
        have c10b1 : (a2 != 2) = false := bne_eq_false_iff_eq.mpr c10
        clear c10
        by_cases c11 : 0 ≤ (Go.bits .and .u64 a1 63)
        · rw [if_pos c11] at H
          have c11b0 := eq_true c11
          have c11b1 : decide (0 ≤ (Go.bits .and .u64 a1 63)) = true := decide_eq_true c11
          clear c11
          obtain ⟨ji12, hji12⟩ : ∃ j_ : Int, (shr .i64 (wrap64 (a0)) (Go.bits .and .u64 a1 63)) = j_ := ⟨_, rfl⟩
          replace H : (some (IntKind.u64.wrap (ji12))) = some r := by first | (rw [hji12] at H; exact H) | (simp only [hji12] at H ⊢; exact H)
          have hji12_ : ((wrap64 (a0)) / 2 ^ min (Go.bits .and .u64 a1 63).toNat 64) = ji12 := hji12
          have hji12z : (Go.bits .and .u64 a1 63) ≤ 64 → ((wrap64 (a0)) / 2 ^ (Go.bits .and .u64 a1 63).toNat) = ji12 := shr_small hji12
          obtain rfl := Option.some.inj H
          go_enter Tryd.func15, Tryd.ntmps15
          go_wp2
          go_ret
          exact ⟨by first | rfl | (simp; done) | (simp only [← hji12] <;> (first | rfl | simp)) | (simp [*]; done), by repeat (first | exact Drawn0.refl _ | apply Drawn0.step)⟩
        · rw [if_neg c11] at H
          exact absurd H (by simp)
      · rw [if_neg c10] at H
        have c10b0 : (a2 == 2) = false := beq_eq_false_iff_ne.mpr c10
        have c10b1 : (a2 != 2) = true := bne_iff_ne.mpr c10
        obtain rfl := Option.some.inj H
        go_enter Tryd.func15, Tryd.ntmps15
        go_wp2
        go_ret
        exact ⟨by first | rfl | (simp; done) | (simp [*]; done), by repeat (first | exact Drawn0.refl _ | apply Drawn0.step)⟩

/-! ### brazierref1_Shift: function 16 -/
def brazierref1_Shift.l0 : Nat → Int → Int → Int → Int → Option (Int)
  | 0, _, _, _, _ => none
  | k + 1, x0, x1, x2, x7 => if x7 < x1 then (if x2 = 0 then (brazierref1_Shift.l0 k (IntKind.u64.wrap (x0 * 2)) x1 x2 (IntKind.u64.wrap (x7 + 1))) else (if x2 = 1 then (brazierref1_Shift.l0 k (x0 / 2) x1 x2 (IntKind.u64.wrap (x7 + 1))) else (if x2 = 2 then (brazierref1_Shift.l0 k (Go.bits .or .u64 (x0 / 2) (Go.bits .and .u64 x0 9223372036854775808)) x1 x2 (IntKind.u64.wrap (x7 + 1))) else (brazierref1_Shift.l0 k x0 x1 x2 (IntKind.u64.wrap (x7 + 1)))))) else (some x0)
def brazierref1_Shift.f (k : Nat) (a0 : Int) (a1 : Int) (a2 : Int) : Option (Int) := brazierref1_Shift.l0 k a0 (Go.bits .and .u64 a1 63) a2 0
theorem brazierref1_Shift.mono_l : ∀ k, (∀ y0 y1 y2 y3, LeO (brazierref1_Shift.l0 k y0 y1 y2 y3) (brazierref1_Shift.l0 (k + 1) y0 y1 y2 y3))
  | 0 => fun _ _ _ _ r h => by simp [brazierref1_Shift.l0] at h
  | k + 1 => by
    have ih0 := brazierref1_Shift.mono_l k
    · intro y0 y1 y2 y3
      unfold brazierref1_Shift.l0
      repeat' first
      | (with_reducible exact ih0 _ _ _ _)
      | (with_reducible exact LeO.refl _)
      | (with_reducible exact LeO.none _)
      | (with_reducible refine LeO.ite ?_ ?_)
      | (with_reducible refine LeO.bind ?_ (fun _ => ?_))
      | exact ih0 _ _ _ _
      | exact LeO.none _
      | refine LeO.ite ?_ ?_
      | refine LeO.bind ?_ (fun _ => ?_)
theorem brazierref1_Shift.mono : ∀ a0 a1 a2 k, LeO (brazierref1_Shift.f k a0 a1 a2) (brazierref1_Shift.f (k + 1) a0 a1 a2) := by
  intro a0 a1 a2 k
  have ih0 := brazierref1_Shift.mono_l k
  unfold brazierref1_Shift.f
  repeat' first
      | (with_reducible exact ih0 _ _ _ _)
      | (with_reducible exact LeO.refl _)
      | (with_reducible exact LeO.none _)
      | (with_reducible refine LeO.ite ?_ ?_)
      | (with_reducible refine LeO.bind ?_ (fun _ => ?_))
      | exact ih0 _ _ _ _
      | exact LeO.none _
      | refine LeO.ite ?_ ?_
      | refine LeO.bind ?_ (fun _ => ?_)
set_option maxHeartbeats 8000000 in
set_option maxRecDepth 100000 in
theorem brazierref1_Shift.calls (k : Nat) (a0 : Int) (a1 : Int) (a2 : Int) (r : Int) (w : World) (h : brazierref1_Shift.f k a0 a1 a2 = some r) :
    Calls Tryd.prog 16 #[.int .u64 a0, .int .u64 a1, .int .i64 a2] w fun e w' => e = .returned (.int .u64 r) ∧ Drawn0 w w' := by
  have H : (brazierref1_Shift.l0 k a0 (Go.bits .and .u64 a1 63) a2 0) = some r := h
  clear h
  have H' := Aside0.mk H
  clear H
  go_enter Tryd.func16, Tryd.ntmps16
  go_wp2
  go_loopg [0, 7] k (fun kq v0 v7 w' => ∃ (x0_1 : Int) (x7_1 : Int), v0 = .int .u64 x0_1 ∧ v7 = .int .u64 x7_1 ∧ Aside0 (brazierref1_Shift.l0 kq x0_1 (Go.bits .and .u64 a1 63) a2 x7_1 = some r) ∧ Aside0 (kq ≤ k) ∧ Drawn0 w w')
  case atStart => exact ⟨(a0), (0), (by first | rfl | (simp; done) | (simp [*]; done)), (by first | rfl | (simp; done) | (simp [*]; done)), H', ⟨Nat.le_refl _⟩, by repeat (first | exact Drawn0.refl _ | apply Drawn0.step)⟩
  case round =>
    clear H'
    try clear c1
    try clear p2
    obtain ⟨x0_1, x7_1, rfl, rfl, HA, HK1, ⟨m1, rfl⟩⟩ := hrel
    cases gk with
    | zero => exact absurd HA.out (by simp [brazierref1_Shift.l0])
    | succ k1 =>
      have H := HA.out
      clear HA
      simp only [brazierref1_Shift.l0] at H
      by_cases c4 : x7_1 < (Go.bits .and .u64 a1 63)
      · rw [if_pos c4] at H
        have c4b0 : decide (x7_1 < (Go.bits .and .u64 a1 63)) = true := decide_eq_true c4
        clear c4
        by_cases c5 : a2 = 0
        · rw [if_pos c5] at H
          have c5b0 : (a2 == 0) = true := beq_iff_eq.mpr c5
          have c5b1 : (a2 != 0) = false := bne_eq_false_iff_eq.mpr c5
          clear c5
          have H' := Aside0.mk H
          clear H
          go_wp2
          go_roundg k1
          case measure => have := HK1.out; omega
          case rel => exact ⟨(IntKind.u64.wrap (x0_1 * 2)), (IntKind.u64.wrap (x7_1 + 1)), (by first | rfl | (simp; done) | (simp [*]; done)), (by first | rfl | (simp; done) | (simp [*]; done)), H', ⟨by have := HK1.out; omega⟩, by repeat (first | exact Drawn0.refl _ | apply Drawn0.step)⟩
        · rw [if_neg c5] at H
          have c5b0 : (a2 == 0) = false := beq_eq_false_iff_ne.mpr c5
          have c5b1 : (a2 != 0) = true := bne_iff_ne.mpr c5
          by_cases c6 : a2 = 1
          · rw [if_pos c6] at H
            have c6b0 : (a2 == 1) = true := beq_iff_eq.mpr c6
            have c6b1 : (a2 != 1) = false := bne_eq_false_iff_eq.mpr c6
            clear c6
            have H' := Aside0.mk H
            clear H
            go_wp2
            go_roundg k1
            case measure => have := HK1.out; omega
            case rel => exact ⟨(x0_1 / 2), (IntKind.u64.wrap (x7_1 + 1)), (by first | rfl | (simp; done) | (simp [*]; done)), (by first | rfl | (simp; done) | (simp [*]; done)), H', ⟨by have := HK1.out; omega⟩, by repeat (first | exact Drawn0.refl _ | apply Drawn0.step)⟩
          · rw [if_neg c6] at H
            have c6b0 : (a2 == 1) = false := beq_eq_false_iff_ne.mpr c6
            have c6b1 : (a2 != 1) = true := bne_iff_ne.mpr c6
            by_cases c7 : a2 = 2
            · rw [if_pos c7] at H
              have c7b0 : (a2 == 2) = true := beq_iff_eq.mpr c7
              have c7b1 : (a2 != 2) = false := bne_eq_false_iff_eq.mpr c7
              clear c7
              have H' := Aside0.mk H
              clear H
              go_wp2
              go_roundg k1
              case measure => have := HK1.out; omega
              case rel => exact ⟨(Go.bits .or .u64 (x0_1 / 2) (Go.bits .and .u64 x0_1 9223372036854775808)), (IntKind.u64.wrap (x7_1 + 1)), (by first | rfl | (simp; done) | (simp [*]; done)), (by first | rfl | (simp; done) | (simp [*]; done)), H', ⟨by have := HK1.out; omega⟩, by repeat (first | exact Drawn0.refl _ | apply Drawn0.step)⟩
            · rw [if_neg c7] at H
              have c7b0 : (a2 == 2) = false := beq_eq_false_iff_ne.mpr c7
              have c7b1 : (a2 != 2) = true := bne_iff_ne.mpr c7
              have H' := Aside0.mk H
              clear H
              go_wp2
              go_roundg k1
              case measure => have := HK1.out; omega
              case rel => exact ⟨(x0_1), (IntKind.u64.wrap (x7_1 + 1)), (by first | rfl | (simp; done) | (simp [*]; done)), (by first | rfl | (simp; done) | (simp [*]; done)), H', ⟨by have := HK1.out; omega⟩, by repeat (first | exact Drawn0.refl _ | apply Drawn0.step)⟩
      · rw [if_neg c4] at H
        have c4b0 : decide (x7_1 < (Go.bits .and .u64 a1 63)) = false := decide_eq_false c4
        clear c4
        obtain rfl := Option.some.inj H
        go_wp2
        go_ret
        exact ⟨by first | rfl | (simp; done) | (simp [*]; done), by repeat (first | exact Drawn0.refl _ | apply Drawn0.step)⟩

/-! ### brazierlaw1_BitsReckons: function 3 -/
def brazierlaw1_BitsReckons.j0 : Nat → Int → Int → Int → Int → Bool → Option (Bool)
  | 0, _, _, _, _, _ => none
  | k + 1, x0, x1, x3, x4, x69 => if x69 = true then (some false) else ((bits_Div.f x0 x1).bind fun t124 => ((brazierref1_Div.f k x0 x1).bind fun t125 => (if t124 = t125 then ((bits_Rem.f x0 x1).bind fun t126 => ((brazierref1_Rem.f k x0 x1).bind fun t127 => (if t126 = t127 then ((bits_Shift.f (IntKind.u64.wrap (x0)) x3 x4).bind fun t128 => ((brazierref1_Shift.f k (IntKind.u64.wrap (x0)) x3 x4).bind fun t129 => (some (t128 == t129)))) else (some false)))) else (some false))))
def brazierlaw1_BitsReckons.f (k : Nat) (a0 : Int) (a1 : Int) (a2 : Bool) (a3 : Int) (a4 : Int) : Option (Bool) := (brazierlaw1_known.f).bind fun t113 => (if t113 = true then ((bits_Add.f (IntKind.u64.wrap (a0)) (IntKind.u64.wrap (a1)) a2).bind fun bt114 => ((brazierref1_Add.f (IntKind.u64.wrap (a0)) (IntKind.u64.wrap (a1)) a2).bind fun bt119 => (if bt114.1 = bt119.1 then (if (bt114.2.1 != bt119.2.1) = true then (brazierlaw1_BitsReckons.j0 k a0 a1 a3 a4 true) else (if (bt114.2.2.1 != bt119.2.2.1) = true then (brazierlaw1_BitsReckons.j0 k a0 a1 a3 a4 true) else (if (bt114.2.2.2.1 != bt119.2.2.2.1) = true then (brazierlaw1_BitsReckons.j0 k a0 a1 a3 a4 true) else (brazierlaw1_BitsReckons.j0 k a0 a1 a3 a4 (bt114.2.2.2.2 != bt119.2.2.2.2))))) else (brazierlaw1_BitsReckons.j0 k a0 a1 a3 a4 true)))) else (some false))
theorem brazierlaw1_BitsReckons.mono_l : ∀ k, (∀ y0 y1 y2 y3 y4, LeO (brazierlaw1_BitsReckons.j0 k y0 y1 y2 y3 y4) (brazierlaw1_BitsReckons.j0 (k + 1) y0 y1 y2 y3 y4))
  | 0 => fun _ _ _ _ _ r h => by simp [brazierlaw1_BitsReckons.j0] at h
  | k + 1 => by
    have ih0 := brazierlaw1_BitsReckons.mono_l k
    · intro y0 y1 y2 y3 y4
      unfold brazierlaw1_BitsReckons.j0
      repeat' first
      | (with_reducible exact ih0 _ _ _ _ _)
      | (with_reducible exact brazierref1_Div.mono _ _ _)
      | (with_reducible exact brazierref1_Rem.mono _ _ _)
      | (with_reducible exact brazierref1_Shift.mono _ _ _ _)
      | (with_reducible exact LeO.refl _)
      | (with_reducible exact LeO.none _)
      | (with_reducible refine LeO.ite ?_ ?_)
      | (with_reducible refine LeO.bind ?_ (fun _ => ?_))
      | exact ih0 _ _ _ _ _
      | exact brazierref1_Div.mono _ _ _
      | exact brazierref1_Rem.mono _ _ _
      | exact brazierref1_Shift.mono _ _ _ _
      | exact LeO.none _
      | refine LeO.ite ?_ ?_
      | refine LeO.bind ?_ (fun _ => ?_)
theorem brazierlaw1_BitsReckons.mono : ∀ a0 a1 a2 a3 a4 k, LeO (brazierlaw1_BitsReckons.f k a0 a1 a2 a3 a4) (brazierlaw1_BitsReckons.f (k + 1) a0 a1 a2 a3 a4) := by
  intro a0 a1 a2 a3 a4 k
  have ih0 := brazierlaw1_BitsReckons.mono_l k
  unfold brazierlaw1_BitsReckons.f
  repeat' first
      | (with_reducible exact ih0 _ _ _ _ _)
      | (with_reducible exact brazierref1_Div.mono _ _ _)
      | (with_reducible exact brazierref1_Rem.mono _ _ _)
      | (with_reducible exact brazierref1_Shift.mono _ _ _ _)
      | (with_reducible exact LeO.refl _)
      | (with_reducible exact LeO.none _)
      | (with_reducible refine LeO.ite ?_ ?_)
      | (with_reducible refine LeO.bind ?_ (fun _ => ?_))
      | exact ih0 _ _ _ _ _
      | exact brazierref1_Div.mono _ _ _
      | exact brazierref1_Rem.mono _ _ _
      | exact brazierref1_Shift.mono _ _ _ _
      | exact LeO.none _
      | refine LeO.ite ?_ ?_
      | refine LeO.bind ?_ (fun _ => ?_)
set_option maxHeartbeats 8000000 in
set_option maxRecDepth 100000 in
theorem brazierlaw1_BitsReckons.calls (k : Nat) (a0 : Int) (a1 : Int) (a2 : Bool) (a3 : Int) (a4 : Int) (r : Bool) (w : World) (h : brazierlaw1_BitsReckons.f k a0 a1 a2 a3 a4 = some r) :
    Calls Tryd.prog 3 #[.int .i64 a0, .int .i64 a1, .bool a2, .int .u64 a3, .int .i64 a4] w fun e w' => e = .returned (.bool r) ∧ Below w.heap.size w w' := by
  have HB := Aside0.mk (Below.refl w.heap.size w)
  have H : ((brazierlaw1_known.f).bind fun t113 => (if t113 = true then ((bits_Add.f (IntKind.u64.wrap (a0)) (IntKind.u64.wrap (a1)) a2).bind fun bt114 => ((brazierref1_Add.f (IntKind.u64.wrap (a0)) (IntKind.u64.wrap (a1)) a2).bind fun bt119 => (if bt114.1 = bt119.1 then (if (bt114.2.1 != bt119.2.1) = true then (brazierlaw1_BitsReckons.j0 k a0 a1 a3 a4 true) else (if (bt114.2.2.1 != bt119.2.2.1) = true then (brazierlaw1_BitsReckons.j0 k a0 a1 a3 a4 true) else (if (bt114.2.2.2.1 != bt119.2.2.2.1) = true then (brazierlaw1_BitsReckons.j0 k a0 a1 a3 a4 true) else (brazierlaw1_BitsReckons.j0 k a0 a1 a3 a4 (bt114.2.2.2.2 != bt119.2.2.2.2))))) else (brazierlaw1_BitsReckons.j0 k a0 a1 a3 a4 true)))) else (some false))) = some r := h
  clear h
  replace H := Option.bind_eq_some_iff.mp H
  obtain ⟨t113, A60, H⟩ := H
  replace H : (if t113 = true then ((bits_Add.f (IntKind.u64.wrap (a0)) (IntKind.u64.wrap (a1)) a2).bind fun bt114 => ((brazierref1_Add.f (IntKind.u64.wrap (a0)) (IntKind.u64.wrap (a1)) a2).bind fun bt119 => (if bt114.1 = bt119.1 then (if (bt114.2.1 != bt119.2.1) = true then (brazierlaw1_BitsReckons.j0 k a0 a1 a3 a4 true) else (if (bt114.2.2.1 != bt119.2.2.1) = true then (brazierlaw1_BitsReckons.j0 k a0 a1 a3 a4 true) else (if (bt114.2.2.2.1 != bt119.2.2.2.1) = true then (brazierlaw1_BitsReckons.j0 k a0 a1 a3 a4 true) else (brazierlaw1_BitsReckons.j0 k a0 a1 a3 a4 (bt114.2.2.2.2 != bt119.2.2.2.2))))) else (brazierlaw1_BitsReckons.j0 k a0 a1 a3 a4 true)))) else (some false)) = some r := H
  have A6 := Aside0.mk A60
  clear A60
  by_cases c7 : t113 = true
  · subst c7
    have H1 : ((bits_Add.f (IntKind.u64.wrap (a0)) (IntKind.u64.wrap (a1)) a2).bind fun bt114 => ((brazierref1_Add.f (IntKind.u64.wrap (a0)) (IntKind.u64.wrap (a1)) a2).bind fun bt119 => (if bt114.1 = bt119.1 then (if (bt114.2.1 != bt119.2.1) = true then (brazierlaw1_BitsReckons.j0 k a0 a1 a3 a4 true) else (if (bt114.2.2.1 != bt119.2.2.1) = true then (brazierlaw1_BitsReckons.j0 k a0 a1 a3 a4 true) else (if (bt114.2.2.2.1 != bt119.2.2.2.1) = true then (brazierlaw1_BitsReckons.j0 k a0 a1 a3 a4 true) else (brazierlaw1_BitsReckons.j0 k a0 a1 a3 a4 (bt114.2.2.2.2 != bt119.2.2.2.2))))) else (brazierlaw1_BitsReckons.j0 k a0 a1 a3 a4 true)))) = some r := by rw [if_pos rfl] at H; exact H
    clear H
    have H := H1
    clear H1
    replace H := Option.bind_eq_some_iff.mp H
    obtain ⟨⟨t114, t115, t116, t117, t118⟩, A80, H⟩ := H
    replace H : ((brazierref1_Add.f (IntKind.u64.wrap (a0)) (IntKind.u64.wrap (a1)) a2).bind fun bt119 => (if t114 = bt119.1 then (if (t115 != bt119.2.1) = true then (brazierlaw1_BitsReckons.j0 k a0 a1 a3 a4 true) else (if (t116 != bt119.2.2.1) = true then (brazierlaw1_BitsReckons.j0 k a0 a1 a3 a4 true) else (if (t117 != bt119.2.2.2.1) = true then (brazierlaw1_BitsReckons.j0 k a0 a1 a3 a4 true) else (brazierlaw1_BitsReckons.j0 k a0 a1 a3 a4 (t118 != bt119.2.2.2.2))))) else (brazierlaw1_BitsReckons.j0 k a0 a1 a3 a4 true))) = some r := H
    have A8 := Aside0.mk A80
    clear A80
    replace H := Option.bind_eq_some_iff.mp H
    obtain ⟨⟨t119, t120, t121, t122, t123⟩, A90, H⟩ := H
    replace H : (if t114 = t119 then (if (t115 != t120) = true then (brazierlaw1_BitsReckons.j0 k a0 a1 a3 a4 true) else (if (t116 != t121) = true then (brazierlaw1_BitsReckons.j0 k a0 a1 a3 a4 true) else (if (t117 != t122) = true then (brazierlaw1_BitsReckons.j0 k a0 a1 a3 a4 true) else (brazierlaw1_BitsReckons.j0 k a0 a1 a3 a4 (t118 != t123))))) else (brazierlaw1_BitsReckons.j0 k a0 a1 a3 a4 true)) = some r := H
    have A9 := Aside0.mk A90
    clear A90
    have HC10 := Aside0.mk H
    clear H
    go_enter Tryd.func3, Tryd.ntmps3
    go_upto_region 5 with (first | ((with_reducible refine gate_callee (f := 8) rfl ?_); refine goesL_ (some 21) rfl rfl Tryd.func8 (by kernel_rfl) rfl #[] rfl (by (try simp only [List.map_toArray, List.map_cons, List.map_nil]); first | done | rfl | (simp only [List.length_drop, List.length_take]; rfl)) ?_; (with_reducible refine (brazierlaw1_known.calls  true _ A6.out).mono ?_); rintro e w11 ⟨rfl, hb⟩; refine ⟨_, rfl, ?_⟩; have n0_ := Aside0.mk (below_step (by repeat (first | (with_reducible first | exact HB.out | apply below_alloc | apply pw_below_drewN | apply below_drew1) | exact HB.out)) hb); clear HB; have HB := n0_; clear n0_; (try clear hb); (try clear hb2); (try clear hk); (try clear hi)) | ((with_reducible refine gate_callee (f := 9) rfl ?_); refine goesL_ (some 29) rfl rfl Tryd.func9 (by kernel_rfl) rfl #[.int .u64 (IntKind.u64.wrap (a0)), .int .u64 (IntKind.u64.wrap (a1)), .bool a2] rfl (by (try simp only [List.map_toArray, List.map_cons, List.map_nil]); first | done | rfl | (simp only [List.length_drop, List.length_take]; rfl)) ?_; (with_reducible refine (bits_Add.calls (IntKind.u64.wrap (a0)) (IntKind.u64.wrap (a1)) a2 t114 t115 t116 t117 t118 _ A8.out).mono ?_); rintro e w' ⟨rfl, ⟨nd, rfl⟩⟩; refine ⟨_, rfl, ?_⟩) | ((with_reducible refine gate_callee (f := 10) rfl ?_); refine goesL_ (some 41) rfl rfl Tryd.func10 (by kernel_rfl) rfl #[.int .u64 (IntKind.u64.wrap (a0)), .int .u64 (IntKind.u64.wrap (a1)), .bool a2] rfl (by (try simp only [List.map_toArray, List.map_cons, List.map_nil]); first | done | rfl | (simp only [List.length_drop, List.length_take]; rfl)) ?_; (with_reducible refine (brazierref1_Add.calls (IntKind.u64.wrap (a0)) (IntKind.u64.wrap (a1)) a2 t119 t120 t121 t122 t123 _ A9.out).mono ?_); rintro e w' ⟨rfl, ⟨nd, rfl⟩⟩; refine ⟨_, rfl, ?_⟩))
    (try simp only [Act.put, List.setIfInBounds_toArray, List.set_cons_zero, List.set_cons_succ])
    go_cut [69] (fun v69 wc => ∃ (kq : Nat) (x69_9 : Bool), v69 = .bool x69_9 ∧ Aside0 (brazierlaw1_BitsReckons.j0 kq a0 a1 a3 a4 x69_9 = some r) ∧ Aside0 (kq ≤ k) ∧ Aside0 (Below w.heap.size w wc))
    case first =>
      have H := HC10.out
      clear HC10
      by_cases c12 : t114 = t119
      · rw [if_pos c12] at H
        have c12b0 : (t114 == t119) = true := beq_iff_eq.mpr c12
        have c12b1 : (t114 != t119) = false := bne_eq_false_iff_eq.mpr c12
        clear c12
        (first | rw [c12b0] | (simp only [i64_w, i32_w]; rw [c12b0]) | skip)
        by_cases c13 : (t115 != t120) = true
        · rw [if_pos c13] at H
          have c13b0 : (t115 != t120) = true := c13
          (try (have c13b1 : decide (t115 = t120) = false := by simpa using c13))
          (try (have c13b2 : (t115 == t120) = false := by simpa using c13))
          (try (have c13b3 : ¬ (t115 = t120) := by simpa using c13))
          clear c13
          have H' := Aside0.mk H
          clear H
          go_wp2
          go_meet
          case rel => exact ⟨_, (true), (by first | rfl | (simp; done) | (simp [*]; done)), H', ⟨by first | omega | exact Nat.le_refl _⟩, ⟨by repeat (first | (with_reducible first | exact HB.out | apply below_alloc | apply pw_below_drewN | apply below_drew1) | exact HB.out)⟩⟩
        · rw [if_neg c13] at H
          have c13b0 : (t115 != t120) = false := by simpa using c13
          (try (have c13b1 : decide (t115 = t120) = true := by simpa using c13))
          (try (have c13b2 : (t115 == t120) = true := by simpa using c13))
          clear c13
          by_cases c14 : (t116 != t121) = true
          · rw [if_pos c14] at H
            have c14b0 : (t116 != t121) = true := c14
            (try (have c14b1 : decide (t116 = t121) = false := by simpa using c14))
            (try (have c14b2 : (t116 == t121) = false := by simpa using c14))
            (try (have c14b3 : ¬ (t116 = t121) := by simpa using c14))
            clear c14
            have H' := Aside0.mk H
            clear H
            go_wp2
            go_meet
            case rel => exact ⟨_, (true), (by first | rfl | (simp; done) | (simp [*]; done)), H', ⟨by first | omega | exact Nat.le_refl _⟩, ⟨by repeat (first | (with_reducible first | exact HB.out | apply below_alloc | apply pw_below_drewN | apply below_drew1) | exact HB.out)⟩⟩
          · rw [if_neg c14] at H
            have c14b0 : (t116 != t121) = false := by simpa using c14
            (try (have c14b1 : decide (t116 = t121) = true := by simpa using c14))
            (try (have c14b2 : (t116 == t121) = true := by simpa using c14))
            clear c14
            by_cases c15 : (t117 != t122) = true
            · rw [if_pos c15] at H
              have c15b0 : (t117 != t122) = true := c15
              (try (have c15b1 : decide (t117 = t122) = false := by simpa using c15))
              (try (have c15b2 : (t117 == t122) = false := by simpa using c15))
              (try (have c15b3 : ¬ (t117 = t122) := by simpa using c15))
              clear c15
              have H' := Aside0.mk H
              clear H
              go_wp2
              go_meet
              case rel => exact ⟨_, (true), (by first | rfl | (simp; done) | (simp [*]; done)), H', ⟨by first | omega | exact Nat.le_refl _⟩, ⟨by repeat (first | (with_reducible first | exact HB.out | apply below_alloc | apply pw_below_drewN | apply below_drew1) | exact HB.out)⟩⟩
            · rw [if_neg c15] at H
              have c15b0 : (t117 != t122) = false := by simpa using c15
              (try (have c15b1 : decide (t117 = t122) = true := by simpa using c15))
              (try (have c15b2 : (t117 == t122) = true := by simpa using c15))
              clear c15
              have H' := Aside0.mk H
              clear H
              go_wp2
              go_meet
              case rel => exact ⟨_, ((t118 != t123)), (by first | rfl | (simp; done) | (simp [*]; done)), H', ⟨by first | omega | exact Nat.le_refl _⟩, ⟨by repeat (first | (with_reducible first | exact HB.out | apply below_alloc | apply pw_below_drewN | apply below_drew1) | exact HB.out)⟩⟩
      · rw [if_neg c12] at H
        have c12b0 : (t114 == t119) = false := beq_eq_false_iff_ne.mpr c12
        have c12b1 : (t114 != t119) = true := bne_iff_ne.mpr c12
        (first | rw [c12b0] | (simp only [i64_w, i32_w]; rw [c12b0]) | skip)
        have H' := Aside0.mk H
        clear H
        go_wp2
        go_meet
        case rel => exact ⟨_, (true), (by first | rfl | (simp; done) | (simp [*]; done)), H', ⟨by first | omega | exact Nat.le_refl _⟩, ⟨by repeat (first | (with_reducible first | exact HB.out | apply below_alloc | apply pw_below_drewN | apply below_drew1) | exact HB.out)⟩⟩
    case rest =>
      clear HC10
      try clear c1
      try clear p2
      try clear c3
      try clear c7
      try clear c8
      try clear c9
      try clear c10
      try clear c12
      try clear c12b0
      try clear c12b1
      try clear c13
      try clear c13b0
      try clear c13b1
      try clear c13b2
      try clear c14
      try clear c14b0
      try clear c14b1
      try clear c14b2
      try clear c15
      try clear c15b0
      try clear c15b1
      try clear c15b2
      obtain ⟨kq, x69_9, rfl, HA, HJ9, HB⟩ := hcut
      cases kq with
      | zero => exact absurd HA.out (by simp [brazierlaw1_BitsReckons.j0])
      | succ kj9 =>
        have H := HA.out
        clear HA
        simp only [brazierlaw1_BitsReckons.j0] at H
        by_cases c16 : x69_9 = true
        · subst c16
          have H1 : (some false) = some r := by rw [if_pos rfl] at H; exact H
          clear H
          have H := H1
          clear H1
          obtain rfl := Option.some.inj H
          go_wp2
          go_ret
          exact ⟨by first | rfl | (simp [errW_none, errW_some] <;> rfl) | (simp [*, errW_none, errW_some] <;> rfl), by repeat (first | (with_reducible first | exact HB.out | apply below_alloc | apply pw_below_drewN | apply below_drew1) | exact HB.out)⟩
        · replace c16 := Bool.eq_false_iff.mpr c16
          subst c16
          have H1 : ((bits_Div.f a0 a1).bind fun t124 => ((brazierref1_Div.f kj9 a0 a1).bind fun t125 => (if t124 = t125 then ((bits_Rem.f a0 a1).bind fun t126 => ((brazierref1_Rem.f kj9 a0 a1).bind fun t127 => (if t126 = t127 then ((bits_Shift.f (IntKind.u64.wrap (a0)) a3 a4).bind fun t128 => ((brazierref1_Shift.f kj9 (IntKind.u64.wrap (a0)) a3 a4).bind fun t129 => (some (t128 == t129)))) else (some false)))) else (some false)))) = some r := by rw [if_neg (show ¬ (false = true) by decide)] at H; exact H
          clear H
          have H := H1
          clear H1
          replace H := Option.bind_eq_some_iff.mp H
          obtain ⟨t124, A170, H⟩ := H
          replace H : ((brazierref1_Div.f kj9 a0 a1).bind fun t125 => (if t124 = t125 then ((bits_Rem.f a0 a1).bind fun t126 => ((brazierref1_Rem.f kj9 a0 a1).bind fun t127 => (if t126 = t127 then ((bits_Shift.f (IntKind.u64.wrap (a0)) a3 a4).bind fun t128 => ((brazierref1_Shift.f kj9 (IntKind.u64.wrap (a0)) a3 a4).bind fun t129 => (some (t128 == t129)))) else (some false)))) else (some false))) = some r := H
          have A17 := Aside0.mk A170
          clear A170
          replace H := Option.bind_eq_some_iff.mp H
          obtain ⟨t125, A180, H⟩ := H
          replace H : (if t124 = t125 then ((bits_Rem.f a0 a1).bind fun t126 => ((brazierref1_Rem.f kj9 a0 a1).bind fun t127 => (if t126 = t127 then ((bits_Shift.f (IntKind.u64.wrap (a0)) a3 a4).bind fun t128 => ((brazierref1_Shift.f kj9 (IntKind.u64.wrap (a0)) a3 a4).bind fun t129 => (some (t128 == t129)))) else (some false)))) else (some false)) = some r := H
          have A18 := Aside0.mk A180
          clear A180
          by_cases c19 : t124 = t125
          · rw [if_pos c19] at H
            have c19b0 : (t124 == t125) = true := beq_iff_eq.mpr c19
            have c19b1 : (t124 != t125) = false := bne_eq_false_iff_eq.mpr c19
            clear c19
            replace H := Option.bind_eq_some_iff.mp H
            obtain ⟨t126, A200, H⟩ := H
            replace H : ((brazierref1_Rem.f kj9 a0 a1).bind fun t127 => (if t126 = t127 then ((bits_Shift.f (IntKind.u64.wrap (a0)) a3 a4).bind fun t128 => ((brazierref1_Shift.f kj9 (IntKind.u64.wrap (a0)) a3 a4).bind fun t129 => (some (t128 == t129)))) else (some false))) = some r := H
            have A20 := Aside0.mk A200
            clear A200
            replace H := Option.bind_eq_some_iff.mp H
            obtain ⟨t127, A210, H⟩ := H
            replace H : (if t126 = t127 then ((bits_Shift.f (IntKind.u64.wrap (a0)) a3 a4).bind fun t128 => ((brazierref1_Shift.f kj9 (IntKind.u64.wrap (a0)) a3 a4).bind fun t129 => (some (t128 == t129)))) else (some false)) = some r := H
            have A21 := Aside0.mk A210
            clear A210
            by_cases c22 : t126 = t127
            · rw [if_pos c22] at H
              have c22b0 : (t126 == t127) = true := beq_iff_eq.mpr c22
              have c22b1 : (t126 != t127) = false := bne_eq_false_iff_eq.mpr c22
              clear c22
              replace H := Option.bind_eq_some_iff.mp H
              obtain ⟨t128, A230, H⟩ := H
              replace H : ((brazierref1_Shift.f kj9 (IntKind.u64.wrap (a0)) a3 a4).bind fun t129 => (some (t128 == t129))) = some r := H
              have A23 := Aside0.mk A230
              clear A230
              replace H := Option.bind_eq_some_iff.mp H
              obtain ⟨t129, A240, H⟩ := H
              replace H : (some (t128 == t129)) = some r := H
              have A24 := Aside0.mk A240
              clear A240
              obtain rfl := Option.some.inj H
              go_wp2_with (first | ((with_reducible refine gate_callee (f := 11) rfl ?_); refine goesL_ (some 72) rfl rfl Tryd.func11 (by kernel_rfl) rfl #[.int .i64 a0, .int .i64 a1] rfl (by (try simp only [List.map_toArray, List.map_cons, List.map_nil]); first | done | rfl | (simp only [List.length_drop, List.length_take]; rfl)) ?_; (with_reducible refine (bits_Div.calls a0 a1 t124 _ A17.out).mono ?_); rintro e w' ⟨rfl, ⟨nd, rfl⟩⟩; refine ⟨_, rfl, ?_⟩) | ((with_reducible refine gate_callee (f := 12) rfl ?_); refine goesL_ (some 75) rfl rfl Tryd.func12 (by kernel_rfl) rfl #[.int .i64 a0, .int .i64 a1] rfl (by (try simp only [List.map_toArray, List.map_cons, List.map_nil]); first | done | rfl | (simp only [List.length_drop, List.length_take]; rfl)) ?_; (with_reducible refine (brazierref1_Div.calls kj9 a0 a1 t125 _ A18.out).mono ?_); rintro e w' ⟨rfl, ⟨nd, rfl⟩⟩; refine ⟨_, rfl, ?_⟩) | (go_at_call 13; (with_reducible refine (bits_Rem.calls a0 a1 t126 _ A20.out).mono ?_); rintro e w' ⟨rfl, ⟨nd, rfl⟩⟩) | (go_at_call 14; (with_reducible refine (brazierref1_Rem.calls kj9 a0 a1 t127 _ A21.out).mono ?_); rintro e w' ⟨rfl, ⟨nd, rfl⟩⟩) | (go_at_call 15; (with_reducible refine (bits_Shift.calls (IntKind.u64.wrap (a0)) a3 a4 t128 _ A23.out).mono ?_); rintro e w' ⟨rfl, ⟨nd, rfl⟩⟩) | (go_at_call 16; (with_reducible refine (brazierref1_Shift.calls kj9 (IntKind.u64.wrap (a0)) a3 a4 t129 _ A24.out).mono ?_); rintro e w' ⟨rfl, ⟨nd, rfl⟩⟩))
              go_ret
              exact ⟨by first | rfl | (simp [errW_none, errW_some] <;> rfl) | (simp [*, errW_none, errW_some] <;> rfl), by repeat (first | (with_reducible first | exact HB.out | apply below_alloc | apply pw_below_drewN | apply below_drew1) | exact HB.out)⟩
            · rw [if_neg c22] at H
              have c22b0 : (t126 == t127) = false := beq_eq_false_iff_ne.mpr c22
              have c22b1 : (t126 != t127) = true := bne_iff_ne.mpr c22
              obtain rfl := Option.some.inj H
              go_wp2_with (first | ((with_reducible refine gate_callee (f := 11) rfl ?_); refine goesL_ (some 72) rfl rfl Tryd.func11 (by kernel_rfl) rfl #[.int .i64 a0, .int .i64 a1] rfl (by (try simp only [List.map_toArray, List.map_cons, List.map_nil]); first | done | rfl | (simp only [List.length_drop, List.length_take]; rfl)) ?_; (with_reducible refine (bits_Div.calls a0 a1 t124 _ A17.out).mono ?_); rintro e w' ⟨rfl, ⟨nd, rfl⟩⟩; refine ⟨_, rfl, ?_⟩) | ((with_reducible refine gate_callee (f := 12) rfl ?_); refine goesL_ (some 75) rfl rfl Tryd.func12 (by kernel_rfl) rfl #[.int .i64 a0, .int .i64 a1] rfl (by (try simp only [List.map_toArray, List.map_cons, List.map_nil]); first | done | rfl | (simp only [List.length_drop, List.length_take]; rfl)) ?_; (with_reducible refine (brazierref1_Div.calls kj9 a0 a1 t125 _ A18.out).mono ?_); rintro e w' ⟨rfl, ⟨nd, rfl⟩⟩; refine ⟨_, rfl, ?_⟩) | (go_at_call 13; (with_reducible refine (bits_Rem.calls a0 a1 t126 _ A20.out).mono ?_); rintro e w' ⟨rfl, ⟨nd, rfl⟩⟩) | (go_at_call 14; (with_reducible refine (brazierref1_Rem.calls kj9 a0 a1 t127 _ A21.out).mono ?_); rintro e w' ⟨rfl, ⟨nd, rfl⟩⟩))
              go_ret
              exact ⟨by first | rfl | (simp [errW_none, errW_some] <;> rfl) | (simp [*, errW_none, errW_some] <;> rfl), by repeat (first | (with_reducible first | exact HB.out | apply below_alloc | apply pw_below_drewN | apply below_drew1) | exact HB.out)⟩
          · rw [if_neg c19] at H
            have c19b0 : (t124 == t125) = false := beq_eq_false_iff_ne.mpr c19
            have c19b1 : (t124 != t125) = true := bne_iff_ne.mpr c19
            obtain rfl := Option.some.inj H
            go_wp2_with (first | ((with_reducible refine gate_callee (f := 11) rfl ?_); refine goesL_ (some 72) rfl rfl Tryd.func11 (by kernel_rfl) rfl #[.int .i64 a0, .int .i64 a1] rfl (by (try simp only [List.map_toArray, List.map_cons, List.map_nil]); first | done | rfl | (simp only [List.length_drop, List.length_take]; rfl)) ?_; (with_reducible refine (bits_Div.calls a0 a1 t124 _ A17.out).mono ?_); rintro e w' ⟨rfl, ⟨nd, rfl⟩⟩; refine ⟨_, rfl, ?_⟩) | ((with_reducible refine gate_callee (f := 12) rfl ?_); refine goesL_ (some 75) rfl rfl Tryd.func12 (by kernel_rfl) rfl #[.int .i64 a0, .int .i64 a1] rfl (by (try simp only [List.map_toArray, List.map_cons, List.map_nil]); first | done | rfl | (simp only [List.length_drop, List.length_take]; rfl)) ?_; (with_reducible refine (brazierref1_Div.calls kj9 a0 a1 t125 _ A18.out).mono ?_); rintro e w' ⟨rfl, ⟨nd, rfl⟩⟩; refine ⟨_, rfl, ?_⟩))
            go_ret
            exact ⟨by first | rfl | (simp [errW_none, errW_some] <;> rfl) | (simp [*, errW_none, errW_some] <;> rfl), by repeat (first | (with_reducible first | exact HB.out | apply below_alloc | apply pw_below_drewN | apply below_drew1) | exact HB.out)⟩
  · replace c7 := Bool.eq_false_iff.mpr c7
    subst c7
    have H1 : (some false) = some r := by rw [if_neg (show ¬ (false = true) by decide)] at H; exact H
    clear H
    have H := H1
    clear H1
    obtain rfl := Option.some.inj H
    go_enter Tryd.func3, Tryd.ntmps3
    go_wp2_with (first | ((with_reducible refine gate_callee (f := 8) rfl ?_); refine goesL_ (some 21) rfl rfl Tryd.func8 (by kernel_rfl) rfl #[] rfl (by (try simp only [List.map_toArray, List.map_cons, List.map_nil]); first | done | rfl | (simp only [List.length_drop, List.length_take]; rfl)) ?_; (with_reducible refine (brazierlaw1_known.calls  false _ A6.out).mono ?_); rintro e w25 ⟨rfl, hb⟩; refine ⟨_, rfl, ?_⟩; have n0_ := Aside0.mk (below_step (by repeat (first | (with_reducible first | exact HB.out | apply below_alloc | apply pw_below_drewN | apply below_drew1) | exact HB.out)) hb); clear HB; have HB := n0_; clear n0_; (try clear hb); (try clear hb2); (try clear hk); (try clear hi)))
    go_ret
    exact ⟨by first | rfl | (simp [errW_none, errW_some] <;> rfl) | (simp [*, errW_none, errW_some] <;> rfl), by repeat (first | (with_reducible first | exact HB.out | apply below_alloc | apply pw_below_drewN | apply below_drew1) | exact HB.out)⟩

/-- THE ONE PURE STATEMENT of brazierlaw1_BitsReckons: yours. -/
def brazierlaw1_BitsReckons.Pure : Prop := ∀ (a0 : Int) (a1 : Int) (a2 : Bool) (a3 : Int) (a4 : Int), (Lit.int .i64 a0).wf = true → (Lit.int .i64 a1).wf = true → (Lit.int .u64 a3).wf = true → (Lit.int .i64 a4).wf = true → ∃ k, brazierlaw1_BitsReckons.f k a0 a1 a2 a3 a4 = some true
theorem brazierlaw1_BitsReckons.walk (P : brazierlaw1_BitsReckons.Pure) (a0 : Int) (a1 : Int) (a2 : Bool) (a3 : Int) (a4 : Int) (w : World) (w0 : (Lit.int .i64 a0).wf = true) (w1 : (Lit.int .i64 a1).wf = true) (w3 : (Lit.int .u64 a3).wf = true) (w4 : (Lit.int .i64 a4).wf = true) :
    Calls Tryd.prog 3 #[.int .i64 a0, .int .i64 a1, .bool a2, .int .u64 a3, .int .i64 a4] w fun e w' => e = .returned (.bool true) ∧ Below w.heap.size w w' := by
  obtain ⟨k, h⟩ := P a0 a1 a2 a3 a4 w0 w1 w3 w4
  refine (brazierlaw1_BitsReckons.calls k a0 a1 a2 a3 a4 true w h).mono ?_
  rintro e w' ⟨rfl, hd⟩
  exact ⟨rfl, hd⟩

end Go.Proofs.YtkfkonchbkiakaaDoor.Q
