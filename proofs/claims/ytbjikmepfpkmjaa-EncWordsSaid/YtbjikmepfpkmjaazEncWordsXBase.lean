/- enc.Base: an instruction's word without fields. -/
import Derived.Test.YtbjikmepfpkmjaazEncWordsXB
import Derived.Test.YtbjikmepfpkmjaazEncWordsQx0
namespace Go.Proofs.Ytbjikmepfpkmjaa.X
set_option linter.unusedVariables false
set_option linter.unusedSimpArgs false
open Go.RowKit Go.Proofs.YtbjikmepfpkmjaaW.PrintWords Go.Proofs.YtbjikmepfpkmjaaW.PrintLast Go.Proofs.YtbjikmepfpkmjaaW.PrintMore
def baseL : List Int := [0, 3573751839, 3531603968, 4068474880, 2432696320, 3506438144, 4043309056, 2332033024, 3405774848, 3942645760, 2315255808, 2852126720, 3388997632, 2600468480, 2600501248, 2596277248, 2596282368, 2596283392, 2596284416, 2592080896, 335544320, 1409286144, 3019898880, 3036676096, 2483027968, 3592355840, 3594452992, 3596550144, 4181721088, 4177526784, 960495616, 4167071744, 4162877440, 3370122240, 3365927936, 3361700864, 3355474944, 3573758911, 3573758879, 3573759967, 3574299424, 3574297888, 3556769793]
def enc_Base.f (a0 : Int) : Option Int := if a0 < 0 then some 0 else if a0 > 42 then some 0 else some (rd baseL a0)
theorem base_index (w : World) : ∀ n : Nat, n < 43 → (Instr.index 51 (.agg #[.int .u32 0, .int .u32 3573751839, .int .u32 3531603968, .int .u32 4068474880, .int .u32 2432696320, .int .u32 3506438144, .int .u32 4043309056, .int .u32 2332033024, .int .u32 3405774848, .int .u32 3942645760, .int .u32 2315255808, .int .u32 2852126720, .int .u32 3388997632, .int .u32 2600468480, .int .u32 2600501248, .int .u32 2596277248, .int .u32 2596282368, .int .u32 2596283392, .int .u32 2596284416, .int .u32 2592080896, .int .u32 335544320, .int .u32 1409286144, .int .u32 3019898880, .int .u32 3036676096, .int .u32 2483027968, .int .u32 3592355840, .int .u32 3594452992, .int .u32 3596550144, .int .u32 4181721088, .int .u32 4177526784, .int .u32 960495616, .int .u32 4167071744, .int .u32 4162877440, .int .u32 3370122240, .int .u32 3365927936, .int .u32 3361700864, .int .u32 3355474944, .int .u32 3573758911, .int .u32 3573758879, .int .u32 3573759967, .int .u32 3574299424, .int .u32 3574297888, .int .u32 3556769793]) (.int .i64 (n : Int))).run Try.prog w = .ok (.int .u32 (rd baseL (n : Int))) w
  | 0, _ => by kernel_rfl
  | 1, _ => by kernel_rfl
  | 2, _ => by kernel_rfl
  | 3, _ => by kernel_rfl
  | 4, _ => by kernel_rfl
  | 5, _ => by kernel_rfl
  | 6, _ => by kernel_rfl
  | 7, _ => by kernel_rfl
  | 8, _ => by kernel_rfl
  | 9, _ => by kernel_rfl
  | 10, _ => by kernel_rfl
  | 11, _ => by kernel_rfl
  | 12, _ => by kernel_rfl
  | 13, _ => by kernel_rfl
  | 14, _ => by kernel_rfl
  | 15, _ => by kernel_rfl
  | 16, _ => by kernel_rfl
  | 17, _ => by kernel_rfl
  | 18, _ => by kernel_rfl
  | 19, _ => by kernel_rfl
  | 20, _ => by kernel_rfl
  | 21, _ => by kernel_rfl
  | 22, _ => by kernel_rfl
  | 23, _ => by kernel_rfl
  | 24, _ => by kernel_rfl
  | 25, _ => by kernel_rfl
  | 26, _ => by kernel_rfl
  | 27, _ => by kernel_rfl
  | 28, _ => by kernel_rfl
  | 29, _ => by kernel_rfl
  | 30, _ => by kernel_rfl
  | 31, _ => by kernel_rfl
  | 32, _ => by kernel_rfl
  | 33, _ => by kernel_rfl
  | 34, _ => by kernel_rfl
  | 35, _ => by kernel_rfl
  | 36, _ => by kernel_rfl
  | 37, _ => by kernel_rfl
  | 38, _ => by kernel_rfl
  | 39, _ => by kernel_rfl
  | 40, _ => by kernel_rfl
  | 41, _ => by kernel_rfl
  | 42, _ => by kernel_rfl
  | n + 43, h => absurd h (by omega)
set_option maxRecDepth 100000 in
theorem enc_Base.calls (a0 : Int) (r : Int) (w : World) (h : enc_Base.f a0 = some r) :
    Calls Try.prog 9 #[.int .i64 a0] w fun e w' => e = .returned (.int .u32 r) ∧ Drawn0 w w' := by
  unfold enc_Base.f at h
  by_cases c1 : a0 < 0
  · rw [if_pos c1] at h
    obtain rfl := Option.some.inj h
    have b1 : decide (a0 < 0) = true := decide_eq_true c1
    go_enter Try.func9, Try.ntmps9
    go_wp2
    go_ret
    exact ⟨rfl, by repeat (first | exact Drawn0.refl _ | apply Drawn0.step)⟩
  · rw [if_neg c1] at h
    have b1 : decide (a0 < 0) = false := decide_eq_false c1
    by_cases c2 : a0 > 42
    · rw [if_pos c2] at h
      obtain rfl := Option.some.inj h
      have b2 : decide (42 < a0) = true := decide_eq_true c2
      go_enter Try.func9, Try.ntmps9
      go_wp2
      go_ret
      exact ⟨rfl, by repeat (first | exact Drawn0.refl _ | apply Drawn0.step)⟩
    · rw [if_neg c2] at h
      obtain rfl := Option.some.inj h
      have b2 : decide (42 < a0) = false := decide_eq_false c2
      have hi : ∀ w, (Instr.index 51 (.agg #[.int .u32 0, .int .u32 3573751839, .int .u32 3531603968, .int .u32 4068474880, .int .u32 2432696320, .int .u32 3506438144, .int .u32 4043309056, .int .u32 2332033024, .int .u32 3405774848, .int .u32 3942645760, .int .u32 2315255808, .int .u32 2852126720, .int .u32 3388997632, .int .u32 2600468480, .int .u32 2600501248, .int .u32 2596277248, .int .u32 2596282368, .int .u32 2596283392, .int .u32 2596284416, .int .u32 2592080896, .int .u32 335544320, .int .u32 1409286144, .int .u32 3019898880, .int .u32 3036676096, .int .u32 2483027968, .int .u32 3592355840, .int .u32 3594452992, .int .u32 3596550144, .int .u32 4181721088, .int .u32 4177526784, .int .u32 960495616, .int .u32 4167071744, .int .u32 4162877440, .int .u32 3370122240, .int .u32 3365927936, .int .u32 3361700864, .int .u32 3355474944, .int .u32 3573758911, .int .u32 3573758879, .int .u32 3573759967, .int .u32 3574299424, .int .u32 3574297888, .int .u32 3556769793]) (.int .i64 a0)).run Try.prog w = .ok (.int .u32 (rd baseL a0)) w := by
        intro w
        have := base_index w a0.toNat (by omega)
        have e : (((a0.toNat : Nat)) : Int) = a0 := by omega
        simp only [e] at this
        exact this
      go_enter Try.func9, Try.ntmps9
      go_wp2
      go_ret
      exact ⟨rfl, by repeat (first | exact Drawn0.refl _ | apply Drawn0.step)⟩
end Go.Proofs.Ytbjikmepfpkmjaa.X
