/- enc.Word, whole. Written by genwords.py. -/
import Derived.Test.YtbjikmepfpkmjaazEncWordsXWord1
import Derived.Test.YtbjikmepfpkmjaazEncWordsXWord2
import Derived.Test.YtbjikmepfpkmjaazEncWordsXWord3
import Derived.Test.YtbjikmepfpkmjaazEncWordsXWord4
import Derived.Test.YtbjikmepfpkmjaazEncWordsXBar
import Derived.Test.YtbjikmepfpkmjaazEncWordsPChkA
namespace Go.Proofs.Ytbjikmepfpkmjaa.X
set_option linter.unusedVariables false
set_option linter.unusedSimpArgs false
open Go.RowKit Go.Proofs.YtbjikmepfpkmjaaW.PrintWords Go.Proofs.YtbjikmepfpkmjaaW.PrintLast Go.Proofs.YtbjikmepfpkmjaaW.PrintMore Go.Proofs.Ytbjikmepfpkmjaa.Q
theorem word_of {op d n m a c imm r1 r2 : Int} (hk : a64_Check.f 40 op d n m a c imm = some 0) (h : enc_Word.f op d n m a c imm = some (r1, r2)) : ∃ b, enc_Base.f op = some b ∧ putAll (lays op d n m a c imm) b = some r1 ∧ r2 = 0 := by
  unfold enc_Word.f at h
  rw [hk] at h
  simp only [Option.bind_some, if_true] at h
  obtain ⟨b, hb, h⟩ := Option.bind_eq_some_iff.1 h
  obtain ⟨r, hr, h⟩ := Option.bind_eq_some_iff.1 h
  obtain ⟨rfl, rfl⟩ := Prod.mk.inj (Option.some.inj h)
  exact ⟨b, hb, hr, rfl⟩
theorem word_bad {op d n m a c imm r1 r2 : Int} (hk : a64_Check.f 40 op d n m a c imm = some 1) (h : enc_Word.f op d n m a c imm = some (r1, r2)) : r1 = 0 ∧ r2 = 1 := by
  unfold enc_Word.f at h
  rw [hk] at h
  simp only [Option.bind_some] at h
  rw [if_neg (by omega)] at h
  obtain ⟨rfl, rfl⟩ := Prod.mk.inj (Option.some.inj h)
  exact ⟨rfl, rfl⟩
set_option maxHeartbeats 2000000 in
set_option maxRecDepth 100000 in
theorem bad_calls (op d n m a c imm : Int) (w : World) (hch : a64_Check.f 40 op d n m a c imm = some 1) :
    Calls Try.prog 7 #[.agg #[.int .i64 op, .int .i64 d, .int .i64 n, .int .i64 m, .int .i64 a, .int .i64 c, .int .i64 imm]] w fun e w' => e = .returned (.tuple #[.int .u32 0, .int .i64 1]) ∧ Below w.heap.size w w' := by
  have HC := Lib.hid hch
  clear hch
  go_enter Try.func7, Try.ntmps7
  go_wp2_with fail
  refine (a64_Check.calls 40 op d n m a c imm 1 _ HC.out).mono ?_
  rintro e w1 ⟨rfl, hb1⟩
  have HBW := Aside0.mk (((Below.refl w.heap.size w).alloc (Nat.le_refl _) _).trans (hb1.mono (by simp)))
  clear hb1
  go_wp2_with fail
  go_ret2
  exact ⟨rfl, by repeat (first | exact HBW.out | apply pw_below_drewN | apply below_alloc | apply below_drew1)⟩
set_option maxRecDepth 10000 in
theorem enc_Word.calls (op d n m a c imm r1 r2 : Int) (w : World) (h : enc_Word.f op d n m a c imm = some (r1, r2)) :
    Calls Try.prog 7 #[.agg #[.int .i64 op, .int .i64 d, .int .i64 n, .int .i64 m, .int .i64 a, .int .i64 c, .int .i64 imm]] w fun e w' => e = .returned (.tuple #[.int .u32 r1, .int .i64 r2]) ∧ Below w.heap.size w w' := by
  by_cases ho : op < 0 ∨ 42 < op
  · have hk := chk_out op d n m a c imm 0 ho
    rw [Nat.zero_add] at hk
    obtain ⟨rfl, rfl⟩ := word_bad hk h
    exact bad_calls op d n m a c imm w hk
  have hc : op = 0 ∨ op = 1 ∨ op = 2 ∨ op = 3 ∨ op = 4 ∨ op = 5 ∨ op = 6 ∨ op = 7 ∨ op = 8 ∨ op = 9 ∨ op = 10 ∨ op = 11 ∨ op = 12 ∨ op = 13 ∨ op = 14 ∨ op = 15 ∨ op = 16 ∨ op = 17 ∨ op = 18 ∨ op = 19 ∨ op = 20 ∨ op = 21 ∨ op = 22 ∨ op = 23 ∨ op = 24 ∨ op = 25 ∨ op = 26 ∨ op = 27 ∨ op = 28 ∨ op = 29 ∨ op = 30 ∨ op = 31 ∨ op = 32 ∨ op = 33 ∨ op = 34 ∨ op = 35 ∨ op = 36 ∨ op = 37 ∨ op = 38 ∨ op = 39 ∨ op = 40 ∨ op = 41 ∨ op = 42 := by omega
  rcases hc with rfl | rfl | rfl | rfl | rfl | rfl | rfl | rfl | rfl | rfl | rfl | rfl | rfl | rfl | rfl | rfl | rfl | rfl | rfl | rfl | rfl | rfl | rfl | rfl | rfl | rfl | rfl | rfl | rfl | rfl | rfl | rfl | rfl | rfl | rfl | rfl | rfl | rfl | rfl | rfl | rfl | rfl | rfl
  · have hk := chk_0 0 d n m a c imm
    rw [Nat.zero_add] at hk
    split at hk
    · next g =>
      obtain ⟨b, hb, hr, rfl⟩ := word_of hk h
      exact word_0 d n m a c imm b r1 w hk hb (show putAll [(0, 16, imm)] b = some r1 from hr) (by omega) (by omega) (by omega) (by omega) (by omega) (by omega) (by omega) (by omega) (by omega) (by omega) (by omega) (by omega)
    · obtain ⟨rfl, rfl⟩ := word_bad hk h
      exact bad_calls _ _ _ _ _ _ _ w hk
  · have hk := chk_1 0 d n m a c imm
    rw [Nat.zero_add] at hk
    split at hk
    · next g =>
      obtain ⟨b, hb, hr, rfl⟩ := word_of hk h
      exact word_1 d n m a c imm b r1 w hk hb (show putAll [] b = some r1 from hr) (by omega) (by omega) (by omega) (by omega) (by omega) (by omega) (by omega) (by omega) (by omega) (by omega) (by omega) (by omega)
    · obtain ⟨rfl, rfl⟩ := word_bad hk h
      exact bad_calls _ _ _ _ _ _ _ w hk
  · have hk := chk_2 0 d n m a c imm
    rw [Nat.zero_add] at hk
    split at hk
    · next g =>
      obtain ⟨b, hb, hr, rfl⟩ := word_of hk h
      exact word_2 d n m a c imm b r1 w hk hb (show putAll [(21, 2, m), (5, 16, imm), (0, 5, d)] b = some r1 from hr) (by omega) (by omega) (by omega) (by omega) (by omega) (by omega) (by omega) (by omega) (by omega) (by omega) (by omega) (by omega)
    · obtain ⟨rfl, rfl⟩ := word_bad hk h
      exact bad_calls _ _ _ _ _ _ _ w hk
  · have hk := chk_3 0 d n m a c imm
    rw [Nat.zero_add] at hk
    split at hk
    · next g =>
      obtain ⟨b, hb, hr, rfl⟩ := word_of hk h
      exact word_3 d n m a c imm b r1 w hk hb (show putAll [(21, 2, m), (5, 16, imm), (0, 5, d)] b = some r1 from hr) (by omega) (by omega) (by omega) (by omega) (by omega) (by omega) (by omega) (by omega) (by omega) (by omega) (by omega) (by omega)
    · obtain ⟨rfl, rfl⟩ := word_bad hk h
      exact bad_calls _ _ _ _ _ _ _ w hk
  · have hk := chk_4 0 d n m a c imm
    rw [Nat.zero_add] at hk
    split at hk
    · next g =>
      obtain ⟨b, hb, hr, rfl⟩ := word_of hk h
      exact word_4 d n m a c imm b r1 w hk hb (show putAll [(5, 5, n), (10, 12, imm), (0, 5, d)] b = some r1 from hr) (by omega) (by omega) (by omega) (by omega) (by omega) (by omega) (by omega) (by omega) (by omega) (by omega) (by omega) (by omega)
    · obtain ⟨rfl, rfl⟩ := word_bad hk h
      exact bad_calls _ _ _ _ _ _ _ w hk
  · have hk := chk_5 0 d n m a c imm
    rw [Nat.zero_add] at hk
    split at hk
    · next g =>
      obtain ⟨b, hb, hr, rfl⟩ := word_of hk h
      exact word_5 d n m a c imm b r1 w hk hb (show putAll [(5, 5, n), (10, 12, imm), (0, 5, d)] b = some r1 from hr) (by omega) (by omega) (by omega) (by omega) (by omega) (by omega) (by omega) (by omega) (by omega) (by omega) (by omega) (by omega)
    · obtain ⟨rfl, rfl⟩ := word_bad hk h
      exact bad_calls _ _ _ _ _ _ _ w hk
  · have hk := chk_6 0 d n m a c imm
    rw [Nat.zero_add] at hk
    split at hk
    · next g =>
      obtain ⟨b, hb, hr, rfl⟩ := word_of hk h
      exact word_6 d n m a c imm b r1 w hk hb (show putAll [(5, 5, n), (10, 12, imm), (0, 5, d)] b = some r1 from hr) (by omega) (by omega) (by omega) (by omega) (by omega) (by omega) (by omega) (by omega) (by omega) (by omega) (by omega) (by omega)
    · obtain ⟨rfl, rfl⟩ := word_bad hk h
      exact bad_calls _ _ _ _ _ _ _ w hk
  · have hk := chk_7 0 d n m a c imm
    rw [Nat.zero_add] at hk
    split at hk
    · next g =>
      obtain ⟨b, hb, hr, rfl⟩ := word_of hk h
      exact word_7 d n m a c imm b r1 w hk hb (show putAll [(5, 5, n), (16, 5, m), (0, 5, d)] b = some r1 from hr) (by omega) (by omega) (by omega) (by omega) (by omega) (by omega) (by omega) (by omega) (by omega) (by omega) (by omega) (by omega)
    · obtain ⟨rfl, rfl⟩ := word_bad hk h
      exact bad_calls _ _ _ _ _ _ _ w hk
  · have hk := chk_8 0 d n m a c imm
    rw [Nat.zero_add] at hk
    split at hk
    · next g =>
      obtain ⟨b, hb, hr, rfl⟩ := word_of hk h
      exact word_8 d n m a c imm b r1 w hk hb (show putAll [(5, 5, n), (16, 5, m), (0, 5, d)] b = some r1 from hr) (by omega) (by omega) (by omega) (by omega) (by omega) (by omega) (by omega) (by omega) (by omega) (by omega) (by omega) (by omega)
    · obtain ⟨rfl, rfl⟩ := word_bad hk h
      exact bad_calls _ _ _ _ _ _ _ w hk
  · have hk := chk_9 0 d n m a c imm
    rw [Nat.zero_add] at hk
    split at hk
    · next g =>
      obtain ⟨b, hb, hr, rfl⟩ := word_of hk h
      exact word_9 d n m a c imm b r1 w hk hb (show putAll [(5, 5, n), (16, 5, m), (0, 5, d)] b = some r1 from hr) (by omega) (by omega) (by omega) (by omega) (by omega) (by omega) (by omega) (by omega) (by omega) (by omega) (by omega) (by omega)
    · obtain ⟨rfl, rfl⟩ := word_bad hk h
      exact bad_calls _ _ _ _ _ _ _ w hk
  · have hk := chk_10 0 d n m a c imm
    rw [Nat.zero_add] at hk
    split at hk
    · next g =>
      obtain ⟨b, hb, hr, rfl⟩ := word_of hk h
      exact word_10 d n m a c imm b r1 w hk hb (show putAll [(5, 5, n), (16, 5, m), (0, 5, d)] b = some r1 from hr) (by omega) (by omega) (by omega) (by omega) (by omega) (by omega) (by omega) (by omega) (by omega) (by omega) (by omega) (by omega)
    · obtain ⟨rfl, rfl⟩ := word_bad hk h
      exact bad_calls _ _ _ _ _ _ _ w hk
  · have hk := chk_11 0 d n m a c imm
    rw [Nat.zero_add] at hk
    split at hk
    · next g =>
      obtain ⟨b, hb, hr, rfl⟩ := word_of hk h
      exact word_11 d n m a c imm b r1 w hk hb (show putAll [(5, 5, n), (16, 5, m), (0, 5, d)] b = some r1 from hr) (by omega) (by omega) (by omega) (by omega) (by omega) (by omega) (by omega) (by omega) (by omega) (by omega) (by omega) (by omega)
    · obtain ⟨rfl, rfl⟩ := word_bad hk h
      exact bad_calls _ _ _ _ _ _ _ w hk
  · have hk := chk_12 0 d n m a c imm
    rw [Nat.zero_add] at hk
    split at hk
    · next g =>
      obtain ⟨b, hb, hr, rfl⟩ := word_of hk h
      exact word_12 d n m a c imm b r1 w hk hb (show putAll [(5, 5, n), (16, 5, m), (0, 5, d)] b = some r1 from hr) (by omega) (by omega) (by omega) (by omega) (by omega) (by omega) (by omega) (by omega) (by omega) (by omega) (by omega) (by omega)
    · obtain ⟨rfl, rfl⟩ := word_bad hk h
      exact bad_calls _ _ _ _ _ _ _ w hk
  · have hk := chk_13 0 d n m a c imm
    rw [Nat.zero_add] at hk
    split at hk
    · next g =>
      obtain ⟨b, hb, hr, rfl⟩ := word_of hk h
      exact word_13 d n m a c imm b r1 w hk hb (show putAll [(5, 5, n), (16, 5, m), (10, 5, a), (0, 5, d)] b = some r1 from hr) (by omega) (by omega) (by omega) (by omega) (by omega) (by omega) (by omega) (by omega) (by omega) (by omega) (by omega) (by omega)
    · obtain ⟨rfl, rfl⟩ := word_bad hk h
      exact bad_calls _ _ _ _ _ _ _ w hk
  · have hk := chk_14 0 d n m a c imm
    rw [Nat.zero_add] at hk
    split at hk
    · next g =>
      obtain ⟨b, hb, hr, rfl⟩ := word_of hk h
      exact word_14 d n m a c imm b r1 w hk hb (show putAll [(5, 5, n), (16, 5, m), (10, 5, a), (0, 5, d)] b = some r1 from hr) (by omega) (by omega) (by omega) (by omega) (by omega) (by omega) (by omega) (by omega) (by omega) (by omega) (by omega) (by omega)
    · obtain ⟨rfl, rfl⟩ := word_bad hk h
      exact bad_calls _ _ _ _ _ _ _ w hk
  · have hk := chk_15 0 d n m a c imm
    rw [Nat.zero_add] at hk
    split at hk
    · next g =>
      obtain ⟨b, hb, hr, rfl⟩ := word_of hk h
      exact word_15 d n m a c imm b r1 w hk hb (show putAll [(5, 5, n), (16, 5, m), (0, 5, d)] b = some r1 from hr) (by omega) (by omega) (by omega) (by omega) (by omega) (by omega) (by omega) (by omega) (by omega) (by omega) (by omega) (by omega)
    · obtain ⟨rfl, rfl⟩ := word_bad hk h
      exact bad_calls _ _ _ _ _ _ _ w hk
  · have hk := chk_16 0 d n m a c imm
    rw [Nat.zero_add] at hk
    split at hk
    · next g =>
      obtain ⟨b, hb, hr, rfl⟩ := word_of hk h
      exact word_16 d n m a c imm b r1 w hk hb (show putAll [(5, 5, n), (16, 5, m), (0, 5, d)] b = some r1 from hr) (by omega) (by omega) (by omega) (by omega) (by omega) (by omega) (by omega) (by omega) (by omega) (by omega) (by omega) (by omega)
    · obtain ⟨rfl, rfl⟩ := word_bad hk h
      exact bad_calls _ _ _ _ _ _ _ w hk
  · have hk := chk_17 0 d n m a c imm
    rw [Nat.zero_add] at hk
    split at hk
    · next g =>
      obtain ⟨b, hb, hr, rfl⟩ := word_of hk h
      exact word_17 d n m a c imm b r1 w hk hb (show putAll [(5, 5, n), (16, 5, m), (0, 5, d)] b = some r1 from hr) (by omega) (by omega) (by omega) (by omega) (by omega) (by omega) (by omega) (by omega) (by omega) (by omega) (by omega) (by omega)
    · obtain ⟨rfl, rfl⟩ := word_bad hk h
      exact bad_calls _ _ _ _ _ _ _ w hk
  · have hk := chk_18 0 d n m a c imm
    rw [Nat.zero_add] at hk
    split at hk
    · next g =>
      obtain ⟨b, hb, hr, rfl⟩ := word_of hk h
      exact word_18 d n m a c imm b r1 w hk hb (show putAll [(5, 5, n), (16, 5, m), (0, 5, d)] b = some r1 from hr) (by omega) (by omega) (by omega) (by omega) (by omega) (by omega) (by omega) (by omega) (by omega) (by omega) (by omega) (by omega)
    · obtain ⟨rfl, rfl⟩ := word_bad hk h
      exact bad_calls _ _ _ _ _ _ _ w hk
  · have hk := chk_19 0 d n m a c imm
    rw [Nat.zero_add] at hk
    split at hk
    · next g =>
      obtain ⟨b, hb, hr, rfl⟩ := word_of hk h
      exact word_19 d n m a c imm b r1 w hk hb (show putAll [(5, 5, n), (12, 4, c), (16, 5, m), (0, 5, d)] b = some r1 from hr) (by omega) (by omega) (by omega) (by omega) (by omega) (by omega) (by omega) (by omega) (by omega) (by omega) (by omega) (by omega)
    · obtain ⟨rfl, rfl⟩ := word_bad hk h
      exact bad_calls _ _ _ _ _ _ _ w hk
  · have hk := chk_20 0 d n m a c imm
    rw [Nat.zero_add] at hk
    split at hk
    · next g =>
      obtain ⟨b, hb, hr, rfl⟩ := word_of hk h
      exact word_20 d n m a c imm b r1 w hk hb (show putAll [(0, 26, (Int.tdiv imm 4))] b = some r1 from hr) (by omega) (by omega) (by omega) (by omega) (by omega) (by omega) (by omega) (by omega) (by omega) (by omega) (by omega) (by omega)
    · obtain ⟨rfl, rfl⟩ := word_bad hk h
      exact bad_calls _ _ _ _ _ _ _ w hk
  · have hk := chk_21 0 d n m a c imm
    rw [Nat.zero_add] at hk
    split at hk
    · next g =>
      obtain ⟨b, hb, hr, rfl⟩ := word_of hk h
      exact word_21 d n m a c imm b r1 w hk hb (show putAll [(5, 19, (Int.tdiv imm 4)), (0, 4, c)] b = some r1 from hr) (by omega) (by omega) (by omega) (by omega) (by omega) (by omega) (by omega) (by omega) (by omega) (by omega) (by omega) (by omega)
    · obtain ⟨rfl, rfl⟩ := word_bad hk h
      exact bad_calls _ _ _ _ _ _ _ w hk
  · have hk := chk_22 0 d n m a c imm
    rw [Nat.zero_add] at hk
    split at hk
    · next g =>
      obtain ⟨b, hb, hr, rfl⟩ := word_of hk h
      exact word_22 d n m a c imm b r1 w hk hb (show putAll [(5, 19, (Int.tdiv imm 4)), (0, 5, d)] b = some r1 from hr) (by omega) (by omega) (by omega) (by omega) (by omega) (by omega) (by omega) (by omega) (by omega) (by omega) (by omega) (by omega)
    · obtain ⟨rfl, rfl⟩ := word_bad hk h
      exact bad_calls _ _ _ _ _ _ _ w hk
  · have hk := chk_23 0 d n m a c imm
    rw [Nat.zero_add] at hk
    split at hk
    · next g =>
      obtain ⟨b, hb, hr, rfl⟩ := word_of hk h
      exact word_23 d n m a c imm b r1 w hk hb (show putAll [(5, 19, (Int.tdiv imm 4)), (0, 5, d)] b = some r1 from hr) (by omega) (by omega) (by omega) (by omega) (by omega) (by omega) (by omega) (by omega) (by omega) (by omega) (by omega) (by omega)
    · obtain ⟨rfl, rfl⟩ := word_bad hk h
      exact bad_calls _ _ _ _ _ _ _ w hk
  · have hk := chk_24 0 d n m a c imm
    rw [Nat.zero_add] at hk
    split at hk
    · next g =>
      obtain ⟨b, hb, hr, rfl⟩ := word_of hk h
      exact word_24 d n m a c imm b r1 w hk hb (show putAll [(0, 26, (Int.tdiv imm 4))] b = some r1 from hr) (by omega) (by omega) (by omega) (by omega) (by omega) (by omega) (by omega) (by omega) (by omega) (by omega) (by omega) (by omega)
    · obtain ⟨rfl, rfl⟩ := word_bad hk h
      exact bad_calls _ _ _ _ _ _ _ w hk
  · have hk := chk_25 0 d n m a c imm
    rw [Nat.zero_add] at hk
    split at hk
    · next g =>
      obtain ⟨b, hb, hr, rfl⟩ := word_of hk h
      exact word_25 d n m a c imm b r1 w hk hb (show putAll [(5, 5, n)] b = some r1 from hr) (by omega) (by omega) (by omega) (by omega) (by omega) (by omega) (by omega) (by omega) (by omega) (by omega) (by omega) (by omega)
    · obtain ⟨rfl, rfl⟩ := word_bad hk h
      exact bad_calls _ _ _ _ _ _ _ w hk
  · have hk := chk_26 0 d n m a c imm
    rw [Nat.zero_add] at hk
    split at hk
    · next g =>
      obtain ⟨b, hb, hr, rfl⟩ := word_of hk h
      exact word_26 d n m a c imm b r1 w hk hb (show putAll [(5, 5, n)] b = some r1 from hr) (by omega) (by omega) (by omega) (by omega) (by omega) (by omega) (by omega) (by omega) (by omega) (by omega) (by omega) (by omega)
    · obtain ⟨rfl, rfl⟩ := word_bad hk h
      exact bad_calls _ _ _ _ _ _ _ w hk
  · have hk := chk_27 0 d n m a c imm
    rw [Nat.zero_add] at hk
    split at hk
    · next g =>
      obtain ⟨b, hb, hr, rfl⟩ := word_of hk h
      exact word_27 d n m a c imm b r1 w hk hb (show putAll [(5, 5, n)] b = some r1 from hr) (by omega) (by omega) (by omega) (by omega) (by omega) (by omega) (by omega) (by omega) (by omega) (by omega) (by omega) (by omega)
    · obtain ⟨rfl, rfl⟩ := word_bad hk h
      exact bad_calls _ _ _ _ _ _ _ w hk
  · have hk := chk_28 0 d n m a c imm
    rw [Nat.zero_add] at hk
    split at hk
    · next g =>
      obtain ⟨b, hb, hr, rfl⟩ := word_of hk h
      exact word_28 d n m a c imm b r1 w hk hb (show putAll [(5, 5, n), (10, 12, (Int.tdiv imm 8)), (0, 5, d)] b = some r1 from hr) (by omega) (by omega) (by omega) (by omega) (by omega) (by omega) (by omega) (by omega) (by omega) (by omega) (by omega) (by omega)
    · obtain ⟨rfl, rfl⟩ := word_bad hk h
      exact bad_calls _ _ _ _ _ _ _ w hk
  · have hk := chk_29 0 d n m a c imm
    rw [Nat.zero_add] at hk
    split at hk
    · next g =>
      obtain ⟨b, hb, hr, rfl⟩ := word_of hk h
      exact word_29 d n m a c imm b r1 w hk hb (show putAll [(5, 5, n), (10, 12, (Int.tdiv imm 8)), (0, 5, d)] b = some r1 from hr) (by omega) (by omega) (by omega) (by omega) (by omega) (by omega) (by omega) (by omega) (by omega) (by omega) (by omega) (by omega)
    · obtain ⟨rfl, rfl⟩ := word_bad hk h
      exact bad_calls _ _ _ _ _ _ _ w hk
  · have hk := chk_30 0 d n m a c imm
    rw [Nat.zero_add] at hk
    split at hk
    · next g =>
      obtain ⟨b, hb, hr, rfl⟩ := word_of hk h
      exact word_30 d n m a c imm b r1 w hk hb (show putAll [(5, 5, n), (10, 12, imm), (0, 5, d)] b = some r1 from hr) (by omega) (by omega) (by omega) (by omega) (by omega) (by omega) (by omega) (by omega) (by omega) (by omega) (by omega) (by omega)
    · obtain ⟨rfl, rfl⟩ := word_bad hk h
      exact bad_calls _ _ _ _ _ _ _ w hk
  · have hk := chk_31 0 d n m a c imm
    rw [Nat.zero_add] at hk
    split at hk
    · next g =>
      obtain ⟨b, hb, hr, rfl⟩ := word_of hk h
      exact word_31 d n m a c imm b r1 w hk hb (show putAll [(5, 5, n), (16, 5, m), (0, 5, d)] b = some r1 from hr) (by omega) (by omega) (by omega) (by omega) (by omega) (by omega) (by omega) (by omega) (by omega) (by omega) (by omega) (by omega)
    · obtain ⟨rfl, rfl⟩ := word_bad hk h
      exact bad_calls _ _ _ _ _ _ _ w hk
  · have hk := chk_32 0 d n m a c imm
    rw [Nat.zero_add] at hk
    split at hk
    · next g =>
      obtain ⟨b, hb, hr, rfl⟩ := word_of hk h
      exact word_32 d n m a c imm b r1 w hk hb (show putAll [(5, 5, n), (16, 5, m), (0, 5, d)] b = some r1 from hr) (by omega) (by omega) (by omega) (by omega) (by omega) (by omega) (by omega) (by omega) (by omega) (by omega) (by omega) (by omega)
    · obtain ⟨rfl, rfl⟩ := word_bad hk h
      exact bad_calls _ _ _ _ _ _ _ w hk
  · have hk := chk_33 0 d n m a c imm
    rw [Nat.zero_add] at hk
    split at hk
    · next g =>
      obtain ⟨b, hb, hr, rfl⟩ := word_of hk h
      exact word_33 d n m a c imm b r1 w hk hb (show putAll [(5, 5, n), (0, 5, d)] b = some r1 from hr) (by omega) (by omega) (by omega) (by omega) (by omega) (by omega) (by omega) (by omega) (by omega) (by omega) (by omega) (by omega)
    · obtain ⟨rfl, rfl⟩ := word_bad hk h
      exact bad_calls _ _ _ _ _ _ _ w hk
  · have hk := chk_34 0 d n m a c imm
    rw [Nat.zero_add] at hk
    split at hk
    · next g =>
      obtain ⟨b, hb, hr, rfl⟩ := word_of hk h
      exact word_34 d n m a c imm b r1 w hk hb (show putAll [(5, 5, n), (0, 5, d)] b = some r1 from hr) (by omega) (by omega) (by omega) (by omega) (by omega) (by omega) (by omega) (by omega) (by omega) (by omega) (by omega) (by omega)
    · obtain ⟨rfl, rfl⟩ := word_bad hk h
      exact bad_calls _ _ _ _ _ _ _ w hk
  · have hk := chk_35 0 d n m a c imm
    rw [Nat.zero_add] at hk
    split at hk
    · next g =>
      obtain ⟨b, hb, hr, rfl⟩ := word_of hk h
      exact word_35 d n m a c imm b r1 w hk hb (show putAll [(5, 5, n), (0, 5, d)] b = some r1 from hr) (by omega) (by omega) (by omega) (by omega) (by omega) (by omega) (by omega) (by omega) (by omega) (by omega) (by omega) (by omega)
    · obtain ⟨rfl, rfl⟩ := word_bad hk h
      exact bad_calls _ _ _ _ _ _ _ w hk
  · have hk := chk_36 0 d n m a c imm
    rw [Nat.zero_add] at hk
    split at hk
    · next g =>
      obtain ⟨b, hb, hr, rfl⟩ := word_of hk h
      exact word_36 d n m a c imm b r1 w hk hb (show putAll [(16, 5, d), (5, 5, n), (0, 5, m)] b = some r1 from hr) (by omega) (by omega) (by omega) (by omega) (by omega) (by omega) (by omega) (by omega) (by omega) (by omega) (by omega) (by omega)
    · obtain ⟨rfl, rfl⟩ := word_bad hk h
      exact bad_calls _ _ _ _ _ _ _ w hk
  · have hk := chk_37 0 d n m a c imm
    rw [Nat.zero_add] at hk
    split at hk
    · next g =>
      obtain ⟨b, hb, hr, rfl⟩ := word_of hk h
      have hi : imm = 0 ∨ imm = 1 ∨ imm = 2 := by omega
      rcases hi with rfl | rfl | rfl
      · exact word_37_0 d n m a c b r1 w hk hb (show putAll [(8, 4, 11)] b = some r1 from hr) (by omega) (by omega) (by omega) (by omega) (by omega) (by omega) (by omega) (by omega) (by omega) (by omega)
      · exact word_37_1 d n m a c b r1 w hk hb (show putAll [(8, 4, 9)] b = some r1 from hr) (by omega) (by omega) (by omega) (by omega) (by omega) (by omega) (by omega) (by omega) (by omega) (by omega)
      · exact word_37_2 d n m a c b r1 w hk hb (show putAll [(8, 4, 10)] b = some r1 from hr) (by omega) (by omega) (by omega) (by omega) (by omega) (by omega) (by omega) (by omega) (by omega) (by omega)
    · obtain ⟨rfl, rfl⟩ := word_bad hk h
      exact bad_calls _ _ _ _ _ _ _ w hk
  · have hk := chk_38 0 d n m a c imm
    rw [Nat.zero_add] at hk
    split at hk
    · next g =>
      obtain ⟨b, hb, hr, rfl⟩ := word_of hk h
      exact word_38 d n m a c imm b r1 w hk hb (show putAll [] b = some r1 from hr) (by omega) (by omega) (by omega) (by omega) (by omega) (by omega) (by omega) (by omega) (by omega) (by omega) (by omega) (by omega)
    · obtain ⟨rfl, rfl⟩ := word_bad hk h
      exact bad_calls _ _ _ _ _ _ _ w hk
  · have hk := chk_39 0 d n m a c imm
    rw [Nat.zero_add] at hk
    split at hk
    · next g =>
      obtain ⟨b, hb, hr, rfl⟩ := word_of hk h
      exact word_39 d n m a c imm b r1 w hk hb (show putAll [] b = some r1 from hr) (by omega) (by omega) (by omega) (by omega) (by omega) (by omega) (by omega) (by omega) (by omega) (by omega) (by omega) (by omega)
    · obtain ⟨rfl, rfl⟩ := word_bad hk h
      exact bad_calls _ _ _ _ _ _ _ w hk
  · have hk := chk_40 0 d n m a c imm
    rw [Nat.zero_add] at hk
    split at hk
    · next g =>
      obtain ⟨b, hb, hr, rfl⟩ := word_of hk h
      exact word_40 d n m a c imm b r1 w hk hb (show putAll [(0, 5, n)] b = some r1 from hr) (by omega) (by omega) (by omega) (by omega) (by omega) (by omega) (by omega) (by omega) (by omega) (by omega) (by omega) (by omega)
    · obtain ⟨rfl, rfl⟩ := word_bad hk h
      exact bad_calls _ _ _ _ _ _ _ w hk
  · have hk := chk_41 0 d n m a c imm
    rw [Nat.zero_add] at hk
    split at hk
    · next g =>
      obtain ⟨b, hb, hr, rfl⟩ := word_of hk h
      exact word_41 d n m a c imm b r1 w hk hb (show putAll [(0, 5, n)] b = some r1 from hr) (by omega) (by omega) (by omega) (by omega) (by omega) (by omega) (by omega) (by omega) (by omega) (by omega) (by omega) (by omega)
    · obtain ⟨rfl, rfl⟩ := word_bad hk h
      exact bad_calls _ _ _ _ _ _ _ w hk
  · have hk := chk_42 0 d n m a c imm
    rw [Nat.zero_add] at hk
    split at hk
    · next g =>
      obtain ⟨b, hb, hr, rfl⟩ := word_of hk h
      exact word_42 d n m a c imm b r1 w hk hb (show putAll [(5, 16, imm)] b = some r1 from hr) (by omega) (by omega) (by omega) (by omega) (by omega) (by omega) (by omega) (by omega) (by omega) (by omega) (by omega) (by omega)
    · obtain ⟨rfl, rfl⟩ := word_bad hk h
      exact bad_calls _ _ _ _ _ _ _ w hk
end Go.Proofs.Ytbjikmepfpkmjaa.X
