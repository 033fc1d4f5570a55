/- brazierref3.Word, instruction by instruction (part 1). Written by genref.py. -/
import Derived.Test.YtbjikmepfpkmjaazEncWordsXWord
import Derived.Test.YtbjikmepfpkmjaazEncWordsQx8
import Derived.Test.YtbjikmepfpkmjaazEncWordsQx11
namespace Go.Proofs.Ytbjikmepfpkmjaa.X
set_option linter.unusedVariables false
set_option linter.unusedSimpArgs false
open Go.RowKit Go.Proofs.YtbjikmepfpkmjaaW.PrintWords Go.Proofs.YtbjikmepfpkmjaaW.PrintLast Go.Proofs.YtbjikmepfpkmjaaW.PrintMore Go.Proofs.Ytbjikmepfpkmjaa.Q
set_option maxHeartbeats 2000000 in
set_option maxRecDepth 100000 in
theorem ref_0 (d n m a c imm : Int) (w : World) (hch : brazierref2_Check.f 40 0 d n m a c imm = some 0) :
    Calls Try.prog 8 #[.agg #[.int .i64 0, .int .i64 d, .int .i64 n, .int .i64 m, .int .i64 a, .int .i64 c, .int .i64 imm]] w fun e w' => e = .returned (.tuple #[.int .u32 (imm % 4294967296), .int .i64 0]) ∧ Below w.heap.size w w' := by
  have HC := Lib.hid hch
  have HB := Lib.hid (show brazierref3_Base.f 0 = some 0 by kernel_rfl)
  clear hch
  go_enter Try.func8, Try.ntmps8
  go_wp2_with fail
  refine (brazierref2_Check.calls 40 0 d n m a c imm 0 _ HC.out).mono ?_
  rintro e w1 ⟨rfl, hb1⟩
  have B1 := Aside0.mk (Box.of_below hb1)
  have c0 := B1.out.1
  have HBW := Aside0.mk (((Below.refl w.heap.size w).alloc (Nat.le_refl _) _).trans (hb1.mono (by simp)))
  have hz : w.heap.size < w1.heap.size := by have := hb1.size; simp at this; omega
  clear hb1
  go_wp2_with fail
  refine (brazierref3_Base.calls 0 0 _ HB.out).mono ?_
  rintro e w2 ⟨rfl, hb2⟩
  have B2 : Aside0 (Box w2 w.heap.size 0 d n m a c imm) := ⟨by
    have hc : ∀ j, w2.cell? ⟨w.heap.size, j, none⟩ = w1.cell? ⟨w.heap.size, j, none⟩ := fun j => (hb2.cell (p := ⟨w.heap.size, j, none⟩) (by simp; omega)).trans (by first | rfl | simp)
    exact ⟨(hc 0).trans B1.out.1, (hc 1).trans B1.out.2.1, (hc 2).trans B1.out.2.2.1, (hc 3).trans B1.out.2.2.2.1, (hc 4).trans B1.out.2.2.2.2.1, (hc 5).trans B1.out.2.2.2.2.2.1, (hc 6).trans B1.out.2.2.2.2.2.2⟩⟩
  have HBW2 : Aside0 (Below w.heap.size w w2) := ⟨by first | exact HBW.out.trans (hb2.mono (by first | omega | (simp; omega))) | exact (pw_below_drewN HBW.out _).trans (hb2.mono (by first | omega | (simp; omega))) | exact (below_drew1 HBW.out).trans (hb2.mono (by first | omega | (simp; omega)))⟩
  clear HBW hz c0 B1 hb2
  have c0 := B2.out.1
  have c1 := B2.out.2.1
  have c2 := B2.out.2.2.1
  have c3 := B2.out.2.2.2.1
  have c4 := B2.out.2.2.2.2.1
  have c5 := B2.out.2.2.2.2.2.1
  have c6 := B2.out.2.2.2.2.2.2
  go_wp2
  go_ret2
  exact ⟨by first | rfl | simp, by repeat (first | exact HBW2.out | apply pw_below_drewN | apply below_alloc | apply below_drew1)⟩
set_option maxHeartbeats 2000000 in
set_option maxRecDepth 100000 in
theorem ref_1 (d n m a c imm : Int) (w : World) (hch : brazierref2_Check.f 40 1 d n m a c imm = some 0) :
    Calls Try.prog 8 #[.agg #[.int .i64 1, .int .i64 d, .int .i64 n, .int .i64 m, .int .i64 a, .int .i64 c, .int .i64 imm]] w fun e w' => e = .returned (.tuple #[.int .u32 (3573751839), .int .i64 0]) ∧ Below w.heap.size w w' := by
  have HC := Lib.hid hch
  have HB := Lib.hid (show brazierref3_Base.f 1 = some 3573751839 by kernel_rfl)
  clear hch
  go_enter Try.func8, Try.ntmps8
  go_wp2_with fail
  refine (brazierref2_Check.calls 40 1 d n m a c imm 0 _ HC.out).mono ?_
  rintro e w1 ⟨rfl, hb1⟩
  have B1 := Aside0.mk (Box.of_below hb1)
  have c0 := B1.out.1
  have HBW := Aside0.mk (((Below.refl w.heap.size w).alloc (Nat.le_refl _) _).trans (hb1.mono (by simp)))
  have hz : w.heap.size < w1.heap.size := by have := hb1.size; simp at this; omega
  clear hb1
  go_wp2_with fail
  refine (brazierref3_Base.calls 1 3573751839 _ HB.out).mono ?_
  rintro e w2 ⟨rfl, hb2⟩
  have B2 : Aside0 (Box w2 w.heap.size 1 d n m a c imm) := ⟨by
    have hc : ∀ j, w2.cell? ⟨w.heap.size, j, none⟩ = w1.cell? ⟨w.heap.size, j, none⟩ := fun j => (hb2.cell (p := ⟨w.heap.size, j, none⟩) (by simp; omega)).trans (by first | rfl | simp)
    exact ⟨(hc 0).trans B1.out.1, (hc 1).trans B1.out.2.1, (hc 2).trans B1.out.2.2.1, (hc 3).trans B1.out.2.2.2.1, (hc 4).trans B1.out.2.2.2.2.1, (hc 5).trans B1.out.2.2.2.2.2.1, (hc 6).trans B1.out.2.2.2.2.2.2⟩⟩
  have HBW2 : Aside0 (Below w.heap.size w w2) := ⟨by first | exact HBW.out.trans (hb2.mono (by first | omega | (simp; omega))) | exact (pw_below_drewN HBW.out _).trans (hb2.mono (by first | omega | (simp; omega))) | exact (below_drew1 HBW.out).trans (hb2.mono (by first | omega | (simp; omega)))⟩
  clear HBW hz c0 B1 hb2
  have c0 := B2.out.1
  have c1 := B2.out.2.1
  have c2 := B2.out.2.2.1
  have c3 := B2.out.2.2.2.1
  have c4 := B2.out.2.2.2.2.1
  have c5 := B2.out.2.2.2.2.2.1
  have c6 := B2.out.2.2.2.2.2.2
  go_wp2
  go_ret2
  exact ⟨by first | rfl | simp, by repeat (first | exact HBW2.out | apply pw_below_drewN | apply below_alloc | apply below_drew1)⟩
set_option maxHeartbeats 2000000 in
set_option maxRecDepth 100000 in
theorem ref_2 (d n m a c imm : Int) (w : World) (hch : brazierref2_Check.f 40 2 d n m a c imm = some 0) :
    Calls Try.prog 8 #[.agg #[.int .i64 2, .int .i64 d, .int .i64 n, .int .i64 m, .int .i64 a, .int .i64 c, .int .i64 imm]] w fun e w' => e = .returned (.tuple #[.int .u32 (Go.bits .or .u32 (Go.bits .or .u32 (Go.bits .or .u32 (3531603968) (m % 4294967296 * 2097152 % 4294967296)) (imm % 4294967296 * 32 % 4294967296)) (d % 4294967296)), .int .i64 0]) ∧ Below w.heap.size w w' := by
  have HC := Lib.hid hch
  have HB := Lib.hid (show brazierref3_Base.f 2 = some 3531603968 by kernel_rfl)
  clear hch
  go_enter Try.func8, Try.ntmps8
  go_wp2_with fail
  refine (brazierref2_Check.calls 40 2 d n m a c imm 0 _ HC.out).mono ?_
  rintro e w1 ⟨rfl, hb1⟩
  have B1 := Aside0.mk (Box.of_below hb1)
  have c0 := B1.out.1
  have HBW := Aside0.mk (((Below.refl w.heap.size w).alloc (Nat.le_refl _) _).trans (hb1.mono (by simp)))
  have hz : w.heap.size < w1.heap.size := by have := hb1.size; simp at this; omega
  clear hb1
  go_wp2_with fail
  refine (brazierref3_Base.calls 2 3531603968 _ HB.out).mono ?_
  rintro e w2 ⟨rfl, hb2⟩
  have B2 : Aside0 (Box w2 w.heap.size 2 d n m a c imm) := ⟨by
    have hc : ∀ j, w2.cell? ⟨w.heap.size, j, none⟩ = w1.cell? ⟨w.heap.size, j, none⟩ := fun j => (hb2.cell (p := ⟨w.heap.size, j, none⟩) (by simp; omega)).trans (by first | rfl | simp)
    exact ⟨(hc 0).trans B1.out.1, (hc 1).trans B1.out.2.1, (hc 2).trans B1.out.2.2.1, (hc 3).trans B1.out.2.2.2.1, (hc 4).trans B1.out.2.2.2.2.1, (hc 5).trans B1.out.2.2.2.2.2.1, (hc 6).trans B1.out.2.2.2.2.2.2⟩⟩
  have HBW2 : Aside0 (Below w.heap.size w w2) := ⟨by first | exact HBW.out.trans (hb2.mono (by first | omega | (simp; omega))) | exact (pw_below_drewN HBW.out _).trans (hb2.mono (by first | omega | (simp; omega))) | exact (below_drew1 HBW.out).trans (hb2.mono (by first | omega | (simp; omega)))⟩
  clear HBW hz c0 B1 hb2
  have c0 := B2.out.1
  have c1 := B2.out.2.1
  have c2 := B2.out.2.2.1
  have c3 := B2.out.2.2.2.1
  have c4 := B2.out.2.2.2.2.1
  have c5 := B2.out.2.2.2.2.2.1
  have c6 := B2.out.2.2.2.2.2.2
  go_wp2
  go_ret2
  exact ⟨by first | rfl | simp, by repeat (first | exact HBW2.out | apply pw_below_drewN | apply below_alloc | apply below_drew1)⟩
set_option maxHeartbeats 2000000 in
set_option maxRecDepth 100000 in
theorem ref_3 (d n m a c imm : Int) (w : World) (hch : brazierref2_Check.f 40 3 d n m a c imm = some 0) :
    Calls Try.prog 8 #[.agg #[.int .i64 3, .int .i64 d, .int .i64 n, .int .i64 m, .int .i64 a, .int .i64 c, .int .i64 imm]] w fun e w' => e = .returned (.tuple #[.int .u32 (Go.bits .or .u32 (Go.bits .or .u32 (Go.bits .or .u32 (4068474880) (m % 4294967296 * 2097152 % 4294967296)) (imm % 4294967296 * 32 % 4294967296)) (d % 4294967296)), .int .i64 0]) ∧ Below w.heap.size w w' := by
  have HC := Lib.hid hch
  have HB := Lib.hid (show brazierref3_Base.f 3 = some 4068474880 by kernel_rfl)
  clear hch
  go_enter Try.func8, Try.ntmps8
  go_wp2_with fail
  refine (brazierref2_Check.calls 40 3 d n m a c imm 0 _ HC.out).mono ?_
  rintro e w1 ⟨rfl, hb1⟩
  have B1 := Aside0.mk (Box.of_below hb1)
  have c0 := B1.out.1
  have HBW := Aside0.mk (((Below.refl w.heap.size w).alloc (Nat.le_refl _) _).trans (hb1.mono (by simp)))
  have hz : w.heap.size < w1.heap.size := by have := hb1.size; simp at this; omega
  clear hb1
  go_wp2_with fail
  refine (brazierref3_Base.calls 3 4068474880 _ HB.out).mono ?_
  rintro e w2 ⟨rfl, hb2⟩
  have B2 : Aside0 (Box w2 w.heap.size 3 d n m a c imm) := ⟨by
    have hc : ∀ j, w2.cell? ⟨w.heap.size, j, none⟩ = w1.cell? ⟨w.heap.size, j, none⟩ := fun j => (hb2.cell (p := ⟨w.heap.size, j, none⟩) (by simp; omega)).trans (by first | rfl | simp)
    exact ⟨(hc 0).trans B1.out.1, (hc 1).trans B1.out.2.1, (hc 2).trans B1.out.2.2.1, (hc 3).trans B1.out.2.2.2.1, (hc 4).trans B1.out.2.2.2.2.1, (hc 5).trans B1.out.2.2.2.2.2.1, (hc 6).trans B1.out.2.2.2.2.2.2⟩⟩
  have HBW2 : Aside0 (Below w.heap.size w w2) := ⟨by first | exact HBW.out.trans (hb2.mono (by first | omega | (simp; omega))) | exact (pw_below_drewN HBW.out _).trans (hb2.mono (by first | omega | (simp; omega))) | exact (below_drew1 HBW.out).trans (hb2.mono (by first | omega | (simp; omega)))⟩
  clear HBW hz c0 B1 hb2
  have c0 := B2.out.1
  have c1 := B2.out.2.1
  have c2 := B2.out.2.2.1
  have c3 := B2.out.2.2.2.1
  have c4 := B2.out.2.2.2.2.1
  have c5 := B2.out.2.2.2.2.2.1
  have c6 := B2.out.2.2.2.2.2.2
  go_wp2
  go_ret2
  exact ⟨by first | rfl | simp, by repeat (first | exact HBW2.out | apply pw_below_drewN | apply below_alloc | apply below_drew1)⟩
set_option maxHeartbeats 2000000 in
set_option maxRecDepth 100000 in
theorem ref_4 (d n m a c imm : Int) (w : World) (hch : brazierref2_Check.f 40 4 d n m a c imm = some 0) :
    Calls Try.prog 8 #[.agg #[.int .i64 4, .int .i64 d, .int .i64 n, .int .i64 m, .int .i64 a, .int .i64 c, .int .i64 imm]] w fun e w' => e = .returned (.tuple #[.int .u32 (Go.bits .or .u32 (Go.bits .or .u32 (Go.bits .or .u32 (2432696320) (imm % 4294967296 * 1024 % 4294967296)) (n % 4294967296 * 32 % 4294967296)) (d % 4294967296)), .int .i64 0]) ∧ Below w.heap.size w w' := by
  have HC := Lib.hid hch
  have HB := Lib.hid (show brazierref3_Base.f 4 = some 2432696320 by kernel_rfl)
  clear hch
  go_enter Try.func8, Try.ntmps8
  go_wp2_with fail
  refine (brazierref2_Check.calls 40 4 d n m a c imm 0 _ HC.out).mono ?_
  rintro e w1 ⟨rfl, hb1⟩
  have B1 := Aside0.mk (Box.of_below hb1)
  have c0 := B1.out.1
  have HBW := Aside0.mk (((Below.refl w.heap.size w).alloc (Nat.le_refl _) _).trans (hb1.mono (by simp)))
  have hz : w.heap.size < w1.heap.size := by have := hb1.size; simp at this; omega
  clear hb1
  go_wp2_with fail
  refine (brazierref3_Base.calls 4 2432696320 _ HB.out).mono ?_
  rintro e w2 ⟨rfl, hb2⟩
  have B2 : Aside0 (Box w2 w.heap.size 4 d n m a c imm) := ⟨by
    have hc : ∀ j, w2.cell? ⟨w.heap.size, j, none⟩ = w1.cell? ⟨w.heap.size, j, none⟩ := fun j => (hb2.cell (p := ⟨w.heap.size, j, none⟩) (by simp; omega)).trans (by first | rfl | simp)
    exact ⟨(hc 0).trans B1.out.1, (hc 1).trans B1.out.2.1, (hc 2).trans B1.out.2.2.1, (hc 3).trans B1.out.2.2.2.1, (hc 4).trans B1.out.2.2.2.2.1, (hc 5).trans B1.out.2.2.2.2.2.1, (hc 6).trans B1.out.2.2.2.2.2.2⟩⟩
  have HBW2 : Aside0 (Below w.heap.size w w2) := ⟨by first | exact HBW.out.trans (hb2.mono (by first | omega | (simp; omega))) | exact (pw_below_drewN HBW.out _).trans (hb2.mono (by first | omega | (simp; omega))) | exact (below_drew1 HBW.out).trans (hb2.mono (by first | omega | (simp; omega)))⟩
  clear HBW hz c0 B1 hb2
  have c0 := B2.out.1
  have c1 := B2.out.2.1
  have c2 := B2.out.2.2.1
  have c3 := B2.out.2.2.2.1
  have c4 := B2.out.2.2.2.2.1
  have c5 := B2.out.2.2.2.2.2.1
  have c6 := B2.out.2.2.2.2.2.2
  go_wp2
  go_ret2
  exact ⟨by first | rfl | simp, by repeat (first | exact HBW2.out | apply pw_below_drewN | apply below_alloc | apply below_drew1)⟩
set_option maxHeartbeats 2000000 in
set_option maxRecDepth 100000 in
theorem ref_5 (d n m a c imm : Int) (w : World) (hch : brazierref2_Check.f 40 5 d n m a c imm = some 0) :
    Calls Try.prog 8 #[.agg #[.int .i64 5, .int .i64 d, .int .i64 n, .int .i64 m, .int .i64 a, .int .i64 c, .int .i64 imm]] w fun e w' => e = .returned (.tuple #[.int .u32 (Go.bits .or .u32 (Go.bits .or .u32 (Go.bits .or .u32 (3506438144) (imm % 4294967296 * 1024 % 4294967296)) (n % 4294967296 * 32 % 4294967296)) (d % 4294967296)), .int .i64 0]) ∧ Below w.heap.size w w' := by
  have HC := Lib.hid hch
  have HB := Lib.hid (show brazierref3_Base.f 5 = some 3506438144 by kernel_rfl)
  clear hch
  go_enter Try.func8, Try.ntmps8
  go_wp2_with fail
  refine (brazierref2_Check.calls 40 5 d n m a c imm 0 _ HC.out).mono ?_
  rintro e w1 ⟨rfl, hb1⟩
  have B1 := Aside0.mk (Box.of_below hb1)
  have c0 := B1.out.1
  have HBW := Aside0.mk (((Below.refl w.heap.size w).alloc (Nat.le_refl _) _).trans (hb1.mono (by simp)))
  have hz : w.heap.size < w1.heap.size := by have := hb1.size; simp at this; omega
  clear hb1
  go_wp2_with fail
  refine (brazierref3_Base.calls 5 3506438144 _ HB.out).mono ?_
  rintro e w2 ⟨rfl, hb2⟩
  have B2 : Aside0 (Box w2 w.heap.size 5 d n m a c imm) := ⟨by
    have hc : ∀ j, w2.cell? ⟨w.heap.size, j, none⟩ = w1.cell? ⟨w.heap.size, j, none⟩ := fun j => (hb2.cell (p := ⟨w.heap.size, j, none⟩) (by simp; omega)).trans (by first | rfl | simp)
    exact ⟨(hc 0).trans B1.out.1, (hc 1).trans B1.out.2.1, (hc 2).trans B1.out.2.2.1, (hc 3).trans B1.out.2.2.2.1, (hc 4).trans B1.out.2.2.2.2.1, (hc 5).trans B1.out.2.2.2.2.2.1, (hc 6).trans B1.out.2.2.2.2.2.2⟩⟩
  have HBW2 : Aside0 (Below w.heap.size w w2) := ⟨by first | exact HBW.out.trans (hb2.mono (by first | omega | (simp; omega))) | exact (pw_below_drewN HBW.out _).trans (hb2.mono (by first | omega | (simp; omega))) | exact (below_drew1 HBW.out).trans (hb2.mono (by first | omega | (simp; omega)))⟩
  clear HBW hz c0 B1 hb2
  have c0 := B2.out.1
  have c1 := B2.out.2.1
  have c2 := B2.out.2.2.1
  have c3 := B2.out.2.2.2.1
  have c4 := B2.out.2.2.2.2.1
  have c5 := B2.out.2.2.2.2.2.1
  have c6 := B2.out.2.2.2.2.2.2
  go_wp2
  go_ret2
  exact ⟨by first | rfl | simp, by repeat (first | exact HBW2.out | apply pw_below_drewN | apply below_alloc | apply below_drew1)⟩
set_option maxHeartbeats 2000000 in
set_option maxRecDepth 100000 in
theorem ref_6 (d n m a c imm : Int) (w : World) (hch : brazierref2_Check.f 40 6 d n m a c imm = some 0) :
    Calls Try.prog 8 #[.agg #[.int .i64 6, .int .i64 d, .int .i64 n, .int .i64 m, .int .i64 a, .int .i64 c, .int .i64 imm]] w fun e w' => e = .returned (.tuple #[.int .u32 (Go.bits .or .u32 (Go.bits .or .u32 (Go.bits .or .u32 (4043309056) (imm % 4294967296 * 1024 % 4294967296)) (n % 4294967296 * 32 % 4294967296)) (d % 4294967296)), .int .i64 0]) ∧ Below w.heap.size w w' := by
  have HC := Lib.hid hch
  have HB := Lib.hid (show brazierref3_Base.f 6 = some 4043309056 by kernel_rfl)
  clear hch
  go_enter Try.func8, Try.ntmps8
  go_wp2_with fail
  refine (brazierref2_Check.calls 40 6 d n m a c imm 0 _ HC.out).mono ?_
  rintro e w1 ⟨rfl, hb1⟩
  have B1 := Aside0.mk (Box.of_below hb1)
  have c0 := B1.out.1
  have HBW := Aside0.mk (((Below.refl w.heap.size w).alloc (Nat.le_refl _) _).trans (hb1.mono (by simp)))
  have hz : w.heap.size < w1.heap.size := by have := hb1.size; simp at this; omega
  clear hb1
  go_wp2_with fail
  refine (brazierref3_Base.calls 6 4043309056 _ HB.out).mono ?_
  rintro e w2 ⟨rfl, hb2⟩
  have B2 : Aside0 (Box w2 w.heap.size 6 d n m a c imm) := ⟨by
    have hc : ∀ j, w2.cell? ⟨w.heap.size, j, none⟩ = w1.cell? ⟨w.heap.size, j, none⟩ := fun j => (hb2.cell (p := ⟨w.heap.size, j, none⟩) (by simp; omega)).trans (by first | rfl | simp)
    exact ⟨(hc 0).trans B1.out.1, (hc 1).trans B1.out.2.1, (hc 2).trans B1.out.2.2.1, (hc 3).trans B1.out.2.2.2.1, (hc 4).trans B1.out.2.2.2.2.1, (hc 5).trans B1.out.2.2.2.2.2.1, (hc 6).trans B1.out.2.2.2.2.2.2⟩⟩
  have HBW2 : Aside0 (Below w.heap.size w w2) := ⟨by first | exact HBW.out.trans (hb2.mono (by first | omega | (simp; omega))) | exact (pw_below_drewN HBW.out _).trans (hb2.mono (by first | omega | (simp; omega))) | exact (below_drew1 HBW.out).trans (hb2.mono (by first | omega | (simp; omega)))⟩
  clear HBW hz c0 B1 hb2
  have c0 := B2.out.1
  have c1 := B2.out.2.1
  have c2 := B2.out.2.2.1
  have c3 := B2.out.2.2.2.1
  have c4 := B2.out.2.2.2.2.1
  have c5 := B2.out.2.2.2.2.2.1
  have c6 := B2.out.2.2.2.2.2.2
  go_wp2
  go_ret2
  exact ⟨by first | rfl | simp, by repeat (first | exact HBW2.out | apply pw_below_drewN | apply below_alloc | apply below_drew1)⟩
set_option maxHeartbeats 2000000 in
set_option maxRecDepth 100000 in
theorem ref_7 (d n m a c imm : Int) (w : World) (hch : brazierref2_Check.f 40 7 d n m a c imm = some 0) :
    Calls Try.prog 8 #[.agg #[.int .i64 7, .int .i64 d, .int .i64 n, .int .i64 m, .int .i64 a, .int .i64 c, .int .i64 imm]] w fun e w' => e = .returned (.tuple #[.int .u32 (Go.bits .or .u32 (Go.bits .or .u32 (Go.bits .or .u32 (2332033024) (m % 4294967296 * 65536 % 4294967296)) (n % 4294967296 * 32 % 4294967296)) (d % 4294967296)), .int .i64 0]) ∧ Below w.heap.size w w' := by
  have HC := Lib.hid hch
  have HB := Lib.hid (show brazierref3_Base.f 7 = some 2332033024 by kernel_rfl)
  clear hch
  go_enter Try.func8, Try.ntmps8
  go_wp2_with fail
  refine (brazierref2_Check.calls 40 7 d n m a c imm 0 _ HC.out).mono ?_
  rintro e w1 ⟨rfl, hb1⟩
  have B1 := Aside0.mk (Box.of_below hb1)
  have c0 := B1.out.1
  have HBW := Aside0.mk (((Below.refl w.heap.size w).alloc (Nat.le_refl _) _).trans (hb1.mono (by simp)))
  have hz : w.heap.size < w1.heap.size := by have := hb1.size; simp at this; omega
  clear hb1
  go_wp2_with fail
  refine (brazierref3_Base.calls 7 2332033024 _ HB.out).mono ?_
  rintro e w2 ⟨rfl, hb2⟩
  have B2 : Aside0 (Box w2 w.heap.size 7 d n m a c imm) := ⟨by
    have hc : ∀ j, w2.cell? ⟨w.heap.size, j, none⟩ = w1.cell? ⟨w.heap.size, j, none⟩ := fun j => (hb2.cell (p := ⟨w.heap.size, j, none⟩) (by simp; omega)).trans (by first | rfl | simp)
    exact ⟨(hc 0).trans B1.out.1, (hc 1).trans B1.out.2.1, (hc 2).trans B1.out.2.2.1, (hc 3).trans B1.out.2.2.2.1, (hc 4).trans B1.out.2.2.2.2.1, (hc 5).trans B1.out.2.2.2.2.2.1, (hc 6).trans B1.out.2.2.2.2.2.2⟩⟩
  have HBW2 : Aside0 (Below w.heap.size w w2) := ⟨by first | exact HBW.out.trans (hb2.mono (by first | omega | (simp; omega))) | exact (pw_below_drewN HBW.out _).trans (hb2.mono (by first | omega | (simp; omega))) | exact (below_drew1 HBW.out).trans (hb2.mono (by first | omega | (simp; omega)))⟩
  clear HBW hz c0 B1 hb2
  have c0 := B2.out.1
  have c1 := B2.out.2.1
  have c2 := B2.out.2.2.1
  have c3 := B2.out.2.2.2.1
  have c4 := B2.out.2.2.2.2.1
  have c5 := B2.out.2.2.2.2.2.1
  have c6 := B2.out.2.2.2.2.2.2
  go_wp2
  go_ret2
  exact ⟨by first | rfl | simp, by repeat (first | exact HBW2.out | apply pw_below_drewN | apply below_alloc | apply below_drew1)⟩
set_option maxHeartbeats 2000000 in
set_option maxRecDepth 100000 in
theorem ref_8 (d n m a c imm : Int) (w : World) (hch : brazierref2_Check.f 40 8 d n m a c imm = some 0) :
    Calls Try.prog 8 #[.agg #[.int .i64 8, .int .i64 d, .int .i64 n, .int .i64 m, .int .i64 a, .int .i64 c, .int .i64 imm]] w fun e w' => e = .returned (.tuple #[.int .u32 (Go.bits .or .u32 (Go.bits .or .u32 (Go.bits .or .u32 (3405774848) (m % 4294967296 * 65536 % 4294967296)) (n % 4294967296 * 32 % 4294967296)) (d % 4294967296)), .int .i64 0]) ∧ Below w.heap.size w w' := by
  have HC := Lib.hid hch
  have HB := Lib.hid (show brazierref3_Base.f 8 = some 3405774848 by kernel_rfl)
  clear hch
  go_enter Try.func8, Try.ntmps8
  go_wp2_with fail
  refine (brazierref2_Check.calls 40 8 d n m a c imm 0 _ HC.out).mono ?_
  rintro e w1 ⟨rfl, hb1⟩
  have B1 := Aside0.mk (Box.of_below hb1)
  have c0 := B1.out.1
  have HBW := Aside0.mk (((Below.refl w.heap.size w).alloc (Nat.le_refl _) _).trans (hb1.mono (by simp)))
  have hz : w.heap.size < w1.heap.size := by have := hb1.size; simp at this; omega
  clear hb1
  go_wp2_with fail
  refine (brazierref3_Base.calls 8 3405774848 _ HB.out).mono ?_
  rintro e w2 ⟨rfl, hb2⟩
  have B2 : Aside0 (Box w2 w.heap.size 8 d n m a c imm) := ⟨by
    have hc : ∀ j, w2.cell? ⟨w.heap.size, j, none⟩ = w1.cell? ⟨w.heap.size, j, none⟩ := fun j => (hb2.cell (p := ⟨w.heap.size, j, none⟩) (by simp; omega)).trans (by first | rfl | simp)
    exact ⟨(hc 0).trans B1.out.1, (hc 1).trans B1.out.2.1, (hc 2).trans B1.out.2.2.1, (hc 3).trans B1.out.2.2.2.1, (hc 4).trans B1.out.2.2.2.2.1, (hc 5).trans B1.out.2.2.2.2.2.1, (hc 6).trans B1.out.2.2.2.2.2.2⟩⟩
  have HBW2 : Aside0 (Below w.heap.size w w2) := ⟨by first | exact HBW.out.trans (hb2.mono (by first | omega | (simp; omega))) | exact (pw_below_drewN HBW.out _).trans (hb2.mono (by first | omega | (simp; omega))) | exact (below_drew1 HBW.out).trans (hb2.mono (by first | omega | (simp; omega)))⟩
  clear HBW hz c0 B1 hb2
  have c0 := B2.out.1
  have c1 := B2.out.2.1
  have c2 := B2.out.2.2.1
  have c3 := B2.out.2.2.2.1
  have c4 := B2.out.2.2.2.2.1
  have c5 := B2.out.2.2.2.2.2.1
  have c6 := B2.out.2.2.2.2.2.2
  go_wp2
  go_ret2
  exact ⟨by first | rfl | simp, by repeat (first | exact HBW2.out | apply pw_below_drewN | apply below_alloc | apply below_drew1)⟩
set_option maxHeartbeats 2000000 in
set_option maxRecDepth 100000 in
theorem ref_9 (d n m a c imm : Int) (w : World) (hch : brazierref2_Check.f 40 9 d n m a c imm = some 0) :
    Calls Try.prog 8 #[.agg #[.int .i64 9, .int .i64 d, .int .i64 n, .int .i64 m, .int .i64 a, .int .i64 c, .int .i64 imm]] w fun e w' => e = .returned (.tuple #[.int .u32 (Go.bits .or .u32 (Go.bits .or .u32 (Go.bits .or .u32 (3942645760) (m % 4294967296 * 65536 % 4294967296)) (n % 4294967296 * 32 % 4294967296)) (d % 4294967296)), .int .i64 0]) ∧ Below w.heap.size w w' := by
  have HC := Lib.hid hch
  have HB := Lib.hid (show brazierref3_Base.f 9 = some 3942645760 by kernel_rfl)
  clear hch
  go_enter Try.func8, Try.ntmps8
  go_wp2_with fail
  refine (brazierref2_Check.calls 40 9 d n m a c imm 0 _ HC.out).mono ?_
  rintro e w1 ⟨rfl, hb1⟩
  have B1 := Aside0.mk (Box.of_below hb1)
  have c0 := B1.out.1
  have HBW := Aside0.mk (((Below.refl w.heap.size w).alloc (Nat.le_refl _) _).trans (hb1.mono (by simp)))
  have hz : w.heap.size < w1.heap.size := by have := hb1.size; simp at this; omega
  clear hb1
  go_wp2_with fail
  refine (brazierref3_Base.calls 9 3942645760 _ HB.out).mono ?_
  rintro e w2 ⟨rfl, hb2⟩
  have B2 : Aside0 (Box w2 w.heap.size 9 d n m a c imm) := ⟨by
    have hc : ∀ j, w2.cell? ⟨w.heap.size, j, none⟩ = w1.cell? ⟨w.heap.size, j, none⟩ := fun j => (hb2.cell (p := ⟨w.heap.size, j, none⟩) (by simp; omega)).trans (by first | rfl | simp)
    exact ⟨(hc 0).trans B1.out.1, (hc 1).trans B1.out.2.1, (hc 2).trans B1.out.2.2.1, (hc 3).trans B1.out.2.2.2.1, (hc 4).trans B1.out.2.2.2.2.1, (hc 5).trans B1.out.2.2.2.2.2.1, (hc 6).trans B1.out.2.2.2.2.2.2⟩⟩
  have HBW2 : Aside0 (Below w.heap.size w w2) := ⟨by first | exact HBW.out.trans (hb2.mono (by first | omega | (simp; omega))) | exact (pw_below_drewN HBW.out _).trans (hb2.mono (by first | omega | (simp; omega))) | exact (below_drew1 HBW.out).trans (hb2.mono (by first | omega | (simp; omega)))⟩
  clear HBW hz c0 B1 hb2
  have c0 := B2.out.1
  have c1 := B2.out.2.1
  have c2 := B2.out.2.2.1
  have c3 := B2.out.2.2.2.1
  have c4 := B2.out.2.2.2.2.1
  have c5 := B2.out.2.2.2.2.2.1
  have c6 := B2.out.2.2.2.2.2.2
  go_wp2
  go_ret2
  exact ⟨by first | rfl | simp, by repeat (first | exact HBW2.out | apply pw_below_drewN | apply below_alloc | apply below_drew1)⟩
set_option maxHeartbeats 2000000 in
set_option maxRecDepth 100000 in
theorem ref_10 (d n m a c imm : Int) (w : World) (hch : brazierref2_Check.f 40 10 d n m a c imm = some 0) :
    Calls Try.prog 8 #[.agg #[.int .i64 10, .int .i64 d, .int .i64 n, .int .i64 m, .int .i64 a, .int .i64 c, .int .i64 imm]] w fun e w' => e = .returned (.tuple #[.int .u32 (Go.bits .or .u32 (Go.bits .or .u32 (Go.bits .or .u32 (2315255808) (m % 4294967296 * 65536 % 4294967296)) (n % 4294967296 * 32 % 4294967296)) (d % 4294967296)), .int .i64 0]) ∧ Below w.heap.size w w' := by
  have HC := Lib.hid hch
  have HB := Lib.hid (show brazierref3_Base.f 10 = some 2315255808 by kernel_rfl)
  clear hch
  go_enter Try.func8, Try.ntmps8
  go_wp2_with fail
  refine (brazierref2_Check.calls 40 10 d n m a c imm 0 _ HC.out).mono ?_
  rintro e w1 ⟨rfl, hb1⟩
  have B1 := Aside0.mk (Box.of_below hb1)
  have c0 := B1.out.1
  have HBW := Aside0.mk (((Below.refl w.heap.size w).alloc (Nat.le_refl _) _).trans (hb1.mono (by simp)))
  have hz : w.heap.size < w1.heap.size := by have := hb1.size; simp at this; omega
  clear hb1
  go_wp2_with fail
  refine (brazierref3_Base.calls 10 2315255808 _ HB.out).mono ?_
  rintro e w2 ⟨rfl, hb2⟩
  have B2 : Aside0 (Box w2 w.heap.size 10 d n m a c imm) := ⟨by
    have hc : ∀ j, w2.cell? ⟨w.heap.size, j, none⟩ = w1.cell? ⟨w.heap.size, j, none⟩ := fun j => (hb2.cell (p := ⟨w.heap.size, j, none⟩) (by simp; omega)).trans (by first | rfl | simp)
    exact ⟨(hc 0).trans B1.out.1, (hc 1).trans B1.out.2.1, (hc 2).trans B1.out.2.2.1, (hc 3).trans B1.out.2.2.2.1, (hc 4).trans B1.out.2.2.2.2.1, (hc 5).trans B1.out.2.2.2.2.2.1, (hc 6).trans B1.out.2.2.2.2.2.2⟩⟩
  have HBW2 : Aside0 (Below w.heap.size w w2) := ⟨by first | exact HBW.out.trans (hb2.mono (by first | omega | (simp; omega))) | exact (pw_below_drewN HBW.out _).trans (hb2.mono (by first | omega | (simp; omega))) | exact (below_drew1 HBW.out).trans (hb2.mono (by first | omega | (simp; omega)))⟩
  clear HBW hz c0 B1 hb2
  have c0 := B2.out.1
  have c1 := B2.out.2.1
  have c2 := B2.out.2.2.1
  have c3 := B2.out.2.2.2.1
  have c4 := B2.out.2.2.2.2.1
  have c5 := B2.out.2.2.2.2.2.1
  have c6 := B2.out.2.2.2.2.2.2
  go_wp2
  go_ret2
  exact ⟨by first | rfl | simp, by repeat (first | exact HBW2.out | apply pw_below_drewN | apply below_alloc | apply below_drew1)⟩
end Go.Proofs.Ytbjikmepfpkmjaa.X
