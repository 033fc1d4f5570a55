/- brazierref3.Word, instruction by instruction (part 2). Written by genref.py. -/
import Derived.Test.YtbjikmepfpkmjaazEncWordsXWord
import Derived.Test.YtbjikmepfpkmjaazEncWordsQx8
import Derived.Test.YtbjikmepfpkmjaazEncWordsQx11
namespace Go.Proofs.Ytbjikmepfpkmjaa.X
set_option linter.unusedVariables false
set_option linter.unusedSimpArgs false
open Go.RowKit Go.Proofs.YtbjikmepfpkmjaaW.PrintWords Go.Proofs.YtbjikmepfpkmjaaW.PrintLast Go.Proofs.YtbjikmepfpkmjaaW.PrintMore Go.Proofs.Ytbjikmepfpkmjaa.Q
set_option maxHeartbeats 2000000 in
set_option maxRecDepth 100000 in
theorem ref_11 (d n m a c imm : Int) (w : World) (hch : brazierref2_Check.f 40 11 d n m a c imm = some 0) :
    Calls Try.prog 8 #[.agg #[.int .i64 11, .int .i64 d, .int .i64 n, .int .i64 m, .int .i64 a, .int .i64 c, .int .i64 imm]] w fun e w' => e = .returned (.tuple #[.int .u32 (Go.bits .or .u32 (Go.bits .or .u32 (Go.bits .or .u32 (2852126720) (m % 4294967296 * 65536 % 4294967296)) (n % 4294967296 * 32 % 4294967296)) (d % 4294967296)), .int .i64 0]) ∧ Below w.heap.size w w' := by
  have HC := Lib.hid hch
  have HB := Lib.hid (show brazierref3_Base.f 11 = some 2852126720 by kernel_rfl)
  clear hch
  go_enter Try.func8, Try.ntmps8
  go_wp2_with fail
  refine (brazierref2_Check.calls 40 11 d n m a c imm 0 _ HC.out).mono ?_
  rintro e w1 ⟨rfl, hb1⟩
  have B1 := Aside0.mk (Box.of_below hb1)
  have c0 := B1.out.1
  have HBW := Aside0.mk (((Below.refl w.heap.size w).alloc (Nat.le_refl _) _).trans (hb1.mono (by simp)))
  have hz : w.heap.size < w1.heap.size := by have := hb1.size; simp at this; omega
  clear hb1
  go_wp2_with fail
  refine (brazierref3_Base.calls 11 2852126720 _ HB.out).mono ?_
  rintro e w2 ⟨rfl, hb2⟩
  have B2 : Aside0 (Box w2 w.heap.size 11 d n m a c imm) := ⟨by
    have hc : ∀ j, w2.cell? ⟨w.heap.size, j, none⟩ = w1.cell? ⟨w.heap.size, j, none⟩ := fun j => (hb2.cell (p := ⟨w.heap.size, j, none⟩) (by simp; omega)).trans (by first | rfl | simp)
    exact ⟨(hc 0).trans B1.out.1, (hc 1).trans B1.out.2.1, (hc 2).trans B1.out.2.2.1, (hc 3).trans B1.out.2.2.2.1, (hc 4).trans B1.out.2.2.2.2.1, (hc 5).trans B1.out.2.2.2.2.2.1, (hc 6).trans B1.out.2.2.2.2.2.2⟩⟩
  have HBW2 : Aside0 (Below w.heap.size w w2) := ⟨by first | exact HBW.out.trans (hb2.mono (by first | omega | (simp; omega))) | exact (pw_below_drewN HBW.out _).trans (hb2.mono (by first | omega | (simp; omega))) | exact (below_drew1 HBW.out).trans (hb2.mono (by first | omega | (simp; omega)))⟩
  clear HBW hz c0 B1 hb2
  have c0 := B2.out.1
  have c1 := B2.out.2.1
  have c2 := B2.out.2.2.1
  have c3 := B2.out.2.2.2.1
  have c4 := B2.out.2.2.2.2.1
  have c5 := B2.out.2.2.2.2.2.1
  have c6 := B2.out.2.2.2.2.2.2
  go_wp2
  go_ret2
  exact ⟨by first | rfl | simp, by repeat (first | exact HBW2.out | apply pw_below_drewN | apply below_alloc | apply below_drew1)⟩
set_option maxHeartbeats 2000000 in
set_option maxRecDepth 100000 in
theorem ref_12 (d n m a c imm : Int) (w : World) (hch : brazierref2_Check.f 40 12 d n m a c imm = some 0) :
    Calls Try.prog 8 #[.agg #[.int .i64 12, .int .i64 d, .int .i64 n, .int .i64 m, .int .i64 a, .int .i64 c, .int .i64 imm]] w fun e w' => e = .returned (.tuple #[.int .u32 (Go.bits .or .u32 (Go.bits .or .u32 (Go.bits .or .u32 (3388997632) (m % 4294967296 * 65536 % 4294967296)) (n % 4294967296 * 32 % 4294967296)) (d % 4294967296)), .int .i64 0]) ∧ Below w.heap.size w w' := by
  have HC := Lib.hid hch
  have HB := Lib.hid (show brazierref3_Base.f 12 = some 3388997632 by kernel_rfl)
  clear hch
  go_enter Try.func8, Try.ntmps8
  go_wp2_with fail
  refine (brazierref2_Check.calls 40 12 d n m a c imm 0 _ HC.out).mono ?_
  rintro e w1 ⟨rfl, hb1⟩
  have B1 := Aside0.mk (Box.of_below hb1)
  have c0 := B1.out.1
  have HBW := Aside0.mk (((Below.refl w.heap.size w).alloc (Nat.le_refl _) _).trans (hb1.mono (by simp)))
  have hz : w.heap.size < w1.heap.size := by have := hb1.size; simp at this; omega
  clear hb1
  go_wp2_with fail
  refine (brazierref3_Base.calls 12 3388997632 _ HB.out).mono ?_
  rintro e w2 ⟨rfl, hb2⟩
  have B2 : Aside0 (Box w2 w.heap.size 12 d n m a c imm) := ⟨by
    have hc : ∀ j, w2.cell? ⟨w.heap.size, j, none⟩ = w1.cell? ⟨w.heap.size, j, none⟩ := fun j => (hb2.cell (p := ⟨w.heap.size, j, none⟩) (by simp; omega)).trans (by first | rfl | simp)
    exact ⟨(hc 0).trans B1.out.1, (hc 1).trans B1.out.2.1, (hc 2).trans B1.out.2.2.1, (hc 3).trans B1.out.2.2.2.1, (hc 4).trans B1.out.2.2.2.2.1, (hc 5).trans B1.out.2.2.2.2.2.1, (hc 6).trans B1.out.2.2.2.2.2.2⟩⟩
  have HBW2 : Aside0 (Below w.heap.size w w2) := ⟨by first | exact HBW.out.trans (hb2.mono (by first | omega | (simp; omega))) | exact (pw_below_drewN HBW.out _).trans (hb2.mono (by first | omega | (simp; omega))) | exact (below_drew1 HBW.out).trans (hb2.mono (by first | omega | (simp; omega)))⟩
  clear HBW hz c0 B1 hb2
  have c0 := B2.out.1
  have c1 := B2.out.2.1
  have c2 := B2.out.2.2.1
  have c3 := B2.out.2.2.2.1
  have c4 := B2.out.2.2.2.2.1
  have c5 := B2.out.2.2.2.2.2.1
  have c6 := B2.out.2.2.2.2.2.2
  go_wp2
  go_ret2
  exact ⟨by first | rfl | simp, by repeat (first | exact HBW2.out | apply pw_below_drewN | apply below_alloc | apply below_drew1)⟩
set_option maxHeartbeats 2000000 in
set_option maxRecDepth 100000 in
theorem ref_13 (d n m a c imm : Int) (w : World) (hch : brazierref2_Check.f 40 13 d n m a c imm = some 0) :
    Calls Try.prog 8 #[.agg #[.int .i64 13, .int .i64 d, .int .i64 n, .int .i64 m, .int .i64 a, .int .i64 c, .int .i64 imm]] w fun e w' => e = .returned (.tuple #[.int .u32 (Go.bits .or .u32 (Go.bits .or .u32 (Go.bits .or .u32 (Go.bits .or .u32 (2600468480) (m % 4294967296 * 65536 % 4294967296)) (a % 4294967296 * 1024 % 4294967296)) (n % 4294967296 * 32 % 4294967296)) (d % 4294967296)), .int .i64 0]) ∧ Below w.heap.size w w' := by
  have HC := Lib.hid hch
  have HB := Lib.hid (show brazierref3_Base.f 13 = some 2600468480 by kernel_rfl)
  clear hch
  go_enter Try.func8, Try.ntmps8
  go_wp2_with fail
  refine (brazierref2_Check.calls 40 13 d n m a c imm 0 _ HC.out).mono ?_
  rintro e w1 ⟨rfl, hb1⟩
  have B1 := Aside0.mk (Box.of_below hb1)
  have c0 := B1.out.1
  have HBW := Aside0.mk (((Below.refl w.heap.size w).alloc (Nat.le_refl _) _).trans (hb1.mono (by simp)))
  have hz : w.heap.size < w1.heap.size := by have := hb1.size; simp at this; omega
  clear hb1
  go_wp2_with fail
  refine (brazierref3_Base.calls 13 2600468480 _ HB.out).mono ?_
  rintro e w2 ⟨rfl, hb2⟩
  have B2 : Aside0 (Box w2 w.heap.size 13 d n m a c imm) := ⟨by
    have hc : ∀ j, w2.cell? ⟨w.heap.size, j, none⟩ = w1.cell? ⟨w.heap.size, j, none⟩ := fun j => (hb2.cell (p := ⟨w.heap.size, j, none⟩) (by simp; omega)).trans (by first | rfl | simp)
    exact ⟨(hc 0).trans B1.out.1, (hc 1).trans B1.out.2.1, (hc 2).trans B1.out.2.2.1, (hc 3).trans B1.out.2.2.2.1, (hc 4).trans B1.out.2.2.2.2.1, (hc 5).trans B1.out.2.2.2.2.2.1, (hc 6).trans B1.out.2.2.2.2.2.2⟩⟩
  have HBW2 : Aside0 (Below w.heap.size w w2) := ⟨by first | exact HBW.out.trans (hb2.mono (by first | omega | (simp; omega))) | exact (pw_below_drewN HBW.out _).trans (hb2.mono (by first | omega | (simp; omega))) | exact (below_drew1 HBW.out).trans (hb2.mono (by first | omega | (simp; omega)))⟩
  clear HBW hz c0 B1 hb2
  have c0 := B2.out.1
  have c1 := B2.out.2.1
  have c2 := B2.out.2.2.1
  have c3 := B2.out.2.2.2.1
  have c4 := B2.out.2.2.2.2.1
  have c5 := B2.out.2.2.2.2.2.1
  have c6 := B2.out.2.2.2.2.2.2
  go_wp2
  go_ret2
  exact ⟨by first | rfl | simp, by repeat (first | exact HBW2.out | apply pw_below_drewN | apply below_alloc | apply below_drew1)⟩
set_option maxHeartbeats 2000000 in
set_option maxRecDepth 100000 in
theorem ref_14 (d n m a c imm : Int) (w : World) (hch : brazierref2_Check.f 40 14 d n m a c imm = some 0) :
    Calls Try.prog 8 #[.agg #[.int .i64 14, .int .i64 d, .int .i64 n, .int .i64 m, .int .i64 a, .int .i64 c, .int .i64 imm]] w fun e w' => e = .returned (.tuple #[.int .u32 (Go.bits .or .u32 (Go.bits .or .u32 (Go.bits .or .u32 (Go.bits .or .u32 (2600501248) (m % 4294967296 * 65536 % 4294967296)) (a % 4294967296 * 1024 % 4294967296)) (n % 4294967296 * 32 % 4294967296)) (d % 4294967296)), .int .i64 0]) ∧ Below w.heap.size w w' := by
  have HC := Lib.hid hch
  have HB := Lib.hid (show brazierref3_Base.f 14 = some 2600501248 by kernel_rfl)
  clear hch
  go_enter Try.func8, Try.ntmps8
  go_wp2_with fail
  refine (brazierref2_Check.calls 40 14 d n m a c imm 0 _ HC.out).mono ?_
  rintro e w1 ⟨rfl, hb1⟩
  have B1 := Aside0.mk (Box.of_below hb1)
  have c0 := B1.out.1
  have HBW := Aside0.mk (((Below.refl w.heap.size w).alloc (Nat.le_refl _) _).trans (hb1.mono (by simp)))
  have hz : w.heap.size < w1.heap.size := by have := hb1.size; simp at this; omega
  clear hb1
  go_wp2_with fail
  refine (brazierref3_Base.calls 14 2600501248 _ HB.out).mono ?_
  rintro e w2 ⟨rfl, hb2⟩
  have B2 : Aside0 (Box w2 w.heap.size 14 d n m a c imm) := ⟨by
    have hc : ∀ j, w2.cell? ⟨w.heap.size, j, none⟩ = w1.cell? ⟨w.heap.size, j, none⟩ := fun j => (hb2.cell (p := ⟨w.heap.size, j, none⟩) (by simp; omega)).trans (by first | rfl | simp)
    exact ⟨(hc 0).trans B1.out.1, (hc 1).trans B1.out.2.1, (hc 2).trans B1.out.2.2.1, (hc 3).trans B1.out.2.2.2.1, (hc 4).trans B1.out.2.2.2.2.1, (hc 5).trans B1.out.2.2.2.2.2.1, (hc 6).trans B1.out.2.2.2.2.2.2⟩⟩
  have HBW2 : Aside0 (Below w.heap.size w w2) := ⟨by first | exact HBW.out.trans (hb2.mono (by first | omega | (simp; omega))) | exact (pw_below_drewN HBW.out _).trans (hb2.mono (by first | omega | (simp; omega))) | exact (below_drew1 HBW.out).trans (hb2.mono (by first | omega | (simp; omega)))⟩
  clear HBW hz c0 B1 hb2
  have c0 := B2.out.1
  have c1 := B2.out.2.1
  have c2 := B2.out.2.2.1
  have c3 := B2.out.2.2.2.1
  have c4 := B2.out.2.2.2.2.1
  have c5 := B2.out.2.2.2.2.2.1
  have c6 := B2.out.2.2.2.2.2.2
  go_wp2
  go_ret2
  exact ⟨by first | rfl | simp, by repeat (first | exact HBW2.out | apply pw_below_drewN | apply below_alloc | apply below_drew1)⟩
set_option maxHeartbeats 2000000 in
set_option maxRecDepth 100000 in
theorem ref_15 (d n m a c imm : Int) (w : World) (hch : brazierref2_Check.f 40 15 d n m a c imm = some 0) :
    Calls Try.prog 8 #[.agg #[.int .i64 15, .int .i64 d, .int .i64 n, .int .i64 m, .int .i64 a, .int .i64 c, .int .i64 imm]] w fun e w' => e = .returned (.tuple #[.int .u32 (Go.bits .or .u32 (Go.bits .or .u32 (Go.bits .or .u32 (2596277248) (m % 4294967296 * 65536 % 4294967296)) (n % 4294967296 * 32 % 4294967296)) (d % 4294967296)), .int .i64 0]) ∧ Below w.heap.size w w' := by
  have HC := Lib.hid hch
  have HB := Lib.hid (show brazierref3_Base.f 15 = some 2596277248 by kernel_rfl)
  clear hch
  go_enter Try.func8, Try.ntmps8
  go_wp2_with fail
  refine (brazierref2_Check.calls 40 15 d n m a c imm 0 _ HC.out).mono ?_
  rintro e w1 ⟨rfl, hb1⟩
  have B1 := Aside0.mk (Box.of_below hb1)
  have c0 := B1.out.1
  have HBW := Aside0.mk (((Below.refl w.heap.size w).alloc (Nat.le_refl _) _).trans (hb1.mono (by simp)))
  have hz : w.heap.size < w1.heap.size := by have := hb1.size; simp at this; omega
  clear hb1
  go_wp2_with fail
  refine (brazierref3_Base.calls 15 2596277248 _ HB.out).mono ?_
  rintro e w2 ⟨rfl, hb2⟩
  have B2 : Aside0 (Box w2 w.heap.size 15 d n m a c imm) := ⟨by
    have hc : ∀ j, w2.cell? ⟨w.heap.size, j, none⟩ = w1.cell? ⟨w.heap.size, j, none⟩ := fun j => (hb2.cell (p := ⟨w.heap.size, j, none⟩) (by simp; omega)).trans (by first | rfl | simp)
    exact ⟨(hc 0).trans B1.out.1, (hc 1).trans B1.out.2.1, (hc 2).trans B1.out.2.2.1, (hc 3).trans B1.out.2.2.2.1, (hc 4).trans B1.out.2.2.2.2.1, (hc 5).trans B1.out.2.2.2.2.2.1, (hc 6).trans B1.out.2.2.2.2.2.2⟩⟩
  have HBW2 : Aside0 (Below w.heap.size w w2) := ⟨by first | exact HBW.out.trans (hb2.mono (by first | omega | (simp; omega))) | exact (pw_below_drewN HBW.out _).trans (hb2.mono (by first | omega | (simp; omega))) | exact (below_drew1 HBW.out).trans (hb2.mono (by first | omega | (simp; omega)))⟩
  clear HBW hz c0 B1 hb2
  have c0 := B2.out.1
  have c1 := B2.out.2.1
  have c2 := B2.out.2.2.1
  have c3 := B2.out.2.2.2.1
  have c4 := B2.out.2.2.2.2.1
  have c5 := B2.out.2.2.2.2.2.1
  have c6 := B2.out.2.2.2.2.2.2
  go_wp2
  go_ret2
  exact ⟨by first | rfl | simp, by repeat (first | exact HBW2.out | apply pw_below_drewN | apply below_alloc | apply below_drew1)⟩
set_option maxHeartbeats 2000000 in
set_option maxRecDepth 100000 in
theorem ref_16 (d n m a c imm : Int) (w : World) (hch : brazierref2_Check.f 40 16 d n m a c imm = some 0) :
    Calls Try.prog 8 #[.agg #[.int .i64 16, .int .i64 d, .int .i64 n, .int .i64 m, .int .i64 a, .int .i64 c, .int .i64 imm]] w fun e w' => e = .returned (.tuple #[.int .u32 (Go.bits .or .u32 (Go.bits .or .u32 (Go.bits .or .u32 (2596282368) (m % 4294967296 * 65536 % 4294967296)) (n % 4294967296 * 32 % 4294967296)) (d % 4294967296)), .int .i64 0]) ∧ Below w.heap.size w w' := by
  have HC := Lib.hid hch
  have HB := Lib.hid (show brazierref3_Base.f 16 = some 2596282368 by kernel_rfl)
  clear hch
  go_enter Try.func8, Try.ntmps8
  go_wp2_with fail
  refine (brazierref2_Check.calls 40 16 d n m a c imm 0 _ HC.out).mono ?_
  rintro e w1 ⟨rfl, hb1⟩
  have B1 := Aside0.mk (Box.of_below hb1)
  have c0 := B1.out.1
  have HBW := Aside0.mk (((Below.refl w.heap.size w).alloc (Nat.le_refl _) _).trans (hb1.mono (by simp)))
  have hz : w.heap.size < w1.heap.size := by have := hb1.size; simp at this; omega
  clear hb1
  go_wp2_with fail
  refine (brazierref3_Base.calls 16 2596282368 _ HB.out).mono ?_
  rintro e w2 ⟨rfl, hb2⟩
  have B2 : Aside0 (Box w2 w.heap.size 16 d n m a c imm) := ⟨by
    have hc : ∀ j, w2.cell? ⟨w.heap.size, j, none⟩ = w1.cell? ⟨w.heap.size, j, none⟩ := fun j => (hb2.cell (p := ⟨w.heap.size, j, none⟩) (by simp; omega)).trans (by first | rfl | simp)
    exact ⟨(hc 0).trans B1.out.1, (hc 1).trans B1.out.2.1, (hc 2).trans B1.out.2.2.1, (hc 3).trans B1.out.2.2.2.1, (hc 4).trans B1.out.2.2.2.2.1, (hc 5).trans B1.out.2.2.2.2.2.1, (hc 6).trans B1.out.2.2.2.2.2.2⟩⟩
  have HBW2 : Aside0 (Below w.heap.size w w2) := ⟨by first | exact HBW.out.trans (hb2.mono (by first | omega | (simp; omega))) | exact (pw_below_drewN HBW.out _).trans (hb2.mono (by first | omega | (simp; omega))) | exact (below_drew1 HBW.out).trans (hb2.mono (by first | omega | (simp; omega)))⟩
  clear HBW hz c0 B1 hb2
  have c0 := B2.out.1
  have c1 := B2.out.2.1
  have c2 := B2.out.2.2.1
  have c3 := B2.out.2.2.2.1
  have c4 := B2.out.2.2.2.2.1
  have c5 := B2.out.2.2.2.2.2.1
  have c6 := B2.out.2.2.2.2.2.2
  go_wp2
  go_ret2
  exact ⟨by first | rfl | simp, by repeat (first | exact HBW2.out | apply pw_below_drewN | apply below_alloc | apply below_drew1)⟩
set_option maxHeartbeats 2000000 in
set_option maxRecDepth 100000 in
theorem ref_17 (d n m a c imm : Int) (w : World) (hch : brazierref2_Check.f 40 17 d n m a c imm = some 0) :
    Calls Try.prog 8 #[.agg #[.int .i64 17, .int .i64 d, .int .i64 n, .int .i64 m, .int .i64 a, .int .i64 c, .int .i64 imm]] w fun e w' => e = .returned (.tuple #[.int .u32 (Go.bits .or .u32 (Go.bits .or .u32 (Go.bits .or .u32 (2596283392) (m % 4294967296 * 65536 % 4294967296)) (n % 4294967296 * 32 % 4294967296)) (d % 4294967296)), .int .i64 0]) ∧ Below w.heap.size w w' := by
  have HC := Lib.hid hch
  have HB := Lib.hid (show brazierref3_Base.f 17 = some 2596283392 by kernel_rfl)
  clear hch
  go_enter Try.func8, Try.ntmps8
  go_wp2_with fail
  refine (brazierref2_Check.calls 40 17 d n m a c imm 0 _ HC.out).mono ?_
  rintro e w1 ⟨rfl, hb1⟩
  have B1 := Aside0.mk (Box.of_below hb1)
  have c0 := B1.out.1
  have HBW := Aside0.mk (((Below.refl w.heap.size w).alloc (Nat.le_refl _) _).trans (hb1.mono (by simp)))
  have hz : w.heap.size < w1.heap.size := by have := hb1.size; simp at this; omega
  clear hb1
  go_wp2_with fail
  refine (brazierref3_Base.calls 17 2596283392 _ HB.out).mono ?_
  rintro e w2 ⟨rfl, hb2⟩
  have B2 : Aside0 (Box w2 w.heap.size 17 d n m a c imm) := ⟨by
    have hc : ∀ j, w2.cell? ⟨w.heap.size, j, none⟩ = w1.cell? ⟨w.heap.size, j, none⟩ := fun j => (hb2.cell (p := ⟨w.heap.size, j, none⟩) (by simp; omega)).trans (by first | rfl | simp)
    exact ⟨(hc 0).trans B1.out.1, (hc 1).trans B1.out.2.1, (hc 2).trans B1.out.2.2.1, (hc 3).trans B1.out.2.2.2.1, (hc 4).trans B1.out.2.2.2.2.1, (hc 5).trans B1.out.2.2.2.2.2.1, (hc 6).trans B1.out.2.2.2.2.2.2⟩⟩
  have HBW2 : Aside0 (Below w.heap.size w w2) := ⟨by first | exact HBW.out.trans (hb2.mono (by first | omega | (simp; omega))) | exact (pw_below_drewN HBW.out _).trans (hb2.mono (by first | omega | (simp; omega))) | exact (below_drew1 HBW.out).trans (hb2.mono (by first | omega | (simp; omega)))⟩
  clear HBW hz c0 B1 hb2
  have c0 := B2.out.1
  have c1 := B2.out.2.1
  have c2 := B2.out.2.2.1
  have c3 := B2.out.2.2.2.1
  have c4 := B2.out.2.2.2.2.1
  have c5 := B2.out.2.2.2.2.2.1
  have c6 := B2.out.2.2.2.2.2.2
  go_wp2
  go_ret2
  exact ⟨by first | rfl | simp, by repeat (first | exact HBW2.out | apply pw_below_drewN | apply below_alloc | apply below_drew1)⟩
set_option maxHeartbeats 2000000 in
set_option maxRecDepth 100000 in
theorem ref_18 (d n m a c imm : Int) (w : World) (hch : brazierref2_Check.f 40 18 d n m a c imm = some 0) :
    Calls Try.prog 8 #[.agg #[.int .i64 18, .int .i64 d, .int .i64 n, .int .i64 m, .int .i64 a, .int .i64 c, .int .i64 imm]] w fun e w' => e = .returned (.tuple #[.int .u32 (Go.bits .or .u32 (Go.bits .or .u32 (Go.bits .or .u32 (2596284416) (m % 4294967296 * 65536 % 4294967296)) (n % 4294967296 * 32 % 4294967296)) (d % 4294967296)), .int .i64 0]) ∧ Below w.heap.size w w' := by
  have HC := Lib.hid hch
  have HB := Lib.hid (show brazierref3_Base.f 18 = some 2596284416 by kernel_rfl)
  clear hch
  go_enter Try.func8, Try.ntmps8
  go_wp2_with fail
  refine (brazierref2_Check.calls 40 18 d n m a c imm 0 _ HC.out).mono ?_
  rintro e w1 ⟨rfl, hb1⟩
  have B1 := Aside0.mk (Box.of_below hb1)
  have c0 := B1.out.1
  have HBW := Aside0.mk (((Below.refl w.heap.size w).alloc (Nat.le_refl _) _).trans (hb1.mono (by simp)))
  have hz : w.heap.size < w1.heap.size := by have := hb1.size; simp at this; omega
  clear hb1
  go_wp2_with fail
  refine (brazierref3_Base.calls 18 2596284416 _ HB.out).mono ?_
  rintro e w2 ⟨rfl, hb2⟩
  have B2 : Aside0 (Box w2 w.heap.size 18 d n m a c imm) := ⟨by
    have hc : ∀ j, w2.cell? ⟨w.heap.size, j, none⟩ = w1.cell? ⟨w.heap.size, j, none⟩ := fun j => (hb2.cell (p := ⟨w.heap.size, j, none⟩) (by simp; omega)).trans (by first | rfl | simp)
    exact ⟨(hc 0).trans B1.out.1, (hc 1).trans B1.out.2.1, (hc 2).trans B1.out.2.2.1, (hc 3).trans B1.out.2.2.2.1, (hc 4).trans B1.out.2.2.2.2.1, (hc 5).trans B1.out.2.2.2.2.2.1, (hc 6).trans B1.out.2.2.2.2.2.2⟩⟩
  have HBW2 : Aside0 (Below w.heap.size w w2) := ⟨by first | exact HBW.out.trans (hb2.mono (by first | omega | (simp; omega))) | exact (pw_below_drewN HBW.out _).trans (hb2.mono (by first | omega | (simp; omega))) | exact (below_drew1 HBW.out).trans (hb2.mono (by first | omega | (simp; omega)))⟩
  clear HBW hz c0 B1 hb2
  have c0 := B2.out.1
  have c1 := B2.out.2.1
  have c2 := B2.out.2.2.1
  have c3 := B2.out.2.2.2.1
  have c4 := B2.out.2.2.2.2.1
  have c5 := B2.out.2.2.2.2.2.1
  have c6 := B2.out.2.2.2.2.2.2
  go_wp2
  go_ret2
  exact ⟨by first | rfl | simp, by repeat (first | exact HBW2.out | apply pw_below_drewN | apply below_alloc | apply below_drew1)⟩
set_option maxHeartbeats 2000000 in
set_option maxRecDepth 100000 in
theorem ref_19 (d n m a c imm : Int) (w : World) (hch : brazierref2_Check.f 40 19 d n m a c imm = some 0) :
    Calls Try.prog 8 #[.agg #[.int .i64 19, .int .i64 d, .int .i64 n, .int .i64 m, .int .i64 a, .int .i64 c, .int .i64 imm]] w fun e w' => e = .returned (.tuple #[.int .u32 (Go.bits .or .u32 (Go.bits .or .u32 (Go.bits .or .u32 (Go.bits .or .u32 (2592080896) (m % 4294967296 * 65536 % 4294967296)) (c % 4294967296 * 4096 % 4294967296)) (n % 4294967296 * 32 % 4294967296)) (d % 4294967296)), .int .i64 0]) ∧ Below w.heap.size w w' := by
  have HC := Lib.hid hch
  have HB := Lib.hid (show brazierref3_Base.f 19 = some 2592080896 by kernel_rfl)
  clear hch
  go_enter Try.func8, Try.ntmps8
  go_wp2_with fail
  refine (brazierref2_Check.calls 40 19 d n m a c imm 0 _ HC.out).mono ?_
  rintro e w1 ⟨rfl, hb1⟩
  have B1 := Aside0.mk (Box.of_below hb1)
  have c0 := B1.out.1
  have HBW := Aside0.mk (((Below.refl w.heap.size w).alloc (Nat.le_refl _) _).trans (hb1.mono (by simp)))
  have hz : w.heap.size < w1.heap.size := by have := hb1.size; simp at this; omega
  clear hb1
  go_wp2_with fail
  refine (brazierref3_Base.calls 19 2592080896 _ HB.out).mono ?_
  rintro e w2 ⟨rfl, hb2⟩
  have B2 : Aside0 (Box w2 w.heap.size 19 d n m a c imm) := ⟨by
    have hc : ∀ j, w2.cell? ⟨w.heap.size, j, none⟩ = w1.cell? ⟨w.heap.size, j, none⟩ := fun j => (hb2.cell (p := ⟨w.heap.size, j, none⟩) (by simp; omega)).trans (by first | rfl | simp)
    exact ⟨(hc 0).trans B1.out.1, (hc 1).trans B1.out.2.1, (hc 2).trans B1.out.2.2.1, (hc 3).trans B1.out.2.2.2.1, (hc 4).trans B1.out.2.2.2.2.1, (hc 5).trans B1.out.2.2.2.2.2.1, (hc 6).trans B1.out.2.2.2.2.2.2⟩⟩
  have HBW2 : Aside0 (Below w.heap.size w w2) := ⟨by first | exact HBW.out.trans (hb2.mono (by first | omega | (simp; omega))) | exact (pw_below_drewN HBW.out _).trans (hb2.mono (by first | omega | (simp; omega))) | exact (below_drew1 HBW.out).trans (hb2.mono (by first | omega | (simp; omega)))⟩
  clear HBW hz c0 B1 hb2
  have c0 := B2.out.1
  have c1 := B2.out.2.1
  have c2 := B2.out.2.2.1
  have c3 := B2.out.2.2.2.1
  have c4 := B2.out.2.2.2.2.1
  have c5 := B2.out.2.2.2.2.2.1
  have c6 := B2.out.2.2.2.2.2.2
  go_wp2
  go_ret2
  exact ⟨by first | rfl | simp, by repeat (first | exact HBW2.out | apply pw_below_drewN | apply below_alloc | apply below_drew1)⟩
set_option maxHeartbeats 2000000 in
set_option maxRecDepth 100000 in
theorem ref_20 (d n m a c imm : Int) (w : World) (hch : brazierref2_Check.f 40 20 d n m a c imm = some 0) :
    Calls Try.prog 8 #[.agg #[.int .i64 20, .int .i64 d, .int .i64 n, .int .i64 m, .int .i64 a, .int .i64 c, .int .i64 imm]] w fun e w' => e = .returned (.tuple #[.int .u32 (Go.bits .or .u32 (335544320) ((Go.bits .and .u32 (wrap64 (Int.tdiv imm 4) % 4294967296) 67108863))), .int .i64 0]) ∧ Below w.heap.size w w' := by
  have HC := Lib.hid hch
  have HB := Lib.hid (show brazierref3_Base.f 20 = some 335544320 by kernel_rfl)
  clear hch
  go_enter Try.func8, Try.ntmps8
  go_wp2_with fail
  refine (brazierref2_Check.calls 40 20 d n m a c imm 0 _ HC.out).mono ?_
  rintro e w1 ⟨rfl, hb1⟩
  have B1 := Aside0.mk (Box.of_below hb1)
  have c0 := B1.out.1
  have HBW := Aside0.mk (((Below.refl w.heap.size w).alloc (Nat.le_refl _) _).trans (hb1.mono (by simp)))
  have hz : w.heap.size < w1.heap.size := by have := hb1.size; simp at this; omega
  clear hb1
  go_wp2_with fail
  refine (brazierref3_Base.calls 20 335544320 _ HB.out).mono ?_
  rintro e w2 ⟨rfl, hb2⟩
  have B2 : Aside0 (Box w2 w.heap.size 20 d n m a c imm) := ⟨by
    have hc : ∀ j, w2.cell? ⟨w.heap.size, j, none⟩ = w1.cell? ⟨w.heap.size, j, none⟩ := fun j => (hb2.cell (p := ⟨w.heap.size, j, none⟩) (by simp; omega)).trans (by first | rfl | simp)
    exact ⟨(hc 0).trans B1.out.1, (hc 1).trans B1.out.2.1, (hc 2).trans B1.out.2.2.1, (hc 3).trans B1.out.2.2.2.1, (hc 4).trans B1.out.2.2.2.2.1, (hc 5).trans B1.out.2.2.2.2.2.1, (hc 6).trans B1.out.2.2.2.2.2.2⟩⟩
  have HBW2 : Aside0 (Below w.heap.size w w2) := ⟨by first | exact HBW.out.trans (hb2.mono (by first | omega | (simp; omega))) | exact (pw_below_drewN HBW.out _).trans (hb2.mono (by first | omega | (simp; omega))) | exact (below_drew1 HBW.out).trans (hb2.mono (by first | omega | (simp; omega)))⟩
  clear HBW hz c0 B1 hb2
  have c0 := B2.out.1
  have c1 := B2.out.2.1
  have c2 := B2.out.2.2.1
  have c3 := B2.out.2.2.2.1
  have c4 := B2.out.2.2.2.2.1
  have c5 := B2.out.2.2.2.2.2.1
  have c6 := B2.out.2.2.2.2.2.2
  go_wp2
  go_ret2
  exact ⟨by first | rfl | simp, by repeat (first | exact HBW2.out | apply pw_below_drewN | apply below_alloc | apply below_drew1)⟩
set_option maxHeartbeats 2000000 in
set_option maxRecDepth 100000 in
theorem ref_21 (d n m a c imm : Int) (w : World) (hch : brazierref2_Check.f 40 21 d n m a c imm = some 0) :
    Calls Try.prog 8 #[.agg #[.int .i64 21, .int .i64 d, .int .i64 n, .int .i64 m, .int .i64 a, .int .i64 c, .int .i64 imm]] w fun e w' => e = .returned (.tuple #[.int .u32 (Go.bits .or .u32 (Go.bits .or .u32 (1409286144) ((Go.bits .and .u32 (wrap64 (Int.tdiv imm 4) % 4294967296) 524287) * 32 % 4294967296)) (c % 4294967296)), .int .i64 0]) ∧ Below w.heap.size w w' := by
  have HC := Lib.hid hch
  have HB := Lib.hid (show brazierref3_Base.f 21 = some 1409286144 by kernel_rfl)
  clear hch
  go_enter Try.func8, Try.ntmps8
  go_wp2_with fail
  refine (brazierref2_Check.calls 40 21 d n m a c imm 0 _ HC.out).mono ?_
  rintro e w1 ⟨rfl, hb1⟩
  have B1 := Aside0.mk (Box.of_below hb1)
  have c0 := B1.out.1
  have HBW := Aside0.mk (((Below.refl w.heap.size w).alloc (Nat.le_refl _) _).trans (hb1.mono (by simp)))
  have hz : w.heap.size < w1.heap.size := by have := hb1.size; simp at this; omega
  clear hb1
  go_wp2_with fail
  refine (brazierref3_Base.calls 21 1409286144 _ HB.out).mono ?_
  rintro e w2 ⟨rfl, hb2⟩
  have B2 : Aside0 (Box w2 w.heap.size 21 d n m a c imm) := ⟨by
    have hc : ∀ j, w2.cell? ⟨w.heap.size, j, none⟩ = w1.cell? ⟨w.heap.size, j, none⟩ := fun j => (hb2.cell (p := ⟨w.heap.size, j, none⟩) (by simp; omega)).trans (by first | rfl | simp)
    exact ⟨(hc 0).trans B1.out.1, (hc 1).trans B1.out.2.1, (hc 2).trans B1.out.2.2.1, (hc 3).trans B1.out.2.2.2.1, (hc 4).trans B1.out.2.2.2.2.1, (hc 5).trans B1.out.2.2.2.2.2.1, (hc 6).trans B1.out.2.2.2.2.2.2⟩⟩
  have HBW2 : Aside0 (Below w.heap.size w w2) := ⟨by first | exact HBW.out.trans (hb2.mono (by first | omega | (simp; omega))) | exact (pw_below_drewN HBW.out _).trans (hb2.mono (by first | omega | (simp; omega))) | exact (below_drew1 HBW.out).trans (hb2.mono (by first | omega | (simp; omega)))⟩
  clear HBW hz c0 B1 hb2
  have c0 := B2.out.1
  have c1 := B2.out.2.1
  have c2 := B2.out.2.2.1
  have c3 := B2.out.2.2.2.1
  have c4 := B2.out.2.2.2.2.1
  have c5 := B2.out.2.2.2.2.2.1
  have c6 := B2.out.2.2.2.2.2.2
  go_wp2
  go_ret2
  exact ⟨by first | rfl | simp, by repeat (first | exact HBW2.out | apply pw_below_drewN | apply below_alloc | apply below_drew1)⟩
end Go.Proofs.Ytbjikmepfpkmjaa.X
