/- brazierref3.Word, instruction by instruction (part 4). Written by genref.py. -/
import Derived.Test.YtbjikmepfpkmjaazEncWordsXWord
import Derived.Test.YtbjikmepfpkmjaazEncWordsQx8
import Derived.Test.YtbjikmepfpkmjaazEncWordsQx11
namespace Go.Proofs.Ytbjikmepfpkmjaa.X
set_option linter.unusedVariables false
set_option linter.unusedSimpArgs false
open Go.RowKit Go.Proofs.YtbjikmepfpkmjaaW.PrintWords Go.Proofs.YtbjikmepfpkmjaaW.PrintLast Go.Proofs.YtbjikmepfpkmjaaW.PrintMore Go.Proofs.Ytbjikmepfpkmjaa.Q
set_option maxHeartbeats 2000000 in
set_option maxRecDepth 100000 in
theorem ref_33 (d n m a c imm : Int) (w : World) (hch : brazierref2_Check.f 40 33 d n m a c imm = some 0) :
    Calls Try.prog 8 #[.agg #[.int .i64 33, .int .i64 d, .int .i64 n, .int .i64 m, .int .i64 a, .int .i64 c, .int .i64 imm]] w fun e w' => e = .returned (.tuple #[.int .u32 (Go.bits .or .u32 (Go.bits .or .u32 (3370122240) (n % 4294967296 * 32 % 4294967296)) (d % 4294967296)), .int .i64 0]) ∧ Below w.heap.size w w' := by
  have HC := Lib.hid hch
  have HB := Lib.hid (show brazierref3_Base.f 33 = some 3370122240 by kernel_rfl)
  clear hch
  go_enter Try.func8, Try.ntmps8
  go_wp2_with fail
  refine (brazierref2_Check.calls 40 33 d n m a c imm 0 _ HC.out).mono ?_
  rintro e w1 ⟨rfl, hb1⟩
  have B1 := Aside0.mk (Box.of_below hb1)
  have c0 := B1.out.1
  have HBW := Aside0.mk (((Below.refl w.heap.size w).alloc (Nat.le_refl _) _).trans (hb1.mono (by simp)))
  have hz : w.heap.size < w1.heap.size := by have := hb1.size; simp at this; omega
  clear hb1
  go_wp2_with fail
  refine (brazierref3_Base.calls 33 3370122240 _ HB.out).mono ?_
  rintro e w2 ⟨rfl, hb2⟩
  have B2 : Aside0 (Box w2 w.heap.size 33 d n m a c imm) := ⟨by
    have hc : ∀ j, w2.cell? ⟨w.heap.size, j, none⟩ = w1.cell? ⟨w.heap.size, j, none⟩ := fun j => (hb2.cell (p := ⟨w.heap.size, j, none⟩) (by simp; omega)).trans (by first | rfl | simp)
    exact ⟨(hc 0).trans B1.out.1, (hc 1).trans B1.out.2.1, (hc 2).trans B1.out.2.2.1, (hc 3).trans B1.out.2.2.2.1, (hc 4).trans B1.out.2.2.2.2.1, (hc 5).trans B1.out.2.2.2.2.2.1, (hc 6).trans B1.out.2.2.2.2.2.2⟩⟩
  have HBW2 : Aside0 (Below w.heap.size w w2) := ⟨by first | exact HBW.out.trans (hb2.mono (by first | omega | (simp; omega))) | exact (pw_below_drewN HBW.out _).trans (hb2.mono (by first | omega | (simp; omega))) | exact (below_drew1 HBW.out).trans (hb2.mono (by first | omega | (simp; omega)))⟩
  clear HBW hz c0 B1 hb2
  have c0 := B2.out.1
  have c1 := B2.out.2.1
  have c2 := B2.out.2.2.1
  have c3 := B2.out.2.2.2.1
  have c4 := B2.out.2.2.2.2.1
  have c5 := B2.out.2.2.2.2.2.1
  have c6 := B2.out.2.2.2.2.2.2
  go_wp2
  go_ret2
  exact ⟨by first | rfl | simp, by repeat (first | exact HBW2.out | apply pw_below_drewN | apply below_alloc | apply below_drew1)⟩
set_option maxHeartbeats 2000000 in
set_option maxRecDepth 100000 in
theorem ref_34 (d n m a c imm : Int) (w : World) (hch : brazierref2_Check.f 40 34 d n m a c imm = some 0) :
    Calls Try.prog 8 #[.agg #[.int .i64 34, .int .i64 d, .int .i64 n, .int .i64 m, .int .i64 a, .int .i64 c, .int .i64 imm]] w fun e w' => e = .returned (.tuple #[.int .u32 (Go.bits .or .u32 (Go.bits .or .u32 (3365927936) (n % 4294967296 * 32 % 4294967296)) (d % 4294967296)), .int .i64 0]) ∧ Below w.heap.size w w' := by
  have HC := Lib.hid hch
  have HB := Lib.hid (show brazierref3_Base.f 34 = some 3365927936 by kernel_rfl)
  clear hch
  go_enter Try.func8, Try.ntmps8
  go_wp2_with fail
  refine (brazierref2_Check.calls 40 34 d n m a c imm 0 _ HC.out).mono ?_
  rintro e w1 ⟨rfl, hb1⟩
  have B1 := Aside0.mk (Box.of_below hb1)
  have c0 := B1.out.1
  have HBW := Aside0.mk (((Below.refl w.heap.size w).alloc (Nat.le_refl _) _).trans (hb1.mono (by simp)))
  have hz : w.heap.size < w1.heap.size := by have := hb1.size; simp at this; omega
  clear hb1
  go_wp2_with fail
  refine (brazierref3_Base.calls 34 3365927936 _ HB.out).mono ?_
  rintro e w2 ⟨rfl, hb2⟩
  have B2 : Aside0 (Box w2 w.heap.size 34 d n m a c imm) := ⟨by
    have hc : ∀ j, w2.cell? ⟨w.heap.size, j, none⟩ = w1.cell? ⟨w.heap.size, j, none⟩ := fun j => (hb2.cell (p := ⟨w.heap.size, j, none⟩) (by simp; omega)).trans (by first | rfl | simp)
    exact ⟨(hc 0).trans B1.out.1, (hc 1).trans B1.out.2.1, (hc 2).trans B1.out.2.2.1, (hc 3).trans B1.out.2.2.2.1, (hc 4).trans B1.out.2.2.2.2.1, (hc 5).trans B1.out.2.2.2.2.2.1, (hc 6).trans B1.out.2.2.2.2.2.2⟩⟩
  have HBW2 : Aside0 (Below w.heap.size w w2) := ⟨by first | exact HBW.out.trans (hb2.mono (by first | omega | (simp; omega))) | exact (pw_below_drewN HBW.out _).trans (hb2.mono (by first | omega | (simp; omega))) | exact (below_drew1 HBW.out).trans (hb2.mono (by first | omega | (simp; omega)))⟩
  clear HBW hz c0 B1 hb2
  have c0 := B2.out.1
  have c1 := B2.out.2.1
  have c2 := B2.out.2.2.1
  have c3 := B2.out.2.2.2.1
  have c4 := B2.out.2.2.2.2.1
  have c5 := B2.out.2.2.2.2.2.1
  have c6 := B2.out.2.2.2.2.2.2
  go_wp2
  go_ret2
  exact ⟨by first | rfl | simp, by repeat (first | exact HBW2.out | apply pw_below_drewN | apply below_alloc | apply below_drew1)⟩
set_option maxHeartbeats 2000000 in
set_option maxRecDepth 100000 in
theorem ref_35 (d n m a c imm : Int) (w : World) (hch : brazierref2_Check.f 40 35 d n m a c imm = some 0) :
    Calls Try.prog 8 #[.agg #[.int .i64 35, .int .i64 d, .int .i64 n, .int .i64 m, .int .i64 a, .int .i64 c, .int .i64 imm]] w fun e w' => e = .returned (.tuple #[.int .u32 (Go.bits .or .u32 (Go.bits .or .u32 (3361700864) (n % 4294967296 * 32 % 4294967296)) (d % 4294967296)), .int .i64 0]) ∧ Below w.heap.size w w' := by
  have HC := Lib.hid hch
  have HB := Lib.hid (show brazierref3_Base.f 35 = some 3361700864 by kernel_rfl)
  clear hch
  go_enter Try.func8, Try.ntmps8
  go_wp2_with fail
  refine (brazierref2_Check.calls 40 35 d n m a c imm 0 _ HC.out).mono ?_
  rintro e w1 ⟨rfl, hb1⟩
  have B1 := Aside0.mk (Box.of_below hb1)
  have c0 := B1.out.1
  have HBW := Aside0.mk (((Below.refl w.heap.size w).alloc (Nat.le_refl _) _).trans (hb1.mono (by simp)))
  have hz : w.heap.size < w1.heap.size := by have := hb1.size; simp at this; omega
  clear hb1
  go_wp2_with fail
  refine (brazierref3_Base.calls 35 3361700864 _ HB.out).mono ?_
  rintro e w2 ⟨rfl, hb2⟩
  have B2 : Aside0 (Box w2 w.heap.size 35 d n m a c imm) := ⟨by
    have hc : ∀ j, w2.cell? ⟨w.heap.size, j, none⟩ = w1.cell? ⟨w.heap.size, j, none⟩ := fun j => (hb2.cell (p := ⟨w.heap.size, j, none⟩) (by simp; omega)).trans (by first | rfl | simp)
    exact ⟨(hc 0).trans B1.out.1, (hc 1).trans B1.out.2.1, (hc 2).trans B1.out.2.2.1, (hc 3).trans B1.out.2.2.2.1, (hc 4).trans B1.out.2.2.2.2.1, (hc 5).trans B1.out.2.2.2.2.2.1, (hc 6).trans B1.out.2.2.2.2.2.2⟩⟩
  have HBW2 : Aside0 (Below w.heap.size w w2) := ⟨by first | exact HBW.out.trans (hb2.mono (by first | omega | (simp; omega))) | exact (pw_below_drewN HBW.out _).trans (hb2.mono (by first | omega | (simp; omega))) | exact (below_drew1 HBW.out).trans (hb2.mono (by first | omega | (simp; omega)))⟩
  clear HBW hz c0 B1 hb2
  have c0 := B2.out.1
  have c1 := B2.out.2.1
  have c2 := B2.out.2.2.1
  have c3 := B2.out.2.2.2.1
  have c4 := B2.out.2.2.2.2.1
  have c5 := B2.out.2.2.2.2.2.1
  have c6 := B2.out.2.2.2.2.2.2
  go_wp2
  go_ret2
  exact ⟨by first | rfl | simp, by repeat (first | exact HBW2.out | apply pw_below_drewN | apply below_alloc | apply below_drew1)⟩
set_option maxHeartbeats 2000000 in
set_option maxRecDepth 100000 in
theorem ref_36 (d n m a c imm : Int) (w : World) (hch : brazierref2_Check.f 40 36 d n m a c imm = some 0) :
    Calls Try.prog 8 #[.agg #[.int .i64 36, .int .i64 d, .int .i64 n, .int .i64 m, .int .i64 a, .int .i64 c, .int .i64 imm]] w fun e w' => e = .returned (.tuple #[.int .u32 (Go.bits .or .u32 (Go.bits .or .u32 (Go.bits .or .u32 (3355474944) (d % 4294967296 * 65536 % 4294967296)) (n % 4294967296 * 32 % 4294967296)) (m % 4294967296)), .int .i64 0]) ∧ Below w.heap.size w w' := by
  have HC := Lib.hid hch
  have HB := Lib.hid (show brazierref3_Base.f 36 = some 3355474944 by kernel_rfl)
  clear hch
  go_enter Try.func8, Try.ntmps8
  go_wp2_with fail
  refine (brazierref2_Check.calls 40 36 d n m a c imm 0 _ HC.out).mono ?_
  rintro e w1 ⟨rfl, hb1⟩
  have B1 := Aside0.mk (Box.of_below hb1)
  have c0 := B1.out.1
  have HBW := Aside0.mk (((Below.refl w.heap.size w).alloc (Nat.le_refl _) _).trans (hb1.mono (by simp)))
  have hz : w.heap.size < w1.heap.size := by have := hb1.size; simp at this; omega
  clear hb1
  go_wp2_with fail
  refine (brazierref3_Base.calls 36 3355474944 _ HB.out).mono ?_
  rintro e w2 ⟨rfl, hb2⟩
  have B2 : Aside0 (Box w2 w.heap.size 36 d n m a c imm) := ⟨by
    have hc : ∀ j, w2.cell? ⟨w.heap.size, j, none⟩ = w1.cell? ⟨w.heap.size, j, none⟩ := fun j => (hb2.cell (p := ⟨w.heap.size, j, none⟩) (by simp; omega)).trans (by first | rfl | simp)
    exact ⟨(hc 0).trans B1.out.1, (hc 1).trans B1.out.2.1, (hc 2).trans B1.out.2.2.1, (hc 3).trans B1.out.2.2.2.1, (hc 4).trans B1.out.2.2.2.2.1, (hc 5).trans B1.out.2.2.2.2.2.1, (hc 6).trans B1.out.2.2.2.2.2.2⟩⟩
  have HBW2 : Aside0 (Below w.heap.size w w2) := ⟨by first | exact HBW.out.trans (hb2.mono (by first | omega | (simp; omega))) | exact (pw_below_drewN HBW.out _).trans (hb2.mono (by first | omega | (simp; omega))) | exact (below_drew1 HBW.out).trans (hb2.mono (by first | omega | (simp; omega)))⟩
  clear HBW hz c0 B1 hb2
  have c0 := B2.out.1
  have c1 := B2.out.2.1
  have c2 := B2.out.2.2.1
  have c3 := B2.out.2.2.2.1
  have c4 := B2.out.2.2.2.2.1
  have c5 := B2.out.2.2.2.2.2.1
  have c6 := B2.out.2.2.2.2.2.2
  go_wp2
  go_ret2
  exact ⟨by first | rfl | simp, by repeat (first | exact HBW2.out | apply pw_below_drewN | apply below_alloc | apply below_drew1)⟩
set_option maxHeartbeats 2000000 in
set_option maxRecDepth 100000 in
theorem ref_38 (d n m a c imm : Int) (w : World) (hch : brazierref2_Check.f 40 38 d n m a c imm = some 0) :
    Calls Try.prog 8 #[.agg #[.int .i64 38, .int .i64 d, .int .i64 n, .int .i64 m, .int .i64 a, .int .i64 c, .int .i64 imm]] w fun e w' => e = .returned (.tuple #[.int .u32 (3573758879), .int .i64 0]) ∧ Below w.heap.size w w' := by
  have HC := Lib.hid hch
  have HB := Lib.hid (show brazierref3_Base.f 38 = some 3573758879 by kernel_rfl)
  clear hch
  go_enter Try.func8, Try.ntmps8
  go_wp2_with fail
  refine (brazierref2_Check.calls 40 38 d n m a c imm 0 _ HC.out).mono ?_
  rintro e w1 ⟨rfl, hb1⟩
  have B1 := Aside0.mk (Box.of_below hb1)
  have c0 := B1.out.1
  have HBW := Aside0.mk (((Below.refl w.heap.size w).alloc (Nat.le_refl _) _).trans (hb1.mono (by simp)))
  have hz : w.heap.size < w1.heap.size := by have := hb1.size; simp at this; omega
  clear hb1
  go_wp2_with fail
  refine (brazierref3_Base.calls 38 3573758879 _ HB.out).mono ?_
  rintro e w2 ⟨rfl, hb2⟩
  have B2 : Aside0 (Box w2 w.heap.size 38 d n m a c imm) := ⟨by
    have hc : ∀ j, w2.cell? ⟨w.heap.size, j, none⟩ = w1.cell? ⟨w.heap.size, j, none⟩ := fun j => (hb2.cell (p := ⟨w.heap.size, j, none⟩) (by simp; omega)).trans (by first | rfl | simp)
    exact ⟨(hc 0).trans B1.out.1, (hc 1).trans B1.out.2.1, (hc 2).trans B1.out.2.2.1, (hc 3).trans B1.out.2.2.2.1, (hc 4).trans B1.out.2.2.2.2.1, (hc 5).trans B1.out.2.2.2.2.2.1, (hc 6).trans B1.out.2.2.2.2.2.2⟩⟩
  have HBW2 : Aside0 (Below w.heap.size w w2) := ⟨by first | exact HBW.out.trans (hb2.mono (by first | omega | (simp; omega))) | exact (pw_below_drewN HBW.out _).trans (hb2.mono (by first | omega | (simp; omega))) | exact (below_drew1 HBW.out).trans (hb2.mono (by first | omega | (simp; omega)))⟩
  clear HBW hz c0 B1 hb2
  have c0 := B2.out.1
  have c1 := B2.out.2.1
  have c2 := B2.out.2.2.1
  have c3 := B2.out.2.2.2.1
  have c4 := B2.out.2.2.2.2.1
  have c5 := B2.out.2.2.2.2.2.1
  have c6 := B2.out.2.2.2.2.2.2
  go_wp2
  go_ret2
  exact ⟨by first | rfl | simp, by repeat (first | exact HBW2.out | apply pw_below_drewN | apply below_alloc | apply below_drew1)⟩
set_option maxHeartbeats 2000000 in
set_option maxRecDepth 100000 in
theorem ref_39 (d n m a c imm : Int) (w : World) (hch : brazierref2_Check.f 40 39 d n m a c imm = some 0) :
    Calls Try.prog 8 #[.agg #[.int .i64 39, .int .i64 d, .int .i64 n, .int .i64 m, .int .i64 a, .int .i64 c, .int .i64 imm]] w fun e w' => e = .returned (.tuple #[.int .u32 (3573759967), .int .i64 0]) ∧ Below w.heap.size w w' := by
  have HC := Lib.hid hch
  have HB := Lib.hid (show brazierref3_Base.f 39 = some 3573759967 by kernel_rfl)
  clear hch
  go_enter Try.func8, Try.ntmps8
  go_wp2_with fail
  refine (brazierref2_Check.calls 40 39 d n m a c imm 0 _ HC.out).mono ?_
  rintro e w1 ⟨rfl, hb1⟩
  have B1 := Aside0.mk (Box.of_below hb1)
  have c0 := B1.out.1
  have HBW := Aside0.mk (((Below.refl w.heap.size w).alloc (Nat.le_refl _) _).trans (hb1.mono (by simp)))
  have hz : w.heap.size < w1.heap.size := by have := hb1.size; simp at this; omega
  clear hb1
  go_wp2_with fail
  refine (brazierref3_Base.calls 39 3573759967 _ HB.out).mono ?_
  rintro e w2 ⟨rfl, hb2⟩
  have B2 : Aside0 (Box w2 w.heap.size 39 d n m a c imm) := ⟨by
    have hc : ∀ j, w2.cell? ⟨w.heap.size, j, none⟩ = w1.cell? ⟨w.heap.size, j, none⟩ := fun j => (hb2.cell (p := ⟨w.heap.size, j, none⟩) (by simp; omega)).trans (by first | rfl | simp)
    exact ⟨(hc 0).trans B1.out.1, (hc 1).trans B1.out.2.1, (hc 2).trans B1.out.2.2.1, (hc 3).trans B1.out.2.2.2.1, (hc 4).trans B1.out.2.2.2.2.1, (hc 5).trans B1.out.2.2.2.2.2.1, (hc 6).trans B1.out.2.2.2.2.2.2⟩⟩
  have HBW2 : Aside0 (Below w.heap.size w w2) := ⟨by first | exact HBW.out.trans (hb2.mono (by first | omega | (simp; omega))) | exact (pw_below_drewN HBW.out _).trans (hb2.mono (by first | omega | (simp; omega))) | exact (below_drew1 HBW.out).trans (hb2.mono (by first | omega | (simp; omega)))⟩
  clear HBW hz c0 B1 hb2
  have c0 := B2.out.1
  have c1 := B2.out.2.1
  have c2 := B2.out.2.2.1
  have c3 := B2.out.2.2.2.1
  have c4 := B2.out.2.2.2.2.1
  have c5 := B2.out.2.2.2.2.2.1
  have c6 := B2.out.2.2.2.2.2.2
  go_wp2
  go_ret2
  exact ⟨by first | rfl | simp, by repeat (first | exact HBW2.out | apply pw_below_drewN | apply below_alloc | apply below_drew1)⟩
set_option maxHeartbeats 2000000 in
set_option maxRecDepth 100000 in
theorem ref_40 (d n m a c imm : Int) (w : World) (hch : brazierref2_Check.f 40 40 d n m a c imm = some 0) :
    Calls Try.prog 8 #[.agg #[.int .i64 40, .int .i64 d, .int .i64 n, .int .i64 m, .int .i64 a, .int .i64 c, .int .i64 imm]] w fun e w' => e = .returned (.tuple #[.int .u32 (Go.bits .or .u32 (3574299424) (n % 4294967296)), .int .i64 0]) ∧ Below w.heap.size w w' := by
  have HC := Lib.hid hch
  have HB := Lib.hid (show brazierref3_Base.f 40 = some 3574299424 by kernel_rfl)
  clear hch
  go_enter Try.func8, Try.ntmps8
  go_wp2_with fail
  refine (brazierref2_Check.calls 40 40 d n m a c imm 0 _ HC.out).mono ?_
  rintro e w1 ⟨rfl, hb1⟩
  have B1 := Aside0.mk (Box.of_below hb1)
  have c0 := B1.out.1
  have HBW := Aside0.mk (((Below.refl w.heap.size w).alloc (Nat.le_refl _) _).trans (hb1.mono (by simp)))
  have hz : w.heap.size < w1.heap.size := by have := hb1.size; simp at this; omega
  clear hb1
  go_wp2_with fail
  refine (brazierref3_Base.calls 40 3574299424 _ HB.out).mono ?_
  rintro e w2 ⟨rfl, hb2⟩
  have B2 : Aside0 (Box w2 w.heap.size 40 d n m a c imm) := ⟨by
    have hc : ∀ j, w2.cell? ⟨w.heap.size, j, none⟩ = w1.cell? ⟨w.heap.size, j, none⟩ := fun j => (hb2.cell (p := ⟨w.heap.size, j, none⟩) (by simp; omega)).trans (by first | rfl | simp)
    exact ⟨(hc 0).trans B1.out.1, (hc 1).trans B1.out.2.1, (hc 2).trans B1.out.2.2.1, (hc 3).trans B1.out.2.2.2.1, (hc 4).trans B1.out.2.2.2.2.1, (hc 5).trans B1.out.2.2.2.2.2.1, (hc 6).trans B1.out.2.2.2.2.2.2⟩⟩
  have HBW2 : Aside0 (Below w.heap.size w w2) := ⟨by first | exact HBW.out.trans (hb2.mono (by first | omega | (simp; omega))) | exact (pw_below_drewN HBW.out _).trans (hb2.mono (by first | omega | (simp; omega))) | exact (below_drew1 HBW.out).trans (hb2.mono (by first | omega | (simp; omega)))⟩
  clear HBW hz c0 B1 hb2
  have c0 := B2.out.1
  have c1 := B2.out.2.1
  have c2 := B2.out.2.2.1
  have c3 := B2.out.2.2.2.1
  have c4 := B2.out.2.2.2.2.1
  have c5 := B2.out.2.2.2.2.2.1
  have c6 := B2.out.2.2.2.2.2.2
  go_wp2
  go_ret2
  exact ⟨by first | rfl | simp, by repeat (first | exact HBW2.out | apply pw_below_drewN | apply below_alloc | apply below_drew1)⟩
set_option maxHeartbeats 2000000 in
set_option maxRecDepth 100000 in
theorem ref_41 (d n m a c imm : Int) (w : World) (hch : brazierref2_Check.f 40 41 d n m a c imm = some 0) :
    Calls Try.prog 8 #[.agg #[.int .i64 41, .int .i64 d, .int .i64 n, .int .i64 m, .int .i64 a, .int .i64 c, .int .i64 imm]] w fun e w' => e = .returned (.tuple #[.int .u32 (Go.bits .or .u32 (3574297888) (n % 4294967296)), .int .i64 0]) ∧ Below w.heap.size w w' := by
  have HC := Lib.hid hch
  have HB := Lib.hid (show brazierref3_Base.f 41 = some 3574297888 by kernel_rfl)
  clear hch
  go_enter Try.func8, Try.ntmps8
  go_wp2_with fail
  refine (brazierref2_Check.calls 40 41 d n m a c imm 0 _ HC.out).mono ?_
  rintro e w1 ⟨rfl, hb1⟩
  have B1 := Aside0.mk (Box.of_below hb1)
  have c0 := B1.out.1
  have HBW := Aside0.mk (((Below.refl w.heap.size w).alloc (Nat.le_refl _) _).trans (hb1.mono (by simp)))
  have hz : w.heap.size < w1.heap.size := by have := hb1.size; simp at this; omega
  clear hb1
  go_wp2_with fail
  refine (brazierref3_Base.calls 41 3574297888 _ HB.out).mono ?_
  rintro e w2 ⟨rfl, hb2⟩
  have B2 : Aside0 (Box w2 w.heap.size 41 d n m a c imm) := ⟨by
    have hc : ∀ j, w2.cell? ⟨w.heap.size, j, none⟩ = w1.cell? ⟨w.heap.size, j, none⟩ := fun j => (hb2.cell (p := ⟨w.heap.size, j, none⟩) (by simp; omega)).trans (by first | rfl | simp)
    exact ⟨(hc 0).trans B1.out.1, (hc 1).trans B1.out.2.1, (hc 2).trans B1.out.2.2.1, (hc 3).trans B1.out.2.2.2.1, (hc 4).trans B1.out.2.2.2.2.1, (hc 5).trans B1.out.2.2.2.2.2.1, (hc 6).trans B1.out.2.2.2.2.2.2⟩⟩
  have HBW2 : Aside0 (Below w.heap.size w w2) := ⟨by first | exact HBW.out.trans (hb2.mono (by first | omega | (simp; omega))) | exact (pw_below_drewN HBW.out _).trans (hb2.mono (by first | omega | (simp; omega))) | exact (below_drew1 HBW.out).trans (hb2.mono (by first | omega | (simp; omega)))⟩
  clear HBW hz c0 B1 hb2
  have c0 := B2.out.1
  have c1 := B2.out.2.1
  have c2 := B2.out.2.2.1
  have c3 := B2.out.2.2.2.1
  have c4 := B2.out.2.2.2.2.1
  have c5 := B2.out.2.2.2.2.2.1
  have c6 := B2.out.2.2.2.2.2.2
  go_wp2
  go_ret2
  exact ⟨by first | rfl | simp, by repeat (first | exact HBW2.out | apply pw_below_drewN | apply below_alloc | apply below_drew1)⟩
set_option maxHeartbeats 2000000 in
set_option maxRecDepth 100000 in
theorem ref_42 (d n m a c imm : Int) (w : World) (hch : brazierref2_Check.f 40 42 d n m a c imm = some 0) :
    Calls Try.prog 8 #[.agg #[.int .i64 42, .int .i64 d, .int .i64 n, .int .i64 m, .int .i64 a, .int .i64 c, .int .i64 imm]] w fun e w' => e = .returned (.tuple #[.int .u32 (Go.bits .or .u32 (3556769793) (imm % 4294967296 * 32 % 4294967296)), .int .i64 0]) ∧ Below w.heap.size w w' := by
  have HC := Lib.hid hch
  have HB := Lib.hid (show brazierref3_Base.f 42 = some 3556769793 by kernel_rfl)
  clear hch
  go_enter Try.func8, Try.ntmps8
  go_wp2_with fail
  refine (brazierref2_Check.calls 40 42 d n m a c imm 0 _ HC.out).mono ?_
  rintro e w1 ⟨rfl, hb1⟩
  have B1 := Aside0.mk (Box.of_below hb1)
  have c0 := B1.out.1
  have HBW := Aside0.mk (((Below.refl w.heap.size w).alloc (Nat.le_refl _) _).trans (hb1.mono (by simp)))
  have hz : w.heap.size < w1.heap.size := by have := hb1.size; simp at this; omega
  clear hb1
  go_wp2_with fail
  refine (brazierref3_Base.calls 42 3556769793 _ HB.out).mono ?_
  rintro e w2 ⟨rfl, hb2⟩
  have B2 : Aside0 (Box w2 w.heap.size 42 d n m a c imm) := ⟨by
    have hc : ∀ j, w2.cell? ⟨w.heap.size, j, none⟩ = w1.cell? ⟨w.heap.size, j, none⟩ := fun j => (hb2.cell (p := ⟨w.heap.size, j, none⟩) (by simp; omega)).trans (by first | rfl | simp)
    exact ⟨(hc 0).trans B1.out.1, (hc 1).trans B1.out.2.1, (hc 2).trans B1.out.2.2.1, (hc 3).trans B1.out.2.2.2.1, (hc 4).trans B1.out.2.2.2.2.1, (hc 5).trans B1.out.2.2.2.2.2.1, (hc 6).trans B1.out.2.2.2.2.2.2⟩⟩
  have HBW2 : Aside0 (Below w.heap.size w w2) := ⟨by first | exact HBW.out.trans (hb2.mono (by first | omega | (simp; omega))) | exact (pw_below_drewN HBW.out _).trans (hb2.mono (by first | omega | (simp; omega))) | exact (below_drew1 HBW.out).trans (hb2.mono (by first | omega | (simp; omega)))⟩
  clear HBW hz c0 B1 hb2
  have c0 := B2.out.1
  have c1 := B2.out.2.1
  have c2 := B2.out.2.2.1
  have c3 := B2.out.2.2.2.1
  have c4 := B2.out.2.2.2.2.1
  have c5 := B2.out.2.2.2.2.2.1
  have c6 := B2.out.2.2.2.2.2.2
  go_wp2
  go_ret2
  exact ⟨by first | rfl | simp, by repeat (first | exact HBW2.out | apply pw_below_drewN | apply below_alloc | apply below_drew1)⟩
set_option maxHeartbeats 2000000 in
set_option maxRecDepth 100000 in
theorem ref_37 (d n m a c imm : Int) (w : World) (h0 : 0 ≤ imm) (h1 : imm < 3) (hch : brazierref2_Check.f 40 37 d n m a c imm = some 0) :
    Calls Try.prog 8 #[.agg #[.int .i64 37, .int .i64 d, .int .i64 n, .int .i64 m, .int .i64 a, .int .i64 c, .int .i64 imm]] w fun e w' => e = .returned (.tuple #[.int .u32 (rd [3573758911, 3573758399, 3573758655] imm), .int .i64 0]) ∧ Below w.heap.size w w' := by
  have HC := Lib.hid hch
  have HB := Lib.hid (show brazierref3_Base.f 37 = some 3573758911 by kernel_rfl)
  clear hch
  go_enter Try.func8, Try.ntmps8
  go_wp2_with fail
  refine (brazierref2_Check.calls 40 37 d n m a c imm 0 _ HC.out).mono ?_
  rintro e w1 ⟨rfl, hb1⟩
  have B1 := Aside0.mk (Box.of_below hb1)
  have c0 := B1.out.1
  have HBW := Aside0.mk (((Below.refl w.heap.size w).alloc (Nat.le_refl _) _).trans (hb1.mono (by simp)))
  have hz : w.heap.size < w1.heap.size := by have := hb1.size; simp at this; omega
  clear hb1
  go_wp2_with fail
  refine (brazierref3_Base.calls 37 3573758911 _ HB.out).mono ?_
  rintro e w2 ⟨rfl, hb2⟩
  have B2 : Aside0 (Box w2 w.heap.size 37 d n m a c imm) := ⟨by
    have hc : ∀ j, w2.cell? ⟨w.heap.size, j, none⟩ = w1.cell? ⟨w.heap.size, j, none⟩ := fun j => (hb2.cell (p := ⟨w.heap.size, j, none⟩) (by simp; omega)).trans (by first | rfl | simp)
    exact ⟨(hc 0).trans B1.out.1, (hc 1).trans B1.out.2.1, (hc 2).trans B1.out.2.2.1, (hc 3).trans B1.out.2.2.2.1, (hc 4).trans B1.out.2.2.2.2.1, (hc 5).trans B1.out.2.2.2.2.2.1, (hc 6).trans B1.out.2.2.2.2.2.2⟩⟩
  have HBW2 : Aside0 (Below w.heap.size w w2) := ⟨by first | exact HBW.out.trans (hb2.mono (by first | omega | (simp; omega))) | exact (pw_below_drewN HBW.out _).trans (hb2.mono (by first | omega | (simp; omega))) | exact (below_drew1 HBW.out).trans (hb2.mono (by first | omega | (simp; omega)))⟩
  have hz2' : w.heap.size < w2.heap.size := by have := hb2.size; first | omega | (simp at this; omega)
  clear HBW hz c0 B1 hb2
  have c0 := B2.out.1
  have c1 := B2.out.2.1
  have c2 := B2.out.2.2.1
  have c3 := B2.out.2.2.2.1
  have c4 := B2.out.2.2.2.2.1
  have c5 := B2.out.2.2.2.2.2.1
  have c6 := B2.out.2.2.2.2.2.2
  obtain ⟨y, hy⟩ : ∃ y : List Int, y = (([3573758911, 3573758399, 3573758655] : List Int)) := ⟨_, rfl⟩
  have hz2 : w.heap.size < w2.heap.size := hz2'
  have q1 : imm < (y.length : Int) := by rw [hy]; exact h1
  go_wp2_with (first | ((with_reducible refine gate_dst (N := 173) rfl ?_); refine Kd.R_lit (Kd.int .u32) _ 25 ?hg (N := 173) ?hd (xs := ([3573758911, 3573758399, 3573758655] : List Int)) (inner := [.int .u32 3573758911, .int .u32 3573758399, .int .u32 3573758655]) (ok := fun _ => True) (okp := fun _ => True) ?hr ?hp (fun _ hk => hk) trivial (Below.refl _ _) (Nat.le_refl _) (by simp) ?_; (case hd => rfl); (case hg => rfl); (case hr => first | (go_simp; done) | (go_simp; rfl)); (case hp => exact (Reps.one (show Kd.M (Kd.int .u32) _ _ _ 3573758911 [.int .u32 3573758911] from rfl) (Reps.one (show Kd.M (Kd.int .u32) _ _ _ 3573758399 [.int .u32 3573758399] from rfl) (Reps.one (show Kd.M (Kd.int .u32) _ _ _ 3573758655 [.int .u32 3573758655] from rfl) (Reps.none _ _))))); intro v146 w59 ho60 hb hg_ hnew_; clear hg_ hnew_; (first | rw [← hy] at ho60 | (simp only [Int.reduceToNat] at ho60; rw [← hy] at ho60)); have HB3 := Aside0.mk (below_step (by repeat (first | exact HBW2.out | apply below_alloc | apply pw_below_drewN | apply below_drew1)) hb); have k6 : w59.cell? ⟨w.heap.size, 6, none⟩ = some (.int .i64 imm) := (hb.cell (p := ⟨w.heap.size, 6, none⟩) (by first | omega | (simp; omega))).trans (by first | exact c6 | (simp; exact c6)); have HO := Aside0.mk ho60; clear hb ho60 c0 c1 c2 c3 c4 c5 c6; obtain ⟨Ao62, co62, eo62⟩ := Kd.R_slice HO.out; subst eo62; obtain ⟨ad148, e148, hx148_0⟩ := Kd.at_int (Kd.R_reads' HO.out).2.2 imm h0 q1; cases e148; replace q1 := eq_true q1; replace h0 := eq_true h0))
  go_ret2
  exact ⟨by first | rfl | (rw [hy]; rfl) | simp, by repeat (first | exact HB3.out | apply pw_below_drewN | apply below_alloc | apply below_drew1)⟩
end Go.Proofs.Ytbjikmepfpkmjaa.X
