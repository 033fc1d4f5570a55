/- brazierref3.Word, instruction by instruction (part 3). Written by genref.py. -/
import Derived.Test.YtbjikmepfpkmjaazEncWordsXWord
import Derived.Test.YtbjikmepfpkmjaazEncWordsQx8
import Derived.Test.YtbjikmepfpkmjaazEncWordsQx11
namespace Go.Proofs.Ytbjikmepfpkmjaa.X
set_option linter.unusedVariables false
set_option linter.unusedSimpArgs false
open Go.RowKit Go.Proofs.YtbjikmepfpkmjaaW.PrintWords Go.Proofs.YtbjikmepfpkmjaaW.PrintLast Go.Proofs.YtbjikmepfpkmjaaW.PrintMore Go.Proofs.Ytbjikmepfpkmjaa.Q
set_option maxHeartbeats 2000000 in
set_option maxRecDepth 100000 in
theorem ref_22 (d n m a c imm : Int) (w : World) (hch : brazierref2_Check.f 40 22 d n m a c imm = some 0) :
    Calls Try.prog 8 #[.agg #[.int .i64 22, .int .i64 d, .int .i64 n, .int .i64 m, .int .i64 a, .int .i64 c, .int .i64 imm]] w fun e w' => e = .returned (.tuple #[.int .u32 (Go.bits .or .u32 (Go.bits .or .u32 (3019898880) ((Go.bits .and .u32 (wrap64 (Int.tdiv imm 4) % 4294967296) 524287) * 32 % 4294967296)) (d % 4294967296)), .int .i64 0]) ∧ Below w.heap.size w w' := by
  have HC := Lib.hid hch
  have HB := Lib.hid (show brazierref3_Base.f 22 = some 3019898880 by kernel_rfl)
  clear hch
  go_enter Try.func8, Try.ntmps8
  go_wp2_with fail
  refine (brazierref2_Check.calls 40 22 d n m a c imm 0 _ HC.out).mono ?_
  rintro e w1 ⟨rfl, hb1⟩
  have B1 := Aside0.mk (Box.of_below hb1)
  have c0 := B1.out.1
  have HBW := Aside0.mk (((Below.refl w.heap.size w).alloc (Nat.le_refl _) _).trans (hb1.mono (by simp)))
  have hz : w.heap.size < w1.heap.size := by have := hb1.size; simp at this; omega
  clear hb1
  go_wp2_with fail
  refine (brazierref3_Base.calls 22 3019898880 _ HB.out).mono ?_
  rintro e w2 ⟨rfl, hb2⟩
  have B2 : Aside0 (Box w2 w.heap.size 22 d n m a c imm) := ⟨by
    have hc : ∀ j, w2.cell? ⟨w.heap.size, j, none⟩ = w1.cell? ⟨w.heap.size, j, none⟩ := fun j => (hb2.cell (p := ⟨w.heap.size, j, none⟩) (by simp; omega)).trans (by first | rfl | simp)
    exact ⟨(hc 0).trans B1.out.1, (hc 1).trans B1.out.2.1, (hc 2).trans B1.out.2.2.1, (hc 3).trans B1.out.2.2.2.1, (hc 4).trans B1.out.2.2.2.2.1, (hc 5).trans B1.out.2.2.2.2.2.1, (hc 6).trans B1.out.2.2.2.2.2.2⟩⟩
  have HBW2 : Aside0 (Below w.heap.size w w2) := ⟨by first | exact HBW.out.trans (hb2.mono (by first | omega | (simp; omega))) | exact (pw_below_drewN HBW.out _).trans (hb2.mono (by first | omega | (simp; omega))) | exact (below_drew1 HBW.out).trans (hb2.mono (by first | omega | (simp; omega)))⟩
  clear HBW hz c0 B1 hb2
  have c0 := B2.out.1
  have c1 := B2.out.2.1
  have c2 := B2.out.2.2.1
  have c3 := B2.out.2.2.2.1
  have c4 := B2.out.2.2.2.2.1
  have c5 := B2.out.2.2.2.2.2.1
  have c6 := B2.out.2.2.2.2.2.2
  go_wp2
  go_ret2
  exact ⟨by first | rfl | simp, by repeat (first | exact HBW2.out | apply pw_below_drewN | apply below_alloc | apply below_drew1)⟩
set_option maxHeartbeats 2000000 in
set_option maxRecDepth 100000 in
theorem ref_23 (d n m a c imm : Int) (w : World) (hch : brazierref2_Check.f 40 23 d n m a c imm = some 0) :
    Calls Try.prog 8 #[.agg #[.int .i64 23, .int .i64 d, .int .i64 n, .int .i64 m, .int .i64 a, .int .i64 c, .int .i64 imm]] w fun e w' => e = .returned (.tuple #[.int .u32 (Go.bits .or .u32 (Go.bits .or .u32 (3036676096) ((Go.bits .and .u32 (wrap64 (Int.tdiv imm 4) % 4294967296) 524287) * 32 % 4294967296)) (d % 4294967296)), .int .i64 0]) ∧ Below w.heap.size w w' := by
  have HC := Lib.hid hch
  have HB := Lib.hid (show brazierref3_Base.f 23 = some 3036676096 by kernel_rfl)
  clear hch
  go_enter Try.func8, Try.ntmps8
  go_wp2_with fail
  refine (brazierref2_Check.calls 40 23 d n m a c imm 0 _ HC.out).mono ?_
  rintro e w1 ⟨rfl, hb1⟩
  have B1 := Aside0.mk (Box.of_below hb1)
  have c0 := B1.out.1
  have HBW := Aside0.mk (((Below.refl w.heap.size w).alloc (Nat.le_refl _) _).trans (hb1.mono (by simp)))
  have hz : w.heap.size < w1.heap.size := by have := hb1.size; simp at this; omega
  clear hb1
  go_wp2_with fail
  refine (brazierref3_Base.calls 23 3036676096 _ HB.out).mono ?_
  rintro e w2 ⟨rfl, hb2⟩
  have B2 : Aside0 (Box w2 w.heap.size 23 d n m a c imm) := ⟨by
    have hc : ∀ j, w2.cell? ⟨w.heap.size, j, none⟩ = w1.cell? ⟨w.heap.size, j, none⟩ := fun j => (hb2.cell (p := ⟨w.heap.size, j, none⟩) (by simp; omega)).trans (by first | rfl | simp)
    exact ⟨(hc 0).trans B1.out.1, (hc 1).trans B1.out.2.1, (hc 2).trans B1.out.2.2.1, (hc 3).trans B1.out.2.2.2.1, (hc 4).trans B1.out.2.2.2.2.1, (hc 5).trans B1.out.2.2.2.2.2.1, (hc 6).trans B1.out.2.2.2.2.2.2⟩⟩
  have HBW2 : Aside0 (Below w.heap.size w w2) := ⟨by first | exact HBW.out.trans (hb2.mono (by first | omega | (simp; omega))) | exact (pw_below_drewN HBW.out _).trans (hb2.mono (by first | omega | (simp; omega))) | exact (below_drew1 HBW.out).trans (hb2.mono (by first | omega | (simp; omega)))⟩
  clear HBW hz c0 B1 hb2
  have c0 := B2.out.1
  have c1 := B2.out.2.1
  have c2 := B2.out.2.2.1
  have c3 := B2.out.2.2.2.1
  have c4 := B2.out.2.2.2.2.1
  have c5 := B2.out.2.2.2.2.2.1
  have c6 := B2.out.2.2.2.2.2.2
  go_wp2
  go_ret2
  exact ⟨by first | rfl | simp, by repeat (first | exact HBW2.out | apply pw_below_drewN | apply below_alloc | apply below_drew1)⟩
set_option maxHeartbeats 2000000 in
set_option maxRecDepth 100000 in
theorem ref_24 (d n m a c imm : Int) (w : World) (hch : brazierref2_Check.f 40 24 d n m a c imm = some 0) :
    Calls Try.prog 8 #[.agg #[.int .i64 24, .int .i64 d, .int .i64 n, .int .i64 m, .int .i64 a, .int .i64 c, .int .i64 imm]] w fun e w' => e = .returned (.tuple #[.int .u32 (Go.bits .or .u32 (2483027968) ((Go.bits .and .u32 (wrap64 (Int.tdiv imm 4) % 4294967296) 67108863))), .int .i64 0]) ∧ Below w.heap.size w w' := by
  have HC := Lib.hid hch
  have HB := Lib.hid (show brazierref3_Base.f 24 = some 2483027968 by kernel_rfl)
  clear hch
  go_enter Try.func8, Try.ntmps8
  go_wp2_with fail
  refine (brazierref2_Check.calls 40 24 d n m a c imm 0 _ HC.out).mono ?_
  rintro e w1 ⟨rfl, hb1⟩
  have B1 := Aside0.mk (Box.of_below hb1)
  have c0 := B1.out.1
  have HBW := Aside0.mk (((Below.refl w.heap.size w).alloc (Nat.le_refl _) _).trans (hb1.mono (by simp)))
  have hz : w.heap.size < w1.heap.size := by have := hb1.size; simp at this; omega
  clear hb1
  go_wp2_with fail
  refine (brazierref3_Base.calls 24 2483027968 _ HB.out).mono ?_
  rintro e w2 ⟨rfl, hb2⟩
  have B2 : Aside0 (Box w2 w.heap.size 24 d n m a c imm) := ⟨by
    have hc : ∀ j, w2.cell? ⟨w.heap.size, j, none⟩ = w1.cell? ⟨w.heap.size, j, none⟩ := fun j => (hb2.cell (p := ⟨w.heap.size, j, none⟩) (by simp; omega)).trans (by first | rfl | simp)
    exact ⟨(hc 0).trans B1.out.1, (hc 1).trans B1.out.2.1, (hc 2).trans B1.out.2.2.1, (hc 3).trans B1.out.2.2.2.1, (hc 4).trans B1.out.2.2.2.2.1, (hc 5).trans B1.out.2.2.2.2.2.1, (hc 6).trans B1.out.2.2.2.2.2.2⟩⟩
  have HBW2 : Aside0 (Below w.heap.size w w2) := ⟨by first | exact HBW.out.trans (hb2.mono (by first | omega | (simp; omega))) | exact (pw_below_drewN HBW.out _).trans (hb2.mono (by first | omega | (simp; omega))) | exact (below_drew1 HBW.out).trans (hb2.mono (by first | omega | (simp; omega)))⟩
  clear HBW hz c0 B1 hb2
  have c0 := B2.out.1
  have c1 := B2.out.2.1
  have c2 := B2.out.2.2.1
  have c3 := B2.out.2.2.2.1
  have c4 := B2.out.2.2.2.2.1
  have c5 := B2.out.2.2.2.2.2.1
  have c6 := B2.out.2.2.2.2.2.2
  go_wp2
  go_ret2
  exact ⟨by first | rfl | simp, by repeat (first | exact HBW2.out | apply pw_below_drewN | apply below_alloc | apply below_drew1)⟩
set_option maxHeartbeats 2000000 in
set_option maxRecDepth 100000 in
theorem ref_25 (d n m a c imm : Int) (w : World) (hch : brazierref2_Check.f 40 25 d n m a c imm = some 0) :
    Calls Try.prog 8 #[.agg #[.int .i64 25, .int .i64 d, .int .i64 n, .int .i64 m, .int .i64 a, .int .i64 c, .int .i64 imm]] w fun e w' => e = .returned (.tuple #[.int .u32 (Go.bits .or .u32 (3592355840) (n % 4294967296 * 32 % 4294967296)), .int .i64 0]) ∧ Below w.heap.size w w' := by
  have HC := Lib.hid hch
  have HB := Lib.hid (show brazierref3_Base.f 25 = some 3592355840 by kernel_rfl)
  clear hch
  go_enter Try.func8, Try.ntmps8
  go_wp2_with fail
  refine (brazierref2_Check.calls 40 25 d n m a c imm 0 _ HC.out).mono ?_
  rintro e w1 ⟨rfl, hb1⟩
  have B1 := Aside0.mk (Box.of_below hb1)
  have c0 := B1.out.1
  have HBW := Aside0.mk (((Below.refl w.heap.size w).alloc (Nat.le_refl _) _).trans (hb1.mono (by simp)))
  have hz : w.heap.size < w1.heap.size := by have := hb1.size; simp at this; omega
  clear hb1
  go_wp2_with fail
  refine (brazierref3_Base.calls 25 3592355840 _ HB.out).mono ?_
  rintro e w2 ⟨rfl, hb2⟩
  have B2 : Aside0 (Box w2 w.heap.size 25 d n m a c imm) := ⟨by
    have hc : ∀ j, w2.cell? ⟨w.heap.size, j, none⟩ = w1.cell? ⟨w.heap.size, j, none⟩ := fun j => (hb2.cell (p := ⟨w.heap.size, j, none⟩) (by simp; omega)).trans (by first | rfl | simp)
    exact ⟨(hc 0).trans B1.out.1, (hc 1).trans B1.out.2.1, (hc 2).trans B1.out.2.2.1, (hc 3).trans B1.out.2.2.2.1, (hc 4).trans B1.out.2.2.2.2.1, (hc 5).trans B1.out.2.2.2.2.2.1, (hc 6).trans B1.out.2.2.2.2.2.2⟩⟩
  have HBW2 : Aside0 (Below w.heap.size w w2) := ⟨by first | exact HBW.out.trans (hb2.mono (by first | omega | (simp; omega))) | exact (pw_below_drewN HBW.out _).trans (hb2.mono (by first | omega | (simp; omega))) | exact (below_drew1 HBW.out).trans (hb2.mono (by first | omega | (simp; omega)))⟩
  clear HBW hz c0 B1 hb2
  have c0 := B2.out.1
  have c1 := B2.out.2.1
  have c2 := B2.out.2.2.1
  have c3 := B2.out.2.2.2.1
  have c4 := B2.out.2.2.2.2.1
  have c5 := B2.out.2.2.2.2.2.1
  have c6 := B2.out.2.2.2.2.2.2
  go_wp2
  go_ret2
  exact ⟨by first | rfl | simp, by repeat (first | exact HBW2.out | apply pw_below_drewN | apply below_alloc | apply below_drew1)⟩
set_option maxHeartbeats 2000000 in
set_option maxRecDepth 100000 in
theorem ref_26 (d n m a c imm : Int) (w : World) (hch : brazierref2_Check.f 40 26 d n m a c imm = some 0) :
    Calls Try.prog 8 #[.agg #[.int .i64 26, .int .i64 d, .int .i64 n, .int .i64 m, .int .i64 a, .int .i64 c, .int .i64 imm]] w fun e w' => e = .returned (.tuple #[.int .u32 (Go.bits .or .u32 (3594452992) (n % 4294967296 * 32 % 4294967296)), .int .i64 0]) ∧ Below w.heap.size w w' := by
  have HC := Lib.hid hch
  have HB := Lib.hid (show brazierref3_Base.f 26 = some 3594452992 by kernel_rfl)
  clear hch
  go_enter Try.func8, Try.ntmps8
  go_wp2_with fail
  refine (brazierref2_Check.calls 40 26 d n m a c imm 0 _ HC.out).mono ?_
  rintro e w1 ⟨rfl, hb1⟩
  have B1 := Aside0.mk (Box.of_below hb1)
  have c0 := B1.out.1
  have HBW := Aside0.mk (((Below.refl w.heap.size w).alloc (Nat.le_refl _) _).trans (hb1.mono (by simp)))
  have hz : w.heap.size < w1.heap.size := by have := hb1.size; simp at this; omega
  clear hb1
  go_wp2_with fail
  refine (brazierref3_Base.calls 26 3594452992 _ HB.out).mono ?_
  rintro e w2 ⟨rfl, hb2⟩
  have B2 : Aside0 (Box w2 w.heap.size 26 d n m a c imm) := ⟨by
    have hc : ∀ j, w2.cell? ⟨w.heap.size, j, none⟩ = w1.cell? ⟨w.heap.size, j, none⟩ := fun j => (hb2.cell (p := ⟨w.heap.size, j, none⟩) (by simp; omega)).trans (by first | rfl | simp)
    exact ⟨(hc 0).trans B1.out.1, (hc 1).trans B1.out.2.1, (hc 2).trans B1.out.2.2.1, (hc 3).trans B1.out.2.2.2.1, (hc 4).trans B1.out.2.2.2.2.1, (hc 5).trans B1.out.2.2.2.2.2.1, (hc 6).trans B1.out.2.2.2.2.2.2⟩⟩
  have HBW2 : Aside0 (Below w.heap.size w w2) := ⟨by first | exact HBW.out.trans (hb2.mono (by first | omega | (simp; omega))) | exact (pw_below_drewN HBW.out _).trans (hb2.mono (by first | omega | (simp; omega))) | exact (below_drew1 HBW.out).trans (hb2.mono (by first | omega | (simp; omega)))⟩
  clear HBW hz c0 B1 hb2
  have c0 := B2.out.1
  have c1 := B2.out.2.1
  have c2 := B2.out.2.2.1
  have c3 := B2.out.2.2.2.1
  have c4 := B2.out.2.2.2.2.1
  have c5 := B2.out.2.2.2.2.2.1
  have c6 := B2.out.2.2.2.2.2.2
  go_wp2
  go_ret2
  exact ⟨by first | rfl | simp, by repeat (first | exact HBW2.out | apply pw_below_drewN | apply below_alloc | apply below_drew1)⟩
set_option maxHeartbeats 2000000 in
set_option maxRecDepth 100000 in
theorem ref_27 (d n m a c imm : Int) (w : World) (hch : brazierref2_Check.f 40 27 d n m a c imm = some 0) :
    Calls Try.prog 8 #[.agg #[.int .i64 27, .int .i64 d, .int .i64 n, .int .i64 m, .int .i64 a, .int .i64 c, .int .i64 imm]] w fun e w' => e = .returned (.tuple #[.int .u32 (Go.bits .or .u32 (3596550144) (n % 4294967296 * 32 % 4294967296)), .int .i64 0]) ∧ Below w.heap.size w w' := by
  have HC := Lib.hid hch
  have HB := Lib.hid (show brazierref3_Base.f 27 = some 3596550144 by kernel_rfl)
  clear hch
  go_enter Try.func8, Try.ntmps8
  go_wp2_with fail
  refine (brazierref2_Check.calls 40 27 d n m a c imm 0 _ HC.out).mono ?_
  rintro e w1 ⟨rfl, hb1⟩
  have B1 := Aside0.mk (Box.of_below hb1)
  have c0 := B1.out.1
  have HBW := Aside0.mk (((Below.refl w.heap.size w).alloc (Nat.le_refl _) _).trans (hb1.mono (by simp)))
  have hz : w.heap.size < w1.heap.size := by have := hb1.size; simp at this; omega
  clear hb1
  go_wp2_with fail
  refine (brazierref3_Base.calls 27 3596550144 _ HB.out).mono ?_
  rintro e w2 ⟨rfl, hb2⟩
  have B2 : Aside0 (Box w2 w.heap.size 27 d n m a c imm) := ⟨by
    have hc : ∀ j, w2.cell? ⟨w.heap.size, j, none⟩ = w1.cell? ⟨w.heap.size, j, none⟩ := fun j => (hb2.cell (p := ⟨w.heap.size, j, none⟩) (by simp; omega)).trans (by first | rfl | simp)
    exact ⟨(hc 0).trans B1.out.1, (hc 1).trans B1.out.2.1, (hc 2).trans B1.out.2.2.1, (hc 3).trans B1.out.2.2.2.1, (hc 4).trans B1.out.2.2.2.2.1, (hc 5).trans B1.out.2.2.2.2.2.1, (hc 6).trans B1.out.2.2.2.2.2.2⟩⟩
  have HBW2 : Aside0 (Below w.heap.size w w2) := ⟨by first | exact HBW.out.trans (hb2.mono (by first | omega | (simp; omega))) | exact (pw_below_drewN HBW.out _).trans (hb2.mono (by first | omega | (simp; omega))) | exact (below_drew1 HBW.out).trans (hb2.mono (by first | omega | (simp; omega)))⟩
  clear HBW hz c0 B1 hb2
  have c0 := B2.out.1
  have c1 := B2.out.2.1
  have c2 := B2.out.2.2.1
  have c3 := B2.out.2.2.2.1
  have c4 := B2.out.2.2.2.2.1
  have c5 := B2.out.2.2.2.2.2.1
  have c6 := B2.out.2.2.2.2.2.2
  go_wp2
  go_ret2
  exact ⟨by first | rfl | simp, by repeat (first | exact HBW2.out | apply pw_below_drewN | apply below_alloc | apply below_drew1)⟩
set_option maxHeartbeats 2000000 in
set_option maxRecDepth 100000 in
theorem ref_28 (d n m a c imm : Int) (w : World) (hch : brazierref2_Check.f 40 28 d n m a c imm = some 0) :
    Calls Try.prog 8 #[.agg #[.int .i64 28, .int .i64 d, .int .i64 n, .int .i64 m, .int .i64 a, .int .i64 c, .int .i64 imm]] w fun e w' => e = .returned (.tuple #[.int .u32 (Go.bits .or .u32 (Go.bits .or .u32 (Go.bits .or .u32 (4181721088) (imm % 4294967296 / 8 * 1024 % 4294967296)) (n % 4294967296 * 32 % 4294967296)) (d % 4294967296)), .int .i64 0]) ∧ Below w.heap.size w w' := by
  have HC := Lib.hid hch
  have HB := Lib.hid (show brazierref3_Base.f 28 = some 4181721088 by kernel_rfl)
  clear hch
  go_enter Try.func8, Try.ntmps8
  go_wp2_with fail
  refine (brazierref2_Check.calls 40 28 d n m a c imm 0 _ HC.out).mono ?_
  rintro e w1 ⟨rfl, hb1⟩
  have B1 := Aside0.mk (Box.of_below hb1)
  have c0 := B1.out.1
  have HBW := Aside0.mk (((Below.refl w.heap.size w).alloc (Nat.le_refl _) _).trans (hb1.mono (by simp)))
  have hz : w.heap.size < w1.heap.size := by have := hb1.size; simp at this; omega
  clear hb1
  go_wp2_with fail
  refine (brazierref3_Base.calls 28 4181721088 _ HB.out).mono ?_
  rintro e w2 ⟨rfl, hb2⟩
  have B2 : Aside0 (Box w2 w.heap.size 28 d n m a c imm) := ⟨by
    have hc : ∀ j, w2.cell? ⟨w.heap.size, j, none⟩ = w1.cell? ⟨w.heap.size, j, none⟩ := fun j => (hb2.cell (p := ⟨w.heap.size, j, none⟩) (by simp; omega)).trans (by first | rfl | simp)
    exact ⟨(hc 0).trans B1.out.1, (hc 1).trans B1.out.2.1, (hc 2).trans B1.out.2.2.1, (hc 3).trans B1.out.2.2.2.1, (hc 4).trans B1.out.2.2.2.2.1, (hc 5).trans B1.out.2.2.2.2.2.1, (hc 6).trans B1.out.2.2.2.2.2.2⟩⟩
  have HBW2 : Aside0 (Below w.heap.size w w2) := ⟨by first | exact HBW.out.trans (hb2.mono (by first | omega | (simp; omega))) | exact (pw_below_drewN HBW.out _).trans (hb2.mono (by first | omega | (simp; omega))) | exact (below_drew1 HBW.out).trans (hb2.mono (by first | omega | (simp; omega)))⟩
  clear HBW hz c0 B1 hb2
  have c0 := B2.out.1
  have c1 := B2.out.2.1
  have c2 := B2.out.2.2.1
  have c3 := B2.out.2.2.2.1
  have c4 := B2.out.2.2.2.2.1
  have c5 := B2.out.2.2.2.2.2.1
  have c6 := B2.out.2.2.2.2.2.2
  go_wp2
  go_ret2
  exact ⟨by first | rfl | simp, by repeat (first | exact HBW2.out | apply pw_below_drewN | apply below_alloc | apply below_drew1)⟩
set_option maxHeartbeats 2000000 in
set_option maxRecDepth 100000 in
theorem ref_29 (d n m a c imm : Int) (w : World) (hch : brazierref2_Check.f 40 29 d n m a c imm = some 0) :
    Calls Try.prog 8 #[.agg #[.int .i64 29, .int .i64 d, .int .i64 n, .int .i64 m, .int .i64 a, .int .i64 c, .int .i64 imm]] w fun e w' => e = .returned (.tuple #[.int .u32 (Go.bits .or .u32 (Go.bits .or .u32 (Go.bits .or .u32 (4177526784) (imm % 4294967296 / 8 * 1024 % 4294967296)) (n % 4294967296 * 32 % 4294967296)) (d % 4294967296)), .int .i64 0]) ∧ Below w.heap.size w w' := by
  have HC := Lib.hid hch
  have HB := Lib.hid (show brazierref3_Base.f 29 = some 4177526784 by kernel_rfl)
  clear hch
  go_enter Try.func8, Try.ntmps8
  go_wp2_with fail
  refine (brazierref2_Check.calls 40 29 d n m a c imm 0 _ HC.out).mono ?_
  rintro e w1 ⟨rfl, hb1⟩
  have B1 := Aside0.mk (Box.of_below hb1)
  have c0 := B1.out.1
  have HBW := Aside0.mk (((Below.refl w.heap.size w).alloc (Nat.le_refl _) _).trans (hb1.mono (by simp)))
  have hz : w.heap.size < w1.heap.size := by have := hb1.size; simp at this; omega
  clear hb1
  go_wp2_with fail
  refine (brazierref3_Base.calls 29 4177526784 _ HB.out).mono ?_
  rintro e w2 ⟨rfl, hb2⟩
  have B2 : Aside0 (Box w2 w.heap.size 29 d n m a c imm) := ⟨by
    have hc : ∀ j, w2.cell? ⟨w.heap.size, j, none⟩ = w1.cell? ⟨w.heap.size, j, none⟩ := fun j => (hb2.cell (p := ⟨w.heap.size, j, none⟩) (by simp; omega)).trans (by first | rfl | simp)
    exact ⟨(hc 0).trans B1.out.1, (hc 1).trans B1.out.2.1, (hc 2).trans B1.out.2.2.1, (hc 3).trans B1.out.2.2.2.1, (hc 4).trans B1.out.2.2.2.2.1, (hc 5).trans B1.out.2.2.2.2.2.1, (hc 6).trans B1.out.2.2.2.2.2.2⟩⟩
  have HBW2 : Aside0 (Below w.heap.size w w2) := ⟨by first | exact HBW.out.trans (hb2.mono (by first | omega | (simp; omega))) | exact (pw_below_drewN HBW.out _).trans (hb2.mono (by first | omega | (simp; omega))) | exact (below_drew1 HBW.out).trans (hb2.mono (by first | omega | (simp; omega)))⟩
  clear HBW hz c0 B1 hb2
  have c0 := B2.out.1
  have c1 := B2.out.2.1
  have c2 := B2.out.2.2.1
  have c3 := B2.out.2.2.2.1
  have c4 := B2.out.2.2.2.2.1
  have c5 := B2.out.2.2.2.2.2.1
  have c6 := B2.out.2.2.2.2.2.2
  go_wp2
  go_ret2
  exact ⟨by first | rfl | simp, by repeat (first | exact HBW2.out | apply pw_below_drewN | apply below_alloc | apply below_drew1)⟩
set_option maxHeartbeats 2000000 in
set_option maxRecDepth 100000 in
theorem ref_30 (d n m a c imm : Int) (w : World) (hch : brazierref2_Check.f 40 30 d n m a c imm = some 0) :
    Calls Try.prog 8 #[.agg #[.int .i64 30, .int .i64 d, .int .i64 n, .int .i64 m, .int .i64 a, .int .i64 c, .int .i64 imm]] w fun e w' => e = .returned (.tuple #[.int .u32 (Go.bits .or .u32 (Go.bits .or .u32 (Go.bits .or .u32 (960495616) (imm % 4294967296 * 1024 % 4294967296)) (n % 4294967296 * 32 % 4294967296)) (d % 4294967296)), .int .i64 0]) ∧ Below w.heap.size w w' := by
  have HC := Lib.hid hch
  have HB := Lib.hid (show brazierref3_Base.f 30 = some 960495616 by kernel_rfl)
  clear hch
  go_enter Try.func8, Try.ntmps8
  go_wp2_with fail
  refine (brazierref2_Check.calls 40 30 d n m a c imm 0 _ HC.out).mono ?_
  rintro e w1 ⟨rfl, hb1⟩
  have B1 := Aside0.mk (Box.of_below hb1)
  have c0 := B1.out.1
  have HBW := Aside0.mk (((Below.refl w.heap.size w).alloc (Nat.le_refl _) _).trans (hb1.mono (by simp)))
  have hz : w.heap.size < w1.heap.size := by have := hb1.size; simp at this; omega
  clear hb1
  go_wp2_with fail
  refine (brazierref3_Base.calls 30 960495616 _ HB.out).mono ?_
  rintro e w2 ⟨rfl, hb2⟩
  have B2 : Aside0 (Box w2 w.heap.size 30 d n m a c imm) := ⟨by
    have hc : ∀ j, w2.cell? ⟨w.heap.size, j, none⟩ = w1.cell? ⟨w.heap.size, j, none⟩ := fun j => (hb2.cell (p := ⟨w.heap.size, j, none⟩) (by simp; omega)).trans (by first | rfl | simp)
    exact ⟨(hc 0).trans B1.out.1, (hc 1).trans B1.out.2.1, (hc 2).trans B1.out.2.2.1, (hc 3).trans B1.out.2.2.2.1, (hc 4).trans B1.out.2.2.2.2.1, (hc 5).trans B1.out.2.2.2.2.2.1, (hc 6).trans B1.out.2.2.2.2.2.2⟩⟩
  have HBW2 : Aside0 (Below w.heap.size w w2) := ⟨by first | exact HBW.out.trans (hb2.mono (by first | omega | (simp; omega))) | exact (pw_below_drewN HBW.out _).trans (hb2.mono (by first | omega | (simp; omega))) | exact (below_drew1 HBW.out).trans (hb2.mono (by first | omega | (simp; omega)))⟩
  clear HBW hz c0 B1 hb2
  have c0 := B2.out.1
  have c1 := B2.out.2.1
  have c2 := B2.out.2.2.1
  have c3 := B2.out.2.2.2.1
  have c4 := B2.out.2.2.2.2.1
  have c5 := B2.out.2.2.2.2.2.1
  have c6 := B2.out.2.2.2.2.2.2
  go_wp2
  go_ret2
  exact ⟨by first | rfl | simp, by repeat (first | exact HBW2.out | apply pw_below_drewN | apply below_alloc | apply below_drew1)⟩
set_option maxHeartbeats 2000000 in
set_option maxRecDepth 100000 in
theorem ref_31 (d n m a c imm : Int) (w : World) (hch : brazierref2_Check.f 40 31 d n m a c imm = some 0) :
    Calls Try.prog 8 #[.agg #[.int .i64 31, .int .i64 d, .int .i64 n, .int .i64 m, .int .i64 a, .int .i64 c, .int .i64 imm]] w fun e w' => e = .returned (.tuple #[.int .u32 (Go.bits .or .u32 (Go.bits .or .u32 (Go.bits .or .u32 (4167071744) (m % 4294967296 * 65536 % 4294967296)) (n % 4294967296 * 32 % 4294967296)) (d % 4294967296)), .int .i64 0]) ∧ Below w.heap.size w w' := by
  have HC := Lib.hid hch
  have HB := Lib.hid (show brazierref3_Base.f 31 = some 4167071744 by kernel_rfl)
  clear hch
  go_enter Try.func8, Try.ntmps8
  go_wp2_with fail
  refine (brazierref2_Check.calls 40 31 d n m a c imm 0 _ HC.out).mono ?_
  rintro e w1 ⟨rfl, hb1⟩
  have B1 := Aside0.mk (Box.of_below hb1)
  have c0 := B1.out.1
  have HBW := Aside0.mk (((Below.refl w.heap.size w).alloc (Nat.le_refl _) _).trans (hb1.mono (by simp)))
  have hz : w.heap.size < w1.heap.size := by have := hb1.size; simp at this; omega
  clear hb1
  go_wp2_with fail
  refine (brazierref3_Base.calls 31 4167071744 _ HB.out).mono ?_
  rintro e w2 ⟨rfl, hb2⟩
  have B2 : Aside0 (Box w2 w.heap.size 31 d n m a c imm) := ⟨by
    have hc : ∀ j, w2.cell? ⟨w.heap.size, j, none⟩ = w1.cell? ⟨w.heap.size, j, none⟩ := fun j => (hb2.cell (p := ⟨w.heap.size, j, none⟩) (by simp; omega)).trans (by first | rfl | simp)
    exact ⟨(hc 0).trans B1.out.1, (hc 1).trans B1.out.2.1, (hc 2).trans B1.out.2.2.1, (hc 3).trans B1.out.2.2.2.1, (hc 4).trans B1.out.2.2.2.2.1, (hc 5).trans B1.out.2.2.2.2.2.1, (hc 6).trans B1.out.2.2.2.2.2.2⟩⟩
  have HBW2 : Aside0 (Below w.heap.size w w2) := ⟨by first | exact HBW.out.trans (hb2.mono (by first | omega | (simp; omega))) | exact (pw_below_drewN HBW.out _).trans (hb2.mono (by first | omega | (simp; omega))) | exact (below_drew1 HBW.out).trans (hb2.mono (by first | omega | (simp; omega)))⟩
  clear HBW hz c0 B1 hb2
  have c0 := B2.out.1
  have c1 := B2.out.2.1
  have c2 := B2.out.2.2.1
  have c3 := B2.out.2.2.2.1
  have c4 := B2.out.2.2.2.2.1
  have c5 := B2.out.2.2.2.2.2.1
  have c6 := B2.out.2.2.2.2.2.2
  go_wp2
  go_ret2
  exact ⟨by first | rfl | simp, by repeat (first | exact HBW2.out | apply pw_below_drewN | apply below_alloc | apply below_drew1)⟩
set_option maxHeartbeats 2000000 in
set_option maxRecDepth 100000 in
theorem ref_32 (d n m a c imm : Int) (w : World) (hch : brazierref2_Check.f 40 32 d n m a c imm = some 0) :
    Calls Try.prog 8 #[.agg #[.int .i64 32, .int .i64 d, .int .i64 n, .int .i64 m, .int .i64 a, .int .i64 c, .int .i64 imm]] w fun e w' => e = .returned (.tuple #[.int .u32 (Go.bits .or .u32 (Go.bits .or .u32 (Go.bits .or .u32 (4162877440) (m % 4294967296 * 65536 % 4294967296)) (n % 4294967296 * 32 % 4294967296)) (d % 4294967296)), .int .i64 0]) ∧ Below w.heap.size w w' := by
  have HC := Lib.hid hch
  have HB := Lib.hid (show brazierref3_Base.f 32 = some 4162877440 by kernel_rfl)
  clear hch
  go_enter Try.func8, Try.ntmps8
  go_wp2_with fail
  refine (brazierref2_Check.calls 40 32 d n m a c imm 0 _ HC.out).mono ?_
  rintro e w1 ⟨rfl, hb1⟩
  have B1 := Aside0.mk (Box.of_below hb1)
  have c0 := B1.out.1
  have HBW := Aside0.mk (((Below.refl w.heap.size w).alloc (Nat.le_refl _) _).trans (hb1.mono (by simp)))
  have hz : w.heap.size < w1.heap.size := by have := hb1.size; simp at this; omega
  clear hb1
  go_wp2_with fail
  refine (brazierref3_Base.calls 32 4162877440 _ HB.out).mono ?_
  rintro e w2 ⟨rfl, hb2⟩
  have B2 : Aside0 (Box w2 w.heap.size 32 d n m a c imm) := ⟨by
    have hc : ∀ j, w2.cell? ⟨w.heap.size, j, none⟩ = w1.cell? ⟨w.heap.size, j, none⟩ := fun j => (hb2.cell (p := ⟨w.heap.size, j, none⟩) (by simp; omega)).trans (by first | rfl | simp)
    exact ⟨(hc 0).trans B1.out.1, (hc 1).trans B1.out.2.1, (hc 2).trans B1.out.2.2.1, (hc 3).trans B1.out.2.2.2.1, (hc 4).trans B1.out.2.2.2.2.1, (hc 5).trans B1.out.2.2.2.2.2.1, (hc 6).trans B1.out.2.2.2.2.2.2⟩⟩
  have HBW2 : Aside0 (Below w.heap.size w w2) := ⟨by first | exact HBW.out.trans (hb2.mono (by first | omega | (simp; omega))) | exact (pw_below_drewN HBW.out _).trans (hb2.mono (by first | omega | (simp; omega))) | exact (below_drew1 HBW.out).trans (hb2.mono (by first | omega | (simp; omega)))⟩
  clear HBW hz c0 B1 hb2
  have c0 := B2.out.1
  have c1 := B2.out.2.1
  have c2 := B2.out.2.2.1
  have c3 := B2.out.2.2.2.1
  have c4 := B2.out.2.2.2.2.1
  have c5 := B2.out.2.2.2.2.2.1
  have c6 := B2.out.2.2.2.2.2.2
  go_wp2
  go_ret2
  exact ⟨by first | rfl | simp, by repeat (first | exact HBW2.out | apply pw_below_drewN | apply below_alloc | apply below_drew1)⟩
end Go.Proofs.Ytbjikmepfpkmjaa.X
