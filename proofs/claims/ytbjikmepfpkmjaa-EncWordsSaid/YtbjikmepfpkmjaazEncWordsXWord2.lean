/- enc.Word, instruction by instruction (part 2). -/
import Derived.Test.YtbjikmepfpkmjaazEncWordsXWord
namespace Go.Proofs.Ytbjikmepfpkmjaa.X
set_option linter.unusedVariables false
set_option linter.unusedSimpArgs false
open Go.RowKit Go.Proofs.YtbjikmepfpkmjaaW.PrintWords Go.Proofs.YtbjikmepfpkmjaaW.PrintLast Go.Proofs.YtbjikmepfpkmjaaW.PrintMore Go.Proofs.Ytbjikmepfpkmjaa.Q
attribute [local go_sem] setCell_drewN alloc_drewN
set_option maxHeartbeats 2000000 in
set_option maxRecDepth 100000 in
theorem word_11 (d n m a c imm b r : Int) (w : World) (hch : a64_Check.f 40 11 d n m a c imm = some 0) (hb : enc_Base.f 11 = some b) (h : putAll [(5, 5, n), (16, 5, m), (0, 5, d)] b = some r)
    (hd0 : 0 ≤ d) (hd1 : d ≤ 31) (hn0 : 0 ≤ n) (hn1 : n ≤ 31) (hm0 : 0 ≤ m) (hm1 : m ≤ 31) (ha0 : 0 ≤ a) (ha1 : a ≤ 31) (hc0 : 0 ≤ c) (hc1 : c ≤ 15) (hi0 : -134217728 ≤ imm) (hi1 : imm < 134217728) :
    Calls Try.prog 7 #[.agg #[.int .i64 11, .int .i64 d, .int .i64 n, .int .i64 m, .int .i64 a, .int .i64 c, .int .i64 imm]] w fun e w' => e = .returned (.tuple #[.int .u32 r, .int .i64 0]) ∧ Below w.heap.size w w' := by
  simp only [putAll, Option.bind_eq_some_iff, Option.some.injEq] at h
  obtain ⟨x1, hx1, x2, hx2, x3, hx3, rfl⟩ := h
  have HC := Lib.hid hch
  have HB := Lib.hid hb
  have H1 := Lib.hid hx1
  have H2 := Lib.hid hx2
  have H3 := Lib.hid hx3
  clear hch hb hx1 hx2 hx3
  go_enter Try.func7, Try.ntmps7
  go_wp2_with fail
  refine (a64_Check.calls 40 11 d n m a c imm 0 _ HC.out).mono ?_
  rintro e w1 ⟨rfl, hb1⟩
  have B1 := Aside0.mk (Box.of_below hb1)
  have c0 := B1.out.1
  have hz : w.heap.size < w1.heap.size := by have := hb1.size; simp at this; omega
  have HBW := Aside0.mk (((Below.refl w.heap.size w).alloc (Nat.le_refl _) _).trans (hb1.mono (by simp)))
  clear hb1
  go_wp2_with fail
  refine (enc_Base.calls 11 b _ HB.out).mono ?_
  rintro e w2 ⟨he, ⟨nd, hnd⟩⟩
  subst he
  have B2 : Aside0 (Box w2 w.heap.size 11 d n m a c imm) := ⟨by rw [hnd]; exact B1.out.drewN nd⟩
  have hz2 : w.heap.size < w2.heap.size := by rw [hnd]; exact hz
  have HBW2 : Aside0 (Below w.heap.size w w2) := ⟨by rw [hnd]; exact pw_below_drewN HBW.out nd⟩
  clear HBW hz c0 B1 hnd
  have c0 := fun o => (B2.out.alloc o).1
  have c1 := fun o => (B2.out.alloc o).2.1
  have c2 := fun o => (B2.out.alloc o).2.2.1
  have c3 := fun o => (B2.out.alloc o).2.2.2.1
  have c4 := fun o => (B2.out.alloc o).2.2.2.2.1
  have c5 := fun o => (B2.out.alloc o).2.2.2.2.2.1
  have c6 := fun o => (B2.out.alloc o).2.2.2.2.2.2
  go_wp2_with (go_at_call 17; go_in)
  refine (reg_calls ⟨w2.heap.size, 0, none⟩ b 5 n x1 _ H1.out hn0 hn1 (by simp [setCell_drewN, alloc_drewN]) (by simp [setCell_drewN, alloc_drewN])).mono ?_
  rintro e w' ⟨rfl, nd1, rfl⟩
  go_wp2_with fail
  refine (reg_calls ⟨w2.heap.size, 0, none⟩ x1 16 m x2 _ H2.out hm0 hm1 (by simp [setCell_drewN, alloc_drewN]) (by simp [setCell_drewN, alloc_drewN])).mono ?_
  rintro e w' ⟨rfl, nd2, rfl⟩
  go_wp2_with fail
  refine (reg_calls ⟨w2.heap.size, 0, none⟩ x2 0 d x3 _ H3.out hd0 hd1 (by simp [setCell_drewN, alloc_drewN]) (by simp [setCell_drewN, alloc_drewN])).mono ?_
  rintro e w' ⟨rfl, nd3, rfl⟩
  go_wp2_with fail
  first | go_end0 | (refine bodyPost_ret (v := .tuple #[]) (by simp [results, Try.results17, go_sem]) rfl ?_)
  go_wp2_with fail
  go_ret2
  exact ⟨rfl, by repeat (first | exact HBW2.out | apply pw_below_drewN | apply below_alloc | apply below_drew1 | refine below_set ?_ (show w.heap.size ≤ w2.heap.size by omega))⟩
set_option maxHeartbeats 2000000 in
set_option maxRecDepth 100000 in
theorem word_12 (d n m a c imm b r : Int) (w : World) (hch : a64_Check.f 40 12 d n m a c imm = some 0) (hb : enc_Base.f 12 = some b) (h : putAll [(5, 5, n), (16, 5, m), (0, 5, d)] b = some r)
    (hd0 : 0 ≤ d) (hd1 : d ≤ 31) (hn0 : 0 ≤ n) (hn1 : n ≤ 31) (hm0 : 0 ≤ m) (hm1 : m ≤ 31) (ha0 : 0 ≤ a) (ha1 : a ≤ 31) (hc0 : 0 ≤ c) (hc1 : c ≤ 15) (hi0 : -134217728 ≤ imm) (hi1 : imm < 134217728) :
    Calls Try.prog 7 #[.agg #[.int .i64 12, .int .i64 d, .int .i64 n, .int .i64 m, .int .i64 a, .int .i64 c, .int .i64 imm]] w fun e w' => e = .returned (.tuple #[.int .u32 r, .int .i64 0]) ∧ Below w.heap.size w w' := by
  simp only [putAll, Option.bind_eq_some_iff, Option.some.injEq] at h
  obtain ⟨x1, hx1, x2, hx2, x3, hx3, rfl⟩ := h
  have HC := Lib.hid hch
  have HB := Lib.hid hb
  have H1 := Lib.hid hx1
  have H2 := Lib.hid hx2
  have H3 := Lib.hid hx3
  clear hch hb hx1 hx2 hx3
  go_enter Try.func7, Try.ntmps7
  go_wp2_with fail
  refine (a64_Check.calls 40 12 d n m a c imm 0 _ HC.out).mono ?_
  rintro e w1 ⟨rfl, hb1⟩
  have B1 := Aside0.mk (Box.of_below hb1)
  have c0 := B1.out.1
  have hz : w.heap.size < w1.heap.size := by have := hb1.size; simp at this; omega
  have HBW := Aside0.mk (((Below.refl w.heap.size w).alloc (Nat.le_refl _) _).trans (hb1.mono (by simp)))
  clear hb1
  go_wp2_with fail
  refine (enc_Base.calls 12 b _ HB.out).mono ?_
  rintro e w2 ⟨he, ⟨nd, hnd⟩⟩
  subst he
  have B2 : Aside0 (Box w2 w.heap.size 12 d n m a c imm) := ⟨by rw [hnd]; exact B1.out.drewN nd⟩
  have hz2 : w.heap.size < w2.heap.size := by rw [hnd]; exact hz
  have HBW2 : Aside0 (Below w.heap.size w w2) := ⟨by rw [hnd]; exact pw_below_drewN HBW.out nd⟩
  clear HBW hz c0 B1 hnd
  have c0 := fun o => (B2.out.alloc o).1
  have c1 := fun o => (B2.out.alloc o).2.1
  have c2 := fun o => (B2.out.alloc o).2.2.1
  have c3 := fun o => (B2.out.alloc o).2.2.2.1
  have c4 := fun o => (B2.out.alloc o).2.2.2.2.1
  have c5 := fun o => (B2.out.alloc o).2.2.2.2.2.1
  have c6 := fun o => (B2.out.alloc o).2.2.2.2.2.2
  go_wp2_with (go_at_call 17; go_in)
  refine (reg_calls ⟨w2.heap.size, 0, none⟩ b 5 n x1 _ H1.out hn0 hn1 (by simp [setCell_drewN, alloc_drewN]) (by simp [setCell_drewN, alloc_drewN])).mono ?_
  rintro e w' ⟨rfl, nd1, rfl⟩
  go_wp2_with fail
  refine (reg_calls ⟨w2.heap.size, 0, none⟩ x1 16 m x2 _ H2.out hm0 hm1 (by simp [setCell_drewN, alloc_drewN]) (by simp [setCell_drewN, alloc_drewN])).mono ?_
  rintro e w' ⟨rfl, nd2, rfl⟩
  go_wp2_with fail
  refine (reg_calls ⟨w2.heap.size, 0, none⟩ x2 0 d x3 _ H3.out hd0 hd1 (by simp [setCell_drewN, alloc_drewN]) (by simp [setCell_drewN, alloc_drewN])).mono ?_
  rintro e w' ⟨rfl, nd3, rfl⟩
  go_wp2_with fail
  first | go_end0 | (refine bodyPost_ret (v := .tuple #[]) (by simp [results, Try.results17, go_sem]) rfl ?_)
  go_wp2_with fail
  go_ret2
  exact ⟨rfl, by repeat (first | exact HBW2.out | apply pw_below_drewN | apply below_alloc | apply below_drew1 | refine below_set ?_ (show w.heap.size ≤ w2.heap.size by omega))⟩
set_option maxHeartbeats 2000000 in
set_option maxRecDepth 100000 in
theorem word_13 (d n m a c imm b r : Int) (w : World) (hch : a64_Check.f 40 13 d n m a c imm = some 0) (hb : enc_Base.f 13 = some b) (h : putAll [(5, 5, n), (16, 5, m), (10, 5, a), (0, 5, d)] b = some r)
    (hd0 : 0 ≤ d) (hd1 : d ≤ 31) (hn0 : 0 ≤ n) (hn1 : n ≤ 31) (hm0 : 0 ≤ m) (hm1 : m ≤ 31) (ha0 : 0 ≤ a) (ha1 : a ≤ 31) (hc0 : 0 ≤ c) (hc1 : c ≤ 15) (hi0 : -134217728 ≤ imm) (hi1 : imm < 134217728) :
    Calls Try.prog 7 #[.agg #[.int .i64 13, .int .i64 d, .int .i64 n, .int .i64 m, .int .i64 a, .int .i64 c, .int .i64 imm]] w fun e w' => e = .returned (.tuple #[.int .u32 r, .int .i64 0]) ∧ Below w.heap.size w w' := by
  simp only [putAll, Option.bind_eq_some_iff, Option.some.injEq] at h
  obtain ⟨x1, hx1, x2, hx2, x3, hx3, x4, hx4, rfl⟩ := h
  have HC := Lib.hid hch
  have HB := Lib.hid hb
  have H1 := Lib.hid hx1
  have H2 := Lib.hid hx2
  have H3 := Lib.hid hx3
  have H4 := Lib.hid hx4
  clear hch hb hx1 hx2 hx3 hx4
  go_enter Try.func7, Try.ntmps7
  go_wp2_with fail
  refine (a64_Check.calls 40 13 d n m a c imm 0 _ HC.out).mono ?_
  rintro e w1 ⟨rfl, hb1⟩
  have B1 := Aside0.mk (Box.of_below hb1)
  have c0 := B1.out.1
  have hz : w.heap.size < w1.heap.size := by have := hb1.size; simp at this; omega
  have HBW := Aside0.mk (((Below.refl w.heap.size w).alloc (Nat.le_refl _) _).trans (hb1.mono (by simp)))
  clear hb1
  go_wp2_with fail
  refine (enc_Base.calls 13 b _ HB.out).mono ?_
  rintro e w2 ⟨he, ⟨nd, hnd⟩⟩
  subst he
  have B2 : Aside0 (Box w2 w.heap.size 13 d n m a c imm) := ⟨by rw [hnd]; exact B1.out.drewN nd⟩
  have hz2 : w.heap.size < w2.heap.size := by rw [hnd]; exact hz
  have HBW2 : Aside0 (Below w.heap.size w w2) := ⟨by rw [hnd]; exact pw_below_drewN HBW.out nd⟩
  clear HBW hz c0 B1 hnd
  have c0 := fun o => (B2.out.alloc o).1
  have c1 := fun o => (B2.out.alloc o).2.1
  have c2 := fun o => (B2.out.alloc o).2.2.1
  have c3 := fun o => (B2.out.alloc o).2.2.2.1
  have c4 := fun o => (B2.out.alloc o).2.2.2.2.1
  have c5 := fun o => (B2.out.alloc o).2.2.2.2.2.1
  have c6 := fun o => (B2.out.alloc o).2.2.2.2.2.2
  go_wp2_with (go_at_call 17; go_in)
  refine (reg_calls ⟨w2.heap.size, 0, none⟩ b 5 n x1 _ H1.out hn0 hn1 (by simp [setCell_drewN, alloc_drewN]) (by simp [setCell_drewN, alloc_drewN])).mono ?_
  rintro e w' ⟨rfl, nd1, rfl⟩
  go_wp2_with fail
  refine (reg_calls ⟨w2.heap.size, 0, none⟩ x1 16 m x2 _ H2.out hm0 hm1 (by simp [setCell_drewN, alloc_drewN]) (by simp [setCell_drewN, alloc_drewN])).mono ?_
  rintro e w' ⟨rfl, nd2, rfl⟩
  go_wp2_with fail
  refine (reg_calls ⟨w2.heap.size, 0, none⟩ x2 10 a x3 _ H3.out ha0 ha1 (by simp [setCell_drewN, alloc_drewN]) (by simp [setCell_drewN, alloc_drewN])).mono ?_
  rintro e w' ⟨rfl, nd3, rfl⟩
  go_wp2_with fail
  refine (reg_calls ⟨w2.heap.size, 0, none⟩ x3 0 d x4 _ H4.out hd0 hd1 (by simp [setCell_drewN, alloc_drewN]) (by simp [setCell_drewN, alloc_drewN])).mono ?_
  rintro e w' ⟨rfl, nd4, rfl⟩
  go_wp2_with fail
  first | go_end0 | (refine bodyPost_ret (v := .tuple #[]) (by simp [results, Try.results17, go_sem]) rfl ?_)
  go_wp2_with fail
  go_ret2
  exact ⟨rfl, by repeat (first | exact HBW2.out | apply pw_below_drewN | apply below_alloc | apply below_drew1 | refine below_set ?_ (show w.heap.size ≤ w2.heap.size by omega))⟩
set_option maxHeartbeats 2000000 in
set_option maxRecDepth 100000 in
theorem word_14 (d n m a c imm b r : Int) (w : World) (hch : a64_Check.f 40 14 d n m a c imm = some 0) (hb : enc_Base.f 14 = some b) (h : putAll [(5, 5, n), (16, 5, m), (10, 5, a), (0, 5, d)] b = some r)
    (hd0 : 0 ≤ d) (hd1 : d ≤ 31) (hn0 : 0 ≤ n) (hn1 : n ≤ 31) (hm0 : 0 ≤ m) (hm1 : m ≤ 31) (ha0 : 0 ≤ a) (ha1 : a ≤ 31) (hc0 : 0 ≤ c) (hc1 : c ≤ 15) (hi0 : -134217728 ≤ imm) (hi1 : imm < 134217728) :
    Calls Try.prog 7 #[.agg #[.int .i64 14, .int .i64 d, .int .i64 n, .int .i64 m, .int .i64 a, .int .i64 c, .int .i64 imm]] w fun e w' => e = .returned (.tuple #[.int .u32 r, .int .i64 0]) ∧ Below w.heap.size w w' := by
  simp only [putAll, Option.bind_eq_some_iff, Option.some.injEq] at h
  obtain ⟨x1, hx1, x2, hx2, x3, hx3, x4, hx4, rfl⟩ := h
  have HC := Lib.hid hch
  have HB := Lib.hid hb
  have H1 := Lib.hid hx1
  have H2 := Lib.hid hx2
  have H3 := Lib.hid hx3
  have H4 := Lib.hid hx4
  clear hch hb hx1 hx2 hx3 hx4
  go_enter Try.func7, Try.ntmps7
  go_wp2_with fail
  refine (a64_Check.calls 40 14 d n m a c imm 0 _ HC.out).mono ?_
  rintro e w1 ⟨rfl, hb1⟩
  have B1 := Aside0.mk (Box.of_below hb1)
  have c0 := B1.out.1
  have hz : w.heap.size < w1.heap.size := by have := hb1.size; simp at this; omega
  have HBW := Aside0.mk (((Below.refl w.heap.size w).alloc (Nat.le_refl _) _).trans (hb1.mono (by simp)))
  clear hb1
  go_wp2_with fail
  refine (enc_Base.calls 14 b _ HB.out).mono ?_
  rintro e w2 ⟨he, ⟨nd, hnd⟩⟩
  subst he
  have B2 : Aside0 (Box w2 w.heap.size 14 d n m a c imm) := ⟨by rw [hnd]; exact B1.out.drewN nd⟩
  have hz2 : w.heap.size < w2.heap.size := by rw [hnd]; exact hz
  have HBW2 : Aside0 (Below w.heap.size w w2) := ⟨by rw [hnd]; exact pw_below_drewN HBW.out nd⟩
  clear HBW hz c0 B1 hnd
  have c0 := fun o => (B2.out.alloc o).1
  have c1 := fun o => (B2.out.alloc o).2.1
  have c2 := fun o => (B2.out.alloc o).2.2.1
  have c3 := fun o => (B2.out.alloc o).2.2.2.1
  have c4 := fun o => (B2.out.alloc o).2.2.2.2.1
  have c5 := fun o => (B2.out.alloc o).2.2.2.2.2.1
  have c6 := fun o => (B2.out.alloc o).2.2.2.2.2.2
  go_wp2_with (go_at_call 17; go_in)
  refine (reg_calls ⟨w2.heap.size, 0, none⟩ b 5 n x1 _ H1.out hn0 hn1 (by simp [setCell_drewN, alloc_drewN]) (by simp [setCell_drewN, alloc_drewN])).mono ?_
  rintro e w' ⟨rfl, nd1, rfl⟩
  go_wp2_with fail
  refine (reg_calls ⟨w2.heap.size, 0, none⟩ x1 16 m x2 _ H2.out hm0 hm1 (by simp [setCell_drewN, alloc_drewN]) (by simp [setCell_drewN, alloc_drewN])).mono ?_
  rintro e w' ⟨rfl, nd2, rfl⟩
  go_wp2_with fail
  refine (reg_calls ⟨w2.heap.size, 0, none⟩ x2 10 a x3 _ H3.out ha0 ha1 (by simp [setCell_drewN, alloc_drewN]) (by simp [setCell_drewN, alloc_drewN])).mono ?_
  rintro e w' ⟨rfl, nd3, rfl⟩
  go_wp2_with fail
  refine (reg_calls ⟨w2.heap.size, 0, none⟩ x3 0 d x4 _ H4.out hd0 hd1 (by simp [setCell_drewN, alloc_drewN]) (by simp [setCell_drewN, alloc_drewN])).mono ?_
  rintro e w' ⟨rfl, nd4, rfl⟩
  go_wp2_with fail
  first | go_end0 | (refine bodyPost_ret (v := .tuple #[]) (by simp [results, Try.results17, go_sem]) rfl ?_)
  go_wp2_with fail
  go_ret2
  exact ⟨rfl, by repeat (first | exact HBW2.out | apply pw_below_drewN | apply below_alloc | apply below_drew1 | refine below_set ?_ (show w.heap.size ≤ w2.heap.size by omega))⟩
set_option maxHeartbeats 2000000 in
set_option maxRecDepth 100000 in
theorem word_15 (d n m a c imm b r : Int) (w : World) (hch : a64_Check.f 40 15 d n m a c imm = some 0) (hb : enc_Base.f 15 = some b) (h : putAll [(5, 5, n), (16, 5, m), (0, 5, d)] b = some r)
    (hd0 : 0 ≤ d) (hd1 : d ≤ 31) (hn0 : 0 ≤ n) (hn1 : n ≤ 31) (hm0 : 0 ≤ m) (hm1 : m ≤ 31) (ha0 : 0 ≤ a) (ha1 : a ≤ 31) (hc0 : 0 ≤ c) (hc1 : c ≤ 15) (hi0 : -134217728 ≤ imm) (hi1 : imm < 134217728) :
    Calls Try.prog 7 #[.agg #[.int .i64 15, .int .i64 d, .int .i64 n, .int .i64 m, .int .i64 a, .int .i64 c, .int .i64 imm]] w fun e w' => e = .returned (.tuple #[.int .u32 r, .int .i64 0]) ∧ Below w.heap.size w w' := by
  simp only [putAll, Option.bind_eq_some_iff, Option.some.injEq] at h
  obtain ⟨x1, hx1, x2, hx2, x3, hx3, rfl⟩ := h
  have HC := Lib.hid hch
  have HB := Lib.hid hb
  have H1 := Lib.hid hx1
  have H2 := Lib.hid hx2
  have H3 := Lib.hid hx3
  clear hch hb hx1 hx2 hx3
  go_enter Try.func7, Try.ntmps7
  go_wp2_with fail
  refine (a64_Check.calls 40 15 d n m a c imm 0 _ HC.out).mono ?_
  rintro e w1 ⟨rfl, hb1⟩
  have B1 := Aside0.mk (Box.of_below hb1)
  have c0 := B1.out.1
  have hz : w.heap.size < w1.heap.size := by have := hb1.size; simp at this; omega
  have HBW := Aside0.mk (((Below.refl w.heap.size w).alloc (Nat.le_refl _) _).trans (hb1.mono (by simp)))
  clear hb1
  go_wp2_with fail
  refine (enc_Base.calls 15 b _ HB.out).mono ?_
  rintro e w2 ⟨he, ⟨nd, hnd⟩⟩
  subst he
  have B2 : Aside0 (Box w2 w.heap.size 15 d n m a c imm) := ⟨by rw [hnd]; exact B1.out.drewN nd⟩
  have hz2 : w.heap.size < w2.heap.size := by rw [hnd]; exact hz
  have HBW2 : Aside0 (Below w.heap.size w w2) := ⟨by rw [hnd]; exact pw_below_drewN HBW.out nd⟩
  clear HBW hz c0 B1 hnd
  have c0 := fun o => (B2.out.alloc o).1
  have c1 := fun o => (B2.out.alloc o).2.1
  have c2 := fun o => (B2.out.alloc o).2.2.1
  have c3 := fun o => (B2.out.alloc o).2.2.2.1
  have c4 := fun o => (B2.out.alloc o).2.2.2.2.1
  have c5 := fun o => (B2.out.alloc o).2.2.2.2.2.1
  have c6 := fun o => (B2.out.alloc o).2.2.2.2.2.2
  go_wp2_with (go_at_call 17; go_in)
  refine (reg_calls ⟨w2.heap.size, 0, none⟩ b 5 n x1 _ H1.out hn0 hn1 (by simp [setCell_drewN, alloc_drewN]) (by simp [setCell_drewN, alloc_drewN])).mono ?_
  rintro e w' ⟨rfl, nd1, rfl⟩
  go_wp2_with fail
  refine (reg_calls ⟨w2.heap.size, 0, none⟩ x1 16 m x2 _ H2.out hm0 hm1 (by simp [setCell_drewN, alloc_drewN]) (by simp [setCell_drewN, alloc_drewN])).mono ?_
  rintro e w' ⟨rfl, nd2, rfl⟩
  go_wp2_with fail
  refine (reg_calls ⟨w2.heap.size, 0, none⟩ x2 0 d x3 _ H3.out hd0 hd1 (by simp [setCell_drewN, alloc_drewN]) (by simp [setCell_drewN, alloc_drewN])).mono ?_
  rintro e w' ⟨rfl, nd3, rfl⟩
  go_wp2_with fail
  first | go_end0 | (refine bodyPost_ret (v := .tuple #[]) (by simp [results, Try.results17, go_sem]) rfl ?_)
  go_wp2_with fail
  go_ret2
  exact ⟨rfl, by repeat (first | exact HBW2.out | apply pw_below_drewN | apply below_alloc | apply below_drew1 | refine below_set ?_ (show w.heap.size ≤ w2.heap.size by omega))⟩
set_option maxHeartbeats 2000000 in
set_option maxRecDepth 100000 in
theorem word_16 (d n m a c imm b r : Int) (w : World) (hch : a64_Check.f 40 16 d n m a c imm = some 0) (hb : enc_Base.f 16 = some b) (h : putAll [(5, 5, n), (16, 5, m), (0, 5, d)] b = some r)
    (hd0 : 0 ≤ d) (hd1 : d ≤ 31) (hn0 : 0 ≤ n) (hn1 : n ≤ 31) (hm0 : 0 ≤ m) (hm1 : m ≤ 31) (ha0 : 0 ≤ a) (ha1 : a ≤ 31) (hc0 : 0 ≤ c) (hc1 : c ≤ 15) (hi0 : -134217728 ≤ imm) (hi1 : imm < 134217728) :
    Calls Try.prog 7 #[.agg #[.int .i64 16, .int .i64 d, .int .i64 n, .int .i64 m, .int .i64 a, .int .i64 c, .int .i64 imm]] w fun e w' => e = .returned (.tuple #[.int .u32 r, .int .i64 0]) ∧ Below w.heap.size w w' := by
  simp only [putAll, Option.bind_eq_some_iff, Option.some.injEq] at h
  obtain ⟨x1, hx1, x2, hx2, x3, hx3, rfl⟩ := h
  have HC := Lib.hid hch
  have HB := Lib.hid hb
  have H1 := Lib.hid hx1
  have H2 := Lib.hid hx2
  have H3 := Lib.hid hx3
  clear hch hb hx1 hx2 hx3
  go_enter Try.func7, Try.ntmps7
  go_wp2_with fail
  refine (a64_Check.calls 40 16 d n m a c imm 0 _ HC.out).mono ?_
  rintro e w1 ⟨rfl, hb1⟩
  have B1 := Aside0.mk (Box.of_below hb1)
  have c0 := B1.out.1
  have hz : w.heap.size < w1.heap.size := by have := hb1.size; simp at this; omega
  have HBW := Aside0.mk (((Below.refl w.heap.size w).alloc (Nat.le_refl _) _).trans (hb1.mono (by simp)))
  clear hb1
  go_wp2_with fail
  refine (enc_Base.calls 16 b _ HB.out).mono ?_
  rintro e w2 ⟨he, ⟨nd, hnd⟩⟩
  subst he
  have B2 : Aside0 (Box w2 w.heap.size 16 d n m a c imm) := ⟨by rw [hnd]; exact B1.out.drewN nd⟩
  have hz2 : w.heap.size < w2.heap.size := by rw [hnd]; exact hz
  have HBW2 : Aside0 (Below w.heap.size w w2) := ⟨by rw [hnd]; exact pw_below_drewN HBW.out nd⟩
  clear HBW hz c0 B1 hnd
  have c0 := fun o => (B2.out.alloc o).1
  have c1 := fun o => (B2.out.alloc o).2.1
  have c2 := fun o => (B2.out.alloc o).2.2.1
  have c3 := fun o => (B2.out.alloc o).2.2.2.1
  have c4 := fun o => (B2.out.alloc o).2.2.2.2.1
  have c5 := fun o => (B2.out.alloc o).2.2.2.2.2.1
  have c6 := fun o => (B2.out.alloc o).2.2.2.2.2.2
  go_wp2_with (go_at_call 17; go_in)
  refine (reg_calls ⟨w2.heap.size, 0, none⟩ b 5 n x1 _ H1.out hn0 hn1 (by simp [setCell_drewN, alloc_drewN]) (by simp [setCell_drewN, alloc_drewN])).mono ?_
  rintro e w' ⟨rfl, nd1, rfl⟩
  go_wp2_with fail
  refine (reg_calls ⟨w2.heap.size, 0, none⟩ x1 16 m x2 _ H2.out hm0 hm1 (by simp [setCell_drewN, alloc_drewN]) (by simp [setCell_drewN, alloc_drewN])).mono ?_
  rintro e w' ⟨rfl, nd2, rfl⟩
  go_wp2_with fail
  refine (reg_calls ⟨w2.heap.size, 0, none⟩ x2 0 d x3 _ H3.out hd0 hd1 (by simp [setCell_drewN, alloc_drewN]) (by simp [setCell_drewN, alloc_drewN])).mono ?_
  rintro e w' ⟨rfl, nd3, rfl⟩
  go_wp2_with fail
  first | go_end0 | (refine bodyPost_ret (v := .tuple #[]) (by simp [results, Try.results17, go_sem]) rfl ?_)
  go_wp2_with fail
  go_ret2
  exact ⟨rfl, by repeat (first | exact HBW2.out | apply pw_below_drewN | apply below_alloc | apply below_drew1 | refine below_set ?_ (show w.heap.size ≤ w2.heap.size by omega))⟩
set_option maxHeartbeats 2000000 in
set_option maxRecDepth 100000 in
theorem word_17 (d n m a c imm b r : Int) (w : World) (hch : a64_Check.f 40 17 d n m a c imm = some 0) (hb : enc_Base.f 17 = some b) (h : putAll [(5, 5, n), (16, 5, m), (0, 5, d)] b = some r)
    (hd0 : 0 ≤ d) (hd1 : d ≤ 31) (hn0 : 0 ≤ n) (hn1 : n ≤ 31) (hm0 : 0 ≤ m) (hm1 : m ≤ 31) (ha0 : 0 ≤ a) (ha1 : a ≤ 31) (hc0 : 0 ≤ c) (hc1 : c ≤ 15) (hi0 : -134217728 ≤ imm) (hi1 : imm < 134217728) :
    Calls Try.prog 7 #[.agg #[.int .i64 17, .int .i64 d, .int .i64 n, .int .i64 m, .int .i64 a, .int .i64 c, .int .i64 imm]] w fun e w' => e = .returned (.tuple #[.int .u32 r, .int .i64 0]) ∧ Below w.heap.size w w' := by
  simp only [putAll, Option.bind_eq_some_iff, Option.some.injEq] at h
  obtain ⟨x1, hx1, x2, hx2, x3, hx3, rfl⟩ := h
  have HC := Lib.hid hch
  have HB := Lib.hid hb
  have H1 := Lib.hid hx1
  have H2 := Lib.hid hx2
  have H3 := Lib.hid hx3
  clear hch hb hx1 hx2 hx3
  go_enter Try.func7, Try.ntmps7
  go_wp2_with fail
  refine (a64_Check.calls 40 17 d n m a c imm 0 _ HC.out).mono ?_
  rintro e w1 ⟨rfl, hb1⟩
  have B1 := Aside0.mk (Box.of_below hb1)
  have c0 := B1.out.1
  have hz : w.heap.size < w1.heap.size := by have := hb1.size; simp at this; omega
  have HBW := Aside0.mk (((Below.refl w.heap.size w).alloc (Nat.le_refl _) _).trans (hb1.mono (by simp)))
  clear hb1
  go_wp2_with fail
  refine (enc_Base.calls 17 b _ HB.out).mono ?_
  rintro e w2 ⟨he, ⟨nd, hnd⟩⟩
  subst he
  have B2 : Aside0 (Box w2 w.heap.size 17 d n m a c imm) := ⟨by rw [hnd]; exact B1.out.drewN nd⟩
  have hz2 : w.heap.size < w2.heap.size := by rw [hnd]; exact hz
  have HBW2 : Aside0 (Below w.heap.size w w2) := ⟨by rw [hnd]; exact pw_below_drewN HBW.out nd⟩
  clear HBW hz c0 B1 hnd
  have c0 := fun o => (B2.out.alloc o).1
  have c1 := fun o => (B2.out.alloc o).2.1
  have c2 := fun o => (B2.out.alloc o).2.2.1
  have c3 := fun o => (B2.out.alloc o).2.2.2.1
  have c4 := fun o => (B2.out.alloc o).2.2.2.2.1
  have c5 := fun o => (B2.out.alloc o).2.2.2.2.2.1
  have c6 := fun o => (B2.out.alloc o).2.2.2.2.2.2
  go_wp2_with (go_at_call 17; go_in)
  refine (reg_calls ⟨w2.heap.size, 0, none⟩ b 5 n x1 _ H1.out hn0 hn1 (by simp [setCell_drewN, alloc_drewN]) (by simp [setCell_drewN, alloc_drewN])).mono ?_
  rintro e w' ⟨rfl, nd1, rfl⟩
  go_wp2_with fail
  refine (reg_calls ⟨w2.heap.size, 0, none⟩ x1 16 m x2 _ H2.out hm0 hm1 (by simp [setCell_drewN, alloc_drewN]) (by simp [setCell_drewN, alloc_drewN])).mono ?_
  rintro e w' ⟨rfl, nd2, rfl⟩
  go_wp2_with fail
  refine (reg_calls ⟨w2.heap.size, 0, none⟩ x2 0 d x3 _ H3.out hd0 hd1 (by simp [setCell_drewN, alloc_drewN]) (by simp [setCell_drewN, alloc_drewN])).mono ?_
  rintro e w' ⟨rfl, nd3, rfl⟩
  go_wp2_with fail
  first | go_end0 | (refine bodyPost_ret (v := .tuple #[]) (by simp [results, Try.results17, go_sem]) rfl ?_)
  go_wp2_with fail
  go_ret2
  exact ⟨rfl, by repeat (first | exact HBW2.out | apply pw_below_drewN | apply below_alloc | apply below_drew1 | refine below_set ?_ (show w.heap.size ≤ w2.heap.size by omega))⟩
set_option maxHeartbeats 2000000 in
set_option maxRecDepth 100000 in
theorem word_18 (d n m a c imm b r : Int) (w : World) (hch : a64_Check.f 40 18 d n m a c imm = some 0) (hb : enc_Base.f 18 = some b) (h : putAll [(5, 5, n), (16, 5, m), (0, 5, d)] b = some r)
    (hd0 : 0 ≤ d) (hd1 : d ≤ 31) (hn0 : 0 ≤ n) (hn1 : n ≤ 31) (hm0 : 0 ≤ m) (hm1 : m ≤ 31) (ha0 : 0 ≤ a) (ha1 : a ≤ 31) (hc0 : 0 ≤ c) (hc1 : c ≤ 15) (hi0 : -134217728 ≤ imm) (hi1 : imm < 134217728) :
    Calls Try.prog 7 #[.agg #[.int .i64 18, .int .i64 d, .int .i64 n, .int .i64 m, .int .i64 a, .int .i64 c, .int .i64 imm]] w fun e w' => e = .returned (.tuple #[.int .u32 r, .int .i64 0]) ∧ Below w.heap.size w w' := by
  simp only [putAll, Option.bind_eq_some_iff, Option.some.injEq] at h
  obtain ⟨x1, hx1, x2, hx2, x3, hx3, rfl⟩ := h
  have HC := Lib.hid hch
  have HB := Lib.hid hb
  have H1 := Lib.hid hx1
  have H2 := Lib.hid hx2
  have H3 := Lib.hid hx3
  clear hch hb hx1 hx2 hx3
  go_enter Try.func7, Try.ntmps7
  go_wp2_with fail
  refine (a64_Check.calls 40 18 d n m a c imm 0 _ HC.out).mono ?_
  rintro e w1 ⟨rfl, hb1⟩
  have B1 := Aside0.mk (Box.of_below hb1)
  have c0 := B1.out.1
  have hz : w.heap.size < w1.heap.size := by have := hb1.size; simp at this; omega
  have HBW := Aside0.mk (((Below.refl w.heap.size w).alloc (Nat.le_refl _) _).trans (hb1.mono (by simp)))
  clear hb1
  go_wp2_with fail
  refine (enc_Base.calls 18 b _ HB.out).mono ?_
  rintro e w2 ⟨he, ⟨nd, hnd⟩⟩
  subst he
  have B2 : Aside0 (Box w2 w.heap.size 18 d n m a c imm) := ⟨by rw [hnd]; exact B1.out.drewN nd⟩
  have hz2 : w.heap.size < w2.heap.size := by rw [hnd]; exact hz
  have HBW2 : Aside0 (Below w.heap.size w w2) := ⟨by rw [hnd]; exact pw_below_drewN HBW.out nd⟩
  clear HBW hz c0 B1 hnd
  have c0 := fun o => (B2.out.alloc o).1
  have c1 := fun o => (B2.out.alloc o).2.1
  have c2 := fun o => (B2.out.alloc o).2.2.1
  have c3 := fun o => (B2.out.alloc o).2.2.2.1
  have c4 := fun o => (B2.out.alloc o).2.2.2.2.1
  have c5 := fun o => (B2.out.alloc o).2.2.2.2.2.1
  have c6 := fun o => (B2.out.alloc o).2.2.2.2.2.2
  go_wp2_with (go_at_call 17; go_in)
  refine (reg_calls ⟨w2.heap.size, 0, none⟩ b 5 n x1 _ H1.out hn0 hn1 (by simp [setCell_drewN, alloc_drewN]) (by simp [setCell_drewN, alloc_drewN])).mono ?_
  rintro e w' ⟨rfl, nd1, rfl⟩
  go_wp2_with fail
  refine (reg_calls ⟨w2.heap.size, 0, none⟩ x1 16 m x2 _ H2.out hm0 hm1 (by simp [setCell_drewN, alloc_drewN]) (by simp [setCell_drewN, alloc_drewN])).mono ?_
  rintro e w' ⟨rfl, nd2, rfl⟩
  go_wp2_with fail
  refine (reg_calls ⟨w2.heap.size, 0, none⟩ x2 0 d x3 _ H3.out hd0 hd1 (by simp [setCell_drewN, alloc_drewN]) (by simp [setCell_drewN, alloc_drewN])).mono ?_
  rintro e w' ⟨rfl, nd3, rfl⟩
  go_wp2_with fail
  first | go_end0 | (refine bodyPost_ret (v := .tuple #[]) (by simp [results, Try.results17, go_sem]) rfl ?_)
  go_wp2_with fail
  go_ret2
  exact ⟨rfl, by repeat (first | exact HBW2.out | apply pw_below_drewN | apply below_alloc | apply below_drew1 | refine below_set ?_ (show w.heap.size ≤ w2.heap.size by omega))⟩
set_option maxHeartbeats 2000000 in
set_option maxRecDepth 100000 in
theorem word_19 (d n m a c imm b r : Int) (w : World) (hch : a64_Check.f 40 19 d n m a c imm = some 0) (hb : enc_Base.f 19 = some b) (h : putAll [(5, 5, n), (12, 4, c), (16, 5, m), (0, 5, d)] b = some r)
    (hd0 : 0 ≤ d) (hd1 : d ≤ 31) (hn0 : 0 ≤ n) (hn1 : n ≤ 31) (hm0 : 0 ≤ m) (hm1 : m ≤ 31) (ha0 : 0 ≤ a) (ha1 : a ≤ 31) (hc0 : 0 ≤ c) (hc1 : c ≤ 15) (hi0 : -134217728 ≤ imm) (hi1 : imm < 134217728) :
    Calls Try.prog 7 #[.agg #[.int .i64 19, .int .i64 d, .int .i64 n, .int .i64 m, .int .i64 a, .int .i64 c, .int .i64 imm]] w fun e w' => e = .returned (.tuple #[.int .u32 r, .int .i64 0]) ∧ Below w.heap.size w w' := by
  simp only [putAll, Option.bind_eq_some_iff, Option.some.injEq] at h
  obtain ⟨x1, hx1, x2, hx2, x3, hx3, x4, hx4, rfl⟩ := h
  have HC := Lib.hid hch
  have HB := Lib.hid hb
  have H1 := Lib.hid hx1
  have H2 := Lib.hid hx2
  have H3 := Lib.hid hx3
  have H4 := Lib.hid hx4
  clear hch hb hx1 hx2 hx3 hx4
  go_enter Try.func7, Try.ntmps7
  go_wp2_with fail
  refine (a64_Check.calls 40 19 d n m a c imm 0 _ HC.out).mono ?_
  rintro e w1 ⟨rfl, hb1⟩
  have B1 := Aside0.mk (Box.of_below hb1)
  have c0 := B1.out.1
  have hz : w.heap.size < w1.heap.size := by have := hb1.size; simp at this; omega
  have HBW := Aside0.mk (((Below.refl w.heap.size w).alloc (Nat.le_refl _) _).trans (hb1.mono (by simp)))
  clear hb1
  go_wp2_with fail
  refine (enc_Base.calls 19 b _ HB.out).mono ?_
  rintro e w2 ⟨he, ⟨nd, hnd⟩⟩
  subst he
  have B2 : Aside0 (Box w2 w.heap.size 19 d n m a c imm) := ⟨by rw [hnd]; exact B1.out.drewN nd⟩
  have hz2 : w.heap.size < w2.heap.size := by rw [hnd]; exact hz
  have HBW2 : Aside0 (Below w.heap.size w w2) := ⟨by rw [hnd]; exact pw_below_drewN HBW.out nd⟩
  clear HBW hz c0 B1 hnd
  have c0 := fun o => (B2.out.alloc o).1
  have c1 := fun o => (B2.out.alloc o).2.1
  have c2 := fun o => (B2.out.alloc o).2.2.1
  have c3 := fun o => (B2.out.alloc o).2.2.2.1
  have c4 := fun o => (B2.out.alloc o).2.2.2.2.1
  have c5 := fun o => (B2.out.alloc o).2.2.2.2.2.1
  have c6 := fun o => (B2.out.alloc o).2.2.2.2.2.2
  go_wp2_with (go_at_call 17; go_in)
  refine (reg_calls ⟨w2.heap.size, 0, none⟩ b 5 n x1 _ H1.out hn0 hn1 (by simp [setCell_drewN, alloc_drewN]) (by simp [setCell_drewN, alloc_drewN])).mono ?_
  rintro e w' ⟨rfl, nd1, rfl⟩
  go_wp2_with fail
  refine (lay_calls ⟨w2.heap.size, 0, none⟩ x1 12 4 c x2 _ H2.out (by simp [setCell_drewN, alloc_drewN]) (by simp [setCell_drewN, alloc_drewN])).mono ?_
  rintro e w' ⟨rfl, nd2, rfl⟩
  go_wp2_with fail
  refine (reg_calls ⟨w2.heap.size, 0, none⟩ x2 16 m x3 _ H3.out hm0 hm1 (by simp [setCell_drewN, alloc_drewN]) (by simp [setCell_drewN, alloc_drewN])).mono ?_
  rintro e w' ⟨rfl, nd3, rfl⟩
  go_wp2_with fail
  refine (reg_calls ⟨w2.heap.size, 0, none⟩ x3 0 d x4 _ H4.out hd0 hd1 (by simp [setCell_drewN, alloc_drewN]) (by simp [setCell_drewN, alloc_drewN])).mono ?_
  rintro e w' ⟨rfl, nd4, rfl⟩
  go_wp2_with fail
  first | go_end0 | (refine bodyPost_ret (v := .tuple #[]) (by simp [results, Try.results17, go_sem]) rfl ?_)
  go_wp2_with fail
  go_ret2
  exact ⟨rfl, by repeat (first | exact HBW2.out | apply pw_below_drewN | apply below_alloc | apply below_drew1 | refine below_set ?_ (show w.heap.size ≤ w2.heap.size by omega))⟩
set_option maxHeartbeats 2000000 in
set_option maxRecDepth 100000 in
theorem word_20 (d n m a c imm b r : Int) (w : World) (hch : a64_Check.f 40 20 d n m a c imm = some 0) (hb : enc_Base.f 20 = some b) (h : putAll [(0, 26, (Int.tdiv imm 4))] b = some r)
    (hd0 : 0 ≤ d) (hd1 : d ≤ 31) (hn0 : 0 ≤ n) (hn1 : n ≤ 31) (hm0 : 0 ≤ m) (hm1 : m ≤ 31) (ha0 : 0 ≤ a) (ha1 : a ≤ 31) (hc0 : 0 ≤ c) (hc1 : c ≤ 15) (hi0 : -134217728 ≤ imm) (hi1 : imm < 134217728) :
    Calls Try.prog 7 #[.agg #[.int .i64 20, .int .i64 d, .int .i64 n, .int .i64 m, .int .i64 a, .int .i64 c, .int .i64 imm]] w fun e w' => e = .returned (.tuple #[.int .u32 r, .int .i64 0]) ∧ Below w.heap.size w w' := by
  simp only [putAll, Option.bind_eq_some_iff, Option.some.injEq] at h
  obtain ⟨x1, hx1, rfl⟩ := h
  have HC := Lib.hid hch
  have HB := Lib.hid hb
  have H1 := Lib.hid hx1
  clear hch hb hx1
  go_enter Try.func7, Try.ntmps7
  go_wp2_with fail
  refine (a64_Check.calls 40 20 d n m a c imm 0 _ HC.out).mono ?_
  rintro e w1 ⟨rfl, hb1⟩
  have B1 := Aside0.mk (Box.of_below hb1)
  have c0 := B1.out.1
  have hz : w.heap.size < w1.heap.size := by have := hb1.size; simp at this; omega
  have HBW := Aside0.mk (((Below.refl w.heap.size w).alloc (Nat.le_refl _) _).trans (hb1.mono (by simp)))
  clear hb1
  go_wp2_with fail
  refine (enc_Base.calls 20 b _ HB.out).mono ?_
  rintro e w2 ⟨he, ⟨nd, hnd⟩⟩
  subst he
  have B2 : Aside0 (Box w2 w.heap.size 20 d n m a c imm) := ⟨by rw [hnd]; exact B1.out.drewN nd⟩
  have hz2 : w.heap.size < w2.heap.size := by rw [hnd]; exact hz
  have HBW2 : Aside0 (Below w.heap.size w w2) := ⟨by rw [hnd]; exact pw_below_drewN HBW.out nd⟩
  clear HBW hz c0 B1 hnd
  have c0 := fun o => (B2.out.alloc o).1
  have c1 := fun o => (B2.out.alloc o).2.1
  have c2 := fun o => (B2.out.alloc o).2.2.1
  have c3 := fun o => (B2.out.alloc o).2.2.2.1
  have c4 := fun o => (B2.out.alloc o).2.2.2.2.1
  have c5 := fun o => (B2.out.alloc o).2.2.2.2.2.1
  have c6 := fun o => (B2.out.alloc o).2.2.2.2.2.2
  go_wp2_with fail
  refine (lay_calls ⟨w2.heap.size, 0, none⟩ b 0 26 (Int.tdiv imm 4) x1 _ H1.out (by simp [setCell_drewN, alloc_drewN]) (by simp [setCell_drewN, alloc_drewN])).mono ?_
  rintro e w' ⟨rfl, nd1, rfl⟩
  go_wp2_with fail
  go_ret2
  exact ⟨rfl, by repeat (first | exact HBW2.out | apply pw_below_drewN | apply below_alloc | apply below_drew1 | refine below_set ?_ (show w.heap.size ≤ w2.heap.size by omega))⟩
set_option maxHeartbeats 2000000 in
set_option maxRecDepth 100000 in
theorem word_21 (d n m a c imm b r : Int) (w : World) (hch : a64_Check.f 40 21 d n m a c imm = some 0) (hb : enc_Base.f 21 = some b) (h : putAll [(5, 19, (Int.tdiv imm 4)), (0, 4, c)] b = some r)
    (hd0 : 0 ≤ d) (hd1 : d ≤ 31) (hn0 : 0 ≤ n) (hn1 : n ≤ 31) (hm0 : 0 ≤ m) (hm1 : m ≤ 31) (ha0 : 0 ≤ a) (ha1 : a ≤ 31) (hc0 : 0 ≤ c) (hc1 : c ≤ 15) (hi0 : -134217728 ≤ imm) (hi1 : imm < 134217728) :
    Calls Try.prog 7 #[.agg #[.int .i64 21, .int .i64 d, .int .i64 n, .int .i64 m, .int .i64 a, .int .i64 c, .int .i64 imm]] w fun e w' => e = .returned (.tuple #[.int .u32 r, .int .i64 0]) ∧ Below w.heap.size w w' := by
  simp only [putAll, Option.bind_eq_some_iff, Option.some.injEq] at h
  obtain ⟨x1, hx1, x2, hx2, rfl⟩ := h
  have HC := Lib.hid hch
  have HB := Lib.hid hb
  have H1 := Lib.hid hx1
  have H2 := Lib.hid hx2
  clear hch hb hx1 hx2
  go_enter Try.func7, Try.ntmps7
  go_wp2_with fail
  refine (a64_Check.calls 40 21 d n m a c imm 0 _ HC.out).mono ?_
  rintro e w1 ⟨rfl, hb1⟩
  have B1 := Aside0.mk (Box.of_below hb1)
  have c0 := B1.out.1
  have hz : w.heap.size < w1.heap.size := by have := hb1.size; simp at this; omega
  have HBW := Aside0.mk (((Below.refl w.heap.size w).alloc (Nat.le_refl _) _).trans (hb1.mono (by simp)))
  clear hb1
  go_wp2_with fail
  refine (enc_Base.calls 21 b _ HB.out).mono ?_
  rintro e w2 ⟨he, ⟨nd, hnd⟩⟩
  subst he
  have B2 : Aside0 (Box w2 w.heap.size 21 d n m a c imm) := ⟨by rw [hnd]; exact B1.out.drewN nd⟩
  have hz2 : w.heap.size < w2.heap.size := by rw [hnd]; exact hz
  have HBW2 : Aside0 (Below w.heap.size w w2) := ⟨by rw [hnd]; exact pw_below_drewN HBW.out nd⟩
  clear HBW hz c0 B1 hnd
  have c0 := fun o => (B2.out.alloc o).1
  have c1 := fun o => (B2.out.alloc o).2.1
  have c2 := fun o => (B2.out.alloc o).2.2.1
  have c3 := fun o => (B2.out.alloc o).2.2.2.1
  have c4 := fun o => (B2.out.alloc o).2.2.2.2.1
  have c5 := fun o => (B2.out.alloc o).2.2.2.2.2.1
  have c6 := fun o => (B2.out.alloc o).2.2.2.2.2.2
  go_wp2_with fail
  refine (lay_calls ⟨w2.heap.size, 0, none⟩ b 5 19 (Int.tdiv imm 4) x1 _ H1.out (by simp [setCell_drewN, alloc_drewN]) (by simp [setCell_drewN, alloc_drewN])).mono ?_
  rintro e w' ⟨rfl, nd1, rfl⟩
  go_wp2_with fail
  refine (lay_calls ⟨w2.heap.size, 0, none⟩ x1 0 4 c x2 _ H2.out (by simp [setCell_drewN, alloc_drewN]) (by simp [setCell_drewN, alloc_drewN])).mono ?_
  rintro e w' ⟨rfl, nd2, rfl⟩
  go_wp2_with fail
  go_ret2
  exact ⟨rfl, by repeat (first | exact HBW2.out | apply pw_below_drewN | apply below_alloc | apply below_drew1 | refine below_set ?_ (show w.heap.size ≤ w2.heap.size by omega))⟩
end Go.Proofs.Ytbjikmepfpkmjaa.X
