/- enc.Word, instruction by instruction (part 3). -/
import Derived.Test.YtbjikmepfpkmjaazEncWordsXWord
namespace Go.Proofs.Ytbjikmepfpkmjaa.X
set_option linter.unusedVariables false
set_option linter.unusedSimpArgs false
open Go.RowKit Go.Proofs.YtbjikmepfpkmjaaW.PrintWords Go.Proofs.YtbjikmepfpkmjaaW.PrintLast Go.Proofs.YtbjikmepfpkmjaaW.PrintMore Go.Proofs.Ytbjikmepfpkmjaa.Q
attribute [local go_sem] setCell_drewN alloc_drewN
set_option maxHeartbeats 2000000 in
set_option maxRecDepth 100000 in
theorem word_22 (d n m a c imm b r : Int) (w : World) (hch : a64_Check.f 40 22 d n m a c imm = some 0) (hb : enc_Base.f 22 = some b) (h : putAll [(5, 19, (Int.tdiv imm 4)), (0, 5, d)] b = some r)
    (hd0 : 0 ≤ d) (hd1 : d ≤ 31) (hn0 : 0 ≤ n) (hn1 : n ≤ 31) (hm0 : 0 ≤ m) (hm1 : m ≤ 31) (ha0 : 0 ≤ a) (ha1 : a ≤ 31) (hc0 : 0 ≤ c) (hc1 : c ≤ 15) (hi0 : -134217728 ≤ imm) (hi1 : imm < 134217728) :
    Calls Try.prog 7 #[.agg #[.int .i64 22, .int .i64 d, .int .i64 n, .int .i64 m, .int .i64 a, .int .i64 c, .int .i64 imm]] w fun e w' => e = .returned (.tuple #[.int .u32 r, .int .i64 0]) ∧ Below w.heap.size w w' := by
  simp only [putAll, Option.bind_eq_some_iff, Option.some.injEq] at h
  obtain ⟨x1, hx1, x2, hx2, rfl⟩ := h
  have HC := Lib.hid hch
  have HB := Lib.hid hb
  have H1 := Lib.hid hx1
  have H2 := Lib.hid hx2
  clear hch hb hx1 hx2
  go_enter Try.func7, Try.ntmps7
  go_wp2_with fail
  refine (a64_Check.calls 40 22 d n m a c imm 0 _ HC.out).mono ?_
  rintro e w1 ⟨rfl, hb1⟩
  have B1 := Aside0.mk (Box.of_below hb1)
  have c0 := B1.out.1
  have hz : w.heap.size < w1.heap.size := by have := hb1.size; simp at this; omega
  have HBW := Aside0.mk (((Below.refl w.heap.size w).alloc (Nat.le_refl _) _).trans (hb1.mono (by simp)))
  clear hb1
  go_wp2_with fail
  refine (enc_Base.calls 22 b _ HB.out).mono ?_
  rintro e w2 ⟨he, ⟨nd, hnd⟩⟩
  subst he
  have B2 : Aside0 (Box w2 w.heap.size 22 d n m a c imm) := ⟨by rw [hnd]; exact B1.out.drewN nd⟩
  have hz2 : w.heap.size < w2.heap.size := by rw [hnd]; exact hz
  have HBW2 : Aside0 (Below w.heap.size w w2) := ⟨by rw [hnd]; exact pw_below_drewN HBW.out nd⟩
  clear HBW hz c0 B1 hnd
  have c0 := fun o => (B2.out.alloc o).1
  have c1 := fun o => (B2.out.alloc o).2.1
  have c2 := fun o => (B2.out.alloc o).2.2.1
  have c3 := fun o => (B2.out.alloc o).2.2.2.1
  have c4 := fun o => (B2.out.alloc o).2.2.2.2.1
  have c5 := fun o => (B2.out.alloc o).2.2.2.2.2.1
  have c6 := fun o => (B2.out.alloc o).2.2.2.2.2.2
  go_wp2_with fail
  refine (lay_calls ⟨w2.heap.size, 0, none⟩ b 5 19 (Int.tdiv imm 4) x1 _ H1.out (by simp [setCell_drewN, alloc_drewN]) (by simp [setCell_drewN, alloc_drewN])).mono ?_
  rintro e w' ⟨rfl, nd1, rfl⟩
  go_wp2_with fail
  refine (reg_calls ⟨w2.heap.size, 0, none⟩ x1 0 d x2 _ H2.out hd0 hd1 (by simp [setCell_drewN, alloc_drewN]) (by simp [setCell_drewN, alloc_drewN])).mono ?_
  rintro e w' ⟨rfl, nd2, rfl⟩
  go_wp2_with fail
  go_ret2
  exact ⟨rfl, by repeat (first | exact HBW2.out | apply pw_below_drewN | apply below_alloc | apply below_drew1 | refine below_set ?_ (show w.heap.size ≤ w2.heap.size by omega))⟩
set_option maxHeartbeats 2000000 in
set_option maxRecDepth 100000 in
theorem word_23 (d n m a c imm b r : Int) (w : World) (hch : a64_Check.f 40 23 d n m a c imm = some 0) (hb : enc_Base.f 23 = some b) (h : putAll [(5, 19, (Int.tdiv imm 4)), (0, 5, d)] b = some r)
    (hd0 : 0 ≤ d) (hd1 : d ≤ 31) (hn0 : 0 ≤ n) (hn1 : n ≤ 31) (hm0 : 0 ≤ m) (hm1 : m ≤ 31) (ha0 : 0 ≤ a) (ha1 : a ≤ 31) (hc0 : 0 ≤ c) (hc1 : c ≤ 15) (hi0 : -134217728 ≤ imm) (hi1 : imm < 134217728) :
    Calls Try.prog 7 #[.agg #[.int .i64 23, .int .i64 d, .int .i64 n, .int .i64 m, .int .i64 a, .int .i64 c, .int .i64 imm]] w fun e w' => e = .returned (.tuple #[.int .u32 r, .int .i64 0]) ∧ Below w.heap.size w w' := by
  simp only [putAll, Option.bind_eq_some_iff, Option.some.injEq] at h
  obtain ⟨x1, hx1, x2, hx2, rfl⟩ := h
  have HC := Lib.hid hch
  have HB := Lib.hid hb
  have H1 := Lib.hid hx1
  have H2 := Lib.hid hx2
  clear hch hb hx1 hx2
  go_enter Try.func7, Try.ntmps7
  go_wp2_with fail
  refine (a64_Check.calls 40 23 d n m a c imm 0 _ HC.out).mono ?_
  rintro e w1 ⟨rfl, hb1⟩
  have B1 := Aside0.mk (Box.of_below hb1)
  have c0 := B1.out.1
  have hz : w.heap.size < w1.heap.size := by have := hb1.size; simp at this; omega
  have HBW := Aside0.mk (((Below.refl w.heap.size w).alloc (Nat.le_refl _) _).trans (hb1.mono (by simp)))
  clear hb1
  go_wp2_with fail
  refine (enc_Base.calls 23 b _ HB.out).mono ?_
  rintro e w2 ⟨he, ⟨nd, hnd⟩⟩
  subst he
  have B2 : Aside0 (Box w2 w.heap.size 23 d n m a c imm) := ⟨by rw [hnd]; exact B1.out.drewN nd⟩
  have hz2 : w.heap.size < w2.heap.size := by rw [hnd]; exact hz
  have HBW2 : Aside0 (Below w.heap.size w w2) := ⟨by rw [hnd]; exact pw_below_drewN HBW.out nd⟩
  clear HBW hz c0 B1 hnd
  have c0 := fun o => (B2.out.alloc o).1
  have c1 := fun o => (B2.out.alloc o).2.1
  have c2 := fun o => (B2.out.alloc o).2.2.1
  have c3 := fun o => (B2.out.alloc o).2.2.2.1
  have c4 := fun o => (B2.out.alloc o).2.2.2.2.1
  have c5 := fun o => (B2.out.alloc o).2.2.2.2.2.1
  have c6 := fun o => (B2.out.alloc o).2.2.2.2.2.2
  go_wp2_with fail
  refine (lay_calls ⟨w2.heap.size, 0, none⟩ b 5 19 (Int.tdiv imm 4) x1 _ H1.out (by simp [setCell_drewN, alloc_drewN]) (by simp [setCell_drewN, alloc_drewN])).mono ?_
  rintro e w' ⟨rfl, nd1, rfl⟩
  go_wp2_with fail
  refine (reg_calls ⟨w2.heap.size, 0, none⟩ x1 0 d x2 _ H2.out hd0 hd1 (by simp [setCell_drewN, alloc_drewN]) (by simp [setCell_drewN, alloc_drewN])).mono ?_
  rintro e w' ⟨rfl, nd2, rfl⟩
  go_wp2_with fail
  go_ret2
  exact ⟨rfl, by repeat (first | exact HBW2.out | apply pw_below_drewN | apply below_alloc | apply below_drew1 | refine below_set ?_ (show w.heap.size ≤ w2.heap.size by omega))⟩
set_option maxHeartbeats 2000000 in
set_option maxRecDepth 100000 in
theorem word_24 (d n m a c imm b r : Int) (w : World) (hch : a64_Check.f 40 24 d n m a c imm = some 0) (hb : enc_Base.f 24 = some b) (h : putAll [(0, 26, (Int.tdiv imm 4))] b = some r)
    (hd0 : 0 ≤ d) (hd1 : d ≤ 31) (hn0 : 0 ≤ n) (hn1 : n ≤ 31) (hm0 : 0 ≤ m) (hm1 : m ≤ 31) (ha0 : 0 ≤ a) (ha1 : a ≤ 31) (hc0 : 0 ≤ c) (hc1 : c ≤ 15) (hi0 : -134217728 ≤ imm) (hi1 : imm < 134217728) :
    Calls Try.prog 7 #[.agg #[.int .i64 24, .int .i64 d, .int .i64 n, .int .i64 m, .int .i64 a, .int .i64 c, .int .i64 imm]] w fun e w' => e = .returned (.tuple #[.int .u32 r, .int .i64 0]) ∧ Below w.heap.size w w' := by
  simp only [putAll, Option.bind_eq_some_iff, Option.some.injEq] at h
  obtain ⟨x1, hx1, rfl⟩ := h
  have HC := Lib.hid hch
  have HB := Lib.hid hb
  have H1 := Lib.hid hx1
  clear hch hb hx1
  go_enter Try.func7, Try.ntmps7
  go_wp2_with fail
  refine (a64_Check.calls 40 24 d n m a c imm 0 _ HC.out).mono ?_
  rintro e w1 ⟨rfl, hb1⟩
  have B1 := Aside0.mk (Box.of_below hb1)
  have c0 := B1.out.1
  have hz : w.heap.size < w1.heap.size := by have := hb1.size; simp at this; omega
  have HBW := Aside0.mk (((Below.refl w.heap.size w).alloc (Nat.le_refl _) _).trans (hb1.mono (by simp)))
  clear hb1
  go_wp2_with fail
  refine (enc_Base.calls 24 b _ HB.out).mono ?_
  rintro e w2 ⟨he, ⟨nd, hnd⟩⟩
  subst he
  have B2 : Aside0 (Box w2 w.heap.size 24 d n m a c imm) := ⟨by rw [hnd]; exact B1.out.drewN nd⟩
  have hz2 : w.heap.size < w2.heap.size := by rw [hnd]; exact hz
  have HBW2 : Aside0 (Below w.heap.size w w2) := ⟨by rw [hnd]; exact pw_below_drewN HBW.out nd⟩
  clear HBW hz c0 B1 hnd
  have c0 := fun o => (B2.out.alloc o).1
  have c1 := fun o => (B2.out.alloc o).2.1
  have c2 := fun o => (B2.out.alloc o).2.2.1
  have c3 := fun o => (B2.out.alloc o).2.2.2.1
  have c4 := fun o => (B2.out.alloc o).2.2.2.2.1
  have c5 := fun o => (B2.out.alloc o).2.2.2.2.2.1
  have c6 := fun o => (B2.out.alloc o).2.2.2.2.2.2
  go_wp2_with fail
  refine (lay_calls ⟨w2.heap.size, 0, none⟩ b 0 26 (Int.tdiv imm 4) x1 _ H1.out (by simp [setCell_drewN, alloc_drewN]) (by simp [setCell_drewN, alloc_drewN])).mono ?_
  rintro e w' ⟨rfl, nd1, rfl⟩
  go_wp2_with fail
  go_ret2
  exact ⟨rfl, by repeat (first | exact HBW2.out | apply pw_below_drewN | apply below_alloc | apply below_drew1 | refine below_set ?_ (show w.heap.size ≤ w2.heap.size by omega))⟩
set_option maxHeartbeats 2000000 in
set_option maxRecDepth 100000 in
theorem word_25 (d n m a c imm b r : Int) (w : World) (hch : a64_Check.f 40 25 d n m a c imm = some 0) (hb : enc_Base.f 25 = some b) (h : putAll [(5, 5, n)] b = some r)
    (hd0 : 0 ≤ d) (hd1 : d ≤ 31) (hn0 : 0 ≤ n) (hn1 : n ≤ 31) (hm0 : 0 ≤ m) (hm1 : m ≤ 31) (ha0 : 0 ≤ a) (ha1 : a ≤ 31) (hc0 : 0 ≤ c) (hc1 : c ≤ 15) (hi0 : -134217728 ≤ imm) (hi1 : imm < 134217728) :
    Calls Try.prog 7 #[.agg #[.int .i64 25, .int .i64 d, .int .i64 n, .int .i64 m, .int .i64 a, .int .i64 c, .int .i64 imm]] w fun e w' => e = .returned (.tuple #[.int .u32 r, .int .i64 0]) ∧ Below w.heap.size w w' := by
  simp only [putAll, Option.bind_eq_some_iff, Option.some.injEq] at h
  obtain ⟨x1, hx1, rfl⟩ := h
  have HC := Lib.hid hch
  have HB := Lib.hid hb
  have H1 := Lib.hid hx1
  clear hch hb hx1
  go_enter Try.func7, Try.ntmps7
  go_wp2_with fail
  refine (a64_Check.calls 40 25 d n m a c imm 0 _ HC.out).mono ?_
  rintro e w1 ⟨rfl, hb1⟩
  have B1 := Aside0.mk (Box.of_below hb1)
  have c0 := B1.out.1
  have hz : w.heap.size < w1.heap.size := by have := hb1.size; simp at this; omega
  have HBW := Aside0.mk (((Below.refl w.heap.size w).alloc (Nat.le_refl _) _).trans (hb1.mono (by simp)))
  clear hb1
  go_wp2_with fail
  refine (enc_Base.calls 25 b _ HB.out).mono ?_
  rintro e w2 ⟨he, ⟨nd, hnd⟩⟩
  subst he
  have B2 : Aside0 (Box w2 w.heap.size 25 d n m a c imm) := ⟨by rw [hnd]; exact B1.out.drewN nd⟩
  have hz2 : w.heap.size < w2.heap.size := by rw [hnd]; exact hz
  have HBW2 : Aside0 (Below w.heap.size w w2) := ⟨by rw [hnd]; exact pw_below_drewN HBW.out nd⟩
  clear HBW hz c0 B1 hnd
  have c0 := fun o => (B2.out.alloc o).1
  have c1 := fun o => (B2.out.alloc o).2.1
  have c2 := fun o => (B2.out.alloc o).2.2.1
  have c3 := fun o => (B2.out.alloc o).2.2.2.1
  have c4 := fun o => (B2.out.alloc o).2.2.2.2.1
  have c5 := fun o => (B2.out.alloc o).2.2.2.2.2.1
  have c6 := fun o => (B2.out.alloc o).2.2.2.2.2.2
  go_wp2_with (go_at_call 17; go_in)
  refine (reg_calls ⟨w2.heap.size, 0, none⟩ b 5 n x1 _ H1.out hn0 hn1 (by simp [setCell_drewN, alloc_drewN]) (by simp [setCell_drewN, alloc_drewN])).mono ?_
  rintro e w' ⟨rfl, nd1, rfl⟩
  go_wp2_with fail
  first | go_end0 | (refine bodyPost_ret (v := .tuple #[]) (by simp [results, Try.results17, go_sem]) rfl ?_)
  go_wp2_with fail
  go_ret2
  exact ⟨rfl, by repeat (first | exact HBW2.out | apply pw_below_drewN | apply below_alloc | apply below_drew1 | refine below_set ?_ (show w.heap.size ≤ w2.heap.size by omega))⟩
set_option maxHeartbeats 2000000 in
set_option maxRecDepth 100000 in
theorem word_26 (d n m a c imm b r : Int) (w : World) (hch : a64_Check.f 40 26 d n m a c imm = some 0) (hb : enc_Base.f 26 = some b) (h : putAll [(5, 5, n)] b = some r)
    (hd0 : 0 ≤ d) (hd1 : d ≤ 31) (hn0 : 0 ≤ n) (hn1 : n ≤ 31) (hm0 : 0 ≤ m) (hm1 : m ≤ 31) (ha0 : 0 ≤ a) (ha1 : a ≤ 31) (hc0 : 0 ≤ c) (hc1 : c ≤ 15) (hi0 : -134217728 ≤ imm) (hi1 : imm < 134217728) :
    Calls Try.prog 7 #[.agg #[.int .i64 26, .int .i64 d, .int .i64 n, .int .i64 m, .int .i64 a, .int .i64 c, .int .i64 imm]] w fun e w' => e = .returned (.tuple #[.int .u32 r, .int .i64 0]) ∧ Below w.heap.size w w' := by
  simp only [putAll, Option.bind_eq_some_iff, Option.some.injEq] at h
  obtain ⟨x1, hx1, rfl⟩ := h
  have HC := Lib.hid hch
  have HB := Lib.hid hb
  have H1 := Lib.hid hx1
  clear hch hb hx1
  go_enter Try.func7, Try.ntmps7
  go_wp2_with fail
  refine (a64_Check.calls 40 26 d n m a c imm 0 _ HC.out).mono ?_
  rintro e w1 ⟨rfl, hb1⟩
  have B1 := Aside0.mk (Box.of_below hb1)
  have c0 := B1.out.1
  have hz : w.heap.size < w1.heap.size := by have := hb1.size; simp at this; omega
  have HBW := Aside0.mk (((Below.refl w.heap.size w).alloc (Nat.le_refl _) _).trans (hb1.mono (by simp)))
  clear hb1
  go_wp2_with fail
  refine (enc_Base.calls 26 b _ HB.out).mono ?_
  rintro e w2 ⟨he, ⟨nd, hnd⟩⟩
  subst he
  have B2 : Aside0 (Box w2 w.heap.size 26 d n m a c imm) := ⟨by rw [hnd]; exact B1.out.drewN nd⟩
  have hz2 : w.heap.size < w2.heap.size := by rw [hnd]; exact hz
  have HBW2 : Aside0 (Below w.heap.size w w2) := ⟨by rw [hnd]; exact pw_below_drewN HBW.out nd⟩
  clear HBW hz c0 B1 hnd
  have c0 := fun o => (B2.out.alloc o).1
  have c1 := fun o => (B2.out.alloc o).2.1
  have c2 := fun o => (B2.out.alloc o).2.2.1
  have c3 := fun o => (B2.out.alloc o).2.2.2.1
  have c4 := fun o => (B2.out.alloc o).2.2.2.2.1
  have c5 := fun o => (B2.out.alloc o).2.2.2.2.2.1
  have c6 := fun o => (B2.out.alloc o).2.2.2.2.2.2
  go_wp2_with (go_at_call 17; go_in)
  refine (reg_calls ⟨w2.heap.size, 0, none⟩ b 5 n x1 _ H1.out hn0 hn1 (by simp [setCell_drewN, alloc_drewN]) (by simp [setCell_drewN, alloc_drewN])).mono ?_
  rintro e w' ⟨rfl, nd1, rfl⟩
  go_wp2_with fail
  first | go_end0 | (refine bodyPost_ret (v := .tuple #[]) (by simp [results, Try.results17, go_sem]) rfl ?_)
  go_wp2_with fail
  go_ret2
  exact ⟨rfl, by repeat (first | exact HBW2.out | apply pw_below_drewN | apply below_alloc | apply below_drew1 | refine below_set ?_ (show w.heap.size ≤ w2.heap.size by omega))⟩
set_option maxHeartbeats 2000000 in
set_option maxRecDepth 100000 in
theorem word_27 (d n m a c imm b r : Int) (w : World) (hch : a64_Check.f 40 27 d n m a c imm = some 0) (hb : enc_Base.f 27 = some b) (h : putAll [(5, 5, n)] b = some r)
    (hd0 : 0 ≤ d) (hd1 : d ≤ 31) (hn0 : 0 ≤ n) (hn1 : n ≤ 31) (hm0 : 0 ≤ m) (hm1 : m ≤ 31) (ha0 : 0 ≤ a) (ha1 : a ≤ 31) (hc0 : 0 ≤ c) (hc1 : c ≤ 15) (hi0 : -134217728 ≤ imm) (hi1 : imm < 134217728) :
    Calls Try.prog 7 #[.agg #[.int .i64 27, .int .i64 d, .int .i64 n, .int .i64 m, .int .i64 a, .int .i64 c, .int .i64 imm]] w fun e w' => e = .returned (.tuple #[.int .u32 r, .int .i64 0]) ∧ Below w.heap.size w w' := by
  simp only [putAll, Option.bind_eq_some_iff, Option.some.injEq] at h
  obtain ⟨x1, hx1, rfl⟩ := h
  have HC := Lib.hid hch
  have HB := Lib.hid hb
  have H1 := Lib.hid hx1
  clear hch hb hx1
  go_enter Try.func7, Try.ntmps7
  go_wp2_with fail
  refine (a64_Check.calls 40 27 d n m a c imm 0 _ HC.out).mono ?_
  rintro e w1 ⟨rfl, hb1⟩
  have B1 := Aside0.mk (Box.of_below hb1)
  have c0 := B1.out.1
  have hz : w.heap.size < w1.heap.size := by have := hb1.size; simp at this; omega
  have HBW := Aside0.mk (((Below.refl w.heap.size w).alloc (Nat.le_refl _) _).trans (hb1.mono (by simp)))
  clear hb1
  go_wp2_with fail
  refine (enc_Base.calls 27 b _ HB.out).mono ?_
  rintro e w2 ⟨he, ⟨nd, hnd⟩⟩
  subst he
  have B2 : Aside0 (Box w2 w.heap.size 27 d n m a c imm) := ⟨by rw [hnd]; exact B1.out.drewN nd⟩
  have hz2 : w.heap.size < w2.heap.size := by rw [hnd]; exact hz
  have HBW2 : Aside0 (Below w.heap.size w w2) := ⟨by rw [hnd]; exact pw_below_drewN HBW.out nd⟩
  clear HBW hz c0 B1 hnd
  have c0 := fun o => (B2.out.alloc o).1
  have c1 := fun o => (B2.out.alloc o).2.1
  have c2 := fun o => (B2.out.alloc o).2.2.1
  have c3 := fun o => (B2.out.alloc o).2.2.2.1
  have c4 := fun o => (B2.out.alloc o).2.2.2.2.1
  have c5 := fun o => (B2.out.alloc o).2.2.2.2.2.1
  have c6 := fun o => (B2.out.alloc o).2.2.2.2.2.2
  go_wp2_with (go_at_call 17; go_in)
  refine (reg_calls ⟨w2.heap.size, 0, none⟩ b 5 n x1 _ H1.out hn0 hn1 (by simp [setCell_drewN, alloc_drewN]) (by simp [setCell_drewN, alloc_drewN])).mono ?_
  rintro e w' ⟨rfl, nd1, rfl⟩
  go_wp2_with fail
  first | go_end0 | (refine bodyPost_ret (v := .tuple #[]) (by simp [results, Try.results17, go_sem]) rfl ?_)
  go_wp2_with fail
  go_ret2
  exact ⟨rfl, by repeat (first | exact HBW2.out | apply pw_below_drewN | apply below_alloc | apply below_drew1 | refine below_set ?_ (show w.heap.size ≤ w2.heap.size by omega))⟩
set_option maxHeartbeats 2000000 in
set_option maxRecDepth 100000 in
theorem word_28 (d n m a c imm b r : Int) (w : World) (hch : a64_Check.f 40 28 d n m a c imm = some 0) (hb : enc_Base.f 28 = some b) (h : putAll [(5, 5, n), (10, 12, (Int.tdiv imm 8)), (0, 5, d)] b = some r)
    (hd0 : 0 ≤ d) (hd1 : d ≤ 31) (hn0 : 0 ≤ n) (hn1 : n ≤ 31) (hm0 : 0 ≤ m) (hm1 : m ≤ 31) (ha0 : 0 ≤ a) (ha1 : a ≤ 31) (hc0 : 0 ≤ c) (hc1 : c ≤ 15) (hi0 : -134217728 ≤ imm) (hi1 : imm < 134217728) :
    Calls Try.prog 7 #[.agg #[.int .i64 28, .int .i64 d, .int .i64 n, .int .i64 m, .int .i64 a, .int .i64 c, .int .i64 imm]] w fun e w' => e = .returned (.tuple #[.int .u32 r, .int .i64 0]) ∧ Below w.heap.size w w' := by
  simp only [putAll, Option.bind_eq_some_iff, Option.some.injEq] at h
  obtain ⟨x1, hx1, x2, hx2, x3, hx3, rfl⟩ := h
  have HC := Lib.hid hch
  have HB := Lib.hid hb
  have H1 := Lib.hid hx1
  have H2 := Lib.hid hx2
  have H3 := Lib.hid hx3
  clear hch hb hx1 hx2 hx3
  go_enter Try.func7, Try.ntmps7
  go_wp2_with fail
  refine (a64_Check.calls 40 28 d n m a c imm 0 _ HC.out).mono ?_
  rintro e w1 ⟨rfl, hb1⟩
  have B1 := Aside0.mk (Box.of_below hb1)
  have c0 := B1.out.1
  have hz : w.heap.size < w1.heap.size := by have := hb1.size; simp at this; omega
  have HBW := Aside0.mk (((Below.refl w.heap.size w).alloc (Nat.le_refl _) _).trans (hb1.mono (by simp)))
  clear hb1
  go_wp2_with fail
  refine (enc_Base.calls 28 b _ HB.out).mono ?_
  rintro e w2 ⟨he, ⟨nd, hnd⟩⟩
  subst he
  have B2 : Aside0 (Box w2 w.heap.size 28 d n m a c imm) := ⟨by rw [hnd]; exact B1.out.drewN nd⟩
  have hz2 : w.heap.size < w2.heap.size := by rw [hnd]; exact hz
  have HBW2 : Aside0 (Below w.heap.size w w2) := ⟨by rw [hnd]; exact pw_below_drewN HBW.out nd⟩
  clear HBW hz c0 B1 hnd
  have c0 := fun o => (B2.out.alloc o).1
  have c1 := fun o => (B2.out.alloc o).2.1
  have c2 := fun o => (B2.out.alloc o).2.2.1
  have c3 := fun o => (B2.out.alloc o).2.2.2.1
  have c4 := fun o => (B2.out.alloc o).2.2.2.2.1
  have c5 := fun o => (B2.out.alloc o).2.2.2.2.2.1
  have c6 := fun o => (B2.out.alloc o).2.2.2.2.2.2
  go_wp2_with (go_at_call 17; go_in)
  refine (reg_calls ⟨w2.heap.size, 0, none⟩ b 5 n x1 _ H1.out hn0 hn1 (by simp [setCell_drewN, alloc_drewN]) (by simp [setCell_drewN, alloc_drewN])).mono ?_
  rintro e w' ⟨rfl, nd1, rfl⟩
  go_wp2_with fail
  refine (lay_calls ⟨w2.heap.size, 0, none⟩ x1 10 12 (Int.tdiv imm 8) x2 _ H2.out (by simp [setCell_drewN, alloc_drewN]) (by simp [setCell_drewN, alloc_drewN])).mono ?_
  rintro e w' ⟨rfl, nd2, rfl⟩
  go_wp2_with fail
  refine (reg_calls ⟨w2.heap.size, 0, none⟩ x2 0 d x3 _ H3.out hd0 hd1 (by simp [setCell_drewN, alloc_drewN]) (by simp [setCell_drewN, alloc_drewN])).mono ?_
  rintro e w' ⟨rfl, nd3, rfl⟩
  go_wp2_with fail
  first | go_end0 | (refine bodyPost_ret (v := .tuple #[]) (by simp [results, Try.results17, go_sem]) rfl ?_)
  go_wp2_with fail
  go_ret2
  exact ⟨rfl, by repeat (first | exact HBW2.out | apply pw_below_drewN | apply below_alloc | apply below_drew1 | refine below_set ?_ (show w.heap.size ≤ w2.heap.size by omega))⟩
set_option maxHeartbeats 2000000 in
set_option maxRecDepth 100000 in
theorem word_29 (d n m a c imm b r : Int) (w : World) (hch : a64_Check.f 40 29 d n m a c imm = some 0) (hb : enc_Base.f 29 = some b) (h : putAll [(5, 5, n), (10, 12, (Int.tdiv imm 8)), (0, 5, d)] b = some r)
    (hd0 : 0 ≤ d) (hd1 : d ≤ 31) (hn0 : 0 ≤ n) (hn1 : n ≤ 31) (hm0 : 0 ≤ m) (hm1 : m ≤ 31) (ha0 : 0 ≤ a) (ha1 : a ≤ 31) (hc0 : 0 ≤ c) (hc1 : c ≤ 15) (hi0 : -134217728 ≤ imm) (hi1 : imm < 134217728) :
    Calls Try.prog 7 #[.agg #[.int .i64 29, .int .i64 d, .int .i64 n, .int .i64 m, .int .i64 a, .int .i64 c, .int .i64 imm]] w fun e w' => e = .returned (.tuple #[.int .u32 r, .int .i64 0]) ∧ Below w.heap.size w w' := by
  simp only [putAll, Option.bind_eq_some_iff, Option.some.injEq] at h
  obtain ⟨x1, hx1, x2, hx2, x3, hx3, rfl⟩ := h
  have HC := Lib.hid hch
  have HB := Lib.hid hb
  have H1 := Lib.hid hx1
  have H2 := Lib.hid hx2
  have H3 := Lib.hid hx3
  clear hch hb hx1 hx2 hx3
  go_enter Try.func7, Try.ntmps7
  go_wp2_with fail
  refine (a64_Check.calls 40 29 d n m a c imm 0 _ HC.out).mono ?_
  rintro e w1 ⟨rfl, hb1⟩
  have B1 := Aside0.mk (Box.of_below hb1)
  have c0 := B1.out.1
  have hz : w.heap.size < w1.heap.size := by have := hb1.size; simp at this; omega
  have HBW := Aside0.mk (((Below.refl w.heap.size w).alloc (Nat.le_refl _) _).trans (hb1.mono (by simp)))
  clear hb1
  go_wp2_with fail
  refine (enc_Base.calls 29 b _ HB.out).mono ?_
  rintro e w2 ⟨he, ⟨nd, hnd⟩⟩
  subst he
  have B2 : Aside0 (Box w2 w.heap.size 29 d n m a c imm) := ⟨by rw [hnd]; exact B1.out.drewN nd⟩
  have hz2 : w.heap.size < w2.heap.size := by rw [hnd]; exact hz
  have HBW2 : Aside0 (Below w.heap.size w w2) := ⟨by rw [hnd]; exact pw_below_drewN HBW.out nd⟩
  clear HBW hz c0 B1 hnd
  have c0 := fun o => (B2.out.alloc o).1
  have c1 := fun o => (B2.out.alloc o).2.1
  have c2 := fun o => (B2.out.alloc o).2.2.1
  have c3 := fun o => (B2.out.alloc o).2.2.2.1
  have c4 := fun o => (B2.out.alloc o).2.2.2.2.1
  have c5 := fun o => (B2.out.alloc o).2.2.2.2.2.1
  have c6 := fun o => (B2.out.alloc o).2.2.2.2.2.2
  go_wp2_with (go_at_call 17; go_in)
  refine (reg_calls ⟨w2.heap.size, 0, none⟩ b 5 n x1 _ H1.out hn0 hn1 (by simp [setCell_drewN, alloc_drewN]) (by simp [setCell_drewN, alloc_drewN])).mono ?_
  rintro e w' ⟨rfl, nd1, rfl⟩
  go_wp2_with fail
  refine (lay_calls ⟨w2.heap.size, 0, none⟩ x1 10 12 (Int.tdiv imm 8) x2 _ H2.out (by simp [setCell_drewN, alloc_drewN]) (by simp [setCell_drewN, alloc_drewN])).mono ?_
  rintro e w' ⟨rfl, nd2, rfl⟩
  go_wp2_with fail
  refine (reg_calls ⟨w2.heap.size, 0, none⟩ x2 0 d x3 _ H3.out hd0 hd1 (by simp [setCell_drewN, alloc_drewN]) (by simp [setCell_drewN, alloc_drewN])).mono ?_
  rintro e w' ⟨rfl, nd3, rfl⟩
  go_wp2_with fail
  first | go_end0 | (refine bodyPost_ret (v := .tuple #[]) (by simp [results, Try.results17, go_sem]) rfl ?_)
  go_wp2_with fail
  go_ret2
  exact ⟨rfl, by repeat (first | exact HBW2.out | apply pw_below_drewN | apply below_alloc | apply below_drew1 | refine below_set ?_ (show w.heap.size ≤ w2.heap.size by omega))⟩
set_option maxHeartbeats 2000000 in
set_option maxRecDepth 100000 in
theorem word_30 (d n m a c imm b r : Int) (w : World) (hch : a64_Check.f 40 30 d n m a c imm = some 0) (hb : enc_Base.f 30 = some b) (h : putAll [(5, 5, n), (10, 12, imm), (0, 5, d)] b = some r)
    (hd0 : 0 ≤ d) (hd1 : d ≤ 31) (hn0 : 0 ≤ n) (hn1 : n ≤ 31) (hm0 : 0 ≤ m) (hm1 : m ≤ 31) (ha0 : 0 ≤ a) (ha1 : a ≤ 31) (hc0 : 0 ≤ c) (hc1 : c ≤ 15) (hi0 : -134217728 ≤ imm) (hi1 : imm < 134217728) :
    Calls Try.prog 7 #[.agg #[.int .i64 30, .int .i64 d, .int .i64 n, .int .i64 m, .int .i64 a, .int .i64 c, .int .i64 imm]] w fun e w' => e = .returned (.tuple #[.int .u32 r, .int .i64 0]) ∧ Below w.heap.size w w' := by
  simp only [putAll, Option.bind_eq_some_iff, Option.some.injEq] at h
  obtain ⟨x1, hx1, x2, hx2, x3, hx3, rfl⟩ := h
  have HC := Lib.hid hch
  have HB := Lib.hid hb
  have H1 := Lib.hid hx1
  have H2 := Lib.hid hx2
  have H3 := Lib.hid hx3
  clear hch hb hx1 hx2 hx3
  go_enter Try.func7, Try.ntmps7
  go_wp2_with fail
  refine (a64_Check.calls 40 30 d n m a c imm 0 _ HC.out).mono ?_
  rintro e w1 ⟨rfl, hb1⟩
  have B1 := Aside0.mk (Box.of_below hb1)
  have c0 := B1.out.1
  have hz : w.heap.size < w1.heap.size := by have := hb1.size; simp at this; omega
  have HBW := Aside0.mk (((Below.refl w.heap.size w).alloc (Nat.le_refl _) _).trans (hb1.mono (by simp)))
  clear hb1
  go_wp2_with fail
  refine (enc_Base.calls 30 b _ HB.out).mono ?_
  rintro e w2 ⟨he, ⟨nd, hnd⟩⟩
  subst he
  have B2 : Aside0 (Box w2 w.heap.size 30 d n m a c imm) := ⟨by rw [hnd]; exact B1.out.drewN nd⟩
  have hz2 : w.heap.size < w2.heap.size := by rw [hnd]; exact hz
  have HBW2 : Aside0 (Below w.heap.size w w2) := ⟨by rw [hnd]; exact pw_below_drewN HBW.out nd⟩
  clear HBW hz c0 B1 hnd
  have c0 := fun o => (B2.out.alloc o).1
  have c1 := fun o => (B2.out.alloc o).2.1
  have c2 := fun o => (B2.out.alloc o).2.2.1
  have c3 := fun o => (B2.out.alloc o).2.2.2.1
  have c4 := fun o => (B2.out.alloc o).2.2.2.2.1
  have c5 := fun o => (B2.out.alloc o).2.2.2.2.2.1
  have c6 := fun o => (B2.out.alloc o).2.2.2.2.2.2
  go_wp2_with (go_at_call 17; go_in)
  refine (reg_calls ⟨w2.heap.size, 0, none⟩ b 5 n x1 _ H1.out hn0 hn1 (by simp [setCell_drewN, alloc_drewN]) (by simp [setCell_drewN, alloc_drewN])).mono ?_
  rintro e w' ⟨rfl, nd1, rfl⟩
  go_wp2_with fail
  refine (lay_calls ⟨w2.heap.size, 0, none⟩ x1 10 12 imm x2 _ H2.out (by simp [setCell_drewN, alloc_drewN]) (by simp [setCell_drewN, alloc_drewN])).mono ?_
  rintro e w' ⟨rfl, nd2, rfl⟩
  go_wp2_with fail
  refine (reg_calls ⟨w2.heap.size, 0, none⟩ x2 0 d x3 _ H3.out hd0 hd1 (by simp [setCell_drewN, alloc_drewN]) (by simp [setCell_drewN, alloc_drewN])).mono ?_
  rintro e w' ⟨rfl, nd3, rfl⟩
  go_wp2_with fail
  first | go_end0 | (refine bodyPost_ret (v := .tuple #[]) (by simp [results, Try.results17, go_sem]) rfl ?_)
  go_wp2_with fail
  go_ret2
  exact ⟨rfl, by repeat (first | exact HBW2.out | apply pw_below_drewN | apply below_alloc | apply below_drew1 | refine below_set ?_ (show w.heap.size ≤ w2.heap.size by omega))⟩
set_option maxHeartbeats 2000000 in
set_option maxRecDepth 100000 in
theorem word_31 (d n m a c imm b r : Int) (w : World) (hch : a64_Check.f 40 31 d n m a c imm = some 0) (hb : enc_Base.f 31 = some b) (h : putAll [(5, 5, n), (16, 5, m), (0, 5, d)] b = some r)
    (hd0 : 0 ≤ d) (hd1 : d ≤ 31) (hn0 : 0 ≤ n) (hn1 : n ≤ 31) (hm0 : 0 ≤ m) (hm1 : m ≤ 31) (ha0 : 0 ≤ a) (ha1 : a ≤ 31) (hc0 : 0 ≤ c) (hc1 : c ≤ 15) (hi0 : -134217728 ≤ imm) (hi1 : imm < 134217728) :
    Calls Try.prog 7 #[.agg #[.int .i64 31, .int .i64 d, .int .i64 n, .int .i64 m, .int .i64 a, .int .i64 c, .int .i64 imm]] w fun e w' => e = .returned (.tuple #[.int .u32 r, .int .i64 0]) ∧ Below w.heap.size w w' := by
  simp only [putAll, Option.bind_eq_some_iff, Option.some.injEq] at h
  obtain ⟨x1, hx1, x2, hx2, x3, hx3, rfl⟩ := h
  have HC := Lib.hid hch
  have HB := Lib.hid hb
  have H1 := Lib.hid hx1
  have H2 := Lib.hid hx2
  have H3 := Lib.hid hx3
  clear hch hb hx1 hx2 hx3
  go_enter Try.func7, Try.ntmps7
  go_wp2_with fail
  refine (a64_Check.calls 40 31 d n m a c imm 0 _ HC.out).mono ?_
  rintro e w1 ⟨rfl, hb1⟩
  have B1 := Aside0.mk (Box.of_below hb1)
  have c0 := B1.out.1
  have hz : w.heap.size < w1.heap.size := by have := hb1.size; simp at this; omega
  have HBW := Aside0.mk (((Below.refl w.heap.size w).alloc (Nat.le_refl _) _).trans (hb1.mono (by simp)))
  clear hb1
  go_wp2_with fail
  refine (enc_Base.calls 31 b _ HB.out).mono ?_
  rintro e w2 ⟨he, ⟨nd, hnd⟩⟩
  subst he
  have B2 : Aside0 (Box w2 w.heap.size 31 d n m a c imm) := ⟨by rw [hnd]; exact B1.out.drewN nd⟩
  have hz2 : w.heap.size < w2.heap.size := by rw [hnd]; exact hz
  have HBW2 : Aside0 (Below w.heap.size w w2) := ⟨by rw [hnd]; exact pw_below_drewN HBW.out nd⟩
  clear HBW hz c0 B1 hnd
  have c0 := fun o => (B2.out.alloc o).1
  have c1 := fun o => (B2.out.alloc o).2.1
  have c2 := fun o => (B2.out.alloc o).2.2.1
  have c3 := fun o => (B2.out.alloc o).2.2.2.1
  have c4 := fun o => (B2.out.alloc o).2.2.2.2.1
  have c5 := fun o => (B2.out.alloc o).2.2.2.2.2.1
  have c6 := fun o => (B2.out.alloc o).2.2.2.2.2.2
  go_wp2_with (go_at_call 17; go_in)
  refine (reg_calls ⟨w2.heap.size, 0, none⟩ b 5 n x1 _ H1.out hn0 hn1 (by simp [setCell_drewN, alloc_drewN]) (by simp [setCell_drewN, alloc_drewN])).mono ?_
  rintro e w' ⟨rfl, nd1, rfl⟩
  go_wp2_with fail
  refine (reg_calls ⟨w2.heap.size, 0, none⟩ x1 16 m x2 _ H2.out hm0 hm1 (by simp [setCell_drewN, alloc_drewN]) (by simp [setCell_drewN, alloc_drewN])).mono ?_
  rintro e w' ⟨rfl, nd2, rfl⟩
  go_wp2_with fail
  refine (reg_calls ⟨w2.heap.size, 0, none⟩ x2 0 d x3 _ H3.out hd0 hd1 (by simp [setCell_drewN, alloc_drewN]) (by simp [setCell_drewN, alloc_drewN])).mono ?_
  rintro e w' ⟨rfl, nd3, rfl⟩
  go_wp2_with fail
  first | go_end0 | (refine bodyPost_ret (v := .tuple #[]) (by simp [results, Try.results17, go_sem]) rfl ?_)
  go_wp2_with fail
  go_ret2
  exact ⟨rfl, by repeat (first | exact HBW2.out | apply pw_below_drewN | apply below_alloc | apply below_drew1 | refine below_set ?_ (show w.heap.size ≤ w2.heap.size by omega))⟩
end Go.Proofs.Ytbjikmepfpkmjaa.X
