/- enc.barriers, and enc.Word at DMB. -/
import Derived.Test.YtbjikmepfpkmjaazEncWordsXWord
import Derived.Maps.Own
import Derived.Maps.OwnOps
import Derived.Deep.RegionWith
namespace Go.Proofs.Ytbjikmepfpkmjaa.X
set_option linter.unusedVariables false
set_option linter.unusedSimpArgs false
open Go.RowKit Go.Maps Go.Proofs.YtbjikmepfpkmjaaW.PrintWords Go.Proofs.YtbjikmepfpkmjaaW.PrintLast Go.Proofs.YtbjikmepfpkmjaaW.PrintMore Go.Proofs.Ytbjikmepfpkmjaa.Q
attribute [local go_sem] setCell_drewN alloc_drewN
theorem zero2 (w : World) : (zeroValue 2).run Try.prog w = .ok (.int .i64 0) w := by kernel_rfl
theorem law2 : Keyed Try.prog 2 := int_keyed Try.underlying2
def barD : DataW Unit := (((DataW.map []).put (.int .i64 0) (.lit (.int .i64 11))).put (.int .i64 1) (.lit (.int .i64 9))).put (.int .i64 2) (.lit (.int .i64 10))
set_option maxHeartbeats 1000000 in
set_option maxRecDepth 100000 in
theorem barriers_calls (w : World) : Calls Try.prog 16 #[] w fun e w' => ∃ B, B = w.heap.size ∧ e = .returned (.map (some B)) ∧ Below w.heap.size w w' ∧ w'.ownsMap Try.prog 2 (plainElem Try.prog 2) B 3 barD := by
  have h0 := World.ownsMap_made (H := Unit) w Try.prog 2 (plainElem Try.prog 2)
  obtain ⟨w1, r1, h1, g1⟩ := h0.update law2 Try.underlying47 (by decide) (key := .int .i64 0) (val := .int .i64 11) (keyOf_int_mk Try.underlying2 (by decide)) (plainElem_int Try.underlying2 (by decide))
  obtain ⟨w2, r2, h2, g2⟩ := h1.update law2 Try.underlying47 (by decide) (key := .int .i64 1) (val := .int .i64 9) (keyOf_int_mk Try.underlying2 (by decide)) (plainElem_int Try.underlying2 (by decide))
  obtain ⟨w3, r3, h3, g3⟩ := h2.update law2 Try.underlying47 (by decide) (key := .int .i64 2) (val := .int .i64 10) (keyOf_int_mk Try.underlying2 (by decide)) (plainElem_int Try.underlying2 (by decide))
  have hB : Below w.heap.size w w3 := ((((Below.refl w.heap.size w).alloc (Nat.le_refl _) _).grown g1 (by simp) (fun b hb => by simp at hb; omega)).grown g2 (Nat.le_of_lt h1.lt) (fun b hb => by simp at hb; omega)).grown g3 (Nat.le_of_lt h2.lt) (fun b hb => by simp at hb; omega)
  have HB := Aside0.mk hB
  have H3 := Aside0.mk h3
  clear hB h0 h1 h2 h3 g1 g2 g3
  have hmm := @run_makeMap Try.prog
  go_enter Try.func16, Try.ntmps16
  go_wp2
  go_ret
  exact ⟨_, rfl, rfl, HB.out, H3.out⟩
set_option maxHeartbeats 2000000 in
set_option maxRecDepth 100000 in
theorem word_37_0 (d n m a c b r : Int) (w : World) (hch : a64_Check.f 40 37 d n m a c 0 = some 0) (hb : enc_Base.f 37 = some b) (h : putAll [(8, 4, 11)] b = some r)
    (hd0 : 0 ≤ d) (hd1 : d ≤ 31) (hn0 : 0 ≤ n) (hn1 : n ≤ 31) (hm0 : 0 ≤ m) (hm1 : m ≤ 31) (ha0 : 0 ≤ a) (ha1 : a ≤ 31) (hc0 : 0 ≤ c) (hc1 : c ≤ 15) :
    Calls Try.prog 7 #[.agg #[.int .i64 37, .int .i64 d, .int .i64 n, .int .i64 m, .int .i64 a, .int .i64 c, .int .i64 0]] w fun e w' => e = .returned (.tuple #[.int .u32 r, .int .i64 0]) ∧ Below w.heap.size w w' := by
  simp only [putAll, Option.bind_eq_some_iff, Option.some.injEq] at h
  obtain ⟨x1, hx1, rfl⟩ := h
  have HC := Lib.hid hch
  have HB := Lib.hid hb
  have H1 := Lib.hid hx1
  clear hch hb hx1
  go_enter Try.func7, Try.ntmps7
  go_wp2_with fail
  refine (a64_Check.calls 40 37 d n m a c 0 0 _ HC.out).mono ?_
  rintro e w1 ⟨rfl, hb1⟩
  have B1 := Aside0.mk (Box.of_below hb1)
  have c0 := B1.out.1
  have hz : w.heap.size < w1.heap.size := by have := hb1.size; simp at this; omega
  have HBW := Aside0.mk (((Below.refl w.heap.size w).alloc (Nat.le_refl _) _).trans (hb1.mono (by simp)))
  clear hb1
  go_wp2_with fail
  refine (enc_Base.calls 37 b _ HB.out).mono ?_
  rintro e w2 ⟨he, ⟨nd, hnd⟩⟩
  subst he
  have B2 : Aside0 (Box w2 w.heap.size 37 d n m a c 0) := ⟨by rw [hnd]; exact B1.out.drewN nd⟩
  have hz2 : w.heap.size < w2.heap.size := by rw [hnd]; exact hz
  have HBW2 : Aside0 (Below w.heap.size w w2) := ⟨by rw [hnd]; exact pw_below_drewN HBW.out nd⟩
  clear HBW hz c0 B1 hnd
  have c0 := fun o => (B2.out.alloc o).1
  have c1 := fun o => (B2.out.alloc o).2.1
  have c2 := fun o => (B2.out.alloc o).2.2.1
  have c3 := fun o => (B2.out.alloc o).2.2.2.1
  have c4 := fun o => (B2.out.alloc o).2.2.2.2.1
  have c5 := fun o => (B2.out.alloc o).2.2.2.2.2.1
  have c6 := fun o => (B2.out.alloc o).2.2.2.2.2.2
  go_wp2_with fail
  go_region_with (first
    | (go_at_call 16
       refine (barriers_calls _).mono ?_
       rintro e w3 ⟨B, hBe, he, hB3, hown⟩
       subst he
       have hB' : B = w2.heap.size + 1 := by rw [hBe]; simp
       clear hBe
       subst hB'
       have k6 : w3.cell? ⟨w.heap.size, 6, none⟩ = some (.int .i64 0) := (hB3.cell (p := ⟨w.heap.size, 6, none⟩) (by simp; omega)).trans (c6 _)
       have kw : w3.cell? ⟨w2.heap.size, 0, none⟩ = some (.int .u32 b) := (hB3.cell (p := ⟨w2.heap.size, 0, none⟩) (by simp)).trans (by simp)
       have kf : w3.frozen? ⟨w2.heap.size, 0, none⟩ = false := (hB3.frozen (p := ⟨w2.heap.size, 0, none⟩) (by simp)).trans (by simp)
       obtain ⟨cv, hrun, hat, _⟩ := hown.lookup_int law2 Try.underlying47 Try.underlying2 (zero2 _) (key := .int .i64 0) (keyOf_int_mk Try.underlying2 (by decide))
       have hcv : cv = 11 := by
         have h9 : barD.atKey (.int .i64 0) (.lit (.int .i64 0)) = .lit (.int .i64 11) := by kernel_rfl
         rw [h9] at hat
         injection hat with hat
         injection hat with _ hat
         exact hat.symm
       subst hcv
       have hrun1 : (Instr.lookup 47 (.map (some _)) (.int .i64 0) false).run Try.prog w3.drew = .ok (.int .i64 11) w3.drew := (by
         obtain ⟨cv, hr, hat2, _⟩ := hown.drew.lookup_int law2 Try.underlying47 Try.underlying2 (zero2 _) (key := .int .i64 0) (keyOf_int_mk Try.underlying2 (by decide))
         have h9 : barD.atKey (.int .i64 0) (.lit (.int .i64 0)) = .lit (.int .i64 11) := by kernel_rfl
         rw [h9] at hat2
         injection hat2 with hat2
         injection hat2 with _ hat2
         subst hat2
         exact hr)
       have HB3 : Aside0 (Below w.heap.size w w3) := ⟨by first | exact (below_alloc HBW2.out _).trans (hB3.mono (by simp; omega)) | exact (below_drew (below_alloc HBW2.out _)).trans (hB3.mono (by simp; omega))⟩
       clear hB3 hown hat)
    | (go_at_call 14
       refine (lay_calls ⟨w2.heap.size, 0, none⟩ b 8 4 11 x1 _ H1.out kw kf).mono ?_
       rintro e w' ⟨he, nd1, hw'⟩
       subst he
       subst hw'))
  all_goals (
    have ks := World.cell?_setCell_same w3 _ (.int .u32 x1) kw
    go_wp2_with fail
    go_ret2
    exact ⟨rfl, by repeat (first | exact HB3.out | apply pw_below_drewN | apply below_alloc | apply below_drew1 | refine below_set ?_ (show w.heap.size ≤ w2.heap.size by omega))⟩)
set_option maxHeartbeats 2000000 in
set_option maxRecDepth 100000 in
theorem word_37_1 (d n m a c b r : Int) (w : World) (hch : a64_Check.f 40 37 d n m a c 1 = some 0) (hb : enc_Base.f 37 = some b) (h : putAll [(8, 4, 9)] b = some r)
    (hd0 : 0 ≤ d) (hd1 : d ≤ 31) (hn0 : 0 ≤ n) (hn1 : n ≤ 31) (hm0 : 0 ≤ m) (hm1 : m ≤ 31) (ha0 : 0 ≤ a) (ha1 : a ≤ 31) (hc0 : 0 ≤ c) (hc1 : c ≤ 15) :
    Calls Try.prog 7 #[.agg #[.int .i64 37, .int .i64 d, .int .i64 n, .int .i64 m, .int .i64 a, .int .i64 c, .int .i64 1]] w fun e w' => e = .returned (.tuple #[.int .u32 r, .int .i64 0]) ∧ Below w.heap.size w w' := by
  simp only [putAll, Option.bind_eq_some_iff, Option.some.injEq] at h
  obtain ⟨x1, hx1, rfl⟩ := h
  have HC := Lib.hid hch
  have HB := Lib.hid hb
  have H1 := Lib.hid hx1
  clear hch hb hx1
  go_enter Try.func7, Try.ntmps7
  go_wp2_with fail
  refine (a64_Check.calls 40 37 d n m a c 1 0 _ HC.out).mono ?_
  rintro e w1 ⟨rfl, hb1⟩
  have B1 := Aside0.mk (Box.of_below hb1)
  have c0 := B1.out.1
  have hz : w.heap.size < w1.heap.size := by have := hb1.size; simp at this; omega
  have HBW := Aside0.mk (((Below.refl w.heap.size w).alloc (Nat.le_refl _) _).trans (hb1.mono (by simp)))
  clear hb1
  go_wp2_with fail
  refine (enc_Base.calls 37 b _ HB.out).mono ?_
  rintro e w2 ⟨he, ⟨nd, hnd⟩⟩
  subst he
  have B2 : Aside0 (Box w2 w.heap.size 37 d n m a c 1) := ⟨by rw [hnd]; exact B1.out.drewN nd⟩
  have hz2 : w.heap.size < w2.heap.size := by rw [hnd]; exact hz
  have HBW2 : Aside0 (Below w.heap.size w w2) := ⟨by rw [hnd]; exact pw_below_drewN HBW.out nd⟩
  clear HBW hz c0 B1 hnd
  have c0 := fun o => (B2.out.alloc o).1
  have c1 := fun o => (B2.out.alloc o).2.1
  have c2 := fun o => (B2.out.alloc o).2.2.1
  have c3 := fun o => (B2.out.alloc o).2.2.2.1
  have c4 := fun o => (B2.out.alloc o).2.2.2.2.1
  have c5 := fun o => (B2.out.alloc o).2.2.2.2.2.1
  have c6 := fun o => (B2.out.alloc o).2.2.2.2.2.2
  go_wp2_with fail
  go_region_with (first
    | (go_at_call 16
       refine (barriers_calls _).mono ?_
       rintro e w3 ⟨B, hBe, he, hB3, hown⟩
       subst he
       have hB' : B = w2.heap.size + 1 := by rw [hBe]; simp
       clear hBe
       subst hB'
       have k6 : w3.cell? ⟨w.heap.size, 6, none⟩ = some (.int .i64 1) := (hB3.cell (p := ⟨w.heap.size, 6, none⟩) (by simp; omega)).trans (c6 _)
       have kw : w3.cell? ⟨w2.heap.size, 0, none⟩ = some (.int .u32 b) := (hB3.cell (p := ⟨w2.heap.size, 0, none⟩) (by simp)).trans (by simp)
       have kf : w3.frozen? ⟨w2.heap.size, 0, none⟩ = false := (hB3.frozen (p := ⟨w2.heap.size, 0, none⟩) (by simp)).trans (by simp)
       obtain ⟨cv, hrun, hat, _⟩ := hown.lookup_int law2 Try.underlying47 Try.underlying2 (zero2 _) (key := .int .i64 1) (keyOf_int_mk Try.underlying2 (by decide))
       have hcv : cv = 9 := by
         have h9 : barD.atKey (.int .i64 1) (.lit (.int .i64 0)) = .lit (.int .i64 9) := by kernel_rfl
         rw [h9] at hat
         injection hat with hat
         injection hat with _ hat
         exact hat.symm
       subst hcv
       have hrun1 : (Instr.lookup 47 (.map (some _)) (.int .i64 1) false).run Try.prog w3.drew = .ok (.int .i64 9) w3.drew := (by
         obtain ⟨cv, hr, hat2, _⟩ := hown.drew.lookup_int law2 Try.underlying47 Try.underlying2 (zero2 _) (key := .int .i64 1) (keyOf_int_mk Try.underlying2 (by decide))
         have h9 : barD.atKey (.int .i64 1) (.lit (.int .i64 0)) = .lit (.int .i64 9) := by kernel_rfl
         rw [h9] at hat2
         injection hat2 with hat2
         injection hat2 with _ hat2
         subst hat2
         exact hr)
       have HB3 : Aside0 (Below w.heap.size w w3) := ⟨by first | exact (below_alloc HBW2.out _).trans (hB3.mono (by simp; omega)) | exact (below_drew (below_alloc HBW2.out _)).trans (hB3.mono (by simp; omega))⟩
       clear hB3 hown hat)
    | (go_at_call 14
       refine (lay_calls ⟨w2.heap.size, 0, none⟩ b 8 4 9 x1 _ H1.out kw kf).mono ?_
       rintro e w' ⟨he, nd1, hw'⟩
       subst he
       subst hw'))
  all_goals (
    have ks := World.cell?_setCell_same w3 _ (.int .u32 x1) kw
    go_wp2_with fail
    go_ret2
    exact ⟨rfl, by repeat (first | exact HB3.out | apply pw_below_drewN | apply below_alloc | apply below_drew1 | refine below_set ?_ (show w.heap.size ≤ w2.heap.size by omega))⟩)
set_option maxHeartbeats 2000000 in
set_option maxRecDepth 100000 in
theorem word_37_2 (d n m a c b r : Int) (w : World) (hch : a64_Check.f 40 37 d n m a c 2 = some 0) (hb : enc_Base.f 37 = some b) (h : putAll [(8, 4, 10)] b = some r)
    (hd0 : 0 ≤ d) (hd1 : d ≤ 31) (hn0 : 0 ≤ n) (hn1 : n ≤ 31) (hm0 : 0 ≤ m) (hm1 : m ≤ 31) (ha0 : 0 ≤ a) (ha1 : a ≤ 31) (hc0 : 0 ≤ c) (hc1 : c ≤ 15) :
    Calls Try.prog 7 #[.agg #[.int .i64 37, .int .i64 d, .int .i64 n, .int .i64 m, .int .i64 a, .int .i64 c, .int .i64 2]] w fun e w' => e = .returned (.tuple #[.int .u32 r, .int .i64 0]) ∧ Below w.heap.size w w' := by
  simp only [putAll, Option.bind_eq_some_iff, Option.some.injEq] at h
  obtain ⟨x1, hx1, rfl⟩ := h
  have HC := Lib.hid hch
  have HB := Lib.hid hb
  have H1 := Lib.hid hx1
  clear hch hb hx1
  go_enter Try.func7, Try.ntmps7
  go_wp2_with fail
  refine (a64_Check.calls 40 37 d n m a c 2 0 _ HC.out).mono ?_
  rintro e w1 ⟨rfl, hb1⟩
  have B1 := Aside0.mk (Box.of_below hb1)
  have c0 := B1.out.1
  have hz : w.heap.size < w1.heap.size := by have := hb1.size; simp at this; omega
  have HBW := Aside0.mk (((Below.refl w.heap.size w).alloc (Nat.le_refl _) _).trans (hb1.mono (by simp)))
  clear hb1
  go_wp2_with fail
  refine (enc_Base.calls 37 b _ HB.out).mono ?_
  rintro e w2 ⟨he, ⟨nd, hnd⟩⟩
  subst he
  have B2 : Aside0 (Box w2 w.heap.size 37 d n m a c 2) := ⟨by rw [hnd]; exact B1.out.drewN nd⟩
  have hz2 : w.heap.size < w2.heap.size := by rw [hnd]; exact hz
  have HBW2 : Aside0 (Below w.heap.size w w2) := ⟨by rw [hnd]; exact pw_below_drewN HBW.out nd⟩
  clear HBW hz c0 B1 hnd
  have c0 := fun o => (B2.out.alloc o).1
  have c1 := fun o => (B2.out.alloc o).2.1
  have c2 := fun o => (B2.out.alloc o).2.2.1
  have c3 := fun o => (B2.out.alloc o).2.2.2.1
  have c4 := fun o => (B2.out.alloc o).2.2.2.2.1
  have c5 := fun o => (B2.out.alloc o).2.2.2.2.2.1
  have c6 := fun o => (B2.out.alloc o).2.2.2.2.2.2
  go_wp2_with fail
  go_region_with (first
    | (go_at_call 16
       refine (barriers_calls _).mono ?_
       rintro e w3 ⟨B, hBe, he, hB3, hown⟩
       subst he
       have hB' : B = w2.heap.size + 1 := by rw [hBe]; simp
       clear hBe
       subst hB'
       have k6 : w3.cell? ⟨w.heap.size, 6, none⟩ = some (.int .i64 2) := (hB3.cell (p := ⟨w.heap.size, 6, none⟩) (by simp; omega)).trans (c6 _)
       have kw : w3.cell? ⟨w2.heap.size, 0, none⟩ = some (.int .u32 b) := (hB3.cell (p := ⟨w2.heap.size, 0, none⟩) (by simp)).trans (by simp)
       have kf : w3.frozen? ⟨w2.heap.size, 0, none⟩ = false := (hB3.frozen (p := ⟨w2.heap.size, 0, none⟩) (by simp)).trans (by simp)
       obtain ⟨cv, hrun, hat, _⟩ := hown.lookup_int law2 Try.underlying47 Try.underlying2 (zero2 _) (key := .int .i64 2) (keyOf_int_mk Try.underlying2 (by decide))
       have hcv : cv = 10 := by
         have h9 : barD.atKey (.int .i64 2) (.lit (.int .i64 0)) = .lit (.int .i64 10) := by kernel_rfl
         rw [h9] at hat
         injection hat with hat
         injection hat with _ hat
         exact hat.symm
       subst hcv
       have hrun1 : (Instr.lookup 47 (.map (some _)) (.int .i64 2) false).run Try.prog w3.drew = .ok (.int .i64 10) w3.drew := (by
         obtain ⟨cv, hr, hat2, _⟩ := hown.drew.lookup_int law2 Try.underlying47 Try.underlying2 (zero2 _) (key := .int .i64 2) (keyOf_int_mk Try.underlying2 (by decide))
         have h9 : barD.atKey (.int .i64 2) (.lit (.int .i64 0)) = .lit (.int .i64 10) := by kernel_rfl
         rw [h9] at hat2
         injection hat2 with hat2
         injection hat2 with _ hat2
         subst hat2
         exact hr)
       have HB3 : Aside0 (Below w.heap.size w w3) := ⟨by first | exact (below_alloc HBW2.out _).trans (hB3.mono (by simp; omega)) | exact (below_drew (below_alloc HBW2.out _)).trans (hB3.mono (by simp; omega))⟩
       clear hB3 hown hat)
    | (go_at_call 14
       refine (lay_calls ⟨w2.heap.size, 0, none⟩ b 8 4 10 x1 _ H1.out kw kf).mono ?_
       rintro e w' ⟨he, nd1, hw'⟩
       subst he
       subst hw'))
  all_goals (
    have ks := World.cell?_setCell_same w3 _ (.int .u32 x1) kw
    go_wp2_with fail
    go_ret2
    exact ⟨rfl, by repeat (first | exact HB3.out | apply pw_below_drewN | apply below_alloc | apply below_drew1 | refine below_set ?_ (show w.heap.size ≤ w2.heap.size by omega))⟩)
end Go.Proofs.Ytbjikmepfpkmjaa.X
