/- LayoutApart: what the law's function computes, and that it is true. -/
import Derived.Test.YtfammlbhfgagbaazLayoutApartPLawF
import Derived.Test.YtfammlbhfgagbaazLayoutApartPLaw2F
import Derived.Test.YtfammlbhfgagbaazLayoutApartRLBits
namespace Go.Proofs.Ytfammlbhfgagbaa.layoutApart
open Go Go.Proofs Go.Proofs.YtfammlbhfgagbaaRL Go.Proofs.Ytfammlbhfgagbaa.la Go.Proofs.Ytfammlbhfgagbaa.lawF
open Go.Proofs.Ytfammlbhfgagbaa.law2F (S post_f post_eq)
set_option linter.unusedVariables false
set_option linter.unusedSimpArgs false
set_option maxRecDepth 100000
abbrev isTrue : Res → Sto → Prop := fun r _ => r = .ret (.raw (.bool true))
theorem wu {x : Int} (h0 : 0 ≤ x) (h1 : x < 18446744073709551616) : IntKind.u64.wrap x = x := by rw [wrap_u64]; omega
theorem wi {x : Int} (h0 : -9223372036854775808 ≤ x) (h1 : x < 9223372036854775808) : IntKind.i64.wrap x = x := by rw [wrap_i64]; omega
theorem has1 (at_ sz addr : Int) (h1 : 0 ≤ addr ∧ addr < 18446744073709551616) (h2 : 0 ≤ at_ ∧ at_ < 18446744073709551616) (h3 : 0 ≤ sz ∧ sz < 18446744073709551616) : hasV at_ sz addr 1 = decide (at_ ≤ addr ∧ addr < at_ + sz) := by
  unfold hasV
  by_cases h : at_ ≤ addr ∧ addr < at_ + sz
  · rw [wu (x := addr - at_) (by omega) (by omega), wu (x := sz - (addr - at_)) (by omega) (by omega), decide_eq_true h, decide_eq_true (show addr ≥ at_ from h.1), decide_eq_true (show addr - at_ < sz by omega), decide_eq_true (show 1 ≤ sz - (addr - at_) by omega)]; rfl
  · rw [decide_eq_false h]
    by_cases ha : addr ≥ at_
    · rw [wu (x := addr - at_) (by omega) (by omega), decide_eq_false (show ¬ addr - at_ < sz by omega)]; simp
    · rw [decide_eq_false ha]; rfl
theorem in1 (at_ sz addr : Int) (h1 : 0 ≤ addr ∧ addr < 18446744073709551616) (h2 : 0 ≤ at_ ∧ at_ < 18446744073709551616) : inV at_ sz addr = decide (at_ ≤ addr ∧ addr < at_ + sz) := by
  unfold inV
  by_cases ha : addr ≥ at_
  · rw [wu (x := addr - at_) (by omega) (by omega), decide_eq_true ha, Bool.true_and]
    exact decide_eq_decide.2 ⟨fun h => ⟨ha, by omega⟩, fun h => by omega⟩
  · have e : decide (at_ ≤ addr ∧ addr < at_ + sz) = false := decide_eq_false (fun h => ha h.1)
    rw [decide_eq_false ha, e]; rfl
theorem obj_addr (o : Int) (h1 : 1 ≤ o) (h2 : o ≤ 65536) : objV (addrV o) = o := by
  unfold addrV
  rw [if_neg (by omega), wi (by omega) (by omega), wu (x := o - 1) (by omega) (by omega), wu (x := 8 * (o - 1)) (by omega) (by omega), wu (by omega) (by omega)]
  unfold objV
  have e : (2097152 + 8 * (o - 1)).tmod 8 = 0 := by rw [Int.tmod_eq_emod_of_nonneg (by omega)]; omega
  rw [if_neg (by rw [e]; omega), wu (x := 2097152 + 8 * (o - 1) - 2097152) (by omega) (by omega), wi (x := 2097152 + 8 * (o - 1) - 2097152) (by omega) (by omega), Int.tdiv_eq_ediv_of_nonneg (by omega)]
  rw [wi (x := (2097152 + 8 * (o - 1) - 2097152) / 8) (by omega) (by omega), wi (by omega) (by omega)]
  omega
theorem class_kind (c : Int) (h : kindV c ≠ 0) : classV (kindV c) = c := by
  unfold kindV at h ⊢
  by_cases h1 : 0 ≤ c ∧ c < 50
  · rw [if_pos h1, wu (x := c) (by omega) (by omega), wu (by omega) (by omega)]
    unfold classV
    rw [if_neg (by omega), if_neg (by omega), if_pos (by omega), wu (by omega) (by omega), wi (by omega) (by omega)]
    omega
  · rw [if_neg h1] at h ⊢
    by_cases h2 : c = -1 ∨ c = -2
    · rw [if_pos h2]
      rcases h2 with rfl | rfl <;> rfl
    · rw [if_neg h2] at h; exact absurd rfl h
theorem one_true : Res.ret (one1 [ofVal (Value.bool true)]) = Res.ret (V.raw (Value.bool true)) := rfl
theorem tail_ok (o cl : Int) : (match decide (o ≥ 1) with
   | true => (match decide (o ≤ 65536) with
    | true => (match objV (addrV o) != o with
     | true => Res.ret (one1 [ofVal (Value.bool false)]) = Res.ret (V.raw (Value.bool true))
     | false => (match kindV cl == 0 with
      | true => Res.ret (one1 [ofVal (Value.bool true)]) = Res.ret (V.raw (Value.bool true))
      | false => Res.ret (one1 [V.raw (Value.bool (classV (kindV cl) == cl))]) = Res.ret (V.raw (Value.bool true))))
    | false => (match kindV cl == 0 with
     | true => Res.ret (one1 [ofVal (Value.bool true)]) = Res.ret (V.raw (Value.bool true))
     | false => Res.ret (one1 [V.raw (Value.bool (classV (kindV cl) == cl))]) = Res.ret (V.raw (Value.bool true))))
   | false => (match kindV cl == 0 with
    | true => Res.ret (one1 [ofVal (Value.bool true)]) = Res.ret (V.raw (Value.bool true))
    | false => Res.ret (one1 [V.raw (Value.bool (classV (kindV cl) == cl))]) = Res.ret (V.raw (Value.bool true)))) := by
  have hk : (match kindV cl == 0 with
    | true => Res.ret (one1 [ofVal (Value.bool true)]) = Res.ret (V.raw (Value.bool true))
    | false => Res.ret (one1 [V.raw (Value.bool (classV (kindV cl) == cl))]) = Res.ret (V.raw (Value.bool true))) := by
    by_cases h : kindV cl = 0
    · rw [h]; exact one_true
    · have e : (kindV cl == 0) = false := by simpa using h
      rw [e, class_kind cl h, beq_self_eq_true]; rfl
  by_cases h1 : o ≥ 1
  · rw [decide_eq_true h1]
    by_cases h2 : o ≤ 65536
    · rw [decide_eq_true h2, obj_addr o h1 h2, bne_self_eq_false]; exact hk
    · rw [decide_eq_false h2]; exact hk
  · rw [decide_eq_false h1]; exact hk
structure Sz (s lo : Int) : Prop where
  m : (s.tmod 8 != 0) = false
  z : (s == 0) = false
  b : decide (s > 16777216) = false
  t : decide (lo > IntKind.u64.wrap (281474976710656 - s)) = false
  k : decide (0 ≤ [s].getD 0 0 ∧ [s].getD 0 0 ≤ [s].getD 0 0 ∧ 1 * [s].getD 0 0 ≤ 281474976710656 ∧ [s].getD 0 0 ≤ 9223372036854775807) = true
theorem sz_ok {s lo : Int} (h0 : 0 < s) (h1 : s ≤ 16777216) (h8 : s % 8 = 0) (hl : lo ≤ 4194304) : Sz s lo := by
  refine ⟨?_, ?_, decide_eq_false (by omega), decide_eq_false ?_, decide_eq_true ?_⟩
  · rw [Int.tmod_eq_emod_of_nonneg (by omega), h8]; rfl
  · simpa using (show ¬ s = 0 by omega)
  · rw [wu (by omega) (by omega)]; omega
  · show 0 ≤ s ∧ s ≤ s ∧ 1 * s ≤ 281474976710656 ∧ s ≤ 9223372036854775807
    omega
theorem post_ok {c h d k q addr o cl s1 s2 s3 : Int} {b : Bool} (hb : (!b == (whichV c h d k q addr != 0)) = false) (h1 : 0 ≤ s1 ∧ s1 ≤ 1048576) (h2 : 0 ≤ s2 ∧ s2 ≤ 1048576) : post_f c h d k q addr o cl s1 s2 s3 b := by
  unfold post_f
  have e1 : decide (IntKind.u64.wrap (1048576 + s1) > 2097152) = false := by rw [wu (by omega) (by omega)]; exact decide_eq_false (by omega)
  have e2 : decide (IntKind.u64.wrap (2097152 + s2) > 3145728) = false := by rw [wu (by omega) (by omega)]; exact decide_eq_false (by omega)
  simp only [hb, e1, e2]
  exact tail_ok o cl
theorem law_true (c h d k q addr o cl : Int) (ha : 0 ≤ addr ∧ addr < 18446744073709551616) : CallOk Try.prog 3 [cfgV c h d k q, .raw (.int .u64 addr), .raw (.int .i64 o), .raw (.int .i64 cl)] [] isTrue := by
  refine CallOk.fnB names (by kernel_rfl) ?_
  refine evTo_ok EL_ok names mixed (n := 100) (b := 0) (Z := fun st => ∃ s1 s2 s3 b, post_f c h d k q addr o cl s1 s2 s3 b ∧ gcSt 0 live st = S c h d k q addr o cl s1 s2 s3 b) pA _ _ _ (fun st hz => ?_) ?_
  · obtain ⟨s1, s2, s3, b, hp, hz⟩ := hz
    have ht := gc_tells 0 live st
    rw [hz] at ht
    refine CodeB.tell ht (CodeB.of (evG_ok EL_ok names mixed (n := 100) ?_))
    have hq := post_eq c h d k q addr o cl s1 s2 s3 b
    exact hq.mpr hp
  · have hq := pre_eq c h d k q addr o cl fun st => ∃ s1 s2 s3 b, post_f c h d k q addr o cl s1 s2 s3 b ∧ st = S c h d k q addr o cl s1 s2 s3 b
    refine hq.mpr ?_
    unfold pre_f
    by_cases hok : okC c h d k q
    · have e0 : ckV c h d k q = 0 := by unfold ckV; rw [decide_eq_true hok]
      have hw : whichV c h d k q addr = whichV c h d k q addr := rfl
      conv at hw => rhs; unfold whichV; rw [decide_eq_true hok]
      have x1 : IntKind.u64.wrap (131072 * IntKind.u64.wrap c) = 131072 * c := by unfold okC at hok; rw [wu (x := c) (by omega) (by omega), wu (by omega) (by omega)]
      have x2 : ∃ z, (if 1 > h then 1 else h) = z ∧ 1 ≤ z ∧ z ≤ 65536 := by
        unfold okC at hok
        by_cases h1 : 1 > h
        · exact ⟨1, if_pos h1, by omega, by omega⟩
        · exact ⟨h, if_neg h1, by omega, by omega⟩
      obtain ⟨z, x2, z1, z2⟩ := x2
      have x3 : IntKind.u64.wrap (8 * IntKind.u64.wrap z) = 8 * z := by rw [wu (x := z) (by omega) (by omega), wu (by omega) (by omega)]
      have x4 : IntKind.u64.wrap (4 * IntKind.u64.wrap k) = 4 * k := by unfold okC at hok; rw [wu (x := k) (by omega) (by omega), wu (by omega) (by omega)]
      have x5 : ∃ y, (if 64 > 4 * k then 64 else 4 * k) = y ∧ 64 ≤ y ∧ y ≤ 262144 ∧ y % 8 = 0 := by
        unfold okC at hok
        by_cases h1 : 64 > 4 * k
        · exact ⟨64, if_pos h1, by omega, by omega, by omega⟩
        · exact ⟨4 * k, if_neg h1, by omega, by omega, by omega⟩
      obtain ⟨y, x5, y1, y2, y3⟩ := x5
      have hc : 1 ≤ c ∧ c ≤ 4 := hok.1.1
      unfold szS szH szC at hw
      rw [x2] at hw
      rw [x1, x3, x4, x5] at hw
      have k1 := sz_ok (s := 131072 * c) (lo := 1048576) (by omega) (by omega) (by omega) (by omega)
      have k2 := sz_ok (s := 8 * z) (lo := 2097152) (by omega) (by omega) (by omega) (by omega)
      have k3 := sz_ok (s := y) (lo := 3145728) (by omega) (by omega) (by omega) (by omega)
      have v1 : decide (IntKind.u64.wrap (2097152 - 1048576) < [131072 * c].getD 0 0) = false := decide_eq_false (by show ¬ (1048576 < 131072 * c); omega)
      have v2 : decide (IntKind.u64.wrap (3145728 - 2097152) < [8 * z].getD 0 0) = false := decide_eq_false (by show ¬ (1048576 < 8 * z); omega)
      have g1 : [131072 * c].getD 0 0 = 131072 * c := rfl
      have g2 : [8 * z].getD 0 0 = 8 * z := rfl
      have g3 : [y].getD 0 0 = y := rfl
      simp only [e0, bne_self_eq_false, x1, x2, x3, x4, x5, k1.m, k1.z, k1.b, k1.t, k1.k, k2.m, k2.z, k2.b, k2.t, k2.k, k3.m, k3.z, k3.b, k3.t, k3.k, v1, v2]
      simp only [g1, g2, g3]
      rw [has1 _ _ _ ha (by omega) (by omega), has1 _ _ _ ha (by omega) (by omega), has1 _ _ _ ha (by omega) (by omega), has1 _ _ _ ha (by omega) (by omega), has1 _ _ _ ha (by omega) (by omega)]
      simp only [in1 _ _ _ ha (show (0:Int) ≤ 65536 ∧ (65536:Int) < 18446744073709551616 by omega), in1 _ _ _ ha (show (0:Int) ≤ 524288 ∧ (524288:Int) < 18446744073709551616 by omega), in1 _ _ _ ha (show (0:Int) ≤ 1048576 ∧ (1048576:Int) < 18446744073709551616 by omega), in1 _ _ _ ha (show (0:Int) ≤ 2097152 ∧ (2097152:Int) < 18446744073709551616 by omega), in1 _ _ _ ha (show (0:Int) ≤ 3145728 ∧ (3145728:Int) < 18446744073709551616 by omega)] at hw
      have fin : ∀ b : Bool, (!b == (whichV c h d k q addr != 0)) = false → ∃ s1 s2 s3 b', post_f c h d k q addr o cl s1 s2 s3 b' ∧ S c h d k q addr o cl (131072 * c) (8 * z) y b = S c h d k q addr o cl s1 s2 s3 b' := fun b hb => ⟨131072 * c, 8 * z, y, b, post_ok hb (by omega) (by omega), rfl⟩
      cases a1 : decide ((65536:Int) ≤ addr ∧ addr < 65536 + 262144)
      · rw [a1] at hw
        cases a2 : decide ((524288:Int) ≤ addr ∧ addr < 524288 + 262144)
        · rw [a2] at hw
          cases a3 : decide ((1048576:Int) ≤ addr ∧ addr < 1048576 + 131072 * c)
          · rw [a3] at hw
            cases a4 : decide ((2097152:Int) ≤ addr ∧ addr < 2097152 + 8 * z)
            · rw [a4] at hw
              cases a5 : decide ((3145728:Int) ≤ addr ∧ addr < 3145728 + y)
              · rw [a5] at hw
                exact fin false (by rw [hw]; rfl)
              · rw [a5] at hw
                exact fin true (by rw [hw]; rfl)
            · rw [a4] at hw
              exact fin true (by rw [hw]; rfl)
          · rw [a3] at hw
            exact fin true (by rw [hw]; rfl)
        · rw [a2] at hw
          exact fin true (by rw [hw]; rfl)
      · rw [a1] at hw
        exact fin true (by rw [hw]; rfl)
    · have e0 : ckV c h d k q = 1 := by unfold ckV; rw [decide_eq_false hok]
      have hw : whichV c h d k q addr = 0 := by unfold whichV; rw [decide_eq_false hok]
      rw [e0, hw]
      exact rfl
def aks : List AK := [.agg [.int .i64, .int .i64, .int .i64, .int .i64, .int .i64], .one (.int .u64), .one (.int .i64), .one (.int .i64)]
theorem law_call (args : List V) (h : argsOk aks args) : CallOk Try.prog 3 args [] fun r _ => r = .ret (.raw (.bool true)) := by
  obtain ⟨ws, r1, rfl, h0, h1⟩ := argsOk_agg h
  obtain ⟨a, r2, rfl, w1, h2⟩ := argsOk_int h1
  obtain ⟨o, r3, rfl, _, h3⟩ := argsOk_int h2
  obtain ⟨cl, r4, rfl, _, h4⟩ := argsOk_int h3
  cases argsOk_nil h4
  obtain ⟨c, q1, rfl, _, k1⟩ := rawsOk_int h0
  obtain ⟨hh, q2, rfl, _, k2⟩ := rawsOk_int k1
  obtain ⟨d, q3, rfl, _, k3⟩ := rawsOk_int k2
  obtain ⟨k, q4, rfl, _, k4⟩ := rawsOk_int k3
  obtain ⟨q, q5, rfl, _, k5⟩ := rawsOk_int k4
  cases rawsOk_nil k5
  have w2 : 0 ≤ a ∧ a < 18446744073709551616 := by
    have := w1
    simp only [Lit.wf, Bool.and_eq_true, decide_eq_true_eq] at this
    have m1 : IntKind.u64.max = 18446744073709551615 := by decide
    have m2 : IntKind.u64.min = 0 := by decide
    rw [m1, m2] at this
    omega
  exact law_true c hh d k q a o cl w2
end Go.Proofs.Ytfammlbhfgagbaa.layoutApart
