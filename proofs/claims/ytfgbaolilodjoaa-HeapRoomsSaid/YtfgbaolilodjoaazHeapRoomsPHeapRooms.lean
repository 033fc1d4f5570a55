/- HeapRooms: what the law's function computes, and that it is true. -/
import Derived.Test.YtfgbaolilodjoaazHeapRoomsPRoomF
namespace Go.Proofs.Ytfgbaolilodjoaa.heapRooms
open Go Go.Proofs Go.Proofs.YtfgbaolilodjoaaRL
set_option linter.unusedVariables false
set_option linter.unusedSimpArgs false
theorem blt_yes {a b : Nat} (h : a < b) : Nat.blt a b = true := by rw [Nat.blt_eq]; exact h
theorem w64 {x : Int} (h1 : -9223372036854775808 ≤ x) (h2 : x ≤ 9223372036854775807) : IntKind.i64.wrap x = x := IntWalk.i64_in _ (by omega)
def SL (g : Nat → Int) (n cap : Nat) (W : Int) (i : Nat) (u lf : Int) (q : Nat) : St := ⟨109, [(0, .raw (.int .i64 W)), (1, .sle 0 1 0 n cap), (5, .ptr 1 0), (7, .raw (.int .i64 lf)), (8, .raw (.int .i64 1)), (9, .raw (.int .i64 (i : Nat)))],
  [.arr .ro [.int .i64 g] n 0, .own [.raw (.int .i64 W), .raw (.int .i64 u), .lst 3 2 0 0 1] 48, .no, .lst [.ifc 51 (.ptr 4 0), .raw (.int .i64 (Int.negSucc 0)), .raw (.int .i64 0)] 72 2 3, .own [.raw (.int .i64 (Int.negSucc 1)), .sl 5 0 1 1, .sle 6 1 0 q q] 56, .own [] 53, .arr .own [.int .i64 fun _ => 0] q 2]⟩
theorem tellsL (g : Nat → Int) (n cap : Nat) (W : Int) (i : Nat) (u lf : Int) (q : Nat) : ∃ a b, Tells 1 (SL g n cap W i u lf q) (SB g n cap W i u lf 1 a b) := by
  have h1 := toArr_tells (b := 1) (st := SL g n cap W i u lf q) (i := 3) (k := 2) (z := 3) (n := 1) (t := 72) (zs := [.any, .int .i64 fun _ => 0, .int .i64 fun _ => 0]) rfl rfl rfl rfl rfl
  have h2 := h1.trans (gc_tells 1 live _)
  refine ⟨fun j => [Int.negSucc 0].getD j 0, fun j => [(0 : Int)].getD j 0, ?_⟩
  have e : gcSt 1 live ⟨109, toLseE 3 3 (SL g n cap W i u lf q).t, toLseS 3 3 ((SL g n cap W i u lf q).s.set 3 (.arr (.grow 2) [.any, .int .i64 fun j => [Int.negSucc 0].getD j 0, .int .i64 fun j => [(0 : Int)].getD j 0] 1 72))⟩ = SB g n cap W i u lf 1 (fun j => [Int.negSucc 0].getD j 0) (fun j => [(0 : Int)].getD j 0) := by kernel_rfl
  rw [← e]
  exact h2
theorem roundA (g : Nat → Int) (n cap : Nat) (W : Int) (i : Nat) (K : Ex → St → Prop) (hn : n ≤ 200) (hi : i ≤ n) (hW : 0 ≤ W ∧ W ≤ 65536) (hg : ∀ j, j < n → -9223372036854775808 ≤ g j ∧ g j ≤ 9223372036854775807)
    (hx : i = n → K (.exit 0) (SA g n cap W i)) (hf : i < n → K .normal (SA g n cap W (i + 1))) (hs : i < n → 0 ≤ g i → g i ≤ W - 3 → K .normal (SL g n cap W (i + 1) (0 + (3 + g i)) (W - 3 - g i) (g i).toNat)) : bodyA_f g n cap W i K := by
  unfold bodyA_f
  by_cases hlt : i < n
  · have h1 : decide ((i : Int) < (n : Int)) = true := decide_eq_true (by omega)
    have h2 : Nat.blt ((i : Int).toNat + 0) n = true := blt_yes (by simpa using hlt)
    have e1 : (g ((i : Int).toNat + 0)) = g i := rfl
    have hgi := hg i hlt
    have w1 : IntKind.i64.wrap ((i : Int) + 1) = (i : Int) + 1 := w64 (by omega) (by omega)
    have w2 : IntKind.i64.wrap (W - 0) = W := by rw [Int.sub_zero]; exact w64 (by omega) (by omega)
    have w3 : IntKind.i64.wrap (W - 3) = W - 3 := w64 (by omega) (by omega)
    have w4 : IntKind.i64.wrap (W - W) = 0 := by rw [Int.sub_self]; rfl
    simp only [h1, h2, e1, w1, w2, w3, w4]
    by_cases c1 : g i < 0
    · have d1 : decide (g i < 0) = true := decide_eq_true c1
      have d2 : decide (g i ≥ 0) = false := decide_eq_false (by omega)
      simp only [d1, d2]
      exact hf hlt
    · have d1 : decide (g i < 0) = false := decide_eq_false c1
      have d2 : decide (g i ≥ 0) = true := decide_eq_true (by omega)
      by_cases c2 : g i ≤ W - 3
      · have d3 : decide (g i ≤ W - 3) = true := decide_eq_true c2
        have d4 : decide (g i > W - 3) = false := decide_eq_false (by omega)
        have d5 : decide (0 ≤ g i ∧ g i ≤ g i ∧ 8 * g i ≤ 281474976710656 ∧ g i ≤ 9223372036854775807) = true := decide_eq_true (by omega)
        have w5 : IntKind.i64.wrap (3 + g i) = 3 + g i := w64 (by omega) (by omega)
        have w6 : IntKind.i64.wrap (0 + (3 + g i)) = 0 + (3 + g i) := w64 (by omega) (by omega)
        have w7 : IntKind.i64.wrap (W - 3 - g i) = W - 3 - g i := w64 (by omega) (by omega)
        have w8 : IntKind.i64.wrap (W - (W - 3 - g i)) = 0 + (3 + g i) := by rw [w64 (by omega) (by omega)]; omega
        simp only [d1, d2, d3, d4, d5, w5, w6, w7, w8, bne_self_eq_false]
        exact hs hlt (by omega) c2
      · have d3 : decide (g i ≤ W - 3) = false := decide_eq_false c2
        have d4 : decide (g i > W - 3) = true := decide_eq_true (by omega)
        simp only [d1, d2, d3, d4]
        exact hf hlt
  · obtain rfl : i = n := by omega
    have h1 : decide ((i : Int) < (i : Int)) = false := decide_eq_false (by omega)
    simp only [h1]
    exact hx rfl
theorem grow_ok {m : Nat} (h : m ≤ 1000) : growOk (m + 1) 32 = true := by
  unfold growOk
  rw [Nat.ble_eq_true_of_le (by omega), Nat.ble_eq_true_of_le (by omega)]; rfl
theorem roundB (g : Nat → Int) (n cap : Nat) (W : Int) (i : Nat) (u lf : Int) (m : Nat) (a b : Nat → Int) (K : Ex → St → Prop) (hn : n ≤ 200) (hi : i ≤ n) (hW : 0 ≤ W ∧ W ≤ 65536) (hg : ∀ j, j < n → -9223372036854775808 ≤ g j ∧ g j ≤ 9223372036854775807)
    (hm : m ≤ i) (hu : u = W - lf) (hl : 0 ≤ lf ∧ lf ≤ W)
    (hx : i = n → K (.exit 0) (SB g n cap W i u lf m a b)) (hf : i < n → K .normal (SB g n cap W (i + 1) u lf m a b)) (hs : i < n → 0 ≤ g i → g i ≤ lf - 3 → ∀ a' b', K .normal (SB g n cap W (i + 1) (u + (3 + g i)) (lf - 3 - g i) (m + 1) a' b')) : bodyB_f g n cap W i u lf m a b K := by
  unfold bodyB_f
  by_cases hlt : i < n
  · have h1 : decide ((i : Int) < (n : Int)) = true := decide_eq_true (by omega)
    have h2 : Nat.blt ((i : Int).toNat + 0) n = true := blt_yes (by simpa using hlt)
    have e1 : (g ((i : Int).toNat + 0)) = g i := rfl
    have hgi := hg i hlt
    have w1 : IntKind.i64.wrap ((i : Int) + 1) = (i : Int) + 1 := w64 (by omega) (by omega)
    have w2 : IntKind.i64.wrap (W - u) = lf := by rw [w64 (by omega) (by omega)]; omega
    have w3 : IntKind.i64.wrap (lf - 3) = lf - 3 := w64 (by omega) (by omega)
    have w4 : IntKind.i64.wrap (W - lf) = u := by rw [w64 (by omega) (by omega)]; omega
    have w9 : IntKind.i64.wrap ((m : Int) + 1) = ((m + 1 : Nat) : Int) := by rw [w64 (by omega) (by omega)]; rfl
    have h3 : Nat.ble m m = true := Nat.ble_eq_true_of_le (Nat.le_refl _)
    have h4 := grow_ok (m := m) (by omega)
    simp only [h1, h2, e1, w1, w2, w3, w4, w9, h3, h4, bne_self_eq_false]
    by_cases c1 : g i < 0
    · have d1 : decide (g i < 0) = true := decide_eq_true c1
      have d2 : decide (g i ≥ 0) = false := decide_eq_false (by omega)
      simp only [d1, d2]
      exact hf hlt
    · have d1 : decide (g i < 0) = false := decide_eq_false c1
      have d2 : decide (g i ≥ 0) = true := decide_eq_true (by omega)
      by_cases c2 : g i ≤ lf - 3
      · have d3 : decide (g i ≤ lf - 3) = true := decide_eq_true c2
        have d4 : decide (g i > lf - 3) = false := decide_eq_false (by omega)
        have d5 : decide (0 ≤ g i ∧ g i ≤ g i ∧ 8 * g i ≤ 281474976710656 ∧ g i ≤ 9223372036854775807) = true := decide_eq_true (by omega)
        have w5 : IntKind.i64.wrap (3 + g i) = 3 + g i := w64 (by omega) (by omega)
        have w6 : IntKind.i64.wrap (u + (3 + g i)) = u + (3 + g i) := w64 (by omega) (by omega)
        have w7 : IntKind.i64.wrap (lf - 3 - g i) = lf - 3 - g i := w64 (by omega) (by omega)
        have w8 : IntKind.i64.wrap (W - (lf - 3 - g i)) = u + (3 + g i) := by rw [w64 (by omega) (by omega)]; omega
        simp only [d1, d2, d3, d4, d5, w5, w6, w7, w8, bne_self_eq_false]
        exact hs hlt (by omega) c2 _ _
      · have d3 : decide (g i ≤ lf - 3) = false := decide_eq_false c2
        have d4 : decide (g i > lf - 3) = true := decide_eq_true (by omega)
        simp only [d1, d2, d3, d4]
        exact hf hlt
  · obtain rfl : i = n := by omega
    have h1 : decide ((i : Int) < (i : Int)) = false := decide_eq_false (by omega)
    simp only [h1]
    exact hx rfl
def I (g : Nat → Int) (n cap : Nat) (W : Int) (st : St) : Prop := (∃ i, st = SA g n cap W i ∧ i ≤ n) ∨ ∃ i u lf m a b, st = SB g n cap W i u lf m a b ∧ i ≤ n ∧ m ≤ i ∧ u = W - lf ∧ 0 ≤ lf ∧ lf ≤ W
/-- How many rounds are left. -/
def left (n : Nat) (st : St) : Nat := match find st.t 9 with
  | some (.raw (.int _ i)) => n - i.toNat
  | _ => 0
theorem after (K : Ex → St → Prop) (st : St) : ctxK Try.prog 1 pth (codeOf Try.prog 3) K (.exit 0) st = CodeB Try.prog 1 (subAt [0,0,0,0,0,0,0,0] (codeOf Try.prog 3)) st K := by kernel_rfl
theorem law_sl (g : Nat → Int) (n cap : Nat) (W : Int) (hn : 0 < n) (hg : ∀ j, j < n → -9223372036854775808 ≤ g j ∧ g j ≤ 9223372036854775807) : CallOk Try.prog 3 [.raw (.int .i64 W), .sle 0 1 0 n cap] [.arr .ro [.int .i64 g] n 0] fun r _ => r = .ret (.raw (.bool true)) := by
  refine CallOk.fnB names (by kernel_rfl) ?_
  refine CodeB.mono (K := bodyK False Try.prog (funcOf Try.prog 3) fun r _ => r = .ret (.raw (.bool true))) ?_ fun _ _ h => h
  refine evTo_ok noD_ok names mixed (n := 30) (b := 1) (Z := fun st => (n ≤ 200 ∧ 0 ≤ W ∧ W ≤ 65536) ∧ gcSt 1 live st = SA g n cap W 0) pth _ _ _ (fun st hz => ?_) ?_
  · obtain ⟨⟨hn3, hW⟩, hz⟩ := hz
    refine CodeB.lop (by kernel_rfl) (LoopB.byT (I g n cap W) (left n) ?_ _ ⟨_, gc_tells 1 live st, .inl ⟨0, hz, by omega⟩⟩)
    have hend : ∀ st, (∃ i, st = SA g n cap W i) ∨ (∃ i u lf m a b, st = SB g n cap W i u lf m a b) → ctxK Try.prog 1 pth (codeOf Try.prog 3) (bodyK False Try.prog (funcOf Try.prog 3) fun r _ => r = .ret (.raw (.bool true))) (.exit 0) st := by
      intro st h
      rw [after]
      refine CodeB.of (evG_ok noD_ok names mixed (n := 30) ?_)
      rcases h with ⟨i, rfl⟩ | ⟨i, u, lf, m, a, b, rfl⟩
      · have hp := postA_eq g n cap W i fun r => r = .ret (.raw (.bool true))
        rw [hp]
        exact Eq.refl (Res.ret (.raw (.bool true)))
      · have hp := postB_eq g n cap W i u lf m a b fun r => r = .ret (.raw (.bool true))
        rw [hp]
        exact Eq.refl (Res.ret (.raw (.bool true)))
    let KK : St → Ex → St → Prop := fun st0 e st => match e with
      | .normal => ∃ st'', Tells 1 st st'' ∧ I g n cap W st'' ∧ left n st'' < left n st0
      | .panic _ => False
      | e => ctxK Try.prog 1 pth (codeOf Try.prog 3) (bodyK False Try.prog (funcOf Try.prog 3) fun r _ => r = .ret (.raw (.bool true))) e st
    have fin : ∀ st0, evG Try.prog noD 30 (lft (subAt pth (codeOf Try.prog 3))) st0 (fun e st => KK st0 e (gcSt 1 live st)) → CodeB Try.prog 1 (lft (subAt pth (codeOf Try.prog 3))) st0 fun e st' => match e with
        | .normal => ∃ st'', Tells 1 st' st'' ∧ I g n cap W st'' ∧ left n st'' < left n st0
        | .panic _ => False
        | e => ∃ st'', Tells 1 st' st'' ∧ ctxK Try.prog 1 pth (codeOf Try.prog 3) (bodyK False Try.prog (funcOf Try.prog 3) fun r _ => r = .ret (.raw (.bool true))) e st'' := fun st0 h =>
      (CodeB.of (evG_ok noD_ok names mixed h)).mono fun e s he => by
        cases e
        · obtain ⟨st'', h1, h2⟩ := he
          exact ⟨st'', (gc_tells 1 live s).trans h1, h2⟩
        · exact ⟨_, gc_tells 1 live s, he⟩
        · exact ⟨_, gc_tells 1 live s, he⟩
        · exact ⟨_, gc_tells 1 live s, he⟩
        · exact he.elim
    rintro st (⟨i, rfl, hi⟩ | ⟨i, u, lf, m, a, b, rfl, hi, hm, hu, hl⟩)
    · have hb := roundA g n cap W i (KK (SA g n cap W i)) hn3 hi hW hg (fun h => hend _ (.inl ⟨i, rfl⟩)) (fun h => ⟨_, Tells.refl _ _, .inl ⟨i + 1, rfl, by omega⟩, by show n - (i + 1) < n - i; omega⟩)
        (fun h h0 h1 => by
          obtain ⟨a, b, ht⟩ := tellsL g n cap W (i + 1) (0 + (3 + g i)) (W - 3 - g i) (g i).toNat
          exact ⟨_, ht, .inr ⟨i + 1, _, _, 1, a, b, rfl, by omega, by omega, by omega, by omega, by omega⟩, by show n - (i + 1) < n - i; omega⟩)
      rw [← bodyA_eq] at hb
      exact fin _ hb
    · have hb := roundB g n cap W i u lf m a b (KK (SB g n cap W i u lf m a b)) hn3 hi hW hg hm hu hl (fun h => hend _ (.inr ⟨i, u, lf, m, a, b, rfl⟩)) (fun h => ⟨_, Tells.refl _ _, .inr ⟨i + 1, u, lf, m, a, b, rfl, by omega, by omega, hu, hl⟩, by show n - (i + 1) < n - i; omega⟩)
        (fun h h0 h1 a' b' => ⟨_, Tells.refl _ _, .inr ⟨i + 1, _, _, m + 1, a', b', rfl, by omega, by omega, by omega, by omega, by omega⟩, by show n - (i + 1) < n - i; omega⟩)
      rw [← bodyB_eq] at hb
      exact fin _ hb
  · have hp := pre_eq g n cap W (fun r => r = .ret (.raw (.bool true))) fun st => (n ≤ 200 ∧ 0 ≤ W ∧ W ≤ 65536) ∧ st = SA g n cap W 0
    rw [hp]
    unfold pre_f
    by_cases h1 : W < 0
    · rw [decide_eq_true h1]
    by_cases h2 : W > 65536
    · rw [decide_eq_false h1, decide_eq_true h2]
    by_cases h3 : (n : Int) > 200
    · rw [decide_eq_false h1, decide_eq_false h2, decide_eq_true h3]
    rw [decide_eq_false h1, decide_eq_false h2, decide_eq_false h3]
    exact ⟨⟨by omega, by omega, by omega⟩, rfl⟩
theorem formula0 (W : Int) (p : Option Addr) (cap : Nat) : lawI Try.prog noD 100 3 [.raw (.int .i64 W), .raw (.slice p 0 cap)] [.no] =
    (match decide (W < 0) with
    | true => true
    | false => match decide (W > 65536) with
      | true => true
      | false => match decide (W < 0) with
        | true => false
        | false => match decide (W > 65536) with
          | true => false
          | false => true) := by kernel_rfl
def aks : List AS := [.flat (.one (.int .i64)), .sl [.int .i64]]
theorem wf64 {x : Int} (h : (Lit.int .i64 x).wf = true) : -9223372036854775808 ≤ x ∧ x ≤ 9223372036854775807 := by
  simp only [Lit.wf, Bool.and_eq_true, decide_eq_true_eq] at h
  have h1 : IntKind.i64.min = -9223372036854775808 := by decide
  have h2 : IntKind.i64.max = 9223372036854775807 := by decide
  omega
theorem law_call : ∀ args s, argsOkS 0 aks args s → CallOk Try.prog 3 args s fun r _ => r = .ret (.raw (.bool true)) := law_viaA fun args s h => by
  obtain ⟨v, vs, rfl, h1, h2⟩ := argsOkA_flat h
  obtain ⟨W, r, e, _, h0⟩ := argsOk_int h1
  cases argsOk_nil h0
  cases e
  rcases argsOkA_sl h2 with ⟨p, cap, vs, s', rfl, rfl, h3⟩ | ⟨n, cap, cols, vs, s', hn, rfl, rfl, hcap, hmx, hc, h3⟩
  · obtain ⟨rfl, rfl⟩ := argsOkA_nil h3
    refine lawI_sound noD_ok names mixed (n := 100) ?_
    rw [formula0]
    by_cases c1 : W < 0
    · rw [decide_eq_true c1]
    · by_cases c2 : W > 65536
      · rw [decide_eq_false c1, decide_eq_true c2]
      · rw [decide_eq_false c1, decide_eq_false c2]
  · obtain ⟨rfl, rfl⟩ := argsOkA_nil h3
    obtain ⟨g, cs, rfl, hg, hc⟩ := colsOkA_int hc
    cases colsOkA_nil hc
    exact law_sl g n cap W hn fun j hj => wf64 (hg j hj)
end Go.Proofs.Ytfgbaolilodjoaa.heapRooms
