/- EncRows: what the law's function computes, and that it is true. -/
import Derived.Test.YtbjikmepfpkmjaazEncRowsPRowsF
import Derived.Test.YtbjikmepfpkmjaazEncRowsIWordL
import Derived.Test.YtbjikmepfpkmjaazEncRowsRLRow4
set_option linter.unusedVariables false
set_option linter.unusedSimpArgs false
namespace Go.Proofs.Ytbjikmepfpkmjaa.encRows
open Go Go.Proofs Go.Proofs.YtbjikmepfpkmjaaRL Go.Proofs.Ytbjikmepfpkmjaa.isa
open Go.Proofs.Ytbjikmepfpkmjaa.encWords (nilS wordsA wordsA_ok E_not)
open Go.Proofs.Ytbjikmepfpkmjaa.encBytes (byteW bytesA bytesA_ok)
theorem EL_ok : EOk Try.prog EL := wordsA_ok (bytesA_ok (rwordG_ok noE_ok))
theorem bytes_or {w : Int} (h0 : 0 ≤ w) (h1 : w < 4294967296) : Go.bits .or .u32 (Go.bits .or .u32 (Go.bits .or .u32 (IntKind.u32.wrap (w / 1 % 256)) (IntKind.u32.wrap (IntKind.u32.wrap (w / 256 % 256) * 256))) (IntKind.u32.wrap (IntKind.u32.wrap (w / 65536 % 256) * 65536))) (IntKind.u32.wrap (IntKind.u32.wrap (w / 16777216 % 256) * 16777216)) = w := by
  rw [wrap_u32_in (n := w / 1 % 256) (by omega) (by omega)]
  rw [or_add 8 8 256 256 rfl rfl (by omega) (by omega) (by omega) (by omega) (by omega) (by omega) (by omega)]
  rw [or_add 16 8 65536 256 rfl rfl (by omega) (by omega) (by omega) (by omega) (by omega) (by omega) (by omega)]
  rw [or_add 24 8 16777216 256 rfl rfl (by omega) (by omega) (by omega) (by omega) (by omega) (by omega) (by omega)]
  omega
abbrev isTrue : Res → Sto → Prop := fun r _ => r = .ret (.raw (.bool true))
theorem after1 (K : Ex → St → Prop) (st : St) : ctxK Try.prog 1 p1 (codeOf Try.prog 5) K (.exit 0) st = CodeB Try.prog 1 c1 st K := by kernel_rfl
theorem after2 (K : Ex → St → Prop) (st : St) : ctxK Try.prog 1 p2 c1 K (.exit 2) st = CodeB Try.prog 1 c2 st K := by kernel_rfl
section
variable (I : InsC) (n cap : Nat)
abbrev KB : Ex → St → Prop := bodyK False Try.prog (funcOf Try.prog 5) isTrue
abbrev KC : Ex → St → Prop := ctxK Try.prog 1 p1 (codeOf Try.prog 5) KB
abbrev KC2 : Ex → St → Prop := ctxK Try.prog 1 p2 c1 KB
theorem part2 (b : Nat → Int) (hn : n ≤ 400) (hb : ∀ j, j < n → b j = I.W j) (st : St) (hz : gcSt 1 live2 st = S2 I n b 0) : CodeB Try.prog 1 (subAt p2 c1) st KC2 := by
  refine CodeB.lop (by kernel_rfl) (LoopB.byE EL_ok names mixed (N := 60) (fun k : Nat => S2 I n b k) (fun k => k ≤ n) (fun k => n - k) live2 (fun k hk => ?_) st 0 (by have h := gc_tells 1 live2 st; rw [hz] at h; exact h) (Nat.zero_le _))
  have hp := body2_eq I n b k (RK 1 (fun k : Nat => S2 I n b k) (fun k => k ≤ n) (fun k => n - k) k KC2)
  refine hp.mpr ?_
  unfold body2_f
  by_cases hlt : k < n
  · have c1 : decide ((k : Int) < (n : Int)) = true := decide_eq_true (by omega)
    have c2 : Nat.blt k n = true := blt_yes hlt
    have c3 : (I.W k != b k) = false := by rw [hb k hlt]; exact bne_self_eq_false _
    have a0 : IntKind.i64.wrap (4 * (k : Int)) = ((4 * k : Nat) : Int) := by rw [wrap_i64_in (by omega) (by omega)]; omega
    have a1 : IntKind.i64.wrap (((4 * k : Nat) : Int) + 1) = ((4 * k + 1 : Nat) : Int) := by rw [wrap_i64_in (by omega) (by omega)]; omega
    have a2 : IntKind.i64.wrap (((4 * k : Nat) : Int) + 2) = ((4 * k + 2 : Nat) : Int) := by rw [wrap_i64_in (by omega) (by omega)]; omega
    have a3 : IntKind.i64.wrap (((4 * k : Nat) : Int) + 3) = ((4 * k + 3 : Nat) : Int) := by rw [wrap_i64_in (by omega) (by omega)]; omega
    have p0 : ∀ q : Nat, decide (0 ≤ ((q : Nat) : Int)) = true := fun q => decide_eq_true (by omega)
    have d0 : decide (((4 * k : Nat) : Int) < ((4 * n : Nat) : Int)) = true := decide_eq_true (by omega)
    have d1 : decide (((4 * k + 1 : Nat) : Int) < ((4 * n : Nat) : Int)) = true := decide_eq_true (by omega)
    have d2 : decide (((4 * k + 2 : Nat) : Int) < ((4 * n : Nat) : Int)) = true := decide_eq_true (by omega)
    have d3 : decide (((4 * k + 3 : Nat) : Int) < ((4 * n : Nat) : Int)) = true := decide_eq_true (by omega)
    have b0 : Nat.blt (4 * k) (4 * n) = true := blt_yes (by omega)
    have b1 : Nat.blt (4 * k + 1) (4 * n) = true := blt_yes (by omega)
    have b2 : Nat.blt (4 * k + 2) (4 * n) = true := blt_yes (by omega)
    have b3 : Nat.blt (4 * k + 3) (4 * n) = true := blt_yes (by omega)
    have w1 := wrap_next (i := k) (by omega)
    have y0 : byteW I.W (4 * k) = I.W k / 1 % 256 := by unfold byteW; rw [show 4 * k / 4 = k by omega, show 4 * k % 4 = 0 by omega]; rfl
    have y1 : byteW I.W (4 * k + 1) = I.W k / 256 % 256 := by unfold byteW; rw [show (4 * k + 1) / 4 = k by omega, show (4 * k + 1) % 4 = 1 by omega]; rfl
    have y2 : byteW I.W (4 * k + 2) = I.W k / 65536 % 256 := by unfold byteW; rw [show (4 * k + 2) / 4 = k by omega, show (4 * k + 2) % 4 = 2 by omega]; rfl
    have y3 : byteW I.W (4 * k + 3) = I.W k / 16777216 % 256 := by unfold byteW; rw [show (4 * k + 3) / 4 = k by omega, show (4 * k + 3) % 4 = 3 by omega]; rfl
    have hw := wordV_lt (I.op k) (I.d k) (I.n k) (I.m k) (I.a k) (I.c k) (I.im k)
    simp only [c1, toNat0, c2, c3, a0, a1, a2, a3, p0, d0, d1, d2, d3, b0, b1, b2, b3, y0, y1, y2, y3, w1, bytes_or (w := I.W k) hw.1 hw.2]
    exact RK.go (y := k + 1) rfl hlt (by omega)
  · obtain rfl : k = n := by omega
    simp only [decide_eq_false (Int.lt_irrefl (k : Int))]
    show KC2 (.exit 2) (S2 I k b k)
    unfold KC2
    rw [after2]
    refine CodeB.of (evG_ok EL_ok names mixed (n := 60) ?_)
    have hq := post_eq I k b k isTrue
    exact hq.mpr rfl
def SS : Option (Nat × (Nat → Int)) → St
  | none => S0 I n cap
  | some (i, b) => S1 I n cap b (I.E i) i
def II : Option (Nat × (Nat → Int)) → Prop
  | none => True
  | some (i, b) => i + 1 ≤ n ∧ ∀ j, j ≤ i → b j = I.W j ∧ (j < i → I.E j = 0)
def MU : Option (Nat × (Nat → Int)) → Nat
  | none => n + 1
  | some (i, b) => n - i
theorem mid_ok (i : Nat) (b : Nat → Int) (hn : n ≤ 400) (hi : i + 1 ≤ n) (hb : ∀ j, j ≤ i → b j = I.W j ∧ (j < i → I.E j = 0)) (hx : i + 1 = n ∨ I.E i ≠ 0) : KC (.exit 0) (S1 I n cap b (I.E i) i) := by
  unfold KC
  rw [after1]
  refine evTo_ok EL_ok names mixed (n := 60) (b := 1) (Z := fun st => gcSt 1 live2 st = S2 I n b 0 ∧ ∀ j, j < n → b j = I.W j) p2 _ _ _ (fun st hz => part2 I n b hn hz.2 st hz.1) ?_
  have hp := mid_eq I n cap b (I.E i) i isTrue fun st => st = S2 I n b 0 ∧ ∀ j, j < n → b j = I.W j
  refine hp.mpr ?_
  unfold mid_f
  have c1 := ble_self n
  have c2 : Nat.ble n 1000000 = true := Nat.ble_eq_true_of_le (by omega)
  have c2' : Nat.ble n 200000 = true := Nat.ble_eq_true_of_le (by omega)
  have c3 : Nat.beq n 0 = false := by
    cases h : Nat.beq n 0 with
    | true => have := Nat.eq_of_beq_eq_true h; omega
    | false => rfl
  simp only [c1, c2, c2', c3]
  by_cases he : I.E i = 0
  · have hl : i + 1 = n := hx.resolve_right fun h => h he
    subst hl
    have ha : I.all (i + 1) := fun j hj => by
      by_cases h : j < i
      · exact (hb j (by omega)).2 h
      · obtain rfl : j = i := by omega
        exact he
    have c5 : (((i + 1 : Nat) : Int) != ((i + 1 : Nat) : Int)) = false := bne_self_eq_false _
    have c6 : IntKind.i64.wrap (4 * ((i + 1 : Nat) : Int)) = ((4 * (i + 1) : Nat) : Int) := by rw [wrap_i64_in (by omega) (by omega)]; omega
    simp only [decide_eq_true ha, he, bne_self_eq_false, c5, c6]
    exact ⟨rfl, fun j hj => (hb j (by omega)).1⟩
  · have ha : ¬ I.all n := fun h => he (h i (by omega))
    rw [E_not he]
    simp only [decide_eq_false ha]
    exact trivial
set_option maxRecDepth 100000 in
theorem law_sl (h0 : 0 < n) : CallOk Try.prog 5 [.sle 0 7 0 n cap] [.arr .ro I.cols n 0] isTrue := by
  refine CallOk.fnB names (by kernel_rfl) ?_
  refine evTo_ok EL_ok names mixed (n := 60) (b := 1) (Z := fun st => n ≤ 400 ∧ gcSt 1 live st = S0 I n cap) p1 _ _ _ (fun st hz => ?_) ?_
  · obtain ⟨hn, hz⟩ := hz
    refine CodeB.lop (by kernel_rfl) (LoopB.byE EL_ok names mixed (N := 60) (SS I n cap) (II I n) (MU n) live (fun x hi => ?_) st none (by have h := gc_tells 1 live st; rw [hz] at h; exact h) trivial)
    cases x with
    | none =>
      have hp := body0_eq I n cap (RK 1 (SS I n cap) (II I n) (MU n) none KC)
      refine hp.mpr ?_
      unfold body0_f
      have c1 : decide ((0 : Int) < (n : Int)) = true := decide_eq_true (by omega)
      have c2 : Nat.blt 0 n = true := blt_yes (by omega)
      simp only [c1, c2]
      refine RK.go (y := some (0, fun j => [I.W 0].getD j 0)) rfl ⟨by omega, fun j hj => ?_⟩ (by show n - 0 < n + 1; omega)
      obtain rfl : j = 0 := by omega
      exact ⟨rfl, fun h => absurd h (by omega)⟩
    | some y =>
      obtain ⟨i, b⟩ := y
      have hp := body1_eq I n cap b (I.E i) i (RK 1 (SS I n cap) (II I n) (MU n) (some (i, b)) KC)
      refine hp.mpr ?_
      unfold body1_f
      simp only [toNat0]
      by_cases h1 : i + 1 = n
      · have c1 : decide (((i + 1 : Nat) : Int) < (n : Int)) = false := decide_eq_false (by omega)
        simp only [c1]
        exact mid_ok I n cap i b hn hi.1 hi.2 (.inl h1)
      · have c1 : decide (((i + 1 : Nat) : Int) < (n : Int)) = true := decide_eq_true (by have := hi.1; omega)
        have hi1 := hi.1
        by_cases he : I.E i = 0
        · have c2 : Nat.blt (i + 1) n = true := blt_yes (by omega)
          have c3 := ble_self (i + 1)
          have c4 : growOk (i + 1 + 1) 4 = true := grow_ok (by omega) (by omega)
          have c5 := wrap_next (i := i + 1) (by omega)
          have c6 : (I.E i == 0) = true := by rw [he]; rfl
          simp only [c1, c2, c3, c4, c5, c6]
          refine RK.go (y := some (i + 1, _)) rfl ⟨by omega, fun j hj => ?_⟩ (by show n - (i + 1) < n - i; omega)
          by_cases hj2 : j ≤ i
          · have : Nat.blt j (i + 1) = true := blt_yes (by omega)
            refine ⟨by simp only [this]; exact (hi.2 j hj2).1, fun _ => ?_⟩
            by_cases h : j < i
            · exact (hi.2 j hj2).2 h
            · obtain rfl : j = i := by omega
              exact he
          · obtain rfl : j = i + 1 := by omega
            have : Nat.blt (i + 1) (i + 1) = false := by
              cases h : Nat.blt (i + 1) (i + 1) with
              | true => rw [Nat.blt_eq] at h; omega
              | false => rfl
            refine ⟨?_, fun h => absurd h (by omega)⟩
            simp only [this, Nat.sub_self]
            rfl
        · have c6 : (I.E i == 0) = false := by rw [E_not he]; rfl
          simp only [c1, c6]
          exact mid_ok I n cap i b hn hi.1 hi.2 (.inr he)
  · have hp := pre_eq I n cap isTrue fun st => n ≤ 400 ∧ st = S0 I n cap
    refine hp.mpr ?_
    unfold pre_f
    by_cases h : (n : Int) > 400
    · simp only [decide_eq_true h]
    · simp only [decide_eq_false h]
      exact ⟨by omega, rfl⟩
end
theorem formula0 (p : Option Addr) (cap : Nat) : lawI Try.prog noE 100 5 [.raw (.slice p 0 cap)] [.no] = true := by kernel_rfl
def aks : List AS := [.sl [.int .i64, .int .i64, .int .i64, .int .i64, .int .i64, .int .i64, .int .i64]]
theorem law_call : ∀ args s, argsOkS 0 aks args s → CallOk Try.prog 5 args s fun r _ => r = .ret (.raw (.bool true)) := law_viaA fun args s h => by
  rcases argsOkA_sl h with ⟨p, cap, vs, s', rfl, rfl, h2⟩ | ⟨n, cap, cols, vs, s', hn, rfl, rfl, hcap, hmx, hc, h2⟩
  · obtain ⟨rfl, rfl⟩ := argsOkA_nil h2
    exact lawI_sound noE_ok names mixed (n := 100) (formula0 p cap)
  · obtain ⟨g0, cs, rfl, _, hc⟩ := colsOkA_int hc
    obtain ⟨g1, cs, rfl, _, hc⟩ := colsOkA_int hc
    obtain ⟨g2, cs, rfl, _, hc⟩ := colsOkA_int hc
    obtain ⟨g3, cs, rfl, _, hc⟩ := colsOkA_int hc
    obtain ⟨g4, cs, rfl, _, hc⟩ := colsOkA_int hc
    obtain ⟨g5, cs, rfl, _, hc⟩ := colsOkA_int hc
    obtain ⟨g6, cs, rfl, _, hc⟩ := colsOkA_int hc
    cases colsOkA_nil hc
    obtain ⟨rfl, rfl⟩ := argsOkA_nil h2
    exact law_sl ⟨g0, g1, g2, g3, g4, g5, g6⟩ n cap hn
end Go.Proofs.Ytbjikmepfpkmjaa.encRows
