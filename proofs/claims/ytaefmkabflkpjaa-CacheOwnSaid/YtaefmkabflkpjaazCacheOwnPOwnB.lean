/- CacheOwn: the rounds and the ways between; variant B. -/
import Derived.Test.YtaefmkabflkpjaazCacheOwnPOwnFB
import Derived.Test.YtaefmkabflkpjaazCacheOwnPOwnL
namespace Go.Proofs.Ytaefmkabflkpjaa.cacheOwnB
open Go Go.Proofs Go.Proofs.YtaefmkabflkpjaaRL Go.Proofs.Ytaefmkabflkpjaa.cacheOwn
set_option linter.unusedVariables false
set_option linter.unusedSimpArgs false
theorem pre_ok (g : Nat → Int) (q cap : Nat) (p : Option Addr) (cap2 : Nat) (K : Res → Prop) (Z : St → Prop) (hr : K (.ret (.raw (.bool true)))) (hz : q + 1 ≤ 1000 → ∀ T T2 a b, (∀ j, b j = g j) → Z (S1 g (q + 1) cap p cap2 T T2 a b 0)) : pre_f g q cap p cap2 K Z := by
  unfold pre_f
  by_cases c1 : ((q + 1 : Nat) : Int) > 1000
  · simp only [decide_eq_true c1]
    exact hr
  have c3 : ¬ ((q + 1 : Nat) : Int) > 4096 := by omega
  have c4 := taken_ge (x := ((q + 1 : Nat) : Int)) (by omega)
  have e1 : Nat.ble (q + 1) (q + 1) = true := Nat.ble_eq_true_of_le (Nat.le_refl _)
  have e2 := grow_ok (n := q + 1) (by omega)
  simp only [Nat.zero_add, decide_eq_false c1, decide_eq_false c3, e1, e2, c4]
  exact hz (by omega) _ _ _ _ fun j => rfl
theorem round1 (g : Nat → Int) (n cap : Nat) (p : Option Addr) (cap2 : Nat) (T T2 : Int) (a b : Nat → Int) (i : Nat) (K : Ex → St → Prop) (hn : n ≤ 1000) (hi : i ≤ n) (hx : i = n → K (.exit 0) (S1 g n cap p cap2 T T2 a b n)) (hs : i < n → ∀ a', K .normal (S1 g n cap p cap2 T T2 a' b (i + 1))) : body1_f g n cap p cap2 T T2 a b i K := by
  unfold body1_f
  by_cases hlt : i < n
  · have h1 : decide ((i : Int) < (n : Int)) = true := decide_eq_true (by omega)
    have h2 : Nat.blt ((i : Int).toNat + 0) n = true := blt_yes (by simpa using hlt)
    have w1 := wrap_next (i := i) (by omega)
    simp only [h1, h2, w1]
    exact hs hlt _
  · obtain rfl : i = n := by omega
    simp only [decide_eq_false (Int.lt_irrefl (i : Int))]
    exact hx rfl
theorem mid_ok (g : Nat → Int) (q cap : Nat) (p : Option Addr) (cap2 : Nat) (T T2 : Int) (a b : Nat → Int) (K : Res → Prop) (Z : St → Prop) (hn : q + 1 ≤ 1000) (hz : ∀ d, Z (S2 g (q + 1) cap p cap2 T T2 b d 0)) : mid_f g q cap p cap2 T T2 a b K Z := by
  unfold mid_f
  have e1 : Nat.ble (q + 1) (q + 1) = true := Nat.ble_eq_true_of_le (Nat.le_refl _)
  have e2 := grow_ok (n := q + 1) (by omega)
  simp only [Nat.zero_add, e1, e2]
  exact hz _
theorem round2 (g : Nat → Int) (n cap : Nat) (p : Option Addr) (cap2 : Nat) (T T2 : Int) (b d : Nat → Int) (i : Nat) (K : Ex → St → Prop) (hn : n ≤ 1000) (hi : i ≤ n) (hx : i = n → K (.exit 2) (S2 g n cap p cap2 T T2 b d n)) (hs : i < n → ∀ d', K .normal (S2 g n cap p cap2 T T2 b d' (i + 1))) : body2_f g n cap p cap2 T T2 b d i K := by
  unfold body2_f
  by_cases hlt : i < n
  · have h1 : decide ((i : Int) < (n : Int)) = true := decide_eq_true (by omega)
    have h2 : Nat.blt ((i : Int).toNat + 0) n = true := blt_yes (by simpa using hlt)
    have w1 := wrap_next (i := i) (by omega)
    simp only [h1, h2, w1]
    exact hs hlt _
  · obtain rfl : i = n := by omega
    simp only [decide_eq_false (Int.lt_irrefl (i : Int))]
    exact hx rfl
theorem mid2_ok (g : Nat → Int) (q cap : Nat) (p : Option Addr) (cap2 : Nat) (T T2 : Int) (b d : Nat → Int) (K : Res → Prop) (Z : St → Prop) (hn : q + 1 ≤ 1000) (hb : ∀ j, b j = g j) (hz : ∀ a b, (∀ j, a j = g j) → (∀ j, b j = g j) → Z (S3 g (q + 1) cap p cap2 a b 0)) : mid2_f g q cap p cap2 T T2 b d K Z := by
  unfold mid2_f
  have e1 : Nat.ble (q + 1) (q + 1) = true := Nat.ble_eq_true_of_le (Nat.le_refl _)
  have e2 := grow_ok (n := q + 1) (by omega)
  have e3 := bytes_pos (n := q + 1) (by omega) (by omega)
  have e4 : (((q + 1 : Nat) : Int) != ((q + 1 : Nat) : Int)) = false := bne_self_eq_false _
  simp only [Nat.zero_add, e1, e2, e3, e4]
  exact hz _ _ (fun j => hb j) (fun j => hb j)
theorem round3 (g : Nat → Int) (n cap : Nat) (p : Option Addr) (cap2 : Nat) (a b : Nat → Int) (i : Nat) (K : Ex → St → Prop) (hn : n ≤ 1000) (hi : i ≤ n) (ha : ∀ j, a j = g j) (hb : ∀ j, b j = g j) (hx : i = n → K (.exit 4) (S3 g n cap p cap2 a b n)) (hs : i < n → K .normal (S3 g n cap p cap2 a b (i + 1))) : body3_f g n cap p cap2 a b i K := by
  unfold body3_f
  by_cases hlt : i < n
  · have h1 : decide ((i : Int) < (n : Int)) = true := decide_eq_true (by omega)
    have h2 : Nat.blt ((i : Int).toNat + 0) n = true := blt_yes (by simpa using hlt)
    have w1 := wrap_next (i := i) (by omega)
    have h3 : (a ((i : Int).toNat + 0) != g ((i : Int).toNat + 0)) = false := by rw [ha]; exact bne_self_eq_false _
    have h4 : (b ((i : Int).toNat + 0) != g ((i : Int).toNat + 0)) = false := by rw [hb]; exact bne_self_eq_false _
    simp only [h1, h2, w1, h3, h4]
    exact hs hlt
  · obtain rfl : i = n := by omega
    simp only [decide_eq_false (Int.lt_irrefl (i : Int))]
    exact hx rfl
theorem after1 (K : Ex → St → Prop) (st : St) : ctxK Try.prog 2 p1 (codeOf Try.prog 4) K (.exit 0) st = CodeB Try.prog 2 c1 st K := by kernel_rfl
theorem after2 (K : Ex → St → Prop) (st : St) : ctxK Try.prog 2 p2 c1 K (.exit 2) st = CodeB Try.prog 2 c2 st K := by kernel_rfl
theorem after3 (K : Ex → St → Prop) (st : St) : ctxK Try.prog 2 p3 c2 K (.exit 4) st = CodeB Try.prog 2 c3 st K := by kernel_rfl
theorem part3 (g : Nat → Int) (q cap : Nat) (p : Option Addr) (cap2 : Nat) (a b : Nat → Int) (hn : q + 1 ≤ 1000) (ha : ∀ j, a j = g j) (hb : ∀ j, b j = g j) (st : St) (hz : gcSt 2 live3 st = S3 g (q + 1) cap p cap2 a b 0) : CodeB Try.prog 2 (subAt p3 c2) st (ctxK Try.prog 2 p3 c2 (bodyK False Try.prog (funcOf Try.prog 4) fun r _ => r = .ret (.raw (.bool true)))) := by
  refine CodeB.lop (by kernel_rfl) (LoopB.byE noD_ok names mixed (N := 60) (fun i : Nat => S3 g (q + 1) cap p cap2 a b i) (fun i => i ≤ q + 1) (fun i => q + 1 - i) live3 (fun i hi => ?_) st 0 (hz ▸ gc_tells 2 live3 st) (Nat.zero_le _))
  have hp := body3_eq g (q + 1) cap p cap2 a b i (RK 2 (fun i : Nat => S3 g (q + 1) cap p cap2 a b i) (fun i => i ≤ q + 1) (fun i => q + 1 - i) i (ctxK Try.prog 2 p3 c2 (bodyK False Try.prog (funcOf Try.prog 4) fun r _ => r = .ret (.raw (.bool true)))))
  rw [hp]
  refine round3 g (q + 1) cap p cap2 a b i _ hn hi ha hb (fun h => ?_) (fun h => RK.go (y := i + 1) rfl h (by omega))
  show ctxK Try.prog 2 p3 c2 _ (.exit 4) _
  rw [after3]
  refine CodeB.of (evG_ok noD_ok names mixed (n := 60) ?_)
  have hq := post_eq g (q + 1) cap p cap2 a b (q + 1) fun r => r = .ret (.raw (.bool true))
  rw [hq]
  exact Eq.refl (Res.ret (.raw (.bool true)))
theorem part2 (g : Nat → Int) (q cap : Nat) (p : Option Addr) (cap2 : Nat) (T T2 : Int) (b d : Nat → Int) (hn : q + 1 ≤ 1000) (hb : ∀ j, b j = g j) (st : St) (hz : gcSt 2 live2 st = S2 g (q + 1) cap p cap2 T T2 b d 0) : CodeB Try.prog 2 (subAt p2 c1) st (ctxK Try.prog 2 p2 c1 (bodyK False Try.prog (funcOf Try.prog 4) fun r _ => r = .ret (.raw (.bool true)))) := by
  refine CodeB.lop (by kernel_rfl) (LoopB.byE noD_ok names mixed (N := 60) (fun x : Nat × (Nat → Int) => S2 g (q + 1) cap p cap2 T T2 b x.2 x.1) (fun x => x.1 ≤ q + 1) (fun x => q + 1 - x.1) live2 (fun x hi => ?_) st (0, d) (hz ▸ gc_tells 2 live2 st) (Nat.zero_le _))
  have hp := body2_eq g (q + 1) cap p cap2 T T2 b x.2 x.1 (RK 2 (fun x : Nat × (Nat → Int) => S2 g (q + 1) cap p cap2 T T2 b x.2 x.1) (fun x => x.1 ≤ q + 1) (fun x => q + 1 - x.1) x (ctxK Try.prog 2 p2 c1 (bodyK False Try.prog (funcOf Try.prog 4) fun r _ => r = .ret (.raw (.bool true)))))
  rw [hp]
  refine round2 g (q + 1) cap p cap2 T T2 b x.2 x.1 _ hn hi (fun h => ?_) (fun h d' => RK.go (y := (x.1 + 1, d')) rfl h (by simp only; omega))
  show ctxK Try.prog 2 p2 c1 _ (.exit 2) _
  rw [after2]
  refine evTo_ok noD_ok names mixed (n := 60) (b := 2) (Z := fun st => ∃ a b, (∀ j, a j = g j) ∧ (∀ j, b j = g j) ∧ gcSt 2 live3 st = S3 g (q + 1) cap p cap2 a b 0) p3 _ _ _ (fun st hz => ?_) ?_
  · obtain ⟨a, b, ha, hb, hz⟩ := hz
    exact part3 g q cap p cap2 a b hn ha hb st hz
  · have hq := mid2_eq g q cap p cap2 T T2 b x.2 (fun r => r = .ret (.raw (.bool true))) fun st => ∃ a b, (∀ j, a j = g j) ∧ (∀ j, b j = g j) ∧ st = S3 g (q + 1) cap p cap2 a b 0
    rw [hq]
    exact mid2_ok g q cap p cap2 T T2 b x.2 _ _ hn hb fun a b ha hb => ⟨a, b, ha, hb, rfl⟩
theorem part1 (g : Nat → Int) (q cap : Nat) (p : Option Addr) (cap2 : Nat) (T T2 : Int) (a b : Nat → Int) (hn : q + 1 ≤ 1000) (hb : ∀ j, b j = g j) (st : St) (hz : gcSt 2 live1 st = S1 g (q + 1) cap p cap2 T T2 a b 0) : CodeB Try.prog 2 (subAt p1 (codeOf Try.prog 4)) st (ctxK Try.prog 2 p1 (codeOf Try.prog 4) (bodyK False Try.prog (funcOf Try.prog 4) fun r _ => r = .ret (.raw (.bool true)))) := by
  refine CodeB.lop (by kernel_rfl) (LoopB.byE noD_ok names mixed (N := 60) (fun x : Nat × (Nat → Int) => S1 g (q + 1) cap p cap2 T T2 x.2 b x.1) (fun x => x.1 ≤ q + 1) (fun x => q + 1 - x.1) live1 (fun x hi => ?_) st (0, a) (hz ▸ gc_tells 2 live1 st) (Nat.zero_le _))
  have hp := body1_eq g (q + 1) cap p cap2 T T2 x.2 b x.1 (RK 2 (fun x : Nat × (Nat → Int) => S1 g (q + 1) cap p cap2 T T2 x.2 b x.1) (fun x => x.1 ≤ q + 1) (fun x => q + 1 - x.1) x (ctxK Try.prog 2 p1 (codeOf Try.prog 4) (bodyK False Try.prog (funcOf Try.prog 4) fun r _ => r = .ret (.raw (.bool true)))))
  rw [hp]
  refine round1 g (q + 1) cap p cap2 T T2 x.2 b x.1 _ hn hi (fun h => ?_) (fun h d' => RK.go (y := (x.1 + 1, d')) rfl h (by simp only; omega))
  show ctxK Try.prog 2 p1 (codeOf Try.prog 4) _ (.exit 0) _
  rw [after1]
  refine evTo_ok noD_ok names mixed (n := 60) (b := 2) (Z := fun st => ∃ d, gcSt 2 live2 st = S2 g (q + 1) cap p cap2 T T2 b d 0) p2 _ _ _ (fun st hz => ?_) ?_
  · obtain ⟨d, hz⟩ := hz
    exact part2 g q cap p cap2 T T2 b d hn hb st hz
  · have hq := mid_eq g q cap p cap2 T T2 x.2 b (fun r => r = .ret (.raw (.bool true))) fun st => ∃ d, st = S2 g (q + 1) cap p cap2 T T2 b d 0
    unfold p2
    rw [hq]
    exact mid_ok g q cap p cap2 T T2 x.2 b _ _ hn fun d => ⟨d, rfl⟩
theorem law_sl (g : Nat → Int) (q cap : Nat) (p : Option Addr) (cap2 : Nat) : CallOk Try.prog 4 [.sle 0 1 0 (q + 1) cap, .raw (.slice p 0 cap2)] [.arr .ro [.int .u32 g] (q + 1) 0, .no] fun r _ => r = .ret (.raw (.bool true)) := by
  refine CallOk.fnB names (by kernel_rfl) ?_
  refine CodeB.mono (K := bodyK False Try.prog (funcOf Try.prog 4) fun r _ => r = .ret (.raw (.bool true))) ?_ fun _ _ h => h
  refine evTo_ok noD_ok names mixed (n := 60) (b := 2) (Z := fun st => q + 1 ≤ 1000 ∧ ∃ T T2 a b, (∀ j, b j = g j) ∧ gcSt 2 live1 st = S1 g (q + 1) cap p cap2 T T2 a b 0) p1 _ _ _ (fun st hz => ?_) ?_
  · obtain ⟨hn, T, T2, a, b, hb, hz⟩ := hz
    exact part1 g q cap p cap2 T T2 a b hn hb st hz
  · have hq := pre_eq g q cap p cap2 (fun r => r = .ret (.raw (.bool true))) fun st => q + 1 ≤ 1000 ∧ ∃ T T2 a b, (∀ j, b j = g j) ∧ st = S1 g (q + 1) cap p cap2 T T2 a b 0
    rw [hq]
    exact pre_ok g q cap p cap2 _ _ rfl fun hn T T2 a b hb => ⟨hn, T, T2, a, b, hb, rfl⟩
end Go.Proofs.Ytaefmkabflkpjaa.cacheOwnB

