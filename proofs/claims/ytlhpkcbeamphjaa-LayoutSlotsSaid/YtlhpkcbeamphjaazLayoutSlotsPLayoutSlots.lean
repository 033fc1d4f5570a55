/- LayoutSlots: the law. -/
import Derived.Test.YtlhpkcbeamphjaazLayoutSlotsPSlotB
namespace Go.Proofs.Ytlhpkcbeamphjaa.layoutSlots
open Go Go.Proofs Go.Proofs.YtlhpkcbeamphjaaRL
set_option linter.unusedVariables false
set_option linter.unusedSimpArgs false
abbrev KR : Ex → St → Prop := bodyK False Try.prog (funcOf Try.prog 3) fun r _ => r = .ret (.raw (.bool true))
theorem after1 (K : Ex → St → Prop) (st : St) : ctxK Try.prog 1 p1 (codeOf Try.prog 3) K (.exit 0) st = CodeB Try.prog 1 c1 st K := by kernel_rfl
theorem after3 (K : Ex → St → Prop) (st : St) : ctxK Try.prog 1 p3 c26 K (.exit 2) st = CodeB Try.prog 1 c3 st K := by kernel_rfl
theorem beh22 (K : Ex → St → Prop) (st : St) : ctxK Try.prog 1 (pathS 22 c1) c1 K = K := by kernel_rfl
theorem beh24 (K : Ex → St → Prop) (st : St) : ctxK Try.prog 1 (pathS 24 c22) c22 K = K := by kernel_rfl
theorem beh25 (K : Ex → St → Prop) (st : St) : ctxK Try.prog 1 (pathS 25 c24) c24 K = K := by kernel_rfl
theorem beh26 (K : Ex → St → Prop) (st : St) : ctxK Try.prog 1 (pathS 26 c25) c25 K = K := by kernel_rfl
theorem part5 (g : Nat → Int) (n cap : Nat) (O : Nat) (a : Int) (f : Nat → Int) (hn : n ≤ 200) (hf : ∀ j, j ≤ n → f j = F g j) (hb : F g n ≤ 65536) (hO : O < n) (ha : 0 ≤ a ∧ a < X g O) (st : St) (hz : gcSt 1 live3 st = SC g n cap (pl g O a) (n + 1) 0 f) : CodeB Try.prog 1 (subAt p3 c26) st (ctxK Try.prog 1 p3 c26 KR) := by
  refine CodeB.lop (by kernel_rfl) (LoopB.byE noD_ok names mixed (N := 60) (fun k : Nat => SC g n cap (pl g O a) (n + 1) k f) (fun k => k ≤ n) (fun k => n - k) live3 (fun k hk => ?_) st 0 (hz ▸ gc_tells 1 live3 st) (Nat.zero_le _))
  have hp := body3_eq g n cap (pl g O a) (n + 1) k f (RK 1 (fun k : Nat => SC g n cap (pl g O a) (n + 1) k f) (fun k => k ≤ n) (fun k => n - k) k (ctxK Try.prog 1 p3 c26 KR))
  rw [hp]
  refine round3 g n cap O a k f _ hn hk hf hb hO ha (fun _ => ?_) (fun k1 => RK.go (y := k + 1) rfl k1 (by omega))
  show ctxK Try.prog 1 p3 c26 _ (.exit 2) _
  rw [after3]
  refine CodeB.of (evG_ok noD_ok names mixed (n := 60) ?_)
  have hq := post_eq g n cap (pl g O a) (n + 1) n f fun r => r = .ret (.raw (.bool true))
  rw [hq]
  exact Eq.refl (Res.ret (.raw (.bool true)))
theorem part4 (g : Nat → Int) (n cap : Nat) (O P : Nat) (a b : Int) (f : Nat → Int) (hn : n ≤ 200) (hf : ∀ j, j ≤ n → f j = F g j) (hb : F g n ≤ 65536) (hO : O < n) (hP : P < n) (ha : 0 ≤ a ∧ a < X g O) (hb2 : 0 ≤ b ∧ b < X g P) : CodeB Try.prog 1 c26 (SF g n cap O a P b (pl g O a) (pl g P b) (n + 1) f) KR := by
  refine evTo_ok noD_ok names mixed (n := 60) (b := 1) (Z := fun st => gcSt 1 live3 st = SC g n cap (pl g O a) (n + 1) 0 f) p3 _ _ _ (fun st hz => part5 g n cap O a f hn hf hb hO ha st hz) ?_
  have hq := midE_eq g n cap O P a b (pl g O a) (pl g P b) (n + 1) f (fun r => r = .ret (.raw (.bool true))) fun st => st = SC g n cap (pl g O a) (n + 1) 0 f
  unfold p3
  rw [hq]
  exact midE_ok g n cap O P a b f _ _ hn hf hb hO hP ha hb2 rfl
theorem part3 (g : Nat → Int) (n cap : Nat) (O P : Nat) (a b : Int) (f : Nat → Int) (hn : n ≤ 200) (hf : ∀ j, j ≤ n → f j = F g j) (hb : F g n ≤ 65536) (hO : O < n) (hP : P < n) (ha : 0 ≤ a ∧ a < X g O) (hb2 : 0 ≤ b ∧ b < X g P) : CodeB Try.prog 1 c24 (SD g n cap O a P b (n + 1) f) KR := by
  refine evTo_ok noD_ok names mixed (n := 60) (b := 1) (Z := fun st => gcSt 1 live25 st = SE g n cap O a P b (pl g O a) (n + 1) f) (pathS 25 c24) _ _ _ (fun st hz => ?_) ?_
  · rw [beh25 KR st]
    refine CodeB.tell (hz ▸ gc_tells 1 live25 st) ?_
    show CodeB Try.prog 1 c25 _ _
    refine evTo_ok noD_ok names mixed (n := 60) (b := 1) (Z := fun st => gcSt 1 live26 st = SF g n cap O a P b (pl g O a) (pl g P b) (n + 1) f) (pathS 26 c25) _ _ _ (fun st hz => ?_) ?_
    · rw [beh26 KR st]
      exact CodeB.tell (hz ▸ gc_tells 1 live26 st) (part4 g n cap O P a b f hn hf hb hO hP ha hb2)
    · have hq := midD_eq g n cap O P a b (pl g O a) (n + 1) f (fun r => r = .ret (.raw (.bool true))) fun st => st = SF g n cap O a P b (pl g O a) (pl g P b) (n + 1) f
      show evTo Try.prog noD 60 1 _ (pathS 26 c25) c25 _ _
      rw [hq]
      exact midD_ok g n cap O P a b _ f _ _ hf hb hP hb2.1 hb2.2 rfl
  · have hq := midC_eq g n cap O P a b (n + 1) f (fun r => r = .ret (.raw (.bool true))) fun st => st = SE g n cap O a P b (pl g O a) (n + 1) f
    rw [hq]
    exact midC_ok g n cap O P a b f _ _ hf hb hO ha.1 ha.2 rfl
theorem part2 (g : Nat → Int) (q cap : Nat) (o a p b : Int) (f : Nat → Int) (hn : q + 1 ≤ 200) (hf : ∀ j, j < q + 1 → f j = F g j) : CodeB Try.prog 1 c1 (SB g (q + 1) cap o a p b (F g (q + 1)) (q + 1) f) KR := by
  refine evTo_ok noD_ok names mixed (n := 60) (b := 1) (Z := fun st => F g (q + 1) ≤ 65536 ∧ ∃ f', (∀ j, j ≤ q + 1 → f' j = F g j) ∧ gcSt 1 live2 st = SD g (q + 1) cap (o.tmod ((q + 1 : Nat) : Int)) a (p.tmod ((q + 1 : Nat) : Int)) b (q + 1 + 1) f') (pathS 22 c1) _ _ _ (fun st hz => ?_) ?_
  · obtain ⟨hb, f', hf', hz⟩ := hz
    rw [beh22 KR st]
    refine CodeB.tell (hz ▸ gc_tells 1 live2 st) ?_
    show CodeB Try.prog 1 c22 _ _
    refine evTo_ok noD_ok names mixed (n := 60) (b := 1) (Z := fun st => ∃ O P : Nat, O < q + 1 ∧ P < q + 1 ∧ (0 ≤ a ∧ a < X g O) ∧ (0 ≤ b ∧ b < X g P) ∧ gcSt 1 live2 st = SD g (q + 1) cap O a P b (q + 1 + 1) f') (pathS 24 c22) _ _ _ (fun st hz => ?_) ?_
    · obtain ⟨O, P, hO, hP, ha, hb2, hz⟩ := hz
      rw [beh24 KR st]
      exact CodeB.tell (hz ▸ gc_tells 1 live2 st) (part3 g (q + 1) cap O P a b f' hn hf' hb hO hP ha hb2)
    · have hq := midB_eq g (q + 1) cap (o.tmod ((q + 1 : Nat) : Int)) a (p.tmod ((q + 1 : Nat) : Int)) b (q + 1 + 1) f' (fun r => r = .ret (.raw (.bool true))) fun st => ∃ O P : Nat, O < q + 1 ∧ P < q + 1 ∧ (0 ≤ a ∧ a < X g O) ∧ (0 ≤ b ∧ b < X g P) ∧ st = SD g (q + 1) cap O a P b (q + 1 + 1) f'
      show evTo Try.prog noD 60 1 _ (pathS 24 c22) c22 _ _
      rw [hq]
      exact midB_ok g (q + 1) cap _ a _ b f' _ _ hn hf' (Int.tmod_lt_of_pos _ (by omega)) (Int.tmod_lt_of_pos _ (by omega)) rfl fun O P hO hP h1 h2 h3 h4 => ⟨O, P, hO, hP, ⟨h1, h2⟩, ⟨h3, h4⟩, rfl⟩
  · have hq := midA_eq g q cap o a p b (F g (q + 1)) f (fun r => r = .ret (.raw (.bool true))) fun st => F g (q + 1) ≤ 65536 ∧ ∃ f', (∀ j, j ≤ q + 1 → f' j = F g j) ∧ st = SD g (q + 1) cap (o.tmod ((q + 1 : Nat) : Int)) a (p.tmod ((q + 1 : Nat) : Int)) b (q + 1 + 1) f'
    rw [hq]
    exact midA_ok g q cap o a p b f _ _ hn hf rfl fun hb f' hf' => ⟨hb, f', hf', rfl⟩
/-- The first loop's states: the list is not there yet, or has i elements. -/
def S1 (g : Nat → Int) (n cap : Nat) (o a p b : Int) : Option (Nat × (Nat → Int)) → St
  | none => SA g n cap o a p b
  | some x => SB g n cap o a p b (F g x.1) x.1 x.2
def I1 (g : Nat → Int) (n : Nat) : Option (Nat × (Nat → Int)) → Prop
  | none => True
  | some x => x.1 ≤ n ∧ ∀ j, j < x.1 → x.2 j = F g j
def M1 (n : Nat) : Option (Nat × (Nat → Int)) → Nat
  | none => n + 1
  | some x => n - x.1
theorem part1 (g : Nat → Int) (q cap : Nat) (o a p b : Int) (hn : q + 1 ≤ 200) (st : St) (hz : gcSt 1 live1 st = SA g (q + 1) cap o a p b) : CodeB Try.prog 1 (subAt p1 (codeOf Try.prog 3)) st (ctxK Try.prog 1 p1 (codeOf Try.prog 3) KR) := by
  refine CodeB.lop (by kernel_rfl) (LoopB.byE noD_ok names mixed (N := 60) (S1 g (q + 1) cap o a p b) (I1 g (q + 1)) (M1 (q + 1)) live1 (fun x hx => ?_) st none (show Tells 1 st (SA g (q + 1) cap o a p b) from hz ▸ gc_tells 1 live1 st) trivial)
  cases x with
  | none =>
    have hp := bodyA_eq g (q + 1) cap o a p b (RK 1 (S1 g (q + 1) cap o a p b) (I1 g (q + 1)) (M1 (q + 1)) none (ctxK Try.prog 1 p1 (codeOf Try.prog 3) KR))
    show evG Try.prog noD 60 _ (SA g (q + 1) cap o a p b) _
    rw [hp]
    refine roundA g (q + 1) cap o a p b _ (by omega) fun f hf => RK.go (y := some (1, f)) rfl ⟨by simp only; omega, fun j hj => ?_⟩ (by simp only [M1]; omega)
    obtain rfl : j = 0 := by simp only at hj; omega
    exact hf
  | some x =>
    obtain ⟨i, f⟩ := x
    obtain ⟨hi, hf⟩ := hx
    have hp := bodyB_eq g (q + 1) cap o a p b (F g i) i f (RK 1 (S1 g (q + 1) cap o a p b) (I1 g (q + 1)) (M1 (q + 1)) (some (i, f)) (ctxK Try.prog 1 p1 (codeOf Try.prog 3) KR))
    show evG Try.prog noD 60 _ (SB g (q + 1) cap o a p b (F g i) i f) _
    rw [hp]
    refine roundB g (q + 1) cap o a p b i f _ hn hi hf (fun h => ?_) fun h f' hf' => RK.go (y := some (i + 1, f')) rfl ⟨h, hf'⟩ (by simp only [M1]; omega)
    show ctxK Try.prog 1 p1 (codeOf Try.prog 3) _ (.exit 0) _
    rw [after1]
    exact part2 g q cap o a p b f hn fun j hj => hf j (by simp only; omega)
theorem law_sl (g : Nat → Int) (q cap : Nat) (o a p b : Int) : CallOk Try.prog 3 [.sle 0 1 0 (q + 1) cap, .raw (.int .i64 o), .raw (.int .i64 a), .raw (.int .i64 p), .raw (.int .i64 b)] [.arr .ro [.int .i64 g] (q + 1) 0] fun r _ => r = .ret (.raw (.bool true)) := by
  refine CallOk.fnB names (by kernel_rfl) ?_
  refine CodeB.mono (K := KR) ?_ fun _ _ h => h
  refine evTo_ok noD_ok names mixed (n := 60) (b := 1) (Z := fun st => q + 1 ≤ 200 ∧ gcSt 1 live1 st = SA g (q + 1) cap o a p b) p1 _ _ _ (fun st hz => part1 g q cap o a p b hz.1 st hz.2) ?_
  have hq := pre_eq g q cap o a p b (fun r => r = .ret (.raw (.bool true))) fun st => q + 1 ≤ 200 ∧ st = SA g (q + 1) cap o a p b
  rw [hq]
  unfold pre_f
  by_cases c : ((q + 1 : Nat) : Int) > 200
  · simp only [decide_eq_true c]
  · simp only [decide_eq_false c]
    exact ⟨by omega, rfl⟩
theorem formula0 (p0 : Option Addr) (cap : Nat) (o a p b : Int) : lawI Try.prog noD 100 3 [.raw (.slice p0 0 cap), .raw (.int .i64 o), .raw (.int .i64 a), .raw (.int .i64 p), .raw (.int .i64 b)] [.no] = true := by kernel_rfl
def aks : List AS := [.sl [.int .i64], .flat (.one (.int .i64)), .flat (.one (.int .i64)), .flat (.one (.int .i64)), .flat (.one (.int .i64))]
theorem law_call : ∀ args s, argsOkS 0 aks args s → CallOk Try.prog 3 args s fun r _ => r = .ret (.raw (.bool true)) := law_viaA fun args s h => by
  have flat4 : ∀ {i : Nat} {vs : List V} {s : Sto}, argsOkA i [.flat (.one (.int .i64)), .flat (.one (.int .i64)), .flat (.one (.int .i64)), .flat (.one (.int .i64))] vs s → ∃ o a p b, vs = [.raw (.int .i64 o), .raw (.int .i64 a), .raw (.int .i64 p), .raw (.int .i64 b)] ∧ s = [] := by
    intro i vs s h
    obtain ⟨v1, vs, rfl, h1, h⟩ := argsOkA_flat h
    obtain ⟨v2, vs, rfl, h2, h⟩ := argsOkA_flat h
    obtain ⟨v3, vs, rfl, h3, h⟩ := argsOkA_flat h
    obtain ⟨v4, vs, rfl, h4, h⟩ := argsOkA_flat h
    obtain ⟨rfl, rfl⟩ := argsOkA_nil h
    obtain ⟨o, r, e, _, k⟩ := argsOk_int h1
    cases argsOk_nil k; cases e
    obtain ⟨a, r, e, _, k⟩ := argsOk_int h2
    cases argsOk_nil k; cases e
    obtain ⟨p, r, e, _, k⟩ := argsOk_int h3
    cases argsOk_nil k; cases e
    obtain ⟨b, r, e, _, k⟩ := argsOk_int h4
    cases argsOk_nil k; cases e
    exact ⟨o, a, p, b, rfl, rfl⟩
  rcases argsOkA_sl h with ⟨p0, cap, vs, s', rfl, rfl, h2⟩ | ⟨n, cap, cols, vs, s', hn, rfl, rfl, hcap, hmx, hc, h2⟩
  · obtain ⟨o, a, p, b, rfl, rfl⟩ := flat4 h2
    exact lawI_sound noD_ok names mixed (n := 100) (formula0 p0 cap o a p b)
  · obtain ⟨g, cs, rfl, hg, hc⟩ := colsOkA_int hc
    cases colsOkA_nil hc
    obtain ⟨q, rfl⟩ : ∃ q, n = q + 1 := ⟨n - 1, by omega⟩
    obtain ⟨o, a, p, b, rfl, rfl⟩ := flat4 h2
    exact law_sl g q cap o a p b
end Go.Proofs.Ytlhpkcbeamphjaa.layoutSlots
