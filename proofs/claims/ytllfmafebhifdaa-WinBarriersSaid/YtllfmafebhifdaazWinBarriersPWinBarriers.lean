/- Parts of the proof, one behind the other. -/
import Derived.Test.YtllfmafebhifdaazWinBarriersWBa
import Derived.Test.YtllfmafebhifdaazWinBarriersRLRow5
import Derived.Test.YtllfmafebhifdaazWinBarriersWVal
import Derived.Test.YtllfmafebhifdaazWinBarriersRLRow4
section
/- WinBarriers: kinds out of range, and what waits behind a barrier. -/
set_option linter.unusedVariables false
set_option linter.unusedSimpArgs false
set_option maxRecDepth 1000000
namespace Go.Proofs.Ytllfmafebhifdaa.winBarriers
open Go Go.Proofs Go.Proofs.YtllfmafebhifdaaRL Go.Proofs.Ytllfmafebhifdaa.isa Go.Proofs.Ytllfmafebhifdaa.win
section
variable (W X : WinC) (n m cap cap' : Nat) (r : RegsF)
def outM (kd : Int) (K : V → Prop) : Prop := Br (decide (kd < 0)) (K (bV true)) (Br (decide (kd > 2)) (K (bV true)) False)
abbrev stI (v0 v2 : V) (kd : Int) (r : RegsF) (s : Sto) : St := ⟨77, zipArgs 0 [v0, .raw (.int .i64 kd), v2, r.v], s⟩
theorem out_a (kd : Int) (K : V → Prop) : evTo Try.prog EB 100 2 (fun _ => False) [0,0,0,0,0] cd (stI (.sle 0 46 0 n cap) (.sle 1 46 0 m cap') kd r [e0 W n, e0 X m]) (KB K) = preM n m K (outM kd K) := by kernel_rfl
theorem out_b (p) (kd : Int) (K : V → Prop) : evTo Try.prog EB 100 2 (fun _ => False) [0,0,0,0,0] cd (stI (.raw (.slice p 0 cap)) (.sle 1 46 0 m cap') kd r [.no, e0 X m]) (KB K) = preM 0 m K (outM kd K) := by kernel_rfl
theorem out_c (p) (kd : Int) (K : V → Prop) : evTo Try.prog EB 100 2 (fun _ => False) [0,0,0,0,0] cd (stI (.sle 0 46 0 n cap) (.raw (.slice p 0 cap')) kd r [e0 W n, .no]) (KB K) = preM n 0 K (outM kd K) := by kernel_rfl
theorem out_d (p) (p') (kd : Int) (K : V → Prop) : evTo Try.prog EB 100 2 (fun _ => False) [0,0,0,0,0] cd (stI (.raw (.slice p 0 cap)) (.raw (.slice p' 0 cap')) kd r [.no, .no]) (KB K) = outM kd K := by kernel_rfl
end
/-- What waits behind one that is not done. -/
theorem may_nine {U : WinC} {L : Nat} {i : Int} {j : Nat} {r : RegsF} (hi : 0 ≤ i ∧ i < L) (hj : j < i.toNat) (hd : U.done j = false) (hr : U.rule L i (j : Nat) r.nm = true) : U.may L i r = 9 := by
  unfold WinC.may
  rw [if_neg (fun h => h hi), held_true hj (show (!U.done j && U.rule L i (j : Nat) r.nm) = true by rw [hd, hr]; rfl)]
  split <;> rfl
theorem rule_any {U : WinC} {L : Nat} {i : Int} {j k : Nat} {r : RegsF} (ho : U.op j = kop k) (hm : U.im j = 0) (hk : k ≤ 2) (hx : k = 2 ∨ (28 ≤ U.op i.toNat ∧ U.op i.toNat ≤ 36)) : U.rule L i (j : Nat) r = true := by
  have h : ruleA (U.op ((j : Nat) : Int).toNat) (U.op i.toNat) (memP (U.op i.toNat)) (U.im ((j : Nat) : Int).toNat) true false = true := by
    show ruleA (U.op j) (U.op i.toNat) (memP (U.op i.toNat)) (U.im j) true false = true
    rw [ho, hm]
    rcases hx with rfl | hx
    · rfl
    · have h1 : memP (U.op i.toNat) = true := decide_eq_true hx
      have h2 : touP (U.op i.toNat) = true := decide_eq_true (.inl hx)
      match k, hk with
      | 0, _ => show Br (memP (U.op i.toNat)) true false = true; rw [h1]; rfl
      | 1, _ => show Br (touP (U.op i.toNat)) true _ = true; rw [h2]; rfl
      | 2, _ => rfl
  unfold WinC.rule
  rw [h]; rfl
abbrev isT : V → Prop := fun v => v = bV true
abbrev KO : Ex → St → Prop := ctxK Try.prog 2 p1 cd (KB isT)
theorem tail_ok {s0 s1 : Ent} {U : WinC} {L k n0 : Nat} {r : RegsF} (ho : U.nm.op n0 = kop k) (hdn : U.nm.done n0 = false) (him : U.nm.im n0 = 0) (hk : k ≤ 2) (h0 : n0 < L) (hL : L ≤ 1000)
    (hb : ∀ (i : Int) (K : Ex → St → Prop), evG Try.prog EB 100 (lft (subAt p1 cd)) (SB s0 s1 U L (k : Nat) r i false) (fun e st => K e (gcSt 2 live st)) = bodyM r U L i (i.toNat + 0) (Nat.beq k 2) (K .normal (SB s0 s1 U L (k : Nat) r (IntKind.i64.wrap (i + 1)) false)) (K (.exit 0) (SB s0 s1 U L (k : Nat) r i false)) (K .ret (SB s0 s1 U L (k : Nat) r i false)))
    (hp : ∀ i : Int, evG Try.prog EB 100 c1 (SB s0 s1 U L (k : Nat) r i false) (KB isT) = isT (bV true))
    (st : St) (hz : gcSt 2 live st = SB s0 s1 U L (k : Nat) r ((n0 + 1 : Nat) : Int) false) : CodeB Try.prog 2 (subAt p1 cd) st KO := by
  refine CodeB.lop (by kernel_rfl) (LoopB.byE EB_ok names mixed (N := 100) (fun i : Nat => SB s0 s1 U L (k : Nat) r (i : Int) false) (fun i => n0 < i ∧ i ≤ L) (fun i => L - i) live (fun i hi => ?_) st (n0 + 1) (by have h := gc_tells 2 live st; rw [hz] at h; exact h) ⟨by omega, by omega⟩)
  obtain ⟨hi1, hi2⟩ := hi
  refine (hb (i : Int) (RK 2 (fun i : Nat => SB s0 s1 U L (k : Nat) r (i : Int) false) (fun i => n0 < i ∧ i ≤ L) (fun i => L - i) i KO)).mpr ?_
  unfold bodyM
  have c6 : ((i : Int)).toNat + 0 = i := rfl
  rw [c6]
  by_cases hlt : i < L
  · have c5 : IntKind.i64.wrap ((i : Int) + 1) = ((i + 1 : Nat) : Int) := by rw [wrap_i64_in (by omega) (by omega)]; omega
    rw [decide_eq_true (show (i : Int) < (L : Int) by omega), c5]
    have hnx : RK 2 (fun i : Nat => SB s0 s1 U L (k : Nat) r (i : Int) false) (fun i => n0 < i ∧ i ≤ L) (fun i => L - i) i KO .normal (SB s0 s1 U L (k : Nat) r ((i + 1 : Nat) : Int) false) :=
      RK.go (K := fun _ _ => True) (y := i + 1) rfl ⟨by omega, by omega⟩ (by omega)
    generalize RK 2 (fun i : Nat => SB s0 s1 U L (k : Nat) r (i : Int) false) (fun i => n0 < i ∧ i ≤ L) (fun i => L - i) i KO .normal (SB s0 s1 U L (k : Nat) r ((i + 1 : Nat) : Int) false) = NX at hnx ⊢
    refine ixM_ok (i := (i : Int)) (by omega) (by omega) (Nat.le_refl _) ?_
    have hask : (k = 2 ∨ (28 ≤ U.op i ∧ U.op i ≤ 36)) → U.nm.may L (i : Nat) r.nm = 9 := fun hx =>
      may_nine (j := n0) ⟨by omega, by omega⟩ (show n0 < i from hi1) hdn (rule_any ho him hk hx)
    have hne : ∀ RT : Prop, (k = 2 ∨ (28 ≤ U.op i ∧ U.op i ≤ 36)) → fitM L L (Br (Nat.ble L L) (Br (U.nm.may L (i : Nat) r.nm != 9) RT NX) False) := fun RT hx => by
      refine fitM_ok (Nat.le_refl _) (by omega) ?_
      rw [Nat.ble_eq_true_of_le (Nat.le_refl L), hask hx]
      exact hnx
    refine br_cases (fun h1 => br_cases (fun h2 => hne _ (.inr ⟨of_decide_eq_true h1, of_decide_eq_true h2⟩)) fun h2 => ?_) fun h1 => ?_
    · exact br_cases (fun h => hne _ (.inl (Nat.eq_of_beq_eq_true h))) fun _ => hnx
    · exact br_cases (fun h => hne _ (.inl (Nat.eq_of_beq_eq_true h))) fun _ => hnx
  · obtain rfl : i = L := by omega
    rw [decide_eq_false (Int.lt_irrefl _)]
    show KO (.exit 0) (SB s0 s1 U i (k : Nat) r (i : Int) false)
    unfold KO
    rw [aft]
    refine CodeB.of (evG_ok EB_ok names mixed (n := 100) ?_)
    exact (hp (i : Int)).mpr rfl
theorem cat_at {α : Type} {d b : α} {n : Nat} {f g : Nat → α} : cat d n f b g n = b := by
  unfold cat
  rw [blt_lt (Nat.lt_succ_self n), show Nat.blt n n = false from by cases h : Nat.blt n n; rfl; exact absurd (Nat.le_of_ble_eq_true h) (by omega), Nat.sub_self]; rfl
theorem cat1_at {α : Type} {d b : α} {n : Nat} {f : Nat → α} : cat1 d n f b n = b := by
  unfold cat1
  rw [blt_lt (Nat.lt_succ_self n), show Nat.blt n n = false from by cases h : Nat.blt n n; rfl; exact absurd (Nat.le_of_ble_eq_true h) (by omega), Nat.sub_self]; rfl
theorem grow_ok {n : Nat} (h : n ≤ 1000) : growOk n 344 = true := by
  unfold growOk
  rw [Nat.ble_eq_true_of_le (show n * 344 ≤ 140737488355328 by omega), Nat.ble_eq_true_of_le (show n ≤ 140737488355328 by omega)]; rfl
theorem preM_ok {n m : Nat} {P : Prop} (hn : n ≤ reachBytes) (hm : m ≤ reachBytes) (h : n + m ≤ 20 → P) : preM n m isT P := by
  unfold preM
  refine br_cases (fun _ => rfl) fun hb => h ?_
  have := of_decide_eq_false hb
  have e : IntKind.i64.wrap ((n : Int) + (m : Int)) = (n : Int) + (m : Int) := by
    unfold reachBytes at hn hm
    exact wrap_i64_in (by omega) (by omega)
  rw [e] at this
  omega
theorem outM_ok {kd : Int} (h : kd < 0 ∨ kd > 2) : outM kd isT := by
  unfold outM
  refine br_cases (fun _ => rfl) fun h1 => br_cases (fun _ => rfl) fun h2 => ?_
  have := of_decide_eq_false h1
  have := of_decide_eq_false h2
  omega
theorem g3_ok {b : Bool} {P : Prop} (hb : b = true) (h : P) : g3 b P := by rw [hb]; exact h
end Go.Proofs.Ytllfmafebhifdaa.winBarriers
end
section
/- Windows as arguments of laws. -/
set_option linter.unusedVariables false
set_option linter.unusedSimpArgs false
set_option maxRecDepth 100000
namespace Go.Proofs.Ytllfmafebhifdaa.win
open Go Go.Proofs Go.Proofs.YtllfmafebhifdaaRL Go.Proofs.Ytllfmafebhifdaa.isa
theorem colsOkA_ints {k : IntKind} {ks : List CK} {n : Nat} : ∀ {m : Nat} {cols : List Col}, colsOkA (List.replicate m (.int k) ++ ks) cols n → ∃ (x : Nat → Nat → Int) (cs : List Col), cols = ((List.range m).map fun i => Col.int k (x i)) ++ cs ∧ colsOkA ks cs n := by
  intro m
  induction m with
  | zero => intro cols h; exact ⟨fun _ _ => 0, cols, rfl, h⟩
  | succ m ih =>
    intro cols h
    obtain ⟨g, cs, rfl, _, h1⟩ := colsOkA_int h
    obtain ⟨x, cs', rfl, h2⟩ := ih h1
    refine ⟨fun i => match i with | 0 => g | i + 1 => x i, cs', ?_, h2⟩
    rw [List.range_succ_eq_map, List.map_cons, List.map_map]
    rfl
def wcs : List CK := [.int .u64, .int .i64, .int .i64, .int .i64, .int .i64, .int .i64, .int .i64, .int .i64, .int .u64, .bool] ++ (List.replicate 32 (.int .u64) ++ [.bool, .bool, .bool, .bool])
def rcs : List CK := List.replicate 32 (.int .u64) ++ [.bool, .bool, .bool, .bool]
theorem cols_win {cols : List Col} {n : Nat} (hc : colsOkA wcs cols n) : ∃ W : WinC, cols = W.cols := by
  obtain ⟨pc, c101, e1, _, hc1⟩ := colsOkA_int hc
  obtain ⟨op, c102, e2, _, hc2⟩ := colsOkA_int hc1
  obtain ⟨d, c103, e3, _, hc3⟩ := colsOkA_int hc2
  obtain ⟨rn, c104, e4, _, hc4⟩ := colsOkA_int hc3
  obtain ⟨m, c105, e5, _, hc5⟩ := colsOkA_int hc4
  obtain ⟨a, c106, e6, _, hc6⟩ := colsOkA_int hc5
  obtain ⟨c, c107, e7, _, hc7⟩ := colsOkA_int hc6
  obtain ⟨im, c108, e8, _, hc8⟩ := colsOkA_int hc7
  obtain ⟨nx, c109, e9, _, hc9⟩ := colsOkA_int hc8
  obtain ⟨dn, c110, e10, hc10⟩ := colsOkA_bool hc9
  obtain ⟨x, c111, e11, hc11⟩ := colsOkA_ints hc10
  obtain ⟨nf, c112, e12, hc12⟩ := colsOkA_bool hc11
  obtain ⟨zf, c113, e13, hc13⟩ := colsOkA_bool hc12
  obtain ⟨cf, c114, e14, hc14⟩ := colsOkA_bool hc13
  obtain ⟨vf, c115, e15, hc15⟩ := colsOkA_bool hc14
  have e0 := colsOkA_nil hc15
  subst e1 e2 e3 e4 e5 e6 e7 e8 e9 e10 e11 e12 e13 e14 e15 e0
  exact ⟨⟨pc, op, d, rn, m, a, c, im, nx, dn, x, nf, zf, cf, vf⟩, rfl⟩
theorem regs_arg {v : V} (h : argsOk [.agg rcs] [v]) : ∃ r : RegsF, v = r.v := by
  obtain ⟨ws, r, e, h0, h1⟩ := argsOk_agg h
  cases argsOk_nil h1
  cases e
  obtain ⟨x, nf, zf, cf, vf, _, e⟩ := rawsOk_regs h0
  exact ⟨⟨x, nf, zf, cf, vf⟩, e⟩
end Go.Proofs.Ytllfmafebhifdaa.win
end
section
/- WinBarriers: the law's function tells true. -/
set_option linter.unusedVariables false
set_option linter.unusedSimpArgs false
set_option maxRecDepth 1000000
namespace Go.Proofs.Ytllfmafebhifdaa.winBarriers
open Go Go.Proofs Go.Proofs.YtllfmafebhifdaaRL Go.Proofs.Ytllfmafebhifdaa.isa Go.Proofs.Ytllfmafebhifdaa.win
abbrev isR : Res → Sto → Prop := fun q _ => q = .ret (bV true)
theorem out_of {v0 v2 : V} {kd : Int} {r : RegsF} {a b : Ent} (h : evTo Try.prog EB 100 2 (fun _ => False) [0,0,0,0,0] cd (stI v0 v2 kd r [a, b]) (KB isT)) : CallOk Try.prog 3 [v0, .raw (.int .i64 kd), v2, r.v] [a, b] isR := by
  refine CallOk.mono (K := rK isT) (CallOk.fnB names (by kernel_rfl) ?_) rK_ok
  rw [show (funcOf Try.prog 3).ntmps = 77 from by kernel_rfl]
  exact evTo_ok EB_ok names mixed (n := 100) (b := 2) (Z := fun _ => False) [0,0,0,0,0] _ _ _ (fun st hz => hz.elim) h
theorem in_of {v0 v2 : V} {k : Nat} {r : RegsF} {a b : Ent} {T : St → Prop} (hT : ∀ st, T (gcSt 2 live st) → CodeB Try.prog 2 (subAt p1 cd) st KO) (h : evTo Try.prog EB 100 2 (fun st => T (gcSt 2 live st)) p1 cd (st0 v0 v2 k r [a, b]) (KB isT)) : CallOk Try.prog 3 [v0, .raw (.int .i64 (k : Nat)), v2, r.v] [a, b] isR := by
  refine CallOk.mono (K := rK isT) (CallOk.fnB names (by kernel_rfl) ?_) rK_ok
  rw [show (funcOf Try.prog 3).ntmps = 77 from by kernel_rfl]
  exact evTo_ok EB_ok names mixed (n := 100) (b := 2) (Z := fun st => T (gcSt 2 live st)) p1 _ _ _ (fun st hz => hT st hz) h
section
variable (W X : WinC) (n m cap cap' : Nat) (r : RegsF)
theorem in_a0 (hn : 0 < n) (hc : n ≤ reachBytes) (hm : 0 < m) (hd : m ≤ reachBytes) : CallOk Try.prog 3 [.sle 0 46 0 n cap, .raw (.int .i64 ((0 : Nat) : Int)), .sle 1 46 0 m cap', r.v] [e0 W n, e0 X m] isR := by
  refine in_of (T := fun st => n + m ≤ 20 ∧ st = SB (e0 W n) (e0 X m) (wCat W X n (kop 0)) (n + 1 + m) (0 : Nat) r ((n + 1 : Nat) : Int) false) (fun st hz => ?_) ?_
  · exact tail_ok (s0 := e0 W n) (s1 := e0 X m) (U := wCat W X n (kop 0)) (L := n + 1 + m) (r := r) (k := 0) (n0 := n) cat_at cat_at cat_at (by omega) (by omega) (by have := hz.1; omega) (body_00 W X n m r _ _) (fun i => post_00 W X n m r _ _ i isT) st hz.2
  · have hp := pre_a0 W X n m cap cap' r isT fun st => n + m ≤ 20 ∧ st = SB (e0 W n) (e0 X m) (wCat W X n (kop 0)) (n + 1 + m) (0 : Nat) r ((n + 1 : Nat) : Int) false
    refine hp.mpr (preM_ok hc hd fun hs => ?_)
    have c5 : IntKind.i64.wrap ((n : Int) + 1) = ((n + 1 : Nat) : Int) := by rw [wrap_i64_in (by omega) (by omega)]; omega
    rw [c5]
    refine g3_ok (Nat.ble_eq_true_of_le (by omega)) ?_
    refine br_cases (fun h => absurd (Nat.eq_of_beq_eq_true h) (by omega)) fun _ => ?_
    exact g3_ok (grow_ok (by omega)) (g3_ok (Nat.ble_eq_true_of_le (by omega)) (g3_ok (grow_ok (by omega)) (g3_ok (Nat.ble_eq_true_of_le (by omega)) (g3_ok (Nat.ble_eq_true_of_le (by omega)) (g3_ok (grow_ok (by omega)) ⟨hs, rfl⟩)))))
theorem in_b0 (p) (hm : 0 < m) (hd : m ≤ reachBytes) : CallOk Try.prog 3 [.raw (.slice p 0 cap), .raw (.int .i64 ((0 : Nat) : Int)), .sle 1 46 0 m cap', r.v] [.no, e0 X m] isR := by
  refine in_of (T := fun st => m ≤ 20 ∧ st = SB .no (e0 X m) (wCat0 X (kop 0)) (1 + m) (0 : Nat) r ((0 + 1 : Nat) : Int) false) (fun st hz => ?_) ?_
  · exact tail_ok (s0 := .no) (s1 := e0 X m) (U := wCat0 X (kop 0)) (L := 1 + m) (r := r) (k := 0) (n0 := 0) rfl rfl rfl (by omega) (by omega) (by have := hz.1; omega) (body_01 X m r _ _) (fun i => post_01 X m r _ _ i isT) st hz.2
  · have hp := pre_b0 X m cap cap' r p isT fun st => m ≤ 20 ∧ st = SB .no (e0 X m) (wCat0 X (kop 0)) (1 + m) (0 : Nat) r ((0 + 1 : Nat) : Int) false
    refine hp.mpr (preM_ok (Nat.zero_le _) hd fun hs => ?_)
    exact g3_ok (Nat.ble_eq_true_of_le (by omega)) (g3_ok (grow_ok (by omega)) ⟨by omega, rfl⟩)
theorem in_c0 (p) (hn : 0 < n) (hc : n ≤ reachBytes) : CallOk Try.prog 3 [.sle 0 46 0 n cap, .raw (.int .i64 ((0 : Nat) : Int)), .raw (.slice p 0 cap'), r.v] [e0 W n, .no] isR := by
  refine in_of (T := fun st => n ≤ 20 ∧ st = SB (e0 W n) .no (wCat1 W n (kop 0)) (n + 1) (0 : Nat) r ((n + 1 : Nat) : Int) false) (fun st hz => ?_) ?_
  · exact tail_ok (s0 := e0 W n) (s1 := .no) (U := wCat1 W n (kop 0)) (L := n + 1) (r := r) (k := 0) (n0 := n) cat1_at cat1_at cat1_at (by omega) (by omega) (by have := hz.1; omega) (body_02 W n r _ _) (fun i => post_02 W n r _ _ i isT) st hz.2
  · have hp := pre_c0 W n cap cap' r p isT fun st => n ≤ 20 ∧ st = SB (e0 W n) .no (wCat1 W n (kop 0)) (n + 1) (0 : Nat) r ((n + 1 : Nat) : Int) false
    refine hp.mpr (preM_ok hc (Nat.zero_le _) fun hs => ?_)
    have c5 : IntKind.i64.wrap ((n : Int) + 1) = ((n + 1 : Nat) : Int) := by rw [wrap_i64_in (by omega) (by omega)]; omega
    rw [c5]
    refine g3_ok (Nat.ble_eq_true_of_le (by omega)) ?_
    refine br_cases (fun h => absurd (Nat.eq_of_beq_eq_true h) (by omega)) fun _ => ?_
    exact g3_ok (grow_ok (by omega)) (g3_ok (Nat.ble_eq_true_of_le (by omega)) (g3_ok (grow_ok (by omega)) (g3_ok (Nat.ble_eq_true_of_le (by omega)) (g3_ok (grow_ok (by omega)) ⟨by omega, rfl⟩))))
theorem in_d0 (p) (p') : CallOk Try.prog 3 [.raw (.slice p 0 cap), .raw (.int .i64 ((0 : Nat) : Int)), .raw (.slice p' 0 cap'), r.v] [.no, .no] isR := by
  refine in_of (T := fun st => st = SB .no .no (wCat2 (kop 0)) 1 (0 : Nat) r ((0 + 1 : Nat) : Int) false) (fun st hz => ?_) ?_
  · exact tail_ok (s0 := .no) (s1 := .no) (U := wCat2 (kop 0)) (L := 1) (r := r) (k := 0) (n0 := 0) rfl rfl rfl (by omega) (by omega) (by omega) (body_03 r _ _) (fun i => post_03 r _ _ i isT) st hz
  · have hp := pre_d0 cap cap' r p p' isT fun st => st = SB .no .no (wCat2 (kop 0)) 1 (0 : Nat) r ((0 + 1 : Nat) : Int) false
    exact hp.mpr rfl
theorem in_a1 (hn : 0 < n) (hc : n ≤ reachBytes) (hm : 0 < m) (hd : m ≤ reachBytes) : CallOk Try.prog 3 [.sle 0 46 0 n cap, .raw (.int .i64 ((1 : Nat) : Int)), .sle 1 46 0 m cap', r.v] [e0 W n, e0 X m] isR := by
  refine in_of (T := fun st => n + m ≤ 20 ∧ st = SB (e0 W n) (e0 X m) (wCat W X n (kop 1)) (n + 1 + m) (1 : Nat) r ((n + 1 : Nat) : Int) false) (fun st hz => ?_) ?_
  · exact tail_ok (s0 := e0 W n) (s1 := e0 X m) (U := wCat W X n (kop 1)) (L := n + 1 + m) (r := r) (k := 1) (n0 := n) cat_at cat_at cat_at (by omega) (by omega) (by have := hz.1; omega) (body_10 W X n m r _ _) (fun i => post_10 W X n m r _ _ i isT) st hz.2
  · have hp := pre_a1 W X n m cap cap' r isT fun st => n + m ≤ 20 ∧ st = SB (e0 W n) (e0 X m) (wCat W X n (kop 1)) (n + 1 + m) (1 : Nat) r ((n + 1 : Nat) : Int) false
    refine hp.mpr (preM_ok hc hd fun hs => ?_)
    have c5 : IntKind.i64.wrap ((n : Int) + 1) = ((n + 1 : Nat) : Int) := by rw [wrap_i64_in (by omega) (by omega)]; omega
    rw [c5]
    refine g3_ok (Nat.ble_eq_true_of_le (by omega)) ?_
    refine br_cases (fun h => absurd (Nat.eq_of_beq_eq_true h) (by omega)) fun _ => ?_
    exact g3_ok (grow_ok (by omega)) (g3_ok (Nat.ble_eq_true_of_le (by omega)) (g3_ok (grow_ok (by omega)) (g3_ok (Nat.ble_eq_true_of_le (by omega)) (g3_ok (Nat.ble_eq_true_of_le (by omega)) (g3_ok (grow_ok (by omega)) ⟨hs, rfl⟩)))))
theorem in_b1 (p) (hm : 0 < m) (hd : m ≤ reachBytes) : CallOk Try.prog 3 [.raw (.slice p 0 cap), .raw (.int .i64 ((1 : Nat) : Int)), .sle 1 46 0 m cap', r.v] [.no, e0 X m] isR := by
  refine in_of (T := fun st => m ≤ 20 ∧ st = SB .no (e0 X m) (wCat0 X (kop 1)) (1 + m) (1 : Nat) r ((0 + 1 : Nat) : Int) false) (fun st hz => ?_) ?_
  · exact tail_ok (s0 := .no) (s1 := e0 X m) (U := wCat0 X (kop 1)) (L := 1 + m) (r := r) (k := 1) (n0 := 0) rfl rfl rfl (by omega) (by omega) (by have := hz.1; omega) (body_11 X m r _ _) (fun i => post_11 X m r _ _ i isT) st hz.2
  · have hp := pre_b1 X m cap cap' r p isT fun st => m ≤ 20 ∧ st = SB .no (e0 X m) (wCat0 X (kop 1)) (1 + m) (1 : Nat) r ((0 + 1 : Nat) : Int) false
    refine hp.mpr (preM_ok (Nat.zero_le _) hd fun hs => ?_)
    exact g3_ok (Nat.ble_eq_true_of_le (by omega)) (g3_ok (grow_ok (by omega)) ⟨by omega, rfl⟩)
theorem in_c1 (p) (hn : 0 < n) (hc : n ≤ reachBytes) : CallOk Try.prog 3 [.sle 0 46 0 n cap, .raw (.int .i64 ((1 : Nat) : Int)), .raw (.slice p 0 cap'), r.v] [e0 W n, .no] isR := by
  refine in_of (T := fun st => n ≤ 20 ∧ st = SB (e0 W n) .no (wCat1 W n (kop 1)) (n + 1) (1 : Nat) r ((n + 1 : Nat) : Int) false) (fun st hz => ?_) ?_
  · exact tail_ok (s0 := e0 W n) (s1 := .no) (U := wCat1 W n (kop 1)) (L := n + 1) (r := r) (k := 1) (n0 := n) cat1_at cat1_at cat1_at (by omega) (by omega) (by have := hz.1; omega) (body_12 W n r _ _) (fun i => post_12 W n r _ _ i isT) st hz.2
  · have hp := pre_c1 W n cap cap' r p isT fun st => n ≤ 20 ∧ st = SB (e0 W n) .no (wCat1 W n (kop 1)) (n + 1) (1 : Nat) r ((n + 1 : Nat) : Int) false
    refine hp.mpr (preM_ok hc (Nat.zero_le _) fun hs => ?_)
    have c5 : IntKind.i64.wrap ((n : Int) + 1) = ((n + 1 : Nat) : Int) := by rw [wrap_i64_in (by omega) (by omega)]; omega
    rw [c5]
    refine g3_ok (Nat.ble_eq_true_of_le (by omega)) ?_
    refine br_cases (fun h => absurd (Nat.eq_of_beq_eq_true h) (by omega)) fun _ => ?_
    exact g3_ok (grow_ok (by omega)) (g3_ok (Nat.ble_eq_true_of_le (by omega)) (g3_ok (grow_ok (by omega)) (g3_ok (Nat.ble_eq_true_of_le (by omega)) (g3_ok (grow_ok (by omega)) ⟨by omega, rfl⟩))))
theorem in_d1 (p) (p') : CallOk Try.prog 3 [.raw (.slice p 0 cap), .raw (.int .i64 ((1 : Nat) : Int)), .raw (.slice p' 0 cap'), r.v] [.no, .no] isR := by
  refine in_of (T := fun st => st = SB .no .no (wCat2 (kop 1)) 1 (1 : Nat) r ((0 + 1 : Nat) : Int) false) (fun st hz => ?_) ?_
  · exact tail_ok (s0 := .no) (s1 := .no) (U := wCat2 (kop 1)) (L := 1) (r := r) (k := 1) (n0 := 0) rfl rfl rfl (by omega) (by omega) (by omega) (body_13 r _ _) (fun i => post_13 r _ _ i isT) st hz
  · have hp := pre_d1 cap cap' r p p' isT fun st => st = SB .no .no (wCat2 (kop 1)) 1 (1 : Nat) r ((0 + 1 : Nat) : Int) false
    exact hp.mpr rfl
theorem in_a2 (hn : 0 < n) (hc : n ≤ reachBytes) (hm : 0 < m) (hd : m ≤ reachBytes) : CallOk Try.prog 3 [.sle 0 46 0 n cap, .raw (.int .i64 ((2 : Nat) : Int)), .sle 1 46 0 m cap', r.v] [e0 W n, e0 X m] isR := by
  refine in_of (T := fun st => n + m ≤ 20 ∧ st = SB (e0 W n) (e0 X m) (wCat W X n (kop 2)) (n + 1 + m) (2 : Nat) r ((n + 1 : Nat) : Int) false) (fun st hz => ?_) ?_
  · exact tail_ok (s0 := e0 W n) (s1 := e0 X m) (U := wCat W X n (kop 2)) (L := n + 1 + m) (r := r) (k := 2) (n0 := n) cat_at cat_at cat_at (by omega) (by omega) (by have := hz.1; omega) (body_20 W X n m r _ _) (fun i => post_20 W X n m r _ _ i isT) st hz.2
  · have hp := pre_a2 W X n m cap cap' r isT fun st => n + m ≤ 20 ∧ st = SB (e0 W n) (e0 X m) (wCat W X n (kop 2)) (n + 1 + m) (2 : Nat) r ((n + 1 : Nat) : Int) false
    refine hp.mpr (preM_ok hc hd fun hs => ?_)
    have c5 : IntKind.i64.wrap ((n : Int) + 1) = ((n + 1 : Nat) : Int) := by rw [wrap_i64_in (by omega) (by omega)]; omega
    rw [c5]
    refine g3_ok (Nat.ble_eq_true_of_le (by omega)) ?_
    refine br_cases (fun h => absurd (Nat.eq_of_beq_eq_true h) (by omega)) fun _ => ?_
    exact g3_ok (grow_ok (by omega)) (g3_ok (Nat.ble_eq_true_of_le (by omega)) (g3_ok (grow_ok (by omega)) (g3_ok (Nat.ble_eq_true_of_le (by omega)) (g3_ok (Nat.ble_eq_true_of_le (by omega)) (g3_ok (grow_ok (by omega)) ⟨hs, rfl⟩)))))
theorem in_b2 (p) (hm : 0 < m) (hd : m ≤ reachBytes) : CallOk Try.prog 3 [.raw (.slice p 0 cap), .raw (.int .i64 ((2 : Nat) : Int)), .sle 1 46 0 m cap', r.v] [.no, e0 X m] isR := by
  refine in_of (T := fun st => m ≤ 20 ∧ st = SB .no (e0 X m) (wCat0 X (kop 2)) (1 + m) (2 : Nat) r ((0 + 1 : Nat) : Int) false) (fun st hz => ?_) ?_
  · exact tail_ok (s0 := .no) (s1 := e0 X m) (U := wCat0 X (kop 2)) (L := 1 + m) (r := r) (k := 2) (n0 := 0) rfl rfl rfl (by omega) (by omega) (by have := hz.1; omega) (body_21 X m r _ _) (fun i => post_21 X m r _ _ i isT) st hz.2
  · have hp := pre_b2 X m cap cap' r p isT fun st => m ≤ 20 ∧ st = SB .no (e0 X m) (wCat0 X (kop 2)) (1 + m) (2 : Nat) r ((0 + 1 : Nat) : Int) false
    refine hp.mpr (preM_ok (Nat.zero_le _) hd fun hs => ?_)
    exact g3_ok (Nat.ble_eq_true_of_le (by omega)) (g3_ok (grow_ok (by omega)) ⟨by omega, rfl⟩)
theorem in_c2 (p) (hn : 0 < n) (hc : n ≤ reachBytes) : CallOk Try.prog 3 [.sle 0 46 0 n cap, .raw (.int .i64 ((2 : Nat) : Int)), .raw (.slice p 0 cap'), r.v] [e0 W n, .no] isR := by
  refine in_of (T := fun st => n ≤ 20 ∧ st = SB (e0 W n) .no (wCat1 W n (kop 2)) (n + 1) (2 : Nat) r ((n + 1 : Nat) : Int) false) (fun st hz => ?_) ?_
  · exact tail_ok (s0 := e0 W n) (s1 := .no) (U := wCat1 W n (kop 2)) (L := n + 1) (r := r) (k := 2) (n0 := n) cat1_at cat1_at cat1_at (by omega) (by omega) (by have := hz.1; omega) (body_22 W n r _ _) (fun i => post_22 W n r _ _ i isT) st hz.2
  · have hp := pre_c2 W n cap cap' r p isT fun st => n ≤ 20 ∧ st = SB (e0 W n) .no (wCat1 W n (kop 2)) (n + 1) (2 : Nat) r ((n + 1 : Nat) : Int) false
    refine hp.mpr (preM_ok hc (Nat.zero_le _) fun hs => ?_)
    have c5 : IntKind.i64.wrap ((n : Int) + 1) = ((n + 1 : Nat) : Int) := by rw [wrap_i64_in (by omega) (by omega)]; omega
    rw [c5]
    refine g3_ok (Nat.ble_eq_true_of_le (by omega)) ?_
    refine br_cases (fun h => absurd (Nat.eq_of_beq_eq_true h) (by omega)) fun _ => ?_
    exact g3_ok (grow_ok (by omega)) (g3_ok (Nat.ble_eq_true_of_le (by omega)) (g3_ok (grow_ok (by omega)) (g3_ok (Nat.ble_eq_true_of_le (by omega)) (g3_ok (grow_ok (by omega)) ⟨by omega, rfl⟩))))
theorem in_d2 (p) (p') : CallOk Try.prog 3 [.raw (.slice p 0 cap), .raw (.int .i64 ((2 : Nat) : Int)), .raw (.slice p' 0 cap'), r.v] [.no, .no] isR := by
  refine in_of (T := fun st => st = SB .no .no (wCat2 (kop 2)) 1 (2 : Nat) r ((0 + 1 : Nat) : Int) false) (fun st hz => ?_) ?_
  · exact tail_ok (s0 := .no) (s1 := .no) (U := wCat2 (kop 2)) (L := 1) (r := r) (k := 2) (n0 := 0) rfl rfl rfl (by omega) (by omega) (by omega) (body_23 r _ _) (fun i => post_23 r _ _ i isT) st hz
  · have hp := pre_d2 cap cap' r p p' isT fun st => st = SB .no .no (wCat2 (kop 2)) 1 (2 : Nat) r ((0 + 1 : Nat) : Int) false
    exact hp.mpr rfl
theorem all_a (kd : Int) (hn : 0 < n) (hc : n ≤ reachBytes) (hm : 0 < m) (hd : m ≤ reachBytes) : CallOk Try.prog 3 [.sle 0 46 0 n cap, .raw (.int .i64 kd), .sle 1 46 0 m cap', r.v] [e0 W n, e0 X m] isR := by
  by_cases h : kd < 0 ∨ kd > 2
  · exact out_of ((out_a W X n m cap cap' r kd isT).mpr (preM_ok hc hd fun _ => outM_ok h))
  · rcases (show kd = 0 ∨ kd = 1 ∨ kd = 2 by omega) with rfl | rfl | rfl
    · exact in_a0 W X n m cap cap' r hn hc hm hd
    · exact in_a1 W X n m cap cap' r hn hc hm hd
    · exact in_a2 W X n m cap cap' r hn hc hm hd
theorem all_b (p) (kd : Int) (hm : 0 < m) (hd : m ≤ reachBytes) : CallOk Try.prog 3 [.raw (.slice p 0 cap), .raw (.int .i64 kd), .sle 1 46 0 m cap', r.v] [.no, e0 X m] isR := by
  by_cases h : kd < 0 ∨ kd > 2
  · exact out_of ((out_b X m cap cap' r p kd isT).mpr (preM_ok (Nat.zero_le _) hd fun _ => outM_ok h))
  · rcases (show kd = 0 ∨ kd = 1 ∨ kd = 2 by omega) with rfl | rfl | rfl
    · exact in_b0 X m cap cap' r p hm hd
    · exact in_b1 X m cap cap' r p hm hd
    · exact in_b2 X m cap cap' r p hm hd
theorem all_c (p) (kd : Int) (hn : 0 < n) (hc : n ≤ reachBytes) : CallOk Try.prog 3 [.sle 0 46 0 n cap, .raw (.int .i64 kd), .raw (.slice p 0 cap'), r.v] [e0 W n, .no] isR := by
  by_cases h : kd < 0 ∨ kd > 2
  · exact out_of ((out_c W n cap cap' r p kd isT).mpr (preM_ok hc (Nat.zero_le _) fun _ => outM_ok h))
  · rcases (show kd = 0 ∨ kd = 1 ∨ kd = 2 by omega) with rfl | rfl | rfl
    · exact in_c0 W n cap cap' r p hn hc
    · exact in_c1 W n cap cap' r p hn hc
    · exact in_c2 W n cap cap' r p hn hc
theorem all_d (p) (p') (kd : Int) : CallOk Try.prog 3 [.raw (.slice p 0 cap), .raw (.int .i64 kd), .raw (.slice p' 0 cap'), r.v] [.no, .no] isR := by
  by_cases h : kd < 0 ∨ kd > 2
  · exact out_of ((out_d cap cap' r p p' kd isT).mpr (outM_ok h))
  · rcases (show kd = 0 ∨ kd = 1 ∨ kd = 2 by omega) with rfl | rfl | rfl
    · exact in_d0 cap cap' r p p'
    · exact in_d1 cap cap' r p p'
    · exact in_d2 cap cap' r p p'
end
def aks : List AS := [.sl wcs, .flat (.one (.int .i64)), .sl wcs, .flat (.agg rcs)]
theorem law_call : ∀ args s, argsOkS 0 aks args s → (∃ ρ, smallS aks (absL ρ args)) → CallOk Try.prog 3 args s fun r _ => r = .ret (.raw (.bool true)) := law_viaB fun args s h hs => by
  obtain ⟨ρ, hs⟩ := hs
  rcases argsOkA_sl h with ⟨p, cap, vs, s', rfl, rfl, h2⟩ | ⟨n, cap, cols, vs, s', hn, rfl, rfl, hcap, hmx, hc, h2⟩
  · have hs := small_raw hs
    obtain ⟨v, vs, rfl, h3, h4⟩ := argsOkA_flat h2
    obtain ⟨kd, rest, e, _, h5⟩ := argsOk_int h3
    cases e
    have hs := small_flat hs
    rcases argsOkA_sl h4 with ⟨p', cap', vs, s', rfl, rfl, h6⟩ | ⟨m, cap', cols', vs, s', hm, rfl, rfl, hcap', hmx', hc', h6⟩
    · obtain ⟨v, vs, rfl, h7, h8⟩ := argsOkA_flat h6
      obtain ⟨rfl, rfl⟩ := argsOkA_nil h8
      obtain ⟨r, rfl⟩ := regs_arg h7
      exact all_d cap cap' r p p' kd
    · obtain ⟨hb, _⟩ := small_sle hs
      obtain ⟨v, vs, rfl, h7, h8⟩ := argsOkA_flat h6
      obtain ⟨rfl, rfl⟩ := argsOkA_nil h8
      obtain ⟨r, rfl⟩ := regs_arg h7
      obtain ⟨X, rfl⟩ := cols_win hc'
      exact all_b X m cap cap' r p kd hm hb
  · obtain ⟨W, rfl⟩ := cols_win hc
    obtain ⟨ha, hs⟩ := small_sle hs
    obtain ⟨v, vs, rfl, h3, h4⟩ := argsOkA_flat h2
    obtain ⟨kd, rest, e, _, h5⟩ := argsOk_int h3
    cases e
    have hs := small_flat hs
    rcases argsOkA_sl h4 with ⟨p', cap', vs, s', rfl, rfl, h6⟩ | ⟨m, cap', cols', vs, s', hm, rfl, rfl, hcap', hmx', hc', h6⟩
    · obtain ⟨v, vs, rfl, h7, h8⟩ := argsOkA_flat h6
      obtain ⟨rfl, rfl⟩ := argsOkA_nil h8
      obtain ⟨r, rfl⟩ := regs_arg h7
      exact all_c W n cap cap' r p' kd hn ha
    · obtain ⟨hb, _⟩ := small_sle hs
      obtain ⟨v, vs, rfl, h7, h8⟩ := argsOkA_flat h6
      obtain ⟨rfl, rfl⟩ := argsOkA_nil h8
      obtain ⟨r, rfl⟩ := regs_arg h7
      obtain ⟨X, rfl⟩ := cols_win hc'
      exact all_a W X n m cap cap' r kd hn ha hm hb
end Go.Proofs.Ytllfmafebhifdaa.winBarriers
end
