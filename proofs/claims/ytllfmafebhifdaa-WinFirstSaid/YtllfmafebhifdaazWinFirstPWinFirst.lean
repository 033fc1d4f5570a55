/- Parts of the proof, one behind the other. -/
import Derived.Test.YtllfmafebhifdaazWinFirstWKn
import Derived.Test.YtllfmafebhifdaazWinFirstRLRow4
import Derived.Test.YtllfmafebhifdaazWinFirstWFwd2
import Derived.Test.YtllfmafebhifdaazWinFirstWVal
section
/- WinFirst: what the law's function computes. -/
set_option linter.unusedVariables false
set_option linter.unusedSimpArgs false
set_option maxRecDepth 1000000
namespace Go.Proofs.Ytllfmafebhifdaa.winFirst
open Go Go.Proofs Go.Proofs.YtllfmafebhifdaaRL Go.Proofs.Ytllfmafebhifdaa.isa Go.Proofs.Ytllfmafebhifdaa.win
/-- Are the first n done? -/
def allD (W : WinC) (n : Nat) : Bool := (List.range n).all fun j => W.done j
namespace ret
def live : List Nat := [0,2,3]
noncomputable abbrev cd : Code := codeOf Try.prog 11
noncomputable def p1 : List Nat := pathTo 2 cd
noncomputable def c1 : Code := subAt (p1.dropLast.dropLast ++ [0]) cd
def S (W : WinC) (n N cap : Nat) (t : TypeId) (q : Int) : St := ⟨18, [(0, .sle 0 46 0 n cap), (2, .raw (.int .i64 0)), (3, .raw (.int .i64 q))], [.arr .ro W.cols N t]⟩
theorem pre_eq (W : WinC) (n N cap : Nat) (t : TypeId) (K : V → Prop) (Z : St → Prop) : evTo Try.prog noE 100 1 (fun st => Z (gcSt 1 live st)) p1 cd ⟨(funcOf Try.prog 11).ntmps, zipArgs 0 [.sle 0 46 0 n cap], [.arr .ro W.cols N t]⟩ (bodyK False Try.prog (funcOf Try.prog 11) (rK K)) = Z (S W n N cap t 0) := by kernel_rfl
def rM (W : WinC) (n N : Nat) (q : Int) (j : Nat) (NX EX : Prop) : Prop := Br (decide (q < (n : Int))) (ixM q n N (Br (W.done j) NX EX)) EX
theorem body_eq (W : WinC) (n N cap : Nat) (t : TypeId) (q : Int) (K : Ex → St → Prop) : evG Try.prog noE 100 (lft (subAt p1 cd)) (S W n N cap t q) (fun e st => K e (gcSt 1 live st)) =
    rM W n N q (q.toNat + 0) (K .normal (S W n N cap t (IntKind.i64.wrap (q + 1)))) (K (.exit 0) (S W n N cap t q)) := by kernel_rfl
theorem aft (K : Ex → St → Prop) (st : St) : ctxK Try.prog 1 p1 cd K (.exit 0) st = CodeB Try.prog 1 c1 st K := by kernel_rfl
theorem post_eq (W : WinC) (n N cap : Nat) (t : TypeId) (q : Int) (K : V → Prop) : evG Try.prog noE 100 c1 (S W n N cap t q) (bodyK False Try.prog (funcOf Try.prog 11) (rK K)) = K (.raw (.int .i64 q)) := by kernel_rfl
end ret
def retA : List V → Sto → Option Ans
  | [w], s => match atWin w s with
    | some (W, n, N) => some (fits n N (.br (allD W n) (.one (.ret (.raw (.int .i64 (n : Nat)))) s) .no))
    | none => none
  | _, _ => none
noncomputable def EL : Eh := specE 6 knG (addE 7 mayA (addE 11 retA noE))
noncomputable abbrev cd : Code := codeOf Try.prog 5
def live : List Nat := [0,3,4,5]
noncomputable def p1 : List Nat := pathTo 6 cd
noncomputable def c1 : Code := subAt (p1.dropLast.dropLast.dropLast ++ [0]) cd
def S1 (W : WinC) (n cap : Nat) (r : RegsF) (i : Int) (a4 : Bool) : St := ⟨33, [(0, .sle 0 46 0 n cap), (3, .ptr 1 0), (4, bV a4), (5, .raw (.int .i64 i))], [.arr .ro W.cols n 0, .own (numsV .u64 r.x 32 ++ [.raw (.bool r.nf), .raw (.bool r.zf), .raw (.bool r.cf), .raw (.bool r.vf)]) 26]⟩
section
variable (W : WinC) (n cap : Nat) (r : RegsF)
theorem pre_eq (K : V → Prop) (Z : St → Prop) : evTo Try.prog EL 100 1 (fun st => Z (gcSt 1 live st)) p1 cd ⟨(funcOf Try.prog 5).ntmps, zipArgs 0 [.sle 0 46 0 n cap, r.v], [.arr .ro W.cols n 0]⟩ (bodyK False Try.prog (funcOf Try.prog 5) (rK K)) =
    Br (decide ((n : Int) > 20)) (K (bV true)) (Z (S1 W n cap r 0 false)) := by kernel_rfl
theorem nil_eq (p) (K : V → Prop) : callG Try.prog EL 100 5 [.raw (.slice p 0 cap), r.v] [.no] (rK K) = K (bV true) := by kernel_rfl
def fM (i : Int) (j : Nat) (NX EX : Prop) (RT : Bool → Prop) : Prop := Br (decide (i < (n : Int))) (ixM i n n (Br (!W.done j) (fitM n n (Br (Nat.ble n cap) (RT (W.nm.may n i r.nm == 0)) False)) NX)) EX
theorem body_eq (i : Int) (K : Ex → St → Prop) : evG Try.prog EL 100 (lft (subAt p1 cd)) (S1 W n cap r i false) (fun e st => K e (gcSt 1 live st)) =
    fM W n cap r i (i.toNat + 0) (K .normal (S1 W n cap r (IntKind.i64.wrap (i + 1)) false)) (K (.exit 0) (S1 W n cap r i false)) fun b => K .ret (S1 W n cap r i b) := by kernel_rfl
theorem aft (K : Ex → St → Prop) (st : St) : ctxK Try.prog 1 p1 cd K (.exit 0) st = CodeB Try.prog 1 c1 st K := by kernel_rfl
theorem ret_eq (i : Int) (b : Bool) (K : V → Prop) : ctxK Try.prog 1 p1 cd (bodyK False Try.prog (funcOf Try.prog 5) (rK K)) .ret (S1 W n cap r i b) = K (bV b) := by kernel_rfl
theorem post_eq (i : Int) (K : V → Prop) : evG Try.prog EL 100 c1 (S1 W n cap r i false) (bodyK False Try.prog (funcOf Try.prog 5) (rK K)) =
    fitM n n (Br (allD W.nm n) (K (bV (((n : Nat) : Int) == ((n : Nat) : Int)))) False) := by kernel_rfl
end
end Go.Proofs.Ytllfmafebhifdaa.winFirst
end
section
/- Facts of Forward, Inputs, Value. -/
set_option linter.unusedVariables false
set_option linter.unusedSimpArgs false
namespace Go.Proofs.Ytllfmafebhifdaa.win
open Go Go.Proofs Go.Proofs.YtllfmafebhifdaaRL Go.Proofs.Ytllfmafebhifdaa.isa
structure FwdP (W : WinC) (n : Nat) (R : RegsF) (my : Int) (m : Nat) (p : Int × Bool) : Prop where
  ex : ∃ j : Nat, p = (((j : Nat) : Int), true) ∧ j < m ∧ (W.addr n (j : Nat) R).2 = true ∧ gr8 (W.addr n (j : Nat) R).1 = gr8 my ∧ W.done j = false ∧ (W.op j = 29 ∨ W.op j = 32) ∧ (W.inp n (j : Nat) R).2 = true ∧
    ∀ k : Nat, j < k → k < m → (W.addr n (k : Nat) R).2 = true → gr8 (W.addr n (k : Nat) R).1 = gr8 my → W.op k ≠ 29 ∧ W.op k ≠ 32 ∧ W.op k ≠ 34 ∧ W.op k ≠ 36
end Go.Proofs.Ytllfmafebhifdaa.win
end
section
/- Windows as arguments of laws. -/
set_option linter.unusedVariables false
set_option linter.unusedSimpArgs false
set_option maxRecDepth 100000
namespace Go.Proofs.Ytllfmafebhifdaa.win
open Go Go.Proofs Go.Proofs.YtllfmafebhifdaaRL Go.Proofs.Ytllfmafebhifdaa.isa
theorem colsOkA_ints {k : IntKind} {ks : List CK} {n : Nat} : ∀ {m : Nat} {cols : List Col}, colsOkA (List.replicate m (.int k) ++ ks) cols n → ∃ (x : Nat → Nat → Int) (cs : List Col), cols = ((List.range m).map fun i => Col.int k (x i)) ++ cs ∧ colsOkA ks cs n := by
  intro m
  induction m with
  | zero => intro cols h; exact ⟨fun _ _ => 0, cols, rfl, h⟩
  | succ m ih =>
    intro cols h
    obtain ⟨g, cs, rfl, _, h1⟩ := colsOkA_int h
    obtain ⟨x, cs', rfl, h2⟩ := ih h1
    refine ⟨fun i => match i with | 0 => g | i + 1 => x i, cs', ?_, h2⟩
    rw [List.range_succ_eq_map, List.map_cons, List.map_map]
    rfl
def wcs : List CK := [.int .u64, .int .i64, .int .i64, .int .i64, .int .i64, .int .i64, .int .i64, .int .i64, .int .u64, .bool] ++ (List.replicate 32 (.int .u64) ++ [.bool, .bool, .bool, .bool])
def rcs : List CK := List.replicate 32 (.int .u64) ++ [.bool, .bool, .bool, .bool]
theorem cols_win {cols : List Col} {n : Nat} (hc : colsOkA wcs cols n) : ∃ W : WinC, cols = W.cols := by
  obtain ⟨pc, c101, e1, _, hc1⟩ := colsOkA_int hc
  obtain ⟨op, c102, e2, _, hc2⟩ := colsOkA_int hc1
  obtain ⟨d, c103, e3, _, hc3⟩ := colsOkA_int hc2
  obtain ⟨rn, c104, e4, _, hc4⟩ := colsOkA_int hc3
  obtain ⟨m, c105, e5, _, hc5⟩ := colsOkA_int hc4
  obtain ⟨a, c106, e6, _, hc6⟩ := colsOkA_int hc5
  obtain ⟨c, c107, e7, _, hc7⟩ := colsOkA_int hc6
  obtain ⟨im, c108, e8, _, hc8⟩ := colsOkA_int hc7
  obtain ⟨nx, c109, e9, _, hc9⟩ := colsOkA_int hc8
  obtain ⟨dn, c110, e10, hc10⟩ := colsOkA_bool hc9
  obtain ⟨x, c111, e11, hc11⟩ := colsOkA_ints hc10
  obtain ⟨nf, c112, e12, hc12⟩ := colsOkA_bool hc11
  obtain ⟨zf, c113, e13, hc13⟩ := colsOkA_bool hc12
  obtain ⟨cf, c114, e14, hc14⟩ := colsOkA_bool hc13
  obtain ⟨vf, c115, e15, hc15⟩ := colsOkA_bool hc14
  have e0 := colsOkA_nil hc15
  subst e1 e2 e3 e4 e5 e6 e7 e8 e9 e10 e11 e12 e13 e14 e15 e0
  exact ⟨⟨pc, op, d, rn, m, a, c, im, nx, dn, x, nf, zf, cf, vf⟩, rfl⟩
theorem regs_arg {v : V} (h : argsOk [.agg rcs] [v]) : ∃ r : RegsF, v = r.v := by
  obtain ⟨ws, r, e, h0, h1⟩ := argsOk_agg h
  cases argsOk_nil h1
  cases e
  obtain ⟨x, nf, zf, cf, vf, _, e⟩ := rawsOk_regs h0
  exact ⟨⟨x, nf, zf, cf, vf⟩, e⟩
end Go.Proofs.Ytllfmafebhifdaa.win
end
section
/- WinFirst: the law's function tells true. -/
set_option linter.unusedVariables false
set_option linter.unusedSimpArgs false
set_option maxRecDepth 100000
namespace Go.Proofs.Ytllfmafebhifdaa.winFirst
open Go Go.Proofs Go.Proofs.YtllfmafebhifdaaRL Go.Proofs.Ytllfmafebhifdaa.isa Go.Proofs.Ytllfmafebhifdaa.win
theorem allD_iff {W : WinC} {n : Nat} : allD W n = true ↔ ∀ j, j < n → W.done j = true := by
  unfold allD
  rw [List.all_eq_true]
  exact ⟨fun h j hj => h j (List.mem_range.2 hj), fun h j hj => h j (List.mem_range.1 hj)⟩
theorem back_true {W : WinC} {base : RegsF} {reg : Int} : ∀ {m : Nat}, (∀ j, j < m → W.done j = true) → (W.back base reg m).2 = true
  | 0, _ => rfl
  | m + 1, h => by
    rw [WinC.back, h m (by omega)]
    split
    · rfl
    · exact back_true fun j hj => h j (by omega)
theorem fill_true {W : WinC} {n : Nat} {i : Int} {base : RegsF} (h : ∀ reg, (W.val n i base reg).2 = true) (hi : 0 ≤ i ∧ i < n) : ∀ {l : List Int} {out : RegsF}, (fillF W n i base out l).2 = true
  | [], out => by
    show (decide (0 ≤ i) && decide (i < n)) = true
    rw [decide_eq_true hi.1, decide_eq_true hi.2]; rfl
  | x :: l, out => by
    rw [fillF, h x]
    exact fill_true h hi
/-- The first that is not done may be done. -/
theorem first_may {W : WinC} {n k : Nat} {r : RegsF} (hk : k < n) (hd : W.done k = false) (h : ∀ j, j < k → W.done j = true) : W.may n (k : Nat) r = 0 := by
  have hi : 0 ≤ ((k : Nat) : Int) ∧ ((k : Nat) : Int) < n := by omega
  unfold WinC.may
  rw [if_neg (fun hh => hh hi)]
  have h1 : (W.inp n (k : Nat) r.nm).2 = true := by
    unfold WinC.inp
    rw [if_pos hi]
    refine fill_true (fun reg => ?_) hi
    unfold WinC.val
    rw [if_pos hi]
    split
    · rfl
    · exact back_true h
  have hd' : W.done ((k : Nat) : Int).toNat = false := hd
  rw [if_neg (fun hh => hh.elim (fun a => by rw [h1] at a; cases a) fun a => by rw [hd'] at a; cases a)]
  have : W.held n (k : Nat) r.nm ((k : Nat) : Int).toNat = false := held_false fun j hj => by rw [h j hj]; rfl
  rw [this]
theorem ret_call {W : WinC} {n N cap : Nat} {t : TypeId} (hN : n ≤ N) (hn : n ≤ 1000000) (ha : ∀ j, j < n → W.done j = true) : CallOk Try.prog 11 [.sle 0 46 0 n cap] [.arr .ro W.cols N t] fun q _ => q = .ret (.raw (.int .i64 (n : Nat))) := by
  refine CallOk.mono (K := rK fun v => v = .raw (.int .i64 (n : Nat))) (CallOk.fnB names (by kernel_rfl) ?_) rK_ok
  refine evTo_ok noE_ok names mixed (n := 100) (b := 1) (Z := fun st => gcSt 1 ret.live st = ret.S W n N cap t ((0 : Nat) : Int)) ret.p1 _ _ _ (fun st hz => ?_) ?_
  · refine CodeB.lop (by kernel_rfl) (LoopB.byE noE_ok names mixed (N := 100) (fun k : Nat => ret.S W n N cap t (k : Int)) (fun k => k ≤ n) (fun k => n - k) ret.live (fun k hk => ?_) st 0 (by have h := gc_tells 1 ret.live st; rw [hz] at h; exact h) (Nat.zero_le _))
    have hp := ret.body_eq W n N cap t (k : Int) (RK 1 (fun k : Nat => ret.S W n N cap t (k : Int)) (fun k => k ≤ n) (fun k => n - k) k (ctxK Try.prog 1 ret.p1 ret.cd (bodyK False Try.prog (funcOf Try.prog 11) (rK fun v => v = .raw (.int .i64 (n : Nat))))))
    refine hp.mpr ?_
    unfold ret.rM
    have c6 : ((k : Int)).toNat + 0 = k := rfl
    rw [c6]
    by_cases hlt : k < n
    · have c5 : IntKind.i64.wrap ((k : Int) + 1) = ((k + 1 : Nat) : Int) := by rw [wrap_i64_in (by omega) (by omega)]; omega
      rw [decide_eq_true (show (k : Int) < (n : Int) by omega), ha k hlt, c5]
      refine ixM_ok (i := (k : Int)) (by omega) (by omega) hN ?_
      exact RK.go (K := fun _ _ => True) (y := k + 1) rfl (show k + 1 ≤ n by omega) (show n - (k + 1) < n - k by omega)
    · obtain rfl : k = n := by omega
      rw [decide_eq_false (Int.lt_irrefl _)]
      show ctxK Try.prog 1 ret.p1 ret.cd _ (.exit 0) _
      rw [ret.aft]
      refine CodeB.of (evG_ok noE_ok names mixed (n := 100) ?_)
      exact (ret.post_eq W k N cap t (k : Int) _).mpr rfl
  · have hp := ret.pre_eq W n N cap t (fun v => v = .raw (.int .i64 (n : Nat))) fun st => st = ret.S W n N cap t ((0 : Nat) : Int)
    exact hp.mpr rfl
theorem retA_ok {E : Eh} (hE : EOk Try.prog E) : EOk Try.prog (addE 11 retA E) := by
  refine addE_ok hE fun args s a h hf => ?_
  unfold retA at h
  split at h
  · split at h
    · rename_i W n N hw
      cases h
      refine fits_call hf fun h1 h2 hf => ?_
      rcases hf with ⟨h3, _⟩ | ⟨_, hf⟩
      · refine CallOk.mono (K := fun q s' => q = .ret (.raw (.int .i64 (n : Nat))) ∧ s' = s) ?_ fun q s' h => .inl ⟨h3, h⟩
        exact atWin_call hw trivial trivial fun cap t => ret_call h1 h2 (allD_iff.1 h3)
      · exact hf.elim
    · cases h
  · cases h
theorem EL_ok : EOk Try.prog EL := knG_ok (mayA_ok (retA_ok noE_ok))
abbrev isT : V → Prop := fun v => v = bV true
section
variable (W : WinC) (n cap : Nat) (r : RegsF)
abbrev KO : Ex → St → Prop := ctxK Try.prog 1 p1 cd (bodyK False Try.prog (funcOf Try.prog 5) (rK isT))
theorem law_sl (hc : n ≤ cap) : CallOk Try.prog 5 [.sle 0 46 0 n cap, r.v] [.arr .ro W.cols n 0] fun q _ => q = .ret (bV true) := by
  refine CallOk.mono (K := rK isT) (CallOk.fnB names (by kernel_rfl) ?_) rK_ok
  refine evTo_ok EL_ok names mixed (n := 100) (b := 1) (Z := fun st => n ≤ 20 ∧ gcSt 1 live st = S1 W n cap r ((0 : Nat) : Int) false) p1 _ _ _ (fun st hz => ?_) ?_
  · obtain ⟨hn, hz⟩ := hz
    refine CodeB.lop (by kernel_rfl) (LoopB.byE EL_ok names mixed (N := 100) (fun i : Nat => S1 W n cap r (i : Int) false) (fun i => i ≤ n ∧ ∀ j, j < i → W.nm.done j = true) (fun i => n - i) live (fun k hk => ?_) st 0 (by have h := gc_tells 1 live st; rw [hz] at h; exact h) ⟨Nat.zero_le _, fun j hj => absurd hj (Nat.not_lt_zero j)⟩)
    have hp := body_eq W n cap r (k : Int) (RK 1 (fun i : Nat => S1 W n cap r (i : Int) false) (fun i => i ≤ n ∧ ∀ j, j < i → W.nm.done j = true) (fun i => n - i) k KO)
    refine hp.mpr ?_
    unfold fM
    have c6 : ((k : Int)).toNat + 0 = k := rfl
    rw [c6]
    by_cases hlt : k < n
    · have c5 : IntKind.i64.wrap ((k : Int) + 1) = ((k + 1 : Nat) : Int) := by rw [wrap_i64_in (by omega) (by omega)]; omega
      rw [decide_eq_true (show (k : Int) < (n : Int) by omega), c5]
      refine ixM_ok (i := (k : Int)) (by omega) (by omega) (Nat.le_refl _) ?_
      cases hd : W.done k with
      | true => exact RK.go (K := fun _ _ => True) (y := k + 1) rfl ⟨by omega, fun j hj => by
          by_cases hjk : j < k
          · exact hk.2 j hjk
          · obtain rfl : j = k := by omega
            exact hd⟩ (by omega)
      | false =>
        refine fitM_ok (Nat.le_refl _) (by omega) ?_
        rw [Nat.ble_eq_true_of_le hc, first_may (r := r.nm) hlt (show W.nm.done k = false from hd) hk.2]
        show KO .ret (S1 W n cap r (k : Int) true)
        exact (ret_eq W n cap r (k : Int) true isT).mpr rfl
    · obtain rfl : k = n := by omega
      rw [decide_eq_false (Int.lt_irrefl _)]
      show KO (.exit 0) (S1 W k cap r (k : Int) false)
      unfold KO
      rw [aft]
      refine CodeB.of (evG_ok EL_ok names mixed (n := 100) ?_)
      refine (post_eq W k cap r (k : Int) isT).mpr (fitM_ok (Nat.le_refl _) (by omega) ?_)
      rw [allD_iff.2 hk.2, beq_self_eq_true]
      rfl
  · have hp := pre_eq W n cap r isT fun st => n ≤ 20 ∧ st = S1 W n cap r ((0 : Nat) : Int) false
    refine hp.mpr ?_
    refine br_cases (fun _ => rfl) fun h => ⟨by have := of_decide_eq_false h; omega, rfl⟩
theorem law_nil (p) : CallOk Try.prog 5 [.raw (.slice p 0 cap), r.v] [.no] fun q _ => q = .ret (bV true) := by
  refine (callG_ok EL_ok names mixed (n := 100) (K := rK isT) ?_).mono rK_ok
  have hp := nil_eq cap r p isT
  exact hp.mpr rfl
end
def aks : List AS := [.sl wcs, .flat (.agg rcs)]
theorem law_call : ∀ args s, argsOkS 0 aks args s → CallOk Try.prog 5 args s fun r _ => r = .ret (.raw (.bool true)) := law_viaA fun args s h => by
  rcases argsOkA_sl h with ⟨p, cap, vs, s', rfl, rfl, h2⟩ | ⟨n, cap, cols, vs, s', hn, rfl, rfl, hcap, hmx, hc, h2⟩
  · obtain ⟨v, vs, rfl, h3, h4⟩ := argsOkA_flat h2
    obtain ⟨rfl, rfl⟩ := argsOkA_nil h4
    obtain ⟨r, rfl⟩ := regs_arg h3
    exact law_nil cap r p
  · obtain ⟨v, vs, rfl, h3, h4⟩ := argsOkA_flat h2
    obtain ⟨rfl, rfl⟩ := argsOkA_nil h4
    obtain ⟨r, rfl⟩ := regs_arg h3
    obtain ⟨W, rfl⟩ := cols_win hc
    exact law_sl W n cap r hcap
end Go.Proofs.Ytllfmafebhifdaa.winFirst
end
