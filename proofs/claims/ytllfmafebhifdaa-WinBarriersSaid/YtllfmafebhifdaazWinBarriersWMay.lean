/- Parts of the proof, one behind the other. -/
import Derived.Test.YtllfmafebhifdaazWinBarriersWFwd2
section
/- win.meets. -/
set_option linter.unusedVariables false
set_option linter.unusedSimpArgs false
set_option maxRecDepth 1000000
namespace Go.Proofs.Ytllfmafebhifdaa.win
open Go Go.Proofs Go.Proofs.YtllfmafebhifdaaRL Go.Proofs.Ytllfmafebhifdaa.isa
noncomputable def EM : Eh := addE 8 fwdA (addE 9 adrA (opsE noE))
theorem EM_ok : EOk Try.prog EM := fwdA_ok (adrA_ok (opsE_ok noE_ok))
def meetM (W : WinC) (n N : Nat) (i j : Int) (r : RegsF) (ki kj : Nat) (K : Bool → Prop) : Prop :=
  fitM n N (Br (!(W.nm.addr n j r.nm).2) (K true) (fitM n N (ixM i n N (Br (W.op ki == 40)
    (ixM j n N (Br (storeP (W.op kj)) (K (w64 ((W.nm.addr n j r.nm).1.tdiv 64) == w64 ((W.nm.addr n i r.nm).1.tdiv 64))) (K false)))
    (Br (!(gr8 (W.nm.addr n j r.nm).1 == gr8 (W.nm.addr n i r.nm).1)) (K false) (fitM n N (K (!(W.nm.fwd n i r.nm).2))))))))
theorem meet_eq (W : WinC) (n N cap : Nat) (t : TypeId) (i j : Int) (r : RegsF) (K : V → Prop) : callG Try.prog EM 100 33 [.sle 0 46 0 n cap, .raw (.int .i64 i), .raw (.int .i64 j), r.v] [.arr .ro W.cols N t] (rK K) = meetM W n N i j r (i.toNat + 0) (j.toNat + 0) fun b => K (bV b) := by kernel_rfl
/-- May two touch the same? -/
def WinC.meet (W : WinC) (n : Nat) (i j : Int) (r : RegsF) : Bool :=
  if (W.addr n j r.nm).2 = false then true
  else if W.op i.toNat = 40 then storeP (W.op j.toNat) && (w64 ((W.addr n j r.nm).1.tdiv 64) == w64 ((W.addr n i r.nm).1.tdiv 64))
  else (gr8 (W.addr n j r.nm).1 == gr8 (W.addr n i r.nm).1) && !(W.fwd n i r.nm).2
theorem meetM_ok {W : WinC} {n N : Nat} {i j : Int} {r : RegsF} {u : Bool} (hN : n ≤ N) (hn : n ≤ 1000000) (hi : 0 ≤ i ∧ i < n) (hj : 0 ≤ j ∧ j < n) (hu : W.nm.meet n i j r = u) : meetM W n N i j r (i.toNat + 0) (j.toNat + 0) fun b => bV b = bV u := by
  have e0 : i.toNat + 0 = i.toNat := rfl
  have e1 : j.toNat + 0 = j.toNat := rfl
  unfold WinC.meet at hu
  rw [show W.nm.op = W.op from rfl] at hu
  unfold meetM
  rw [e0, e1]
  refine fitM_ok hN hn ?_
  cases a1 : (W.nm.addr n j r.nm).2 with
  | false => rw [if_pos a1] at hu; rw [← hu]; rfl
  | true =>
    rw [if_neg (by rw [a1]; simp)] at hu
    refine fitM_ok hN hn (ixM_ok hi.1 hi.2 hN ?_)
    by_cases a2 : W.op i.toNat = 40
    · rw [if_pos a2] at hu
      rw [beq_iff_eq.2 a2]
      refine ixM_ok hj.1 hj.2 hN ?_
      rw [← hu]
      cases storeP (W.op j.toNat) <;> rfl
    · rw [if_neg a2] at hu
      rw [beq_eq_false_iff_ne.2 a2, ← hu]
      cases gr8 (W.nm.addr n j r.nm).1 == gr8 (W.nm.addr n i r.nm).1
      · exact rfl
      · exact fitM_ok hN hn rfl
theorem meet_call {W : WinC} {n N cap : Nat} {t : TypeId} {i j : Int} {r : RegsF} (hN : n ≤ N) (hn : n ≤ 1000000) (hi : 0 ≤ i ∧ i < n) (hj : 0 ≤ j ∧ j < n) : CallOk Try.prog 33 [.sle 0 46 0 n cap, .raw (.int .i64 i), .raw (.int .i64 j), r.v] [.arr .ro W.cols N t] fun q _ => q = .ret (bV (W.nm.meet n i j r)) := by
  refine (callG_ok EM_ok names mixed (n := 100) (K := rK fun v => v = bV (W.nm.meet n i j r)) ?_).mono rK_ok
  exact (meet_eq W n N cap t i j r _).mpr (meetM_ok hN hn hi hj rfl)
def within (i : Int) (n : Nat) (a : Ans) : Ans := .br (decide (0 ≤ i)) (.br (decide (i < n)) a .no) .no
theorem within_call {P : Program} {f : FuncId} {args : List V} {s : Sto} {i : Int} {n : Nat} {a : Ans} (hf : (within i n a).fine) (h : 0 ≤ i ∧ i < n → a.fine → CallOk P f args s fun r s' => a.is r s') : CallOk P f args s fun r s' => (within i n a).is r s' := by
  rcases hf with ⟨h1, hf⟩ | ⟨_, hf⟩
  · rcases hf with ⟨h2, hf⟩ | ⟨_, hf⟩
    · exact (h ⟨of_decide_eq_true h1, of_decide_eq_true h2⟩ hf).mono fun r s' hk => .inl ⟨h1, .inl ⟨h2, hk⟩⟩
    · exact hf.elim
  · exact hf.elim
def meetA : List V → Sto → Option Ans
  | [w, .raw (.int .i64 i), .raw (.int .i64 j), r], s => match atWin w s, readR r with
    | some (W, n, N), some r => some (fits n N (within i n (within j n (.one (.ret (bV (W.meet n i j r))) s))))
    | _, _ => none
  | _, _ => none
theorem meetA_ok {E : Eh} (hE : EOk Try.prog E) : EOk Try.prog (addE 33 meetA E) := by
  refine addE_ok hE fun args s a h hf => ?_
  unfold meetA at h
  split at h
  · split at h
    · rename_i W n N r hw hr
      cases h
      rw [readR_eq hr]
      refine fits_call hf fun h1 h2 hf => within_call hf fun hi hf => within_call hf fun hj _ => atWin_call hw ⟨trivial, trivial, r.v_bd 0, trivial⟩ trivial fun cap t => ?_
      have := meet_call (W := W) (cap := cap) (t := t) (r := r) h1 h2 hi hj
      rw [atWin_nm hw] at this
      exact this
    · cases h
  · cases h
end Go.Proofs.Ytllfmafebhifdaa.win
end
section
/- win.rule. -/
set_option linter.unusedVariables false
set_option linter.unusedSimpArgs false
set_option maxRecDepth 1000000
namespace Go.Proofs.Ytllfmafebhifdaa.win
open Go Go.Proofs Go.Proofs.YtllfmafebhifdaaRL Go.Proofs.Ytllfmafebhifdaa.isa
section
variable {P : Program} {b : Nat} {c : Code} {K : Ex → St → Prop} {st : St}
/-- The first of two pieces of code computed, what is left told by what lives. -/
theorem step_ok {D : Eh} (hD : EOk P D) (hn : namesOk P = true) (hm : P.follows .mixedOrders = true) {N : Nat} {live : List Nat} {Z : St → Prop} (hc : Nat.beq (kd c) 1 = true)
    (h : evG P D N (lft c) st fun e st' => match e with | .normal => Z (gcSt b live st') | .panic _ => False | e => K e (gcSt b live st')) (hz : ∀ st', Z st' → CodeB P b (rgt c) st' K) : CodeB P b c st K := by
  refine CodeB.seq hc (CodeB.tellX ((CodeB.of (evG_ok hD hn hm h)).mono fun e s he => ?_))
  cases e with
  | normal => exact ⟨_, gc_tells b live s, hz _ he⟩
  | panic v => exact he.elim
  | _ => exact ⟨_, gc_tells b live s, he⟩
end
namespace rul
noncomputable def ER : Eh := addE 33 meetA (opsE noE)
theorem ER_ok : EOk Try.prog ER := meetA_ok (opsE_ok noE_ok)
def live : List Nat := [0,1,2,7,8,9,10,11,12]
def SR (W : WinC) (n N cap : Nat) (t : TypeId) (r : RegsF) (i j x y : Int) (me be a8 : Bool) : St := ⟨167, [(0, .sle 0 46 0 n cap), (1, .raw (.int .i64 i)), (2, .raw (.int .i64 j)), (7, .ptr 1 0), (8, .raw (.bool a8)), (9, .raw (.int .i64 x)), (10, .raw (.int .i64 y)), (11, .raw (.bool me)), (12, .raw (.bool be))], [.arr .ro W.cols N t, .own (numsV .u64 r.x 32 ++ [.raw (.bool r.nf), .raw (.bool r.zf), .raw (.bool r.cf), .raw (.bool r.vf)]) 26]⟩
noncomputable abbrev cd : Code := codeOf Try.prog 16
end rul
open rul
def ruleA {α : Type} (y x : Int) (me : Bool) (im : Int) (R Q : α) : α :=
  Br (y == 39) R (Br (y == 38) (Br (touP x) R (Br (decide (x ≥ 37)) (Br (decide (x ≤ 39)) R (Br (x == 42) R Q)) (Br (x == 42) R Q)))
  (Br (y == 37) (Br me (Br (im != 2) R (Br (storeP x) R Q)) Q) (Br (y == 33) (Br me R Q) (Br (y == 34) (Br (x == 33) R Q)
  (Br (y == 35) (Br (x == 35) R (Br (x == 36) R Q)) (Br (y == 36) (Br (x == 35) R (Br (x == 36) R Q)) (Br (y == 40) (Br (x == 38) R Q) (Br (y == 41) (Br (x == 38) R Q) Q))))))))
def ruleA' (y x : Int) (me : Bool) (im : Int) (ix : Prop → Prop) (R Q : Prop) : Prop :=
  Br (y == 39) R (Br (y == 38) (Br (touP x) R (Br (decide (x ≥ 37)) (Br (decide (x ≤ 39)) R (Br (x == 42) R Q)) (Br (x == 42) R Q)))
  (Br (y == 37) (ix (Br me (Br (im != 2) R (Br (storeP x) R Q)) Q)) (Br (y == 33) (Br me R Q) (Br (y == 34) (Br (x == 33) R Q)
  (Br (y == 35) (Br (x == 35) R (Br (x == 36) R Q)) (Br (y == 36) (Br (x == 35) R (Br (x == 36) R Q)) (Br (y == 40) (Br (x == 38) R Q) (Br (y == 41) (Br (x == 38) R Q) Q))))))))
def ruleB {α : Type} (y x : Int) (R Q : α) : α := Br (brnP y) (Br (storeP x) R (Br (x == 35) R (Br (x == 40) R (Br (x == 41) R (Br (x == 42) R Q))))) Q
def ruleC {α : Type} (y x : Int) (be : Bool) (im : Int) (R Q : α) : α :=
  Br (x == 34) (Br be R Q) (Br (x == 38) (Br be R Q) (Br (x == 37) (Br be (Br (im == 0) R (Br (im == 1) (Br (loadP y) R (Br (im == 2) (Br (storeP y) R Q) Q)) (Br (im == 2) (Br (storeP y) R Q) Q))) Q)
  (Br (x == 41) (Br (y == 38) R Q) (Br (x == 39) R (Br (x == 42) R (Br (x == 0) R Q))))))
def ruleC' (y x : Int) (be : Bool) (im : Int) (ix : Prop → Prop) (R Q : Prop) : Prop :=
  Br (x == 34) (Br be R Q) (Br (x == 38) (Br be R Q) (Br (x == 37) (ix (Br be (Br (im == 0) R (Br (im == 1) (Br (loadP y) R (Br (im == 2) (Br (storeP y) R Q) Q)) (Br (im == 2) (Br (storeP y) R Q) Q))) Q))
  (Br (x == 41) (Br (y == 38) R Q) (Br (x == 39) R (Br (x == 42) R (Br (x == 0) R Q))))))
theorem Br_nat {α β : Type} (f : α → β) (b : Bool) (x y : α) : f (Br b x y) = Br b (f x) (f y) := by cases b <;> rfl
theorem ruleA_nat {α : Type} {y x : Int} {me : Bool} {im : Int} (f : Bool → α) : ruleA y x me im (f true) (f false) = f (ruleA y x me im true false) := by
  unfold ruleA
  simp only [Br_nat f]
theorem ruleB_nat {α : Type} {y x : Int} (f : Bool → α) : ruleB y x (f true) (f false) = f (ruleB y x true false) := by
  unfold ruleB
  simp only [Br_nat f]
theorem ruleC_nat {α : Type} {y x : Int} {be : Bool} {im : Int} (f : Bool → α) : ruleC y x be im (f true) (f false) = f (ruleC y x be im true false) := by
  unfold ruleC
  simp only [Br_nat f]
section
variable (W : WinC) (n N cap : Nat) (t : TypeId) (r : RegsF) (i j x y : Int) (me be : Bool)
theorem rule_pre (Z : St → Prop) (K : Ex → St → Prop) : evTo Try.prog ER 100 1 (fun st => Z (gcSt 1 live st)) [0,0,0] cd ⟨(funcOf Try.prog 16).ntmps, zipArgs 0 [.sle 0 46 0 n cap, .raw (.int .i64 i), .raw (.int .i64 j), r.v], [.arr .ro W.cols N t]⟩ K =
    ixM i n N (ixM j n N (Z (SR W n N cap t r i j (W.op (i.toNat + 0)) (W.op (j.toNat + 0)) (memP (W.op (i.toNat + 0))) (memP (W.op (j.toNat + 0))) false))) := by kernel_rfl
theorem rule_A (K : Ex → St → Prop) : evG Try.prog ER 100 (lft (subAt [0,0,0] cd)) (SR W n N cap t r i j x y me be false) (fun e st => K e (gcSt 1 live st)) =
    ruleA' y x me (W.im (j.toNat + 0)) (ixM j n N) (K .ret (SR W n N cap t r i j x y me be true)) (K .normal (SR W n N cap t r i j x y me be false)) := by kernel_rfl
theorem rule_B (K : Ex → St → Prop) : evG Try.prog ER 100 (lft (subAt [0,0,0,0] cd)) (SR W n N cap t r i j x y me be false) (fun e st => K e (gcSt 1 live st)) =
    ruleB y x (K .ret (SR W n N cap t r i j x y me be true)) (K .normal (SR W n N cap t r i j x y me be false)) := by kernel_rfl
theorem rule_C (K : Ex → St → Prop) : evG Try.prog ER 100 (lft (subAt [0,0,0,0,0] cd)) (SR W n N cap t r i j x y me be false) (fun e st => K e (gcSt 1 live st)) =
    ruleC' y x be (W.im (i.toNat + 0)) (ixM i n N) (K .ret (SR W n N cap t r i j x y me be true)) (K .normal (SR W n N cap t r i j x y me be false)) := by kernel_rfl
def inM (i : Int) (n : Nat) (P : Prop) : Prop := Br (decide (0 ≤ i)) (Br (decide (i < n)) P False) False
def ruleD (K : Bool → Prop) : Prop := Br be (Br me (fitM n N (inM i n (inM j n (K (W.nm.meet n i j r.nm))))) (Br (x == 40) (fitM n N (inM i n (inM j n (K (W.nm.meet n i j r.nm))))) (K false))) (K false)
theorem rule_D (K : V → Prop) : evG Try.prog ER 100 (subAt [0,0,0,0,0,0] cd) (SR W n N cap t r i j x y me be false) (bodyK False Try.prog (funcOf Try.prog 16) (rK K)) =
    ruleD W n N r i j x me be fun b => K (bV b) := by kernel_rfl
theorem rule_ret (K : V → Prop) (a8 : Bool) : bodyK False Try.prog (funcOf Try.prog 16) (rK K) .ret (SR W n N cap t r i j x y me be a8) = K (bV a8) := by kernel_rfl
end
end Go.Proofs.Ytllfmafebhifdaa.win
end
section
/- win.rule as a table's line. -/
set_option linter.unusedVariables false
set_option linter.unusedSimpArgs false
set_option maxRecDepth 100000
namespace Go.Proofs.Ytllfmafebhifdaa.win
open Go Go.Proofs Go.Proofs.YtllfmafebhifdaaRL Go.Proofs.Ytllfmafebhifdaa.isa
open rul
/-- Does an instruction that is not done hold up another one behind it? -/
def WinC.rule (W : WinC) (n : Nat) (i j : Int) (r : RegsF) : Bool :=
  Br (ruleA (W.op j.toNat) (W.op i.toNat) (memP (W.op i.toNat)) (W.im j.toNat) true false) true
  (Br (ruleB (W.op j.toNat) (W.op i.toNat) true false) true
  (Br (ruleC (W.op j.toNat) (W.op i.toNat) (memP (W.op j.toNat)) (W.im i.toNat) true false) true
  (memP (W.op j.toNat) && ((memP (W.op i.toNat) || W.op i.toNat == 40) && W.meet n i j r.nm))))
theorem ixM_eq {i : Int} {n N : Nat} {P : Prop} (h : 0 ≤ i ∧ i < n) (hN : n ≤ N) : ixM i n N P = P := by
  unfold ixM
  rw [decide_eq_true h.1, decide_eq_true h.2, blt_lt (show i.toNat + 0 < N by omega)]; rfl
theorem ruleA'_eq {y x : Int} {me : Bool} {im : Int} {ix : Prop → Prop} {R Q : Prop} (h : ∀ P, ix P = P) : ruleA' y x me im ix R Q = Br (ruleA y x me im true false) R Q := by
  rw [← ruleA_nat fun b => Br b R Q]
  unfold ruleA'
  rw [h]; rfl
theorem ruleB_eq {y x : Int} {R Q : Prop} : ruleB y x R Q = Br (ruleB y x true false) R Q := by
  rw [← ruleB_nat fun b => Br b R Q]; rfl
theorem ruleC'_eq {y x : Int} {be : Bool} {im : Int} {ix : Prop → Prop} {R Q : Prop} (h : ∀ P, ix P = P) : ruleC' y x be im ix R Q = Br (ruleC y x be im true false) R Q := by
  rw [← ruleC_nat fun b => Br b R Q]
  unfold ruleC'
  rw [h]; rfl
theorem br_cases {b : Bool} {R Q : Prop} (h1 : b = true → R) (h2 : b = false → Q) : Br b R Q := by
  cases b
  · exact h2 rfl
  · exact h1 rfl
theorem rule_call {W : WinC} {n N cap : Nat} {t : TypeId} {i j : Int} {r : RegsF} (hN : n ≤ N) (hn : n ≤ 1000000) (hi : 0 ≤ i ∧ i < n) (hj : 0 ≤ j ∧ j < n) : CallOk Try.prog 16 [.sle 0 46 0 n cap, .raw (.int .i64 i), .raw (.int .i64 j), r.v] [.arr .ro W.cols N t] fun q _ => q = .ret (bV (W.nm.rule n i j r)) := by
  refine CallOk.mono (K := rK fun v => v = bV (W.nm.rule n i j r)) (CallOk.fnB names (by kernel_rfl) ?_) rK_ok
  have e0 : i.toNat + 0 = i.toNat := rfl
  have e1 : j.toNat + 0 = j.toNat := rfl
  let S := SR W n N cap t r i j (W.op i.toNat) (W.op j.toNat) (memP (W.op i.toNat)) (memP (W.op j.toNat))
  have hr : W.nm.rule n i j r = Br (ruleA (W.op j.toNat) (W.op i.toNat) (memP (W.op i.toNat)) (W.im j.toNat) true false) true
    (Br (ruleB (W.op j.toNat) (W.op i.toNat) true false) true
    (Br (ruleC (W.op j.toNat) (W.op i.toNat) (memP (W.op j.toNat)) (W.im i.toNat) true false) true
    (memP (W.op j.toNat) && ((memP (W.op i.toNat) || W.op i.toNat == 40) && W.nm.meet n i j r.nm)))) := rfl
  generalize hu : W.nm.rule n i j r = u at hr
  have hret : ∀ b : Bool, b = u → bodyK False Try.prog (funcOf Try.prog 16) (rK fun v => v = bV u) .ret (S b) := fun b hb => by
    have := rule_ret W n N cap t r i j (W.op i.toNat) (W.op j.toNat) (memP (W.op i.toNat)) (memP (W.op j.toNat)) (fun v => v = bV u) b
    exact this.mpr (by rw [hb])
  refine evTo_ok ER_ok names mixed (n := 100) (b := 1) (Z := fun st => gcSt 1 live st = S false) [0,0,0] _ _ _ (fun st hz => ?_) ?_
  · refine CodeB.tell (st' := S false) (by have h := gc_tells 1 live st; rw [hz] at h; exact h) ?_
    refine step_ok ER_ok names mixed (N := 100) (live := live) (Z := fun st => st = S false ∧ ruleA (W.op j.toNat) (W.op i.toNat) (memP (W.op i.toNat)) (W.im j.toNat) true false = false) (by kernel_rfl) ?_ ?_
    · have := rule_A W n N cap t r i j (W.op i.toNat) (W.op j.toNat) (memP (W.op i.toNat)) (memP (W.op j.toNat)) fun e st' => match e with | .normal => st' = S false ∧ ruleA (W.op j.toNat) (W.op i.toNat) (memP (W.op i.toNat)) (W.im j.toNat) true false = false | .panic _ => False | e => bodyK False Try.prog (funcOf Try.prog 16) (rK fun v => v = bV u) e st'
      refine this.mpr ?_
      rw [ruleA'_eq fun P => ixM_eq hj hN, e1]
      exact br_cases (fun h => hret true (by rw [h] at hr; exact hr.symm)) fun h => ⟨rfl, h⟩
    · rintro st' ⟨rfl, hA⟩
      rw [hA] at hr
      refine step_ok ER_ok names mixed (N := 100) (live := live) (Z := fun st => st = S false ∧ ruleB (W.op j.toNat) (W.op i.toNat) true false = false) (by kernel_rfl) ?_ ?_
      · have := rule_B W n N cap t r i j (W.op i.toNat) (W.op j.toNat) (memP (W.op i.toNat)) (memP (W.op j.toNat)) fun e st' => match e with | .normal => st' = S false ∧ ruleB (W.op j.toNat) (W.op i.toNat) true false = false | .panic _ => False | e => bodyK False Try.prog (funcOf Try.prog 16) (rK fun v => v = bV u) e st'
        refine this.mpr ?_
        rw [ruleB_eq]
        exact br_cases (fun h => hret true (by rw [h] at hr; exact hr.symm)) fun h => ⟨rfl, h⟩
      · rintro st' ⟨rfl, hB⟩
        rw [hB] at hr
        refine step_ok ER_ok names mixed (N := 100) (live := live) (Z := fun st => st = S false ∧ ruleC (W.op j.toNat) (W.op i.toNat) (memP (W.op j.toNat)) (W.im i.toNat) true false = false) (by kernel_rfl) ?_ ?_
        · have := rule_C W n N cap t r i j (W.op i.toNat) (W.op j.toNat) (memP (W.op i.toNat)) (memP (W.op j.toNat)) fun e st' => match e with | .normal => st' = S false ∧ ruleC (W.op j.toNat) (W.op i.toNat) (memP (W.op j.toNat)) (W.im i.toNat) true false = false | .panic _ => False | e => bodyK False Try.prog (funcOf Try.prog 16) (rK fun v => v = bV u) e st'
          refine this.mpr ?_
          rw [ruleC'_eq fun P => ixM_eq hi hN, e0]
          exact br_cases (fun h => hret true (by rw [h] at hr; exact hr.symm)) fun h => ⟨rfl, h⟩
        · rintro st' ⟨rfl, hC⟩
          rw [hC] at hr
          refine CodeB.of (evG_ok ER_ok names mixed (n := 100) ?_)
          have := rule_D W n N cap t r i j (W.op i.toNat) (W.op j.toNat) (memP (W.op i.toNat)) (memP (W.op j.toNat)) fun v => v = bV u
          refine this.mpr ?_
          have hm : ∀ P : Prop, P → fitM n N (inM i n (inM j n P)) := fun P hP => by
            refine fitM_ok hN hn ?_
            unfold inM
            rw [decide_eq_true hi.1, decide_eq_true hi.2, decide_eq_true hj.1, decide_eq_true hj.2]
            exact hP
          have hr' : u = (memP (W.op j.toNat) && ((memP (W.op i.toNat) || W.op i.toNat == 40) && W.nm.meet n i j r.nm)) := hr
          subst hr'
          unfold ruleD
          cases memP (W.op j.toNat)
          · exact rfl
          · cases memP (W.op i.toNat)
            · cases W.op i.toNat == 40
              · exact rfl
              · exact hm _ rfl
            · exact hm _ rfl
  · have := rule_pre W n N cap t r i j (fun st => st = S false) (bodyK False Try.prog (funcOf Try.prog 16) (rK fun v => v = bV u))
    refine this.mpr ?_
    rw [ixM_eq hi hN, ixM_eq hj hN]
    rfl
def ruleTA : List V → Sto → Option Ans
  | [w, .raw (.int .i64 i), .raw (.int .i64 j), r], s => match atWin w s, readR r with
    | some (W, n, N), some r => some (fits n N (within i n (within j n (.one (.ret (bV (W.rule n i j r))) s))))
    | _, _ => none
  | _, _ => none
theorem ruleTA_ok {E : Eh} (hE : EOk Try.prog E) : EOk Try.prog (addE 16 ruleTA E) := by
  refine addE_ok hE fun args s a h hf => ?_
  unfold ruleTA at h
  split at h
  · split at h
    · rename_i W n N r hw hr
      cases h
      rw [readR_eq hr]
      refine fits_call hf fun h1 h2 hf => within_call hf fun hi hf => within_call hf fun hj _ => atWin_call hw ⟨trivial, trivial, r.v_bd 0, trivial⟩ trivial fun cap t => ?_
      have := rule_call (W := W) (cap := cap) (t := t) (r := r) h1 h2 hi hj
      rw [atWin_nm hw] at this
      exact this
    · cases h
  · cases h
end Go.Proofs.Ytllfmafebhifdaa.win
end
section
/- Ranges over functions, by what is known of the function. -/
set_option linter.unusedVariables false
set_option linter.unusedSimpArgs false
namespace Go.Proofs.Ytllfmafebhifdaa.win
open Go Go.Proofs Go.Proofs.YtllfmafebhifdaaRL
theorem rng_ok {P : Program} {b : Nat} {g : Operand} {ps : Array Tmp} {asg body : Code} {n : Nat} {e : List (Nat × V)} {s : Sto} {K : Ex → St → Prop} {v : V} {f : FuncId} {first cap : List V} (hg : getT e g = some v) (hv : v.nf = .fn (.func f) first cap) (hf : Nat.blt f P.funcs.size = true)
    (h : CallOk P f (first ++ [.yld s.length] ++ cap) (s ++ [.lp e n ps asg body none]) fun r s2 => (∃ vr, r = .ret vr) ∧ ∃ e' n' ps' a' b' pend, s2[s.length]? = some (.lp e' n' ps' a' b' pend) ∧ ((pend = none ∧ K .normal ⟨n, e, s2.set s.length .no⟩) ∨ (pend = some .ret ∧ K .ret ⟨n, e, s2.set s.length .no⟩))) :
    CodeB P b (.rangeFunc g ps asg body) ⟨n, e, s⟩ K := by
  refine CodeB.of (range_sound (R := Prop) (no := False) (T := fun p => p) (fun h => h) (C := fun f args s K => CallOk P f args s K) (fun f args s K h => CallOk.tg h) ?_)
  unfold rfL
  refine Wi.mk (a := v) hg ?_
  simp only [hv, hf, flA_eq]
  refine h.mono fun r s2 => ?_
  rintro ⟨⟨vr, rfl⟩, e', n', ps', a', b', pend, h1, h2⟩
  simp only [h1]
  rcases h2 with ⟨rfl, h2⟩ | ⟨rfl, h2⟩
  · exact h2
  · exact h2
/-- A state with these temporaries alone; the store as it is. -/
def keepE (e : List (Nat × V)) : List Nat → List (Nat × V)
  | [] => []
  | t :: ts => match find e t with
    | some v => (t, v) :: keepE e ts
    | none => keepE e ts
def keepS (live : List Nat) (st : St) : St := ⟨st.n, keepE st.t live, st.s⟩
theorem find_keep {e : List (Nat × V)} : ∀ {l : List Nat} {t : Nat} {v : V}, find (keepE e l) t = some v → find e t = some v := by
  intro l
  induction l with
  | nil => intro t v h; cases h
  | cons x l ih =>
    intro t v h
    unfold keepE at h
    split at h
    · rename_i u hu
      simp only [find] at h
      split at h
      · rename_i hb
        cases h
        rw [← Nat.eq_of_beq_eq_true hb]; exact hu
      · exact ih h
    · exact ih h
theorem keep_tells (b : Nat) (live : List Nat) (st : St) : Tells b st (keepS live st) :=
  Tells.conv rfl rfl rfl (fun ρ w _ t v' h => ⟨v', find_keep h, rfl, fun h => h⟩) fun ρ w h1 h2 => ⟨h1, h2⟩
section
variable {P : Program} {b : Nat} {c : Code} {K : Ex → St → Prop}
/-- A loop by rounds that are computed, the store told as it is. -/
theorem byKeep {D : Eh} (hD : EOk P D) (hn : namesOk P = true) (hm : P.follows .mixedOrders = true) {N : Nat} {α : Type} (S : α → St) (I : α → Prop) (μ : α → Nat) (live : List Nat)
    (round : ∀ x, I x → evG P D N c (S x) fun e st => RK b S I μ x K e (keepS live st)) (st0 : St) (x0 : α) (ht : Tells b st0 (S x0)) (hi : I x0) : LoopB P b c st0 K := by
  refine LoopB.byG S I μ (fun x hx => ?_) st0 ⟨x0, ht, hi⟩
  refine (CodeB.of (evG_ok hD hn hm (round x hx))).mono fun e s he => ?_
  cases e
  · obtain ⟨y, h1, h2⟩ := he
    exact ⟨y, (keep_tells b live s).trans h1, h2⟩
  · exact ⟨_, keep_tells b live s, he⟩
  · exact ⟨_, keep_tells b live s, he⟩
  · exact ⟨_, keep_tells b live s, he⟩
  · exact he.elim
end
end Go.Proofs.Ytllfmafebhifdaa.win
end
section
/- win.May: what it computes. -/
set_option linter.unusedVariables false
set_option linter.unusedSimpArgs false
set_option maxRecDepth 1000000
namespace Go.Proofs.Ytllfmafebhifdaa.win
open Go Go.Proofs Go.Proofs.YtllfmafebhifdaaRL Go.Proofs.Ytllfmafebhifdaa.isa
namespace may
noncomputable def EY : Eh := addE 14 inpA (addE 16 ruleTA noE)
theorem EY_ok : EOk Try.prog EY := inpA_ok (ruleTA_ok noE_ok)
noncomputable abbrev cd : Code := codeOf Try.prog 7
noncomputable abbrev cu : Code := codeOf Try.prog 30
def live : List Nat := [3,4,5,6,33]
def liveU : List Nat := [0,1,5,6]
noncomputable def pr : List Nat := [0,0,0,1,0,2]
noncomputable def q1 : List Nat := pathTo 1 cu
def tm : List (Nat × V) := [(3, .ptr 1 0), (4, .ptr 2 0), (5, .ptr 3 0), (6, .ptr 4 0), (33, .fn (.func 30) [] [.ptr 5 0])]
def s5 (W : WinC) (n N cap : Nat) (t : TypeId) (i : Int) (r : RegsF) (res : Int) : Sto := [.arr .ro W.cols N t, .own [.sle 0 46 0 n cap] 22, .own [.raw (.int .i64 i)] 3, .own (numsV .u64 r.x 32 ++ [.raw (.bool r.nf), .raw (.bool r.zf), .raw (.bool r.cf), .raw (.bool r.vf)]) 26, .own [.raw (.int .i64 res)] 33]
def sA (W : WinC) (n N cap : Nat) (t : TypeId) (i : Int) (r : RegsF) (res : Int) : Sto := s5 W n N cap t i r res ++ [.own [.sl 6 0 0 0] 22, .own [] 32]
def sB (W : WinC) (n N cap : Nat) (t : TypeId) (i : Int) (k : Nat) (r : RegsF) (res : Int) : Sto := s5 W n N cap t i r res ++ [.own [.lse 7 6 46 0 k] 22, .no, .arr (.grow 6) W.cols k 32]
def rp : Code → Array Tmp
  | .rangeFunc _ ps _ _ => ps
  | _ => #[]
def ra : Code → Code
  | .rangeFunc _ _ a _ => a
  | c => c
def rbd : Code → Code
  | .rangeFunc _ _ _ b => b
  | c => c
noncomputable abbrev rc : Code := subAt pr cd
noncomputable def LP (pend : Option Code) : Ent := .lp tm 40 (rp rc) (ra rc) (rbd rc) pend
def SU (s : Sto) (k : Int) (q : Int) (j : Nat) : St := ⟨22, [(0, .yld j), (1, .ptr 5 0), (5, .raw (.int .i64 k)), (6, .raw (.int .i64 q))], s⟩
end may
open may
section
variable (W : WinC) (n N cap : Nat) (t : TypeId) (i : Int) (r : RegsF)
theorem may_rc : rc = .rangeFunc (.tmp 33) (rp rc) (ra rc) (rbd rc) := by kernel_rfl
def mayM (j : Nat) (K : V → Prop) (ZA ZB : Prop) : Prop :=
  let e1 := K (.raw (.int .i64 1))
  let e9 := K (.raw (.int .i64 9))
  Br (decide (i ≥ 0)) (Br (!decide (i < n)) e1 (fitM n N (Br (!(W.nm.inp n i r.nm).2) e9 (ixM i n N (Br (W.done j) e9
    (Br (decide (0 ≤ i)) (Br (decide (i ≤ (mxCap none cap cap : Nat))) (Br (Nat.ble (0 + i.toNat) N) (Br (Nat.ble (0 + i.toNat) 0) (Br (Nat.beq i.toNat 0) ZA False) (Br (growOk (0 + i.toNat) 344) ZB False)) False) False) False)))))) e1
theorem may_pre (K : V → Prop) (Z : St → Prop) : evTo Try.prog EY 100 1 (fun st => Z (gcSt 1 live st)) pr cd ⟨(funcOf Try.prog 7).ntmps, zipArgs 0 [.sle 0 46 0 n cap, .raw (.int .i64 i), r.v], [.arr .ro W.cols N t]⟩ (bodyK False Try.prog (funcOf Try.prog 7) (rK K)) =
    mayM W n N cap i r (i.toNat + 0) K (Z ⟨40, tm, sA W n N cap t i r 0⟩) (Z ⟨40, tm, sB W n N cap t i (0 + i.toNat) r 0⟩) := by kernel_rfl
theorem may_after (K : V → Prop) (s : Sto) : ctxK Try.prog 1 pr cd (bodyK False Try.prog (funcOf Try.prog 7) (rK K)) .normal ⟨40, tm, s⟩ = CodeB Try.prog 1 (rgt (rgt (rgt (rgt cd)))) ⟨40, tm, s⟩ (bodyK False Try.prog (funcOf Try.prog 7) (rK K)) := by kernel_rfl
theorem may_postA (K : V → Prop) : evG Try.prog EY 40 (rgt (rgt (rgt (rgt cd)))) ⟨40, tm, sA W n N cap t i r 0 ++ [.no]⟩ (bodyK False Try.prog (funcOf Try.prog 7) (rK K)) = K (.raw (.int .i64 0)) := by kernel_rfl
theorem may_postB (k : Nat) (K : V → Prop) : evG Try.prog EY 40 (rgt (rgt (rgt (rgt cd)))) ⟨40, tm, sB W n N cap t i k r 0 ++ [.no]⟩ (bodyK False Try.prog (funcOf Try.prog 7) (rK K)) = K (.raw (.int .i64 0)) := by kernel_rfl
theorem may_ret (k : Nat) (K : V → Prop) : ctxK Try.prog 1 pr cd (bodyK False Try.prog (funcOf Try.prog 7) (rK K)) .ret ⟨40, tm, sB W n N cap t i k r 9 ++ [.no]⟩ = K (.raw (.int .i64 9)) := by kernel_rfl
theorem und_A (K : Res → Sto → Prop) : callG Try.prog EY 40 30 [.yld 7, .ptr 5 0] (sA W n N cap t i r 0 ++ [LP none]) K = K (.ret (.tup [])) (sA W n N cap t i r 0 ++ [LP none]) := by kernel_rfl
theorem und_pre (k : Nat) (Z : St → Prop) (K : Ex → St → Prop) : evTo Try.prog EY 40 9 (fun st => Z (keepS liveU st)) q1 cu ⟨(funcOf Try.prog 30).ntmps, zipArgs 0 [.yld 8, .ptr 5 0], sB W n N cap t i k r 0 ++ [LP none]⟩ K = Z (SU (sB W n N cap t i k r 0 ++ [LP none]) k 0 8) := by kernel_rfl
def inM2 (i q : Int) (P : Prop) : Prop := Br (decide (0 ≤ i)) (Br (decide (i < n)) (Br (decide (0 ≤ q)) (Br (decide (q < n)) P False) False) False) False
def undM (k : Nat) (q : Int) (j : Nat) (NX EX RT : Prop) : Prop :=
  Br (decide (q < (k : Int))) (Br (decide (0 ≤ q)) (Br (decide (q < (k : Int))) (Br (Nat.blt j k) (Br (!W.done j) (fitM n N (inM2 n i q (Br (W.nm.rule n i q r.nm) RT NX))) NX) False) False) False) EX
theorem und_round (k : Nat) (q : Int) (K : Ex → St → Prop) : evG Try.prog EY 40 (lft (subAt q1 cu)) (SU (sB W n N cap t i k r 0 ++ [LP none]) k q 8) (fun e st => K e (keepS liveU st)) =
    undM W n N i r k q (q.toNat + 0) (K .normal (SU (sB W n N cap t i k r 0 ++ [LP none]) k (IntKind.i64.wrap (q + 1)) 8)) (K (.exit 0) (SU (sB W n N cap t i k r 0 ++ [LP none]) k q 8)) (K .ret (SU (sB W n N cap t i k r 9 ++ [LP (some .ret)]) k q 8)) := by kernel_rfl
theorem und_after (K : Ex → St → Prop) (st : St) : ctxK Try.prog 9 q1 cu K (.exit 0) st = K .normal st := by kernel_rfl
theorem und_ret (K : Ex → St → Prop) (st : St) : ctxK Try.prog 9 q1 cu K .ret st = K .ret st := by kernel_rfl
theorem und_end (s : Sto) (k q : Int) (j : Nat) (K : Res → Sto → Prop) : bodyK False Try.prog (funcOf Try.prog 30) K .normal (SU s k q j) = K (.ret (.tup [])) s := by kernel_rfl
theorem und_endR (s : Sto) (k q : Int) (j : Nat) (K : Res → Sto → Prop) : bodyK False Try.prog (funcOf Try.prog 30) K .ret (SU s k q j) = K (.ret (.tup [])) s := by kernel_rfl
end
end Go.Proofs.Ytllfmafebhifdaa.win
end
