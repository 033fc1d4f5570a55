/- Parts of the proof, one behind the other. -/
import Derived.Test.YtllfmafebhifdaazWinBarriersWOpsF
section
/- Memory, Load, Store, Branch, touching, Where, as tables' lines. -/
set_option linter.unusedVariables false
set_option linter.unusedSimpArgs false
set_option maxRecDepth 100000
namespace Go.Proofs.Ytllfmafebhifdaa.win
open Go Go.Proofs Go.Proofs.YtllfmafebhifdaaRL Go.Proofs.Ytllfmafebhifdaa.isa Go.Proofs.Ytllfmafebhifdaa.opsF
def memP (op : Int) : Bool := decide (28 ≤ op ∧ op ≤ 36)
def loadP (op : Int) : Bool := decide (op = 28 ∨ op = 30 ∨ op = 31 ∨ op = 33 ∨ op = 35)
def storeP (op : Int) : Bool := decide (op = 29 ∨ op = 32 ∨ op = 34 ∨ op = 36)
def brnP (op : Int) : Bool := decide (20 ≤ op ∧ op ≤ 27)
def touP (op : Int) : Bool := decide (28 ≤ op ∧ op ≤ 36 ∨ op = 40 ∨ op = 41)
def whD (op d : Int) : Int := if (op = 4 ∨ op = 5) ∧ d = 31 then 32 else d
def whN (op n : Int) : Int := if ((4 ≤ op ∧ op ≤ 6) ∨ 28 ≤ op ∧ op ≤ 36) ∧ n = 31 then 32 else n
abbrev bV (b : Bool) : V := .raw (.bool b)
theorem bV_dec {p q : Prop} [Decidable p] [Decidable q] (h : p ↔ q) : bV (decide p) = bV (decide q) := by rw [decide_eq_decide.2 h]
section
variable {f : FuncId}
theorem small {args : List V} {u : V} (h : callG Try.prog noE 100 f args [] (rK fun v => v = u)) : CallOk Try.prog f args [] fun r _ => r = .ret u := (callG_ok noE_ok names mixed (n := 100) h).mono rK_ok
end
theorem mem_ok (op : Int) : CallOk Try.prog 17 [.raw (.int .i64 op)] [] fun r _ => r = .ret (bV (memP op)) := by
  refine small ?_
  generalize hu : bV (memP op) = u
  refine (mem_eq op fun v => v = u).mpr ?_
  unfold mem_f
  repeat' split
  all_goals
    simp only [decide_eq_true_eq, decide_eq_false_iff_not, beq_iff_eq, beq_eq_false_iff_ne, ne_eq] at *
    rw [← hu]
    unfold memP
    first
    | exact congrArg bV (decide_eq_false (by omega)).symm
    | exact bV_dec (by omega)
theorem load_ok (op : Int) : CallOk Try.prog 19 [.raw (.int .i64 op)] [] fun r _ => r = .ret (bV (loadP op)) := by
  refine small ?_
  generalize hu : bV (loadP op) = u
  refine (load_eq op fun v => v = u).mpr ?_
  unfold load_f
  repeat' split
  all_goals
    simp only [decide_eq_true_eq, decide_eq_false_iff_not, beq_iff_eq, beq_eq_false_iff_ne, ne_eq] at *
    rw [← hu]
    unfold loadP
    first
    | exact congrArg bV (decide_eq_true (by omega)).symm
    | (rw [beq_dec]; exact bV_dec (by omega))
theorem store_ok (op : Int) : CallOk Try.prog 31 [.raw (.int .i64 op)] [] fun r _ => r = .ret (bV (storeP op)) := by
  refine small ?_
  generalize hu : bV (storeP op) = u
  refine (store_eq op fun v => v = u).mpr ?_
  unfold store_f
  repeat' split
  all_goals
    simp only [decide_eq_true_eq, decide_eq_false_iff_not, beq_iff_eq, beq_eq_false_iff_ne, ne_eq] at *
    rw [← hu]
    unfold storeP
    first
    | exact congrArg bV (decide_eq_false (by omega)).symm
    | (rw [beq_dec, ← decide_not]; exact bV_dec (by omega))
theorem brn_ok (op : Int) : CallOk Try.prog 32 [.raw (.int .i64 op)] [] fun r _ => r = .ret (bV (brnP op)) := by
  refine small ?_
  generalize hu : bV (brnP op) = u
  refine (brn_eq op fun v => v = u).mpr ?_
  unfold brn_f
  repeat' split
  all_goals
    simp only [decide_eq_true_eq, decide_eq_false_iff_not, beq_iff_eq, beq_eq_false_iff_ne, ne_eq] at *
    rw [← hu]
    unfold brnP
    first
    | exact congrArg bV (decide_eq_false (by omega)).symm
    | exact bV_dec (by omega)
theorem tou_ok (op : Int) : CallOk Try.prog 21 [.raw (.int .i64 op)] [] fun r _ => r = .ret (bV (touP op)) := by
  refine small ?_
  generalize hu : bV (touP op) = u
  refine (tou_eq op fun v => v = u).mpr ?_
  unfold tou_f
  repeat' split
  all_goals
    simp only [decide_eq_true_eq, decide_eq_false_iff_not, beq_iff_eq, beq_eq_false_iff_ne, ne_eq] at *
    rw [← hu]
    unfold touP
    first
    | exact congrArg bV (decide_eq_true (by omega)).symm
    | (rw [beq_dec]; exact bV_dec (by omega))
def whV (op d n : Int) : V := .tup [.raw (.int .i64 (whD op d)), .raw (.int .i64 (whN op n))]
theorem whr_ok (op d n m a c im : Int) : CallOk Try.prog 22 [insV op d n m a c im] [] fun r _ => r = .ret (whV op d n) := by
  refine small ?_
  generalize hu : whV op d n = u
  refine (whr_eq op d n m a c im fun v => v = u).mpr ?_
  unfold whr_f
  repeat' split
  all_goals
    simp only [decide_eq_true_eq, decide_eq_false_iff_not, beq_iff_eq, beq_eq_false_iff_ne, ne_eq] at *
    rw [← hu]
    unfold whV whD whN
    first
    | contradiction
    | (exfalso; omega)
    | rw [if_pos (by omega), if_pos (by omega)]
    | rw [if_pos (by omega), if_neg (by omega)]
    | rw [if_neg (by omega), if_pos (by omega)]
    | rw [if_neg (by omega), if_neg (by omega)]
def opG (p : Int → Bool) : List V → Option V
  | [.raw (.int .i64 op)] => some (bV (p op))
  | _ => none
theorem opG_ok {f : FuncId} {p : Int → Bool} (hp : ∀ op, CallOk Try.prog f [.raw (.int .i64 op)] [] fun r _ => r = .ret (bV (p op))) {E : Eh} (hE : EOk Try.prog E) : EOk Try.prog (specE f (opG p) E) := by
  refine specE_ok hE fun args v h => ?_
  unfold opG at h
  split at h
  · cases h; exact ⟨⟨trivial, trivial⟩, trivial, hp _⟩
  · cases h
def whG : List V → Option V
  | [u] => match readIns u with
    | some (op, d, n, _) => some (whV op d n)
    | none => none
  | _ => none
theorem whG_ok {E : Eh} (hE : EOk Try.prog E) : EOk Try.prog (specE 22 whG E) := by
  refine specE_ok hE fun args v h => ?_
  unfold whG at h
  split at h
  · split at h
    · rename_i op d n rest hr
      obtain ⟨m, a, c, im⟩ := rest
      cases h
      rw [readIns_eq hr]
      exact ⟨⟨insV_bd .., trivial⟩, ⟨trivial, trivial, trivial⟩, whr_ok ..⟩
    · cases h
  · cases h
noncomputable def opsE (E : Eh) : Eh := specE 17 (opG memP) (specE 19 (opG loadP) (specE 31 (opG storeP) (specE 32 (opG brnP) (specE 21 (opG touP) (specE 22 whG (specE 20 chkG E))))))
theorem opsE_ok {E : Eh} (hE : EOk Try.prog E) : EOk Try.prog (opsE E) := opG_ok mem_ok (opG_ok load_ok (opG_ok store_ok (opG_ok brn_ok (opG_ok tou_ok (whG_ok (chkG_ok hE))))))
end Go.Proofs.Ytllfmafebhifdaa.win
end
section
/- win.Inputs, win.Addr. -/
set_option linter.unusedVariables false
set_option linter.unusedSimpArgs false
set_option maxRecDepth 1000000
namespace Go.Proofs.Ytllfmafebhifdaa.win
open Go Go.Proofs Go.Proofs.YtllfmafebhifdaaRL Go.Proofs.Ytllfmafebhifdaa.isa
noncomputable def EI : Eh := addE 28 inB (addE 23 fillA (opsE (specE 24 doG noE)))
theorem EI_ok : EOk Try.prog EI := inB_ok (fillA_ok (opsE_ok (doG_ok noE_ok)))
def ixM (i : Int) (n N : Nat) (P : Prop) : Prop := Br (decide (0 ≤ i)) (Br (decide (i < n)) (Br (Nat.blt (i.toNat + 0) N) P False) False) False
def fitM (n N : Nat) (P : Prop) : Prop := Br (Nat.ble n N) (Br (Nat.ble n 1000000) P False) False
theorem ixM_ok {i : Int} {n N : Nat} {P : Prop} (h0 : 0 ≤ i) (h1 : i < n) (hN : n ≤ N) (h : P) : ixM i n N P := by
  unfold ixM
  rw [decide_eq_true h0, decide_eq_true h1, blt_lt (show i.toNat + 0 < N by omega)]
  exact h
theorem fitM_ok {n N : Nat} {P : Prop} (hN : n ≤ N) (hn : n ≤ 1000000) (h : P) : fitM n N P := by
  unfold fitM
  rw [Nat.ble_eq_true_of_le hN, Nat.ble_eq_true_of_le hn]
  exact h
def WinC.raw (W : WinC) (j : Nat) : List Int := inRaw (W.d j) (W.n j) (W.m j) (W.a j) (W.op j).toNat
/-- The registers that an instruction reads. -/
def WinC.inp (W : WinC) (n : Nat) (i : Int) (r : RegsF) : RegsF × Bool := if 0 ≤ i ∧ i < n then fillF W n i r.nm.nm r.nm (W.inn i.toNat) else (zeroR, false)
def inpM (W : WinC) (n N : Nat) (i : Int) (r : RegsF) (j : Nat) (K : V → Prop) : Prop :=
  Br (decide (i ≥ 0)) (Br (!decide (i < n)) (K (rb zeroR false)) (ixM i n N
    (Br (W.chk j != 0 || (W.raw j).isEmpty) (fitM n N (K (rbP (fillF W.nm n i r.nm.nm r.nm []))))
    (Br (Nat.beq (plainL (W.raw j)).length 0) (fitM n N (K (rbP (fillF W.nm n i r.nm.nm r.nm []))))
    (Br (Nat.beq (plainL (W.raw j)).length 1) (fitM n N (K (rbP (fillF W.nm n i r.nm.nm r.nm [lc (plainL (W.raw j)) 0]))))
    (Br (Nat.beq (plainL (W.raw j)).length 2) (fitM n N (K (rbP (fillF W.nm n i r.nm.nm r.nm [lc (plainL (W.raw j)) 0, lc (plainL (W.raw j)) 1]))))
    (Br (Nat.beq (plainL (W.raw j)).length 3) (fitM n N (K (rbP (fillF W.nm n i r.nm.nm r.nm [lc (plainL (W.raw j)) 0, lc (plainL (W.raw j)) 1, lc (plainL (W.raw j)) 2])))) False))))))) (K (rb zeroR false))
theorem inp_eq (W : WinC) (n N cap : Nat) (t : TypeId) (i : Int) (r : RegsF) (K : V → Prop) : callG Try.prog EI 100 14 [.sle 0 46 0 n cap, .raw (.int .i64 i), r.v] [.arr .ro W.cols N t] (rK K) = inpM W n N i r (i.toNat + 0) K := by kernel_rfl
def touchRow (op n m : Int) : List Int := if op = 31 ∨ op = 32 then [whN op n, m] else [whN op n]
/-- The place that an instruction touches. -/
def WinC.addr (W : WinC) (n : Nat) (i : Int) (r : RegsF) : Int × Bool :=
  if (0 ≤ i ∧ i < n) ∧ W.chk i.toNat = 0 ∧ touP (W.op i.toNat) = true then
    match fillF W n i r.nm.nm r.nm (touchRow (W.op i.toNat) (W.n i.toNat) (W.m i.toNat)) with
    | (q, true) => ((doV (W.op i.toNat) (W.d i.toNat) (W.n i.toNat) (W.m i.toNat) (W.a i.toNat) (W.c i.toNat) (W.im i.toNat) (W.pc i.toNat) q.nm.x q.nf q.zf q.cf q.vf).addr, true)
    | (_, false) => (0, false)
  else (0, false)
def adrE (W : WinC) (n N : Nat) (i : Int) (r : RegsF) (j : Nat) (K : V → Prop) (l : List Int) : Prop :=
  fitM n N (Br (!(fillF W.nm n i r.nm.nm r.nm l).2) (K (vR (0, false))) (ixM i n N (K (vR ((doV (W.op j) (W.d j) (W.n j) (W.m j) (W.a j) (W.c j) (W.im j) (W.pc j) (fillF W.nm n i r.nm.nm r.nm l).1.nm.x (fillF W.nm n i r.nm.nm r.nm l).1.nf (fillF W.nm n i r.nm.nm r.nm l).1.zf (fillF W.nm n i r.nm.nm r.nm l).1.cf (fillF W.nm n i r.nm.nm r.nm l).1.vf).addr, true)))))
def adrM (W : WinC) (n N : Nat) (i : Int) (r : RegsF) (j : Nat) (K : V → Prop) : Prop :=
  Br (decide (i ≥ 0)) (Br (!decide (i < n)) (K (vR (0, false))) (ixM i n N (Br (W.chk j != 0) (K (vR (0, false))) (ixM i n N (Br (!touP (W.op j)) (K (vR (0, false))) (ixM i n N
    (Br (W.op j == 31) (adrE W n N i r j K [[whN (W.op j) (W.n j)].getD 0 0, [W.m j].getD 0 0])
    (Br (W.op j == 32) (adrE W n N i r j K [[whN (W.op j) (W.n j)].getD 0 0, [W.m j].getD 0 0])
    (adrE W n N i r j K [whN (W.op j) (W.n j)]))))))))) (K (vR (0, false)))
theorem adr_eq (W : WinC) (n N cap : Nat) (t : TypeId) (i : Int) (r : RegsF) (K : V → Prop) : callG Try.prog EI 100 9 [.sle 0 46 0 n cap, .raw (.int .i64 i), r.v] [.arr .ro W.cols N t] (rK K) = adrM W n N i r (i.toNat + 0) K := by kernel_rfl
end Go.Proofs.Ytllfmafebhifdaa.win
end
section
/- win.Inputs, win.Addr as tables' lines. -/
set_option linter.unusedVariables false
set_option linter.unusedSimpArgs false
set_option maxRecDepth 100000
namespace Go.Proofs.Ytllfmafebhifdaa.win
open Go Go.Proofs Go.Proofs.YtllfmafebhifdaaRL Go.Proofs.Ytllfmafebhifdaa.isa
theorem rb_bad (p : RegsF × Bool) (h : p = (zeroR, false)) : rb zeroR false = rbP p := by subst h; rfl
theorem inn_none {W : WinC} {j : Nat} (h : (W.chk j != 0 || (W.raw j).isEmpty) = true) : W.inn j = [] := by
  unfold WinC.inn
  by_cases hc : W.chk j = 0
  · rw [if_pos hc]
    rw [hc] at h
    have h' : (W.raw j).isEmpty = true := h
    have e : inRaw (W.d j) (W.n j) (W.m j) (W.a j) (W.op j).toNat = [] := List.isEmpty_iff.1 h'
    rw [e]; rfl
  · rw [if_neg hc]
theorem inn_some {W : WinC} {j : Nat} (h : (W.chk j != 0 || (W.raw j).isEmpty) = false) : W.inn j = plainL (W.raw j) := by
  unfold WinC.inn WinC.raw
  rw [Bool.or_eq_false_iff] at h
  rw [if_pos (by simpa using h.1)]
theorem inpM_ok {W : WinC} {n N : Nat} {i : Int} {r : RegsF} (hN : n ≤ N) (hn : n ≤ 1000000) : inpM W n N i r (i.toNat + 0) fun v => v = rbP (W.nm.inp n i r) := by
  unfold inpM
  by_cases h0 : 0 ≤ i
  · rw [decide_eq_true (show i ≥ 0 from h0)]
    by_cases h1 : i < n
    · rw [decide_eq_true h1]
      refine ixM_ok h0 h1 hN ?_
      have e0 : i.toNat + 0 = i.toNat := rfl
      have e : W.nm.inp n i r = fillF W.nm n i r.nm.nm r.nm (W.inn i.toNat) := if_pos ⟨h0, h1⟩
      rw [e, e0]
      cases hb : (W.chk i.toNat != 0 || (W.raw i.toNat).isEmpty) with
      | true =>
        rw [inn_none hb]
        exact fitM_ok hN hn rfl
      | false =>
        rw [inn_some hb]
        have hl : (plainL (W.raw i.toNat)).length < 4 := plain_len (in_len ..)
        generalize plainL (W.raw i.toNat) = L at hl
        match L, hl with
        | [], _ => exact fitM_ok hN hn rfl
        | [a], _ => exact fitM_ok hN hn rfl
        | [a, b], _ => exact fitM_ok hN hn rfl
        | [a, b, c], _ => exact fitM_ok hN hn rfl
        | a :: b :: c :: d :: l, h => exact absurd h (by simp)
    · rw [decide_eq_false h1]
      exact rb_bad _ (if_neg fun h => h1 h.2)
  · rw [decide_eq_false (show ¬ i ≥ 0 from h0)]
    exact rb_bad _ (if_neg fun h => h0 h.1)
theorem inp_call {W : WinC} {n N cap : Nat} {t : TypeId} {i : Int} {r : RegsF} (hN : n ≤ N) (hn : n ≤ 1000000) : CallOk Try.prog 14 [.sle 0 46 0 n cap, .raw (.int .i64 i), r.v] [.arr .ro W.cols N t] fun q _ => q = .ret (rbP (W.nm.inp n i r)) := by
  refine (callG_ok EI_ok names mixed (n := 100) (K := rK fun v => v = rbP (W.nm.inp n i r)) ?_).mono rK_ok
  exact (inp_eq W n N cap t i r _).mpr (inpM_ok hN hn)
theorem adrE_ok {W : WinC} {n N : Nat} {i : Int} {r : RegsF} {l : List Int} (hN : n ≤ N) (hn : n ≤ 1000000) (h0 : 0 ≤ i) (h1 : i < n) (h2 : W.chk i.toNat = 0 ∧ touP (W.op i.toNat) = true) (hl : l = touchRow (W.op i.toNat) (W.n i.toNat) (W.m i.toNat)) : adrE W n N i r i.toNat (fun v => v = vR (W.nm.addr n i r)) l := by
  have e : W.nm.addr n i r = match fillF W.nm n i r.nm.nm r.nm (touchRow (W.op i.toNat) (W.n i.toNat) (W.m i.toNat)) with
    | (q, true) => ((doV (W.op i.toNat) (W.d i.toNat) (W.n i.toNat) (W.m i.toNat) (W.a i.toNat) (W.c i.toNat) (W.im i.toNat) (W.pc i.toNat) q.nm.x q.nf q.zf q.cf q.vf).addr, true)
    | (_, false) => (0, false) := if_pos ⟨⟨h0, h1⟩, h2⟩
  rw [e, ← hl]
  unfold adrE
  refine fitM_ok hN hn ?_
  generalize fillF W.nm n i r.nm.nm r.nm l = p
  obtain ⟨q, b⟩ := p
  cases b
  · exact rfl
  · exact ixM_ok h0 h1 hN rfl
theorem vR_bad {p : Int × Bool} (h : p = (0, false)) : vR (0, false) = vR p := by rw [h]
theorem adrM_ok {W : WinC} {n N : Nat} {i : Int} {r : RegsF} (hN : n ≤ N) (hn : n ≤ 1000000) : adrM W n N i r (i.toNat + 0) fun v => v = vR (W.nm.addr n i r) := by
  unfold adrM
  by_cases h0 : 0 ≤ i
  · rw [decide_eq_true (show i ≥ 0 from h0)]
    by_cases h1 : i < n
    · rw [decide_eq_true h1]
      refine ixM_ok h0 h1 hN ?_
      have e0 : i.toNat + 0 = i.toNat := rfl
      rw [e0]
      by_cases h2 : W.chk i.toNat = 0
      · rw [h2]
        refine ixM_ok h0 h1 hN ?_
        cases h3 : touP (W.op i.toNat) with
        | false => exact vR_bad (if_neg fun h => by have := h.2.2; rw [show W.nm.op i.toNat = W.op i.toNat from rfl, h3] at this; cases this)
        | true =>
          refine ixM_ok h0 h1 hN ?_
          by_cases h4 : W.op i.toNat = 31
          · rw [h4, beq_self_eq_true]
            exact adrE_ok hN hn h0 h1 ⟨h2, h3⟩ (by unfold touchRow; rw [if_pos (Or.inl h4), h4]; rfl)
          · rw [beq_eq_false_iff_ne.2 h4]
            by_cases h5 : W.op i.toNat = 32
            · rw [h5, beq_self_eq_true]
              exact adrE_ok hN hn h0 h1 ⟨h2, h3⟩ (by unfold touchRow; rw [if_pos (Or.inr h5), h5]; rfl)
            · rw [beq_eq_false_iff_ne.2 h5]
              exact adrE_ok hN hn h0 h1 ⟨h2, h3⟩ (by unfold touchRow; rw [if_neg (fun h => h.elim h4 h5)])
      · rw [show (W.chk i.toNat != 0) = true from bne_iff_ne.2 h2]
        exact vR_bad (if_neg fun h => h2 h.2.1)
    · rw [decide_eq_false h1]
      exact vR_bad (if_neg fun h => h1 h.1.2)
  · rw [decide_eq_false (show ¬ i ≥ 0 from h0)]
    exact vR_bad (if_neg fun h => h0 h.1.1)
theorem adr_call {W : WinC} {n N cap : Nat} {t : TypeId} {i : Int} {r : RegsF} (hN : n ≤ N) (hn : n ≤ 1000000) : CallOk Try.prog 9 [.sle 0 46 0 n cap, .raw (.int .i64 i), r.v] [.arr .ro W.cols N t] fun q _ => q = .ret (vR (W.nm.addr n i r)) := by
  refine (callG_ok EI_ok names mixed (n := 100) (K := rK fun v => v = vR (W.nm.addr n i r)) ?_).mono rK_ok
  exact (adr_eq W n N cap t i r _).mpr (adrM_ok hN hn)
def inpA : List V → Sto → Option Ans
  | [w, .raw (.int .i64 i), r], s => match atWin w s, readR r with
    | some (W, n, N), some r => some (fits n N (.one (.ret (rbP (W.inp n i r))) s))
    | _, _ => none
  | _, _ => none
def adrA : List V → Sto → Option Ans
  | [w, .raw (.int .i64 i), r], s => match atWin w s, readR r with
    | some (W, n, N), some r => some (fits n N (.one (.ret (vR (W.addr n i r))) s))
    | _, _ => none
  | _, _ => none
theorem inpA_ok {E : Eh} (hE : EOk Try.prog E) : EOk Try.prog (addE 14 inpA E) := by
  refine addE_ok hE fun args s a h hf => ?_
  unfold inpA at h
  split at h
  · split at h
    · rename_i W n N r hw hr
      cases h
      rw [readR_eq hr]
      refine fits_call hf fun h1 h2 _ => atWin_call hw ⟨trivial, r.v_bd 0, trivial⟩ (rbP_bd _) fun cap t => ?_
      have := inp_call (W := W) (cap := cap) (t := t) (i := ‹Int›) (r := r) h1 h2
      rw [atWin_nm hw] at this
      exact this
    · cases h
  · cases h
theorem adrA_ok {E : Eh} (hE : EOk Try.prog E) : EOk Try.prog (addE 9 adrA E) := by
  refine addE_ok hE fun args s a h hf => ?_
  unfold adrA at h
  split at h
  · split at h
    · rename_i W n N r hw hr
      cases h
      rw [readR_eq hr]
      refine fits_call hf fun h1 h2 _ => atWin_call hw ⟨trivial, r.v_bd 0, trivial⟩ ⟨trivial, trivial, trivial⟩ fun cap t => ?_
      have := adr_call (W := W) (cap := cap) (t := t) (i := ‹Int›) (r := r) h1 h2
      rw [atWin_nm hw] at this
      exact this
    · cases h
  · cases h
end Go.Proofs.Ytllfmafebhifdaa.win
end
section
/- win.Forward. -/
set_option linter.unusedVariables false
set_option linter.unusedSimpArgs false
set_option maxRecDepth 1000000
namespace Go.Proofs.Ytllfmafebhifdaa.win
open Go Go.Proofs Go.Proofs.YtllfmafebhifdaaRL Go.Proofs.Ytllfmafebhifdaa.isa
namespace fwd
noncomputable def EW : Eh := addE 14 inpA (addE 9 adrA (opsE noE))
theorem EW_ok : EOk Try.prog EW := inpA_ok (adrA_ok (opsE_ok noE_ok))
def live : List Nat := [0,5,6,7,8,9,10]
noncomputable def p1 : List Nat := pathTo 12 (codeOf Try.prog 8)
noncomputable def c1 : Code := subAt (p1.dropLast.dropLast.dropLast ++ [0]) (codeOf Try.prog 8)
def SF (W : WinC) (n N cap : Nat) (t : TypeId) (r : RegsF) (my : Int) (b : Bool) (q a6 : Int) (a7 : Bool) : St := ⟨110, [(0, .sle 0 46 0 n cap), (5, .ptr 1 0), (6, .raw (.int .i64 a6)), (7, .raw (.bool a7)), (8, .raw (.int .u64 my)), (9, .raw (.bool b)), (10, .raw (.int .i64 q))], [.arr .ro W.cols N t, .own (numsV .u64 r.x 32 ++ [.raw (.bool r.nf), .raw (.bool r.zf), .raw (.bool r.cf), .raw (.bool r.vf)]) 26]⟩
end fwd
open fwd
def gr8 (a : Int) : Int := w64 (a.tdiv 8)
/-- The store of the same granule that a load takes its value from, looked for backwards. -/
def WinC.fback (W : WinC) (n : Nat) (r : RegsF) (my : Int) : Nat → Int × Bool
  | 0 => (0, false)
  | j + 1 =>
    if (W.addr n (j : Nat) r.nm).2 = false ∨ memP (W.op j) = false ∨ gr8 (W.addr n (j : Nat) r.nm).1 ≠ gr8 my then W.fback n r my j
    else if W.done j = true ∧ loadP (W.op j) = true then W.fback n r my j
    else if W.done j = true ∨ (W.op j ≠ 29 ∧ W.op j ≠ 32) then (0, false)
    else if (W.inp n (j : Nat) r.nm).2 = false then (0, false)
    else ((j : Nat), true)
def WinC.fwd (W : WinC) (n : Nat) (i : Int) (r : RegsF) : Int × Bool :=
  if (W.addr n i r.nm).2 = false then (0, false)
  else if W.op i.toNat = 30 ∨ ((W.op i.toNat = 28 ∨ W.op i.toNat = 31) ∧ (W.addr n i r.nm).1.tmod 8 = 0) then W.fback n r (W.addr n i r.nm).1 i.toNat
  else (0, false)
def iR (p : Int × Bool) : V := .tup [.raw (.int .i64 p.1), .raw (.bool p.2)]
def fwdM (W : WinC) (n N : Nat) (i : Int) (r : RegsF) (j : Nat) (K : V → Prop) (Z : Int → Int → Prop) : Prop :=
  fitM n N (Br (!(W.nm.addr n i r.nm).2) (K (iR (0, false))) (ixM i n N (Br (W.op j == 30) (Z (W.nm.addr n i r.nm).1 (IntKind.i64.wrap (i - 1)))
    (Br (W.op j == 28) (Br ((W.nm.addr n i r.nm).1.tmod 8 != 0) (K (iR (0, false))) (Z (W.nm.addr n i r.nm).1 (IntKind.i64.wrap (i - 1))))
    (Br (W.op j == 31) (Br ((W.nm.addr n i r.nm).1.tmod 8 != 0) (K (iR (0, false))) (Z (W.nm.addr n i r.nm).1 (IntKind.i64.wrap (i - 1)))) (K (iR (0, false))))))))
theorem fwd_pre (W : WinC) (n N cap : Nat) (t : TypeId) (i : Int) (r : RegsF) (K : V → Prop) (Z : St → Prop) :
    evTo Try.prog EW 40 1 (fun st => Z (gcSt 1 live st)) p1 (codeOf Try.prog 8) ⟨(funcOf Try.prog 8).ntmps, zipArgs 0 [.sle 0 46 0 n cap, .raw (.int .i64 i), r.v], [.arr .ro W.cols N t]⟩ (bodyK False Try.prog (funcOf Try.prog 8) (rK K)) =
    fwdM W n N i r (i.toNat + 0) K fun my q => Z (SF W n N cap t r my (W.nm.addr n i r.nm).2 q 0 false) := by kernel_rfl
def fwdB (W : WinC) (n N : Nat) (r : RegsF) (my : Int) (q : Int) (j : Nat) (nx ex rt : Prop) : Prop :=
  let fin := fitM n N (Br (!(W.nm.inp n q r.nm).2) ex rt)
  let stop := ixM q n N (Br (W.done j) ex (Br (W.op j != 29) (Br (W.op j != 32) ex fin) fin))
  Br (decide (q ≥ 0)) (fitM n N (Br (!(W.nm.addr n q r.nm).2) nx (ixM q n N (Br (!memP (W.op j)) nx (Br (!(gr8 (W.nm.addr n q r.nm).1 == gr8 my)) nx (ixM q n N (ixM q n N (Br (W.done j) (Br (loadP (W.op j)) nx stop) stop)))))))) ex
theorem fwd_body (W : WinC) (n N cap : Nat) (t : TypeId) (r : RegsF) (my : Int) (b : Bool) (q : Int) (K : Ex → St → Prop) :
    evG Try.prog EW 40 (lft (subAt p1 (codeOf Try.prog 8))) (SF W n N cap t r my b q 0 false) (fun e st => K e (gcSt 1 live st)) =
    fwdB W n N r my q (q.toNat + 0) (K .normal (SF W n N cap t r my b (IntKind.i64.wrap (q - 1)) 0 false)) (K (.exit 1) (SF W n N cap t r my b q 0 false)) (K .ret (SF W n N cap t r my b q q true)) := by kernel_rfl
theorem fwd_after (K : Ex → St → Prop) (st : St) : ctxK Try.prog 1 p1 (codeOf Try.prog 8) K (.exit 1) st = CodeB Try.prog 1 c1 st fun e st' => match e with | .goto l => False | e => K e st' := by kernel_rfl
theorem fwd_ret (W : WinC) (n N cap : Nat) (t : TypeId) (r : RegsF) (my : Int) (b : Bool) (q a6 : Int) (a7 : Bool) (K : V → Prop) :
    ctxK Try.prog 1 p1 (codeOf Try.prog 8) (bodyK False Try.prog (funcOf Try.prog 8) (rK K)) .ret (SF W n N cap t r my b q a6 a7) = K (iR (a6, a7)) := by kernel_rfl
theorem fwd_post (W : WinC) (n N cap : Nat) (t : TypeId) (r : RegsF) (my : Int) (b : Bool) (q : Int) (K : V → Prop) :
    evG Try.prog EW 40 c1 (SF W n N cap t r my b q 0 false) (fun e st' => match e with | .goto l => False | e => bodyK False Try.prog (funcOf Try.prog 8) (rK K) e st') = K (iR (0, false)) := by kernel_rfl
end Go.Proofs.Ytllfmafebhifdaa.win
end
section
/- win.Forward as a table's line. -/
set_option linter.unusedVariables false
set_option linter.unusedSimpArgs false
set_option maxRecDepth 100000
namespace Go.Proofs.Ytllfmafebhifdaa.win
open Go Go.Proofs Go.Proofs.YtllfmafebhifdaaRL Go.Proofs.Ytllfmafebhifdaa.isa
open fwd
theorem fwdB_end {W : WinC} {n N : Nat} {r : RegsF} {my q : Int} {j : Nat} {nx ex rt : Prop} (h : ¬ 0 ≤ q) (hx : ex) : fwdB W n N r my q j nx ex rt := by
  unfold fwdB
  rw [decide_eq_false (show ¬ q ≥ 0 from h)]
  exact hx
theorem fwdB_ok {W : WinC} {n N : Nat} {r : RegsF} {my : Int} {k : Nat} {nx ex rt : Prop} {p : Int × Bool} (hN : n ≤ N) (hn : n ≤ 1000000) (hk : k < n) (hp : W.nm.fback n r my (k + 1) = p)
    (hnx : W.nm.fback n r my k = p → nx) (hex : p = (0, false) → ex) (hrt : p = (((k : Nat) : Int), true) → rt) : fwdB W n N r my (k : Nat) k nx ex rt := by
  have h0 : (0 : Int) ≤ (k : Nat) := by omega
  have h1 : ((k : Nat) : Int) < n := by omega
  have hb := hp.symm
  rw [WinC.fback, show W.nm.op = W.op from rfl, show W.nm.done = W.done from rfl] at hb
  unfold fwdB
  rw [decide_eq_true (show ((k : Nat) : Int) ≥ 0 from h0)]
  refine fitM_ok hN hn ?_
  cases a1 : (W.nm.addr n (k : Nat) r.nm).2 with
  | false =>
    rw [if_pos (Or.inl a1)] at hb
    exact hnx hb.symm
  | true =>
    refine ixM_ok h0 h1 hN ?_
    cases a2 : memP (W.op k) with
    | false =>
      rw [if_pos (Or.inr (Or.inl a2))] at hb
      exact hnx hb.symm
    | true =>
      by_cases a3 : gr8 (W.nm.addr n (k : Nat) r.nm).1 = gr8 my
      · rw [if_neg (fun h => h.elim (fun h => by rw [a1] at h; cases h) fun h => h.elim (fun h => by rw [a2] at h; cases h) fun h => h a3)] at hb
        rw [beq_iff_eq.2 a3]
        refine ixM_ok h0 h1 hN (ixM_ok h0 h1 hN ?_)
        have fin : (W.done k = false → ¬ (W.op k ≠ 29 ∧ W.op k ≠ 32) → p = if (W.nm.inp n (k : Nat) r.nm).2 = false then (0, false) else (((k : Nat) : Int), true)) → W.done k = false → ¬ (W.op k ≠ 29 ∧ W.op k ≠ 32) → fitM n N (Br (!(W.nm.inp n (k : Nat) r.nm).2) ex rt) := by
          intro h hd ho
          have h := h hd ho
          refine fitM_ok hN hn ?_
          cases a4 : (W.nm.inp n (k : Nat) r.nm).2 with
          | false => rw [if_pos a4] at h; exact hex h
          | true => rw [if_neg (by rw [a4]; simp)] at h; exact hrt h
        have stop : (W.done k = true → loadP (W.op k) = false) → ixM (k : Nat) n N (Br (W.done k) ex (Br (W.op k != 29) (Br (W.op k != 32) ex (fitM n N (Br (!(W.nm.inp n (k : Nat) r.nm).2) ex rt))) (fitM n N (Br (!(W.nm.inp n (k : Nat) r.nm).2) ex rt)))) := by
          intro hl
          refine ixM_ok h0 h1 hN ?_
          rw [if_neg (fun h => by have := hl h.1; rw [this] at h; cases h.2)] at hb
          cases a4 : W.done k with
          | true => rw [if_pos (Or.inl a4)] at hb; exact hex hb
          | false =>
            by_cases a5 : W.op k = 29
            · rw [show (W.op k != 29) = false by rw [a5]; rfl]
              refine fin (fun _ ho => ?_) a4 (fun h => h.1 a5)
              rw [if_neg (fun h => h.elim (fun h => by rw [a4] at h; cases h) ho)] at hb
              exact hb
            · rw [bne_iff_ne.2 a5]
              by_cases a6 : W.op k = 32
              · rw [show (W.op k != 32) = false by rw [a6]; rfl]
                refine fin (fun _ ho => ?_) a4 (fun h => h.2 a6)
                rw [if_neg (fun h => h.elim (fun h => by rw [a4] at h; cases h) ho)] at hb
                exact hb
              · rw [bne_iff_ne.2 a6]
                rw [if_pos (Or.inr ⟨a5, a6⟩)] at hb
                exact hex hb
        cases a4 : W.done k with
        | false =>
          have := stop (fun h => by rw [a4] at h; cases h)
          rw [a4] at this
          exact this
        | true =>
          cases a5 : loadP (W.op k) with
          | true =>
            rw [if_pos ⟨a4, a5⟩] at hb
            exact hnx hb.symm
          | false =>
            have := stop (fun _ => a5)
            rw [a4] at this
            exact this
      · rw [if_pos (Or.inr (Or.inr a3))] at hb
        rw [beq_eq_false_iff_ne.2 a3]
        exact hnx hb.symm
section
variable (W : WinC) (n N cap : Nat) (t : TypeId) (r : RegsF) (my : Int) (b : Bool)
abbrev KFw (p : Int × Bool) : Ex → St → Prop := ctxK Try.prog 1 p1 (codeOf Try.prog 8) (bodyK False Try.prog (funcOf Try.prog 8) (rK fun v => v = iR p))
theorem fwd_end (q : Int) (p : Int × Bool) (h : p = (0, false)) : KFw p (.exit 1) (SF W n N cap t r my b q 0 false) := by
  unfold KFw
  rw [fwd_after]
  refine CodeB.of (evG_ok EW_ok names mixed (n := 40) ?_)
  have hp := fwd_post W n N cap t r my b q fun v => v = iR p
  refine hp.mpr ?_
  rw [h]
theorem fwd_loop (p : Int × Bool) (hN : n ≤ N) (hn : n ≤ 1000000) (k : Nat) (hk : k ≤ n) (hp : W.nm.fback n r my k = p) (K0 : Ex → St → Prop) (hend : ∀ q, p = (0, false) → K0 (.exit 1) (SF W n N cap t r my b q 0 false)) (hret : ∀ q, p = (q, true) → K0 .ret (SF W n N cap t r my b q q true)) :
    evG Try.prog EW 40 (lft (subAt p1 (codeOf Try.prog 8))) (SF W n N cap t r my b ((k : Int) - 1) 0 false) fun e st => RK 1 (fun k : Nat => SF W n N cap t r my b ((k : Int) - 1) 0 false) (fun k => k ≤ n ∧ W.nm.fback n r my k = p) (fun k => k) k K0 e (gcSt 1 live st) := by
  have he := fwd_body W n N cap t r my b ((k : Int) - 1) (RK 1 (fun k : Nat => SF W n N cap t r my b ((k : Int) - 1) 0 false) (fun k => k ≤ n ∧ W.nm.fback n r my k = p) (fun k => k) k K0)
  refine he.mpr ?_
  cases k with
  | zero => exact fwdB_end (by decide) (hend _ hp.symm)
  | succ k =>
    have e0 : ((k + 1 : Nat) : Int) - 1 = (k : Int) := by omega
    have c5 : IntKind.i64.wrap ((k : Int) - 1) = (k : Int) - 1 := wrap_i64_in (by omega) (by omega)
    have c6 : ((k : Int)).toNat + 0 = k := rfl
    rw [e0, c5, c6]
    exact fwdB_ok hN hn (by omega) hp (fun h => RK.go (y := k) rfl ⟨by omega, h⟩ (by omega)) (fun h => hend _ h) fun h => hret _ h
theorem fwd_call (i : Int) (hN : n ≤ N) (hn : n ≤ 1000000) : CallOk Try.prog 8 [.sle 0 46 0 n cap, .raw (.int .i64 i), r.v] [.arr .ro W.cols N t] fun q _ => q = .ret (iR (W.nm.fwd n i r)) := by
  refine CallOk.mono (K := rK fun v => v = iR (W.nm.fwd n i r)) (CallOk.fnB names (by kernel_rfl) ?_) rK_ok
  refine evTo_ok EW_ok names mixed (n := 40) (b := 1) (Z := fun st => ∃ (my : Int) (b : Bool) (k : Nat), k ≤ n ∧ W.nm.fback n r my k = W.nm.fwd n i r ∧ gcSt 1 live st = SF W n N cap t r my b ((k : Int) - 1) 0 false) p1 _ _ _ (fun st hz => ?_) ?_
  · obtain ⟨my, b, k, hk, hv, hz⟩ := hz
    exact CodeB.lop (by kernel_rfl) (LoopB.byE EW_ok names mixed (N := 40) (fun k : Nat => SF W n N cap t r my b ((k : Int) - 1) 0 false) (fun k => k ≤ n ∧ W.nm.fback n r my k = W.nm.fwd n i r) (fun k => k) live
      (fun x hx => fwd_loop W n N cap t r my b _ hN hn x hx.1 hx.2 _ (fun q h => fwd_end W n N cap t r my b q _ h) fun q h => (fwd_ret W n N cap t r my b q q true fun v => v = iR (W.nm.fwd n i r)).mpr (by rw [h]))
      st k (by have h := gc_tells 1 live st; rw [hz] at h; exact h) ⟨hk, hv⟩)
  · have hp := fwd_pre W n N cap t i r (fun v => v = iR (W.nm.fwd n i r)) fun st => ∃ (my : Int) (b : Bool) (k : Nat), k ≤ n ∧ W.nm.fback n r my k = W.nm.fwd n i r ∧ st = SF W n N cap t r my b ((k : Int) - 1) 0 false
    refine hp.mpr ?_
    unfold fwdM
    refine fitM_ok hN hn ?_
    cases a1 : (W.nm.addr n i r.nm).2 with
    | false =>
      have e : W.nm.fwd n i r = (0, false) := if_pos a1
      rw [e]; rfl
    | true =>
      have hi : 0 ≤ i ∧ i < n := by
        have a1' := a1
        unfold WinC.addr at a1'
        by_cases h : (0 ≤ i ∧ i < n) ∧ W.nm.chk i.toNat = 0 ∧ touP (W.nm.op i.toNat) = true
        · exact h.1
        · rw [if_neg h] at a1'; cases a1'
      refine ixM_ok hi.1 hi.2 hN ?_
      obtain ⟨k, rfl⟩ := Int.eq_ofNat_of_zero_le hi.1
      have c5 : IntKind.i64.wrap ((k : Int) - 1) = (k : Int) - 1 := wrap_i64_in (by omega) (by omega)
      have c6 : ((k : Int)).toNat + 0 = k := rfl
      have c7 : ((k : Int)).toNat = k := rfl
      have e : W.nm.fwd n (k : Nat) r = if W.op k = 30 ∨ ((W.op k = 28 ∨ W.op k = 31) ∧ (W.nm.addr n (k : Nat) r.nm).1.tmod 8 = 0) then W.nm.fback n r (W.nm.addr n (k : Nat) r.nm).1 k else (0, false) := by
        unfold WinC.fwd
        rw [if_neg (by rw [a1]; simp)]; rfl
      rw [c6, c5]
      have go : (W.op k = 30 ∨ ((W.op k = 28 ∨ W.op k = 31) ∧ (W.nm.addr n (k : Nat) r.nm).1.tmod 8 = 0)) → ∃ (my : Int) (b : Bool) (k' : Nat), k' ≤ n ∧ W.nm.fback n r my k' = W.nm.fwd n (k : Nat) r ∧ SF W n N cap t r (W.nm.addr n (k : Nat) r.nm).1 true ((k : Int) - 1) 0 false = SF W n N cap t r my b ((k' : Int) - 1) 0 false := fun h =>
        ⟨(W.nm.addr n (k : Nat) r.nm).1, true, k, by omega, by rw [e, if_pos h], rfl⟩
      have no : ¬ (W.op k = 30 ∨ ((W.op k = 28 ∨ W.op k = 31) ∧ (W.nm.addr n (k : Nat) r.nm).1.tmod 8 = 0)) → iR (0, false) = iR (W.nm.fwd n (k : Nat) r) := fun h => by rw [e, if_neg h]
      by_cases o1 : W.op k = 30
      · rw [beq_iff_eq.2 o1]; exact go (Or.inl o1)
      · rw [beq_eq_false_iff_ne.2 o1]
        by_cases m : (W.nm.addr n (k : Nat) r.nm).1.tmod 8 = 0
        · rw [show ((W.nm.addr n (k : Nat) r.nm).1.tmod 8 != 0) = false by rw [m]; rfl]
          by_cases o2 : W.op k = 28
          · rw [beq_iff_eq.2 o2]; exact go (Or.inr ⟨Or.inl o2, m⟩)
          · rw [beq_eq_false_iff_ne.2 o2]
            by_cases o3 : W.op k = 31
            · rw [beq_iff_eq.2 o3]; exact go (Or.inr ⟨Or.inr o3, m⟩)
            · rw [beq_eq_false_iff_ne.2 o3]; exact no (fun h => h.elim o1 fun h => h.1.elim o2 o3)
        · rw [bne_iff_ne.2 m]
          have : iR (0, false) = iR (W.nm.fwd n (k : Nat) r) := no (fun h => h.elim o1 fun h => m h.2)
          by_cases o2 : W.op k = 28
          · rw [beq_iff_eq.2 o2]; exact this
          · rw [beq_eq_false_iff_ne.2 o2]
            by_cases o3 : W.op k = 31
            · rw [beq_iff_eq.2 o3]; exact this
            · rw [beq_eq_false_iff_ne.2 o3]; exact this
end
def fwdA : List V → Sto → Option Ans
  | [w, .raw (.int .i64 i), r], s => match atWin w s, readR r with
    | some (W, n, N), some r => some (fits n N (.one (.ret (iR (W.fwd n i r))) s))
    | _, _ => none
  | _, _ => none
theorem fwdA_ok {E : Eh} (hE : EOk Try.prog E) : EOk Try.prog (addE 8 fwdA E) := by
  refine addE_ok hE fun args s a h hf => ?_
  unfold fwdA at h
  split at h
  · split at h
    · rename_i W n N r hw hr
      cases h
      rw [readR_eq hr]
      refine fits_call hf fun h1 h2 _ => atWin_call hw ⟨trivial, r.v_bd 0, trivial⟩ ⟨trivial, trivial, trivial⟩ fun cap t => ?_
      have := fwd_call W n N cap t r ‹Int› h1 h2
      rw [atWin_nm hw] at this
      exact this
    · cases h
  · cases h
end Go.Proofs.Ytllfmafebhifdaa.win
end
