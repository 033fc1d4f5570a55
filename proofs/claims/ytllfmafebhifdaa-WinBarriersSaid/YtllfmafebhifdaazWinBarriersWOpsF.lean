/- Parts of the proof, one behind the other. -/
import Derived.Test.YtllfmafebhifdaazWinBarriersWVal
section
/- Windows: columns read. -/
set_option linter.unusedVariables false
namespace Go.Proofs.Ytllfmafebhifdaa.win
open Go Go.Proofs Go.Proofs.YtllfmafebhifdaaRL Go.Proofs.Ytllfmafebhifdaa.isa
def readWinC : List Col → Option WinC
  | .int .u64 pc :: .int .i64 op :: .int .i64 d :: .int .i64 n :: .int .i64 m :: .int .i64 a :: .int .i64 c :: .int .i64 im :: .int .u64 next :: .bool done :: .int .u64 x0 :: .int .u64 x1 :: .int .u64 x2 :: .int .u64 x3 :: .int .u64 x4 :: .int .u64 x5 :: .int .u64 x6 :: .int .u64 x7 :: .int .u64 x8 :: .int .u64 x9 :: .int .u64 x10 :: .int .u64 x11 :: .int .u64 x12 :: .int .u64 x13 :: .int .u64 x14 :: .int .u64 x15 :: .int .u64 x16 :: .int .u64 x17 :: .int .u64 x18 :: .int .u64 x19 :: .int .u64 x20 :: .int .u64 x21 :: .int .u64 x22 :: .int .u64 x23 :: .int .u64 x24 :: .int .u64 x25 :: .int .u64 x26 :: .int .u64 x27 :: .int .u64 x28 :: .int .u64 x29 :: .int .u64 x30 :: .int .u64 x31 :: .bool nf :: .bool zf :: .bool cf :: .bool vf :: [] =>
    some ⟨pc, op, d, n, m, a, c, im, next, done, fun i => [x0, x1, x2, x3, x4, x5, x6, x7, x8, x9, x10, x11, x12, x13, x14, x15, x16, x17, x18, x19, x20, x21, x22, x23, x24, x25, x26, x27, x28, x29, x30, x31].getD i fun _ => 0, nf, zf, cf, vf⟩
  | _ => none
theorem readWinC_eq {cols : List Col} {W : WinC} (h : readWinC cols = some W) : cols = W.cols := by
  unfold readWinC at h
  split at h
  · cases h; rfl
  · cases h
end Go.Proofs.Ytllfmafebhifdaa.win
end
section
/- Chapter 9: tables' lines: In by length, Value. -/
set_option linter.unusedVariables false
set_option linter.unusedSimpArgs false
set_option maxRecDepth 100000
namespace Go.Proofs.Ytllfmafebhifdaa.win
open Go Go.Proofs Go.Proofs.YtllfmafebhifdaaRL Go.Proofs.Ytllfmafebhifdaa.isa
/-- a64.In, by how many there are. -/
def inB : List V → Sto → Option Ans
  | [u], s => match readIns u with
    | some (op, d, n, m, a, c, im) =>
      let raw := inRaw d n m a op.toNat
      let L := plainL raw
      let tail : Nat → Sto := fun q => s ++ [.no, .arr (.grow s.length) [.int .i64 (lc L)] q 3]
      some (.br (chkV op d n m a c im != 0 || raw.isEmpty) (.one (.ret (.raw (.slice none 0 0))) s)
        (.br (Nat.beq L.length 0) (.one (.ret (.lse (s.length + 1) s.length 1 0 0)) (tail 0))
        (.br (Nat.beq L.length 1) (.one (.ret (.lse (s.length + 1) s.length 1 0 1)) (tail 1))
        (.br (Nat.beq L.length 2) (.one (.ret (.lse (s.length + 1) s.length 1 0 2)) (tail 2))
        (.br (Nat.beq L.length 3) (.one (.ret (.lse (s.length + 1) s.length 1 0 3)) (tail 3)) .no)))))
    | none => none
  | _, _ => none
theorem byB {b : Nat → V} {n : Nat} {s : Nat → Sto} {r : Res} {s' : Sto} (hf : (Ans.br (Nat.beq n 0) (.one (.ret (b 0)) (s 0)) (.br (Nat.beq n 1) (.one (.ret (b 1)) (s 1)) (.br (Nat.beq n 2) (.one (.ret (b 2)) (s 2)) (.br (Nat.beq n 3) (.one (.ret (b 3)) (s 3)) .no)))).fine) (h : r = .ret (b n) ∧ s' = s n) :
    (Ans.br (Nat.beq n 0) (.one (.ret (b 0)) (s 0)) (.br (Nat.beq n 1) (.one (.ret (b 1)) (s 1)) (.br (Nat.beq n 2) (.one (.ret (b 2)) (s 2)) (.br (Nat.beq n 3) (.one (.ret (b 3)) (s 3)) .no)))).is r s' := by
  obtain ⟨rfl, rfl⟩ := h
  rcases hf with ⟨h0, _⟩ | ⟨h0, ⟨h1, _⟩ | ⟨h1, ⟨h2, _⟩ | ⟨h2, ⟨h3, _⟩ | ⟨_, h3⟩⟩⟩⟩
  · refine .inl ⟨h0, ?_⟩
    rw [Nat.eq_of_beq_eq_true h0]; exact ⟨rfl, rfl⟩
  · refine .inr ⟨h0, .inl ⟨h1, ?_⟩⟩
    rw [Nat.eq_of_beq_eq_true h1]; exact ⟨rfl, rfl⟩
  · refine .inr ⟨h0, .inr ⟨h1, .inl ⟨h2, ?_⟩⟩⟩
    rw [Nat.eq_of_beq_eq_true h2]; exact ⟨rfl, rfl⟩
  · refine .inr ⟨h0, .inr ⟨h1, .inr ⟨h2, .inl ⟨h3, ?_⟩⟩⟩⟩
    rw [Nat.eq_of_beq_eq_true h3]; exact ⟨rfl, rfl⟩
  · exact h3.elim
theorem inB_ok {E : Eh} (hE : EOk Try.prog E) : EOk Try.prog (addE 28 inB E) := by
  refine addE_ok hE fun args s a h hf => ?_
  unfold inB at h
  split at h
  · split at h
    · rename_i u op d n m a' c imm hr
      cases h
      rw [readIns_eq hr]
      refine (io_at (in_ok op d n m a' c imm) s).mono fun r s' hk => ?_
      rcases hk with ⟨hb, h⟩ | ⟨hb, h1, h2⟩
      · exact .inl ⟨hb, h⟩
      · rcases hf with ⟨hb', _⟩ | ⟨_, hf⟩
        · rw [hb] at hb'; cases hb'
        · exact .inr ⟨hb, byB (b := fun q => .lse (s.length + 1) s.length 1 0 q) (s := fun q => s ++ [.no, .arr (.grow s.length) [.int .i64 (lc (plainL (inRaw d n m a' op.toNat)))] q 3]) hf ⟨h1, h2⟩⟩
    · cases h
  · cases h
/-- A window among the arguments: its columns, how long it is. -/
def atWin (v : V) (s : Sto) : Option (WinC × Nat × Nat) := match v with
  | .sle i 46 0 n _ => match s[i]? with
    | some (.arr _ cols N _) => match readWinC cols with
      | some W => some (W, n, N)
      | none => none
    | _ => none
  | .lse i _ 46 0 n => match s[i]? with
    | some (.arr _ cols N _) => match readWinC cols with
      | some W => some (W, n, N)
      | none => none
    | _ => none
  | _ => none
theorem atWin_call {P : Program} {f : FuncId} {v : V} {rest : List V} {s : Sto} {W : WinC} {n N : Nat} {u : V} (hv : atWin v s = some (W, n, N)) (hr : bdL 0 rest) (hu : u.bd 0)
    (h : ∀ cap t, CallOk P f (.sle 0 46 0 n cap :: rest) [.arr .ro W.cols N t] fun r _ => r = .ret u) : CallOk P f (v :: rest) s fun r s' => r = .ret u ∧ s' = s := by
  have hren : ∀ i : Nat, renL (fun _ => i) rest = rest := fun i => renL_flat rest hr
  unfold atWin at hv
  split at hv
  · split at hv
    · rename_i i n' cap _ m cols N' t hi
      split at hv
      · rename_i W' hw
        cases hv
        have hcols := readWinC_eq hw
        subst hcols
        have := CallOk.reads1 (args0 := .sle 0 46 0 n cap :: rest) hi ⟨Nat.zero_lt_one, bdL_mono (Nat.zero_le _) _ hr⟩ hu (h cap t)
        simp only [renL, V.ren, hren] at this
        exact this
      · cases hv
    · cases hv
  · split at hv
    · rename_i i k n' _ m cols N' t hi
      split at hv
      · rename_i W' hw
        cases hv
        have hcols := readWinC_eq hw
        subst hcols
        refine CallOk.lse1 (a := []) fun cap => ?_
        have := CallOk.reads1 (args0 := .sle 0 46 0 n cap :: rest) hi ⟨Nat.zero_lt_one, bdL_mono (Nat.zero_le _) _ hr⟩ hu (h cap t)
        simp only [renL, V.ren, hren] at this
        exact this
      · cases hv
    · cases hv
  · cases hv
def fits (n N : Nat) (a : Ans) : Ans := .br (Nat.ble n N) (.br (Nat.ble n 1000000) a .no) .no
theorem fits_call {P : Program} {f : FuncId} {args : List V} {s : Sto} {n N : Nat} {a : Ans} (hf : (fits n N a).fine) (h : n ≤ N → n ≤ 1000000 → a.fine → CallOk P f args s fun r s' => a.is r s') : CallOk P f args s fun r s' => (fits n N a).is r s' := by
  rcases hf with ⟨h1, hf⟩ | ⟨_, hf⟩
  · rcases hf with ⟨h2, hf⟩ | ⟨_, hf⟩
    · exact (h (Nat.le_of_ble_eq_true h1) (Nat.le_of_ble_eq_true h2) hf).mono fun r s' hk => .inl ⟨h1, .inl ⟨h2, hk⟩⟩
    · exact hf.elim
  · exact hf.elim
def readR (v : V) : Option RegsF := match readRegs v with
  | some (x, nf, zf, cf, vf) => some ⟨x, nf, zf, cf, vf⟩
  | none => none
theorem readR_eq {v : V} {r : RegsF} (h : readR v = some r) : v = r.v := by
  unfold readR at h
  split at h
  · rename_i hq
    cases h
    exact readRegs_eq hq
  · cases h
theorem RegsF.v_bd (r : RegsF) (n : Nat) : r.v.bd n := bd_regs ..
def valA : List V → Sto → Option Ans
  | [w, .raw (.int .i64 i), r, .raw (.int .i64 reg)], s => match atWin w s, readR r with
    | some (W, n, N), some r => some (fits n N (.one (.ret (vR (W.val n i r reg))) s))
    | _, _ => none
  | _, _ => none
theorem valA_ok {E : Eh} (hE : EOk Try.prog E) : EOk Try.prog (addE 10 valA E) := by
  refine addE_ok hE fun args s a h hf => ?_
  unfold valA at h
  split at h
  · split at h
    · rename_i W n N r hw hr
      cases h
      rw [readR_eq hr]
      exact fits_call hf fun h1 h2 _ => atWin_call hw ⟨trivial, r.v_bd 0, trivial, trivial⟩ ⟨trivial, trivial, trivial⟩ fun cap t => val_call W n N cap t _ _ r h1 h2
    · cases h
  · cases h
end Go.Proofs.Ytllfmafebhifdaa.win
end
section
/- win.filled. -/
set_option linter.unusedVariables false
set_option linter.unusedSimpArgs false
set_option maxRecDepth 100000
namespace Go.Proofs.Ytllfmafebhifdaa.win
open Go Go.Proofs Go.Proofs.YtllfmafebhifdaaRL Go.Proofs.Ytllfmafebhifdaa.isa
def WinC.nm (W : WinC) : WinC := { W with x := fun i => ((List.range 32).map W.x).getD i fun _ => 0 }
def RegsF.nm (r : RegsF) : RegsF := ⟨norm r.x, r.nf, r.zf, r.cf, r.vf⟩
def zeroR : RegsF := ⟨fun _ => 0, false, false, false, false⟩
def rb (r : RegsF) (b : Bool) : V := .tup [r.v, .raw (.bool b)]
/-- Registers with some of them as an instruction reads them. -/
def fillF (W : WinC) (n : Nat) (i : Int) (base : RegsF) : RegsF → List Int → RegsF × Bool
  | out, [] => (out, decide (0 ≤ i) && decide (i < n))
  | out, reg :: l => match (W.val n i base reg).2 with
    | true => fillF W n i base (letW out.nm reg (W.val n i base reg).1) l
    | false => (zeroR, false)
def fillM (W : WinC) (n N : Nat) (i : Int) (base : RegsF) (K : V → Prop) : RegsF → List Int → Prop
  | out, [] => Br (decide (i ≥ 0)) (K (rb out (decide (i < n)))) (K (rb out false))
  | out, reg :: l => Br (Nat.ble n N) (Br (Nat.ble n 1000000) (Br (!(W.val n i base reg).2) (K (rb zeroR false)) (fillM W n N i base K (letW out.nm reg (W.val n i base reg).1) l)) False) False
noncomputable def EF : Eh := addE 10 valA (specE 37 letWG noE)
theorem EF_ok : EOk Try.prog EF := valA_ok (letWG_ok noE_ok)
theorem fill_eq0 (W : WinC) (n N cap : Nat) (t : TypeId) (i : Int) (r : RegsF) (g : Nat → Int) (M cap' : Nat) (t' : TypeId) (K : V → Prop) : callG Try.prog EF 100 23 [.sle 0 46 0 n cap, .raw (.int .i64 i), r.v, .sle 1 1 0 0 cap'] [.arr .ro W.cols N t, .arr .ro [.int .i64 g] M t'] (rK K) = fillM W.nm n N i r.nm K r [] := by kernel_rfl
theorem fill_eqn (W : WinC) (n N cap : Nat) (t : TypeId) (i : Int) (r : RegsF) (K : V → Prop) : callG Try.prog EF 100 23 [.sle 0 46 0 n cap, .raw (.int .i64 i), r.v, .raw (.slice none 0 0)] [.arr .ro W.cols N t] (rK K) = fillM W.nm n N i r.nm K r [] := by kernel_rfl
theorem fill_eq1 (W : WinC) (n N cap : Nat) (t : TypeId) (i : Int) (r : RegsF) (g : Nat → Int) (cap' : Nat) (t' : TypeId) (K : V → Prop) : callG Try.prog EF 100 23 [.sle 0 46 0 n cap, .raw (.int .i64 i), r.v, .sle 1 1 0 1 cap'] [.arr .ro W.cols N t, .arr .ro [.int .i64 g] 1 t'] (rK K) = fillM W.nm n N i r.nm K r [g 0] := by kernel_rfl
theorem fill_eq2 (W : WinC) (n N cap : Nat) (t : TypeId) (i : Int) (r : RegsF) (g : Nat → Int) (cap' : Nat) (t' : TypeId) (K : V → Prop) : callG Try.prog EF 100 23 [.sle 0 46 0 n cap, .raw (.int .i64 i), r.v, .sle 1 1 0 2 cap'] [.arr .ro W.cols N t, .arr .ro [.int .i64 g] 2 t'] (rK K) = fillM W.nm n N i r.nm K r [g 0, g 1] := by kernel_rfl
theorem fill_eq3 (W : WinC) (n N cap : Nat) (t : TypeId) (i : Int) (r : RegsF) (g : Nat → Int) (cap' : Nat) (t' : TypeId) (K : V → Prop) : callG Try.prog EF 100 23 [.sle 0 46 0 n cap, .raw (.int .i64 i), r.v, .sle 1 1 0 3 cap'] [.arr .ro W.cols N t, .arr .ro [.int .i64 g] 3 t'] (rK K) = fillM W.nm n N i r.nm K r [g 0, g 1, g 2] := by kernel_rfl
end Go.Proofs.Ytllfmafebhifdaa.win
end
section
/- win.filled as a table's line. -/
set_option linter.unusedVariables false
set_option linter.unusedSimpArgs false
set_option maxRecDepth 100000
namespace Go.Proofs.Ytllfmafebhifdaa.win
open Go Go.Proofs Go.Proofs.YtllfmafebhifdaaRL Go.Proofs.Ytllfmafebhifdaa.isa
theorem fill_rq1 (W : WinC) (n N cap : Nat) (t : TypeId) (i : Int) (r : RegsF) (a : Int) (cap' : Nat) (K : V → Prop) : callG Try.prog EF 100 23 [.sle 0 46 0 n cap, .raw (.int .i64 i), r.v, .sl 1 0 1 cap'] [.arr .ro W.cols N t, .ro [.raw (.int .i64 a)]] (rK K) = fillM W.nm n N i r.nm K r [a] := by kernel_rfl
theorem fill_rq2 (W : WinC) (n N cap : Nat) (t : TypeId) (i : Int) (r : RegsF) (a b : Int) (cap' : Nat) (K : V → Prop) : callG Try.prog EF 100 23 [.sle 0 46 0 n cap, .raw (.int .i64 i), r.v, .sl 1 0 2 cap'] [.arr .ro W.cols N t, .ro [.raw (.int .i64 a), .raw (.int .i64 b)]] (rK K) = fillM W.nm n N i r.nm K r [a, b] := by kernel_rfl
def rbP (p : RegsF × Bool) : V := rb p.1 p.2
theorem fillM_ok {W : WinC} {n N : Nat} {i : Int} {base : RegsF} (hN : n ≤ N) (hn : n ≤ 1000000) : ∀ (l : List Int) (out : RegsF), fillM W n N i base (fun v => v = rbP (fillF W n i base out l)) out l
  | [], out => by
    show Br (decide (i ≥ 0)) (rb out (decide (i < n)) = rb out (decide (0 ≤ i) && decide (i < n))) (rb out false = rb out (decide (0 ≤ i) && decide (i < n)))
    by_cases h : 0 ≤ i
    · rw [decide_eq_true (show i ≥ 0 from h)]; rfl
    · rw [decide_eq_false (show ¬ i ≥ 0 from h)]; rfl
  | reg :: l, out => by
    show Br (Nat.ble n N) (Br (Nat.ble n 1000000) (Br (!(W.val n i base reg).2) (rb zeroR false = rbP (fillF W n i base out (reg :: l))) (fillM W n N i base (fun v => v = rbP (fillF W n i base out (reg :: l))) (letW out.nm reg (W.val n i base reg).1) l)) False) False
    rw [Nat.ble_eq_true_of_le hN, Nat.ble_eq_true_of_le hn]
    cases h : (W.val n i base reg).2
    · have e : fillF W n i base out (reg :: l) = (zeroR, false) := by rw [fillF, h]
      rw [e]; rfl
    · have e : fillF W n i base out (reg :: l) = fillF W n i base (letW out.nm reg (W.val n i base reg).1) l := by rw [fillF, h]
      rw [e]
      exact fillM_ok hN hn l _
/-- Places of a window and of a row of registers. -/
def at2 (a b : Nat × Nat) : Rho := fun i => match i with
  | 0 => a
  | _ => b
theorem repE_ro_idx {ρ ρ' : Rho} {w : World} {i i' : Nat} {vs : List V} (h : ρ' i' = ρ i) (hv : bdL 0 vs) (hr : RepE ρ w i (.ro vs)) : RepE ρ' w i' (.ro vs) := by
  refine ⟨by rw [h]; exact hr.1, fun j v hj => ?_⟩
  rw [h, V.abs_congr (ρ := ρ) (n := 0) (fun i hi => absurd hi (Nat.not_lt_zero i)) v (bdL_iff.1 hv v (List.mem_of_getElem? hj))]
  exact hr.2 j v hj
theorem repE_arr_idx {ρ ρ' : Rho} {w : World} {i i' : Nat} {cols : List Col} {N : Nat} {t : TypeId} (h : ρ' i' = ρ i) (hr : RepE ρ w i (.arr .ro cols N t)) : RepE ρ' w i' (.arr .ro cols N t) := by
  simp only [RepE] at hr ⊢
  rw [h]
  exact hr
theorem rep_two {ρ : Rho} {w : World} {e1 e2 : Ent} (h1 : RepE ρ w 0 e1) (h2 : RepE ρ w 1 e2) (o1 : e1.isOwn = false) (o2 : e2.isOwn = false) : Rep ρ [e1, e2] w := by
  refine ⟨fun j e he => ?_, fun a b e f ha _ ho => ?_⟩
  · match j, he with
    | 0, he => simp at he; subst he; exact h1
    | 1, he => simp at he; subst he; exact h2
    | j + 2, he => simp at he
  · match a, ha with
    | 0, ha => simp at ha; subst ha; rw [o1] at ho; cases ho
    | 1, ha => simp at ha; subst ha; rw [o2] at ho; cases ho
    | a + 2, ha => simp at ha
theorem sbd_two {e1 e2 : Ent} (h1 : e1.bd 2) (h2 : e2.bd 2) : sbd [e1, e2] := by
  intro j e he
  match j, he with
  | 0, he => simp at he; subst he; exact h1
  | 1, he => simp at he; subst he; exact h2
  | j + 2, he => simp at he
theorem own_two {e1 e2 : Ent} (o1 : e1.isOwn = false) (o2 : e2.isOwn = false) : ∀ (i : Nat) e, [e1, e2][i]? = some e → e.isOwn = false := by
  intro j e he
  match j, he with
  | 0, he => simp at he; subst he; exact o1
  | 1, he => simp at he; subst he; exact o2
  | j + 2, he => simp at he
theorem arr_ro {ρ : Rho} {s : Sto} {w : World} {i : Nat} {m : AM} {cols : List Col} {N : Nat} {t : TypeId} (hr : Rep ρ s w) (hi : s[i]? = some (.arr m cols N t)) : RepE ρ w i (.arr .ro cols N t) := by
  have := hr.toRo.ent i (.arr .ro cols N t) (by simp only [roS, List.getElem?_map, hi]; rfl)
  exact this
/-- What a window's value is at a place. -/
theorem atWin_abs {v : V} {s : Sto} {W : WinC} {n N : Nat} (hv : atWin v s = some (W, n, N)) : ∃ i m t, s[i]? = some (.arr m W.cols N t) ∧ ∀ (ρ ρ0 : Rho), ρ0 0 = ρ i → ∃ cap, v.abs ρ = (V.sle 0 46 0 n cap).abs ρ0 := by
  unfold atWin at hv
  split at hv
  · split at hv
    · rename_i i n' cap _ m cols N' t hi
      split at hv
      · rename_i W' hw
        cases hv
        have hcols := readWinC_eq hw
        subst hcols
        exact ⟨i, m, t, hi, fun ρ ρ0 h => ⟨cap, by simp only [V.abs, h]⟩⟩
      · cases hv
    · cases hv
  · split at hv
    · rename_i i k n' _ m cols N' t hi
      split at hv
      · rename_i W' hw
        cases hv
        have hcols := readWinC_eq hw
        subst hcols
        exact ⟨i, m, t, hi, fun ρ ρ0 h => ⟨(ρ k).1 - 0, by simp only [V.abs, h]⟩⟩
      · cases hv
    · cases hv
  · cases hv
theorem readWinC_nm {cols : List Col} {W : WinC} (h : readWinC cols = some W) : W.nm = W := by
  unfold readWinC at h
  split at h
  · cases h; rfl
  · cases h
theorem atWin_nm {v : V} {s : Sto} {W : WinC} {n N : Nat} (hv : atWin v s = some (W, n, N)) : W.nm = W := by
  unfold atWin at hv
  split at hv
  · split at hv
    · split at hv
      · rename_i hw
        cases hv
        exact readWinC_nm hw
      · cases hv
    · cases hv
  · split at hv
    · split at hv
      · rename_i hw
        cases hv
        exact readWinC_nm hw
      · cases hv
    · cases hv
  · cases hv
/-- A row of registers: few. -/
def rowOf (v : V) (s : Sto) : Option (List Int) := match v with
  | .raw (.slice none 0 0) => some []
  | .lse j _ 1 0 q => match s[j]? with
    | some (.arr _ [.int .i64 g] M _) => match Nat.beq q M with
      | true => match q with
        | 0 => some []
        | 1 => some [g 0]
        | 2 => some [g 0, g 1]
        | 3 => some [g 0, g 1, g 2]
        | _ => none
      | false => none
    | _ => none
  | .sl j o 1 _ => match cellsAt s j o with
    | .raw (.int .i64 a) :: _ => some [a]
    | _ => none
  | .sl j o 2 _ => match cellsAt s j o with
    | .raw (.int .i64 a) :: .raw (.int .i64 b) :: _ => some [a, b]
    | _ => none
  | .lst j _ o _ 2 => match cellsAt s j o with
    | .raw (.int .i64 a) :: .raw (.int .i64 b) :: _ => some [a, b]
    | _ => none
  | _ => none
theorem fill_small {f : FuncId} {args : List V} {s : Sto} {W : WinC} {n N : Nat} {i : Int} {r : RegsF} {l : List Int} (hN : n ≤ N) (hn : n ≤ 1000000) (h : ∀ K, callG Try.prog EF 100 f args s (rK K) = fillM W.nm n N i r.nm K r l) : CallOk Try.prog f args s fun q _ => q = .ret (rbP (fillF W.nm n i r.nm r l)) := by
  refine (callG_ok EF_ok names mixed (n := 100) (K := rK fun v => v = rbP (fillF W.nm n i r.nm r l)) ?_).mono rK_ok
  exact (h _).mpr (fillM_ok hN hn l r)
theorem rbP_bd (p : RegsF × Bool) : (rbP p).bd 0 := ⟨p.1.v_bd 0, trivial, trivial⟩
theorem fill_at {v rs : V} {s : Sto} {W : WinC} {n N : Nat} {i : Int} {r : RegsF} {l : List Int} (hw : atWin v s = some (W, n, N)) (hl : rowOf rs s = some l) (hN : n ≤ N) (hn : n ≤ 1000000) :
    CallOk Try.prog 23 [v, .raw (.int .i64 i), r.v, rs] s fun q s' => q = .ret (rbP (fillF W.nm n i r.nm r l)) ∧ s' = s := by
  obtain ⟨iw, m, t, hi, hab⟩ := atWin_abs hw
  have hplain := (fill_small (f := 23) hN hn fun K => fill_eqn W n N 0 t i r K).plain
  have hR : ∀ (ρ ρ0 : Rho), r.v.abs ρ = r.v.abs ρ0 := fun ρ ρ0 => V.abs_congr (n := 0) (fun i hi => absurd hi (Nat.not_lt_zero i)) _ (r.v_bd 0)
  have fin : ∀ (ρ : Rho) (w : World) (e2 : Ent) (b : Nat × Nat) (q : Nat → V), Rep ρ s w → RepE (at2 (ρ iw) b) w 1 e2 → e2.isOwn = false → e2.bd 2 → (∀ cap, (q cap).bd 2) → (∃ c, rs.abs ρ = (q c).abs (at2 (ρ iw) b)) →
      (∀ cap c, CallOk Try.prog 23 [.sle 0 46 0 n cap, .raw (.int .i64 i), r.v, q c] [.arr .ro W.cols N t, e2] fun q _ => q = .ret (rbP (fillF W.nm n i r.nm r l))) →
      ∃ ρ0 args0 s0, absL ρ [v, .raw (.int .i64 i), r.v, rs] = absL ρ0 args0 ∧ Rep ρ0 s0 w ∧ sbd s0 ∧ bdL s0.length args0 ∧ (∀ (i : Nat) e, s0[i]? = some e → e.isOwn = false) ∧ CallOk Try.prog 23 args0 s0 fun q _ => q = .ret (rbP (fillF W.nm n i r.nm r l)) := by
    intro ρ w e2 b q hr h2 ho hb hq ⟨c, hc⟩ hcall
    obtain ⟨cap, hcap⟩ := hab ρ (at2 (ρ iw) b) rfl
    refine ⟨at2 (ρ iw) b, [.sle 0 46 0 n cap, .raw (.int .i64 i), r.v, q c], [.arr .ro W.cols N t, e2], ?_, rep_two (repE_arr_idx (ρ := ρ) (i := iw) rfl (arr_ro hr hi)) h2 rfl ho, sbd_two trivial hb, ⟨show 0 < 2 by decide, trivial, r.v_bd _, hq c, trivial⟩, own_two rfl ho, hcall cap c⟩
    simp only [absL, hcap, hc, hR ρ (at2 (ρ iw) b)]
    rfl
  refine CallOk.reads (rbP_bd _) hplain fun ρ w hr hs => ?_
  unfold rowOf at hl
  split at hl
  · cases hl
    obtain ⟨cap, hcap⟩ := hab ρ (at2 (ρ iw) (0, 0)) rfl
    refine ⟨at2 (ρ iw) (0, 0), [.sle 0 46 0 n cap, .raw (.int .i64 i), r.v, .raw (.slice none 0 0)], [.arr .ro W.cols N t], ?_, ⟨fun j e he => ?_, fun a b e f ha _ ho => ?_⟩, fun j e he => ?_, ⟨show 0 < 1 by decide, trivial, r.v_bd _, trivial, trivial⟩, fun j e he => ?_, fill_small hN hn fun K => fill_eqn W n N cap t i r K⟩
    · simp only [absL, hcap, hR ρ (at2 (ρ iw) (0, 0))]
      rfl
    · cases j with
      | zero => simp at he; subst he; exact repE_arr_idx (ρ := ρ) (i := iw) rfl (arr_ro hr hi)
      | succ j => simp at he
    · cases a with
      | zero => simp at ha; subst ha; cases ho
      | succ a => simp at ha
    · cases j with
      | zero => simp at he; subst he; trivial
      | succ j => simp at he
    · cases j with
      | zero => simp at he; subst he; rfl
      | succ j => simp at he
  · split at hl
    · rename_i j k q _ m' g M t' hj
      split at hl
      · rename_i hM
        have hM := Nat.eq_of_beq_eq_true hM
        subst hM
        have go : (∀ cap c, CallOk Try.prog 23 [.sle 0 46 0 n cap, .raw (.int .i64 i), r.v, .sle 1 1 0 q c] [.arr .ro W.cols N t, .arr .ro [.int .i64 g] q t'] fun q _ => q = .ret (rbP (fillF W.nm n i r.nm r l))) → _ :=
          fin ρ w (.arr .ro [.int .i64 g] q t') (ρ j) (fun c => .sle 1 1 0 q c) hr (repE_arr_idx (ρ := ρ) (i := j) rfl (arr_ro hr hj)) rfl trivial (fun _ => show 1 < 2 by decide) ⟨(ρ k).1 - 0, by simp only [V.abs]; rfl⟩
        split at hl
        · cases hl; exact go fun cap c => fill_small hN hn fun K => fill_eq0 W n N cap t i r g 0 c t' K
        · cases hl; exact go fun cap c => fill_small hN hn fun K => fill_eq1 W n N cap t i r g c t' K
        · cases hl; exact go fun cap c => fill_small hN hn fun K => fill_eq2 W n N cap t i r g c t' K
        · cases hl; exact go fun cap c => fill_small hN hn fun K => fill_eq3 W n N cap t i r g c t' K
        · cases hl
      · cases hl
    · cases hl
  · split at hl
    · rename_i j o cap0 _ a rest hc
      cases hl
      obtain ⟨h1, h2⟩ := cellsAt_ro (vs := [.raw (.int .i64 a)]) hc (by simp) ⟨trivial, trivial⟩ hr
      refine fin ρ w (.ro [.raw (.int .i64 a)]) ((ρ j).1, (ρ j).2 + o) (fun c => .sl 1 0 1 c) hr (repE_ro_idx (ρ := fun _ => ((ρ j).1, (ρ j).2 + o)) (i := 0) rfl ⟨trivial, trivial⟩ (h1.ent 0 _ rfl)) rfl ⟨trivial, trivial⟩ (fun _ => show 1 < 2 by decide) ⟨cap0, by simp only [V.abs]; rfl⟩ fun cap c => fill_small hN hn fun K => fill_rq1 W n N cap t i r a c K
    · cases hl
  · split at hl
    · rename_i j o cap0 _ a b rest hc
      cases hl
      obtain ⟨h1, h2⟩ := cellsAt_ro (vs := [.raw (.int .i64 a), .raw (.int .i64 b)]) hc (by simp) ⟨trivial, trivial, trivial⟩ hr
      refine fin ρ w (.ro [.raw (.int .i64 a), .raw (.int .i64 b)]) ((ρ j).1, (ρ j).2 + o) (fun c => .sl 1 0 2 c) hr (repE_ro_idx (ρ := fun _ => ((ρ j).1, (ρ j).2 + o)) (i := 0) rfl ⟨trivial, trivial, trivial⟩ (h1.ent 0 _ rfl)) rfl ⟨trivial, trivial, trivial⟩ (fun _ => show 1 < 2 by decide) ⟨cap0, by simp only [V.abs]; rfl⟩ fun cap c => fill_small hN hn fun K => fill_rq2 W n N cap t i r a b c K
    · cases hl
  · split at hl
    · rename_i j k o e _ a b rest hc
      cases hl
      obtain ⟨h1, h2⟩ := cellsAt_ro (vs := [.raw (.int .i64 a), .raw (.int .i64 b)]) hc (by simp) ⟨trivial, trivial, trivial⟩ hr
      refine fin ρ w (.ro [.raw (.int .i64 a), .raw (.int .i64 b)]) ((ρ j).1, (ρ j).2 + o) (fun c => .sl 1 0 2 c) hr (repE_ro_idx (ρ := fun _ => ((ρ j).1, (ρ j).2 + o)) (i := 0) rfl ⟨trivial, trivial, trivial⟩ (h1.ent 0 _ rfl)) rfl ⟨trivial, trivial, trivial⟩ (fun _ => show 1 < 2 by decide) ⟨(ρ k).1 - e, by simp only [V.abs]; rfl⟩ fun cap c => fill_small hN hn fun K => fill_rq2 W n N cap t i r a b c K
    · cases hl
  · cases hl
def fillA : List V → Sto → Option Ans
  | [w, .raw (.int .i64 i), r, rs], s => match atWin w s, readR r, rowOf rs s with
    | some (W, n, N), some r, some l => some (fits n N (.one (.ret (rbP (fillF W n i r.nm r l))) s))
    | _, _, _ => none
  | _, _ => none
theorem fillA_ok {E : Eh} (hE : EOk Try.prog E) : EOk Try.prog (addE 23 fillA E) := by
  refine addE_ok hE fun args s a h hf => ?_
  unfold fillA at h
  split at h
  · split at h
    · rename_i W n N r l hw hr hl
      cases h
      rw [readR_eq hr]
      refine fits_call hf fun h1 h2 _ => ?_
      have := fill_at (i := ‹Int›) (r := r) hw hl h1 h2
      rw [atWin_nm hw] at this
      exact this
    · cases h
  · cases h
end Go.Proofs.Ytllfmafebhifdaa.win
end
section
/- formulas; printed by fm.py out of fm2.Ytllfmafebhifdaa.spec. -/
namespace Go.Proofs.Ytllfmafebhifdaa.opsF
open Go Go.Proofs Go.Proofs.YtllfmafebhifdaaRL  Go.Proofs.Ytllfmafebhifdaa.isa Go.Proofs.Ytllfmafebhifdaa.win
set_option linter.unusedVariables false
def mem_f (op : Int) (K : V → Prop) : Prop :=
(match decide (op ≥ 28) with
| true => K (V.raw (Value.bool (decide (op ≤ 36))))
| false => K (V.raw (Value.bool false)))
set_option maxRecDepth 1000000 in
theorem mem_eq (op : Int) (K : V → Prop) : callG Try.prog noE 100 17 [.raw (.int .i64 op)] [] (rK K) = mem_f op  K := by kernel_rfl
def load_f (op : Int) (K : V → Prop) : Prop :=
(match op == 28 with
| true => K (V.raw (Value.bool true))
| false => (match op == 30 with
 | true => K (V.raw (Value.bool true))
 | false => (match op == 31 with
  | true => K (V.raw (Value.bool true))
  | false => (match op == 33 with
   | true => K (V.raw (Value.bool true))
   | false => K (V.raw (Value.bool (op == 35)))))))
set_option maxRecDepth 1000000 in
theorem load_eq (op : Int) (K : V → Prop) : callG Try.prog noE 100 19 [.raw (.int .i64 op)] [] (rK K) = load_f op  K := by kernel_rfl
def store_f (op : Int) (K : V → Prop) : Prop :=
(match decide (op ≥ 28) with
| true => (match decide (op ≤ 36) with
 | true => (match op == 28 with
  | true => K (V.raw (Value.bool false))
  | false => (match op == 30 with
   | true => K (V.raw (Value.bool false))
   | false => (match op == 31 with
    | true => K (V.raw (Value.bool false))
    | false => (match op == 33 with
     | true => K (V.raw (Value.bool false))
     | false => K (V.raw (Value.bool !op == 35))))))
 | false => K (V.raw (Value.bool false)))
| false => K (V.raw (Value.bool false)))
set_option maxRecDepth 1000000 in
theorem store_eq (op : Int) (K : V → Prop) : callG Try.prog noE 100 31 [.raw (.int .i64 op)] [] (rK K) = store_f op  K := by kernel_rfl
def brn_f (op : Int) (K : V → Prop) : Prop :=
(match decide (op ≥ 20) with
| true => K (V.raw (Value.bool (decide (op ≤ 27))))
| false => K (V.raw (Value.bool false)))
set_option maxRecDepth 1000000 in
theorem brn_eq (op : Int) (K : V → Prop) : callG Try.prog noE 100 32 [.raw (.int .i64 op)] [] (rK K) = brn_f op  K := by kernel_rfl
def tou_f (op : Int) (K : V → Prop) : Prop :=
(match decide (op ≥ 28) with
| true => (match decide (op ≤ 36) with
 | true => K (V.raw (Value.bool true))
 | false => (match op == 40 with
  | true => K (V.raw (Value.bool true))
  | false => K (V.raw (Value.bool (op == 41)))))
| false => (match op == 40 with
 | true => K (V.raw (Value.bool true))
 | false => K (V.raw (Value.bool (op == 41)))))
set_option maxRecDepth 1000000 in
theorem tou_eq (op : Int) (K : V → Prop) : callG Try.prog noE 100 21 [.raw (.int .i64 op)] [] (rK K) = tou_f op  K := by kernel_rfl
def whr_f (op d n m a c im : Int) (K : V → Prop) : Prop :=
(match op == 4 with
| true => (match d == 31 with
 | true => (match op == 4 with
  | true => (match n == 31 with
   | true => K (V.tup [V.raw (Value.int IntKind.i64 32), V.raw (Value.int IntKind.i64 32)])
   | false => K (V.tup [V.raw (Value.int IntKind.i64 32), V.raw (Value.int IntKind.i64 n)]))
  | false => (match op == 5 with
   | true => (match n == 31 with
    | true => K (V.tup [V.raw (Value.int IntKind.i64 32), V.raw (Value.int IntKind.i64 32)])
    | false => K (V.tup [V.raw (Value.int IntKind.i64 32), V.raw (Value.int IntKind.i64 n)]))
   | false => (match op == 6 with
    | true => (match n == 31 with
     | true => K (V.tup [V.raw (Value.int IntKind.i64 32), V.raw (Value.int IntKind.i64 32)])
     | false => K (V.tup [V.raw (Value.int IntKind.i64 32), V.raw (Value.int IntKind.i64 n)]))
    | false => (match decide (op ≥ 28) with
     | true => (match decide (op ≤ 36) with
      | true => (match n == 31 with
       | true => K (V.tup [V.raw (Value.int IntKind.i64 32), V.raw (Value.int IntKind.i64 32)])
       | false => K (V.tup [V.raw (Value.int IntKind.i64 32), V.raw (Value.int IntKind.i64 n)]))
      | false => K (V.tup [V.raw (Value.int IntKind.i64 32), V.raw (Value.int IntKind.i64 n)]))
     | false => K (V.tup [V.raw (Value.int IntKind.i64 32), V.raw (Value.int IntKind.i64 n)])))))
 | false => (match op == 4 with
  | true => (match n == 31 with
   | true => K (V.tup [V.raw (Value.int IntKind.i64 d), V.raw (Value.int IntKind.i64 32)])
   | false => K (V.tup [V.raw (Value.int IntKind.i64 d), V.raw (Value.int IntKind.i64 n)]))
  | false => (match op == 5 with
   | true => (match n == 31 with
    | true => K (V.tup [V.raw (Value.int IntKind.i64 d), V.raw (Value.int IntKind.i64 32)])
    | false => K (V.tup [V.raw (Value.int IntKind.i64 d), V.raw (Value.int IntKind.i64 n)]))
   | false => (match op == 6 with
    | true => (match n == 31 with
     | true => K (V.tup [V.raw (Value.int IntKind.i64 d), V.raw (Value.int IntKind.i64 32)])
     | false => K (V.tup [V.raw (Value.int IntKind.i64 d), V.raw (Value.int IntKind.i64 n)]))
    | false => (match decide (op ≥ 28) with
     | true => (match decide (op ≤ 36) with
      | true => (match n == 31 with
       | true => K (V.tup [V.raw (Value.int IntKind.i64 d), V.raw (Value.int IntKind.i64 32)])
       | false => K (V.tup [V.raw (Value.int IntKind.i64 d), V.raw (Value.int IntKind.i64 n)]))
      | false => K (V.tup [V.raw (Value.int IntKind.i64 d), V.raw (Value.int IntKind.i64 n)]))
     | false => K (V.tup [V.raw (Value.int IntKind.i64 d), V.raw (Value.int IntKind.i64 n)]))))))
| false => (match op == 5 with
 | true => (match d == 31 with
  | true => (match op == 4 with
   | true => (match n == 31 with
    | true => K (V.tup [V.raw (Value.int IntKind.i64 32), V.raw (Value.int IntKind.i64 32)])
    | false => K (V.tup [V.raw (Value.int IntKind.i64 32), V.raw (Value.int IntKind.i64 n)]))
   | false => (match op == 5 with
    | true => (match n == 31 with
     | true => K (V.tup [V.raw (Value.int IntKind.i64 32), V.raw (Value.int IntKind.i64 32)])
     | false => K (V.tup [V.raw (Value.int IntKind.i64 32), V.raw (Value.int IntKind.i64 n)]))
    | false => (match op == 6 with
     | true => (match n == 31 with
      | true => K (V.tup [V.raw (Value.int IntKind.i64 32), V.raw (Value.int IntKind.i64 32)])
      | false => K (V.tup [V.raw (Value.int IntKind.i64 32), V.raw (Value.int IntKind.i64 n)]))
     | false => (match decide (op ≥ 28) with
      | true => (match decide (op ≤ 36) with
       | true => (match n == 31 with
        | true => K (V.tup [V.raw (Value.int IntKind.i64 32), V.raw (Value.int IntKind.i64 32)])
        | false => K (V.tup [V.raw (Value.int IntKind.i64 32), V.raw (Value.int IntKind.i64 n)]))
       | false => K (V.tup [V.raw (Value.int IntKind.i64 32), V.raw (Value.int IntKind.i64 n)]))
      | false => K (V.tup [V.raw (Value.int IntKind.i64 32), V.raw (Value.int IntKind.i64 n)])))))
  | false => (match op == 4 with
   | true => (match n == 31 with
    | true => K (V.tup [V.raw (Value.int IntKind.i64 d), V.raw (Value.int IntKind.i64 32)])
    | false => K (V.tup [V.raw (Value.int IntKind.i64 d), V.raw (Value.int IntKind.i64 n)]))
   | false => (match op == 5 with
    | true => (match n == 31 with
     | true => K (V.tup [V.raw (Value.int IntKind.i64 d), V.raw (Value.int IntKind.i64 32)])
     | false => K (V.tup [V.raw (Value.int IntKind.i64 d), V.raw (Value.int IntKind.i64 n)]))
    | false => (match op == 6 with
     | true => (match n == 31 with
      | true => K (V.tup [V.raw (Value.int IntKind.i64 d), V.raw (Value.int IntKind.i64 32)])
      | false => K (V.tup [V.raw (Value.int IntKind.i64 d), V.raw (Value.int IntKind.i64 n)]))
     | false => (match decide (op ≥ 28) with
      | true => (match decide (op ≤ 36) with
       | true => (match n == 31 with
        | true => K (V.tup [V.raw (Value.int IntKind.i64 d), V.raw (Value.int IntKind.i64 32)])
        | false => K (V.tup [V.raw (Value.int IntKind.i64 d), V.raw (Value.int IntKind.i64 n)]))
       | false => K (V.tup [V.raw (Value.int IntKind.i64 d), V.raw (Value.int IntKind.i64 n)]))
      | false => K (V.tup [V.raw (Value.int IntKind.i64 d), V.raw (Value.int IntKind.i64 n)]))))))
 | false => (match op == 4 with
  | true => (match n == 31 with
   | true => K (V.tup [V.raw (Value.int IntKind.i64 d), V.raw (Value.int IntKind.i64 32)])
   | false => K (V.tup [V.raw (Value.int IntKind.i64 d), V.raw (Value.int IntKind.i64 n)]))
  | false => (match op == 5 with
   | true => (match n == 31 with
    | true => K (V.tup [V.raw (Value.int IntKind.i64 d), V.raw (Value.int IntKind.i64 32)])
    | false => K (V.tup [V.raw (Value.int IntKind.i64 d), V.raw (Value.int IntKind.i64 n)]))
   | false => (match op == 6 with
    | true => (match n == 31 with
     | true => K (V.tup [V.raw (Value.int IntKind.i64 d), V.raw (Value.int IntKind.i64 32)])
     | false => K (V.tup [V.raw (Value.int IntKind.i64 d), V.raw (Value.int IntKind.i64 n)]))
    | false => (match decide (op ≥ 28) with
     | true => (match decide (op ≤ 36) with
      | true => (match n == 31 with
       | true => K (V.tup [V.raw (Value.int IntKind.i64 d), V.raw (Value.int IntKind.i64 32)])
       | false => K (V.tup [V.raw (Value.int IntKind.i64 d), V.raw (Value.int IntKind.i64 n)]))
      | false => K (V.tup [V.raw (Value.int IntKind.i64 d), V.raw (Value.int IntKind.i64 n)]))
     | false => K (V.tup [V.raw (Value.int IntKind.i64 d), V.raw (Value.int IntKind.i64 n)])))))))
set_option maxRecDepth 1000000 in
theorem whr_eq (op d n m a c im : Int) (K : V → Prop) : callG Try.prog noE 100 22 [insV op d n m a c im] [] (rK K) = whr_f op d n m a c im  K := by kernel_rfl
end Go.Proofs.Ytllfmafebhifdaa.opsF
end
