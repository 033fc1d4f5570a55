/- Parts of the proof, one behind the other. -/
import Derived.Test.YtllfmafebhifdaazWinForwardsWKn
import Derived.Test.YtllfmafebhifdaazWinForwardsRLRow4
import Derived.Test.YtllfmafebhifdaazWinForwardsWFwd2
import Derived.Test.YtllfmafebhifdaazWinForwardsWVal
section
/- WinForwards: what the law's function computes. -/
set_option linter.unusedVariables false
set_option linter.unusedSimpArgs false
set_option maxRecDepth 1000000
namespace Go.Proofs.Ytllfmafebhifdaa.winForwards
open Go Go.Proofs Go.Proofs.YtllfmafebhifdaaRL Go.Proofs.Ytllfmafebhifdaa.isa Go.Proofs.Ytllfmafebhifdaa.win
noncomputable def EL : Eh := specE 6 knG (addE 8 fwdA (addE 9 adrA (addE 10 valA noE)))
theorem EL_ok : EOk Try.prog EL := knG_ok (fwdA_ok (adrA_ok (valA_ok noE_ok)))
noncomputable abbrev cd : Code := codeOf Try.prog 4
def live : List Nat := [0,3,4,5]
def live2 : List Nat := [0,3,4,5,8,15]
noncomputable def p1 : List Nat := pathTo 6 cd
noncomputable abbrev bd : Code := lft (subAt p1 cd)
noncomputable abbrev bx : Code := subAt [0,1,2] bd
noncomputable def p2 : List Nat := pathTo 21 bx
noncomputable def c1 : Code := subAt (p1.dropLast.dropLast.dropLast ++ [0]) cd
def st1 (W : WinC) (n : Nat) (r : RegsF) : Sto := [.arr .ro W.cols n 0, .own (numsV .u64 r.x 32 ++ [.raw (.bool r.nf), .raw (.bool r.zf), .raw (.bool r.cf), .raw (.bool r.vf)]) 26]
def S1 (W : WinC) (n cap : Nat) (r : RegsF) (i : Int) (a4 : Bool) : St := ⟨157, [(0, .sle 0 46 0 n cap), (3, .ptr 1 0), (4, bV a4), (5, .raw (.int .i64 i))], st1 W n r⟩
def S2 (W : WinC) (n cap : Nat) (r : RegsF) (i a k : Int) (a4 : Bool) : St := ⟨157, [(0, .sle 0 46 0 n cap), (3, .ptr 1 0), (4, bV a4), (5, .raw (.int .i64 i)), (8, .raw (.int .u64 a)), (15, .raw (.int .i64 k))], st1 W n r⟩
section
variable (W : WinC) (n cap : Nat) (r : RegsF)
theorem pre_eq (K : V → Prop) (Z : St → Prop) : evTo Try.prog EL 100 1 (fun st => Z (gcSt 1 live st)) p1 cd ⟨(funcOf Try.prog 4).ntmps, zipArgs 0 [.sle 0 46 0 n cap, r.v], [.arr .ro W.cols n 0]⟩ (bodyK False Try.prog (funcOf Try.prog 4) (rK K)) =
    Br (decide ((n : Int) > 20)) (K (bV true)) (Z (S1 W n cap r 0 false)) := by kernel_rfl
theorem nil_eq (p) (K : V → Prop) : callG Try.prog EL 100 4 [.raw (.slice p 0 cap), r.v] [.no] (rK K) = K (bV true) := by kernel_rfl
theorem head_eq (i : Int) (K : Ex → St → Prop) : evG Try.prog EL 100 (lft bd) (S1 W n cap r i false) (fun e st => K e (gcSt 1 live st)) =
    Br (decide (i < (n : Int))) (K .normal (S1 W n cap r i false)) (K (.exit 0) (S1 W n cap r i false)) := by kernel_rfl
theorem step_eq (i : Int) (K : Ex → St → Prop) : evG Try.prog EL 100 (rgt (rgt bd)) (S1 W n cap r i false) (fun e st => K e (gcSt 1 live st)) =
    K .normal (S1 W n cap r (IntKind.i64.wrap (i + 1)) false) := by kernel_rfl
def fxM (i : Int) (F1 : Int) (F2 : Bool) (J : Nat) (EX RET : Prop) (Z : Int → Int → Prop) : Prop :=
  let A := W.nm.addr n i r.nm
  let B := W.nm.addr n F1 r.nm
  let fin := ixM F1 n n (fitM n n (Br (!(W.nm.val n F1 r.nm (W.d J)).2) RET (Z A.1 (IntKind.i64.wrap (F1 + 1)))))
  fitM n n (Br (!F2) (Br (F1 != 0) RET EX) (fitM n n (fitM n n (ixM F1 n n (Br (!A.2) RET (Br (!B.2) RET (Br (decide (F1 < 0)) RET (Br (decide (F1 ≥ i)) RET (Br (gr8 A.1 != gr8 B.1) RET
    (ixM F1 n n (Br (W.done J) RET (Br (W.op J != 29) (Br (W.op J != 32) RET fin) fin))))))))))))
theorem mid_eq (i : Int) (K : Ex → St → Prop) (Z : St → Prop) : evTo Try.prog EL 100 1 (fun st => Z (gcSt 1 live2 st)) p2 bx (S1 W n cap r i false) (fun e st => K e (gcSt 1 live st)) =
    fxM W n r i (W.nm.fwd n i r.nm).1 (W.nm.fwd n i r.nm).2 ((W.nm.fwd n i r.nm).1.toNat + 0) (K (.exit 1) (S1 W n cap r i false)) (K .ret (S1 W n cap r i false)) fun a k => Z (S2 W n cap r i a k false) := by kernel_rfl
def innM (i a k : Int) (J : Nat) (NX EX RET : Prop) : Prop :=
  Br (decide (k < i)) (fitM n n (ixM k n n (Br (W.nm.addr n k r.nm).2 (Br (gr8 (W.nm.addr n k r.nm).1 == gr8 a) (Br (W.op J == 29) RET (Br (W.op J == 32) RET (Br (W.op J == 34) RET (Br (W.op J == 36) RET NX)))) NX) NX))) EX
theorem inn_eq (i a k : Int) (K : Ex → St → Prop) : evG Try.prog EL 100 (lft (subAt p2 bx)) (S2 W n cap r i a k false) (fun e st => K e (gcSt 1 live2 st)) =
    innM W n r i a k (k.toNat + 0) (K .normal (S2 W n cap r i a (IntKind.i64.wrap (k + 1)) false)) (K (.exit 2) (S2 W n cap r i a k false)) (K .ret (S2 W n cap r i a k false)) := by kernel_rfl
theorem aft2 (K : Ex → St → Prop) (st : St) : ctxK Try.prog 1 p2 bx K (.exit 2) st = K .normal st := by kernel_rfl
theorem aft1 (K : Ex → St → Prop) (st : St) : ctxK Try.prog 1 p1 cd K (.exit 0) st = CodeB Try.prog 1 c1 st K := by kernel_rfl
theorem gc_S2 (i a k : Int) : gcSt 1 live (S2 W n cap r i a k false) = S1 W n cap r i false := by kernel_rfl
theorem post_eq (i : Int) (K : V → Prop) : evG Try.prog EL 100 c1 (S1 W n cap r i false) (bodyK False Try.prog (funcOf Try.prog 4) (rK K)) = K (bV true) := by kernel_rfl
end
end Go.Proofs.Ytllfmafebhifdaa.winForwards
end
section
/- Facts of Forward, Inputs, Value. -/
set_option linter.unusedVariables false
set_option linter.unusedSimpArgs false
namespace Go.Proofs.Ytllfmafebhifdaa.win
open Go Go.Proofs Go.Proofs.YtllfmafebhifdaaRL Go.Proofs.Ytllfmafebhifdaa.isa
theorem nmR (r : RegsF) : r.nm.nm = r.nm := by kernel_rfl
theorem mem_sortL {x : Int} : ∀ {l : List Int}, x ∈ l → x ∈ sortL l
  | [], h => h
  | [a], h => h
  | [a, b], h => by
    show x ∈ (if b < a then [b, a] else [a, b])
    simp only [List.mem_cons, List.not_mem_nil, or_false] at h
    split <;> simp only [List.mem_cons, List.not_mem_nil, or_false] <;> omega
  | [a, b, c], h => by
    show x ∈ (if b < a then (if c < a then (if c < b then [c, b, a] else [b, c, a]) else [b, a, c]) else (if c < b then (if c < a then [c, a, b] else [a, c, b]) else [a, b, c]))
    simp only [List.mem_cons, List.not_mem_nil, or_false] at h
    repeat' split
    all_goals simp only [List.mem_cons, List.not_mem_nil, or_false]; omega
  | a :: b :: c :: d :: l, h => h
theorem mem_dedL {x : Int} : ∀ {l : List Int}, x ∈ l → x ∈ dedL l
  | [], h => h
  | [a], h => h
  | [a, b], h => by
    show x ∈ (if b = a then [a] else [a, b])
    simp only [List.mem_cons, List.not_mem_nil, or_false] at h
    split <;> simp only [List.mem_cons, List.not_mem_nil, or_false] <;> omega
  | [a, b, c], h => by
    show x ∈ (if b = a then (if c = b then [a] else [a, c]) else (if c = b then [a, b] else [a, b, c]))
    simp only [List.mem_cons, List.not_mem_nil, or_false] at h
    repeat' split
    all_goals simp only [List.mem_cons, List.not_mem_nil, or_false]; omega
  | a :: b :: c :: d :: l, h => h
theorem mem_plainL {x : Int} {l : List Int} (h : x ∈ l) (hx : x ≠ 31) : x ∈ plainL l := by
  unfold plainL filtL
  rw [List.mem_filter]
  exact ⟨mem_dedL (mem_sortL h), by simp [hx]⟩
theorem fill_val {W : WinC} {n : Nat} {i : Int} {base : RegsF} : ∀ {l : List Int} {out : RegsF}, (fillF W n i base out l).2 = true → ∀ reg ∈ l, (W.val n i base reg).2 = true
  | [], _, _, reg, h => absurd h List.not_mem_nil
  | x :: l, out, hf, reg, h => by
    rw [fillF] at hf
    cases hx : (W.val n i base x).2 with
    | false => rw [hx] at hf; cases hf
    | true =>
      rw [hx] at hf
      rcases List.mem_cons.1 h with rfl | h
      · exact hx
      · exact fill_val hf reg h
theorem addr_in {W : WinC} {n : Nat} {i : Int} {r : RegsF} (h : (W.addr n i r).2 = true) : (0 ≤ i ∧ i < n) ∧ W.chk i.toNat = 0 := by
  unfold WinC.addr at h
  by_cases hc : (0 ≤ i ∧ i < n) ∧ W.chk i.toNat = 0 ∧ touP (W.op i.toNat) = true
  · exact ⟨hc.1, hc.2.1⟩
  · rw [if_neg hc] at h; cases h
/-- The register that a plain store stores is known where its inputs are. -/
theorem store_val {W : WinC} {n j : Nat} {R : RegsF} (hR : R.nm = R) (ha : (W.addr n (j : Nat) R).2 = true) (ho : W.op j = 29 ∨ W.op j = 32) (hi : (W.inp n (j : Nat) R).2 = true) : (W.val n (j : Nat) R (W.d j)).2 = true := by
  obtain ⟨h1, h2⟩ := addr_in ha
  have h2' : W.chk j = 0 := h2
  by_cases h31 : W.d j = 31
  · unfold WinC.val
    rw [if_pos h1, if_pos h31]
  · unfold WinC.inp at hi
    rw [if_pos h1, hR, hR] at hi
    refine fill_val hi _ ?_
    show W.d j ∈ W.inn j
    unfold WinC.inn
    rw [if_pos h2']
    refine mem_plainL ?_ h31
    rcases ho with h | h <;> rw [h] <;> simp [inRaw]
structure FwdP (W : WinC) (n : Nat) (R : RegsF) (my : Int) (m : Nat) (p : Int × Bool) : Prop where
  ex : ∃ j : Nat, p = (((j : Nat) : Int), true) ∧ j < m ∧ (W.addr n (j : Nat) R).2 = true ∧ gr8 (W.addr n (j : Nat) R).1 = gr8 my ∧ W.done j = false ∧ (W.op j = 29 ∨ W.op j = 32) ∧ (W.inp n (j : Nat) R).2 = true ∧
    ∀ k : Nat, j < k → k < m → (W.addr n (k : Nat) R).2 = true → gr8 (W.addr n (k : Nat) R).1 = gr8 my → W.op k ≠ 29 ∧ W.op k ≠ 32 ∧ W.op k ≠ 34 ∧ W.op k ≠ 36
theorem load_not {op : Int} (h : loadP op = true) : op ≠ 29 ∧ op ≠ 32 ∧ op ≠ 34 ∧ op ≠ 36 := by
  have := of_decide_eq_true h
  omega
theorem mem_not {op : Int} (h : memP op = false) : op ≠ 29 ∧ op ≠ 32 ∧ op ≠ 34 ∧ op ≠ 36 := by
  have := of_decide_eq_false h
  omega
theorem fback_p {W : WinC} {n : Nat} {R : RegsF} (hR : R.nm = R) {my : Int} : ∀ (m : Nat), W.fback n R my m = (0, false) ∨ FwdP W n R my m (W.fback n R my m)
  | 0 => .inl rfl
  | m + 1 => by
    have skip : (∀ (_ : (W.addr n (m : Nat) R).2 = true) (_ : gr8 (W.addr n (m : Nat) R).1 = gr8 my), W.op m ≠ 29 ∧ W.op m ≠ 32 ∧ W.op m ≠ 34 ∧ W.op m ≠ 36) → W.fback n R my (m + 1) = W.fback n R my m → W.fback n R my (m + 1) = (0, false) ∨ FwdP W n R my (m + 1) (W.fback n R my (m + 1)) := by
      intro hs he
      rw [he]
      rcases fback_p hR m with h | ⟨j, h1, h2, h3, h4, h5, h6, h7, h8⟩
      · exact .inl h
      · refine .inr ⟨j, h1, by omega, h3, h4, h5, h6, h7, fun k hk1 hk2 ha hg => ?_⟩
        by_cases hkm : k < m
        · exact h8 k hk1 hkm ha hg
        · obtain rfl : k = m := by omega
          exact hs ha hg
    have e : W.fback n R my (m + 1) = W.fback n R my (m + 1) := rfl
    conv at e => rhs; rw [WinC.fback, hR]
    by_cases c1 : (W.addr n (m : Nat) R).2 = false ∨ memP (W.op m) = false ∨ gr8 (W.addr n (m : Nat) R).1 ≠ gr8 my
    · rw [if_pos c1] at e
      refine skip (fun ha hg => ?_) e
      rcases c1 with c | c | c
      · rw [ha] at c; cases c
      · exact mem_not c
      · exact absurd hg c
    · rw [if_neg c1] at e
      have d1 : (W.addr n (m : Nat) R).2 = true := by
        cases h : (W.addr n (m : Nat) R).2 with
        | true => rfl
        | false => exact absurd (Or.inl h) c1
      have d2 : gr8 (W.addr n (m : Nat) R).1 = gr8 my := Decidable.byContradiction fun h => c1 (Or.inr (Or.inr h))
      by_cases c2 : W.done m = true ∧ loadP (W.op m) = true
      · rw [if_pos c2] at e
        exact skip (fun _ _ => load_not c2.2) e
      · rw [if_neg c2] at e
        by_cases c3 : W.done m = true ∨ (W.op m ≠ 29 ∧ W.op m ≠ 32)
        · rw [if_pos c3] at e
          exact .inl e
        · rw [if_neg c3] at e
          by_cases c4 : (W.inp n (m : Nat) R).2 = false
          · rw [if_pos c4] at e
            exact .inl e
          · rw [if_neg c4] at e
            refine .inr ⟨m, e, by omega, d1, d2, ?_, ?_, by simpa using c4, fun k hk1 hk2 => by omega⟩
            · cases h : W.done m with
              | false => rfl
              | true => exact absurd (Or.inl h) c3
            · by_cases h : W.op m = 29
              · exact .inl h
              · refine .inr (Decidable.byContradiction fun h2 => c3 (Or.inr ⟨h, h2⟩))
theorem fwd_p {W : WinC} {n : Nat} {R : RegsF} (hR : R.nm = R) (i : Int) : W.fwd n i R = (0, false) ∨ ((W.addr n i R).2 = true ∧ FwdP W n R (W.addr n i R).1 i.toNat (W.fwd n i R)) := by
  unfold WinC.fwd
  rw [hR]
  by_cases c1 : (W.addr n i R).2 = false
  · rw [if_pos c1]; exact .inl rfl
  · rw [if_neg c1]
    have d1 : (W.addr n i R).2 = true := by simpa using c1
    split
    · rcases fback_p hR (W := W) (n := n) (my := (W.addr n i R).1) i.toNat with h | h
      · exact .inl h
      · exact .inr ⟨d1, h⟩
    · exact .inl rfl
end Go.Proofs.Ytllfmafebhifdaa.win
end
section
/- Windows as arguments of laws. -/
set_option linter.unusedVariables false
set_option linter.unusedSimpArgs false
set_option maxRecDepth 100000
namespace Go.Proofs.Ytllfmafebhifdaa.win
open Go Go.Proofs Go.Proofs.YtllfmafebhifdaaRL Go.Proofs.Ytllfmafebhifdaa.isa
theorem colsOkA_ints {k : IntKind} {ks : List CK} {n : Nat} : ∀ {m : Nat} {cols : List Col}, colsOkA (List.replicate m (.int k) ++ ks) cols n → ∃ (x : Nat → Nat → Int) (cs : List Col), cols = ((List.range m).map fun i => Col.int k (x i)) ++ cs ∧ colsOkA ks cs n := by
  intro m
  induction m with
  | zero => intro cols h; exact ⟨fun _ _ => 0, cols, rfl, h⟩
  | succ m ih =>
    intro cols h
    obtain ⟨g, cs, rfl, _, h1⟩ := colsOkA_int h
    obtain ⟨x, cs', rfl, h2⟩ := ih h1
    refine ⟨fun i => match i with | 0 => g | i + 1 => x i, cs', ?_, h2⟩
    rw [List.range_succ_eq_map, List.map_cons, List.map_map]
    rfl
def wcs : List CK := [.int .u64, .int .i64, .int .i64, .int .i64, .int .i64, .int .i64, .int .i64, .int .i64, .int .u64, .bool] ++ (List.replicate 32 (.int .u64) ++ [.bool, .bool, .bool, .bool])
def rcs : List CK := List.replicate 32 (.int .u64) ++ [.bool, .bool, .bool, .bool]
theorem cols_win {cols : List Col} {n : Nat} (hc : colsOkA wcs cols n) : ∃ W : WinC, cols = W.cols := by
  obtain ⟨pc, c101, e1, _, hc1⟩ := colsOkA_int hc
  obtain ⟨op, c102, e2, _, hc2⟩ := colsOkA_int hc1
  obtain ⟨d, c103, e3, _, hc3⟩ := colsOkA_int hc2
  obtain ⟨rn, c104, e4, _, hc4⟩ := colsOkA_int hc3
  obtain ⟨m, c105, e5, _, hc5⟩ := colsOkA_int hc4
  obtain ⟨a, c106, e6, _, hc6⟩ := colsOkA_int hc5
  obtain ⟨c, c107, e7, _, hc7⟩ := colsOkA_int hc6
  obtain ⟨im, c108, e8, _, hc8⟩ := colsOkA_int hc7
  obtain ⟨nx, c109, e9, _, hc9⟩ := colsOkA_int hc8
  obtain ⟨dn, c110, e10, hc10⟩ := colsOkA_bool hc9
  obtain ⟨x, c111, e11, hc11⟩ := colsOkA_ints hc10
  obtain ⟨nf, c112, e12, hc12⟩ := colsOkA_bool hc11
  obtain ⟨zf, c113, e13, hc13⟩ := colsOkA_bool hc12
  obtain ⟨cf, c114, e14, hc14⟩ := colsOkA_bool hc13
  obtain ⟨vf, c115, e15, hc15⟩ := colsOkA_bool hc14
  have e0 := colsOkA_nil hc15
  subst e1 e2 e3 e4 e5 e6 e7 e8 e9 e10 e11 e12 e13 e14 e15 e0
  exact ⟨⟨pc, op, d, rn, m, a, c, im, nx, dn, x, nf, zf, cf, vf⟩, rfl⟩
theorem regs_arg {v : V} (h : argsOk [.agg rcs] [v]) : ∃ r : RegsF, v = r.v := by
  obtain ⟨ws, r, e, h0, h1⟩ := argsOk_agg h
  cases argsOk_nil h1
  cases e
  obtain ⟨x, nf, zf, cf, vf, _, e⟩ := rawsOk_regs h0
  exact ⟨⟨x, nf, zf, cf, vf⟩, e⟩
end Go.Proofs.Ytllfmafebhifdaa.win
end
section
/- WinForwards: the law's function tells true. -/
set_option linter.unusedVariables false
set_option linter.unusedSimpArgs false
set_option maxRecDepth 100000
namespace Go.Proofs.Ytllfmafebhifdaa.winForwards
open Go Go.Proofs Go.Proofs.YtllfmafebhifdaaRL Go.Proofs.Ytllfmafebhifdaa.isa Go.Proofs.Ytllfmafebhifdaa.win
abbrev isT : V → Prop := fun v => v = bV true
section
variable (W : WinC) (n cap : Nat) (r : RegsF)
abbrev KB : Ex → St → Prop := bodyK False Try.prog (funcOf Try.prog 4) (rK isT)
abbrev KO : Ex → St → Prop := ctxK Try.prog 1 p1 cd KB
/-- What a round of the outer loop may come to. -/
def KR (x : Nat) : Ex → St → Prop := fun e st' => match e with
  | .normal => ∃ y : Nat, Tells 1 st' (S1 W n cap r (y : Int) false) ∧ y ≤ n ∧ n - y < n - x
  | .panic _ => False
  | e => ∃ st'', Tells 1 st' st'' ∧ KO e st''
theorem fin0 (i : Int) : KO (.exit 0) (S1 W n cap r i false) := by
  unfold KO
  rw [aft1]
  refine CodeB.of (evG_ok EL_ok names mixed (n := 100) ?_)
  have hp := post_eq W n cap r i isT
  exact hp.mpr rfl
theorem next_ok (x : Nat) (hx : x < n) (hn : n ≤ 20) : CodeB Try.prog 1 (rgt (rgt bd)) (S1 W n cap r (x : Int) false) (KR W n cap r x) := by
  refine CodeB.tellX ((CodeB.of (evG_ok EL_ok names mixed (n := 100) (K := fun e st' => (match e with | .normal => gcSt 1 live st' = S1 W n cap r ((x + 1 : Nat) : Int) false | _ => False)) ?_)).mono fun e s he => ?_)
  · have hp := step_eq W n cap r (x : Int) fun e st' => (match e with | .normal => st' = S1 W n cap r ((x + 1 : Nat) : Int) false | _ => False)
    have c1 : IntKind.i64.wrap ((x : Int) + 1) = ((x + 1 : Nat) : Int) := by rw [wrap_i64_in (by omega) (by omega)]; omega
    rw [c1] at hp
    exact hp.mpr rfl
  · cases e with
    | normal =>
      refine ⟨_, Tells.refl _ _, x + 1, ?_, by omega, by omega⟩
      have h := gc_tells 1 live s
      rw [he] at h
      exact h
    | _ => exact he.elim
abbrev K2 (x : Nat) : Ex → St → Prop := fun e st' => match e with
  | .normal => CodeB Try.prog 1 (rgt (rgt bd)) st' (KR W n cap r x)
  | e => KR W n cap r x e st'
abbrev KX (x : Nat) : Ex → St → Prop := fun e st' => match e with
  | .exit i => (match Nat.beq i (bid (lft (rgt bd))) with
    | true => K2 W n cap r x .normal st'
    | false => K2 W n cap r x (.exit i) st')
  | e => K2 W n cap r x e st'
/-- What the body's inner part may come to, told by what lives. -/
def KY (x : Nat) : Ex → St → Prop := fun e st' => match e with
  | .panic _ => False
  | e => KX W n cap r x e st'
theorem KY_normal (x : Nat) (hx : x < n) (hn : n ≤ 20) : KY W n cap r x .normal (S1 W n cap r (x : Int) false) := next_ok W n cap r x hx hn
theorem KY_exit (x : Nat) (hx : x < n) (hn : n ≤ 20) : KY W n cap r x (.exit 1) (S1 W n cap r (x : Int) false) := next_ok W n cap r x hx hn
theorem inner_ok (x : Nat) (hx : x < n) (hn : n ≤ 20) (j : Nat) (hj : j < x) (a : Int)
    (hk : ∀ k : Nat, j < k → k < x → (W.nm.addr n (k : Nat) r.nm).2 = true → gr8 (W.nm.addr n (k : Nat) r.nm).1 = gr8 a → W.op k ≠ 29 ∧ W.op k ≠ 32 ∧ W.op k ≠ 34 ∧ W.op k ≠ 36)
    (st : St) (hz : gcSt 1 live2 st = S2 W n cap r (x : Int) a ((j + 1 : Nat) : Int) false) : CodeB Try.prog 1 (subAt p2 bx) st (ctxK Try.prog 1 p2 bx fun e st => KY W n cap r x e (gcSt 1 live st)) := by
  refine CodeB.lop (by kernel_rfl) (LoopB.byE EL_ok names mixed (N := 100) (fun k : Nat => S2 W n cap r (x : Int) a (k : Int) false) (fun k => j < k ∧ k ≤ x) (fun k => x - k) live2 (fun k hi => ?_) st (j + 1) (by have h := gc_tells 1 live2 st; rw [hz] at h; exact h) ⟨by omega, by omega⟩)
  have hp := inn_eq W n cap r (x : Int) a (k : Int) (RK 1 (fun k : Nat => S2 W n cap r (x : Int) a (k : Int) false) (fun k => j < k ∧ k ≤ x) (fun k => x - k) k (ctxK Try.prog 1 p2 bx fun e st => KY W n cap r x e (gcSt 1 live st)))
  refine hp.mpr ?_
  unfold innM
  have c6 : ((k : Int)).toNat + 0 = k := rfl
  rw [c6]
  by_cases hlt : k < x
  · rw [decide_eq_true (show (k : Int) < (x : Int) by omega)]
    have c5 : IntKind.i64.wrap ((k : Int) + 1) = ((k + 1 : Nat) : Int) := by rw [wrap_i64_in (by omega) (by omega)]; omega
    rw [c5]
    refine fitM_ok (Nat.le_refl _) (by omega) (ixM_ok (by omega) (by omega) (Nat.le_refl _) ?_)
    have nx : RK 1 (fun k : Nat => S2 W n cap r (x : Int) a (k : Int) false) (fun k => j < k ∧ k ≤ x) (fun k => x - k) k (ctxK Try.prog 1 p2 bx fun e st => KY W n cap r x e (gcSt 1 live st)) .normal (S2 W n cap r (x : Int) a ((k + 1 : Nat) : Int) false) := RK.go (y := k + 1) rfl ⟨by omega, by omega⟩ (by omega)
    refine br_cases (fun h1 => br_cases (fun h2 => ?_) fun _ => nx) fun _ => nx
    obtain ⟨o1, o2, o3, o4⟩ := hk k hi.1 hlt h1 (beq_iff_eq.1 h2)
    rw [beq_eq_false_iff_ne.2 o1, beq_eq_false_iff_ne.2 o2, beq_eq_false_iff_ne.2 o3, beq_eq_false_iff_ne.2 o4]
    exact nx
  · rw [decide_eq_false (show ¬ (k : Int) < (x : Int) by omega)]
    show ctxK Try.prog 1 p2 bx (fun e st => KY W n cap r x e (gcSt 1 live st)) (.exit 2) (S2 W n cap r (x : Int) a (k : Int) false)
    rw [aft2, gc_S2]
    exact KY_normal W n cap r x hx hn
theorem bx_ok (x : Nat) (hx : x < n) (hn : n ≤ 20) : CodeB Try.prog 1 bx (S1 W n cap r (x : Int) false) (KX W n cap r x) := by
  refine CodeB.tellX ((?_ : CodeB Try.prog 1 bx (S1 W n cap r (x : Int) false) fun e st => KY W n cap r x e (gcSt 1 live st)).mono fun e s he => ?_)
  · refine evTo_ok EL_ok names mixed (n := 100) (b := 1) (Z := fun st => ∃ (j : Nat) (a : Int), j < x ∧ (∀ k : Nat, j < k → k < x → (W.nm.addr n (k : Nat) r.nm).2 = true → gr8 (W.nm.addr n (k : Nat) r.nm).1 = gr8 a → W.op k ≠ 29 ∧ W.op k ≠ 32 ∧ W.op k ≠ 34 ∧ W.op k ≠ 36) ∧ gcSt 1 live2 st = S2 W n cap r (x : Int) a ((j + 1 : Nat) : Int) false) p2 _ _ _ (fun st hz => ?_) ?_
    · obtain ⟨j, a, h1, h2, h3⟩ := hz
      exact inner_ok W n cap r x hx hn j h1 a h2 st h3
    · have hp := mid_eq W n cap r (x : Int) (KY W n cap r x) fun st => ∃ (j : Nat) (a : Int), j < x ∧ (∀ k : Nat, j < k → k < x → (W.nm.addr n (k : Nat) r.nm).2 = true → gr8 (W.nm.addr n (k : Nat) r.nm).1 = gr8 a → W.op k ≠ 29 ∧ W.op k ≠ 32 ∧ W.op k ≠ 34 ∧ W.op k ≠ 36) ∧ st = S2 W n cap r (x : Int) a ((j + 1 : Nat) : Int) false
      refine hp.mpr ?_
      unfold fxM
      refine fitM_ok (Nat.le_refl _) (by omega) ?_
      rcases fwd_p (nmR r) (x : Int) (W := W.nm) (n := n) with h | ⟨ha, j, h1, h2, h3, h4, h5, h6, h7, h8⟩
      · rw [h]
        exact KY_exit W n cap r x hx hn
      · rw [h1]
        have hjx : j < x := h2
        have c6 : ((j : Int)).toNat + 0 = j := rfl
        rw [c6]
        refine fitM_ok (Nat.le_refl _) (by omega) (fitM_ok (Nat.le_refl _) (by omega) (ixM_ok (i := (j : Int)) (by omega) (by omega) (Nat.le_refl _) ?_))
        have h5' : W.done j = false := h5
        have h6' : W.op j = 29 ∨ W.op j = 32 := h6
        have hv : (W.nm.val n (j : Nat) r.nm (W.d j)).2 = true := store_val (nmR r) h3 h6 h7
        have c7 : IntKind.i64.wrap ((j : Int) + 1) = ((j + 1 : Nat) : Int) := by rw [wrap_i64_in (by omega) (by omega)]; omega
        rw [ha, h3, decide_eq_false (show ¬ (j : Int) < 0 by omega), decide_eq_false (show ¬ (j : Int) ≥ (x : Int) by omega), show (gr8 (W.nm.addr n (x : Int) r.nm).1 != gr8 (W.nm.addr n (j : Int) r.nm).1) = false by rw [h4]; exact bne_self_eq_false _, h5', hv, c7]
        refine ixM_ok (i := (j : Int)) (by omega) (by omega) (Nat.le_refl _) ?_
        have fin : ixM (j : Int) n n (fitM n n (∃ (j' : Nat) (a : Int), j' < x ∧ (∀ k : Nat, j' < k → k < x → (W.nm.addr n (k : Nat) r.nm).2 = true → gr8 (W.nm.addr n (k : Nat) r.nm).1 = gr8 a → W.op k ≠ 29 ∧ W.op k ≠ 32 ∧ W.op k ≠ 34 ∧ W.op k ≠ 36) ∧ S2 W n cap r (x : Int) (W.nm.addr n (x : Int) r.nm).1 ((j + 1 : Nat) : Int) false = S2 W n cap r (x : Int) a ((j' + 1 : Nat) : Int) false)) :=
          ixM_ok (by omega) (by omega) (Nat.le_refl _) (fitM_ok (Nat.le_refl _) (by omega) ⟨j, (W.nm.addr n (x : Int) r.nm).1, hjx, fun k hk1 hk2 => h8 k hk1 hk2, rfl⟩)
        rcases h6' with ho | ho
        · rw [show (W.op j != 29) = false by rw [ho]; rfl]
          exact fin
        · rw [show (W.op j != 29) = true by rw [ho]; rfl, show (W.op j != 32) = false by rw [ho]; rfl]
          exact fin
  · cases e with
    | panic v => exact he.elim
    | _ => exact ⟨_, gc_tells 1 live s, he⟩
theorem round_ok (x : Nat) (hx : x ≤ n) (hn : n ≤ 20) : CodeB Try.prog 1 bd (S1 W n cap r (x : Int) false) (KR W n cap r x) := by
  refine step_ok EL_ok names mixed (N := 100) (live := live) (Z := fun st => st = S1 W n cap r (x : Int) false ∧ x < n) (by kernel_rfl) ?_ ?_
  · have hp := head_eq W n cap r (x : Int) fun e st' => match e with | .normal => st' = S1 W n cap r (x : Int) false ∧ x < n | .panic _ => False | e => KR W n cap r x e st'
    refine hp.mpr ?_
    refine br_cases (fun h => ⟨rfl, by have := of_decide_eq_true h; omega⟩) fun _ => ?_
    exact ⟨_, Tells.refl _ _, fin0 W n cap r _⟩
  · rintro st' ⟨rfl, hlt⟩
    refine CodeB.seq (by kernel_rfl) (CodeB.blk (by kernel_rfl) ?_)
    exact bx_ok W n cap r x hlt hn
theorem law_sl : CallOk Try.prog 4 [.sle 0 46 0 n cap, r.v] [.arr .ro W.cols n 0] fun q _ => q = .ret (bV true) := by
  refine CallOk.mono (K := rK isT) (CallOk.fnB names (by kernel_rfl) ?_) rK_ok
  refine evTo_ok EL_ok names mixed (n := 100) (b := 1) (Z := fun st => n ≤ 20 ∧ gcSt 1 live st = S1 W n cap r ((0 : Nat) : Int) false) p1 _ _ _ (fun st hz => ?_) ?_
  · obtain ⟨hn, hz⟩ := hz
    refine CodeB.lop (by kernel_rfl) (LoopB.byG (fun i : Nat => S1 W n cap r (i : Int) false) (fun i => i ≤ n) (fun i => n - i) (fun x hx => ?_) st ⟨0, by have h := gc_tells 1 live st; rw [hz] at h; exact h, Nat.zero_le _⟩)
    exact round_ok W n cap r x hx hn
  · have hp := pre_eq W n cap r isT fun st => n ≤ 20 ∧ st = S1 W n cap r ((0 : Nat) : Int) false
    refine hp.mpr ?_
    refine br_cases (fun _ => rfl) fun h => ⟨by have := of_decide_eq_false h; omega, rfl⟩
theorem law_nil (p) : CallOk Try.prog 4 [.raw (.slice p 0 cap), r.v] [.no] fun q _ => q = .ret (bV true) := by
  refine (callG_ok EL_ok names mixed (n := 100) (K := rK isT) ?_).mono rK_ok
  have hp := nil_eq cap r p isT
  exact hp.mpr rfl
end
def aks : List AS := [.sl wcs, .flat (.agg rcs)]
theorem law_call : ∀ args s, argsOkS 0 aks args s → CallOk Try.prog 4 args s fun r _ => r = .ret (.raw (.bool true)) := law_viaA fun args s h => by
  rcases argsOkA_sl h with ⟨p, cap, vs, s', rfl, rfl, h2⟩ | ⟨n, cap, cols, vs, s', hn, rfl, rfl, hcap, hmx, hc, h2⟩
  · obtain ⟨v, vs, rfl, h3, h4⟩ := argsOkA_flat h2
    obtain ⟨rfl, rfl⟩ := argsOkA_nil h4
    obtain ⟨r, rfl⟩ := regs_arg h3
    exact law_nil cap r p
  · obtain ⟨v, vs, rfl, h3, h4⟩ := argsOkA_flat h2
    obtain ⟨rfl, rfl⟩ := argsOkA_nil h4
    obtain ⟨r, rfl⟩ := regs_arg h3
    obtain ⟨W, rfl⟩ := cols_win hc
    exact law_sl W n cap r
end Go.Proofs.Ytllfmafebhifdaa.winForwards
end
