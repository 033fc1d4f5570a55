/- Parts of the proof, one behind the other. -/
import Derived.Test.YtalgegmcllcnmaazLabConstsRLT
import Derived.Test.YtalgegmcllcnmaazLabConstsIWord
import Derived.Test.YtalgegmcllcnmaazLabConstsIRefC
import Derived.Test.YtalgegmcllcnmaazLabConstsINum
import Derived.Laws.BitsAllLaws
section
/- Registers as functions; reads, writes, conditions. Printed by genreg.py. -/
namespace Go.Proofs.Ytalgegmcllcnmaa.isa
open Go Go.Proofs Go.Proofs.YtalgegmcllcnmaaRL
set_option linter.unusedVariables false
set_option linter.unusedSimpArgs false
def regs (x : Nat → Int) (nf zf cf vf : Bool) : V := .agg (numsV .u64 x 32 ++ [.raw (.bool nf), .raw (.bool zf), .raw (.bool cf), .raw (.bool vf)])
def readRegs : V → Option ((Nat → Int) × Bool × Bool × Bool × Bool)
  | .agg cs => match readNums .u64 32 cs with
    | some (xs, [.raw (.bool nf), .raw (.bool zf), .raw (.bool cf), .raw (.bool vf)]) => some (fun i => xs.getD i 0, nf, zf, cf, vf)
    | _ => none
  | _ => none
theorem rawsOk_regs {ws : List V} (h : rawsOk (List.replicate 32 (.int .u64) ++ [.bool, .bool, .bool, .bool]) ws) : ∃ x nf zf cf vf, (∀ i, i < 32 → (Lit.int .u64 (x i)).wf = true) ∧ V.agg ws = regs x nf zf cf vf := by
  obtain ⟨x, hx, ws1, h1, rfl⟩ := rawsOk_nums (m := 32) h
  obtain ⟨nf, ws2, rfl, h2⟩ := rawsOk_bool h1
  obtain ⟨zf, ws3, rfl, h3⟩ := rawsOk_bool h2
  obtain ⟨cf, ws4, rfl, h4⟩ := rawsOk_bool h3
  obtain ⟨vf, ws5, rfl, h5⟩ := rawsOk_bool h4
  cases rawsOk_nil h5
  exact ⟨x, nf, zf, cf, vf, hx, rfl⟩
theorem readRegs_eq {v : V} {x : Nat → Int} {nf zf cf vf : Bool} (h : readRegs v = some (x, nf, zf, cf, vf)) : v = regs x nf zf cf vf := by
  unfold readRegs at h
  split at h
  · split at h
    · rename_i hr
      cases h
      rw [readNums_eq hr]; rfl
    · cases h
  · cases h
def getX (x : Nat → Int) (n : Int) : Int := match decide (0 ≤ n ∧ n < 31) with
  | true => x n.toNat
  | false => match n == 32 with
    | true => x 31
    | false => 0
def setX (x : Nat → Int) (n v : Int) (i : Nat) : Int := match decide (0 ≤ n ∧ n < 31) with
  | true => (match decide ((i : Int) = n) with | true => v | false => x i)
  | false => match n == 32 with
    | true => (match Nat.beq i 31 with | true => v | false => x i)
    | false => x i
theorem reg_out {n : Int} (hn : ¬ (0 ≤ n ∧ n < 31)) : n = 31 ∨ n = 32 ∨ (∃ k, n = Int.negSucc k) ∨ ∃ k, n = Int.ofNat (k + 33) := by
  rcases n with k | k
  · have h2 : ¬ k < 31 := fun h => hn ⟨Int.natCast_nonneg k, by show (k : Int) < 31; omega⟩
    by_cases h3 : k = 31
    · subst h3; exact Or.inl rfl
    · by_cases h4 : k = 32
      · subst h4; exact Or.inr (Or.inl rfl)
      · exact Or.inr (Or.inr (Or.inr ⟨k - 33, by congr 1; omega⟩))
  · exact Or.inr (Or.inr (Or.inl ⟨k, rfl⟩))
def gGet (args : List V) : Option V := match args with
  | [r, .raw (.int .i64 n)] => match readRegs r with
    | some (x, _, _, _, _) => some (.raw (.int .u64 (getX x n)))
    | none => none
  | _ => none
def gSet (args : List V) : Option V := match args with
  | [r, .raw (.int .i64 n), .raw (.int .u64 v)] => match readRegs r with
    | some (x, nf, zf, cf, vf) => some (regs (setX x n v) nf zf cf vf)
    | none => none
  | _ => none
def norm (x : Nat → Int) : Nat → Int := fun i => ((List.range 32).map x).getD i 0
def eqN (x y : Nat → Int) : Nat → Nat → Bool
  | 0, _ => true
  | k + 1, i => (x i == y i) && eqN x y k (i + 1)
def eqR (x y : Nat → Int) (nf zf cf vf nf' zf' cf' vf' : Bool) : Bool := eqN x y 31 0 && ((x 31 == y 31) && ((nf == nf') && ((zf == zf') && ((cf == cf') && ((vf == vf') && true)))))
theorem eqN_same {x y : Nat → Int} : ∀ k i, (∀ j, i ≤ j → j < i + k → x j = y j) → eqN x y k i = true := by
  intro k
  induction k with
  | zero => intro i _; rfl
  | succ k ih => intro i h; unfold eqN; rw [ih _ fun j h1 h2 => h j (by omega) (by omega), h i (by omega) (by omega)]; simp
theorem bd_nums (k : IntKind) (x : Nat → Int) (m b : Nat) : bdL b (numsV k x m) := by
  rw [bdL_iff]; intro v hv
  unfold numsV at hv
  obtain ⟨i, _, rfl⟩ := List.mem_map.1 hv
  trivial
theorem bd_regs (x : Nat → Int) (nf zf cf vf : Bool) (b : Nat) : (regs x nf zf cf vf).bd b := by
  unfold regs
  show bdL b _
  rw [bdL_iff]; intro v hv
  rcases List.mem_append.1 hv with h | h
  · exact bdL_iff.1 (bd_nums _ _ _ _) v h
  · simp at h; rcases h with rfl | rfl | rfl | rfl <;> trivial
theorem gGet_ok {f : FuncId} (hf : ∀ (x : Nat → Int) (nf zf cf vf : Bool) (n : Int), CallOk Try.prog f [regs x nf zf cf vf, .raw (.int .i64 n)] [] fun r _ => r = .ret (.raw (.int .u64 (getX x n)))) (args : List V) (v : V) (h : gGet args = some v) : bdL 0 args ∧ v.bd 0 ∧ CallOk Try.prog f args [] fun r _ => r = .ret v := by
  unfold gGet at h
  split at h
  · split at h
    · rename_i hr
      cases h
      have hr := readRegs_eq hr
      subst hr
      exact ⟨⟨bd_regs _ _ _ _ _ _, trivial, trivial⟩, trivial, hf _ _ _ _ _ _⟩
    · cases h
  · cases h
theorem gSet_ok {f : FuncId} (hf : ∀ (x : Nat → Int) (nf zf cf vf : Bool) (n v : Int), CallOk Try.prog f [regs x nf zf cf vf, .raw (.int .i64 n), .raw (.int .u64 v)] [] fun r _ => r = .ret (regs (setX x n v) nf zf cf vf)) (args : List V) (v : V) (h : gSet args = some v) : bdL 0 args ∧ v.bd 0 ∧ CallOk Try.prog f args [] fun r _ => r = .ret v := by
  unfold gSet at h
  split at h
  · split at h
    · rename_i hr
      cases h
      have hr := readRegs_eq hr
      subst hr
      exact ⟨⟨bd_regs _ _ _ _ _ _, trivial, trivial, trivial⟩, bd_regs _ _ _ _ _ _, hf _ _ _ _ _ _ _⟩
    · cases h
  · cases h
end Go.Proofs.Ytalgegmcllcnmaa.isa
end
section
/- Reads and writes of registers, conditions (brazier/brazierref6) as tables' lines. Printed by genreg.py. -/
namespace Go.Proofs.Ytalgegmcllcnmaa.isa
open Go Go.Proofs Go.Proofs.YtalgegmcllcnmaaRL
set_option linter.unusedVariables false
set_option maxRecDepth 100000 in
theorem rget_in (x : Nat → Int) (nf zf cf vf : Bool) : ∀ k : Nat, k < 31 → CallOk Try.prog 46 [regs x nf zf cf vf, .raw (.int .i64 (k : Nat))] [] fun r _ => r = .ret (.raw (.int .u64 (x k)))
  | 0, _ => runV_ok noD_ok names mixed (n := 20) (by kernel_rfl)
  | 1, _ => runV_ok noD_ok names mixed (n := 20) (by kernel_rfl)
  | 2, _ => runV_ok noD_ok names mixed (n := 20) (by kernel_rfl)
  | 3, _ => runV_ok noD_ok names mixed (n := 20) (by kernel_rfl)
  | 4, _ => runV_ok noD_ok names mixed (n := 20) (by kernel_rfl)
  | 5, _ => runV_ok noD_ok names mixed (n := 20) (by kernel_rfl)
  | 6, _ => runV_ok noD_ok names mixed (n := 20) (by kernel_rfl)
  | 7, _ => runV_ok noD_ok names mixed (n := 20) (by kernel_rfl)
  | 8, _ => runV_ok noD_ok names mixed (n := 20) (by kernel_rfl)
  | 9, _ => runV_ok noD_ok names mixed (n := 20) (by kernel_rfl)
  | 10, _ => runV_ok noD_ok names mixed (n := 20) (by kernel_rfl)
  | 11, _ => runV_ok noD_ok names mixed (n := 20) (by kernel_rfl)
  | 12, _ => runV_ok noD_ok names mixed (n := 20) (by kernel_rfl)
  | 13, _ => runV_ok noD_ok names mixed (n := 20) (by kernel_rfl)
  | 14, _ => runV_ok noD_ok names mixed (n := 20) (by kernel_rfl)
  | 15, _ => runV_ok noD_ok names mixed (n := 20) (by kernel_rfl)
  | 16, _ => runV_ok noD_ok names mixed (n := 20) (by kernel_rfl)
  | 17, _ => runV_ok noD_ok names mixed (n := 20) (by kernel_rfl)
  | 18, _ => runV_ok noD_ok names mixed (n := 20) (by kernel_rfl)
  | 19, _ => runV_ok noD_ok names mixed (n := 20) (by kernel_rfl)
  | 20, _ => runV_ok noD_ok names mixed (n := 20) (by kernel_rfl)
  | 21, _ => runV_ok noD_ok names mixed (n := 20) (by kernel_rfl)
  | 22, _ => runV_ok noD_ok names mixed (n := 20) (by kernel_rfl)
  | 23, _ => runV_ok noD_ok names mixed (n := 20) (by kernel_rfl)
  | 24, _ => runV_ok noD_ok names mixed (n := 20) (by kernel_rfl)
  | 25, _ => runV_ok noD_ok names mixed (n := 20) (by kernel_rfl)
  | 26, _ => runV_ok noD_ok names mixed (n := 20) (by kernel_rfl)
  | 27, _ => runV_ok noD_ok names mixed (n := 20) (by kernel_rfl)
  | 28, _ => runV_ok noD_ok names mixed (n := 20) (by kernel_rfl)
  | 29, _ => runV_ok noD_ok names mixed (n := 20) (by kernel_rfl)
  | 30, _ => runV_ok noD_ok names mixed (n := 20) (by kernel_rfl)
  | k + 31, h => absurd h (by omega)
set_option maxRecDepth 100000 in
theorem rget_ok (x : Nat → Int) (nf zf cf vf : Bool) (n : Int) : CallOk Try.prog 46 [regs x nf zf cf vf, .raw (.int .i64 n)] [] fun r _ => r = .ret (.raw (.int .u64 (getX x n))) := by
  by_cases hn : 0 ≤ n ∧ n < 31
  · have h := rget_in x nf zf cf vf n.toNat (by omega)
    rw [Int.toNat_of_nonneg hn.1] at h
    have e : getX x n = x n.toNat := by unfold getX; rw [decide_eq_true hn]
    rw [e]; exact h
  · rcases reg_out hn with rfl | rfl | ⟨k, rfl⟩ | ⟨k, rfl⟩
    all_goals exact runV_ok noD_ok names mixed (n := 20) (by kernel_rfl)
set_option maxRecDepth 100000 in
theorem rset_in (x : Nat → Int) (nf zf cf vf : Bool) (v : Int) : ∀ k : Nat, k < 31 → CallOk Try.prog 43 [regs x nf zf cf vf, .raw (.int .i64 (k : Nat)), .raw (.int .u64 v)] [] fun r _ => r = .ret (regs (setX x (k : Nat) v) nf zf cf vf)
  | 0, _ => runV_ok noD_ok names mixed (n := 20) (by kernel_rfl)
  | 1, _ => runV_ok noD_ok names mixed (n := 20) (by kernel_rfl)
  | 2, _ => runV_ok noD_ok names mixed (n := 20) (by kernel_rfl)
  | 3, _ => runV_ok noD_ok names mixed (n := 20) (by kernel_rfl)
  | 4, _ => runV_ok noD_ok names mixed (n := 20) (by kernel_rfl)
  | 5, _ => runV_ok noD_ok names mixed (n := 20) (by kernel_rfl)
  | 6, _ => runV_ok noD_ok names mixed (n := 20) (by kernel_rfl)
  | 7, _ => runV_ok noD_ok names mixed (n := 20) (by kernel_rfl)
  | 8, _ => runV_ok noD_ok names mixed (n := 20) (by kernel_rfl)
  | 9, _ => runV_ok noD_ok names mixed (n := 20) (by kernel_rfl)
  | 10, _ => runV_ok noD_ok names mixed (n := 20) (by kernel_rfl)
  | 11, _ => runV_ok noD_ok names mixed (n := 20) (by kernel_rfl)
  | 12, _ => runV_ok noD_ok names mixed (n := 20) (by kernel_rfl)
  | 13, _ => runV_ok noD_ok names mixed (n := 20) (by kernel_rfl)
  | 14, _ => runV_ok noD_ok names mixed (n := 20) (by kernel_rfl)
  | 15, _ => runV_ok noD_ok names mixed (n := 20) (by kernel_rfl)
  | 16, _ => runV_ok noD_ok names mixed (n := 20) (by kernel_rfl)
  | 17, _ => runV_ok noD_ok names mixed (n := 20) (by kernel_rfl)
  | 18, _ => runV_ok noD_ok names mixed (n := 20) (by kernel_rfl)
  | 19, _ => runV_ok noD_ok names mixed (n := 20) (by kernel_rfl)
  | 20, _ => runV_ok noD_ok names mixed (n := 20) (by kernel_rfl)
  | 21, _ => runV_ok noD_ok names mixed (n := 20) (by kernel_rfl)
  | 22, _ => runV_ok noD_ok names mixed (n := 20) (by kernel_rfl)
  | 23, _ => runV_ok noD_ok names mixed (n := 20) (by kernel_rfl)
  | 24, _ => runV_ok noD_ok names mixed (n := 20) (by kernel_rfl)
  | 25, _ => runV_ok noD_ok names mixed (n := 20) (by kernel_rfl)
  | 26, _ => runV_ok noD_ok names mixed (n := 20) (by kernel_rfl)
  | 27, _ => runV_ok noD_ok names mixed (n := 20) (by kernel_rfl)
  | 28, _ => runV_ok noD_ok names mixed (n := 20) (by kernel_rfl)
  | 29, _ => runV_ok noD_ok names mixed (n := 20) (by kernel_rfl)
  | 30, _ => runV_ok noD_ok names mixed (n := 20) (by kernel_rfl)
  | k + 31, h => absurd h (by omega)
set_option maxRecDepth 100000 in
theorem rset_ok (x : Nat → Int) (nf zf cf vf : Bool) (n v : Int) : CallOk Try.prog 43 [regs x nf zf cf vf, .raw (.int .i64 n), .raw (.int .u64 v)] [] fun r _ => r = .ret (regs (setX x n v) nf zf cf vf) := by
  by_cases hn : 0 ≤ n ∧ n < 31
  · have h := rset_in x nf zf cf vf v n.toNat (by omega)
    rw [Int.toNat_of_nonneg hn.1] at h
    exact h
  · rcases reg_out hn with rfl | rfl | ⟨k, rfl⟩ | ⟨k, rfl⟩
    all_goals exact runV_ok noD_ok names mixed (n := 20) (by kernel_rfl)
noncomputable def reg6 (E : Eh) : Eh := specE 46 gGet (specE 43 gSet E)
theorem reg6_ok {E : Eh} (h : EOk Try.prog E) : EOk Try.prog (reg6 E) := specE_ok (specE_ok h (gSet_ok rset_ok)) (gGet_ok rget_ok)
end Go.Proofs.Ytalgegmcllcnmaa.isa
end
section
/- LabConsts: brazierref6.Do of MOVZ and MOVK, as a table's line. -/
set_option linter.unusedVariables false
set_option linter.unusedSimpArgs false
set_option maxRecDepth 1000000
namespace Go.Proofs.Ytalgegmcllcnmaa.labConsts
open Go Go.Proofs Go.Proofs.YtalgegmcllcnmaaRL Go.Proofs.Ytalgegmcllcnmaa.isa
abbrev bV (b : Bool) : V := .raw (.bool b)
abbrev rK (K : V → Prop) : Res → Sto → Prop := fun r _ => match r with | .ret v => K v | .pan _ => False
theorem rK_ok {u : V} : ∀ (r : Res) (s : Sto), rK (fun v => v = u) r s → r = .ret u
  | .ret v, s, h => congrArg Res.ret h
  | .pan v, s, h => h.elim
noncomputable def E6 : Eh := reg6 (specE 34 chkG noE)
theorem E6_ok : EOk Try.prog E6 := reg6_ok (rchkG_ok noE_ok)
def w64 (v : Int) : Int := IntKind.u64.wrap v
def sh6 (m : Int) : Int := 2 ^ min (w64 (IntKind.i64.wrap (16 * m))).toNat 64
def v2 (m im : Int) : Int := w64 (w64 im * sh6 m)
def v3 (d m im : Int) : Int := Go.bits .or .u64 (Go.bits .andNot .u64 d (w64 (65535 * sh6 m))) (w64 (w64 im * sh6 m))
def eff6 (x : Nat → Int) (nf zf cf vf : Bool) (pc : Int) : V := .agg (numsV .u64 x 32 ++ [.raw (.bool nf), .raw (.bool zf), .raw (.bool cf), .raw (.bool vf), .raw (.int .u64 (w64 (pc + 4))), .raw (.int .u64 0), .raw (.int .u64 0), .raw (.bool false)])
section
variable (d n m a c im pc : Int) (x : Nat → Int) (nf zf cf vf : Bool) (K : V → Prop)
abbrev ge6 (m : Int) (P : Prop) : Prop := Br (decide (0 ≤ w64 (IntKind.i64.wrap (16 * m)))) P False
abbrev two (b : Bool) (P : Prop) : Prop := Br b P P
theorem do6_2 : callG Try.prog E6 100 26 [insV 2 d n m a c im, .raw (.int .u64 pc), regs x nf zf cf vf] [] (rK K) = Br (chkV 2 d n m a c im != 0) (K (eff6 (norm x) nf zf cf vf pc)) (two (n == 31) (ge6 m (two (d == 31) (K (eff6 (setX (norm x) d (v2 m im)) nf zf cf vf pc))))) := by kernel_rfl
theorem do6_3 : callG Try.prog E6 100 26 [insV 3 d n m a c im, .raw (.int .u64 pc), regs x nf zf cf vf] [] (rK K) = Br (chkV 3 d n m a c im != 0) (K (eff6 (norm x) nf zf cf vf pc)) (two (n == 31) (ge6 m (ge6 m (two (d == 31) (K (eff6 (setX (norm x) d (v3 (getX (norm x) d) m im)) nf zf cf vf pc)))))) := by kernel_rfl
theorem two_ok {b : Bool} {P : Prop} (h : P) : two b P := by cases b <;> exact h
theorem ge6_ok {P : Prop} (h : P) : ge6 m P := by
  have h0 : 0 ≤ w64 (IntKind.i64.wrap (16 * m)) := by unfold w64; rw [wrap_u64]; exact Int.emod_nonneg _ (by decide)
  unfold ge6
  rw [decide_eq_true h0]
  exact h
end
/-- What MOVZ (2) or MOVK (3) makes of the registers. -/
def x6 (op d m im : Int) (x : Nat → Int) : Nat → Int := setX x d (match op == 2 with | true => v2 m im | false => v3 (getX x d) m im)
abbrev is6 (op d n m a c im : Int) : Prop := (op = 2 ∨ op = 3) ∧ chkV op d n m a c im = 0
theorem x6_2 (d m im : Int) (x : Nat → Int) : x6 2 d m im x = setX x d (v2 m im) := rfl
theorem x6_3 (d m im : Int) (x : Nat → Int) : x6 3 d m im x = setX x d (v3 (getX x d) m im) := rfl
theorem yes_br {b : Bool} {P Q : Prop} (h : b = false) (hq : Q) : Br b P Q := by subst h; exact hq
theorem ne0 {v : Int} (h : v = 0) : (v != 0) = false := by subst h; rfl
theorem do6_ok2 (d n m a c im pc : Int) (x : Nat → Int) (nf zf cf vf : Bool) (h : chkV 2 d n m a c im = 0) : CallOk Try.prog 26 [insV 2 d n m a c im, .raw (.int .u64 pc), regs x nf zf cf vf] [] fun r _ => r = .ret (eff6 (setX (norm x) d (v2 m im)) nf zf cf vf pc) := by
  refine (callG_ok E6_ok names mixed (n := 100) (K := rK fun v => v = eff6 (setX (norm x) d (v2 m im)) nf zf cf vf pc) ?_).mono rK_ok
  rw [do6_2]
  exact yes_br (ne0 h) (two_ok (ge6_ok m (two_ok (Eq.refl _))))
theorem do6_ok3 (d n m a c im pc : Int) (x : Nat → Int) (nf zf cf vf : Bool) (h : chkV 3 d n m a c im = 0) : CallOk Try.prog 26 [insV 3 d n m a c im, .raw (.int .u64 pc), regs x nf zf cf vf] [] fun r _ => r = .ret (eff6 (setX (norm x) d (v3 (getX (norm x) d) m im)) nf zf cf vf pc) := by
  refine (callG_ok E6_ok names mixed (n := 100) (K := rK fun v => v = eff6 (setX (norm x) d (v3 (getX (norm x) d) m im)) nf zf cf vf pc) ?_).mono rK_ok
  rw [do6_3]
  exact yes_br (ne0 h) (two_ok (ge6_ok m (ge6_ok m (two_ok (Eq.refl _)))))
theorem do6_ok (op d n m a c im pc : Int) (x : Nat → Int) (nf zf cf vf : Bool) (h : is6 op d n m a c im) : CallOk Try.prog 26 [insV op d n m a c im, .raw (.int .u64 pc), regs x nf zf cf vf] [] fun r _ => r = .ret (eff6 (x6 op d m im (norm x)) nf zf cf vf pc) := by
  obtain ⟨h1, h2⟩ := h
  rcases h1 with rfl | rfl
  · rw [x6_2]; exact do6_ok2 d n m a c im pc x nf zf cf vf h2
  · rw [x6_3]; exact do6_ok3 d n m a c im pc x nf zf cf vf h2
def do6A : List V → Sto → Option Ans := fun args s => match args with
  | [u, .raw (.int .u64 pc), r] => match readIns u, readRegs r with
    | some (op, d, n, m, a, c, im), some (x, nf, zf, cf, vf) => some (.br (decide (is6 op d n m a c im)) (.one (.ret (eff6 (x6 op d m im (norm x)) nf zf cf vf pc)) s) .no)
    | _, _ => none
  | _ => none
theorem eff6_bd (x : Nat → Int) (nf zf cf vf : Bool) (pc : Int) : (eff6 x nf zf cf vf pc).bd 0 := by
  unfold eff6
  show bdL 0 _
  rw [bdL_iff]; intro v hv
  rcases List.mem_append.1 hv with h | h
  · exact bdL_iff.1 (bd_nums _ _ _ _) v h
  · simp at h; rcases h with rfl | rfl | rfl | rfl | rfl | rfl | rfl | rfl <;> trivial
theorem do6A_ok {E : Eh} (hE : EOk Try.prog E) : EOk Try.prog (addE 26 do6A E) := by
  refine addE_ok hE fun args s a h hf => ?_
  unfold do6A at h
  split at h
  · split at h
    · rename_i op d n m a c im x nf zf cf vf hr hq
      cases h
      rcases hf with ⟨hb, _⟩ | ⟨_, hf⟩
      · have h2 := of_decide_eq_true hb
        rw [readIns_eq hr, readRegs_eq hq]
        exact ((do6_ok op d n m a c im _ x nf zf cf vf h2).anywhere (s := s) ⟨insV_bd .., trivial, bd_regs .., trivial⟩ (eff6_bd ..)).mono fun r s' h3 => .inl ⟨hb, h3⟩
      · exact hf.elim
    · cases h
  · cases h
end Go.Proofs.Ytalgegmcllcnmaa.labConsts
end
section
/- LabConsts: the numbers: parts laid one by one. -/
set_option linter.unusedVariables false
set_option linter.unusedSimpArgs false
namespace Go.Proofs.Ytalgegmcllcnmaa.labConsts
open Go Go.Proofs Go.Proofs.YtalgegmcllcnmaaRL Go.Proofs.Ytalgegmcllcnmaa.isa
def part (v : Int) (p : Nat) : Int := IntKind.i64.wrap (Go.bits .and .u64 (v.fdiv (2 ^ (16 * p))) 65535)
/-- A part laid into a number. -/
def lay (x : Int) (p : Nat) (a : Int) : Int := match p with
  | 0 => x - x % 65536 + a
  | 1 => x - x / 65536 % 65536 * 65536 + a * 65536
  | 2 => x - x / 4294967296 % 65536 * 4294967296 + a * 4294967296
  | _ => x - x / 281474976710656 % 65536 * 281474976710656 + a * 281474976710656
theorem u64w (x : Int) : w64 x = x % 18446744073709551616 := wrap_u64 x
theorem sh_at (p : Nat) (hp : p < 4) : sh6 (p : Int) = ((2 ^ (16 * p) : Nat) : Int) := by
  match p, hp with
  | 0, _ => rfl
  | 1, _ => rfl
  | 2, _ => rfl
  | 3, _ => rfl
  | p + 4, h => omega
theorem movz_ok (p : Nat) (hp : p < 4) (a : Int) (h0 : 0 ≤ a) (h1 : a < 65536) : w64 (w64 a * sh6 (p : Int)) = lay 0 p a := by
  rw [sh_at p hp, u64w a, u64w]
  match p, hp with
  | 0, _ => show (a % _ * 1) % _ = 0 - 0 % 65536 + a; omega
  | 1, _ => show (a % _ * 65536) % _ = 0 - 0 / 65536 % 65536 * 65536 + a * 65536; omega
  | 2, _ => show (a % _ * 4294967296) % _ = 0 - 0 / 4294967296 % 65536 * 4294967296 + a * 4294967296; omega
  | 3, _ => show (a % _ * 281474976710656) % _ = 0 - 0 / 281474976710656 % 65536 * 281474976710656 + a * 281474976710656; omega
  | p + 4, h => omega
theorem clear0 (n P Q : Nat) (hP : 0 < P) (hQ : 0 < Q) : (n - n / P % Q * P) / P % Q = 0 := by
  have h1 := Nat.div_add_mod n P
  have h2 := Nat.div_add_mod (n / P) Q
  have e : n - n / P % Q * P = P * (Q * (n / P / Q)) + n % P := by
    have h3 : P * (n / P) = P * (Q * (n / P / Q)) + n / P % Q * P := by
      rw [Nat.mul_comm (n / P % Q) P, ← Nat.mul_add, h2]
    omega
  rw [e, Nat.mul_add_div hP, Nat.div_eq_of_lt (Nat.mod_lt _ hP), Nat.add_zero, Nat.mul_mod_right]
theorem lt_u64 {n : Nat} (h : n < 18446744073709551616) : n < 2 ^ IntKind.u64.bits := h
theorem movk_gen (n b lo : Nat) (hl : lo + 16 ≤ 64) (hn : n < 18446744073709551616) (hb : b < 65536) : Go.bits .or .u64 (Go.bits .andNot .u64 (n : Int) (((2 ^ 16 - 1) * 2 ^ lo : Nat) : Int)) ((b * 2 ^ lo : Nat) : Int) = ((n - n / 2 ^ lo % 2 ^ 16 * 2 ^ lo + b * 2 ^ lo : Nat) : Int) := by
  have h1 : b * 2 ^ lo < 18446744073709551616 := by
    have h1 : b * 2 ^ lo < 2 ^ 16 * 2 ^ lo := Nat.mul_lt_mul_of_pos_right (by omega) (Nat.two_pow_pos lo)
    rw [← Nat.pow_add] at h1
    exact Nat.lt_of_lt_of_le h1 (Nat.pow_le_pow_right (j := 64) (by decide) (by omega))
  rw [nat_andNot .u64 n lo 16 rfl (lt_u64 hn) (by show 16 + lo ≤ 64; omega), nat_or .u64 _ _ rfl (lt_u64 (by omega)) (lt_u64 h1), or_apart _ lo 16 b hb (clear0 n _ _ (Nat.two_pow_pos lo) (Nat.two_pow_pos 16))]
theorem mask_at (p : Nat) (hp : p < 4) : w64 (65535 * sh6 (p : Int)) = (((2 ^ 16 - 1) * 2 ^ (16 * p) : Nat) : Int) := by
  rw [sh_at p hp, u64w]
  match p, hp with
  | 0, _ => rfl
  | 1, _ => rfl
  | 2, _ => rfl
  | 3, _ => rfl
  | p + 4, h => omega
theorem movz_at (p : Nat) (hp : p < 4) (b : Nat) (h1 : b < 65536) : w64 (w64 (b : Int) * sh6 (p : Int)) = ((b * 2 ^ (16 * p) : Nat) : Int) := by
  rw [sh_at p hp, u64w (b : Int), u64w]
  match p, hp with
  | 0, _ => simp only [Nat.reduceMul, Nat.reducePow]; omega
  | 1, _ => simp only [Nat.reduceMul, Nat.reducePow]; omega
  | 2, _ => simp only [Nat.reduceMul, Nat.reducePow]; omega
  | 3, _ => simp only [Nat.reduceMul, Nat.reducePow]; omega
  | p + 4, h => omega
theorem movk_ok (p : Nat) (hp : p < 4) (x a : Int) (x0 : 0 ≤ x) (x1 : x < 18446744073709551616) (h0 : 0 ≤ a) (h1 : a < 65536) :
    Go.bits .or .u64 (Go.bits .andNot .u64 x (w64 (65535 * sh6 (p : Int)))) (w64 (w64 a * sh6 (p : Int))) = lay x p a := by
  obtain ⟨n, rfl⟩ := Int.eq_ofNat_of_zero_le x0
  obtain ⟨b, rfl⟩ := Int.eq_ofNat_of_zero_le h0
  rw [mask_at p hp, movz_at p hp b (by omega), movk_gen n b (16 * p) (by omega) (by omega) (by omega)]
  match p, hp with
  | 0, _ => unfold lay; simp only [Nat.reduceMul, Nat.reducePow]; omega
  | 1, _ => unfold lay; simp only [Nat.reduceMul, Nat.reducePow]; omega
  | 2, _ => unfold lay; simp only [Nat.reduceMul, Nat.reducePow]; omega
  | 3, _ => unfold lay; simp only [Nat.reduceMul, Nat.reducePow]; omega
  | p + 4, h => omega
theorem part_at (v : Int) (p : Nat) (hp : p < 4) (v0 : 0 ≤ v) (v1 : v < 18446744073709551616) : part v p = v / ((2 ^ (16 * p) : Nat) : Int) % 65536 := by
  unfold part
  have key : ∀ q : Int, 0 ≤ q → q < 18446744073709551616 → IntKind.i64.wrap (Go.bits .and .u64 q 65535) = q % 65536 := by
    intro q q0 q1
    obtain ⟨n, rfl⟩ := Int.eq_ofNat_of_zero_le q0
    have e : Go.bits .and .u64 (n : Int) 65535 = ((n &&& ((2 ^ 16 - 1) * 2 ^ 0) : Nat) : Int) := nat_and .u64 n _ rfl (by show n < 18446744073709551616; omega) (by decide)
    rw [e, and_mask n 0 16]
    show IntKind.i64.wrap ((n / 1 % 65536 * 1 : Nat) : Int) = _
    rw [wrap_i64_in (by omega) (by omega)]
    omega
  have hf : v.fdiv (2 ^ (16 * p)) = v / ((2 ^ (16 * p) : Nat) : Int) := by
    rw [Int.fdiv_eq_ediv_of_nonneg _ (by exact_mod_cast Nat.zero_le _)]
    norm_cast
  rw [hf]
  refine key _ ?_ ?_
  · exact Int.ediv_nonneg v0 (by exact_mod_cast Nat.zero_le _)
  · have : v / ((2 ^ (16 * p) : Nat) : Int) ≤ v := Int.ediv_le_self _ v0
    omega
theorem part_in (v : Int) (p : Nat) (hp : p < 4) (v0 : 0 ≤ v) (v1 : v < 18446744073709551616) : 0 ≤ part v p ∧ part v p < 65536 := by
  rw [part_at v p hp v0 v1]
  omega
theorem setX_at {x : Nat → Int} {d v : Int} (d0 : 0 ≤ d) (d1 : d ≤ 30) (i : Nat) : setX x d v i = if (i : Int) = d then v else x i := by
  unfold setX
  rw [decide_eq_true (show 0 ≤ d ∧ d < 31 by omega)]
  by_cases h : (i : Int) = d
  · rw [if_pos h, decide_eq_true h]
  · rw [if_neg h, decide_eq_false h]
theorem lay_in {y : Int} {p : Nat} {a : Int} (y0 : 0 ≤ y) (y1 : y < 18446744073709551616) (hp : p < 4) (a0 : 0 ≤ a) (a1 : a < 65536) : 0 ≤ lay y p a ∧ lay y p a < 18446744073709551616 := by
  match p, hp with
  | 0, _ => simp only [lay]; omega
  | 1, _ => simp only [lay]; omega
  | 2, _ => simp only [lay]; omega
  | 3, _ => simp only [lay]; omega
  | p + 4, h => omega
theorem ok_chk {op d im : Int} {p : Nat} (ho : op = 2 ∨ op = 3) (d0 : 0 ≤ d) (d1 : d ≤ 30) (hp : p < 4) (i0 : 0 ≤ im) (i1 : im < 65536) : chkV op d 0 (p : Nat) 0 0 im = 0 := by
  unfold chkV
  refine if_pos ?_
  rcases ho with rfl | rfl
  all_goals
    refine ⟨by omega, ?_⟩
    show (0 ≤ d ∧ d ≤ 31) ∧ (0 : Int) = 0 ∧ (0 ≤ (p : Int) ∧ (p : Int) ≤ 31) ∧ (0 : Int) = 0 ∧ (0 : Int) = 0 ∧ True ∧ (0 ≤ im ∧ im < 65536 ∧ (p : Int) ≤ 3)
    exact ⟨by omega, rfl, by omega, rfl, rfl, trivial, by omega⟩
end Go.Proofs.Ytalgegmcllcnmaa.labConsts
end
section
/- A word is one. Printed by genword.py. -/
namespace Go.Proofs.Ytalgegmcllcnmaa.isa
open Go Go.Proofs Go.Proofs.YtalgegmcllcnmaaRL
set_option linter.unusedVariables false
set_option linter.unusedSimpArgs false
theorem bar_lt (imm : Int) : 0 ≤ bar imm ∧ bar imm < 12 := by
  unfold bar
  repeat' split
  all_goals omega
theorem wordP_lt {d n m a c imm : Int} : ∀ k : Nat, k < 43 → okP k d n m a c imm → 0 ≤ wordP k d n m a c imm ∧ wordP k d n m a c imm < 4294967296
  | 0, _, h => by
    obtain ⟨hd, hn, hm, ha, hc, hz, hi⟩ : d = 0 ∧ n = 0 ∧ m = 0 ∧ a = 0 ∧ c = 0 ∧ True ∧ (0 ≤ imm ∧ imm < 65536) := h
    have hb := bar_lt imm
    show 0 ≤ 0 + imm ∧ 0 + imm < 4294967296
    omega
  | 1, _, h => by
    obtain ⟨hd, hn, hm, ha, hc, hz, hi⟩ : d = 0 ∧ n = 0 ∧ m = 0 ∧ a = 0 ∧ c = 0 ∧ imm = 0 ∧ (True) := h
    have hb := bar_lt imm
    show 0 ≤ 3573751839 ∧ 3573751839 < 4294967296
    omega
  | 2, _, h => by
    obtain ⟨hd, hn, hm, ha, hc, hz, hi⟩ : (0 ≤ d ∧ d ≤ 31) ∧ n = 0 ∧ (0 ≤ m ∧ m ≤ 31) ∧ a = 0 ∧ c = 0 ∧ True ∧ (0 ≤ imm ∧ imm < 65536 ∧ m ≤ 3) := h
    have hb := bar_lt imm
    show 0 ≤ 3531603968 + m * 2097152 + imm * 32 + d ∧ 3531603968 + m * 2097152 + imm * 32 + d < 4294967296
    omega
  | 3, _, h => by
    obtain ⟨hd, hn, hm, ha, hc, hz, hi⟩ : (0 ≤ d ∧ d ≤ 31) ∧ n = 0 ∧ (0 ≤ m ∧ m ≤ 31) ∧ a = 0 ∧ c = 0 ∧ True ∧ (0 ≤ imm ∧ imm < 65536 ∧ m ≤ 3) := h
    have hb := bar_lt imm
    show 0 ≤ 4068474880 + m * 2097152 + imm * 32 + d ∧ 4068474880 + m * 2097152 + imm * 32 + d < 4294967296
    omega
  | 4, _, h => by
    obtain ⟨hd, hn, hm, ha, hc, hz, hi⟩ : (0 ≤ d ∧ d ≤ 31) ∧ (0 ≤ n ∧ n ≤ 31) ∧ m = 0 ∧ a = 0 ∧ c = 0 ∧ True ∧ (0 ≤ imm ∧ imm < 4096) := h
    have hb := bar_lt imm
    show 0 ≤ 2432696320 + n * 32 + imm * 1024 + d ∧ 2432696320 + n * 32 + imm * 1024 + d < 4294967296
    omega
  | 5, _, h => by
    obtain ⟨hd, hn, hm, ha, hc, hz, hi⟩ : (0 ≤ d ∧ d ≤ 31) ∧ (0 ≤ n ∧ n ≤ 31) ∧ m = 0 ∧ a = 0 ∧ c = 0 ∧ True ∧ (0 ≤ imm ∧ imm < 4096) := h
    have hb := bar_lt imm
    show 0 ≤ 3506438144 + n * 32 + imm * 1024 + d ∧ 3506438144 + n * 32 + imm * 1024 + d < 4294967296
    omega
  | 6, _, h => by
    obtain ⟨hd, hn, hm, ha, hc, hz, hi⟩ : (0 ≤ d ∧ d ≤ 31) ∧ (0 ≤ n ∧ n ≤ 31) ∧ m = 0 ∧ a = 0 ∧ c = 0 ∧ True ∧ (0 ≤ imm ∧ imm < 4096) := h
    have hb := bar_lt imm
    show 0 ≤ 4043309056 + n * 32 + imm * 1024 + d ∧ 4043309056 + n * 32 + imm * 1024 + d < 4294967296
    omega
  | 7, _, h => by
    obtain ⟨hd, hn, hm, ha, hc, hz, hi⟩ : (0 ≤ d ∧ d ≤ 31) ∧ (0 ≤ n ∧ n ≤ 31) ∧ (0 ≤ m ∧ m ≤ 31) ∧ a = 0 ∧ c = 0 ∧ imm = 0 ∧ (True) := h
    have hb := bar_lt imm
    show 0 ≤ 2332033024 + n * 32 + m * 65536 + d ∧ 2332033024 + n * 32 + m * 65536 + d < 4294967296
    omega
  | 8, _, h => by
    obtain ⟨hd, hn, hm, ha, hc, hz, hi⟩ : (0 ≤ d ∧ d ≤ 31) ∧ (0 ≤ n ∧ n ≤ 31) ∧ (0 ≤ m ∧ m ≤ 31) ∧ a = 0 ∧ c = 0 ∧ imm = 0 ∧ (True) := h
    have hb := bar_lt imm
    show 0 ≤ 3405774848 + n * 32 + m * 65536 + d ∧ 3405774848 + n * 32 + m * 65536 + d < 4294967296
    omega
  | 9, _, h => by
    obtain ⟨hd, hn, hm, ha, hc, hz, hi⟩ : (0 ≤ d ∧ d ≤ 31) ∧ (0 ≤ n ∧ n ≤ 31) ∧ (0 ≤ m ∧ m ≤ 31) ∧ a = 0 ∧ c = 0 ∧ imm = 0 ∧ (True) := h
    have hb := bar_lt imm
    show 0 ≤ 3942645760 + n * 32 + m * 65536 + d ∧ 3942645760 + n * 32 + m * 65536 + d < 4294967296
    omega
  | 10, _, h => by
    obtain ⟨hd, hn, hm, ha, hc, hz, hi⟩ : (0 ≤ d ∧ d ≤ 31) ∧ (0 ≤ n ∧ n ≤ 31) ∧ (0 ≤ m ∧ m ≤ 31) ∧ a = 0 ∧ c = 0 ∧ imm = 0 ∧ (True) := h
    have hb := bar_lt imm
    show 0 ≤ 2315255808 + n * 32 + m * 65536 + d ∧ 2315255808 + n * 32 + m * 65536 + d < 4294967296
    omega
  | 11, _, h => by
    obtain ⟨hd, hn, hm, ha, hc, hz, hi⟩ : (0 ≤ d ∧ d ≤ 31) ∧ (0 ≤ n ∧ n ≤ 31) ∧ (0 ≤ m ∧ m ≤ 31) ∧ a = 0 ∧ c = 0 ∧ imm = 0 ∧ (True) := h
    have hb := bar_lt imm
    show 0 ≤ 2852126720 + n * 32 + m * 65536 + d ∧ 2852126720 + n * 32 + m * 65536 + d < 4294967296
    omega
  | 12, _, h => by
    obtain ⟨hd, hn, hm, ha, hc, hz, hi⟩ : (0 ≤ d ∧ d ≤ 31) ∧ (0 ≤ n ∧ n ≤ 31) ∧ (0 ≤ m ∧ m ≤ 31) ∧ a = 0 ∧ c = 0 ∧ imm = 0 ∧ (True) := h
    have hb := bar_lt imm
    show 0 ≤ 3388997632 + n * 32 + m * 65536 + d ∧ 3388997632 + n * 32 + m * 65536 + d < 4294967296
    omega
  | 13, _, h => by
    obtain ⟨hd, hn, hm, ha, hc, hz, hi⟩ : (0 ≤ d ∧ d ≤ 31) ∧ (0 ≤ n ∧ n ≤ 31) ∧ (0 ≤ m ∧ m ≤ 31) ∧ (0 ≤ a ∧ a ≤ 31) ∧ c = 0 ∧ imm = 0 ∧ (True) := h
    have hb := bar_lt imm
    show 0 ≤ 2600468480 + n * 32 + m * 65536 + a * 1024 + d ∧ 2600468480 + n * 32 + m * 65536 + a * 1024 + d < 4294967296
    omega
  | 14, _, h => by
    obtain ⟨hd, hn, hm, ha, hc, hz, hi⟩ : (0 ≤ d ∧ d ≤ 31) ∧ (0 ≤ n ∧ n ≤ 31) ∧ (0 ≤ m ∧ m ≤ 31) ∧ (0 ≤ a ∧ a ≤ 31) ∧ c = 0 ∧ imm = 0 ∧ (True) := h
    have hb := bar_lt imm
    show 0 ≤ 2600501248 + n * 32 + m * 65536 + a * 1024 + d ∧ 2600501248 + n * 32 + m * 65536 + a * 1024 + d < 4294967296
    omega
  | 15, _, h => by
    obtain ⟨hd, hn, hm, ha, hc, hz, hi⟩ : (0 ≤ d ∧ d ≤ 31) ∧ (0 ≤ n ∧ n ≤ 31) ∧ (0 ≤ m ∧ m ≤ 31) ∧ a = 0 ∧ c = 0 ∧ imm = 0 ∧ (True) := h
    have hb := bar_lt imm
    show 0 ≤ 2596277248 + n * 32 + m * 65536 + d ∧ 2596277248 + n * 32 + m * 65536 + d < 4294967296
    omega
  | 16, _, h => by
    obtain ⟨hd, hn, hm, ha, hc, hz, hi⟩ : (0 ≤ d ∧ d ≤ 31) ∧ (0 ≤ n ∧ n ≤ 31) ∧ (0 ≤ m ∧ m ≤ 31) ∧ a = 0 ∧ c = 0 ∧ imm = 0 ∧ (True) := h
    have hb := bar_lt imm
    show 0 ≤ 2596282368 + n * 32 + m * 65536 + d ∧ 2596282368 + n * 32 + m * 65536 + d < 4294967296
    omega
  | 17, _, h => by
    obtain ⟨hd, hn, hm, ha, hc, hz, hi⟩ : (0 ≤ d ∧ d ≤ 31) ∧ (0 ≤ n ∧ n ≤ 31) ∧ (0 ≤ m ∧ m ≤ 31) ∧ a = 0 ∧ c = 0 ∧ imm = 0 ∧ (True) := h
    have hb := bar_lt imm
    show 0 ≤ 2596283392 + n * 32 + m * 65536 + d ∧ 2596283392 + n * 32 + m * 65536 + d < 4294967296
    omega
  | 18, _, h => by
    obtain ⟨hd, hn, hm, ha, hc, hz, hi⟩ : (0 ≤ d ∧ d ≤ 31) ∧ (0 ≤ n ∧ n ≤ 31) ∧ (0 ≤ m ∧ m ≤ 31) ∧ a = 0 ∧ c = 0 ∧ imm = 0 ∧ (True) := h
    have hb := bar_lt imm
    show 0 ≤ 2596284416 + n * 32 + m * 65536 + d ∧ 2596284416 + n * 32 + m * 65536 + d < 4294967296
    omega
  | 19, _, h => by
    obtain ⟨hd, hn, hm, ha, hc, hz, hi⟩ : (0 ≤ d ∧ d ≤ 31) ∧ (0 ≤ n ∧ n ≤ 31) ∧ (0 ≤ m ∧ m ≤ 31) ∧ a = 0 ∧ (0 ≤ c ∧ c ≤ 15) ∧ imm = 0 ∧ (True) := h
    have hb := bar_lt imm
    show 0 ≤ 2592080896 + n * 32 + c * 4096 + m * 65536 + d ∧ 2592080896 + n * 32 + c * 4096 + m * 65536 + d < 4294967296
    omega
  | 20, _, h => by
    obtain ⟨hd, hn, hm, ha, hc, hz, hi⟩ : d = 0 ∧ n = 0 ∧ m = 0 ∧ a = 0 ∧ c = 0 ∧ True ∧ (imm % 4 = 0 ∧ -134217728 ≤ imm ∧ imm < 134217728) := h
    have hb := bar_lt imm
    show 0 ≤ 335544320 + ((imm / 4) % 67108864) ∧ 335544320 + ((imm / 4) % 67108864) < 4294967296
    omega
  | 21, _, h => by
    obtain ⟨hd, hn, hm, ha, hc, hz, hi⟩ : d = 0 ∧ n = 0 ∧ m = 0 ∧ a = 0 ∧ (0 ≤ c ∧ c ≤ 15) ∧ True ∧ (imm % 4 = 0 ∧ -1048576 ≤ imm ∧ imm < 1048576 ∧ c ≤ 13) := h
    have hb := bar_lt imm
    show 0 ≤ 1409286144 + ((imm / 4) % 524288) * 32 + c ∧ 1409286144 + ((imm / 4) % 524288) * 32 + c < 4294967296
    omega
  | 22, _, h => by
    obtain ⟨hd, hn, hm, ha, hc, hz, hi⟩ : (0 ≤ d ∧ d ≤ 31) ∧ n = 0 ∧ m = 0 ∧ a = 0 ∧ c = 0 ∧ True ∧ (imm % 4 = 0 ∧ -1048576 ≤ imm ∧ imm < 1048576) := h
    have hb := bar_lt imm
    show 0 ≤ 3019898880 + ((imm / 4) % 524288) * 32 + d ∧ 3019898880 + ((imm / 4) % 524288) * 32 + d < 4294967296
    omega
  | 23, _, h => by
    obtain ⟨hd, hn, hm, ha, hc, hz, hi⟩ : (0 ≤ d ∧ d ≤ 31) ∧ n = 0 ∧ m = 0 ∧ a = 0 ∧ c = 0 ∧ True ∧ (imm % 4 = 0 ∧ -1048576 ≤ imm ∧ imm < 1048576) := h
    have hb := bar_lt imm
    show 0 ≤ 3036676096 + ((imm / 4) % 524288) * 32 + d ∧ 3036676096 + ((imm / 4) % 524288) * 32 + d < 4294967296
    omega
  | 24, _, h => by
    obtain ⟨hd, hn, hm, ha, hc, hz, hi⟩ : d = 0 ∧ n = 0 ∧ m = 0 ∧ a = 0 ∧ c = 0 ∧ True ∧ (imm % 4 = 0 ∧ -134217728 ≤ imm ∧ imm < 134217728) := h
    have hb := bar_lt imm
    show 0 ≤ 2483027968 + ((imm / 4) % 67108864) ∧ 2483027968 + ((imm / 4) % 67108864) < 4294967296
    omega
  | 25, _, h => by
    obtain ⟨hd, hn, hm, ha, hc, hz, hi⟩ : d = 0 ∧ (0 ≤ n ∧ n ≤ 31) ∧ m = 0 ∧ a = 0 ∧ c = 0 ∧ imm = 0 ∧ (True) := h
    have hb := bar_lt imm
    show 0 ≤ 3592355840 + n * 32 ∧ 3592355840 + n * 32 < 4294967296
    omega
  | 26, _, h => by
    obtain ⟨hd, hn, hm, ha, hc, hz, hi⟩ : d = 0 ∧ (0 ≤ n ∧ n ≤ 31) ∧ m = 0 ∧ a = 0 ∧ c = 0 ∧ imm = 0 ∧ (True) := h
    have hb := bar_lt imm
    show 0 ≤ 3594452992 + n * 32 ∧ 3594452992 + n * 32 < 4294967296
    omega
  | 27, _, h => by
    obtain ⟨hd, hn, hm, ha, hc, hz, hi⟩ : d = 0 ∧ (0 ≤ n ∧ n ≤ 31) ∧ m = 0 ∧ a = 0 ∧ c = 0 ∧ imm = 0 ∧ (True) := h
    have hb := bar_lt imm
    show 0 ≤ 3596550144 + n * 32 ∧ 3596550144 + n * 32 < 4294967296
    omega
  | 28, _, h => by
    obtain ⟨hd, hn, hm, ha, hc, hz, hi⟩ : (0 ≤ d ∧ d ≤ 31) ∧ (0 ≤ n ∧ n ≤ 31) ∧ m = 0 ∧ a = 0 ∧ c = 0 ∧ True ∧ (0 ≤ imm ∧ imm < 32768 ∧ imm % 8 = 0) := h
    have hb := bar_lt imm
    show 0 ≤ 4181721088 + n * 32 + (imm / 8) * 1024 + d ∧ 4181721088 + n * 32 + (imm / 8) * 1024 + d < 4294967296
    omega
  | 29, _, h => by
    obtain ⟨hd, hn, hm, ha, hc, hz, hi⟩ : (0 ≤ d ∧ d ≤ 31) ∧ (0 ≤ n ∧ n ≤ 31) ∧ m = 0 ∧ a = 0 ∧ c = 0 ∧ True ∧ (0 ≤ imm ∧ imm < 32768 ∧ imm % 8 = 0) := h
    have hb := bar_lt imm
    show 0 ≤ 4177526784 + n * 32 + (imm / 8) * 1024 + d ∧ 4177526784 + n * 32 + (imm / 8) * 1024 + d < 4294967296
    omega
  | 30, _, h => by
    obtain ⟨hd, hn, hm, ha, hc, hz, hi⟩ : (0 ≤ d ∧ d ≤ 31) ∧ (0 ≤ n ∧ n ≤ 31) ∧ m = 0 ∧ a = 0 ∧ c = 0 ∧ True ∧ (0 ≤ imm ∧ imm < 4096) := h
    have hb := bar_lt imm
    show 0 ≤ 960495616 + n * 32 + imm * 1024 + d ∧ 960495616 + n * 32 + imm * 1024 + d < 4294967296
    omega
  | 31, _, h => by
    obtain ⟨hd, hn, hm, ha, hc, hz, hi⟩ : (0 ≤ d ∧ d ≤ 31) ∧ (0 ≤ n ∧ n ≤ 31) ∧ (0 ≤ m ∧ m ≤ 31) ∧ a = 0 ∧ c = 0 ∧ imm = 0 ∧ (True) := h
    have hb := bar_lt imm
    show 0 ≤ 4167071744 + n * 32 + m * 65536 + d ∧ 4167071744 + n * 32 + m * 65536 + d < 4294967296
    omega
  | 32, _, h => by
    obtain ⟨hd, hn, hm, ha, hc, hz, hi⟩ : (0 ≤ d ∧ d ≤ 31) ∧ (0 ≤ n ∧ n ≤ 31) ∧ (0 ≤ m ∧ m ≤ 31) ∧ a = 0 ∧ c = 0 ∧ imm = 0 ∧ (True) := h
    have hb := bar_lt imm
    show 0 ≤ 4162877440 + n * 32 + m * 65536 + d ∧ 4162877440 + n * 32 + m * 65536 + d < 4294967296
    omega
  | 33, _, h => by
    obtain ⟨hd, hn, hm, ha, hc, hz, hi⟩ : (0 ≤ d ∧ d ≤ 31) ∧ (0 ≤ n ∧ n ≤ 31) ∧ m = 0 ∧ a = 0 ∧ c = 0 ∧ imm = 0 ∧ (True) := h
    have hb := bar_lt imm
    show 0 ≤ 3370122240 + n * 32 + d ∧ 3370122240 + n * 32 + d < 4294967296
    omega
  | 34, _, h => by
    obtain ⟨hd, hn, hm, ha, hc, hz, hi⟩ : (0 ≤ d ∧ d ≤ 31) ∧ (0 ≤ n ∧ n ≤ 31) ∧ m = 0 ∧ a = 0 ∧ c = 0 ∧ imm = 0 ∧ (True) := h
    have hb := bar_lt imm
    show 0 ≤ 3365927936 + n * 32 + d ∧ 3365927936 + n * 32 + d < 4294967296
    omega
  | 35, _, h => by
    obtain ⟨hd, hn, hm, ha, hc, hz, hi⟩ : (0 ≤ d ∧ d ≤ 31) ∧ (0 ≤ n ∧ n ≤ 31) ∧ m = 0 ∧ a = 0 ∧ c = 0 ∧ imm = 0 ∧ (True) := h
    have hb := bar_lt imm
    show 0 ≤ 3361700864 + n * 32 + d ∧ 3361700864 + n * 32 + d < 4294967296
    omega
  | 36, _, h => by
    obtain ⟨hd, hn, hm, ha, hc, hz, hi⟩ : (0 ≤ d ∧ d ≤ 31) ∧ (0 ≤ n ∧ n ≤ 31) ∧ (0 ≤ m ∧ m ≤ 31) ∧ a = 0 ∧ c = 0 ∧ imm = 0 ∧ (True) := h
    have hb := bar_lt imm
    show 0 ≤ 3355474944 + d * 65536 + n * 32 + m ∧ 3355474944 + d * 65536 + n * 32 + m < 4294967296
    omega
  | 37, _, h => by
    obtain ⟨hd, hn, hm, ha, hc, hz, hi⟩ : d = 0 ∧ n = 0 ∧ m = 0 ∧ a = 0 ∧ c = 0 ∧ True ∧ (0 ≤ imm ∧ imm ≤ 2) := h
    have hb := bar_lt imm
    show 0 ≤ 3573756095 + (bar imm) * 256 ∧ 3573756095 + (bar imm) * 256 < 4294967296
    omega
  | 38, _, h => by
    obtain ⟨hd, hn, hm, ha, hc, hz, hi⟩ : d = 0 ∧ n = 0 ∧ m = 0 ∧ a = 0 ∧ c = 0 ∧ imm = 0 ∧ (True) := h
    have hb := bar_lt imm
    show 0 ≤ 3573758879 ∧ 3573758879 < 4294967296
    omega
  | 39, _, h => by
    obtain ⟨hd, hn, hm, ha, hc, hz, hi⟩ : d = 0 ∧ n = 0 ∧ m = 0 ∧ a = 0 ∧ c = 0 ∧ imm = 0 ∧ (True) := h
    have hb := bar_lt imm
    show 0 ≤ 3573759967 ∧ 3573759967 < 4294967296
    omega
  | 40, _, h => by
    obtain ⟨hd, hn, hm, ha, hc, hz, hi⟩ : d = 0 ∧ (0 ≤ n ∧ n ≤ 31) ∧ m = 0 ∧ a = 0 ∧ c = 0 ∧ imm = 0 ∧ (True) := h
    have hb := bar_lt imm
    show 0 ≤ 3574299424 + n ∧ 3574299424 + n < 4294967296
    omega
  | 41, _, h => by
    obtain ⟨hd, hn, hm, ha, hc, hz, hi⟩ : d = 0 ∧ (0 ≤ n ∧ n ≤ 31) ∧ m = 0 ∧ a = 0 ∧ c = 0 ∧ imm = 0 ∧ (True) := h
    have hb := bar_lt imm
    show 0 ≤ 3574297888 + n ∧ 3574297888 + n < 4294967296
    omega
  | 42, _, h => by
    obtain ⟨hd, hn, hm, ha, hc, hz, hi⟩ : d = 0 ∧ n = 0 ∧ m = 0 ∧ a = 0 ∧ c = 0 ∧ True ∧ (0 ≤ imm ∧ imm < 65536) := h
    have hb := bar_lt imm
    show 0 ≤ 3556769793 + imm * 32 ∧ 3556769793 + imm * 32 < 4294967296
    omega
  | k + 43, h, _ => absurd h (by omega)
theorem wordV_lt (op d n m a c imm : Int) : 0 ≤ wordV op d n m a c imm ∧ wordV op d n m a c imm < 4294967296 := by
  unfold wordV
  split
  · rename_i h
    exact wordP_lt op.toNat (by have := h.1; omega) h.2
  · omega
end Go.Proofs.Ytalgegmcllcnmaa.isa
end
