/- Parts of the proof, one behind the other. -/
import Derived.Test.YtolohpkjpgbahaazSemFramesRLRow2
import Derived.Test.YtolohpkjpgbahaazSemFramesRLT
import Derived.Test.YtolohpkjpgbahaazSemFramesIPlainD
import Derived.Test.YtolohpkjpgbahaazSemFramesIInD
section
/- Registers as functions; reads, writes, conditions. Printed by genreg.py. -/
namespace Go.Proofs.Ytolohpkjpgbahaa.isa
open Go Go.Proofs Go.Proofs.YtolohpkjpgbahaaRL
set_option linter.unusedVariables false
set_option linter.unusedSimpArgs false
def regs (x : Nat → Int) (nf zf cf vf : Bool) : V := .agg (numsV .u64 x 32 ++ [.raw (.bool nf), .raw (.bool zf), .raw (.bool cf), .raw (.bool vf)])
def readRegs : V → Option ((Nat → Int) × Bool × Bool × Bool × Bool)
  | .agg cs => match readNums .u64 32 cs with
    | some (xs, [.raw (.bool nf), .raw (.bool zf), .raw (.bool cf), .raw (.bool vf)]) => some (fun i => xs.getD i 0, nf, zf, cf, vf)
    | _ => none
  | _ => none
theorem rawsOk_regs {ws : List V} (h : rawsOk (List.replicate 32 (.int .u64) ++ [.bool, .bool, .bool, .bool]) ws) : ∃ x nf zf cf vf, (∀ i, i < 32 → (Lit.int .u64 (x i)).wf = true) ∧ V.agg ws = regs x nf zf cf vf := by
  obtain ⟨x, hx, ws1, h1, rfl⟩ := rawsOk_nums (m := 32) h
  obtain ⟨nf, ws2, rfl, h2⟩ := rawsOk_bool h1
  obtain ⟨zf, ws3, rfl, h3⟩ := rawsOk_bool h2
  obtain ⟨cf, ws4, rfl, h4⟩ := rawsOk_bool h3
  obtain ⟨vf, ws5, rfl, h5⟩ := rawsOk_bool h4
  cases rawsOk_nil h5
  exact ⟨x, nf, zf, cf, vf, hx, rfl⟩
theorem readRegs_eq {v : V} {x : Nat → Int} {nf zf cf vf : Bool} (h : readRegs v = some (x, nf, zf, cf, vf)) : v = regs x nf zf cf vf := by
  unfold readRegs at h
  split at h
  · split at h
    · rename_i hr
      cases h
      rw [readNums_eq hr]; rfl
    · cases h
  · cases h
def getX (x : Nat → Int) (n : Int) : Int := match decide (0 ≤ n ∧ n < 31) with
  | true => x n.toNat
  | false => match n == 32 with
    | true => x 31
    | false => 0
def setX (x : Nat → Int) (n v : Int) (i : Nat) : Int := match decide (0 ≤ n ∧ n < 31) with
  | true => (match decide ((i : Int) = n) with | true => v | false => x i)
  | false => match n == 32 with
    | true => (match Nat.beq i 31 with | true => v | false => x i)
    | false => x i
def holdsX (c : Int) (nf zf cf vf : Bool) : Bool := match decide (0 ≤ c ∧ c < 16) with
  | false => false
  | true => match c.toNat with
    | 0 => zf | 1 => !zf | 2 => cf | 3 => !cf | 4 => nf | 5 => !nf | 6 => vf | 7 => !vf
    | 8 => cf && !zf | 9 => !(cf && !zf) | 10 => nf == vf | 11 => !(nf == vf) | 12 => !zf && nf == vf | 13 => !(!zf && nf == vf)
    | _ => true
theorem reg_out {n : Int} (hn : ¬ (0 ≤ n ∧ n < 31)) : n = 31 ∨ n = 32 ∨ (∃ k, n = Int.negSucc k) ∨ ∃ k, n = Int.ofNat (k + 33) := by
  rcases n with k | k
  · have h2 : ¬ k < 31 := fun h => hn ⟨Int.natCast_nonneg k, by show (k : Int) < 31; omega⟩
    by_cases h3 : k = 31
    · subst h3; exact Or.inl rfl
    · by_cases h4 : k = 32
      · subst h4; exact Or.inr (Or.inl rfl)
      · exact Or.inr (Or.inr (Or.inr ⟨k - 33, by congr 1; omega⟩))
  · exact Or.inr (Or.inr (Or.inl ⟨k, rfl⟩))
theorem cond_out {n : Int} (hn : ¬ (0 ≤ n ∧ n < 16)) : (∃ k, n = Int.negSucc k) ∨ ∃ k, n = Int.ofNat (k + 16) := by
  rcases n with k | k
  · have h2 : ¬ k < 16 := fun h => hn ⟨Int.natCast_nonneg k, by show (k : Int) < 16; omega⟩
    exact Or.inr ⟨k - 16, by congr 1; omega⟩
  · exact Or.inl ⟨k, rfl⟩
def gGet (args : List V) : Option V := match args with
  | [r, .raw (.int .i64 n)] => match readRegs r with
    | some (x, _, _, _, _) => some (.raw (.int .u64 (getX x n)))
    | none => none
  | _ => none
def gSet (args : List V) : Option V := match args with
  | [r, .raw (.int .i64 n), .raw (.int .u64 v)] => match readRegs r with
    | some (x, nf, zf, cf, vf) => some (regs (setX x n v) nf zf cf vf)
    | none => none
  | _ => none
def gHolds (args : List V) : Option V := match args with
  | [r, .raw (.int .i64 c)] => match readRegs r with
    | some (x, nf, zf, cf, vf) => some (.raw (.bool (holdsX c nf zf cf vf)))
    | none => none
  | _ => none
def norm (x : Nat → Int) : Nat → Int := fun i => ((List.range 32).map x).getD i 0
theorem bd_nums (k : IntKind) (x : Nat → Int) (m b : Nat) : bdL b (numsV k x m) := by
  rw [bdL_iff]; intro v hv
  unfold numsV at hv
  obtain ⟨i, _, rfl⟩ := List.mem_map.1 hv
  trivial
theorem bd_regs (x : Nat → Int) (nf zf cf vf : Bool) (b : Nat) : (regs x nf zf cf vf).bd b := by
  unfold regs
  show bdL b _
  rw [bdL_iff]; intro v hv
  rcases List.mem_append.1 hv with h | h
  · exact bdL_iff.1 (bd_nums _ _ _ _) v h
  · simp at h; rcases h with rfl | rfl | rfl | rfl <;> trivial
theorem gGet_ok {f : FuncId} (hf : ∀ (x : Nat → Int) (nf zf cf vf : Bool) (n : Int), CallOk Try.prog f [regs x nf zf cf vf, .raw (.int .i64 n)] [] fun r _ => r = .ret (.raw (.int .u64 (getX x n)))) (args : List V) (v : V) (h : gGet args = some v) : bdL 0 args ∧ v.bd 0 ∧ CallOk Try.prog f args [] fun r _ => r = .ret v := by
  unfold gGet at h
  split at h
  · split at h
    · rename_i hr
      cases h
      have hr := readRegs_eq hr
      subst hr
      exact ⟨⟨bd_regs _ _ _ _ _ _, trivial, trivial⟩, trivial, hf _ _ _ _ _ _⟩
    · cases h
  · cases h
theorem gSet_ok {f : FuncId} (hf : ∀ (x : Nat → Int) (nf zf cf vf : Bool) (n v : Int), CallOk Try.prog f [regs x nf zf cf vf, .raw (.int .i64 n), .raw (.int .u64 v)] [] fun r _ => r = .ret (regs (setX x n v) nf zf cf vf)) (args : List V) (v : V) (h : gSet args = some v) : bdL 0 args ∧ v.bd 0 ∧ CallOk Try.prog f args [] fun r _ => r = .ret v := by
  unfold gSet at h
  split at h
  · split at h
    · rename_i hr
      cases h
      have hr := readRegs_eq hr
      subst hr
      exact ⟨⟨bd_regs _ _ _ _ _ _, trivial, trivial, trivial⟩, bd_regs _ _ _ _ _ _, hf _ _ _ _ _ _ _⟩
    · cases h
  · cases h
theorem gHolds_ok {f : FuncId} (hf : ∀ (x : Nat → Int) (nf zf cf vf : Bool) (c : Int), CallOk Try.prog f [regs x nf zf cf vf, .raw (.int .i64 c)] [] fun r _ => r = .ret (.raw (.bool (holdsX c nf zf cf vf)))) (args : List V) (v : V) (h : gHolds args = some v) : bdL 0 args ∧ v.bd 0 ∧ CallOk Try.prog f args [] fun r _ => r = .ret v := by
  unfold gHolds at h
  split at h
  · split at h
    · rename_i hr
      cases h
      have hr := readRegs_eq hr
      subst hr
      exact ⟨⟨bd_regs _ _ _ _ _ _, trivial, trivial⟩, trivial, hf _ _ _ _ _ _⟩
    · cases h
  · cases h
end Go.Proofs.Ytolohpkjpgbahaa.isa
end
section
/- Reads and writes of registers, conditions (brazier/sem) as tables' lines. Printed by genreg.py. -/
namespace Go.Proofs.Ytolohpkjpgbahaa.isa
open Go Go.Proofs Go.Proofs.YtolohpkjpgbahaaRL
set_option linter.unusedVariables false
set_option maxRecDepth 100000 in
theorem get_in (x : Nat → Int) (nf zf cf vf : Bool) : ∀ k : Nat, k < 31 → CallOk Try.prog 9 [regs x nf zf cf vf, .raw (.int .i64 (k : Nat))] [] fun r _ => r = .ret (.raw (.int .u64 (x k)))
  | 0, _ => runV_ok noD_ok names mixed (n := 20) (by kernel_rfl)
  | 1, _ => runV_ok noD_ok names mixed (n := 20) (by kernel_rfl)
  | 2, _ => runV_ok noD_ok names mixed (n := 20) (by kernel_rfl)
  | 3, _ => runV_ok noD_ok names mixed (n := 20) (by kernel_rfl)
  | 4, _ => runV_ok noD_ok names mixed (n := 20) (by kernel_rfl)
  | 5, _ => runV_ok noD_ok names mixed (n := 20) (by kernel_rfl)
  | 6, _ => runV_ok noD_ok names mixed (n := 20) (by kernel_rfl)
  | 7, _ => runV_ok noD_ok names mixed (n := 20) (by kernel_rfl)
  | 8, _ => runV_ok noD_ok names mixed (n := 20) (by kernel_rfl)
  | 9, _ => runV_ok noD_ok names mixed (n := 20) (by kernel_rfl)
  | 10, _ => runV_ok noD_ok names mixed (n := 20) (by kernel_rfl)
  | 11, _ => runV_ok noD_ok names mixed (n := 20) (by kernel_rfl)
  | 12, _ => runV_ok noD_ok names mixed (n := 20) (by kernel_rfl)
  | 13, _ => runV_ok noD_ok names mixed (n := 20) (by kernel_rfl)
  | 14, _ => runV_ok noD_ok names mixed (n := 20) (by kernel_rfl)
  | 15, _ => runV_ok noD_ok names mixed (n := 20) (by kernel_rfl)
  | 16, _ => runV_ok noD_ok names mixed (n := 20) (by kernel_rfl)
  | 17, _ => runV_ok noD_ok names mixed (n := 20) (by kernel_rfl)
  | 18, _ => runV_ok noD_ok names mixed (n := 20) (by kernel_rfl)
  | 19, _ => runV_ok noD_ok names mixed (n := 20) (by kernel_rfl)
  | 20, _ => runV_ok noD_ok names mixed (n := 20) (by kernel_rfl)
  | 21, _ => runV_ok noD_ok names mixed (n := 20) (by kernel_rfl)
  | 22, _ => runV_ok noD_ok names mixed (n := 20) (by kernel_rfl)
  | 23, _ => runV_ok noD_ok names mixed (n := 20) (by kernel_rfl)
  | 24, _ => runV_ok noD_ok names mixed (n := 20) (by kernel_rfl)
  | 25, _ => runV_ok noD_ok names mixed (n := 20) (by kernel_rfl)
  | 26, _ => runV_ok noD_ok names mixed (n := 20) (by kernel_rfl)
  | 27, _ => runV_ok noD_ok names mixed (n := 20) (by kernel_rfl)
  | 28, _ => runV_ok noD_ok names mixed (n := 20) (by kernel_rfl)
  | 29, _ => runV_ok noD_ok names mixed (n := 20) (by kernel_rfl)
  | 30, _ => runV_ok noD_ok names mixed (n := 20) (by kernel_rfl)
  | k + 31, h => absurd h (by omega)
set_option maxRecDepth 100000 in
theorem get_ok (x : Nat → Int) (nf zf cf vf : Bool) (n : Int) : CallOk Try.prog 9 [regs x nf zf cf vf, .raw (.int .i64 n)] [] fun r _ => r = .ret (.raw (.int .u64 (getX x n))) := by
  by_cases hn : 0 ≤ n ∧ n < 31
  · have h := get_in x nf zf cf vf n.toNat (by omega)
    rw [Int.toNat_of_nonneg hn.1] at h
    have e : getX x n = x n.toNat := by unfold getX; rw [decide_eq_true hn]
    rw [e]; exact h
  · rcases reg_out hn with rfl | rfl | ⟨k, rfl⟩ | ⟨k, rfl⟩
    all_goals exact runV_ok noD_ok names mixed (n := 20) (by kernel_rfl)
set_option maxRecDepth 100000 in
theorem set_in (x : Nat → Int) (nf zf cf vf : Bool) (v : Int) : ∀ k : Nat, k < 31 → CallOk Try.prog 11 [regs x nf zf cf vf, .raw (.int .i64 (k : Nat)), .raw (.int .u64 v)] [] fun r _ => r = .ret (regs (setX x (k : Nat) v) nf zf cf vf)
  | 0, _ => runV_ok noD_ok names mixed (n := 20) (by kernel_rfl)
  | 1, _ => runV_ok noD_ok names mixed (n := 20) (by kernel_rfl)
  | 2, _ => runV_ok noD_ok names mixed (n := 20) (by kernel_rfl)
  | 3, _ => runV_ok noD_ok names mixed (n := 20) (by kernel_rfl)
  | 4, _ => runV_ok noD_ok names mixed (n := 20) (by kernel_rfl)
  | 5, _ => runV_ok noD_ok names mixed (n := 20) (by kernel_rfl)
  | 6, _ => runV_ok noD_ok names mixed (n := 20) (by kernel_rfl)
  | 7, _ => runV_ok noD_ok names mixed (n := 20) (by kernel_rfl)
  | 8, _ => runV_ok noD_ok names mixed (n := 20) (by kernel_rfl)
  | 9, _ => runV_ok noD_ok names mixed (n := 20) (by kernel_rfl)
  | 10, _ => runV_ok noD_ok names mixed (n := 20) (by kernel_rfl)
  | 11, _ => runV_ok noD_ok names mixed (n := 20) (by kernel_rfl)
  | 12, _ => runV_ok noD_ok names mixed (n := 20) (by kernel_rfl)
  | 13, _ => runV_ok noD_ok names mixed (n := 20) (by kernel_rfl)
  | 14, _ => runV_ok noD_ok names mixed (n := 20) (by kernel_rfl)
  | 15, _ => runV_ok noD_ok names mixed (n := 20) (by kernel_rfl)
  | 16, _ => runV_ok noD_ok names mixed (n := 20) (by kernel_rfl)
  | 17, _ => runV_ok noD_ok names mixed (n := 20) (by kernel_rfl)
  | 18, _ => runV_ok noD_ok names mixed (n := 20) (by kernel_rfl)
  | 19, _ => runV_ok noD_ok names mixed (n := 20) (by kernel_rfl)
  | 20, _ => runV_ok noD_ok names mixed (n := 20) (by kernel_rfl)
  | 21, _ => runV_ok noD_ok names mixed (n := 20) (by kernel_rfl)
  | 22, _ => runV_ok noD_ok names mixed (n := 20) (by kernel_rfl)
  | 23, _ => runV_ok noD_ok names mixed (n := 20) (by kernel_rfl)
  | 24, _ => runV_ok noD_ok names mixed (n := 20) (by kernel_rfl)
  | 25, _ => runV_ok noD_ok names mixed (n := 20) (by kernel_rfl)
  | 26, _ => runV_ok noD_ok names mixed (n := 20) (by kernel_rfl)
  | 27, _ => runV_ok noD_ok names mixed (n := 20) (by kernel_rfl)
  | 28, _ => runV_ok noD_ok names mixed (n := 20) (by kernel_rfl)
  | 29, _ => runV_ok noD_ok names mixed (n := 20) (by kernel_rfl)
  | 30, _ => runV_ok noD_ok names mixed (n := 20) (by kernel_rfl)
  | k + 31, h => absurd h (by omega)
set_option maxRecDepth 100000 in
theorem set_ok (x : Nat → Int) (nf zf cf vf : Bool) (n v : Int) : CallOk Try.prog 11 [regs x nf zf cf vf, .raw (.int .i64 n), .raw (.int .u64 v)] [] fun r _ => r = .ret (regs (setX x n v) nf zf cf vf) := by
  by_cases hn : 0 ≤ n ∧ n < 31
  · have h := set_in x nf zf cf vf v n.toNat (by omega)
    rw [Int.toNat_of_nonneg hn.1] at h
    exact h
  · rcases reg_out hn with rfl | rfl | ⟨k, rfl⟩ | ⟨k, rfl⟩
    all_goals exact runV_ok noD_ok names mixed (n := 20) (by kernel_rfl)
set_option maxRecDepth 100000 in
theorem holds_in (x : Nat → Int) (nf zf cf vf : Bool) : ∀ k : Nat, k < 16 → CallOk Try.prog 13 [regs x nf zf cf vf, .raw (.int .i64 (k : Nat))] [] fun r _ => r = .ret (.raw (.bool (holdsX (k : Nat) nf zf cf vf)))
  | 0, _ => by cases nf <;> cases zf <;> cases cf <;> cases vf <;> exact runV_ok noD_ok names mixed (n := 20) (by kernel_rfl)
  | 1, _ => by cases nf <;> cases zf <;> cases cf <;> cases vf <;> exact runV_ok noD_ok names mixed (n := 20) (by kernel_rfl)
  | 2, _ => by cases nf <;> cases zf <;> cases cf <;> cases vf <;> exact runV_ok noD_ok names mixed (n := 20) (by kernel_rfl)
  | 3, _ => by cases nf <;> cases zf <;> cases cf <;> cases vf <;> exact runV_ok noD_ok names mixed (n := 20) (by kernel_rfl)
  | 4, _ => by cases nf <;> cases zf <;> cases cf <;> cases vf <;> exact runV_ok noD_ok names mixed (n := 20) (by kernel_rfl)
  | 5, _ => by cases nf <;> cases zf <;> cases cf <;> cases vf <;> exact runV_ok noD_ok names mixed (n := 20) (by kernel_rfl)
  | 6, _ => by cases nf <;> cases zf <;> cases cf <;> cases vf <;> exact runV_ok noD_ok names mixed (n := 20) (by kernel_rfl)
  | 7, _ => by cases nf <;> cases zf <;> cases cf <;> cases vf <;> exact runV_ok noD_ok names mixed (n := 20) (by kernel_rfl)
  | 8, _ => by cases nf <;> cases zf <;> cases cf <;> cases vf <;> exact runV_ok noD_ok names mixed (n := 20) (by kernel_rfl)
  | 9, _ => by cases nf <;> cases zf <;> cases cf <;> cases vf <;> exact runV_ok noD_ok names mixed (n := 20) (by kernel_rfl)
  | 10, _ => by cases nf <;> cases zf <;> cases cf <;> cases vf <;> exact runV_ok noD_ok names mixed (n := 20) (by kernel_rfl)
  | 11, _ => by cases nf <;> cases zf <;> cases cf <;> cases vf <;> exact runV_ok noD_ok names mixed (n := 20) (by kernel_rfl)
  | 12, _ => by cases nf <;> cases zf <;> cases cf <;> cases vf <;> exact runV_ok noD_ok names mixed (n := 20) (by kernel_rfl)
  | 13, _ => by cases nf <;> cases zf <;> cases cf <;> cases vf <;> exact runV_ok noD_ok names mixed (n := 20) (by kernel_rfl)
  | 14, _ => by cases nf <;> cases zf <;> cases cf <;> cases vf <;> exact runV_ok noD_ok names mixed (n := 20) (by kernel_rfl)
  | 15, _ => by cases nf <;> cases zf <;> cases cf <;> cases vf <;> exact runV_ok noD_ok names mixed (n := 20) (by kernel_rfl)
  | k + 16, h => absurd h (by omega)
set_option maxRecDepth 100000 in
theorem holds_ok (x : Nat → Int) (nf zf cf vf : Bool) (c : Int) : CallOk Try.prog 13 [regs x nf zf cf vf, .raw (.int .i64 c)] [] fun r _ => r = .ret (.raw (.bool (holdsX c nf zf cf vf))) := by
  by_cases hn : 0 ≤ c ∧ c < 16
  · have h := holds_in x nf zf cf vf c.toNat (by omega)
    rw [Int.toNat_of_nonneg hn.1] at h
    exact h
  · have e : holdsX c nf zf cf vf = false := by unfold holdsX; rw [decide_eq_false hn]
    rw [e]
    rcases cond_out hn with ⟨k, rfl⟩ | ⟨k, rfl⟩
    all_goals cases nf <;> cases zf <;> cases cf <;> cases vf <;> exact runV_ok noD_ok names mixed (n := 20) (by kernel_rfl)
noncomputable def regS (E : Eh) : Eh := specE 9 gGet (specE 11 gSet (specE 13 gHolds E))
theorem regS_ok {E : Eh} (h : EOk Try.prog E) : EOk Try.prog (regS E) := specE_ok (specE_ok (specE_ok h (gHolds_ok holds_ok)) (gSet_ok set_ok)) (gGet_ok get_ok)
end Go.Proofs.Ytolohpkjpgbahaa.isa
end
section
/- sem.Do: the table. -/
set_option linter.unusedVariables false
namespace Go.Proofs.Ytolohpkjpgbahaa.isa
open Go Go.Proofs Go.Proofs.YtolohpkjpgbahaaRL
noncomputable def EDo : Eh := regS (specE 16 chkG noE)
theorem EDo_ok : EOk Try.prog EDo := regS_ok (chkG_ok noE_ok)
abbrev doK {R : Type} (K : V → R) (no : R) : Res → Sto → R := fun r _ => match r with
  | .ret v => K v
  | .pan _ => no
end Go.Proofs.Ytolohpkjpgbahaa.isa
end
